/-
  Two operations that may come up in either order, each shown once. No statement is proved here.
-/
import Derived.Test.YthmhmjdppldmiaaDoorReg2
namespace Go.Proofs.YthmhmjdppldmiaaDoor
open Go.RowKit

section
variable {P : Program} {ops : Array Oper} {Q : Exit → Act → World → Prop} {S : World → Prop} {listed : Array Bool} {a : Act} {w : World} {fuel : Nat}
theorem rgTwo {i j : Nat} {oi oj : Oper} (Gi Gj : Value → World → Prop) (mi : ∀ v w w', Gi v w → Ext w w' → Gi v w') (mj : ∀ v w w', Gj v w → Ext w w' → Gj v w')
    (hr : Region.ready .any ops listed = [i, j]) (hi' : ops.toList[i]? = some oi) (hj' : ops.toList[j]? = some oj)
    (hri : Region.ready .any ops (listed.setIfInBounds i true) = [j]) (hrj : Region.ready .any ops (listed.setIfInBounds j true) = [i])
    (hd : oi.dst ≠ oj.dst) (hij : i ≠ j) (hS : ∀ w', Ext w w' → S w')
    (hsi : ∀ a' w', (a' = a ∨ ∃ v, a' = a.put oj.dst v) → Ext w w' → wpList P ops (Exit.then (fun a'' w'' => ∃ v, a'' = a'.put oi.dst v ∧ Ext w' w'' ∧ Gi v w'') Q) [oi] a' w')
    (hsj : ∀ a' w', (a' = a ∨ ∃ v, a' = a.put oi.dst v) → Ext w w' → wpList P ops (Exit.then (fun a'' w'' => ∃ v, a'' = a'.put oj.dst v ∧ Ext w' w'' ∧ Gj v w'') Q) [oj] a' w')
    (h : ∀ vi vj w', Gi vi w' → Gj vj w' → Ext w w' → wpAnyH P .any ops Q S fuel ((listed.setIfInBounds i true).setIfInBounds j true) ((a.put oi.dst vi).put oj.dst vj) w') :
    wpAnyH P .any ops Q S (fuel + 2) listed a w := by
  have hi : ops[i]? = some oi := by rw [← hi']; simp
  have hj : ops[j]? = some oj := by rw [← hj']; simp
  refine wpAnyH_all hr (by simp) fun k hk => ?_
  rcases List.mem_cons.1 hk with rfl | hk
  · refine wpOp_mono (fun a1 w1 h1 => ?_) (wpOp_of_list hi (hsi a w (Or.inl rfl) (Below.refl _ _)))
    obtain ⟨vi, rfl, hE1, g1⟩ := h1
    refine ⟨hS _ hE1, wpAnyH_all hri (by simp) fun m hm => ?_⟩
    rw [List.mem_singleton] at hm
    subst hm
    refine wpOp_mono (fun a2 w2 h2 => ?_) (wpOp_of_list hj (hsj _ w1 (Or.inr ⟨vi, rfl⟩) hE1))
    obtain ⟨vj, rfl, hE2, g2⟩ := h2
    exact ⟨hS _ (Ext.trans' hE1 hE2), h _ _ _ (mi _ _ _ g1 hE2) g2 (Ext.trans' hE1 hE2)⟩
  · rw [List.mem_singleton] at hk
    subst hk
    refine wpOp_mono (fun a1 w1 h1 => ?_) (wpOp_of_list hj (hsj a w (Or.inl rfl) (Below.refl _ _)))
    obtain ⟨vj, rfl, hE1, g1⟩ := h1
    refine ⟨hS _ hE1, wpAnyH_all hrj (by simp) fun m hm => ?_⟩
    rw [List.mem_singleton] at hm
    subst hm
    refine wpOp_mono (fun a2 w2 h2 => ?_) (wpOp_of_list hi (hsi _ w1 (Or.inr ⟨vj, rfl⟩) hE1))
    obtain ⟨vi, rfl, hE2, g2⟩ := h2
    have hE := Ext.trans' hE1 hE2
    refine ⟨hS _ hE, ?_⟩
    rw [Act.put_comm a _ _ (fun d e1 e2 => hd (e2.trans e1.symm)), Array.setIfInBounds_comm _ _ (Ne.symm hij)]
    exact h _ _ _ g2 (mj _ _ _ g1 hE2) hE
end
end Go.Proofs.YthmhmjdppldmiaaDoor
