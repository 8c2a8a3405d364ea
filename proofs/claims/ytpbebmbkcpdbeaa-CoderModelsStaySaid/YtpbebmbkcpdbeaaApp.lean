/-
  append of one cell onto a row of the call's own, with what is known of the new row's block: it is the old one, or a new one. No statement is proved here.
-/
import Derived.Test.YtpbebmbkcpdbeaaBase
namespace Go.Proofs.Ytpbebmbkcpdbeaa
open Go.RowKit

/-- The block of v' is that of v, or lies at N or behind. -/
def SameOrNew (v v' : Value) (N : Nat) : Prop := v'.ownBlock = v.ownBlock ∨ ∃ g, v'.ownBlock = some g ∧ N ≤ g
section
variable {P : Program} {w w0 : World} {ops : Array Oper} {rest : List Oper} {o : Oper} {a : Act} {Q : Exit → Act → World → Prop}
/-- 'append(v, u)': one element of one cell onto a row of the call's own; the block of the new row. -/
theorem app1B {t e : TypeId} {z : Value} {bytes base n : Nat} {v u : Value} {xs : List Value} (s x : Operand) (T : SlTy P t e z 1 bytes) (hgd : Region.wanted o (yielded ops a.tmps) = true)
    (ho : o.op = .call { callee := .builtin .append, args := #[s, x], argTypes := #[t, t] })
    (hs : a.eval s = v) (hx : a.eval x = .slice (some ⟨w.heap.size, 0, none⟩) 1 1)
    (hown : w.ownsRow base e 1 v n xs) (hb : Below base w0 w) (hbase : base ≤ w0.heap.size) (hu : u.oneCell' = true)
    (hn : n + 1 ≤ 70368744177664) (hby : (n + 1) * bytes ≤ 140737488355328)
    (h : ∀ v' w', w'.ownsRow base e 1 v' (n + 1) (xs ++ [u]) → Below base w0 w' → (w.alloc (.cells #[u] e)).grownBy w' v.ownBlock → SameOrNew v v' w.heap.size → wpList P ops Q rest (a.put o.dst v') w') :
    wpList P ops Q (o :: rest) a (w.alloc (.cells #[u] e)) := by
  obtain ⟨i, hi, hz0, hz1, hz2⟩ := info_parts T.inf
  have hsz : base ≤ (w.alloc (.cells #[u] e)).heap.size := by have := hb.size; simp; omega
  have hown' := hown.alloc (.cells #[u] e)
  have hnews : ∀ j y, [u][j]? = some y → (w.alloc (.cells #[u] e)).cell? ((⟨w.heap.size, 0, none⟩ : Addr).add j) = some y := by
    intro j y hj
    match j, hj with
    | 0, hj => simp at hj; subst hj; simp [Addr.add]
  have h1 : ∀ y ∈ [u], y.oneCell' = true := by intro y hy; simp at hy; subst hy; exact hu
  have hbl : ∀ k, v.ownBlock = some k → base ≤ k := fun k hk => (hown'.lt k hk).1
  have hb' : Below base w0 (w.alloc (.cells #[u] e)) := hb.alloc (by have := hb.size; omega) _
  have hws : w.heap.size ≤ (w.alloc (.cells #[u] e)).heap.size := by simp
  generalize w.heap.size = N at *
  generalize w.alloc (.cells #[u] e) = W at *
  obtain ⟨v', w', hr, h2, h3, _⟩ := run_append_own (P := P) W base t o.type e i z 1 bytes T.und hi hz0 hz1 hz2 T.zs T.pos v n xs hown' ⟨N, 0, none⟩ 1 1 [u] (by simp) hnews h1 (by unfold maxLen; omega) hby hsz
  have hS : SameOrNew v v' N := by
    rcases hown'.2 with ⟨rfl, rfl⟩ | ⟨g, cap, cur, rfl, hbg, hg, hnc, hcm, hcs, htake⟩
    · have hr2 := run_append_nil (P := P) W t o.type e i z T.und hi hz0 ⟨N, 0, none⟩ 1 1 [u] (by simp [hz1]) hnews (by omega) (by omega) (by have hb := hby; simp only [Nat.zero_add] at hb; rw [hz2]; omega)
      rw [hr2] at hr
      injection hr with e1 e2
      subst e1
      exact Or.inr ⟨_, rfl, hws⟩
    · by_cases hroom : n + 1 ≤ cap
      · have hr2 := run_append_room (P := P) W t o.type e i T.und hi g n cap cur hg ⟨N, 0, none⟩ 1 1 [u] (by simp [hz1]) hnews h1 hroom (by rw [hz1, hcs]; simp; omega)
        rw [hr2] at hr
        injection hr with e1 e2
        subst e1
        exact Or.inl rfl
      · have hr2 := run_append_grow (P := P) W t o.type e i z T.und hi hz0 ⟨g, 0, none⟩ n cap xs (by rw [hz1]; exact hown'.1) (hown'.cells (g := g) rfl) ⟨N, 0, none⟩ 1 1 [u] (by simp [hz1]) hnews (by omega) (by omega) (growslice_fits (by omega) (by rw [hz2]; exact hby))
        rw [hr2] at hr
        injection hr with e1 e2
        subst e1
        exact Or.inr ⟨_, rfl, hws⟩
  refine wpList_want hgd fun K hK => ?_
  unfold Oper.wp execOp
  simp only [ho, resolve, invoke, builtin, Sem.run_bind, Sem.run_pure, Result.andThen_ok, List.map_toArray, List.map_cons, List.map_nil, hs, hx, hr]
  exact hK _ _ (h v' w' h2 (hb'.grown h3 hsz hbl) h3 hS)
end
end Go.Proofs.Ytpbebmbkcpdbeaa
