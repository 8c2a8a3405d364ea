/-
 MB: several texts in one. No statement is proved here.
-/
import Derived.Test.YtbpihalphhoiaaaGreatDoorMA
import Derived.LoopN
import Derived.Maps.Own
import Derived.Maps.OwnSet
import Derived.DeepKeys5
import Derived.Lib.AppendZeros
import Derived.Recover
import Derived.Defers
import Derived.RangeFuncIn
import Derived.RangeFuncLeaves
import Derived.LoopNIn
import Derived.RangeFuncRecord
import Derived.RangeFuncSeq
import Derived.RangeFuncStops
import Derived.RangeFuncOwn
import Derived.OrdersIn
import Derived.TacticsIn
import Derived.Lib.Strings
import Derived.Lib.Slices
import Derived.Lib.Small
import Derived.Lib.Walk
import Derived.Lib.BitFns
set_option maxRecDepth 100000
set_option maxHeartbeats 4000000
set_option linter.unusedVariables false
set_option linter.unusedSimpArgs false
namespace Go.Proofs.YtbpihalphhoiaaaGreatDoor
open Go.RowKit
def upd {α : Type} (f : Nat → α) (i : Nat) (x : α) : Nat → α := fun k => if k = i then x else f k
theorem upd_self {α : Type} (f : Nat → α) (i : Nat) : upd f i (f i) = f := by
 funext k; unfold upd; split
 ·rename_i h; rw [h]
 ·rfl
def aoReach (ops : Array Oper) : Nat → Nat → Nat → Bool
 | 0, k, p => waitsFor ops k p
 | f + 1, k, p => waitsFor ops k p || (List.range ops.toList.length).any fun q => waitsFor ops k q && aoReach ops f q p
def aoCheck (ops : Array Oper) (adr : Nat → List Nat) (N : Nat) : Bool :=
 (List.range ops.toList.length).all fun i => ((ops.toList[i]?).map fun o =>
  (o.after.all fun e => !Region.binds .any e || decide (e.on < i)) &&
  (o.dst.map fun d => decide (d < N) && (List.range ops.toList.length).all fun j => j == i || ((ops.toList[j]?).map fun o' => decide (o'.dst ≠ some d)).getD true).getD true &&
  ((adr i).all fun x => x == i || aoReach ops 2 i x)).getD false
def aoOut (ops : Array Oper) (i k : Nat) : Bool := (List.range ops.toList.length).all fun j => ((ops.toList[j]?).map fun o => decide (o.dst ≠ some k) || j == i || waitsFor ops j i).getD true
def aoNo (ops : Array Oper) (k : Nat) : Bool := (List.range ops.toList.length).all fun j => ((ops.toList[j]?).map fun o => decide (o.dst ≠ some k)).getD true
section
variable {P : Program} {ops : Array Oper} {Q : Exit → Act → World → Prop} {w0 : World} {a0 : Act} {N : Nat} {val : Nat → List Nat → Value} {adr : Nat → List Nat} {L : (Nat → Bool) → (Nat → Nat) → List Res}
structure AoKn (ops : Array Oper) (a0 : Act) (N : Nat) (val : Nat → List Nat → Value) (adr : Nat → List Nat) (i : Nat) (g : Nat → Nat) (a : Act) : Prop where
 size : a.tmps.size = N
 defers : a.defers = []
 inn : ∀ j o d, waitsFor ops i j = true → ops.toList[j]? = some o → o.dst = some d → a.tmps.getD d undef = val j ((adr j).map g)
 out : ∀ k, aoOut ops i k = true → a.tmps.getD k undef = a0.tmps.getD k undef
structure AoFin (ops : Array Oper) (a0 : Act) (N : Nat) (val : Nat → List Nat → Value) (adr : Nat → List Nat) (g : Nat → Nat) (a : Act) : Prop where
 size : a.tmps.size = N
 defers : a.defers = []
 inn : ∀ j o d, ops.toList[j]? = some o → o.dst = some d → a.tmps.getD d undef = val j ((adr j).map g)
 out : ∀ k, aoNo ops k = true → a.tmps.getD k undef = a0.tmps.getD k undef
def AoStep (P : Program) (ops : Array Oper) (Q : Exit → Act → World → Prop) (w0 : World) (a0 : Act) (N : Nat) (val : Nat → List Nat → Value) (adr : Nat → List Nat) (L : (Nat → Bool) → (Nat → Nat) → List Res) (i : Nat) (o : Oper) : Prop :=
 ∀ (b : Nat → Bool) (g : Nat → Nat) (a : Act) (w : World), b i = false → (∀ j, aoReach ops 2 i j = true → b j = true) → (∀ j, aoReach ops 2 j i = true → b j = false) → AoKn ops a0 N val adr i g a → Mem w0 w (L b g) →
  wpList P ops (Exit.then (fun a' w' => ∃ γ, a' = a.put o.dst (val i ((adr i).map (upd g i γ))) ∧ Mem w0 w' (L (upd b i true) (upd g i γ))) Q) [o] a w
structure AoSt (ops : Array Oper) (w0 : World) (a0 : Act) (N : Nat) (val : Nat → List Nat → Value) (adr : Nat → List Nat) (L : (Nat → Bool) → (Nat → Nat) → List Res) (listed : Array Bool) (g : Nat → Nat) (a : Act) (w : World) : Prop where
 size : a.tmps.size = N
 defers : a.defers = []
 inn : ∀ i o d, ops.toList[i]? = some o → o.dst = some d → listed.getD i true = true → a.tmps.getD d undef = val i ((adr i).map g)
 out : ∀ k, (∀ i o, ops.toList[i]? = some o → listed.getD i true = true → o.dst ≠ some k) → a.tmps.getD k undef = a0.tmps.getD k undef
 mem : Mem w0 w (L (fun i => listed.getD i true) g)
theorem aoReach_listed {listed : Array Bool} (hcl : ∀ j p, listed.getD j true = true → waitsFor ops j p = true → listed.getD p true = true) : ∀ (f k p : Nat), listed.getD k true = true → aoReach ops f k p = true → listed.getD p true = true
 | 0, k, p, hk, h => hcl k p hk h
 | f + 1, k, p, hk, h => by
  unfold aoReach at h
  rw [Bool.or_eq_true] at h
  rcases h with h | h
  ·exact hcl k p hk h
  ·obtain ⟨q, _, h2⟩ := List.any_eq_true.1 h
   rw [Bool.and_eq_true] at h2
   exact aoReach_listed hcl f q p (hcl k q hk h2.1) h2.2
theorem aoChk {i : Nat} {o : Oper} (h : aoCheck ops adr N = true) (hi : ops.toList[i]? = some o) : (∀ e ∈ o.after, Region.binds .any e = true → e.on < i) ∧ (∀ d, o.dst = some d → d < N ∧ ∀ j o', j ≠ i → ops.toList[j]? = some o' → o'.dst ≠ some d) ∧ (∀ x ∈ adr i, x = i ∨ aoReach ops 2 i x = true) := by
 have hlt := (List.getElem?_eq_some_iff.1 hi).1
 have h1 := List.all_eq_true.1 h i (List.mem_range.2 hlt)
 rw [hi] at h1
 simp only [Option.map_some, Option.getD_some, Bool.and_eq_true] at h1
 obtain ⟨⟨h1, h2⟩, h3⟩ := h1
 refine ⟨fun e he hb => ?_, fun d hd => ?_, ?_⟩
 ·have := Array.all_eq_true'.1 h1 e he
  rw [hb] at this
  simpa using this
 ·rw [hd] at h2
  simp only [Option.map_some, Option.getD_some, Bool.and_eq_true, decide_eq_true_eq] at h2
  refine ⟨h2.1, fun j o' hj ho' => ?_⟩
  have h4 := List.all_eq_true.1 h2.2 j (List.mem_range.2 (List.getElem?_eq_some_iff.1 ho').1)
  rw [ho'] at h4
  simp only [Option.map_some, Option.getD_some, Bool.or_eq_true, beq_iff_eq, decide_eq_true_eq] at h4
  exact h4.resolve_left hj
 ·intro x hx
  have h4 := List.all_eq_true.1 h3 x hx
  rw [Bool.or_eq_true, beq_iff_eq] at h4
  exact h4
theorem ao_go (hchk : aoCheck ops adr N = true) (hstep : ∀ i o, ops.toList[i]? = some o → AoStep P ops Q w0 a0 N val adr L i o)
    (hend : ∀ g a w, AoFin ops a0 N val adr g a → Mem w0 w (L (fun _ => true) g) → Q .normal a w) :
    ∀ (m : Nat) (listed : Array Bool) (g : Nat → Nat) (a : Act) (w : World), ((List.range ops.toList.length).filter fun i => !listed.getD i true).length = m → listed.size = ops.size →
      (∀ j p, listed.getD j true = true → waitsFor ops j p = true → listed.getD p true = true) → AoSt ops w0 a0 N val adr L listed g a w → wpAny P .any ops Q m listed a w := by
  intro m
  induction m with
  | zero =>
    intro listed g a w hm hsz _ hS
    have hall : ∀ i, listed.getD i true = true := fun i => by
      by_cases hi : i < ops.toList.length
      · have := List.length_eq_zero_iff.1 hm
        rw [List.filter_eq_nil_iff] at this
        simpa using this i (List.mem_range.2 hi)
      · have : listed.size ≤ i := by rw [hsz]; simpa using hi
        simp [this]
    refine ⟨?_, hend g a w ⟨hS.size, hS.defers, fun j o d ho hd => hS.inn j o d ho hd (hall j), fun k hk => hS.out k fun i o ho _ => ?_⟩ ?_⟩
    · apply List.eq_nil_iff_forall_not_mem.2
      intro i hi
      have := (mem_ready.1 hi).1
      rw [hall i] at this
      cases this
    · have h1 := List.all_eq_true.1 hk i (List.mem_range.2 (List.getElem?_eq_some_iff.1 ho).1)
      rw [ho] at h1
      simpa using h1
    · have := hS.mem
      rwa [show (fun i => listed.getD i true) = fun _ => true from funext hall] at this
  | succ m ih =>
    intro listed g a w hm hsz hcl hS
    have hun : ∃ i, i < ops.toList.length ∧ listed.getD i true = false := by
      cases hf : (List.range ops.toList.length).filter fun i => !listed.getD i true with
      | nil => rw [hf] at hm; simp at hm
      | cons i r =>
        have : i ∈ (List.range ops.toList.length).filter fun i => !listed.getD i true := by rw [hf]; exact List.mem_cons_self
        rw [List.mem_filter, List.mem_range] at this
        exact ⟨i, this.1, by simpa using this.2⟩
    refine ⟨fun h0 => ?_, fun i hi => ?_⟩
    · exfalso
      have key : ∀ (n i : Nat), i ≤ n → i < ops.toList.length → listed.getD i true = false → False := by
        intro n
        induction n using Nat.strongRecOn with
        | ind n ihn =>
          intro i hin hil hiu
          obtain ⟨o, ho⟩ : ∃ o, ops.toList[i]? = some o := ⟨ops.toList[i], List.getElem?_eq_getElem hil⟩
          have ho' : ops[i]? = some o := by rw [← ho]; simp
          have hr : i ∈ Region.ready .any ops listed := by
            refine mem_ready.2 ⟨hiu, o, ho', fun e he hb => ?_⟩
            have hlt := (aoChk hchk ho).1 e he hb
            have hlt2 : e.on < listed.size := by rw [hsz]; have : ops.toList.length = ops.size := by simp
                                                 omega
            cases hq : listed.getD e.on true with
            | true => simp [hlt2] at hq ⊢; exact hq
            | false => exact (ihn e.on (by omega) e.on (Nat.le_refl _) (by omega) hq).elim
          rw [h0] at hr
          cases hr
      obtain ⟨i, hi, hiu⟩ := hun
      exact key i i (Nat.le_refl _) hi hiu
    · obtain ⟨hiu, o, ho', hall⟩ := mem_ready.1 hi
      have ho : ops.toList[i]? = some o := by rw [← ho']; simp
      have hil : i < ops.toList.length := (List.getElem?_eq_some_iff.1 ho).1
      have hils : i < listed.size := by rw [hsz]; simpa using hil
      have hpre : ∀ j, waitsFor ops i j = true → listed.getD j true = true := fun j hw => waits_ready hi hw
      obtain ⟨hc1, hc2, hc3⟩ := aoChk hchk ho
      have hne : ∀ j, listed.getD j true = true → j ≠ i := fun j hj e => by rw [e, hiu] at hj; cases hj
      have hK : AoKn ops a0 N val adr i g a := ⟨hS.size, hS.defers, fun j o2 d hw ho2 hd => hS.inn j o2 d ho2 hd (hpre j hw), fun k hk => hS.out k fun j o2 ho2 hj => by
        have h1 := List.all_eq_true.1 hk j (List.mem_range.2 (List.getElem?_eq_some_iff.1 ho2).1)
        rw [ho2] at h1
        simp only [Option.map_some, Option.getD_some, Bool.or_eq_true, decide_eq_true_eq, beq_iff_eq] at h1
        rcases h1 with (h1 | h1) | h1
        · exact h1
        · exact (hne j hj h1).elim
        · have := hcl j i hj h1
          rw [hiu] at this
          cases this⟩
      have hpost : ∀ j, aoReach ops 2 j i = true → listed.getD j true = false := fun j hw => by
        cases hj : listed.getD j true with
        | false => rfl
        | true => rw [aoReach_listed hcl 2 j i hj hw] at hiu; cases hiu
      have hpre2 : ∀ j, aoReach ops 2 i j = true → listed.getD j true = true := fun j hw => by
        unfold aoReach at hw
        rw [Bool.or_eq_true] at hw
        rcases hw with hw | hw
        · exact hpre j hw
        · obtain ⟨q, _, h2⟩ := List.any_eq_true.1 hw
          rw [Bool.and_eq_true] at h2
          exact aoReach_listed hcl 1 q j (hpre q h2.1) h2.2
      have h1 := hstep i o ho (fun i => listed.getD i true) g a w hiu hpre2 hpost hK hS.mem
      refine wpOp_mono (fun a' w' h' => ?_) (wpOp_of_list ho' h1)
      obtain ⟨γ, rfl, hM⟩ := h'
      have hb : (fun k => (listed.setIfInBounds i true).getD k true) = upd (fun k => listed.getD k true) i true := by
        funext k
        unfold upd
        by_cases hk : k = i
        · subst hk; simp [hils]
        · rw [if_neg hk, getD_set_ne true (Ne.symm hk)]
      have hcl' : ∀ j p, (listed.setIfInBounds i true).getD j true = true → waitsFor ops j p = true → (listed.setIfInBounds i true).getD p true = true := by
        intro j p hj hw
        by_cases hpi : p = i
        · subst hpi; simp [hils]
        · rw [getD_set_ne true (Ne.symm hpi)]
          by_cases hji : j = i
          · subst hji; exact hpre p hw
          · rw [getD_set_ne true (Ne.symm hji)] at hj; exact hcl j p hj hw
      have hval : ∀ j, j ≠ i → j < ops.toList.length → listed.getD j true = true → (adr j).map (upd g i γ) = (adr j).map g := by
        intro j hji hjl hj
        refine List.map_congr_left fun x hx => ?_
        unfold upd
        rw [if_neg]
        intro e
        obtain ⟨oj, hoj⟩ : ∃ o, ops.toList[j]? = some o := ⟨ops.toList[j], List.getElem?_eq_getElem hjl⟩
        rcases (aoChk hchk hoj).2.2 x hx with h2 | h2
        · exact hji (h2.symm.trans e)
        · have h3 := aoReach_listed hcl 2 j x hj h2
          rw [e, hiu] at h3
          cases h3
      refine ih (listed.setIfInBounds i true) (upd g i γ) _ _ ?_ (by simpa using hsz) hcl' ⟨?_, ?_, ?_, ?_, by rw [hb]; exact hM⟩
      · have hf : ((List.range ops.toList.length).filter fun k => !(listed.setIfInBounds i true).getD k true) = ((List.range ops.toList.length).filter fun k => !listed.getD k true).filter (· != i) := by
          rw [List.filter_filter]
          apply List.filter_congr
          intro k _
          by_cases hk : k = i
          · subst hk; simp [hils]
          · rw [getD_set_ne true (Ne.symm hk)]; simp [hk]
        have hmem : i ∈ (List.range ops.toList.length).filter fun k => !listed.getD k true := List.mem_filter.2 ⟨List.mem_range.2 hil, by rw [hiu]; rfl⟩
        have hnd : ((List.range ops.toList.length).filter fun k => !listed.getD k true).Nodup := List.Pairwise.filter _ List.nodup_range
        rw [hf, ← List.Nodup.erase_eq_filter hnd, List.length_erase_of_mem hmem, hm]
        rfl
      · cases hd : o.dst <;> simp [Act.put, hS.size]
      · cases hd : o.dst <;> simp [Act.put, hS.defers]
      · intro j oj d hoj hd hj
        have hjl := (List.getElem?_eq_some_iff.1 hoj).1
        by_cases hji : j = i
        · subst hji
          obtain rfl : oj = o := Option.some.inj (hoj.symm.trans ho)
          rw [hd, getD_put_same (by rw [hS.size]; exact (hc2 d hd).1)]
        · have hj' : listed.getD j true = true := by rwa [getD_set_ne true (Ne.symm hji)] at hj
          rw [hval j hji hjl hj', ← hS.inn j oj d hoj hd hj']
          cases hd2 : o.dst with
          | none => rfl
          | some d2 =>
            refine getD_put_other fun e => ?_
            subst e
            exact (hc2 d2 hd2).2 j oj hji hoj hd
      · intro k hk
        have h2 : ∀ j oj, ops.toList[j]? = some oj → listed.getD j true = true → oj.dst ≠ some k := fun j oj hoj hj => hk j oj hoj (by rw [getD_set_ne true (Ne.symm (hne j hj))]; exact hj)
        rw [← hS.out k h2]
        cases hd2 : o.dst with
        | none => rfl
        | some d2 =>
          refine getD_put_other fun e => ?_
          subst e
          exact hk i o ho (by simp [hils]) hd2
def AoFrom (P : Program) (ops : Array Oper) (Q : Exit → Act → World → Prop) (w0 : World) (a0 : Act) (N : Nat) (val : Nat → List Nat → Value) (adr : Nat → List Nat) (L : (Nat → Bool) → (Nat → Nat) → List Res) (i : Nat) : Prop :=
 ∀ j o, i ≤ j → ops.toList[j]? = some o → AoStep P ops Q w0 a0 N val adr L j o
theorem aoNext {i : Nat} {o : Oper} (hi : ops.toList[i]? = some o) (h : AoStep P ops Q w0 a0 N val adr L i o) (hr : AoFrom P ops Q w0 a0 N val adr L (i + 1)) : AoFrom P ops Q w0 a0 N val adr L i := by
 intro j oj hj hoj
 by_cases h2 : j = i
 ·subst h2
  obtain rfl : oj = o := Option.some.inj (hoj.symm.trans hi)
  exact h
 ·exact hr j oj (by omega) hoj
theorem aoDone {i : Nat} (hi : ops.toList.length ≤ i) : AoFrom P ops Q w0 a0 N val adr L i := by
 intro j oj hj hoj
 have := (List.getElem?_eq_some_iff.1 hoj).1
 omega
theorem aoAny {X : Nat → Value} {l : List (Nat × Value)} {w : World} {L0 : List Res} (val : Nat → List Nat → Value) (adr : Nat → List Nat) (L : (Nat → Bool) → (Nat → Nat) → List Res) (hm : Mem w0 w L0) 
 (hchk : aoCheck ops adr N = true) (hL : ∀ w', Mem w0 w' L0 → Mem w0 w' (L (fun _ => false) (fun _ => 0)))
 (hLb : ∀ (b : Nat → Bool) g, (∀ i, i < ops.toList.length → b i = false) → L b g = L (fun _ => false) g)
 (hstep : AoFrom P ops Q w0 (lit N X l) N val adr L 0)
 (hend : ∀ g a w, AoFin ops (lit N X l) N val adr g a → Mem w0 w (L (fun _ => true) g) → Q .normal a w) : wpAny P .any ops Q ops.size (Array.replicate ops.size false) (lit N X l) w.drew := by
 have hlen : ops.toList.length = ops.size := by simp
 have hrep : ∀ i, i < ops.toList.length → (Array.replicate ops.size false).getD i true = false := fun i hi => by simp [hlen ▸ hi]
 refine ao_go hchk (fun i o ho => hstep i o (Nat.zero_le _) ho) hend ops.size _ (fun _ => 0) _ _ ?_ (by simp) ?_ ⟨litSize, rfl, ?_, ?_, ?_⟩
 ·rw [List.filter_eq_self.2 (fun i hi => by rw [hrep i (List.mem_range.1 hi)]; rfl)]
  simp
 ·intro j p hj hw
  exfalso
  by_cases hl : j < ops.toList.length
  ·rw [hrep j hl] at hj; cases hj
  ·unfold waitsFor at hw
   rw [List.getElem?_eq_none (by omega)] at hw
   cases hw
 ·intro i o d hi _ hli
  rw [hrep i (List.getElem?_eq_some_iff.1 hi).1] at hli
  cases hli
 ·intro k _
  rfl
 ·rw [hLb _ _ hrep]
  exact hL _ hm.drew
theorem aoStart {id : Nat} {X : Nat → Value} {l : List (Nat × Value)} {w : World} {L0 : List Res} (val : Nat → List Nat → Value) (adr : Nat → List Nat) (L : (Nat → Bool) → (Nat → Nat) → List Res) (hm : Mem w0 w L0) (hmode : P.follows .mixedOrders = true)
 (hchk : aoCheck ops adr N = true) (hL : ∀ w', Mem w0 w' L0 → Mem w0 w' (L (fun _ => false) (fun _ => 0)))
 (hLb : ∀ (b : Nat → Bool) g, (∀ i, i < ops.toList.length → b i = false) → L b g = L (fun _ => false) g)
 (hstep : AoFrom P ops Q w0 (lit N X l) N val adr L 0)
 (hend : ∀ g a w, AoFin ops (lit N X l) N val adr g a → Mem w0 w (L (fun _ => true) g) → Q .normal a w) : (Code.region id ops true).wp P Q (lit N X l) w :=
 wp_region_any hmode (aoAny val adr L hm hchk hL hLb hstep hend)
end
section
variable {P : Program} {ops : Array Oper} {Q : Exit → Act → World → Prop} {w0 : World} {a0 : Act} {N : Nat} {val : Nat → List Nat → Value} {adr : Nat → List Nat} {L : (Nat → Bool) → (Nat → Nat) → List Res} {i : Nat} {o : Oper}
theorem Mem.setNew {w w' : World} {M : List Res} {t : TypeId} {z : List Value} (h : Mem w0 w M) (j : Nat) {r : Res} (_hj : M[j]? = some r) (hA : Arr w' w.heap.size t z) (b : Below w.heap.size w w') : Mem w0 w' (M.set j (.arr w.heap.size t z)) := by
 refine ⟨h.bel.trans (b.mono h.bel.size), fun s hs => ?_, resApart_set h.apart fun k s hk hs => ?_⟩
 ·rcases resMem_set_ne hs with rfl | ⟨k, _, hk⟩
  ·exact ⟨h.bel.size, hA⟩
  ·exact (h.each s (List.mem_of_getElem? hk)).below b
 ·refine Or.inr (Or.inr fun e => ?_)
  have h2 := (h.each s (List.mem_of_getElem? hs)).lt (g := w.heap.size) e.symm
  omega
abbrev Res.free : Res := .row (.slice none 0 0) 0 1 0 []
theorem Mem.pushFree {w : World} {M : List Res} (h : Mem w0 w M) : Mem w0 w (M ++ [.free]) := h.nilRow 0 1
structure AoB (ops : Array Oper) (i : Nat) (b : Nat → Bool) : Prop where
 no : b i = false
 pre : ∀ j, aoReach ops 2 i j = true → b j = true
 post : ∀ j, aoReach ops 2 j i = true → b j = false
theorem aoVal (li : (Nat → Nat) → List (Nat × Value)) (hfr : ∀ g a, AoKn ops a0 N val adr i g a → FrIs a (li g))
 (hw : ∀ g X, Region.wanted o (yielded ops (lit N X (li g)).tmps) = true) (hL : ∀ b g, L (upd b i true) g = L b g)
 (hr : ∀ b g X w, AoB ops i b → Mem w0 w (L b g) → (execOp (lit N X (li g)).eval o).run P w = .ok (.value (val i ((adr i).map g))) w) : AoStep P ops Q w0 a0 N val adr L i o := by
 intro b g a w hb hp hp2 hk hm
 obtain ⟨X, rfl⟩ := frLit (⟨hk.size, hk.defers, hfr g a hk⟩ : Fr a N (li g))
 refine opVal (hw g X) (hr b g X w ⟨hb, hp, hp2⟩ hm) ⟨g i, ?_, ?_⟩
 ·rw [upd_self]
 ·rw [upd_self, hL]; exact hm
theorem aoCall {c : Operand} {args : Array Operand} {argTypes : Array TypeId} (li : (Nat → Nat) → List (Nat × Value)) (hfr : ∀ g a, AoKn ops a0 N val adr i g a → FrIs a (li g)) (f : FuncId) (vals : (Nat → Nat) → List Value) (first caps : List Value)
 (hf : callable P f = true) (hw : ∀ g X, Region.wanted o (yielded ops (lit N X (li g)).tmps) = true) (hL : ∀ b g, L (upd b i true) g = L b g) (ho : o.op = .call { callee := .value c, args, argTypes })
 (hc : ∀ g X, (lit N X (li g)).eval c = .func (.func f) first.toArray caps.toArray) (hargs : ∀ g X, args.toList.map (lit N X (li g)).eval = vals g)
 (hC : ∀ b g w, AoB ops i b → Mem w0 w (L b g) → Calls P f (first ++ vals g ++ caps).toArray w (fun e w' => e = .returned (val i ((adr i).map g)) ∧ Below w.heap.size w w')) : AoStep P ops Q w0 a0 N val adr L i o := by
 intro b g a w hb hp hp2 hk hm
 obtain ⟨X, rfl⟩ := frLit (⟨hk.size, hk.defers, hfr g a hk⟩ : Fr a N (li g))
 refine callOp f (vals g) first caps hf (hw g X) ho (hc g X) (hargs g X) ((hC b g w ⟨hb, hp, hp2⟩ hm).mono ?_)
 rintro e w' ⟨rfl, hB⟩
 refine ⟨_, rfl, ?_⟩
 refine ⟨g i, ?_, ?_⟩
 ·rw [upd_self]
 ·rw [upd_self, hL]; exact hm.below hB
theorem aoNewAg {z : List Value} {ty : TypeId} {n : Nat} (j : Nat) (T : AgTy P ty z.toArray n) (hw : o.guard = none) (ho : o.op = .alloc ty) (hj : ∀ b g, AoB ops i b → ∃ r, (L b g)[j]? = some r) (hL : ∀ b g γ, AoB ops i b → L (upd b i true) (upd g i γ) = (L b g).set j (.arr γ ty z))
 (hv : ∀ γ, val i [γ] = .pointer (some ⟨γ, 0, none⟩)) (ha : adr i = [i]) : AoStep P ops Q w0 a0 N val adr L i o := by
 intro b g a w hb hp hp2 _ hm
 obtain ⟨r, hr⟩ := hj b g ⟨hb, hp, hp2⟩
 refine alArr T (wn hw) ho fun w' hA hB => ?_
 refine ⟨w.heap.size, ?_, ?_⟩
 ·rw [ha]; simp [upd, hv]
 ·rw [hL b g _ ⟨hb, hp, hp2⟩]; exact hm.setNew j hr hA hB
theorem aoLit {t e : TypeId} {z : Value} {size bytes n : Nat} {parts : Array (Nat × Operand)} {cs : (Nat → Nat) → List Value} (j : Nat) (li : (Nat → Nat) → List (Nat × Value)) (hfr : ∀ g a, AoKn ops a0 N val adr i g a → FrIs a (li g)) (T : SlTy P t e z size bytes) (hw : ∀ g X, Region.wanted o (yielded ops (lit N X (li g)).tmps) = true) (ho : o.op = .buildSlice t n parts) (hn : n * size ≤ 65536) (hn0 : ¬ n * size = 0)
 (hf : ∀ g X, Instr.fill (fun i => some (i * size, size)) ((Array.range (n * size)).map (z.cells[· % z.cells.size]!)) (parts.map fun (i, x) => (i, (lit N X (li g)).eval x)).toList = some (cs g).toArray)
 (hj : ∀ b g, AoB ops i b → ∃ r, (L b g)[j]? = some r) (hL : ∀ b g γ, AoB ops i b → L (upd b i true) (upd g i γ) = (L b g).set j (.arr γ e (cs g)))
 (hv : ∀ γ, val i [γ] = .slice (some ⟨γ, 0, none⟩) n n) (ha : adr i = [i]) : AoStep P ops Q w0 a0 N val adr L i o := by
 intro b g a w hb hp hp2 hk hm
 obtain ⟨r, hr⟩ := hj b g ⟨hb, hp, hp2⟩
 obtain ⟨X, rfl⟩ := frLit (⟨hk.size, hk.defers, hfr g a hk⟩ : Fr a N (li g))
 obtain ⟨ti, hti, hz0, hz1, hz2⟩ := info_parts T.inf
 refine wpList_want (hw g X) fun K hK => wp_buildSlice t e n _ ho (cs g).toArray ti z T.und hti hz0 (by rw [hz1]; omega) (by rw [hz1]; exact hn0) (by rw [hz1]; exact hf g X) (hK _ _ ?_)
 refine ⟨w.heap.size, ?_, ?_⟩
 ·rw [ha]; simp [upd, hv]
 ·rw [hL b g _ ⟨hb, hp, hp2⟩]; exact hm.setNew j hr (Arr.new w e (cs g)) ((Below.refl _ _).alloc (Nat.le_refl _) _)
end
section
variable {P : Program} {w : World} {ops : Array Oper} {rest : List Oper} {o : Oper} {a : Act} {Q : Exit → Act → World → Prop}
theorem stMidG {t : TypeId} {g off : Nat} {cur : List Value} {ty : TypeId} {z : Array Value} {n : Nat} (x y : Operand) (cs : List Value) (T : AgTy P ty z n) (hgd : Region.wanted o (yielded ops a.tmps) = true) (ho : o.op = .store ty x y)
 (hx : a.eval x = .pointer (some ⟨g, off, none⟩)) (hy : a.eval y = .agg cs.toArray) (hA : Arr w g t cur) (hl : cs.length = n) (hfit : off + n ≤ cur.length) (h1 : ∀ u ∈ cs, u.oneCell' = true)
 (h : ∀ w', Arr w' g t (spl cur off cs) → w.grownBy w' (some g) → wpList P ops Q rest (a.put o.dst undef) w') : wpList P ops Q (o :: rest) a w := by
 obtain ⟨i, hi, _, hs'⟩ := T.parts
 have hst := run_storeCells_spl (P := P) hA (off := off) cs (by omega) h1
 have hrun : (storeVar ty ⟨g, off, none⟩ (.agg cs.toArray)).run P w = .ok () (w.setRow g (spl cur off cs).toArray) := by
  simp [storeVar, sizeOf, typeInfo, hi, hs', Value.cells, hl, hst]
 refine wpList_want hgd fun K hK => ?_
 unfold Oper.wp execOp
 simp only [ho, hx, hy, Instr.storeAt, Instr.sureAddr, Sem.run_bind, Sem.run_pure, Result.andThen_ok, hrun]
 refine hK _ _ (h _ (hA.setRow _) ⟨rfl, rfl, rfl, by simp [World.setRow], fun k hk hne => ?_⟩)
 unfold World.setRow
 have : g ≠ k := fun e => hne (by rw [e])
 simp [Array.getElem?_modify, this]
end
section
variable {P : Program} {ops : Array Oper} {Q : Exit → Act → World → Prop} {w w0 : World} {a a0 : Act} {N : Nat} {val : Nat → List Nat → Value} {adr : Nat → List Nat} {L : (Nat → Bool) → (Nat → Nat) → List Res} {i : Nat} {o : Oper}
theorem aoStore {x y : Operand} {ty : TypeId} {n k : Nat} {z : Array Value} {gb : (Nat → Nat) → Nat} {cur vs : (Nat → Nat) → List Value} {t : TypeId} (j : Nat) (li : (Nat → Nat) → List (Nat × Value)) (hfr : ∀ g a, AoKn ops a0 N val adr i g a → FrIs a (li g)) (T : AgTy P ty z n) (hj : ∀ b g, AoB ops i b → (L b g)[j]? = some (.arr (gb g) t (cur g)))
 (hw : ∀ g X, Region.wanted o (yielded ops (lit N X (li g)).tmps) = true) (ho : o.op = .store ty x y) (hx : ∀ g X, (lit N X (li g)).eval x = .pointer (some ⟨gb g, k, none⟩)) (hy : ∀ g X, (lit N X (li g)).eval y = .agg (vs g).toArray)
 (hs : ∀ g, (decide (k + n ≤ (cur g).length)) = true) (hl : ∀ g, (vs g).length = n) (h1 : ∀ g, ((vs g).all fun u => u.oneCell') = true) (hL : ∀ b g, AoB ops i b → L (upd b i true) g = (L b g).set j (.arr (gb g) t (spl (cur g) k (vs g)))) (hd : o.dst = none) : AoStep P ops Q w0 a0 N val adr L i o := by
 intro b g a w hb hp hp2 hk hm
 obtain ⟨X, rfl⟩ := frLit (⟨hk.size, hk.defers, hfr g a hk⟩ : Fr a N (li g))
 have hj' := hj b g ⟨hb, hp, hp2⟩
 refine stMidG x y (vs g) T (hw g X) ho (hx g X) (hy g X) (hm.arr j hj') (hl g) (of_decide_eq_true (hs g)) (fun u hu => List.all_eq_true.1 (h1 g) u hu) fun w' hA hG => ⟨g i, ?_, ?_⟩
 ·rw [hd]; rfl
 ·rw [upd_self, hL b g ⟨hb, hp, hp2⟩]; exact hm.set j hj' hA hG
theorem aoStore1 {x y : Operand} {ty : TypeId} {k : Nat} {gb : (Nat → Nat) → Nat} {cur : (Nat → Nat) → List Value} {v v0 : (Nat → Nat) → Value} {t : TypeId} (j : Nat) (li : (Nat → Nat) → List (Nat × Value)) (hfr : ∀ g a, AoKn ops a0 N val adr i g a → FrIs a (li g)) (hsz : (P.info? ty).map (·.size) = some 1) (hj : ∀ b g, AoB ops i b → (L b g)[j]? = some (.arr (gb g) t (cur g)))
 (hw : ∀ g X, Region.wanted o (yielded ops (lit N X (li g)).tmps) = true) (ho : o.op = .store ty x y) (hx : ∀ g X, (lit N X (li g)).eval x = .pointer (some ⟨gb g, k, none⟩)) (hy : ∀ g X, (lit N X (li g)).eval y = v g)
 (hk : ∀ g, (cur g)[k]? = some (v0 g)) (hv : ∀ g, (v g).cells = #[v g]) (h1 : ∀ g, (v g).oneCell' = true) (hL : ∀ b g, AoB ops i b → L (upd b i true) g = (L b g).set j (.arr (gb g) t ((cur g).set k (v g)))) (hd : o.dst = none) : AoStep P ops Q w0 a0 N val adr L i o := by
 intro b g a w hb hp hp2 hkn hm
 obtain ⟨X, rfl⟩ := frLit (⟨hkn.size, hkn.defers, hfr g a hkn⟩ : Fr a N (li g))
 have hj' := hj b g ⟨hb, hp, hp2⟩
 refine stCellG x y hsz (hw g X) ho (hx g X) (hy g X) (hm.arr j hj') (hk g) (hv g) (h1 g) fun w' hA hG => ⟨g i, ?_, ?_⟩
 ·rw [hd]; rfl
 ·rw [upd_self, hL b g ⟨hb, hp, hp2⟩]; exact hm.set j hj' hA hG
def bsel {α : Type} (b : Bool) (x y : α) : α := match b with
 | true => x
 | false => y
theorem bselT {α : Type} {b : Bool} (h : b = true) (x y : α) : bsel b x y = x := by subst h; rfl
theorem bselF {α : Type} {b : Bool} (h : b = false) (x y : α) : bsel b x y = y := by subst h; rfl
def aoV (l : List (List Nat → Value)) (i : Nat) (γ : List Nat) : Value := match l, i with
 | [], _ => undef
 | f :: _, 0 => f γ
 | _ :: l, i + 1 => aoV l i γ
def aoA (l : List (List Nat)) (i : Nat) : List Nat := match l, i with
 | [], _ => []
 | x :: _, 0 => x
 | _ :: l, i + 1 => aoA l i
theorem Mem.perm {M M' : List Res} (h : Mem w0 w M) (p : M.Perm M') : Mem w0 w M' := ⟨h.bel, fun r hr => h.each r (p.mem_iff.2 hr), p.pairwise h.apart (fun h => h.symm)⟩
theorem perm_insertIdx_ {α : Type} (r : α) : ∀ (k : Nat) (M : List α), k ≤ M.length → (M.insertIdx k r).Perm (r :: M)
 | 0, M, _ => by simp
 | k + 1, [], h => by simp at h
 | k + 1, x :: M, h => by
  rw [List.insertIdx_succ_cons]
  exact ((perm_insertIdx_ r k M (by simpa using h)).cons x).trans (List.Perm.swap r x M)
theorem Mem.insAt {M : List Res} {r : Res} (k : Nat) (h : Mem w0 w (M ++ [r])) (hk : k ≤ M.length := by simp) : Mem w0 w (M.insertIdx k r) :=
 h.perm (List.perm_append_comm.trans (perm_insertIdx_ r k M hk).symm)
theorem perm_eraseIdx_ {α : Type} {r : α} : ∀ (j : Nat) (M : List α), M[j]? = some r → (r :: M.eraseIdx j).Perm M
 | 0, [], h => by simp at h
 | j + 1, [], h => by simp at h
 | 0, x :: M, h => by simp at h; subst h; simp
 | j + 1, x :: M, h => by
  rw [List.eraseIdx_cons_succ]
  exact (List.Perm.swap x r _).trans ((perm_eraseIdx_ j M (by simpa using h)).cons x)
theorem Mem.front {M : List Res} {r : Res} (j : Nat) (h : Mem w0 w M) (hj : M[j]? = some r) : Mem w0 w (r :: M.eraseIdx j) := h.perm (perm_eraseIdx_ j M hj).symm
theorem roundsStart {c : Code} (n : Nat) (h : c.wp P (Exit.then (Code.rounds P c Q n) Q) a w) : (Code.loop c).wp P Q a w := wp_loop_rounds (n + 1) h
theorem roundsNext {c : Code} {n : Nat} (h : c.wp P (Exit.then (Code.rounds P c Q n) Q) a w) : Code.rounds P c Q (n + 1) a w := h
end
section
variable {P : Program} {w w0 : World} {ops : Array Oper} {rest : List Oper} {o : Oper} {a : Act} {Q : Exit → Act → World → Prop}
end
section
variable {P : Program} {ops : Array Oper} {Q : Exit → Act → World → Prop} {a : Act} {w w0 : World} {o : Oper} {L : List Res} {i : Nat}
theorem Mem.rowEq {v : Value} {e : TypeId} {size n n' : Nat} {xs xs' : List Value} (j : Nat) (h : Mem w0 w L) (hj : L[j]? = some (.row v e size n xs)) (hn : n = n') (hx : xs = xs') : Mem w0 w (L.set j (.row v e size n' xs')) := by
 subst hn; subst hx
 have : L.set j (.row v e size n xs) = L := by
  obtain ⟨hl, he⟩ := List.getElem?_eq_some_iff.1 hj
  rw [← he]; simp
 rw [this]; exact h
theorem Mem.rowSl {v : Value} {e : TypeId} {size n : Nat} {xs : List Value} (j : Nat) (h : Mem w0 w L) (hj : L[j]? = some (.row v e size n xs)) : ∃ A c, v = .slice A n c := by
 obtain ⟨A, c, e1, _⟩ := Rd.of_own (h.row j hj)
 exact ⟨A, c, e1⟩
end
section
variable {P : Program} {ops : Array Oper} {Q : Exit → Act → World → Prop} {a : Act} {w w0 : World} {o : Oper} {L : List Res} {i : Nat} {rest : List Oper}
end
end Go.Proofs.YtbpihalphhoiaaaGreatDoor
namespace Go.Proofs.YtbpihalphhoiaaaGreatDoor
open Go.RowKit
open Go.Maps (Keyed)
open Go.WideElems (Fit rd rg pl rd_key rd_val rg_of)
open Go.ChangeMaps (putKey notKey setBlock mem_insert_iff)
open Classical in
noncomputable def updF (F : Value → Option Value) (key v : Value) : Value → Option Value := fun k => if k = key then some v else F k
theorem updF_self {F : Value → Option Value} {key v : Value} : updF F key v key = some v := by unfold updF; rw [if_pos rfl]
theorem updF_other {F : Value → Option Value} {key v k : Value} (h : k ≠ key) : updF F key v k = F k := by unfold updF; rw [if_neg h]
section
variable {P : Program} {k e t : TypeId} {g n : Nat} {F : Value → Option Value} {w : World}
end
section
variable {P : Program} {ops : Array Oper} {Q : Exit → Act → World → Prop} {a : Act} {w w0 : World} {o : Oper} {L : List Res} {i : Nat} {k e t : TypeId} {g n : Nat} {F : Value → Option Value} {rest : List Oper}
variable {fuel : Nat} {listed : Array Bool} {M : List Res}
end
end Go.Proofs.YtbpihalphhoiaaaGreatDoor
namespace Go.Proofs.YtbpihalphhoiaaaGreatDoor
open Go.RowKit
section
variable {P : Program} {ops : Array Oper} {Q : Exit → Act → World → Prop} {a : Act} {w w0 : World} {o : Oper} {L : List Res} {i : Nat} {fuel : Nat} {listed : Array Bool}
end
section
variable {P : Program} {ops : Array Oper} {Q : Exit → Act → World → Prop} {a : Act} {w w0 : World} {o : Oper} {L M : List Res} {i c fuel : Nat} {listed : Array Bool}
structure MGL (P : Program) (ops : Array Oper) (Q : Exit → Act → World → Prop) (w0 : World) (M : List Res) (c fuel : Nat) (listed : Array Bool) (a : Act) (w : World) : Prop where
 out : wpAnyL P ops Q (fun w' => Mem w0 w' M) c fuel listed a w
theorem glStart {id : Nat} (c : Nat) (M : List Res) (hm : Mem w0 w L) (hmode : P.follows .mixedOrders = true) (h : ∀ w', Mem w0 w' L → MGL P ops Q w0 M c ops.size (Array.replicate ops.size false) a w') : (Code.region id ops true).wp P Q a w :=
 lgStart _ c hmode (h _ hm.drew).out
theorem glTake {v : Value} (hi : ops.toList[i]? = some o) (hf : (mayFirst ops listed i && (List.range c).contains i && reachD ops (List.range c) 8 c i && closedD ops (List.range c) listed && !(i == c) && !listed.getD c true) = true) (hw : Region.wanted o (yielded ops a.tmps) = true)
 (hQ : ∀ c a w, Q (.panic c) (a.put o.dst v) w → Q (.panic c) a w) (hm : Mem w0 w M) (hy : ∀ w, Mem w0 w M → (execOp a.eval o).run P w = .ok (.value v) w)
 (h : MGL P ops Q w0 M c fuel (listed.setIfInBounds i true) (a.put o.dst v) w) : MGL P ops Q w0 M c (fuel + 1) listed a w :=
 ⟨lgTake _ hi hf hw hQ hy hm h.out⟩
theorem glCall {x : Operand} {args : Array Operand} {argTypes : Array TypeId} {R : Ending → World → Prop} (f : FuncId) (vals first caps : List Value) (hr : Region.ready .any ops listed = [i])
 (hi : ops.toList[i]? = some o) (hf : callable P f = true) (hw : Region.wanted o (yielded ops a.tmps) = true) (ho : o.op = .call { callee := .value x, args, argTypes }) (hc : a.eval x = .func (.func f) first.toArray caps.toArray) (hargs : args.toList.map a.eval = vals)
 (hC : Calls P f (first ++ vals ++ caps).toArray w R) (h : ∀ e w', R e w' → ∃ v, e = .returned v ∧ Mem w0 w' M ∧ MGL P ops Q w0 M c fuel (listed.setIfInBounds i true) (a.put o.dst v) w') : MGL P ops Q w0 M c (fuel + 1) listed a w :=
 ⟨lgNextS hr hi (callOp f vals first caps hf hw ho hc hargs (hC.mono fun e w' he => by
  obtain ⟨v, h1, h2, h3⟩ := h e w' he
  exact ⟨v, h1, h2, h3.out⟩))⟩
theorem glStore1 {x y : Operand} {ty : TypeId} {g k : Nat} {cur : List Value} {v v0 : Value} {t : TypeId} (j : Nat) (hsz : (P.info? ty).map (·.size) = some 1) (hm : Mem w0 w L) (hj : L[j]? = some (.arr g t cur)) (hr : Region.ready .any ops listed = [i]) (hi : ops.toList[i]? = some o) (hc : (listed.setIfInBounds i true).getD c true = true) (hw : Region.wanted o (yielded ops a.tmps) = true) (ho : o.op = .store ty x y)
 (hx : a.eval x = .pointer (some ⟨g, k, none⟩)) (hy : a.eval y = v) (hk : cur[k]? = some v0) (hv : v.cells = #[v]) (h1 : v.oneCell' = true)
 (h : ∀ w', Mem w0 w' (L.set j (.arr g t (cur.set k v))) → MGL P ops Q w0 M c fuel (listed.setIfInBounds i true) (a.put o.dst undef) w') : MGL P ops Q w0 M c (fuel + 1) listed a w :=
 ⟨lgNext hr hi hc (stCellG x y hsz hw ho hx hy (hm.arr j hj) hk hv h1 fun w' hA hg => (h w' (hm.set j hj hA hg)).out)⟩
theorem glDone (hr : Region.ready .any ops listed = []) (h : Q .normal a w) : MGL P ops Q w0 M c fuel listed a w := ⟨lgDone hr h⟩
theorem mgStartM {id : Nat} (M : List Res) (hm : Mem w0 w L) (hmode : P.follows .mixedOrders = true) (h : ∀ w', Mem w0 w' L → MG P ops Q w0 M ops.size (Array.replicate ops.size false) a w') : (Code.region id ops true).wp P Q a w :=
 rgStart _ hmode (h _ hm.drew).out
variable {N : Nat} {X : Nat → Value} {l : List (Nat × Value)}
theorem glNone {v : Value} {dst : Option Tmp} (hd : dst = none) (h : MGL P ops Q w0 M c fuel listed (lit N X l) w) : MGL P ops Q w0 M c fuel listed ((lit N X l).put dst v) w := by
 rw [hd]; exact h
theorem glP {d : Nat} {v : Value} {dst : Option Tmp} (hd : dst = some d) (h : MGL P ops Q w0 M c fuel listed (lit N X ((d, v) :: l)) w) (hN : (decide (d < N)) = true := by decide) : MGL P ops Q w0 M c fuel listed ((lit N X l).put dst v) w := by
 rw [hd, lit_put (of_decide_eq_true hN)]; exact h
theorem glk {v : Value} {d : Nat} (hi : ops.toList[i]? = some o) (hg : o.guard = none) (hQ : ∀ c a w, Q (.panic c) (a.put o.dst v) w → Q (.panic c) a w) (hm : Mem w0 w M) (hd : o.dst = some d)
 (h : MGL P ops Q w0 M c fuel (listed.setIfInBounds i true) (lit N X ((d, v) :: l)) w) (hf : (mayFirst ops listed i && (List.range c).contains i && reachD ops (List.range c) 8 c i && closedD ops (List.range c) listed && !(i == c) && !listed.getD c true) = true := by kernel_rfl) (hr : ∀ w, (execOp (litEval N X l) o).run P w = .ok (.value v) w := by intro _; kernel_rfl) (hN : (decide (d < N)) = true := by decide) : MGL P ops Q w0 M c (fuel + 1) listed (lit N X l) w :=
 glTake hi hf (wn hg) hQ hm (fun w _ => litRun (hr w)) (glP hd h hN)
end
section
variable {w w0 : World} {L : List Res} {g : Nat}
end
section
variable {P : Program} {ops : Array Oper} {Q : Exit → Act → World → Prop} {a : Act} {w w0 : World} {o : Oper} {L M : List Res} {i c fuel : Nat} {listed : Array Bool}
end
namespace LD
def lit (ds : List Deferred) (N : Nat) (X : Nat → Value) (l : List (Nat × Value)) : Act := { tmps := ((List.range N).map fun i => slotOf l i (X i)).toArray, defers := ds }
section
variable {ds : List Deferred} {N : Nat} {X : Nat → Value} {l : List (Nat × Value)} {P : Program} {w w0 : World} {o : Oper} {ops : Array Oper} {Q : Exit → Act → World → Prop} {i : Nat}
theorem lit_get? (k : Nat) : (lit ds N X l).tmps[k]? = if k < N then some (slotOf l k (X k)) else none := by
 unfold lit
 simp only [List.getElem?_toArray, List.getElem?_map]
 by_cases h : k < N
 ·rw [List.getElem?_range h, if_pos h]; rfl
 ·rw [List.getElem?_eq_none (by simp; omega), if_neg h]; rfl
theorem lit_getD (k : Nat) : (lit ds N X l).tmps.getD k undef = if k < N then slotOf l k (X k) else undef := by
 rw [Array.getD_eq_getD_getElem?, lit_get?]
 split <;> rfl
theorem lit_eval : (lit ds N X l).eval = litEval N X l := by
 funext x
 cases x with
 | tmp k => exact lit_getD k
 | _ => rfl
theorem lit_put {d : Nat} {v : Value} (_h : d < N) : (lit ds N X l).put (some d) v = lit ds N X ((d, v) :: l) := by
 unfold Act.put lit
 simp only
 congr 1
 apply Array.ext
 ·simp
 ·intro k h1 h2
  simp only [Array.size_setIfInBounds, List.size_toArray, List.length_map, List.length_range] at h1
  by_cases hk : d = k
  ·subst hk
   simp [slotOf]
  ·simp [hk, slotOf]
theorem litEv {x : Operand} {v : Value} (h : litEval N X l x = v) : (lit ds N X l).eval x = v := by rw [lit_eval]; exact h
theorem litRun {r : Result Next} (h : (execOp (litEval N X l) o).run P w = r) : (execOp (lit ds N X l).eval o).run P w = r := by rw [lit_eval]; exact h
theorem litArgs {args : List Operand} {vals : List Value} (h : args.map (litEval N X l) = vals) : args.map (lit ds N X l).eval = vals := by rw [lit_eval]; exact h
theorem litGet {k : Nat} {v : Value} (h : litEval N X l (.tmp k) = v) : (lit ds N X l).tmps.getD k undef = v := litEv h
theorem wgY {j dj : Nat} {b : Bool} {oj : Oper} (hg : o.guard = some (j, b)) (hj : ops.toList[j]? = some oj) (hd : oj.dst = some dj) (hN : (decide (dj < N)) = true) (hv : litEval N X l (.tmp dj) = .bool b) : Region.wanted o (yielded ops (lit ds N X l).tmps) = true := by
 have hj' : ops[j]? = some oj := by rw [← hj]; simp
 have hN' := of_decide_eq_true hN
 have hs : (lit ds N X l).tmps[dj]? = some (.bool b) := by
  rw [lit_get?, if_pos hN']
  have : litEval N X l (.tmp dj) = slotOf l dj (X dj) := if_pos hN'
  rw [← this, hv]
 simp [Region.wanted, hg, yielded, hj', hd, hs]
theorem wgN {j dj : Nat} {b : Bool} {oj : Oper} (hg : o.guard = some (j, b)) (hj : ops.toList[j]? = some oj) (hd : oj.dst = some dj) (hN : (decide (dj < N)) = true) (hv : litEval N X l (.tmp dj) = .bool !b) : Region.wanted o (yielded ops (lit ds N X l).tmps) = false := by
 have hj' : ops[j]? = some oj := by rw [← hj]; simp
 have hN' := of_decide_eq_true hN
 have hs : (lit ds N X l).tmps[dj]? = some (.bool !b) := by
  rw [lit_get?, if_pos hN']
  have : litEval N X l (.tmp dj) = slotOf l dj (X dj) := if_pos hN'
  rw [← this, hv]
 simp [Region.wanted, hg, yielded, hj', hd, hs]
theorem wgU {j dj : Nat} {b : Bool} {oj : Oper} (hg : o.guard = some (j, b)) (hj : ops.toList[j]? = some oj) (hd : oj.dst = some dj) (hN : (decide (dj < N)) = true) (hv : litEval N X l (.tmp dj) = undef) : Region.wanted o (yielded ops (lit ds N X l).tmps) = false := by
 have hj' : ops[j]? = some oj := by rw [← hj]; simp
 have hN' := of_decide_eq_true hN
 have hs : (lit ds N X l).tmps[dj]? = some undef := by
  rw [lit_get?, if_pos hN']
  have : litEval N X l (.tmp dj) = slotOf l dj (X dj) := if_pos hN'
  rw [← this, hv]
 simp [Region.wanted, hg, yielded, hj', hd, hs, undef]
theorem qPut {d : Nat} {v : Value} {dst : Option Tmp} (hd : dst = some d) (hN : (decide (d < N)) = true) (h : PL P ops Q i (lit ds N X ((d, v) :: l)) w) : PL P ops Q i ((lit ds N X l).put dst v) w := by
 rw [hd, lit_put (of_decide_eq_true hN)]; exact h
theorem qNone {v : Value} {dst : Option Tmp} (hd : dst = none) (h : PL P ops Q i (lit ds N X l) w) : PL P ops Q i ((lit ds N X l).put dst v) w := by
 rw [hd]; exact h
theorem mPut {L : List Res} {fuel : Nat} {listed : Array Bool} {d : Nat} {v : Value} {dst : Option Tmp} (hd : dst = some d) (hN : (decide (d < N)) = true) (h : MG P ops Q w0 L fuel listed (lit ds N X ((d, v) :: l)) w) : MG P ops Q w0 L fuel listed ((lit ds N X l).put dst v) w := by
 rw [hd, lit_put (of_decide_eq_true hN)]; exact h
theorem mNone {L : List Res} {fuel : Nat} {listed : Array Bool} {v : Value} {dst : Option Tmp} (hd : dst = none) (h : MG P ops Q w0 L fuel listed (lit ds N X l) w) : MG P ops Q w0 L fuel listed ((lit ds N X l).put dst v) w := by
 rw [hd]; exact h
theorem litStart {c : Code} {a : Act} (N : Nat) (l : List (Nat × Value)) (h : a = lit ds N (fun _ => undef) l) (k : ∀ X, c.wp P Q (lit ds N X l) w) : c.wp P Q a w := by
 rw [h]; exact k _
theorem litSize : (lit ds N X l).tmps.size = N := by simp [lit]
theorem litVal {v : Value} {d : Nat} (hi : ops.toList[i]? = some o) (hw : Region.wanted o (yielded ops (lit ds N X l).tmps) = true) (hr : (execOp (lit ds N X l).eval o).run P w = .ok (.value v) w) (hd : o.dst = some d) (hN : (decide (d < N)) = true) (h : PL P ops Q (i + 1) (lit ds N X ((d, v) :: l)) w) : PL P ops Q i (lit ds N X l) w :=
 plVal hi hw hr (qPut hd hN h)
theorem lk {v : Value} {d : Nat} (hi : ops.toList[i]? = some o) (hg : o.guard = none) (hd : o.dst = some d) (h : PL P ops Q (i + 1) (lit ds N X ((d, v) :: l)) w) (hr : (execOp (litEval N X l) o).run P w = .ok (.value v) w := by kernel_rfl) (hN : (decide (d < N)) = true := by decide) : PL P ops Q i (lit ds N X l) w :=
 litVal hi (wn hg) (litRun hr) hd hN h
theorem mk_ {L : List Res} {fuel : Nat} {listed : Array Bool} {v : Value} {d : Nat} (hi : ops.toList[i]? = some o) (hg : o.guard = none) (hQ : ∀ c a w, Q (.panic c) (a.put o.dst v) w → Q (.panic c) a w) (hm : Mem w0 w L) (hd : o.dst = some d)
 (h : MG P ops Q w0 L fuel (listed.setIfInBounds i true) (lit ds N X ((d, v) :: l)) w) (hf : mayFirst ops listed i = true := by kernel_rfl) (hr : ∀ w, (execOp (litEval N X l) o).run P w = .ok (.value v) w := by intro _; kernel_rfl) (hN : (decide (d < N)) = true := by decide) : MG P ops Q w0 L (fuel + 1) listed (lit ds N X l) w :=
 mgTake hi hf (wn hg) hQ hm (fun w _ => litRun (hr w)) (mPut hd hN h)
theorem plD {a : Act} (h : Q .normal a w) (hi : ops.toList.length ≤ i := by decide) : PL P ops Q i a w := plDone hi h
theorem qP {d : Nat} {v : Value} {dst : Option Tmp} (hd : dst = some d) (h : PL P ops Q i (lit ds N X ((d, v) :: l)) w) (hN : (decide (d < N)) = true := by decide) : PL P ops Q i ((lit ds N X l).put dst v) w := qPut hd hN h
theorem mP {L : List Res} {fuel : Nat} {listed : Array Bool} {d : Nat} {v : Value} {dst : Option Tmp} (hd : dst = some d) (h : MG P ops Q w0 L fuel listed (lit ds N X ((d, v) :: l)) w) (hN : (decide (d < N)) = true := by decide) : MG P ops Q w0 L fuel listed ((lit ds N X l).put dst v) w := mPut hd hN h
end
section
variable {P : Program} {ops : Array Oper} {Q : Exit → Act → World → Prop} {a : Act} {w w0 : World} {o : Oper} {L M : List Res} {i c fuel : Nat} {listed : Array Bool} {ds : List Deferred} {N : Nat} {X : Nat → Value} {l : List (Nat × Value)}
theorem glNone {v : Value} {dst : Option Tmp} (hd : dst = none) (h : MGL P ops Q w0 M c fuel listed (lit ds N X l) w) : MGL P ops Q w0 M c fuel listed ((lit ds N X l).put dst v) w := by
 rw [hd]; exact h
theorem glP {d : Nat} {v : Value} {dst : Option Tmp} (hd : dst = some d) (h : MGL P ops Q w0 M c fuel listed (lit ds N X ((d, v) :: l)) w) (hN : (decide (d < N)) = true := by decide) : MGL P ops Q w0 M c fuel listed ((lit ds N X l).put dst v) w := by
 rw [hd, lit_put (of_decide_eq_true hN)]; exact h
theorem glk {v : Value} {d : Nat} (hi : ops.toList[i]? = some o) (hg : o.guard = none) (hQ : ∀ c a w, Q (.panic c) (a.put o.dst v) w → Q (.panic c) a w) (hm : Mem w0 w M) (hd : o.dst = some d)
 (h : MGL P ops Q w0 M c fuel (listed.setIfInBounds i true) (lit ds N X ((d, v) :: l)) w) (hf : (mayFirst ops listed i && (List.range c).contains i && reachD ops (List.range c) 8 c i && closedD ops (List.range c) listed && !(i == c) && !listed.getD c true) = true := by kernel_rfl) (hr : ∀ w, (execOp (litEval N X l) o).run P w = .ok (.value v) w := by intro _; kernel_rfl) (hN : (decide (d < N)) = true := by decide) : MGL P ops Q w0 M c (fuel + 1) listed (lit ds N X l) w :=
 glTake hi hf (wn hg) hQ hm (fun w _ => litRun (hr w)) (glP hd h hN)
end
structure Fr {ds : List Deferred} (a : Act) (N : Nat) (l : List (Nat × Value)) : Prop where
 size : a.tmps.size = N
 defers : a.defers = ds
 known : FrIs a l
theorem frIs_nil {a : Act} : ∀ {l : List (Nat × Value)}, FrIs a l → FrIs { a with defers := [] } l
 | [], _ => trivial
 | _ :: _, h => ⟨h.1, frIs_nil h.2⟩
theorem frLit {ds : List Deferred} {a : Act} {N : Nat} {l : List (Nat × Value)} (h : Fr (ds := ds) a N l) : ∃ X : Nat → Value, a = lit ds N X l := by
 obtain ⟨X, e⟩ := _root_.Go.Proofs.YtbpihalphhoiaaaGreatDoor.Fr.lit (⟨h.size, rfl, frIs_nil h.known⟩ : _root_.Go.Proofs.YtbpihalphhoiaaaGreatDoor.Fr { a with defers := [] } N l)
 refine ⟨X, ?_⟩
 obtain ⟨tmps, defers⟩ := a
 have hd : defers = ds := h.defers
 have ht : tmps = _ := congrArg Act.tmps e
 subst hd
 rw [ht]
 rfl
section
variable {P : Program} {ops : Array Oper} {Q : Exit → Act → World → Prop} {w0 : World} {a0 : Act} {N : Nat} {val : Nat → List Nat → Value} {adr : Nat → List Nat} {L : (Nat → Bool) → (Nat → Nat) → List Res} {i : Nat} {o : Oper} {ds : List Deferred}
structure AoKn (ds : List Deferred) (ops : Array Oper) (a0 : Act) (N : Nat) (val : Nat → List Nat → Value) (adr : Nat → List Nat) (i : Nat) (g : Nat → Nat) (a : Act) : Prop where
 size : a.tmps.size = N
 defers : a.defers = ds
 inn : ∀ j o d, waitsFor ops i j = true → ops.toList[j]? = some o → o.dst = some d → a.tmps.getD d undef = val j ((adr j).map g)
 out : ∀ k, aoOut ops i k = true → a.tmps.getD k undef = a0.tmps.getD k undef
structure AoFin (ds : List Deferred) (ops : Array Oper) (a0 : Act) (N : Nat) (val : Nat → List Nat → Value) (adr : Nat → List Nat) (g : Nat → Nat) (a : Act) : Prop where
 size : a.tmps.size = N
 defers : a.defers = ds
 inn : ∀ j o d, ops.toList[j]? = some o → o.dst = some d → a.tmps.getD d undef = val j ((adr j).map g)
 out : ∀ k, aoNo ops k = true → a.tmps.getD k undef = a0.tmps.getD k undef
def AoStep (ds : List Deferred) (P : Program) (ops : Array Oper) (Q : Exit → Act → World → Prop) (w0 : World) (a0 : Act) (N : Nat) (val : Nat → List Nat → Value) (adr : Nat → List Nat) (L : (Nat → Bool) → (Nat → Nat) → List Res) (i : Nat) (o : Oper) : Prop :=
 ∀ (b : Nat → Bool) (g : Nat → Nat) (a : Act) (w : World), b i = false → (∀ j, aoReach ops 2 i j = true → b j = true) → (∀ j, aoReach ops 2 j i = true → b j = false) → AoKn ds ops a0 N val adr i g a → Mem w0 w (L b g) →
  wpList P ops (Exit.then (fun a' w' => ∃ γ, a' = a.put o.dst (val i ((adr i).map (upd g i γ))) ∧ Mem w0 w' (L (upd b i true) (upd g i γ))) Q) [o] a w
structure AoSt (ds : List Deferred) (ops : Array Oper) (w0 : World) (a0 : Act) (N : Nat) (val : Nat → List Nat → Value) (adr : Nat → List Nat) (L : (Nat → Bool) → (Nat → Nat) → List Res) (listed : Array Bool) (g : Nat → Nat) (a : Act) (w : World) : Prop where
 size : a.tmps.size = N
 defers : a.defers = ds
 inn : ∀ i o d, ops.toList[i]? = some o → o.dst = some d → listed.getD i true = true → a.tmps.getD d undef = val i ((adr i).map g)
 out : ∀ k, (∀ i o, ops.toList[i]? = some o → listed.getD i true = true → o.dst ≠ some k) → a.tmps.getD k undef = a0.tmps.getD k undef
 mem : Mem w0 w (L (fun i => listed.getD i true) g)
theorem ao_go (hchk : aoCheck ops adr N = true) (hstep : ∀ i o, ops.toList[i]? = some o → AoStep ds P ops Q w0 a0 N val adr L i o)
    (hend : ∀ g a w, AoFin ds ops a0 N val adr g a → Mem w0 w (L (fun _ => true) g) → Q .normal a w) :
    ∀ (m : Nat) (listed : Array Bool) (g : Nat → Nat) (a : Act) (w : World), ((List.range ops.toList.length).filter fun i => !listed.getD i true).length = m → listed.size = ops.size →
      (∀ j p, listed.getD j true = true → waitsFor ops j p = true → listed.getD p true = true) → AoSt ds ops w0 a0 N val adr L listed g a w → wpAny P .any ops Q m listed a w := by
  intro m
  induction m with
  | zero =>
    intro listed g a w hm hsz _ hS
    have hall : ∀ i, listed.getD i true = true := fun i => by
      by_cases hi : i < ops.toList.length
      · have := List.length_eq_zero_iff.1 hm
        rw [List.filter_eq_nil_iff] at this
        simpa using this i (List.mem_range.2 hi)
      · have : listed.size ≤ i := by rw [hsz]; simpa using hi
        simp [this]
    refine ⟨?_, hend g a w ⟨hS.size, hS.defers, fun j o d ho hd => hS.inn j o d ho hd (hall j), fun k hk => hS.out k fun i o ho _ => ?_⟩ ?_⟩
    · apply List.eq_nil_iff_forall_not_mem.2
      intro i hi
      have := (mem_ready.1 hi).1
      rw [hall i] at this
      cases this
    · have h1 := List.all_eq_true.1 hk i (List.mem_range.2 (List.getElem?_eq_some_iff.1 ho).1)
      rw [ho] at h1
      simpa using h1
    · have := hS.mem
      rwa [show (fun i => listed.getD i true) = fun _ => true from funext hall] at this
  | succ m ih =>
    intro listed g a w hm hsz hcl hS
    have hun : ∃ i, i < ops.toList.length ∧ listed.getD i true = false := by
      cases hf : (List.range ops.toList.length).filter fun i => !listed.getD i true with
      | nil => rw [hf] at hm; simp at hm
      | cons i r =>
        have : i ∈ (List.range ops.toList.length).filter fun i => !listed.getD i true := by rw [hf]; exact List.mem_cons_self
        rw [List.mem_filter, List.mem_range] at this
        exact ⟨i, this.1, by simpa using this.2⟩
    refine ⟨fun h0 => ?_, fun i hi => ?_⟩
    · exfalso
      have key : ∀ (n i : Nat), i ≤ n → i < ops.toList.length → listed.getD i true = false → False := by
        intro n
        induction n using Nat.strongRecOn with
        | ind n ihn =>
          intro i hin hil hiu
          obtain ⟨o, ho⟩ : ∃ o, ops.toList[i]? = some o := ⟨ops.toList[i], List.getElem?_eq_getElem hil⟩
          have ho' : ops[i]? = some o := by rw [← ho]; simp
          have hr : i ∈ Region.ready .any ops listed := by
            refine mem_ready.2 ⟨hiu, o, ho', fun e he hb => ?_⟩
            have hlt := (aoChk hchk ho).1 e he hb
            have hlt2 : e.on < listed.size := by rw [hsz]; have : ops.toList.length = ops.size := by simp
                                                 omega
            cases hq : listed.getD e.on true with
            | true => simp [hlt2] at hq ⊢; exact hq
            | false => exact (ihn e.on (by omega) e.on (Nat.le_refl _) (by omega) hq).elim
          rw [h0] at hr
          cases hr
      obtain ⟨i, hi, hiu⟩ := hun
      exact key i i (Nat.le_refl _) hi hiu
    · obtain ⟨hiu, o, ho', hall⟩ := mem_ready.1 hi
      have ho : ops.toList[i]? = some o := by rw [← ho']; simp
      have hil : i < ops.toList.length := (List.getElem?_eq_some_iff.1 ho).1
      have hils : i < listed.size := by rw [hsz]; simpa using hil
      have hpre : ∀ j, waitsFor ops i j = true → listed.getD j true = true := fun j hw => waits_ready hi hw
      obtain ⟨hc1, hc2, hc3⟩ := aoChk hchk ho
      have hne : ∀ j, listed.getD j true = true → j ≠ i := fun j hj e => by rw [e, hiu] at hj; cases hj
      have hK : AoKn ds ops a0 N val adr i g a := ⟨hS.size, hS.defers, fun j o2 d hw ho2 hd => hS.inn j o2 d ho2 hd (hpre j hw), fun k hk => hS.out k fun j o2 ho2 hj => by
        have h1 := List.all_eq_true.1 hk j (List.mem_range.2 (List.getElem?_eq_some_iff.1 ho2).1)
        rw [ho2] at h1
        simp only [Option.map_some, Option.getD_some, Bool.or_eq_true, decide_eq_true_eq, beq_iff_eq] at h1
        rcases h1 with (h1 | h1) | h1
        · exact h1
        · exact (hne j hj h1).elim
        · have := hcl j i hj h1
          rw [hiu] at this
          cases this⟩
      have hpost : ∀ j, aoReach ops 2 j i = true → listed.getD j true = false := fun j hw => by
        cases hj : listed.getD j true with
        | false => rfl
        | true => rw [aoReach_listed hcl 2 j i hj hw] at hiu; cases hiu
      have hpre2 : ∀ j, aoReach ops 2 i j = true → listed.getD j true = true := fun j hw => by
        unfold aoReach at hw
        rw [Bool.or_eq_true] at hw
        rcases hw with hw | hw
        · exact hpre j hw
        · obtain ⟨q, _, h2⟩ := List.any_eq_true.1 hw
          rw [Bool.and_eq_true] at h2
          exact aoReach_listed hcl 1 q j (hpre q h2.1) h2.2
      have h1 := hstep i o ho (fun i => listed.getD i true) g a w hiu hpre2 hpost hK hS.mem
      refine wpOp_mono (fun a' w' h' => ?_) (wpOp_of_list ho' h1)
      obtain ⟨γ, rfl, hM⟩ := h'
      have hb : (fun k => (listed.setIfInBounds i true).getD k true) = upd (fun k => listed.getD k true) i true := by
        funext k
        unfold upd
        by_cases hk : k = i
        · subst hk; simp [hils]
        · rw [if_neg hk, getD_set_ne true (Ne.symm hk)]
      have hcl' : ∀ j p, (listed.setIfInBounds i true).getD j true = true → waitsFor ops j p = true → (listed.setIfInBounds i true).getD p true = true := by
        intro j p hj hw
        by_cases hpi : p = i
        · subst hpi; simp [hils]
        · rw [getD_set_ne true (Ne.symm hpi)]
          by_cases hji : j = i
          · subst hji; exact hpre p hw
          · rw [getD_set_ne true (Ne.symm hji)] at hj; exact hcl j p hj hw
      have hval : ∀ j, j ≠ i → j < ops.toList.length → listed.getD j true = true → (adr j).map (upd g i γ) = (adr j).map g := by
        intro j hji hjl hj
        refine List.map_congr_left fun x hx => ?_
        unfold upd
        rw [if_neg]
        intro e
        obtain ⟨oj, hoj⟩ : ∃ o, ops.toList[j]? = some o := ⟨ops.toList[j], List.getElem?_eq_getElem hjl⟩
        rcases (aoChk hchk hoj).2.2 x hx with h2 | h2
        · exact hji (h2.symm.trans e)
        · have h3 := aoReach_listed hcl 2 j x hj h2
          rw [e, hiu] at h3
          cases h3
      refine ih (listed.setIfInBounds i true) (upd g i γ) _ _ ?_ (by simpa using hsz) hcl' ⟨?_, ?_, ?_, ?_, by rw [hb]; exact hM⟩
      · have hf : ((List.range ops.toList.length).filter fun k => !(listed.setIfInBounds i true).getD k true) = ((List.range ops.toList.length).filter fun k => !listed.getD k true).filter (· != i) := by
          rw [List.filter_filter]
          apply List.filter_congr
          intro k _
          by_cases hk : k = i
          · subst hk; simp [hils]
          · rw [getD_set_ne true (Ne.symm hk)]; simp [hk]
        have hmem : i ∈ (List.range ops.toList.length).filter fun k => !listed.getD k true := List.mem_filter.2 ⟨List.mem_range.2 hil, by rw [hiu]; rfl⟩
        have hnd : ((List.range ops.toList.length).filter fun k => !listed.getD k true).Nodup := List.Pairwise.filter _ List.nodup_range
        rw [hf, ← List.Nodup.erase_eq_filter hnd, List.length_erase_of_mem hmem, hm]
        rfl
      · cases hd : o.dst <;> simp [Act.put, hS.size]
      · cases hd : o.dst <;> simp [Act.put, hS.defers]
      · intro j oj d hoj hd hj
        have hjl := (List.getElem?_eq_some_iff.1 hoj).1
        by_cases hji : j = i
        · subst hji
          obtain rfl : oj = o := Option.some.inj (hoj.symm.trans ho)
          rw [hd, getD_put_same (by rw [hS.size]; exact (hc2 d hd).1)]
        · have hj' : listed.getD j true = true := by rwa [getD_set_ne true (Ne.symm hji)] at hj
          rw [hval j hji hjl hj', ← hS.inn j oj d hoj hd hj']
          cases hd2 : o.dst with
          | none => rfl
          | some d2 =>
            refine getD_put_other fun e => ?_
            subst e
            exact (hc2 d2 hd2).2 j oj hji hoj hd
      · intro k hk
        have h2 : ∀ j oj, ops.toList[j]? = some oj → listed.getD j true = true → oj.dst ≠ some k := fun j oj hoj hj => hk j oj hoj (by rw [getD_set_ne true (Ne.symm (hne j hj))]; exact hj)
        rw [← hS.out k h2]
        cases hd2 : o.dst with
        | none => rfl
        | some d2 =>
          refine getD_put_other fun e => ?_
          subst e
          exact hk i o ho (by simp [hils]) hd2
def AoFrom (ds : List Deferred) (P : Program) (ops : Array Oper) (Q : Exit → Act → World → Prop) (w0 : World) (a0 : Act) (N : Nat) (val : Nat → List Nat → Value) (adr : Nat → List Nat) (L : (Nat → Bool) → (Nat → Nat) → List Res) (i : Nat) : Prop :=
 ∀ j o, i ≤ j → ops.toList[j]? = some o → AoStep ds P ops Q w0 a0 N val adr L j o
theorem aoNext {i : Nat} {o : Oper} (hi : ops.toList[i]? = some o) (h : AoStep ds P ops Q w0 a0 N val adr L i o) (hr : AoFrom ds P ops Q w0 a0 N val adr L (i + 1)) : AoFrom ds P ops Q w0 a0 N val adr L i := by
 intro j oj hj hoj
 by_cases h2 : j = i
 ·subst h2
  obtain rfl : oj = o := Option.some.inj (hoj.symm.trans hi)
  exact h
 ·exact hr j oj (by omega) hoj
theorem aoDone {i : Nat} (hi : ops.toList.length ≤ i) : AoFrom ds P ops Q w0 a0 N val adr L i := by
 intro j oj hj hoj
 have := (List.getElem?_eq_some_iff.1 hoj).1
 omega
theorem aoAny {X : Nat → Value} {l : List (Nat × Value)} {w : World} {L0 : List Res} (val : Nat → List Nat → Value) (adr : Nat → List Nat) (L : (Nat → Bool) → (Nat → Nat) → List Res) (hm : Mem w0 w L0) 
 (hchk : aoCheck ops adr N = true) (hL : ∀ w', Mem w0 w' L0 → Mem w0 w' (L (fun _ => false) (fun _ => 0)))
 (hLb : ∀ (b : Nat → Bool) g, (∀ i, i < ops.toList.length → b i = false) → L b g = L (fun _ => false) g)
 (hstep : AoFrom ds P ops Q w0 (lit ds N X l) N val adr L 0)
 (hend : ∀ g a w, AoFin ds ops (lit ds N X l) N val adr g a → Mem w0 w (L (fun _ => true) g) → Q .normal a w) : wpAny P .any ops Q ops.size (Array.replicate ops.size false) (lit ds N X l) w.drew := by
 have hlen : ops.toList.length = ops.size := by simp
 have hrep : ∀ i, i < ops.toList.length → (Array.replicate ops.size false).getD i true = false := fun i hi => by simp [hlen ▸ hi]
 refine ao_go hchk (fun i o ho => hstep i o (Nat.zero_le _) ho) hend ops.size _ (fun _ => 0) _ _ ?_ (by simp) ?_ ⟨litSize, rfl, ?_, ?_, ?_⟩
 ·rw [List.filter_eq_self.2 (fun i hi => by rw [hrep i (List.mem_range.1 hi)]; rfl)]
  simp
 ·intro j p hj hw
  exfalso
  by_cases hl : j < ops.toList.length
  ·rw [hrep j hl] at hj; cases hj
  ·unfold waitsFor at hw
   rw [List.getElem?_eq_none (by omega)] at hw
   cases hw
 ·intro i o d hi _ hli
  rw [hrep i (List.getElem?_eq_some_iff.1 hi).1] at hli
  cases hli
 ·intro k _
  rfl
 ·rw [hLb _ _ hrep]
  exact hL _ hm.drew
theorem aoStart {id : Nat} {X : Nat → Value} {l : List (Nat × Value)} {w : World} {L0 : List Res} (val : Nat → List Nat → Value) (adr : Nat → List Nat) (L : (Nat → Bool) → (Nat → Nat) → List Res) (hm : Mem w0 w L0) (hmode : P.follows .mixedOrders = true)
 (hchk : aoCheck ops adr N = true) (hL : ∀ w', Mem w0 w' L0 → Mem w0 w' (L (fun _ => false) (fun _ => 0)))
 (hLb : ∀ (b : Nat → Bool) g, (∀ i, i < ops.toList.length → b i = false) → L b g = L (fun _ => false) g)
 (hstep : AoFrom ds P ops Q w0 (lit ds N X l) N val adr L 0)
 (hend : ∀ g a w, AoFin ds ops (lit ds N X l) N val adr g a → Mem w0 w (L (fun _ => true) g) → Q .normal a w) : (Code.region id ops true).wp P Q (lit ds N X l) w :=
 wp_region_any hmode (aoAny val adr L hm hchk hL hLb hstep hend)
theorem aoVal (li : (Nat → Nat) → List (Nat × Value)) (hfr : ∀ g a, AoKn ds ops a0 N val adr i g a → FrIs a (li g))
 (hw : ∀ g X, Region.wanted o (yielded ops (lit ds N X (li g)).tmps) = true) (hL : ∀ b g, L (upd b i true) g = L b g)
 (hr : ∀ b g X w, AoB ops i b → Mem w0 w (L b g) → (execOp (lit ds N X (li g)).eval o).run P w = .ok (.value (val i ((adr i).map g))) w) : AoStep ds P ops Q w0 a0 N val adr L i o := by
 intro b g a w hb hp hp2 hk hm
 obtain ⟨X, rfl⟩ := frLit (⟨hk.size, hk.defers, hfr g a hk⟩ : Fr a N (li g))
 refine opVal (hw g X) (hr b g X w ⟨hb, hp, hp2⟩ hm) ⟨g i, ?_, ?_⟩
 ·rw [upd_self]
 ·rw [upd_self, hL]; exact hm
theorem aoCall {c : Operand} {args : Array Operand} {argTypes : Array TypeId} (li : (Nat → Nat) → List (Nat × Value)) (hfr : ∀ g a, AoKn ds ops a0 N val adr i g a → FrIs a (li g)) (f : FuncId) (vals : (Nat → Nat) → List Value) (first caps : List Value)
 (hf : callable P f = true) (hw : ∀ g X, Region.wanted o (yielded ops (lit ds N X (li g)).tmps) = true) (hL : ∀ b g, L (upd b i true) g = L b g) (ho : o.op = .call { callee := .value c, args, argTypes })
 (hc : ∀ g X, (lit ds N X (li g)).eval c = .func (.func f) first.toArray caps.toArray) (hargs : ∀ g X, args.toList.map (lit ds N X (li g)).eval = vals g)
 (hC : ∀ b g w, AoB ops i b → Mem w0 w (L b g) → Calls P f (first ++ vals g ++ caps).toArray w (fun e w' => e = .returned (val i ((adr i).map g)) ∧ Below w.heap.size w w')) : AoStep ds P ops Q w0 a0 N val adr L i o := by
 intro b g a w hb hp hp2 hk hm
 obtain ⟨X, rfl⟩ := frLit (⟨hk.size, hk.defers, hfr g a hk⟩ : Fr a N (li g))
 refine callOp f (vals g) first caps hf (hw g X) ho (hc g X) (hargs g X) ((hC b g w ⟨hb, hp, hp2⟩ hm).mono ?_)
 rintro e w' ⟨rfl, hB⟩
 refine ⟨_, rfl, ?_⟩
 refine ⟨g i, ?_, ?_⟩
 ·rw [upd_self]
 ·rw [upd_self, hL]; exact hm.below hB
theorem aoStore {x y : Operand} {ty : TypeId} {n k : Nat} {z : Array Value} {gb : (Nat → Nat) → Nat} {cur vs : (Nat → Nat) → List Value} {t : TypeId} (j : Nat) (li : (Nat → Nat) → List (Nat × Value)) (hfr : ∀ g a, AoKn ds ops a0 N val adr i g a → FrIs a (li g)) (T : AgTy P ty z n) (hj : ∀ b g, AoB ops i b → (L b g)[j]? = some (.arr (gb g) t (cur g)))
 (hw : ∀ g X, Region.wanted o (yielded ops (lit ds N X (li g)).tmps) = true) (ho : o.op = .store ty x y) (hx : ∀ g X, (lit ds N X (li g)).eval x = .pointer (some ⟨gb g, k, none⟩)) (hy : ∀ g X, (lit ds N X (li g)).eval y = .agg (vs g).toArray)
 (hs : ∀ g, (decide (k + n ≤ (cur g).length)) = true) (hl : ∀ g, (vs g).length = n) (h1 : ∀ g, ((vs g).all fun u => u.oneCell') = true) (hL : ∀ b g, AoB ops i b → L (upd b i true) g = (L b g).set j (.arr (gb g) t (spl (cur g) k (vs g)))) (hd : o.dst = none) : AoStep ds P ops Q w0 a0 N val adr L i o := by
 intro b g a w hb hp hp2 hk hm
 obtain ⟨X, rfl⟩ := frLit (⟨hk.size, hk.defers, hfr g a hk⟩ : Fr a N (li g))
 have hj' := hj b g ⟨hb, hp, hp2⟩
 refine stMidG x y (vs g) T (hw g X) ho (hx g X) (hy g X) (hm.arr j hj') (hl g) (of_decide_eq_true (hs g)) (fun u hu => List.all_eq_true.1 (h1 g) u hu) fun w' hA hG => ⟨g i, ?_, ?_⟩
 ·rw [hd]; rfl
 ·rw [upd_self, hL b g ⟨hb, hp, hp2⟩]; exact hm.set j hj' hA hG
theorem aoStore1 {x y : Operand} {ty : TypeId} {k : Nat} {gb : (Nat → Nat) → Nat} {cur : (Nat → Nat) → List Value} {v v0 : (Nat → Nat) → Value} {t : TypeId} (j : Nat) (li : (Nat → Nat) → List (Nat × Value)) (hfr : ∀ g a, AoKn ds ops a0 N val adr i g a → FrIs a (li g)) (hsz : (P.info? ty).map (·.size) = some 1) (hj : ∀ b g, AoB ops i b → (L b g)[j]? = some (.arr (gb g) t (cur g)))
 (hw : ∀ g X, Region.wanted o (yielded ops (lit ds N X (li g)).tmps) = true) (ho : o.op = .store ty x y) (hx : ∀ g X, (lit ds N X (li g)).eval x = .pointer (some ⟨gb g, k, none⟩)) (hy : ∀ g X, (lit ds N X (li g)).eval y = v g)
 (hk : ∀ g, (cur g)[k]? = some (v0 g)) (hv : ∀ g, (v g).cells = #[v g]) (h1 : ∀ g, (v g).oneCell' = true) (hL : ∀ b g, AoB ops i b → L (upd b i true) g = (L b g).set j (.arr (gb g) t ((cur g).set k (v g)))) (hd : o.dst = none) : AoStep ds P ops Q w0 a0 N val adr L i o := by
 intro b g a w hb hp hp2 hkn hm
 obtain ⟨X, rfl⟩ := frLit (⟨hkn.size, hkn.defers, hfr g a hkn⟩ : Fr a N (li g))
 have hj' := hj b g ⟨hb, hp, hp2⟩
 refine stCellG x y hsz (hw g X) ho (hx g X) (hy g X) (hm.arr j hj') (hk g) (hv g) (h1 g) fun w' hA hG => ⟨g i, ?_, ?_⟩
 ·rw [hd]; rfl
 ·rw [upd_self, hL b g ⟨hb, hp, hp2⟩]; exact hm.set j hj' hA hG
end
end LD
section
variable {P : Program} {ops : Array Oper} {Q : Exit → Act → World → Prop} {a : Act} {w w0 : World} {o : Oper} {L M : List Res} {i j c fuel : Nat} {listed : Array Bool}
structure MGI (P : Program) (ops : Array Oper) (Q : Exit → Act → World → Prop) (w0 : World) (M : List Res) (fuel : Nat) (listed : Array Bool) (i : Nat) (a : Act) (w : World) : Prop where
 out : ∀ o, ops.toList[i]? = some o → wpList P ops (Exit.then (fun a' w' => Mem w0 w' M ∧ wpAnyH P .any ops Q (fun w' => Mem w0 w' M) fuel (listed.setIfInBounds i true) a' w') Q) [o] a w
theorem mgFork (hr : Region.ready .any ops listed = [i, j]) (hi : (ops.toList[i]?).isSome = true) (hj : (ops.toList[j]?).isSome = true) (h1 : MGI P ops Q w0 M fuel listed i a w) (h2 : MGI P ops Q w0 M fuel listed j a w) : MG P ops Q w0 M (fuel + 1) listed a w := by
 refine ⟨wpAnyH_all hr (by simp) fun k hk => ?_⟩
 have hk2 : k = i ∨ k = j := by simpa using hk
 have go : ∀ k, (ops.toList[k]?).isSome = true → MGI P ops Q w0 M fuel listed k a w → wpOp P ops Q k (fun a' w' => Mem w0 w' M ∧ wpAnyH P .any ops Q (fun w' => Mem w0 w' M) fuel (listed.setIfInBounds k true) a' w') a w := by
  intro k hs h
  obtain ⟨o, ho⟩ := Option.isSome_iff_exists.1 hs
  have hi : ops[k]? = some o := by rw [← ho]; simp
  exact wpOp_of_list hi (h.out o ho)
 rcases hk2 with rfl | rfl
 ·exact go _ hi h1
 ·exact go _ hj h2
theorem mgiCall {x : Operand} {args : Array Operand} {argTypes : Array TypeId} {R : Ending → World → Prop} (f : FuncId) (vals first caps : List Value)
 (hi : ops.toList[i]? = some o) (hf : callable P f = true) (hw : Region.wanted o (yielded ops a.tmps) = true) (ho : o.op = .call { callee := .value x, args, argTypes }) (hc : a.eval x = .func (.func f) first.toArray caps.toArray) (hargs : args.toList.map a.eval = vals)
 (hC : Calls P f (first ++ vals ++ caps).toArray w R) (h : ∀ e w', R e w' → ∃ v, e = .returned v ∧ Mem w0 w' M ∧ MG P ops Q w0 M fuel (listed.setIfInBounds i true) (a.put o.dst v) w') : MGI P ops Q w0 M fuel listed i a w := by
 refine ⟨fun o' ho' => ?_⟩
 obtain rfl : o = o' := Option.some.inj (hi.symm.trans ho')
 exact callOp f vals first caps hf hw ho hc hargs (hC.mono fun e w' he => by
  obtain ⟨v, h1, h2, h3⟩ := h e w' he
  exact ⟨v, h1, h2, h3.out⟩)
theorem mgiAlloc {z : List Value} {ty : TypeId} {n : Nat} (T : AgTy P ty z.toArray n) (hm : Mem w0 w L) (hM : ∀ w', Mem w0 w' L → Mem w0 w' M) (hi : ops.toList[i]? = some o) (hw : Region.wanted o (yielded ops a.tmps) = true) (ho : o.op = .alloc ty)
 (h : ∀ g w', Mem w0 w' (L ++ [.arr g ty z]) → MG P ops Q w0 M fuel (listed.setIfInBounds i true) (a.put o.dst (.pointer (some ⟨g, 0, none⟩))) w') : MGI P ops Q w0 M fuel listed i a w := by
 refine ⟨fun o' ho' => ?_⟩
 obtain rfl : o = o' := Option.some.inj (hi.symm.trans ho')
 exact alArr T hw ho fun w' hA hb => ⟨hM _ (hm.below hb), (h _ w' (hm.new hb hA)).out⟩
theorem mgAlloc {z : List Value} {ty : TypeId} {n : Nat} (T : AgTy P ty z.toArray n) (hm : Mem w0 w L) (hM : ∀ w', Mem w0 w' L → Mem w0 w' M) (hr : Region.ready .any ops listed = [i]) (hi : ops.toList[i]? = some o) (hw : Region.wanted o (yielded ops a.tmps) = true) (ho : o.op = .alloc ty)
 (h : ∀ g w', Mem w0 w' (L ++ [.arr g ty z]) → MG P ops Q w0 M fuel (listed.setIfInBounds i true) (a.put o.dst (.pointer (some ⟨g, 0, none⟩))) w') : MG P ops Q w0 M (fuel + 1) listed a w :=
 ⟨rgNext hr hi (alArr T hw ho fun w' hA hb => ⟨hM _ (hm.below hb), (h _ w' (hm.new hb hA)).out⟩)⟩
theorem mgStore {x y : Operand} {ty : TypeId} {n g : Nat} {z : Array Value} {cur cs : List Value} {t : TypeId} (j : Nat) (T : AgTy P ty z n) (hm : Mem w0 w L) (hj : L[j]? = some (.arr g t cur)) (hr : Region.ready .any ops listed = [i]) (hi : ops.toList[i]? = some o) (hw : Region.wanted o (yielded ops a.tmps) = true) (ho : o.op = .store ty x y)
 (hx : a.eval x = .pointer (some ⟨g, 0, none⟩)) (hy : a.eval y = .agg cs.toArray) (hs : cur.length = n) (hl : cs.length = n) (h1 : (cs.all fun u => u.oneCell') = true) (hM : ∀ w', Mem w0 w' (L.set j (.arr g t cs)) → Mem w0 w' M)
 (h : ∀ w', Mem w0 w' (L.set j (.arr g t cs)) → MG P ops Q w0 M fuel (listed.setIfInBounds i true) (a.put o.dst undef) w') : MG P ops Q w0 M (fuel + 1) listed a w :=
 ⟨rgNext hr hi (stArrG x y T hw ho hx hy (hm.arr j hj) hs hl (fun u hu => List.all_eq_true.1 h1 u hu) fun w' hA hk => ⟨hM _ (hm.set j hj hA hk), (h w' (hm.set j hj hA hk)).out⟩)⟩
end
def WF (ro : Option Nat) : Fence := { Fence.wide with round := ro }
abbrev WR (ro : Option Nat) (P : Program) (c : Code) (Q : Exit → Act → World → Prop) (a : Act) (w : World) : Prop := c.wpIn (WF ro) 0 P Q a w
def noDefer (ops : List Oper) : Bool := ops.all fun o => match o.op with | .defer _ => false | _ => true
theorem noDefer_mem {ops : List Oper} (h : noDefer ops = true) {o : Oper} (ho : o ∈ ops) (c : Call) : o.op ≠ .defer c := by
 intro e
 have h1 := List.all_eq_true.1 h o ho
 rw [e] at h1
 cases h1
section
variable {P : Program} {ops : Array Oper} {Q : Exit → Act → World → Prop} {a : Act} {w w0 : World} {o : Oper} {L : List Res} {i : Nat} {ro : Option Nat}
theorem wrOf {c : Code} (h : c.wp P Q a w) : WR none P c Q a w := wpIn_wide.2 h
theorem ofWr {c : Code} (h : WR none P c Q a w) : c.wp P Q a w := wpIn_wide.1 h
theorem callsWF {f : FuncId} {args : Array Value} {R : Ending → World → Prop} (h : Calls P f args w R) : CallsIn (WF ro) 0 P f args w R := callsIn_wide (n := 0).2 h
theorem rowsWF {f : String} {args : Array Value} {R : Value → World → Prop} (h : Rows P f args w R) : RowsIn (WF ro) 0 P f args w R :=
 fun c cs _ => let ⟨v, w', r, s⟩ := h c cs; ⟨v, w', r, stepsIn_wide.2 s⟩
theorem WF_deep (n : Nat) : (WF ro).depth.isSome = true → 1 ≤ n := fun h => by cases h
theorem operLift {next : Act → World → Prop} (hd : ∀ c, o.op ≠ .defer c) (h : o.wp P a w next Q) : o.wpIn (WF ro) 0 P a w next Q := by
 refine ⟨fun _ _ => trivial, ?_⟩
 have hs : Oper.semAt (WF ro).round a.eval o = execOp a.eval o := by
  cases ro with
  | none => rfl
  | some l => exact Oper.semAt_some l _ _ hd
 rw [hs]
 unfold Oper.wp at h
 generalize (execOp a.eval o).run P w = r at h ⊢
 cases r with
 | ok n w' =>
  cases n <;> simp only [Oper.upon, Oper.uponIn] at h ⊢
  case value v => exact h
  case skip => exact h
  case defer d => exact h
  case enter f args => exact ⟨WF_deep _, callsWF h⟩
  case row row args => exact ⟨WF_deep _, rowsWF h⟩
 | halt x w' => cases x <;> simp only [Oper.upon, Oper.uponIn] at h ⊢; exact h
abbrev Kept (Q : Exit → Act → World → Prop) : Prop := ∀ a w, Q .outgrown a w → False
theorem wpList_lift (hk : Kept Q) : ∀ (l : List Oper) (a : Act) (w : World), noDefer l = true → wpList P ops Q l a w → wpListIn (WF ro) 0 P ops Q l a w
 | [], _, _, _, h => h
 | o :: l, a, w, hd, h => by
  have hd2 : noDefer l = true := List.all_eq_true.2 fun x hx => List.all_eq_true.1 hd x (List.mem_cons_of_mem _ hx)
  unfold wpList at h
  unfold wpListIn
  split
  ·rename_i hw
   rw [if_pos hw] at h
   rcases h with h | ⟨_, a', w', h⟩
   ·exact Oper.wpIn_mono (fun a w h => wpList_lift hk l a w hd2 h) (operLift (fun c => noDefer_mem hd List.mem_cons_self c) h)
   ·exact (hk _ _ h).elim
  ·rename_i hw
   rw [if_neg hw] at h
   exact ⟨fun _ _ => trivial, wpList_lift hk l _ _ hd2 h⟩
theorem plStartR {id : Nat} (hd : noDefer ops.toList = true) (hk : Kept Q) (h : PL P ops Q 0 a w) : WR ro P (.region id ops false) Q a w := by
 have h1 := h.out
 rw [List.drop_zero] at h1
 exact wpIn_region_list (wpList_lift hk _ _ _ hd h1)
theorem wpOp_lift {K : Act → World → Prop} (hd : noDefer ops.toList = true) (hk : Kept Q) (h : wpOp P ops Q i K a w) : wpOpIn (WF ro) 0 P ops Q i K a w := by
 unfold wpOp at h
 unfold wpOpIn
 split
 ·rename_i ho
  simpa [ho] using h
 ·rename_i o ho
  simp only [ho] at h
  have hm : o ∈ ops.toList := by
   have := Array.mem_of_getElem? ho
   simpa using this
  split
  ·rename_i hw
   simp only [hw, if_true] at h
   rcases h with h | ⟨_, a', w', h⟩
   ·exact operLift (fun c => noDefer_mem hd hm c) h
   ·exact (hk _ _ h).elim
  ·rename_i hw
   simp only [hw] at h
   exact ⟨fun _ _ => trivial, h⟩
theorem wpAny_lift (hd : noDefer ops.toList = true) (hk : Kept Q) : ∀ (fuel : Nat) (listed : Array Bool) (a : Act) (w : World), wpAny P .any ops Q fuel listed a w → wpAnyIn (WF ro) 0 P .any ops Q fuel listed a w
 | 0, _, _, _, h => h
 | fuel + 1, listed, a, w, h => ⟨h.1, fun i hi => wpOpIn_mono (fun a w h => wpAny_lift hd hk fuel _ a w h) (wpOp_lift hd hk (h.2 i hi))⟩
theorem anyR {id : Nat} (hd : noDefer ops.toList = true) (hk : Kept Q) (hm : P.follows .mixedOrders = true) (h : wpAny P .any ops Q ops.size (Array.replicate ops.size false) a w.drew) : WR ro P (.region id ops true) Q a w :=
 wpIn_region_any hm (wpAny_lift hd hk _ _ _ _ h)
theorem mgStartR {id : Nat} (hd : noDefer ops.toList = true) (hk : Kept Q) (hm : Mem w0 w L) (hmode : P.follows .mixedOrders = true) (h : ∀ w', Mem w0 w' L → MG P ops Q w0 L ops.size (Array.replicate ops.size false) a w') : WR ro P (.region id ops true) Q a w :=
 anyR hd hk hmode (wpAny_of_held _ _ _ _ (h _ hm.drew).out)
theorem glStartR {id : Nat} (c : Nat) (M : List Res) (hd : noDefer ops.toList = true) (hk : Kept Q) (hm : Mem w0 w L) (hmode : P.follows .mixedOrders = true) (h : ∀ w', Mem w0 w' L → MGL P ops Q w0 M c ops.size (Array.replicate ops.size false) a w') : WR ro P (.region id ops true) Q a w :=
 anyR hd hk hmode (wpAny_of_L _ _ _ _ (h _ hm.drew).out)
end
section
variable {P : Program} {Q : Exit → Act → World → Prop} {a : Act} {w w0 : World} {L : List Res} {ro : Option Nat}
open Classical in
theorem gwLoopR {c : Code} (I : Nat → Act → World → Prop) (n : Nat) (h0 : I n a w)
 (h : ∀ n a w, I n a w → WR ro P c (Exit.then (fun a' w' => ∃ m, m < n ∧ I m a' w') Q) a w) : WR ro P (.loop c) Q a w := by
 refine wpIn_loop (fun a w => ∃ n, I n a w) (fun a w => if h : ∃ n, I n a w then Classical.choose (exists_least h) else 0) ⟨n, h0⟩ fun a w hI => ?_
 have hs := Classical.choose_spec (exists_least hI)
 refine wpIn_mono (h _ a w hs.1) fun e a' w' he => ?_
 cases e with
 | normal =>
  obtain ⟨m, hm, hI'⟩ := he
  refine ⟨⟨m, hI'⟩, ?_⟩
  rw [dif_pos hI, dif_pos ⟨m, hI'⟩]
  exact Nat.lt_of_le_of_lt ((Classical.choose_spec (exists_least ⟨m, hI'⟩)).2 m hI') hm
 | _ => exact he
theorem roundsStartR {c : Code} (n : Nat) (h : WR ro P c (Exit.then (Code.roundsIn (WF ro) 0 P c Q n) Q) a w) : WR ro P (.loop c) Q a w := wpIn_loop_rounds (n + 1) h
theorem roundsNextR {c : Code} {n : Nat} (h : WR ro P c (Exit.then (Code.roundsIn (WF ro) 0 P c Q n) Q) a w) : Code.roundsIn (WF ro) 0 P c Q (n + 1) a w := h
abbrev defR (D : Nat) : Res := .any D (fun w => w.heap[D]? = some (.deferred (some [])))
abbrev recR (l : Nat) (r : Loop) : Res := .any l (fun w => w.heap[l]? = some (.loop r))
abbrev mark (D : Nat) : Deferred := { target := .collected D, args := #[] }
theorem Mem.newObj (h : Mem w0 w L) (o : Obj) (I : World → Prop) (hI : I (w.alloc o)) (hs : ∀ u u' : World, I u → u'.heap[w.heap.size]? = u.heap[w.heap.size]? → I u') : Mem w0 (w.alloc o) (L ++ [.any w.heap.size I]) :=
 h.newAny ((Below.refl _ _).alloc (Nat.le_refl _) _) (Nat.le_refl _) (by simp) hI hs
def RgPost (w0 : World) (J : Nat → List Res → Prop) (Jx : Code → List Res → Prop) (i : Nat) (N : List Res) : Exit → Act → World → Prop
 | .normal, _, w => ∃ V, J i V ∧ Mem w0 w (V ++ N)
 | .ret, _, w => ∃ V, Jx .ret V ∧ Mem w0 w (V ++ N)
 | .exit id, _, w => ∃ V, Jx (.exit id) V ∧ Mem w0 w (V ++ N)
 | .goto t, _, w => ∃ V, Jx (.goto t) V ∧ Mem w0 w (V ++ N)
 | .panic _, _, _ => False
 | .outgrown, _, _ => False
def ItWord (P : Program) (gf : FuncId) (lb : List Value) (s : List (List Value)) (I : List Res) : Prop :=
 ∀ (w0 w : World) (l : Nat) (J : Nat → List Res → Prop) (Jx : List Res → Prop) (V M : List Res), J 0 V → Mem w0 w (V ++ (I ++ M)) →
  (∀ (i : Nat) (x : List Value) (W : World) (V N : List Res), s[i]? = some x → J i V → Mem w0 W (V ++ N) →
   YieldAt Fence.wide 0 P l x.toArray W fun e W' => ∃ (t : Bool) (V' : List Res), e = .returned (.bool t) ∧ Mem w0 W' (V' ++ N) ∧ (t = true → J (i + 1) V') ∧ (t = false → Jx V')) →
  Calls P gf (.func (.yield l) #[] #[] :: lb).toArray w fun e W' => (∃ v, e = .returned v) ∧ ∃ V', Mem w0 W' (V' ++ (I ++ M)) ∧ (J s.length V' ∨ Jx V')
theorem Mem.permL {L' : List Res} (h : Mem w0 w L) (hp : L'.Perm L) : Mem w0 w L' := ⟨h.bel, fun r hr => h.each r (hp.subset hr), (hp.pairwise_iff (fun h => ResApart.symm h)).2 h.apart⟩
theorem Mem.putObj {l : Nat} {I I' : World → Prop} {M : List Res} (h : Mem w0 w (.any l I :: M)) (o : Obj) (hI : I' (w.putObj l o)) (hs : ∀ u u' : World, I' u → u'.heap[l]? = u.heap[l]? → I' u') : Mem w0 (w.putObj l o) (.any l I' :: M) :=
 h.setAny 0 rfl hI hs (grownBy_putObj' w l o)
theorem perm_mid (r : Res) (V N : List Res) : (V ++ r :: N).Perm (r :: (V ++ N)) := List.perm_middle
theorem gwRange {g : Operand} {ps : Array Tmp} {assign body : Code} {gf : FuncId} {lb : List Value} (s : List (List Value)) (I : List Res) (hg : a.eval g = .func (.func gf) #[] lb.toArray) (hcal : callable P gf = true) (hit : ItWord P gf lb s I)
 (hps : ∀ x ∈ s, x.length = ps.size) (J : Nat → List Res → Prop) (Jx : Code → List Res → Prop) (V M : List Res) (h0 : J 0 V) (hm : Mem w0 w (V ++ (I ++ M)))
 (hround : ∀ (l i : Nat) (x : List Value) (W : World) (V N : List Res), s[i]? = some x → J i V → Mem w0 W (V ++ N) →
  WR (some l) P assign (Exit.then (fun a1 W1 => ∃ V1, Mem w0 W1 (V1 ++ N) ∧ ∀ W2 N2, Mem w0 W2 (V1 ++ N2) → WR (some l) P body (RgPost w0 J Jx (i + 1) N2) a1 W2) (fun _ _ _ => False))
   { tmps := (ps.zip x.toArray).foldl (fun t (p, v) => t.setIfInBounds p v) a.tmps, defers := [] } W)
 (hdone : ∀ D W V, J s.length V → Mem w0 W (V ++ (I ++ (defR D :: M))) → Q .normal { a with defers := mark D :: a.defers } W)
 (hstop : ∀ D c W V, Jx c V → Mem w0 W (V ++ (I ++ (defR D :: M))) → c.wp P Q { a with defers := mark D :: a.defers } W) : (Code.rangeFunc g ps assign body).wp P Q a w := by
 refine ofWr (wpIn_rangeFunc fun fn hfn => ?_)
 obtain ⟨rec, hrec⟩ : ∃ rec : LoopState → Option Code → Loop, rec = fun st pe => { state := st, pending := pe, fn, tmps := a.tmps, params := ps, assign, body, defers := w.heap.size } := ⟨_, rfl⟩
 have hanyD : ∀ (D : Nat) (u u' : World), u.heap[D]? = some (.deferred (some [])) → u'.heap[D]? = u.heap[D]? → u'.heap[D]? = some (.deferred (some [])) := fun D u u' h e => e.trans h
 have hanyR : ∀ (D : Nat) (r : Loop) (u u' : World), u.heap[D]? = some (.loop r) → u'.heap[D]? = u.heap[D]? → u'.heap[D]? = some (.loop r) := fun D r u u' h e => e.trans h
 have hm1 := hm.newObj (.deferred (some [])) (fun w' => w'.heap[w.heap.size]? = some (.deferred (some []))) (World.alloc_heap_new w _) (hanyD _)
 have hm2 := hm1.newObj (.loop (rec .ready none)) (fun w' => w'.heap[(w.alloc (.deferred (some []))).heap.size]? = some (.loop (rec .ready none))) (World.alloc_heap_new _ _) (hanyR _ _)
 rw [World.size_alloc] at hm2
 have hm3 : Mem w0 ((w.alloc (.deferred (some []))).alloc (.loop (rec .ready none))) (recR (w.heap.size + 1) (rec .ready none) :: V ++ (I ++ (defR w.heap.size :: M))) := by
  refine hm2.permL ?_
  refine List.Perm.symm ((List.perm_append_comm (l₁ := (V ++ (I ++ M)) ++ [defR w.heap.size]) (l₂ := [recR (w.heap.size + 1) (rec .ready none)])).trans ?_)
  simp only [List.cons_append, List.nil_append, List.append_assoc]
  refine List.Perm.cons _ (List.Perm.append_left _ (List.Perm.append_left _ ?_))
  exact List.perm_append_comm (l₂ := [defR w.heap.size])
 generalize hW1 : (w.alloc (.deferred (some []))).alloc (.loop (rec .ready none)) = W1 at hm3
 clear hm1 hm2
 refine ⟨w.heap.size + 1, [mark w.heap.size], W1, { target := .fn (.func gf) lb.toArray, args := #[.func (.yield (w.heap.size + 1)) #[] #[]] }, W1, gf,
  #[.func (.yield (w.heap.size + 1)) #[] #[]] ++ lb.toArray, W1, ?_, ?_, fun _ _ => trivial, ?_, WF_deep _, ?_⟩
 ·rw [← hW1, hrec]; exact run_enterLoop_outer _ _ _ _ _
 ·simp only [resolve, hg]
  simp [go_sem]
 ·unfold callable at hcal
  cases hfn' : P.funcs[gf]? with
  | none => rw [hfn'] at hcal; cases hcal
  | some f0 =>
   rw [hfn'] at hcal
   simp only [Bool.and_eq_true, Bool.not_eq_true', beq_eq_false_iff_ne] at hcal
   obtain ⟨h1, h2⟩ := hcal
   obtain ⟨b, hb⟩ := Option.isSome_iff_exists.1 h2
   simp [invoke, callFunc, hfn', h1, hb]
 ·generalize w.heap.size = D at *
  have hcl := hit w0 W1 (D + 1) (fun i V' => ∃ V0, V' = recR (D + 1) (rec .ready none) :: V0 ∧ J i V0) (fun V' => ∃ c V0, V' = recR (D + 1) (rec .done (some c)) :: V0 ∧ Jx c V0)
   (recR (D + 1) (rec .ready none) :: V) (defR D :: M) ⟨V, rfl, h0⟩ hm3 ?_
  ·have hargs : (#[Value.func (.yield (D + 1)) #[] #[]] ++ lb.toArray) = (Value.func (.yield (D + 1)) #[] #[] :: lb).toArray := by simp
   rw [hargs]
   refine callsWF (hcl.mono ?_)
   rintro e W' ⟨⟨v, rfl⟩, V', hm4, ⟨V0, rfl, hJ⟩ | ⟨c, V0, rfl, hJ⟩⟩
   ·have hl : W'.heap[D + 1]? = some (.loop (rec .ready none)) := hm4.any 0 rfl
    refine ⟨none, _, by have := run_endLoop (P := P) hl (by rw [hrec]; simp); rw [hrec] at this; exact this, ?_⟩
    exact hdone D _ V0 hJ ((hm4.putObj _ (I' := fun _ => True) trivial (fun _ _ _ _ => trivial)).sub (List.sublist_cons_self _ _))
   ·have hl : W'.heap[D + 1]? = some (.loop (rec .done (some c))) := hm4.any 0 rfl
    refine ⟨some c, _, by have := run_endLoop (P := P) hl (by rw [hrec]; simp); rw [hrec] at this; exact this, ?_⟩
    exact wrOf (hstop D c _ V0 hJ ((hm4.putObj _ (I' := fun _ => True) trivial (fun _ _ _ _ => trivial)).sub (List.sublist_cons_self _ _)))
  ·rintro i x W V' N hx ⟨V0, rfl, hJ⟩ hmN
   have hl : W.heap[D + 1]? = some (.loop (rec .ready none)) := hmN.any 0 rfl
   have hy := run_yield (P := P) (args := x.toArray) hl (by rw [hrec]; simpa using hps x (List.mem_of_getElem? hx))
   rw [hrec] at hy
   refine ⟨fn, _, assign, body, hy, roundIn_of_wpIn (n := 0) hfn ?_⟩
   refine wpIn_mono (hround (D + 1) i x W V0 (recR (D + 1) (rec .ready none) :: N) hx hJ (hmN.permL (perm_mid _ _ _))) ?_
   rintro e a1 w1 he
   cases e with
   | normal =>
    obtain ⟨V1, hm5, hb⟩ := he
    have hm6 := hm5.permL (perm_mid (recR (D + 1) (rec .ready none)) V1 N).symm
    have hl1 : w1.heap[D + 1]? = some (.loop (rec .ready none)) := hm6.any 0 rfl
    refine ⟨_, run_beginRound hl1 (by rw [hrec]), ?_⟩
    have hlt := (Array.getElem?_eq_some_iff.1 hl1).1
    have hm7 := hm6.putObj (.loop { rec .ready none with state := .busy }) (I' := fun w' => w'.heap[D + 1]? = some (.loop { rec .ready none with state := .busy })) (World.putObj_heap_same hlt) (hanyR _ _)
    refine wpIn_mono (hb _ (recR (D + 1) { rec .ready none with state := .busy } :: N) (hm7.permL (perm_mid _ _ _))) ?_
    have fin : ∀ (jump : Option Code) (W3 : World) (V3 : List Res), Mem w0 W3 (V3 ++ recR (D + 1) { rec .ready none with state := .busy } :: N) →
     (Instr.endRound (D + 1) jump).run P W3 = .ok (.bool jump.isNone) (W3.putObj (D + 1) (.loop (rec (if jump.isNone then .ready else .done) jump))) ∧
     Mem w0 (W3.putObj (D + 1) (.loop (rec (if jump.isNone then .ready else .done) jump))) (recR (D + 1) (rec (if jump.isNone then .ready else .done) jump) :: (V3 ++ N)) := fun jump W3 V3 h3 => by
     have h4 := h3.permL (perm_mid (recR (D + 1) { rec .ready none with state := .busy }) V3 N).symm
     have hl3 : W3.heap[D + 1]? = some (.loop { rec .ready none with state := .busy }) := h4.any 0 rfl
     have h5 := run_endRound (P := P) jump hl3
     have hlt3 := (Array.getElem?_eq_some_iff.1 hl3).1
     refine ⟨by rw [hrec] at h5 ⊢; exact h5, h4.putObj _ (World.putObj_heap_same hlt3) (hanyR _ _)⟩
    rintro e a3 W3 hp
    cases e with
    | normal =>
     obtain ⟨V3, hJ3, h3⟩ := hp
     obtain ⟨hr, h4⟩ := fin none W3 V3 h3
     exact ⟨_, _, hr, true, _, rfl, h4, fun _ => ⟨V3, rfl, hJ3⟩, fun h => (by cases h)⟩
    | ret =>
     obtain ⟨V3, hJ3, h3⟩ := hp
     obtain ⟨hr, h4⟩ := fin (some .ret) W3 V3 h3
     exact ⟨_, _, hr, false, _, rfl, h4, fun h => (by cases h), fun _ => ⟨_, V3, rfl, hJ3⟩⟩
    | exit id =>
     obtain ⟨V3, hJ3, h3⟩ := hp
     obtain ⟨hr, h4⟩ := fin (some (.exit id)) W3 V3 h3
     exact ⟨_, _, hr, false, _, rfl, h4, fun h => (by cases h), fun _ => ⟨_, V3, rfl, hJ3⟩⟩
    | goto t =>
     obtain ⟨V3, hJ3, h3⟩ := hp
     obtain ⟨hr, h4⟩ := fin (some (.goto t)) W3 V3 h3
     exact ⟨_, _, hr, false, _, rfl, h4, fun h => (by cases h), fun _ => ⟨_, V3, rfl, hJ3⟩⟩
    | panic ch => exact hp.elim
    | outgrown => exact hp.elim
   | _ => exact he.elim
end
namespace LD
section
variable {ds : List Deferred} {N : Nat} {X : Nat → Value} {l : List (Nat × Value)} {P : Program} {w w0 : World} {o : Oper} {ops : Array Oper} {Q : Exit → Act → World → Prop} {i : Nat} {ro : Option Nat}
theorem litSet {p : Nat} {v : Value} {t : Array Value} (h : t = (lit ds N X l).tmps) : t.setIfInBounds p v = (lit ds N X ((p, v) :: l)).tmps := by
 subst h
 unfold lit
 simp only
 apply Array.ext
 ·simp
 ·intro k h1 h2
  simp only [Array.size_setIfInBounds, List.size_toArray, List.length_map, List.length_range] at h1
  by_cases hk : p = k
  ·subst hk
   simp [slotOf]
  ·simp [hk, slotOf]
theorem rgFrame1 {c : Code} {p : Nat} {v : Value} (h : WR ro P c Q (lit [] N X ((p, v) :: l)) w) : WR ro P c Q { tmps := (#[p].zip [v].toArray).foldl (fun t (p, v) => t.setIfInBounds p v) (lit ds N X l).tmps, defers := [] } w := by
 have e : (#[p].zip [v].toArray).foldl (fun t (p, v) => t.setIfInBounds p v) (lit ds N X l).tmps = (lit [] N X ((p, v) :: l)).tmps := by
  simp only [List.zip_toArray, List.zip_cons_cons, List.zip_nil_right, List.zip_nil_left, List.foldl_toArray', List.foldl_toArray, List.foldl_cons, List.foldl_nil]
  exact litSet (ds := ds) rfl
 rw [e]; exact h
theorem rgFrame2 {c : Code} {p q : Nat} {v u : Value} (h : WR ro P c Q (lit [] N X ((q, u) :: (p, v) :: l)) w) : WR ro P c Q { tmps := (#[p, q].zip [v, u].toArray).foldl (fun t (p, v) => t.setIfInBounds p v) (lit ds N X l).tmps, defers := [] } w := by
 have e : (#[p, q].zip [v, u].toArray).foldl (fun t (p, v) => t.setIfInBounds p v) (lit ds N X l).tmps = (lit [] N X ((q, u) :: (p, v) :: l)).tmps := by
  simp only [List.zip_toArray, List.zip_cons_cons, List.zip_nil_right, List.zip_nil_left, List.foldl_toArray', List.foldl_toArray, List.foldl_cons, List.foldl_nil]
  exact litSet (ds := ds) (litSet (ds := ds) rfl)
 rw [e]; exact h
theorem wpPrune {c : Code} (l' : List (Nat × Value)) (h : FrIs (lit ds N X l) l') (k : ∀ X', c.wp P Q (lit ds N X' l') w) : c.wp P Q (lit ds N X l) w := by
 obtain ⟨X', e⟩ := frLit (⟨litSize, rfl, h⟩ : Fr (ds := ds) (lit ds N X l) N l')
 rw [e]
 exact k X'
theorem rgDone {e : Exit} {D : Nat} (h : Q e (lit (mark D :: ds) N X l) w) : Q e { lit ds N X l with defers := mark D :: (lit ds N X l).defers } w := h
theorem wpPruneR {c : Code} (l' : List (Nat × Value)) (h : FrIs (lit ds N X l) l') (k : ∀ X', WR ro P c Q (lit ds N X' l') w) : WR ro P c Q (lit ds N X l) w := by
 obtain ⟨X', e⟩ := frLit (⟨litSize, rfl, h⟩ : Fr (ds := ds) (lit ds N X l) N l')
 rw [e]
 exact k X'
theorem aoStartR {id : Nat} {L0 : List Res} (val : Nat → List Nat → Value) (adr : Nat → List Nat) (L : (Nat → Bool) → (Nat → Nat) → List Res) (hd : noDefer ops.toList = true) (hk : Kept Q) (hm : Mem w0 w L0) (hmode : P.follows .mixedOrders = true)
 (hchk : aoCheck ops adr N = true) (hL : ∀ w', Mem w0 w' L0 → Mem w0 w' (L (fun _ => false) (fun _ => 0)))
 (hLb : ∀ (b : Nat → Bool) g, (∀ i, i < ops.toList.length → b i = false) → L b g = L (fun _ => false) g)
 (hstep : AoFrom ds P ops Q w0 (lit ds N X l) N val adr L 0)
 (hend : ∀ g a w, AoFin ds ops (lit ds N X l) N val adr g a → Mem w0 w (L (fun _ => true) g) → Q .normal a w) : WR ro P (.region id ops true) Q (lit ds N X l) w :=
 anyR hd hk hmode (aoAny val adr L hm hchk hL hLb hstep hend)
structure PLR (P : Program) (ops : Array Oper) (Q : Exit → Act → World → Prop) (i : Nat) (a : Act) (w : World) : Prop where
 out : wpListIn (WF none) 0 P ops Q (ops.toList.drop i) a w
theorem plrStart {id : Nat} {a : Act} (h : PLR P ops Q 0 a w) : WR none P (.region id ops false) Q a w := by
 have h1 := h.out
 rw [List.drop_zero] at h1
 exact wpIn_region_list h1
theorem plrOf {a : Act} (hi : ops.toList[i]? = some o) (h : wpListIn (WF none) 0 P ops Q (o :: ops.toList.drop (i + 1)) a w) : PLR P ops Q i a w := by
 refine ⟨?_⟩
 obtain ⟨hl, rfl⟩ := List.getElem?_eq_some_iff.1 hi
 rw [List.drop_eq_getElem_cons hl]
 exact h
theorem plrVal {a : Act} {v : Value} (hi : ops.toList[i]? = some o) (hw : Region.wanted o (yielded ops a.tmps) = true) (hr : (execOp a.eval o).run P w = .ok (.value v) w) (h : PLR P ops Q (i + 1) (a.put o.dst v) w) : PLR P ops Q i a w := by
 refine plrOf hi ?_
 unfold wpListIn
 rw [if_pos hw]
 refine ⟨fun _ _ => trivial, ?_⟩
 show o.uponIn _ _ _ _ _ _ ((execOp a.eval o).run P w)
 rw [hr]
 exact h.out
theorem yieldOp {a : Act} {next : Act → World → Prop} {c : Operand} {args : Array Operand} {argTypes : Array TypeId} {R : Ending → World → Prop} (lp : Nat) (vals : List Value) (ho : o.op = .call { callee := .value c, args, argTypes }) (hc : a.eval c = .func (.yield lp) #[] #[]) (hargs : args.toList.map a.eval = vals)
 (hY : YieldAt Fence.wide 0 P lp vals.toArray w R) (h : ∀ e w', R e w' → ∃ v, e = .returned v ∧ next (a.put o.dst v) w') : o.wpIn (WF none) 0 P a w next Q := by
 refine ⟨fun _ _ => trivial, ?_⟩
 obtain ⟨fn, tmps, assign, body, hy, hR⟩ := hY
 have hargs' : args.map a.eval = vals.toArray := by
  apply Array.ext'
  rw [Array.toList_map, hargs]
 show o.uponIn _ _ _ _ _ _ ((execOp a.eval o).run P w)
 have hrun : (execOp a.eval o).run P w = .ok (.round lp fn tmps assign body) w := by
  unfold execOp
  simp only [ho, resolve, hc, Deferred.ofValue, invoke, Sem.run_bind, Sem.run_pure, Result.andThen_ok, hargs']
  simpa using hy
 rw [hrun, Oper.uponIn_round]
 refine ⟨WF_deep _, RoundIn.mono hR fun e w' he => ?_⟩
 obtain ⟨v, rfl, hv⟩ := h e w' he
 exact hv
theorem plrD {a : Act} (h : Q .normal a w) (hi : ops.toList.length ≤ i := by decide) : PLR P ops Q i a w := by
 refine ⟨?_⟩
 rw [List.drop_eq_nil_of_le hi]
 exact h
end
end LD
section
variable {N : Nat} {X : Nat → Value} {l : List (Nat × Value)} {P : Program} {w w0 : World} {o : Oper} {ops : Array Oper} {Q : Exit → Act → World → Prop} {i : Nat}
open LD (PLR plrVal plrOf yieldOp)
theorem litValR0 {v : Value} {d : Nat} (hi : ops.toList[i]? = some o) (hw : Region.wanted o (yielded ops (lit N X l).tmps) = true) (hr : (execOp (lit N X l).eval o).run P w = .ok (.value v) w) (hd : o.dst = some d) (hN : (decide (d < N)) = true) (h : PLR P ops Q (i + 1) (lit N X ((d, v) :: l)) w) : PLR P ops Q i (lit N X l) w :=
 plrVal hi hw hr (by rw [hd, lit_put (of_decide_eq_true hN)]; exact h)
theorem lkR0 {v : Value} {d : Nat} (hi : ops.toList[i]? = some o) (hg : o.guard = none) (hd : o.dst = some d) (h : PLR P ops Q (i + 1) (lit N X ((d, v) :: l)) w) (hr : (execOp (litEval N X l) o).run P w = .ok (.value v) w := by kernel_rfl) (hN : (decide (d < N)) = true := by decide) : PLR P ops Q i (lit N X l) w :=
 litValR0 hi (wn hg) (litRun hr) hd hN h
theorem plrYield0 {c : Operand} {args : Array Operand} {argTypes : Array TypeId} {R : Ending → World → Prop} {d : Nat} (lp : Nat) (vals : List Value) (hi : ops.toList[i]? = some o) (hg : o.guard = none) (ho : o.op = .call { callee := .value c, args, argTypes }) (hc : (lit N X l).eval c = .func (.yield lp) #[] #[]) (hargs : args.toList.map (lit N X l).eval = vals)
 (hY : YieldAt Fence.wide 0 P lp vals.toArray w R) (hd : o.dst = some d) (hN : (decide (d < N)) = true) (h : ∀ e w', R e w' → ∃ v, e = .returned v ∧ PLR P ops Q (i + 1) (lit N X ((d, v) :: l)) w') : PLR P ops Q i (lit N X l) w := by
 refine plrOf hi ?_
 unfold wpListIn
 rw [if_pos (wn hg)]
 refine yieldOp lp vals ho hc hargs hY fun e w' he => ?_
 obtain ⟨v, h1, h2⟩ := h e w' he
 exact ⟨v, h1, by rw [hd, lit_put (of_decide_eq_true hN)]; exact h2.out⟩
end
theorem permY (L V M : List Res) : (V ++ (L ++ M)).Perm (L ++ (V ++ M)) := by
 rw [← List.append_assoc, ← List.append_assoc]
 exact List.Perm.append_right _ List.perm_append_comm
section
variable {P : Program} {w w0 : World} {M : List Res}
theorem Mem.nilFront {L : List Res} (h : Mem w0 w L) (e : TypeId) (size : Nat) : Mem w0 w (.row (.slice none 0 0) e size 0 [] :: L) := by
 refine (h.nilRow e size).permL ?_
 exact List.perm_append_comm (l₁ := [.row (.slice none 0 0) e size 0 []]) (l₂ := L)
theorem callsOfMarks {f : FuncId} {fn : Func} {c : Code} {args : Array Value} {R : Ending → World → Prop} (hf : P.funcs[f]? = some fn) (hb : fn.body = some c)
 (h : c.wp P (bodyPostM Fence.wide 0 P fn R) { tmps := args ++ Array.replicate (fn.ntmps - args.size) undef, defers := [] } w) : Calls P f args w R :=
 (callsIn_wide (n := 0)).1 (callsIn_of_wp_marks hf hb trivial (wpIn_wide.2 h) rfl)
theorem leaveMarks {fn : Func} {tmps : Array Value} {R : Ending → World → Prop} : ∀ (ds : List Nat) (w : World), Mem w0 w (ds.map defR ++ M) → (∀ w', Mem w0 w' M → ∃ v, (results fn tmps).run P w' = .ok v w' ∧ R (.returned v) w') → LeavesInM Fence.wide 0 P fn tmps R (ds.map mark) .returning w
 | [], w, hm, h => h w hm
 | D :: ds, w, hm, h => by
  have hD : w.heap[D]? = some (.deferred (some [])) := hm.any 0 rfl
  refine ⟨by simp, Or.inl ⟨D, _, rfl, run_takeDeferred hD, leaveMarks ds _ ?_ h⟩⟩
  exact (hm.putObj _ (I' := fun _ => True) trivial (fun _ _ _ _ => trivial)).sub (List.sublist_cons_self _ _)
theorem leaveMarksT {fn : Func} {tmps : Array Value} {R : Ending → World → Prop} (ds : List Nat) (hm : Mem w0 w (M ++ ds.map defR)) (h : ∀ w', Mem w0 w' M → ∃ v, (results fn tmps).run P w' = .ok v w' ∧ R (.returned v) w') : LeavesInM Fence.wide 0 P fn tmps R (ds.map mark) .returning w :=
 leaveMarks ds w (hm.permL List.perm_append_comm) h
theorem bodyPostM_ret {fn : Func} {R : Ending → World → Prop} {a : Act} (h : LeavesInM Fence.wide 0 P fn a.tmps R a.defers .returning w) : bodyPostM Fence.wide 0 P fn R .ret a w := h
theorem bodyPostM_end {fn : Func} {R : Ending → World → Prop} {a : Act} (h : LeavesInM Fence.wide 0 P fn a.tmps R a.defers .returning w) : bodyPostM Fence.wide 0 P fn R .normal a w := h
end
end Go.Proofs.YtbpihalphhoiaaaGreatDoor
namespace Go.Proofs.YtbpihalphhoiaaaGreatDoor
open Go.RowKit
section
variable {N : Nat} {X : Nat → Value} {l : List (Nat × Value)} {P : Program} {w w0 : World} {o : Oper} {ops : Array Oper} {Q : Exit → Act → World → Prop} {i : Nat} {listed : Array Bool} {fuel : Nat} {L : List Res} {a : Act} {K : Act → World → Prop}
theorem yStart {id : Nat} (hm : Mem w0 w L) (hmode : P.follows .mixedOrders = true) (h : ∀ w', Mem w0 w' L → wpAnyIn (WF none) 0 P .any ops Q ops.size (Array.replicate ops.size false) a w') : (Code.region id ops true).wp P Q a w :=
 ofWr (wpIn_region_any hmode (h _ hm.drew))
theorem yTake {v : Value} {d : Nat} (hi' : ops.toList[i]? = some o) (hf : mayFirst ops listed i = true) (hg : o.guard = none) (hQ : ∀ c a w, Q (.panic c) (a.put o.dst v) w → Q (.panic c) a w) (hd : o.dst = some d) (hr : ∀ w, (execOp (litEval N X l) o).run P w = .ok (.value v) w) (hab : ∀ w, o.about P w (litEval N X l) = none) (hN : (decide (d < N)) = true)
 (h : wpAnyIn (WF none) 0 P .any ops Q fuel (listed.setIfInBounds i true) (lit N X ((d, v) :: l)) w) : wpAnyIn (WF none) 0 P .any ops Q (fuel + 1) listed (lit N X l) w := by
 have hi : ops[i]? = some o := by rw [← hi']; simp
 simp only [mayFirst, Bool.and_eq_true] at hf
 refine wpAnyIn_take rfl hi hf.1.1 hf.1.2 hf.2 hQ ⟨Or.inl ⟨wn hg, fun w => by rw [lit_eval]; exact hr w⟩, fun w => by rw [lit_eval]; exact hab w⟩ ?_
 rw [hd, lit_put (of_decide_eq_true hN)]
 exact h
theorem yOne (hr : Region.ready .any ops listed = [i]) (h : wpOpIn (WF none) 0 P ops Q i (wpAnyIn (WF none) 0 P .any ops Q fuel (listed.setIfInBounds i true)) a w) : wpAnyIn (WF none) 0 P .any ops Q (fuel + 1) listed a w :=
 wpAnyIn_all hr (by simp) fun j hj => by rw [List.mem_singleton] at hj; subst hj; exact h
theorem yTwo {j : Nat} (hr : Region.ready .any ops listed = [i, j]) (h1 : wpOpIn (WF none) 0 P ops Q i (wpAnyIn (WF none) 0 P .any ops Q fuel (listed.setIfInBounds i true)) a w) (h2 : wpOpIn (WF none) 0 P ops Q j (wpAnyIn (WF none) 0 P .any ops Q fuel (listed.setIfInBounds j true)) a w) : wpAnyIn (WF none) 0 P .any ops Q (fuel + 1) listed a w :=
 wpAnyIn_all hr (by simp) fun k hk => by
  rcases List.mem_cons.1 hk with rfl | hk
  ·exact h1
  ·rw [List.mem_singleton] at hk; subst hk; exact h2
theorem yVal {v : Value} {d : Nat} (hi' : ops.toList[i]? = some o) (hg : o.guard = none) (hr : (execOp (lit N X l).eval o).run P w = .ok (.value v) w) (hd : o.dst = some d) (hN : (decide (d < N)) = true) (h : K (lit N X ((d, v) :: l)) w) : wpOpIn (WF none) 0 P ops Q i K (lit N X l) w := by
 have hi : ops[i]? = some o := by rw [← hi']; simp
 unfold wpOpIn
 rw [hi]
 simp only [wn hg, if_true]
 refine ⟨fun _ _ => trivial, ?_⟩
 show o.uponIn _ _ _ _ _ _ ((execOp (lit N X l).eval o).run P w)
 rw [hr]
 show K ((lit N X l).put o.dst v) w
 rw [hd, lit_put (of_decide_eq_true hN)]
 exact h
theorem yCall {c : Operand} {args : Array Operand} {argTypes : Array TypeId} {R : Ending → World → Prop} {d : Nat} (f : FuncId) (vals : List Value) (hd0 : noDefer ops.toList = true) (hk : Kept Q) (hi' : ops.toList[i]? = some o) (hf : callable P f = true) (hg : o.guard = none) (ho : o.op = .call { callee := .value c, args, argTypes }) (hc : (lit N X l).eval c = .func (.func f) #[] #[]) (hargs : args.toList.map (lit N X l).eval = vals)
 (hC : Calls P f vals.toArray w R) (hd : o.dst = some d) (hN : (decide (d < N)) = true) (h : ∀ e w', R e w' → ∃ v, e = .returned v ∧ K (lit N X ((d, v) :: l)) w') : wpOpIn (WF none) 0 P ops Q i K (lit N X l) w := by
 have hi : ops[i]? = some o := by rw [← hi']; simp
 refine wpOp_lift hd0 hk (wpOp_of_list hi (callOp f vals [] [] hf (wn hg) ho hc hargs ?_))
 have e : ([] ++ vals ++ [] : List Value).toArray = vals.toArray := by simp
 rw [e]
 refine hC.mono fun e w' he => ?_
 obtain ⟨v, h1, h2⟩ := h e w' he
 refine ⟨v, h1, ?_⟩
 show K ((lit N X l).put o.dst v) w'
 rw [hd, lit_put (of_decide_eq_true hN)]
 exact h2
theorem yYield {c : Operand} {args : Array Operand} {argTypes : Array TypeId} {R : Ending → World → Prop} {d : Nat} (lp : Nat) (vals : List Value) (hi' : ops.toList[i]? = some o) (hg : o.guard = none) (ho : o.op = .call { callee := .value c, args, argTypes }) (hc : (lit N X l).eval c = .func (.yield lp) #[] #[]) (hargs : args.toList.map (lit N X l).eval = vals)
 (hY : YieldAt Fence.wide 0 P lp vals.toArray w R) (hd : o.dst = some d) (hN : (decide (d < N)) = true) (h : ∀ e w', R e w' → ∃ v, e = .returned v ∧ K (lit N X ((d, v) :: l)) w') : wpOpIn (WF none) 0 P ops Q i K (lit N X l) w := by
 have hi : ops[i]? = some o := by rw [← hi']; simp
 unfold wpOpIn
 rw [hi]
 simp only [wn hg, if_true]
 refine LD.yieldOp lp vals ho hc hargs hY fun e w' he => ?_
 obtain ⟨v, h1, h2⟩ := h e w' he
 exact ⟨v, h1, by rw [hd, lit_put (of_decide_eq_true hN)]; exact h2⟩
end
end Go.Proofs.YtbpihalphhoiaaaGreatDoor
namespace Go.Proofs.YtbpihalphhoiaaaGreatDoor
structure Pt where
 x : Int
 y : Int
 z : Int
deriving DecidableEq
def p0 : Pt := ⟨0, 0, 0⟩
def Pt.rng (p : Pt) : Prop := (-1048575 ≤ p.x ∧ p.x ≤ 1048575) ∧ (-1048575 ≤ p.y ∧ p.y ≤ 1048575) ∧ (-1048575 ≤ p.z ∧ p.z ≤ 1048575)
instance (p : Pt) : Decidable p.rng := by unfold Pt.rng; infer_instance
structure Bx where
 mn : Pt
 mx : Pt
deriving DecidableEq
def Bx.has (b : Bx) (p : Pt) : Prop := (b.mn.x ≤ p.x ∧ p.x < b.mx.x) ∧ (b.mn.y ≤ p.y ∧ p.y < b.mx.y) ∧ (b.mn.z ≤ p.z ∧ p.z < b.mx.z)
instance (b : Bx) (p : Pt) : Decidable (b.has p) := by unfold Bx.has; infer_instance
def Bx.none (b : Bx) : Prop := b.mx.x ≤ b.mn.x ∨ b.mx.y ≤ b.mn.y ∨ b.mx.z ≤ b.mn.z
instance (b : Bx) : Decidable b.none := by unfold Bx.none; infer_instance
def Pt.sub (p q : Pt) : Pt := ⟨p.x - q.x, p.y - q.y, p.z - q.z⟩
def Pt.add (p q : Pt) : Pt := ⟨p.x + q.x, p.y + q.y, p.z + q.z⟩
def Bx.size (b : Bx) : Pt := if b.none then p0 else b.mx.sub b.mn
def Bx.vol (b : Bx) : Int := b.size.x * b.size.y * b.size.z
def Bx.idx (b : Bx) (p : Pt) : Int := if b.has p then (p.x - b.mn.x) + b.size.x * ((p.y - b.mn.y) + b.size.y * (p.z - b.mn.z)) else -1
end Go.Proofs.YtbpihalphhoiaaaGreatDoor
namespace Go.Proofs.YtbpihalphhoiaaaGreatDoor
open Go.RowKit
def pcs (p : Pt) : List Value := [.int .i64 p.x, .int .i64 p.y, .int .i64 p.z]
def bxs (b : Bx) : List Value := pcs b.mn ++ pcs b.mx
def ptsC (l : List Pt) : List Value := l.flatMap pcs
def RetV (w : World) (v : Value) (e : Ending) (w' : World) : Prop := e = .returned v ∧ Below w.heap.size w w'
theorem pcs_inj {p q : Pt} : pcs p = pcs q ↔ p = q := by
 cases p; cases q
 simp [pcs]
section
variable {P : Program} {w : World} {o : Oper} {a : Act} {t ty : TypeId}
theorem eqPtRun (x y : Operand) (p q : Pt) (hf : flatInts P 2 t = true) (hu : ((P.underlying t).map fun d => match d with | .struct _ => true | _ => false) = some true) (hg : P.eqGuardType P.depth t = false) (hl : 3 = P.cellsOf t)
 (ho : o.op = .binOp .eql t x y ty) (hx : a.eval x = .agg (pcs p).toArray) (hy : a.eval y = .agg (pcs q).toArray) : (execOp a.eval o).run P w = .ok (.value (.bool (decide (p = q)))) w := by
 exact eqlAgRun 1 x y (pcs p) (pcs q) (decide (p = q)) (by rw [decide_eq_true_iff, pcs_inj]) hf rfl hu hg hl rfl ho hx hy
theorem neqPtRun (x y : Operand) (p q : Pt) (hf : flatInts P 2 t = true) (hu : ((P.underlying t).map fun d => match d with | .struct _ => true | _ => false) = some true) (hg : P.eqGuardType P.depth t = false) (hl : 3 = P.cellsOf t)
 (ho : o.op = .binOp .neq t x y ty) (hx : a.eval x = .agg (pcs p).toArray) (hy : a.eval y = .agg (pcs q).toArray) : (execOp a.eval o).run P w = .ok (.value (.bool !decide (p = q))) w := by
 exact neqAgRun 1 x y (pcs p) (pcs q) (decide (p = q)) (by rw [decide_eq_true_iff, pcs_inj]) hf rfl hu hg hl rfl ho hx hy
theorem mulRun' {A B C : Int} (x y : Operand) (ho : o.op = .binOp .mul t x y ty) (hx : a.eval x = .int .i64 A) (hy : a.eval y = .int .i64 B) (hC : A * B = C) (h : -9223372036854775808 ≤ C ∧ C ≤ 9223372036854775807) : (execOp a.eval o).run P w = .ok (.value (.int .i64 C)) w := by
 have hw := IntWalk.i64_in C h
 subst hC
 unfold execOp
 simp [ho, hx, hy, eqGuard, binOp_mul, Op.intArith, hw]
end
theorem ptsC_cons (p : Pt) (l : List Pt) : ptsC (p :: l) = pcs p ++ ptsC l := rfl
theorem ptsC_app (l m : List Pt) : ptsC (l ++ m) = ptsC l ++ ptsC m := List.flatMap_append
theorem ptsC_get {p : Pt} : ∀ {l : List Pt} {k : Nat}, l[k]? = some p → ∀ (i : Nat) (u : Value), (pcs p)[i]? = some u → (ptsC l)[k * 3 + i]? = some u
 | [], k, h, _, _, _ => by simp at h
 | q :: l, 0, h, i, u, hu => by
  simp at h; subst h
  have hi : i < 3 := (List.getElem?_eq_some_iff.1 hu).1
  rw [ptsC_cons, List.getElem?_append_left (by show _ < 3; omega), Nat.zero_mul, Nat.zero_add]
  exact hu
 | q :: l, k + 1, h, i, u, hu => by
  rw [ptsC_cons, List.getElem?_append_right (by show 3 ≤ _; omega)]
  have e : (k + 1) * 3 + i - (pcs q).length = k * 3 + i := by show (k + 1) * 3 + i - 3 = _; omega
  rw [e]
  exact ptsC_get (l := l) (by simpa using h) i u hu
end Go.Proofs.YtbpihalphhoiaaaGreatDoor
namespace Go.Proofs.YtbpihalphhoiaaaGreatDoor
def Pt.at (p : Pt) : Nat → Int
 | 0 => p.x
 | 1 => p.y
 | _ => p.z
def encL : Nat → Nat → Nat → Nat → Nat
 | 0, _, _, _ => 0
 | l + 1, x, y, z => 8 * encL l (x / 2) (y / 2) (z / 2) + (x % 2 + 2 * (y % 2) + 4 * (z % 2))
def decL : Nat → Nat → Nat
 | 0, _ => 0
 | l + 1, n => 2 * decL l (n / 8) + n % 2
def dig (x y z i : Nat) : Nat := x / 2 ^ i % 2 + 2 * (y / 2 ^ i % 2) + 4 * (z / 2 ^ i % 2)
theorem dig_half (x y z i : Nat) : dig (x / 2) (y / 2) (z / 2) i = dig x y z (i + 1) := by
 unfold dig
 rw [Nat.div_div_eq_div_mul, Nat.div_div_eq_div_mul, Nat.div_div_eq_div_mul, Nat.pow_succ, Nat.mul_comm (2 ^ i) 2]
theorem encL_lt : ∀ (l x y z : Nat), encL l x y z < 8 ^ l
 | 0, _, _, _ => by simp [encL]
 | l + 1, x, y, z => by
  have h := encL_lt l (x / 2) (y / 2) (z / 2)
  rw [Nat.pow_succ]
  show 8 * encL l (x / 2) (y / 2) (z / 2) + (x % 2 + 2 * (y % 2) + 4 * (z % 2)) < _
  omega
theorem encL_top : ∀ (l x y z : Nat), encL (l + 1) x y z = encL l x y z + 8 ^ l * dig x y z l
 | 0, x, y, z => by simp [encL, dig]
 | l + 1, x, y, z => by
  have h := encL_top l (x / 2) (y / 2) (z / 2)
  rw [dig_half] at h
  rw [encL, h]
  show _ = 8 * encL l (x / 2) (y / 2) (z / 2) + (x % 2 + 2 * (y % 2) + 4 * (z % 2)) + _
  rw [Nat.pow_succ, Nat.mul_add, Nat.mul_comm (8 ^ l) 8, Nat.mul_assoc]
  omega
theorem decL_lt : ∀ (l n : Nat), decL l n < 2 ^ l
 | 0, _ => by simp [decL]
 | l + 1, n => by
  have h := decL_lt l (n / 8)
  rw [Nat.pow_succ]
  show 2 * decL l (n / 8) + n % 2 < _
  omega
theorem decL_top : ∀ (l n : Nat), decL (l + 1) n = decL l n + 2 ^ l * (n / 8 ^ l % 2)
 | 0, n => by simp [decL]
 | l + 1, n => by
  have h := decL_top l (n / 8)
  rw [decL, h, Nat.div_div_eq_div_mul]
  show _ = 2 * decL l (n / 8) + n % 2 + _
  rw [Nat.pow_succ 8, Nat.pow_succ 2, Nat.mul_comm (8 ^ l) 8, Nat.mul_comm (2 ^ l) 2, Nat.mul_add, Nat.mul_assoc]
  omega
def Pt.In (p : Pt) : Prop := (0 ≤ p.x ∧ p.x < 16384) ∧ (0 ≤ p.y ∧ p.y < 16384) ∧ (0 ≤ p.z ∧ p.z < 16384)
instance (p : Pt) : Decidable p.In := by unfold Pt.In; infer_instance
theorem Pt.In.at_ {p : Pt} (h : p.In) (k : Nat) : 0 ≤ p.at k ∧ p.at k < 16384 := by
 unfold Pt.at
 split
 ·exact h.1
 ·exact h.2.1
 ·exact h.2.2
theorem Pt.In.of {p : Pt} (h : ∀ k, k < 3 → 0 ≤ p.at k ∧ p.at k < 16384) : p.In := ⟨h 0 (by omega), h 1 (by omega), h 2 (by omega)⟩
def mEnc (p : Pt) : Int := if p.In then (encL 14 p.x.toNat p.y.toNat p.z.toNat : Int) else -1
def mDecP (n : Nat) : Pt := ⟨(decL 14 n : Int), (decL 14 (n / 2) : Int), (decL 14 (n / 4) : Int)⟩
def mDec (n : Int) : Pt × Bool := if 0 ≤ n ∧ n < 4398046511104 then (mDecP n.toNat, true) else (⟨0, 0, 0⟩, false)
theorem mEnc_out {p : Pt} (h : ¬ p.In) : mEnc p = -1 := by unfold mEnc; rw [if_neg h]
end Go.Proofs.YtbpihalphhoiaaaGreatDoor
namespace Go.Proofs.YtbpihalphhoiaaaGreatDoor
open Go.RowKit
theorem res_cellslot {P : Program} {w : World} {fn : Func} {p q : Tmp} {ty : TypeId} {z : Array Value} {n b : Nat} (cs : List Value) (h : fn.results = #[.cell p ty, .tmp q]) (T : AgTy P ty z n) (tmps : Array Value) {v : Value}
 (hp : tmps.getD p undef = .pointer (some ⟨b, 0, none⟩)) (hq : tmps.getD q undef = v) (hl : cs.length = n) {t : TypeId} (hA : Arr w b t cs) :
 (results fn tmps).run P w = .ok (.tuple #[.agg cs.toArray, v]) w := by
 have hr := run_loadAgg (P := P) (w := w) T b 0 cs hl (fun j u hu => by rw [Nat.zero_add]; exact hA.cell hu)
 have hp' : tmps[p]?.getD undef = .pointer (some ⟨b, 0, none⟩) := by simpa using hp
 have hq' : tmps[q]?.getD undef = v := by simpa using hq
 simp only [results, h]
 simp [hp', hq', asAddr, hr]
theorem pcs_get (p : Pt) {k : Nat} (h : k < 3) : (pcs p)[k]? = some (.int .i64 (p.at k)) := by
 rcases (by omega : k = 0 ∨ k = 1 ∨ k = 2) with rfl | rfl | rfl <;> rfl
theorem pcs_one (p : Pt) : ∀ u ∈ pcs p, u.oneCell' = true := by
 intro u hu
 unfold pcs at hu
 simp only [List.mem_cons, List.not_mem_nil, or_false] at hu
 rcases hu with rfl | rfl | rfl <;> rfl
theorem Tryz.ag_pt : AgTy Tryz.prog 23 (pcs p0).toArray 3 := ⟨by kernel_rfl, by kernel_rfl, by kernel_rfl⟩
theorem Tryz.ag_i3 : AgTy Tryz.prog 120 (pcs p0).toArray 3 := ⟨by kernel_rfl, by kernel_rfl, by kernel_rfl⟩
theorem Tryz.und_i3 : Tryz.prog.underlying 120 = some (.array 3 3) := by kernel_rfl
def RetP (w : World) (p : Pt) (e : Ending) (w' : World) : Prop := e = .returned (.agg (pcs p).toArray) ∧ Below w.heap.size w w'
def RetI (w : World) (n : Int) (e : Ending) (w' : World) : Prop := e = .returned (.int .i64 n) ∧ Below w.heap.size w w'
def RetB (w : World) (b : Bool) (e : Ending) (w' : World) : Prop := e = .returned (.bool b) ∧ Below w.heap.size w w'
theorem array_any (p : Pt) (w : World) : Calls Tryz.prog 125 #[.agg (pcs p).toArray] w (RetP w p) := by
 go_enter Tryz.func125, Tryz.ntmps125
 go_wp2_with (with_reducible refine bxArr (cs := pcs p) (.tmp 0) (wn rfl) rfl rfl ?_)
 intro w1 h1 b1
 go_wp2_with (with_reducible refine alArr (z := pcs p0) Tryz.ag_i3 (wn rfl) rfl ?_)
 intro w2 h2 b2
 have l1 := h1.lt
 have hs := b1.size
 replace h1 := h1.below b2 l1
 have hb := b1.trans (b2.mono hs)
 clear b1 b2
 have c0 := h1.cell (i := 0) (v := .int .i64 p.x) rfl
 have c1 := h1.cell (i := 1) (v := .int .i64 p.y) rfl
 have c2 := h1.cell (i := 2) (v := .int .i64 p.z) rfl
 go_wp2_with (with_reducible refine stArrG (cs := pcs p) (.tmp 2) (.tmp 9) Tryz.ag_i3 (wn rfl) rfl rfl kr_ h2 rfl rfl (pcs_one _) ?_)
 intro w3 h3 hg
 go_wp2_with fail
 refine bodyPost_ret (v := .agg (pcs p).toArray) ?_ rfl ⟨rfl, hb.grown hg hb.size (fun k e => by cases e; exact hs)⟩
 exact res_cell1 _ Tryz.results125 Tryz.ag_i3 _ rfl rfl (fun j u hu => by rw [Nat.zero_add]; exact h3.cell hu)
theorem point_any (p : Pt) (w : World) : Calls Tryz.prog 126 #[.agg (pcs p).toArray] w (RetP w p) := by
 go_enter Tryz.func126, Tryz.ntmps126
 go_wp2_with (with_reducible refine bxArr (cs := pcs p) (.tmp 0) (wn rfl) rfl rfl ?_)
 intro w1 h1 b1
 go_wp2_with (with_reducible refine alArr (z := pcs p0) Tryz.ag_pt (wn rfl) rfl ?_)
 intro w2 h2 b2
 have l1 := h1.lt
 have hs := b1.size
 replace h1 := h1.below b2 l1
 have hb := b1.trans (b2.mono hs)
 clear b1 b2
 have c0 := h1.cell (i := 0) (v := .int .i64 p.x) rfl
 have c1 := h1.cell (i := 1) (v := .int .i64 p.y) rfl
 have c2 := h1.cell (i := 2) (v := .int .i64 p.z) rfl
 go_wp2_with (with_reducible refine stArrG (cs := pcs p) (.tmp 2) (.tmp 9) Tryz.ag_pt (wn rfl) rfl rfl kr_ h2 rfl rfl (pcs_one _) ?_)
 intro w3 h3 hg
 go_wp2_with fail
 refine bodyPost_ret (v := .agg (pcs p).toArray) ?_ rfl ⟨rfl, hb.grown hg hb.size (fun k e => by cases e; exact hs)⟩
 exact res_cell1 _ Tryz.results126 Tryz.ag_pt _ rfl rfl (fun j u hu => by rw [Nat.zero_add]; exact h3.cell hu)
theorem inside_any (p : Pt) (w : World) : Calls Tryz.prog 124 #[.agg (pcs p).toArray] w (RetB w (decide p.In)) := by
 go_enter Tryz.func124, Tryz.ntmps124
 go_wp2_with (with_reducible refine bxArr (cs := pcs p) (.tmp 0) (wn rfl) rfl rfl ?_)
 intro w1 h1 b1
 go_wp2_with (with_reducible refine ldArr (.tmp 1) Tryz.ag_pt (wn rfl) rfl rfl rfl h1 ?_)
 refine (array_any p _).mono ?_
 rintro e w2 ⟨rfl, b2⟩
 have hb := b1.trans (b2.mono b1.size)
 clear b1 b2 h1
 go_wp2_with fail
 go_loopw [7] (fun c wr => ∃ k : Nat, k ≤ 3 ∧ c = .int .i64 (k : Int) ∧ Hid (∀ j, j < k → 0 ≤ p.at j ∧ p.at j < 16384) ∧ wr = w2) (fun c _ => 3 - (intOf c).toNat)
 case atStart => exact ⟨0, by omega, rfl, Lib.hid (fun j h => by omega), rfl⟩
 case round =>
  obtain ⟨k, hk, rfl, HK, rfl⟩ := hrel
  by_cases hlt : k < 3
  ·have hg := pcs_get p hlt
   have HX : Hid (0 ≤ p.at k → p.at k < 16384 → ∀ j, j < k + 1 → 0 ≤ p.at j ∧ p.at j < 16384) := Lib.hid (fun e1 e2 j h => by
    by_cases hjk : j = k
    ·subst hjk; exact ⟨e1, e2⟩
    ·exact HK.out j (by omega))
   have HB : Hid (¬ (0 ≤ p.at k ∧ p.at k < 16384) → decide p.In = false) := Lib.hid (fun h => by
    rw [decide_eq_false_iff_not]
    exact fun hi => h (hi.at_ k))
   clear HK
   generalize p.at k = v at *
   by_cases h0 : v < 0
   ·go_wp2_with (with_reducible refine ixArr (.tmp 6) (.tmp 7) k _ Tryz.und_i3 Tryz.und_int Tryz.one_int (wn rfl) rfl rfl rfl rfl hg rfl ?_)
    go_ret
    exact ⟨by rw [HB.out (by omega)]; rfl, hb⟩
   ·by_cases h16 : v < 16384
    ·have HX2 := Lib.hid (HX.out (by omega) (by omega))
     go_wp2_with (with_reducible refine ixArr (.tmp 6) (.tmp 7) k _ Tryz.und_i3 Tryz.und_int Tryz.one_int (wn rfl) rfl rfl rfl rfl hg rfl ?_)
     refine ⟨⟨k + 1, by omega, by simp, HX2, trivial⟩, ?_⟩
     simp [intOf]; omega
    ·go_wp2_with (with_reducible refine ixArr (.tmp 6) (.tmp 7) k _ Tryz.und_i3 Tryz.und_int Tryz.one_int (wn rfl) rfl rfl rfl rfl hg rfl ?_)
     go_ret
     exact ⟨by rw [HB.out (by omega)]; rfl, hb⟩
  ·obtain rfl : k = 3 := by omega
   have HI : Hid (decide p.In = true) := Lib.hid (by rw [decide_eq_true_iff]; exact Pt.In.of HK.out)
   go_wp2_with fail
   go_ret
   exact ⟨by rw [HI.out]; rfl, hb⟩
end Go.Proofs.YtbpihalphhoiaaaGreatDoor
