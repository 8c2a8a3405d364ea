/-
  Regions that draw their order, taken by hand: as XReg, but the condition on the world is wanted only until operation c is listed, where c waits for all operations that are taken first: what comes behind it (the call turns the world, its result is stored) is free. No statement is proved here.
-/
import Derived.Test.YtpbebmbkcpdbeaaFloat
namespace Go.Proofs.Ytpbebmbkcpdbeaa
open Go.RowKit

/-- Operation k waits for operation p, or for one of D that does. -/
def reachD (ops : Array Oper) (D : List Nat) : Nat → Nat → Nat → Bool
  | 0, k, p => waitsFor ops k p
  | f + 1, k, p => waitsFor ops k p || D.any fun q => waitsFor ops k q && reachD ops D f q p
def closedD (ops : Array Oper) (D : List Nat) (listed : Array Bool) : Bool := D.all fun q => !listed.getD q true || D.all fun p => !waitsFor ops q p || listed.getD p true
theorem closedD_spec {ops : Array Oper} {D : List Nat} {listed : Array Bool} (h : closedD ops D listed = true) {q p : Nat} (hq : q ∈ D) (hp : p ∈ D) (hl : listed.getD q true = true) (hw : waitsFor ops q p = true) : listed.getD p true = true := by
  have h1 := List.all_eq_true.1 h q hq
  rw [hl] at h1
  have h2 := List.all_eq_true.1 (by simpa using h1 : (D.all fun p => !waitsFor ops q p || listed.getD p true) = true) p hp
  rw [hw] at h2
  simpa using h2
theorem reachD_listed {ops : Array Oper} {D : List Nat} {listed : Array Bool} (hc : closedD ops D listed = true) {p : Nat} (hp : p ∈ D) :
    ∀ (f k : Nat), (∀ q ∈ D, waitsFor ops k q = true → listed.getD q true = true) → reachD ops D f k p = true → listed.getD p true = true
  | 0, _, hk, h => hk p hp h
  | f + 1, k, hk, h => by
    unfold reachD at h
    rw [Bool.or_eq_true] at h
    rcases h with h | h
    · exact hk p hp h
    · obtain ⟨q, hq, h2⟩ := List.any_eq_true.1 h
      rw [Bool.and_eq_true] at h2
      exact reachD_listed hc hp f q (fun r hr hw => closedD_spec hc hq hr (hk q hq h2.1) hw) h2.2
theorem waits_ready {ops : Array Oper} {listed : Array Bool} {j q : Nat} (hj : j ∈ Region.ready .any ops listed) (hw : waitsFor ops j q = true) : listed.getD q true = true := by
  obtain ⟨_, oj, hoj, hall⟩ := mem_ready.1 hj
  unfold waitsFor at hw
  rw [show ops.toList[j]? = some oj by rw [← hoj]; simp] at hw
  simp only [Option.map_some, Option.getD_some] at hw
  obtain ⟨e, he, hb⟩ := Array.any_eq_true'.1 hw
  simp only [Bool.and_eq_true, beq_iff_eq] at hb
  have h1 := hall e he hb.1
  rw [hb.2] at h1
  rcases Nat.lt_or_ge q listed.size with h' | h'
  · simp [h'] at h1 ⊢
    exact h1
  · simp [h']
theorem closedD_set {ops : Array Oper} {D : List Nat} {listed : Array Bool} {j : Nat} (hc : closedD ops D listed = true) (hj : j ∈ Region.ready .any ops listed) : closedD ops D (listed.setIfInBounds j true) = true := by
  refine List.all_eq_true.2 fun q hq => ?_
  cases hl : (listed.setIfInBounds j true).getD q true with
  | false => rfl
  | true =>
    simp only [Bool.not_true, Bool.false_or]
    refine List.all_eq_true.2 fun p hp => ?_
    cases hw : waitsFor ops q p with
    | false => rfl
    | true =>
      simp only [Bool.not_true, Bool.false_or]
      by_cases hpj : p = j
      · subst hpj
        by_cases hlt : p < listed.size
        · simp [hlt]
        · simp [hlt]
      · rw [getD_set_ne true (Ne.symm hpj)]
        by_cases hqj : q = j
        · subst hqj; exact waits_ready hj hw
        · rw [getD_set_ne true (Ne.symm hqj)] at hl
          exact closedD_spec hc hq hp hl hw
section
variable {P : Program} {ops : Array Oper} {Q : Exit → Act → World → Prop} {S : World → Prop} {c : Nat} {D : List Nat} {listed : Array Bool} {a : Act} {w : World} {fuel : Nat}
/-- Whatever order is picked, and S holds as long as operation c is not listed. -/
def wpAnyL (P : Program) (ops : Array Oper) (Q : Exit → Act → World → Prop) (S : World → Prop) (c : Nat) : Nat → Array Bool → Act → World → Prop
  | 0, listed, a, w => Region.ready .any ops listed = [] ∧ Q .normal a w
  | fuel + 1, listed, a, w =>
    (Region.ready .any ops listed = [] → Q .normal a w) ∧
    ∀ i ∈ Region.ready .any ops listed, wpOp P ops Q i (fun a' w' => ((listed.setIfInBounds i true).getD c true = false → S w') ∧ wpAnyL P ops Q S c fuel (listed.setIfInBounds i true) a' w') a w
theorem wpAny_of_L : ∀ (fuel : Nat) (listed : Array Bool) (a : Act) (w : World), wpAnyL P ops Q S c fuel listed a w → wpAny P .any ops Q fuel listed a w
  | 0, _, _, _, h => h
  | fuel + 1, _, _, _, h => ⟨h.1, fun i hi => wpOp_mono (fun a' w' h' => wpAny_of_L fuel _ a' w' h'.2) (h.2 i hi)⟩
theorem wpAnyL_first {i f : Nat} {oi : Oper} {v : Value} (hi : ops[i]? = some oi) (hsel : ∀ (j : Nat) (o : Oper) cs b, ops[j]? = some o → o.op ≠ .select cs b)
    (hQ : ∀ c a w, Q (.panic c) (a.put oi.dst v) w → Q (.panic c) a w) (hD : i ∈ D) (hcr : reachD ops D f c i = true) (hne : i ≠ c) :
    ∀ (fuel : Nat) (listed : Array Bool) (a : Act) (w : World), listed.getD c true = false → closedD ops D listed = true →
      (∀ j oj, ops[j]? = some oj → j ≠ i → listed.getD j true = false → (∀ e ∈ oj.after, Region.binds .any e = true → e.on ≠ i) → oi.apart ops oj = true) →
      i ∈ Region.ready .any ops listed → YieldsIf P ops S oi v a → S w →
      wpAnyL P ops Q S c fuel (listed.setIfInBounds i true) (a.put oi.dst v) w → wpAnyL P ops Q S c (fuel + 1) listed a w := by
  intro fuel
  induction fuel with
  | zero =>
    intro listed a w _ _ _ hr hy hS H
    refine ⟨fun h => (by rw [h] at hr; cases hr), fun j hj => ?_⟩
    by_cases hji : j = i
    · subst hji; exact hy.wpOp hi hS ⟨fun _ => hS, H⟩
    · have := ready_mono hj hji
      rw [H.1] at this
      cases this
  | succ fuel ih =>
    intro listed a w hc hcl hfree hr hy hS H
    refine ⟨fun h => (by rw [h] at hr; cases hr), fun j hj => ?_⟩
    by_cases hji : j = i
    · subst hji; exact hy.wpOp hi hS ⟨fun _ => hS, H⟩
    · have h1 := H.2 j (ready_mono hj hji)
      obtain ⟨hjun, oj, hoj, hall⟩ := mem_ready.1 hj
      have hnot : ∀ e ∈ oj.after, Region.binds .any e = true → e.on ≠ i := fun e he hb heq => by
        have h1 := hall e he hb
        have h0 := (mem_ready.1 hr).1
        rw [heq] at h1
        rcases Nat.lt_or_ge i listed.size with h' | h'
        · simp [h'] at h0 h1; rw [h0] at h1; cases h1
        · simp [Array.getElem?_eq_none h'] at h1
      have hjc : j ≠ c := fun e => by
        subst e
        have h2 := reachD_listed hcl hD f j (fun q _ hw => waits_ready hj hw) hcr
        have h0 := (mem_ready.1 hr).1
        rw [h0] at h2
        cases h2
      have hcj : (listed.setIfInBounds j true).getD c true = false := by rw [getD_set_ne true hjc]; exact hc
      have h2 := wpOp_putIf hoj (hfree j oj hoj hji hjun hnot) (fun cs b => hsel i oi cs b hi) (fun cs b => hsel j oj cs b hoj) hQ hy h1
      have hfree' : ∀ k ok, ops[k]? = some ok → k ≠ i → (listed.setIfInBounds j true).getD k true = false →
          (∀ e ∈ ok.after, Region.binds .any e = true → e.on ≠ i) → oi.apart ops ok = true := fun k ok hk hki hun hno => by
        refine hfree k ok hk hki ?_ hno
        by_cases hjk : j = k
        · subst hjk; exact hjun
        · rw [getD_set_ne true hjk] at hun; exact hun
      refine wpOp_mono (fun a' w' h3 => ?_) h2
      have hS' : S w' := h3.2.1 (by rw [getD_set_ne true hjc, getD_set_ne true hne]; exact hc)
      refine ⟨fun _ => hS', ih (listed.setIfInBounds j true) a' w' hcj (closedD_set hcl hj) hfree' (ready_mono hr (Ne.symm hji)) h3.1 hS' ?_⟩
      rw [Array.setIfInBounds_comm _ _ hji]
      exact h3.2.2
theorem lgStart {id : Nat} (S : World → Prop) (c : Nat) (hm : P.follows .mixedOrders = true) (h : wpAnyL P ops Q S c ops.size (Array.replicate ops.size false) a w.drew) : (Code.region id ops true).wp P Q a w :=
  wp_region_any hm (wpAny_of_L _ _ _ _ h)
/-- An operation taken first, that operation c waits for. -/
theorem lgTake (D : List Nat) {i : Nat} {o : Oper} {v : Value} (hi' : ops.toList[i]? = some o) (hm : (mayFirst ops listed i && D.contains i && reachD ops D 8 c i && closedD ops D listed && !(i == c) && !listed.getD c true) = true) (hw : Region.wanted o (yielded ops a.tmps) = true)
    (hQ : ∀ c a w, Q (.panic c) (a.put o.dst v) w → Q (.panic c) a w) (hy : ∀ w, S w → (execOp a.eval o).run P w = .ok (.value v) w) (hS : S w)
    (h : wpAnyL P ops Q S c fuel (listed.setIfInBounds i true) (a.put o.dst v) w) : wpAnyL P ops Q S c (fuel + 1) listed a w := by
  have hi : ops[i]? = some o := by rw [← hi']; simp
  simp only [Bool.and_eq_true, Bool.not_eq_true', beq_eq_false_iff_ne, ne_eq] at hm
  obtain ⟨⟨⟨⟨⟨hm, hD⟩, hr⟩, hcl⟩, hne⟩, hc⟩ := hm
  simp only [mayFirst, Bool.and_eq_true] at hm
  exact wpAnyL_first (D := D) hi (Region.noSelect_spec hm.1.1) hQ (by simpa using hD) hr hne fuel listed a w hc hcl (Region.free_spec hi hm.1.2) (by simpa using hm.2) (Or.inl ⟨hw, hy⟩) hS h
/-- A struct or an array is loaded whole, first. -/
theorem lgLoad (D : List Nat) {i : Nat} {o : Oper} {ty : TypeId} {z : Array Value} {n b : Nat} {t : TypeId} (x : Operand) (cs : List Value) (T : AgTy P ty z n) (hi' : ops.toList[i]? = some o) (hm : (mayFirst ops listed i && D.contains i && reachD ops D 8 c i && closedD ops D listed && !(i == c) && !listed.getD c true) = true) (hw : Region.wanted o (yielded ops a.tmps) = true)
    (hQ : ∀ c a w, Q (.panic c) (a.put o.dst (.agg cs.toArray)) w → Q (.panic c) a w) (ho : o.op = .load ty x) (hx : a.eval x = .pointer (some ⟨b, 0, none⟩)) (hl : cs.length = n)
    (hc : ∀ w, S w → Arr w b t cs) (hS : S w)
    (h : wpAnyL P ops Q S c fuel (listed.setIfInBounds i true) (a.put o.dst (.agg cs.toArray)) w) : wpAnyL P ops Q S c (fuel + 1) listed a w := by
  refine lgTake D hi' hm hw hQ (fun w hw => ?_) hS h
  unfold execOp
  simp only [ho, hx, Instr.loadAt, Instr.sureAddr, Sem.run_bind, Sem.run_pure, Result.andThen_ok, run_loadAgg T b 0 cs hl (fun j u hu => by rw [Nat.zero_add]; exact (hc w hw).cell hu)]
/-- The one that comes up next is c, or comes behind it. -/
theorem lgNext {i : Nat} {o : Oper} (hr : Region.ready .any ops listed = [i]) (hi' : ops.toList[i]? = some o) (hc : (listed.setIfInBounds i true).getD c true = true)
    (h : wpList P ops (Exit.then (wpAnyL P ops Q S c fuel (listed.setIfInBounds i true)) Q) [o] a w) : wpAnyL P ops Q S c (fuel + 1) listed a w := by
  have hi : ops[i]? = some o := by rw [← hi']; simp
  refine ⟨fun h0 => (by rw [hr] at h0; cases h0), ?_⟩
  rw [hr]
  intro j hj
  rw [List.mem_singleton] at hj
  subst hj
  exact wpOp_mono (fun a' w' h' => ⟨fun h0 => (by rw [hc] at h0; cases h0), h'⟩) (wpOp_of_list hi h)
theorem lgDone (hr : Region.ready .any ops listed = []) (h : Q .normal a w) : wpAnyL P ops Q S c fuel listed a w := by
  cases fuel with
  | zero => exact ⟨hr, h⟩
  | succ n => exact ⟨fun _ => h, by rw [hr]; simp⟩
end
end Go.Proofs.Ytpbebmbkcpdbeaa
