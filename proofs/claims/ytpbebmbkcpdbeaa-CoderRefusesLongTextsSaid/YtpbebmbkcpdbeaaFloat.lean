/-
  A region that draws its order and holds calls and new variables that may come up in any order: each is shown once. No statement is proved here.
-/
import Derived.Test.YtpbebmbkcpdbeaaMid
import Derived.Test.YtpbebmbkcpdbeaaQuiet
namespace Go.Proofs.Ytpbebmbkcpdbeaa
open Go.RowKit

/-- What was there is as it was. -/
abbrev Ext (w w' : World) : Prop := Below w.heap.size w w'
theorem Ext.trans' {a b c : World} (h : Ext a b) (k : Ext b c) : Ext a c := Below.trans h (k.mono h.size)

/-- Operation k waits for operation i. -/
def waitsFor (ops : Array Oper) (k i : Nat) : Bool := ((ops.toList[k]?).map fun o => o.after.any fun e => Region.binds .any e && e.on == i).getD false
/-- Operation k waits for operation p, or for one of X that does. -/
def reachX (ops : Array Oper) (X : List (Nat × Nat)) : Nat → Nat → Nat → Bool
  | 0, k, p => waitsFor ops k p
  | f + 1, k, p => waitsFor ops k p || X.any fun q => waitsFor ops k q.1 && reachX ops X f q.1 p
theorem reach_listed {ops : Array Oper} {X : List (Nat × Nat)} {listed : Array Bool} (hinv : ∀ q ∈ X, listed.getD q.1 true = true → ∀ p ∈ X, waitsFor ops q.1 p.1 = true → listed.getD p.1 true = true) :
    ∀ (f k : Nat), (∀ q ∈ X, waitsFor ops k q.1 = true → listed.getD q.1 true = true) → ∀ p ∈ X, reachX ops X f k p.1 = true → listed.getD p.1 true = true
  | 0, _, hk, p, hp, h => hk p hp h
  | f + 1, k, hk, p, hp, h => by
    unfold reachX at h
    rw [Bool.or_eq_true] at h
    rcases h with h | h
    · exact hk p hp h
    · obtain ⟨q, hq, h2⟩ := List.any_eq_true.1 h
      rw [Bool.and_eq_true] at h2
      exact reach_listed hinv f q.1 (fun q' hq' hw' => hinv q hq (hk q hq h2.1) q' hq' hw') p hp h2.2
/-- The operations X (number, slot) may come up in any order that their edges allow, and no other before all of them. -/
def floatB (ops : Array Oper) (listed : Array Bool) (n : Nat) (X : List (Nat × Nat)) : Bool :=
  (X.all fun p => X.all fun q => (p.1 == q.1) == (p.2 == q.2)) && decide (listed.size = ops.size) && decide X.Nodup &&
  (X.all fun p => decide (p.2 < n) && decide (p.1 < ops.size) && !listed.getD p.1 true &&
    ((ops.toList[p.1]?).map fun o => o.after.all fun e => !Region.binds .any e || (decide (e.on < p.1) && (listed.getD e.on false || X.any (·.1 == e.on)))).getD false) &&
  (List.range ops.size).all fun k => listed.getD k true || X.any (·.1 == k) || (X.all fun p => waitsFor ops k p.1 || reachX ops X X.length k p.1)
/-- The frame a, the slots of X aside. -/
structure FrameX (a0 : Act) (X : List (Nat × Nat)) (a : Act) : Prop where
  size : a.tmps.size = a0.tmps.size
  defers : a.defers = a0.defers
  same : ∀ t, (∀ p ∈ X, p.2 ≠ t) → a.tmps.getD t undef = a0.tmps.getD t undef
theorem FrameX.eval {a0 a : Act} {X : List (Nat × Nat)} (h : FrameX a0 X a) (t : Nat) (ht : (X.all fun p => !(p.2 == t)) = true) : a.eval (.tmp t) = a0.eval (.tmp t) := by
  have := h.same t (fun p hp e => by have := List.all_eq_true.1 ht p hp; simp [e] at this)
  simpa [Act.eval] using this
def listX : List (Nat × Nat) → Array Bool → Array Bool
  | [], l => l
  | p :: X, l => listX X (l.setIfInBounds p.1 true)
theorem listX_size : ∀ (X : List (Nat × Nat)) (l : Array Bool), (listX X l).size = l.size
  | [], _ => rfl
  | p :: X, l => by rw [listX, listX_size X]; simp
theorem listX_get : ∀ (X : List (Nat × Nat)) (l : Array Bool) (k : Nat), k < l.size → (listX X l).getD k true = (l.getD k true || X.any (·.1 == k))
  | [], l, k, _ => by simp [listX]
  | p :: X, l, k, hk => by
    rw [listX, listX_get X _ k (by simpa using hk), List.any_cons]
    by_cases h : p.1 = k
    · subst h; simp [hk]
    · have : (p.1 == k) = false := by simpa using h
      rw [this, Bool.false_or]
      congr 1
      simp [h]

section
variable {P : Program} {ops : Array Oper} {Q : Exit → Act → World → Prop} {X : List (Nat × Nat)} {G : Nat → Value → World → Prop} {a0 : Act} {w0 : World} {listed0 : Array Bool}
theorem getD_put_same {a : Act} {d : Nat} {v : Value} (h : d < a.tmps.size) : (a.put (some d) v).tmps.getD d undef = v := by simp [Act.put, h]
theorem getD_put_other {a : Act} {d t : Nat} {v : Value} (h : d ≠ t) : (a.put (some d) v).tmps.getD t undef = a.tmps.getD t undef := by simp [Act.put, h]
theorem float_go (hB : floatB ops listed0 a0.tmps.size X = true)
    (hmono : ∀ p ∈ X, ∀ v w w', G p.1 v w → Ext w w' → G p.1 v w')
    (hstep : ∀ p ∈ X, ∃ o, ops.toList[p.1]? = some o ∧ o.dst = some p.2 ∧ ∀ a w, FrameX a0 X a → Ext w0 w → (∀ q ∈ X, waitsFor ops p.1 q.1 = true → G q.1 (a.tmps.getD q.2 undef) w) →
      wpList P ops (Exit.then (fun a' w' => ∃ v, a' = a.put o.dst v ∧ Ext w w' ∧ G p.1 v w') Q) [o] a w)
    (fuel : Nat) (hend : ∀ a w, FrameX a0 X a → Ext w0 w → (∀ p ∈ X, G p.1 (a.tmps.getD p.2 undef) w) → wpAny P .any ops Q fuel (listX X listed0) a w) :
    ∀ (m : Nat) (listed : Array Bool) (a : Act) (w : World), (X.filter fun p => !listed.getD p.1 true).length = m → listed.size = ops.size →
      (∀ k, X.any (·.1 == k) = false → listed.getD k true = listed0.getD k true) → FrameX a0 X a → Ext w0 w → (∀ p ∈ X, listed.getD p.1 true = true → G p.1 (a.tmps.getD p.2 undef) w) →
      (∀ q ∈ X, listed.getD q.1 true = true → ∀ p ∈ X, waitsFor ops q.1 p.1 = true → listed.getD p.1 true = true) →
      wpAny P .any ops Q (m + fuel) listed a w := by
  unfold floatB at hB
  simp only [Bool.and_eq_true, List.all_eq_true, decide_eq_true_eq, Bool.or_eq_true, Bool.not_eq_true', beq_iff_eq] at hB
  obtain ⟨⟨⟨⟨hpair, hls⟩, hnd⟩, hX⟩, hrest⟩ := hB
  have hpair' : ∀ p ∈ X, ∀ q ∈ X, (p.1 = q.1 ↔ p.2 = q.2) := fun p hp q hq => by
    have := hpair p hp q hq
    rw [Bool.eq_iff_iff] at this
    simpa using this
  intro m
  induction m with
  | zero =>
    intro listed a w hm hsz hk hF hE hG _
    have hall : ∀ p ∈ X, listed.getD p.1 true = true := fun p hp => by
      have := List.length_eq_zero_iff.1 hm
      rw [List.filter_eq_nil_iff] at this
      simpa using this p hp
    have hl : listed = listX X listed0 := by
      apply Array.ext
      · rw [listX_size, hsz, hls]
      · intro k h1 h2
        have e1 : listed.getD k true = listed[k] := by simp [h1]
        have e2 : (listX X listed0).getD k true = (listX X listed0)[k] := by simp [h2]
        rw [← e1, ← e2, listX_get X listed0 k (by rw [hls, ← hsz]; exact h1)]
        cases hx : X.any (·.1 == k) with
        | false => rw [hk k hx, Bool.or_false]
        | true =>
          rw [Bool.or_true]
          obtain ⟨p, hp, hpk⟩ := List.any_eq_true.1 hx
          rw [beq_iff_eq] at hpk
          rw [← hpk]; exact hall p hp
    rw [hl, Nat.zero_add]
    exact hend a w hF hE fun p hp => hG p hp (hall p hp)
  | succ m ih =>
    intro listed a w hm hsz hk hF hE hG hinv
    have hun : ∃ p ∈ X, listed.getD p.1 true = false := by
      cases hf : X.filter fun p => !listed.getD p.1 true with
      | nil => rw [hf] at hm; simp at hm
      | cons p r =>
        have : p ∈ X.filter fun p => !listed.getD p.1 true := by rw [hf]; exact List.mem_cons_self
        rw [List.mem_filter] at this
        exact ⟨p, this.1, by simpa using this.2⟩
    have hin : ∀ i ∈ Region.ready .any ops listed, ∃ p ∈ X, p.1 = i := by
      intro i hi
      obtain ⟨hiu, o, ho, hall⟩ := mem_ready.1 hi
      have hio : i < ops.size := (Array.getElem?_eq_some_iff.1 ho).1
      cases hx : X.any (·.1 == i) with
      | true =>
        obtain ⟨p, hp, hpk⟩ := List.any_eq_true.1 hx
        exact ⟨p, hp, by simpa using hpk⟩
      | false =>
        exfalso
        have h1 := hk i hx
        rcases hrest i (List.mem_range.2 hio) with (h | h) | h
        · rw [h1, h] at hiu; cases hiu
        · rw [hx] at h; cases h
        · obtain ⟨p, hp, hpu⟩ := hun
          have hdir : ∀ q ∈ X, waitsFor ops i q.1 = true → listed.getD q.1 true = true := by
            intro q _ hw
            unfold waitsFor at hw
            have ho' : ops.toList[i]? = some o := by rw [← ho]; simp
            rw [ho'] at hw
            simp only [Option.map_some, Option.getD_some] at hw
            obtain ⟨e, he, hbe⟩ := Array.any_eq_true'.1 hw
            simp only [Bool.and_eq_true, beq_iff_eq] at hbe
            have h2 := hall e he hbe.1
            rw [hbe.2] at h2
            rcases Nat.lt_or_ge q.1 listed.size with h' | h'
            · simp [h'] at h2 ⊢; exact h2
            · simp [Array.getElem?_eq_none h'] at h2
          have hpl : listed.getD p.1 true = true := by
            rcases h p hp with h3 | h3
            · exact hdir p hp h3
            · exact reach_listed hinv _ i hdir p hp h3
          rw [hpl] at hpu; cases hpu
    rw [Nat.succ_add]
    refine ⟨fun h0 => ?_, fun i hi => ?_⟩
    · -- something may come up
      exfalso
      have key : ∀ (n : Nat) (p : Nat × Nat), p ∈ X → listed.getD p.1 true = false → p.1 ≤ n → False := by
        intro n
        induction n using Nat.strongRecOn with
        | ind n ihn =>
          intro p hp hpu hpn
          have hXp := hX p hp
          obtain ⟨⟨⟨h1, h2⟩, h3⟩, h4⟩ := hXp
          obtain ⟨o, ho⟩ : ∃ o, ops.toList[p.1]? = some o := ⟨ops.toList[p.1]'(by simpa using h2), List.getElem?_eq_getElem _⟩
          have ho' : ops[p.1]? = some o := by rw [← ho]; simp
          rw [ho] at h4
          simp only [Option.map_some, Option.getD_some] at h4
          have hr : p.1 ∈ Region.ready .any ops listed := by
            refine mem_ready.2 ⟨hpu, o, ho', fun e he hb => ?_⟩
            have h5 := Array.all_eq_true'.1 h4 e he
            simp only [hb, Bool.not_true, Bool.false_or, Bool.and_eq_true, decide_eq_true_eq, Bool.or_eq_true] at h5
            obtain ⟨h6, h7⟩ := h5
            have hlt : e.on < listed.size := by rw [hsz]; omega
            have hsame : listed.getD e.on false = listed.getD e.on true := by simp [hlt]
            rw [hsame]
            cases hx : X.any (·.1 == e.on) with
            | false =>
              rw [hk _ hx]
              rcases h7 with h7 | h7
              · have : e.on < listed0.size := by rw [hls]; omega
                simp [this] at h7 ⊢; exact h7
              · rw [hx] at h7; cases h7
            | true =>
              obtain ⟨q, hq, hqk⟩ := List.any_eq_true.1 hx
              rw [beq_iff_eq] at hqk
              cases hqu : listed.getD e.on true with
              | true => rfl
              | false => exact (ihn e.on (by omega) q hq (by rw [hqk]; exact hqu) (by omega)).elim
          rw [h0] at hr
          cases hr
      obtain ⟨p, hp, hpu⟩ := hun
      exact key p.1 p hp hpu (Nat.le_refl _)
    · obtain ⟨p, hp, rfl⟩ := hin i hi
      obtain ⟨hiu, o', ho', hall⟩ := mem_ready.1 hi
      obtain ⟨o, ho, hd, hw⟩ := hstep p hp
      have hoo : ops[p.1]? = some o := by rw [← ho]; simp
      obtain rfl : o' = o := Option.some.inj (ho'.symm.trans hoo)
      have hstep' := hw a w hF hE fun q hq hqw => by
        refine hG q hq ?_
        unfold waitsFor at hqw
        rw [ho] at hqw
        simp only [Option.map_some, Option.getD_some] at hqw
        obtain ⟨e, he, hbe⟩ := Array.any_eq_true'.1 hqw
        simp only [Bool.and_eq_true, beq_iff_eq] at hbe
        have h2 := hall e he hbe.1
        rw [hbe.2] at h2
        rcases Nat.lt_or_ge q.1 listed.size with h' | h'
        · simp [h'] at h2 ⊢; exact h2
        · simp [Array.getElem?_eq_none h'] at h2
      refine wpOp_mono (fun a' w' h' => ?_) (wpOp_of_list hoo hstep')
      obtain ⟨v, rfl, hEw, hGv⟩ := h'
      rw [hd]
      obtain ⟨⟨⟨h1, h2⟩, h3⟩, h4⟩ := hX p hp
      have hpl : p.1 < listed.size := by rw [hsz]; exact h2
      refine ih _ _ _ ?_ (by simpa using hsz) (fun k hx => ?_) ⟨by rw [← hF.size]; simp [Act.put], by rw [← hF.defers]; rfl, fun t ht => by rw [getD_put_other (ht p hp)]; exact hF.same t ht⟩ (Ext.trans' hE hEw) (fun q hq hql => ?_) (fun q hq hql q' hq' hw' => ?_)
      · -- one less
        have hf : (X.filter fun q => !(listed.setIfInBounds p.1 true).getD q.1 true) = (X.filter fun q => !listed.getD q.1 true).filter (· != p) := by
          rw [List.filter_filter]
          apply List.filter_congr
          intro q hq
          by_cases hpq : q.1 = p.1
          · have hqp : q = p := Prod.ext hpq ((hpair' q hq p hp).1 hpq)
            subst hqp
            simp [hpl]
          · have h1 : (q != p) = true := by rw [bne_iff_ne]; exact fun e => hpq (by rw [e])
            have h2 : p.1 ≠ q.1 := fun e => hpq e.symm
            rw [h1, Bool.true_and]
            congr 1
            simp [h2]
        rw [hf, ← List.Nodup.erase_eq_filter (hnd.filter _), List.length_erase_of_mem (List.mem_filter.2 ⟨hp, by simpa using hiu⟩), hm]
        rfl
      · have hne' : p.1 ≠ k := fun e => by
          rw [List.any_eq_false] at hx
          exact hx p hp (by simpa using e)
        rw [← hk k hx]
        simp [hne']
      · by_cases hpq : q.1 = p.1
        · have h2' := (hpair' q hq p hp).1 hpq
          rw [h2', hpq, getD_put_same (by rw [hF.size]; exact h1)]
          exact hGv
        · have h2' : p.2 ≠ q.2 := fun e => hpq ((hpair' q hq p hp).2 e.symm)
          rw [getD_put_other h2']
          refine hmono q hq _ _ _ (hG q hq ?_) hEw
          have h5 : p.1 ≠ q.1 := fun e => hpq e.symm
          have h6 : (listed.setIfInBounds p.1 true).getD q.1 true = listed.getD q.1 true := by simp [h5]
          rw [h6] at hql
          exact hql
      · have hset : ∀ k : Nat, listed.getD k true = true → (listed.setIfInBounds p.1 true).getD k true = true := by
          intro k hk'
          by_cases e : p.1 = k
          · subst e; simp [hpl]
          · have : (listed.setIfInBounds p.1 true).getD k true = listed.getD k true := by simp [e]
            rw [this]; exact hk'
        refine hset q'.1 ?_
        by_cases hpq : q.1 = p.1
        · rw [hpq] at hw'
          unfold waitsFor at hw'
          rw [ho] at hw'
          simp only [Option.map_some, Option.getD_some] at hw'
          obtain ⟨e, he, hbe⟩ := Array.any_eq_true'.1 hw'
          simp only [Bool.and_eq_true, beq_iff_eq] at hbe
          have h2 := hall e he hbe.1
          rw [hbe.2] at h2
          rcases Nat.lt_or_ge q'.1 listed.size with h' | h'
          · simp [h'] at h2 ⊢; exact h2
          · simp [Array.getElem?_eq_none h'] at h2
        · have h5 : p.1 ≠ q.1 := fun e => hpq e.symm
          have h6 : (listed.setIfInBounds p.1 true).getD q.1 true = listed.getD q.1 true := by simp [h5]
          rw [h6] at hql
          exact hinv q hq hql q' hq' hw'
/-- The operations X, each shown once, in whatever order; what follows is asked of whatever values they have left. -/
theorem rgFloat (X : List (Nat × Nat)) (G : Nat → Value → World → Prop) (k : Nat) (fuel : Nat) (hk : k = X.length + fuel) (hB : floatB ops listed0 a0.tmps.size X = true)
    (hmono : ∀ p ∈ X, ∀ v w w', G p.1 v w → Ext w w' → G p.1 v w')
    (hstep : ∀ p ∈ X, ∃ o, ops.toList[p.1]? = some o ∧ o.dst = some p.2 ∧ ∀ a w, FrameX a0 X a → Ext w0 w → (∀ q ∈ X, waitsFor ops p.1 q.1 = true → G q.1 (a.tmps.getD q.2 undef) w) →
      wpList P ops (Exit.then (fun a' w' => ∃ v, a' = a.put o.dst v ∧ Ext w w' ∧ G p.1 v w') Q) [o] a w)
    (hend : ∀ a w, FrameX a0 X a → Ext w0 w → (∀ p ∈ X, G p.1 (a.tmps.getD p.2 undef) w) → wpAny P .any ops Q fuel (listX X listed0) a w) :
    wpAny P .any ops Q k listed0 a0 w0 := by
  subst hk
  have hB' := hB
  unfold floatB at hB'
  simp only [Bool.and_eq_true, List.all_eq_true, decide_eq_true_eq, Bool.or_eq_true, Bool.not_eq_true', beq_iff_eq] at hB'
  obtain ⟨⟨⟨⟨_, hls⟩, _⟩, hX⟩, _⟩ := hB'
  have hall : (X.filter fun p => !listed0.getD p.1 true) = X := List.filter_eq_self.2 fun p hp => by
    have := (hX p hp).1.2
    simpa using this
  exact float_go hB hmono hstep fuel hend _ listed0 a0 w0 (by rw [hall]) hls (fun _ _ => rfl) ⟨rfl, rfl, fun _ _ => rfl⟩ (Below.refl _ _) (fun p hp h => by have := (hX p hp).1.2; rw [h] at this; cases this) (fun q hq h => by have := (hX q hq).1.2; rw [h] at this; cases this)
/-- An operation taken first, in whatever world. -/
theorem aTake {fuel : Nat} {listed : Array Bool} {a : Act} {w : World} {i : Nat} {o : Oper} {v : Value} (hi' : ops.toList[i]? = some o) (hm : mayFirst ops listed i = true) (hw : Region.wanted o (yielded ops a.tmps) = true)
    (hQ : ∀ c a w, Q (.panic c) (a.put o.dst v) w → Q (.panic c) a w) (hy : ∀ w, (execOp a.eval o).run P w = .ok (.value v) w)
    (h : wpAny P .any ops Q fuel (listed.setIfInBounds i true) (a.put o.dst v) w) : wpAny P .any ops Q (fuel + 1) listed a w := by
  have hi : ops[i]? = some o := by rw [← hi']; simp
  simp only [mayFirst, Bool.and_eq_true] at hm
  exact wpAny_take hi hm.1.1 hm.1.2 hm.2 hQ (Or.inl ⟨hw, hy⟩) h
theorem aNext {fuel : Nat} {listed : Array Bool} {a : Act} {w : World} {i : Nat} {o : Oper} (hr : Region.ready .any ops listed = [i]) (hi' : ops.toList[i]? = some o)
    (h : wpList P ops (Exit.then (wpAny P .any ops Q fuel (listed.setIfInBounds i true)) Q) [o] a w) : wpAny P .any ops Q (fuel + 1) listed a w := by
  have hi : ops[i]? = some o := by rw [← hi']; simp
  refine wpAny_all hr (by simp) fun j hj => ?_
  rw [List.mem_singleton] at hj
  subst hj
  exact wpOp_of_list hi h
theorem aDone {fuel : Nat} {listed : Array Bool} {a : Act} {w : World} (hr : Region.ready .any ops listed = []) (h : Q .normal a w) : wpAny P .any ops Q fuel listed a w := wpAny_done hr h _
theorem aStart {id : Nat} {a : Act} {w : World} (hm : P.follows .mixedOrders = true) (h : wpAny P .any ops Q ops.size (Array.replicate ops.size false) a w.drew) : (Code.region id ops true).wp P Q a w := wp_region_any hm h
end
/-- '[n]T(s)' of a slice, or of an array's part. -/
theorem saPtr {P : Program} {w : World} {ops : Array Oper} {rest : List Oper} {o : Oper} {a : Act} {Q : Exit → Act → World → Prop} {arr e : TypeId} {n len c : Nat} {A : Option Addr} (x : Operand) (h : P.underlying arr = some (.array n e)) (hgd : Region.wanted o (yielded ops a.tmps) = true)
    (ho : o.op = .sliceToArrayPointer arr x) (hx : a.eval x = .slice A len c) (hn : n ≤ len) (hk : wpList P ops Q rest (a.put o.dst (.pointer A)) w) : wpList P ops Q (o :: rest) a w := by
  refine opVal (v := .pointer A) hgd ?_ hk
  unfold execOp
  simp only [ho, hx, Sem.run_bind, Sem.run_pure, run_arrayAt w h hn, Result.andThen_ok]
/-- '==' on texts. -/
theorem eqStr {P : Program} {w : World} {ops : Array Oper} {rest : List Oper} {o : Oper} {a : Act} {Q : Exit → Act → World → Prop} {t ty : TypeId} (x y : Operand) (xs ys : List UInt8) (b : Bool) (hgd : Region.wanted o (yielded ops a.tmps) = true)
    (ho : o.op = .binOp .eql t x y ty) (hx : a.eval x = .string ⟨xs.toArray⟩) (hy : a.eval y = .string ⟨ys.toArray⟩) (hb : (xs == ys) = b) (hk : wpList P ops Q rest (a.put o.dst (.bool b)) w) : wpList P ops Q (o :: rest) a w := by
  refine opVal (v := .bool b) hgd ?_ hk
  unfold execOp
  simp [ho, hx, hy, eqGuard, binOp_string_eql, hb]
/-- '==' on arrays of bytes. -/
theorem eqBytes {P : Program} {w : World} {ops : Array Oper} {rest : List Oper} {o : Oper} {a : Act} {Q : Exit → Act → World → Prop} {t e ty : TypeId} {n : Nat} (x y : Operand) (xs ys : List UInt8) (b : Bool) (ht : P.underlying t = some (.array n e)) (he : P.underlying e = some (.int .u8)) (hs : (P.info? e).map (·.size) = some 1) (hq : P.eqGuardType P.depth t = false)
    (hgd : Region.wanted o (yielded ops a.tmps) = true) (ho : o.op = .binOp .eql t x y ty) (hxv : a.eval x = .agg (bcs xs).toArray) (hyv : a.eval y = .agg (bcs ys).toArray) (hx : xs.length = n) (hy : ys.length = n) (hb : (xs == ys) = b)
    (hk : wpList P ops Q rest (a.put o.dst (.bool b)) w) : wpList P ops Q (o :: rest) a w := by
  refine opVal (v := .bool b) hgd ?_ hk
  unfold execOp
  have hr := run_eqBytes (P := P) w ht he hs xs ys hx hy
  rw [hb] at hr
  simp [ho, hxv, hyv, eqGuard, hq, run_eql_struct, hr]
/-- Values are put into slots. -/
def putsX (f : Nat → Value) : List (Nat × Nat) → Act → Act
  | [], a => a
  | p :: X, a => putsX f X (a.put (some p.2) (f p.2))
theorem putsX_size (f : Nat → Value) : ∀ (X : List (Nat × Nat)) (a : Act), (putsX f X a).tmps.size = a.tmps.size ∧ (putsX f X a).defers = a.defers
  | [], _ => ⟨rfl, rfl⟩
  | p :: X, a => by rw [putsX]; have := putsX_size f X (a.put (some p.2) (f p.2)); exact ⟨this.1.trans (by simp [Act.put]), this.2⟩
theorem putsX_get (f : Nat → Value) : ∀ (X : List (Nat × Nat)) (a : Act) (t : Nat), t < a.tmps.size → (putsX f X a).tmps.getD t undef = if X.any (·.2 == t) then f t else a.tmps.getD t undef
  | [], a, t, _ => by simp [putsX]
  | p :: X, a, t, ht => by
    rw [putsX, putsX_get f X _ t (by simpa [Act.put] using ht), List.any_cons]
    by_cases h : p.2 = t
    · subst h
      rw [getD_put_same ht]
      simp
    · rw [getD_put_other h]
      have : (p.2 == t) = false := by simpa using h
      rw [this, Bool.false_or]
theorem FrameX.eq {a0 a : Act} {X : List (Nat × Nat)} (h : FrameX a0 X a) : a = putsX (fun t => a.tmps.getD t undef) X a0 := by
  obtain ⟨hs, hd⟩ := putsX_size (fun t => a.tmps.getD t undef) X a0
  have ht : a.tmps = (putsX (fun t => a.tmps.getD t undef) X a0).tmps := by
    apply Array.ext
    · rw [hs, h.size]
    · intro t h1 h2
      have gd : ∀ (xs : Array Value) (h : t < xs.size), xs.getD t undef = xs[t] := fun xs h => by simp [h]
      rw [← gd _ h1, ← gd _ h2, putsX_get _ X a0 t (by rw [← h.size]; exact h1)]
      cases hx : X.any (·.2 == t) with
      | true => rfl
      | false =>
        refine h.same t fun p hp e => ?_
        rw [List.any_eq_false] at hx
        exact hx p hp (by simpa using e)
  cases a with
  | mk tm df =>
    generalize hp : putsX (fun t => (Act.mk tm df).tmps.getD t undef) X a0 = b at *
    cases b with
    | mk tm2 df2 =>
      have e1 : tm = tm2 := ht
      have e2 : df = df2 := h.defers.trans hd.symm
      rw [e1, e2]
/-- Function f has a text of its own. -/
def callable (P : Program) (f : FuncId) : Bool := match P.funcs[f]? with
  | some fn => !(fn.name == "runtime.NumGoroutine") && fn.body.isSome
  | none => false
/-- A call of a Go function. -/
theorem callOp {P : Program} {w : World} {ops : Array Oper} {rest : List Oper} {o : Oper} {a : Act} {Q : Exit → Act → World → Prop} {c : Operand} {args : Array Operand} {argTypes : Array TypeId} (f : FuncId) (vals first caps : List Value)
    (hf : callable P f = true) (hgd : Region.wanted o (yielded ops a.tmps) = true) (ho : o.op = .call { callee := .value c, args, argTypes }) (hc : a.eval c = .func (.func f) first.toArray caps.toArray) (hargs : args.toList.map a.eval = vals)
    (h : Calls P f (first ++ vals ++ caps).toArray w (fun e w' => ∃ v, e = .returned v ∧ wpList P ops Q rest (a.put o.dst v) w')) : wpList P ops Q (o :: rest) a w := by
  unfold callable at hf
  cases hfn : P.funcs[f]? with
  | none => rw [hfn] at hf; cases hf
  | some fn =>
    rw [hfn] at hf
    simp only [Bool.and_eq_true, Bool.not_eq_true', beq_eq_false_iff_ne] at hf
    obtain ⟨h1, h2⟩ := hf
    obtain ⟨b, hb⟩ := Option.isSome_iff_exists.1 h2
    refine wpList_want hgd fun K hK => ?_
    unfold Oper.wp execOp
    have hargs' : args.map a.eval = vals.toArray := by
      apply Array.ext'
      rw [Array.toList_map, hargs]
    have hrun : ∀ vs, (callFunc f vs).run P w = .ok (.enter f vs) w := fun vs => by simp [callFunc, hfn, h1, hb]
    have happ : first.toArray ++ vals.toArray ++ caps.toArray = (first ++ vals ++ caps).toArray := by simp
    simp only [ho, resolve, hc, Deferred.ofValue, invoke, Sem.run_bind, Sem.run_pure, Result.andThen_ok, hargs', hrun, Oper.upon, happ]
    refine h.mono fun e w' ⟨v, he, hw⟩ => ?_
    subst he
    exact hK _ _ hw
end Go.Proofs.Ytpbebmbkcpdbeaa
