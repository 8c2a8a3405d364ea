/-
  OE: several texts in one: MoRLeast, MoSame, MoSmall, Gw, Gop, Gl, Ty, MoPlain, MoSanity, Leaves. No statement is proved here.
-/
import Derived.Test.YtkfijpghjjnpkaaOD
import Derived.Test.YtkfijpghjjnpkaaOC
import Derived.Test.YtkfijpghjjnpkaaOB
import Derived.Test.YtkfijpghjjnpkaaOA
set_option linter.unusedVariables false
set_option linter.unusedSimpArgs false
/-
  The reference's least code of a box in a cube, and its Next. No statement is proved here.
-/
namespace Go.Proofs.Ytkfijpghjjnpkaa
open Go.RowKit
set_option linter.unusedVariables false
set_option linter.unusedSimpArgs false

theorem leastL_cut {b : Bx} {n : Int} {l : Nat} {p : Pt} (h : b.apart p (p.far l) ∨ mEnc p + ((8 ^ l : Nat) : Int) - 1 < n) : leastL b n l p = -1 := by
  cases l <;> (show (if _ then _ else _) = _; rw [if_pos h])
theorem leastL_whole {b : Bx} {n : Int} {l : Nat} {p : Pt} (h : ¬ (b.apart p (p.far l) ∨ mEnc p + ((8 ^ l : Nat) : Int) - 1 < n)) (hw : b.whole p l) : leastL b n l p = max (mEnc p) n := by
  cases l with
  | zero => show (if _ then _ else _) = _; rw [if_neg h]
  | succ m => show (if _ then _ else _) = _; rw [if_neg h, if_pos hw]
theorem leastL_div {b : Bx} {n : Int} {m : Nat} {p : Pt} (h : ¬ (b.apart p (p.far (m + 1)) ∨ mEnc p + ((8 ^ (m + 1) : Nat) : Int) - 1 < n)) (hw : ¬ b.whole p (m + 1)) : leastL b n (m + 1) p = firstFrom (fun i => leastL b n m (p.child m i)) 8 0 := by
  show (if _ then _ else _) = _
  rw [if_neg h, if_neg hw]
def LeastAt (b : Bx) (n : Int) (l : Nat) : Prop := ∀ (p : Pt) (w : World), p.al l → Calls Try.prog 45 #[.agg (bxs b).toArray, .agg (ccs ⟨p, (l : Int)⟩).toArray, .int .i64 n] w (RetI w (leastL b n l p))
theorem RetI.of {w w' : World} {n m : Int} (h : m = n) (hb : Below w.heap.size w w') : RetI w n (.returned (.int .i64 m)) w' := ⟨by rw [h], hb⟩
set_option maxRecDepth 100000 in
set_option maxHeartbeats 4000000 in
theorem refLeast_step (b : Bx) (n : Int) (l : Nat) (hl : l ≤ 14) (IH : ∀ m, l = m + 1 → LeastAt b n m) : LeastAt b n l := by
  intro p w hp
  have HEN := Lib.hid (refEncode_any p)
  have HAP := Lib.hid (refApart_any b p l hp.1 hl)
  have HF := Lib.hid (refFar_any p l hp.1 hl)
  have HC1 := Lib.hid (refCell_any b p)
  have HC2 := Lib.hid (refCell_any b (p.far l))
  have HW0 := Lib.hid (fun (e : l = 0) (h : ¬ b.apart p (p.far l)) => show b.whole p l by subst e; exact whole_zero hp.1 h)
  have HAL := Lib.hid hp
  have HIH := Lib.hid IH
  have hf := mEnc_in hp.1
  clear IH hp
  by_cases hap : b.apart p (p.far l)
  · have HR := Lib.hid (show leastL b n l p = -1 from leastL_cut (Or.inl hap))
    rw [decide_eq_true hap] at HAP
    generalize leastL b n l p = RES at *
    generalize mEnc p = f at *
    go_enter Try.func45, Try.ntmps45
    go_wp2_with (with_reducible refine bxArr (cs := bxs b) (.tmp 0) (wn rfl) rfl rfl ?_)
    intro w1 h4 b1
    go_wp2_with (with_reducible refine bxArr (cs := ccs ⟨p, (l : Int)⟩) (.tmp 1) (wn rfl) rfl rfl ?_)
    intro w2 h5 b2
    have n4 := h4.lt
    have ls := b1.size
    have n5 : w1.heap.size < w2.heap.size := h5.lt
    replace h4 := h4.below b2 n4
    have hb := b1.trans (b2.mono ls)
    clear b1 b2
    generalize w1.heap.size = g5 at *
    go_wp2_with (with_reducible refine ldAgg (off := 0) (.tmp 12) (pcs p) Try.ag_pt (wn rfl) rfl rfl rfl (fun j u hu => h5.cell (i := 0 + j) (ccs_at ⟨p, (l : Int)⟩ hu)) ?_)
    refine (HEN.out _).mono ?_
    rintro e w3 ⟨rfl, b3⟩
    replace h4 := h4.below b3 h4.lt
    replace h5 := h5.below b3 h5.lt
    replace hb := hb.trans (b3.mono hb.size)
    clear b3
    go_wp2_with (first | (with_reducible refine ldArr (.tmp 3) Try.ag_bx (wn rfl) rfl rfl rfl h4 ?_) | (with_reducible refine ldArr (.tmp 4) Try.ag_cu (wn rfl) rfl rfl rfl h5 ?_))
    refine (HAP.out _).mono ?_
    rintro e w4 ⟨rfl, b3⟩
    replace h4 := h4.below b3 h4.lt
    replace h5 := h5.below b3 h5.lt
    replace hb := hb.trans (b3.mono hb.size)
    clear b3
    have hlv := h5.cell (i := 3) (v := .int .i64 (l : Int)) rfl
    go_wp2_with fail
    go_ret
    exact .of HR.out.symm hb
  · rw [decide_eq_false hap] at HAP
    obtain ⟨z, hz⟩ : ∃ z, z = 1 * 2 ^ (3 * l) := ⟨_, rfl⟩
    have hz8 : 8 ^ l = z := by rw [hz, Nat.one_mul, Nat.pow_mul]
    have hzl : z ≤ 4398046511104 := by rw [hz, Nat.one_mul]; exact Nat.pow_le_pow_right (n := 2) (by decide) (by omega : 3 * l ≤ 42)
    have HZ := Lib.hid hz
    clear hz
    by_cases hlt : mEnc p + ((8 ^ l : Nat) : Int) - 1 < n
    · have HR := Lib.hid (show leastL b n l p = -1 from leastL_cut (Or.inr hlt))
      rw [hz8] at hlt
      generalize leastL b n l p = RES at *
      generalize mEnc p = f at *
      clear hz8
      go_enter Try.func45, Try.ntmps45
      go_wp2_with (with_reducible refine bxArr (cs := bxs b) (.tmp 0) (wn rfl) rfl rfl ?_)
      intro w1 h4 b1
      go_wp2_with (with_reducible refine bxArr (cs := ccs ⟨p, (l : Int)⟩) (.tmp 1) (wn rfl) rfl rfl ?_)
      intro w2 h5 b2
      have n4 := h4.lt
      have ls := b1.size
      have n5 : w1.heap.size < w2.heap.size := h5.lt
      replace h4 := h4.below b2 n4
      have hb := b1.trans (b2.mono ls)
      clear b1 b2
      generalize w1.heap.size = g5 at *
      go_wp2_with (with_reducible refine ldAgg (off := 0) (.tmp 12) (pcs p) Try.ag_pt (wn rfl) rfl rfl rfl (fun j u hu => h5.cell (i := 0 + j) (ccs_at ⟨p, (l : Int)⟩ hu)) ?_)
      refine (HEN.out _).mono ?_
      rintro e w3 ⟨rfl, b3⟩
      replace h4 := h4.below b3 h4.lt
      replace h5 := h5.below b3 h5.lt
      replace hb := hb.trans (b3.mono hb.size)
      clear b3
      go_wp2_with (first | (with_reducible refine ldArr (.tmp 3) Try.ag_bx (wn rfl) rfl rfl rfl h4 ?_) | (with_reducible refine ldArr (.tmp 4) Try.ag_cu (wn rfl) rfl rfl rfl h5 ?_))
      refine (HAP.out _).mono ?_
      rintro e w4 ⟨rfl, b3⟩
      replace h4 := h4.below b3 h4.lt
      replace h5 := h5.below b3 h5.lt
      replace hb := hb.trans (b3.mono hb.size)
      clear b3
      have hlv := h5.cell (i := 3) (v := .int .i64 (l : Int)) rfl
      go_wp2_with (first | (with_reducible refine ldOne (v := .int .i64 (l : Int)) (.tmp 21) (by kernel_rfl) (by kernel_rfl) rfl rfl hlv ?_) | (with_reducible refine opVal (v := .int .i64 ((3 * l : Nat) : Int)) (by kernel_rfl) (mulRun (A := 3) (B := (l : Int)) (.const (.int .i64 3)) (.tmp 22) rfl rfl rfl (by simp) (by omega)) ?_) | (with_reducible refine opVal (v := .int .i64 (z : Int)) (by kernel_rfl) (shlZ HZ.out (.const (.int .i64 1)) (.tmp 23) rfl rfl rfl (by omega) (by omega)) ?_) | (with_reducible refine opVal (v := .int .i64 (f + (z : Int))) (by kernel_rfl) (addRun (A := f) (B := (z : Int)) (.tmp 20) (.tmp 24) rfl rfl rfl rfl (by omega)) ?_) | (with_reducible refine opVal (v := .int .i64 (f + (z : Int) - 1)) (by kernel_rfl) (subRun (A := f + (z : Int)) (B := 1) (.tmp 25) (.const (.int .i64 1)) rfl rfl rfl rfl (by omega)) ?_))
      go_ret
      exact .of HR.out.symm hb
    · have HNC := fun h : b.apart p (p.far l) ∨ mEnc p + ((8 ^ l : Nat) : Int) - 1 < n => h.elim hap hlt
      rw [hz8] at hlt
      clear hz8
      by_cases hc1 : p.In ∧ b.has p
      · rw [decide_eq_true hc1] at HC1
        by_cases hc2 : (p.far l).In ∧ b.has (p.far l)
        · rw [decide_eq_true hc2] at HC2
          have HR := Lib.hid (show leastL b n l p = max (mEnc p) n from leastL_whole HNC ⟨hc1, hc2⟩)
          clear hc1 hc2 HNC
          generalize leastL b n l p = RES at *
          generalize mEnc p = f at *
          go_enter Try.func45, Try.ntmps45
          go_wp2_with (with_reducible refine bxArr (cs := bxs b) (.tmp 0) (wn rfl) rfl rfl ?_)
          intro w1 h4 b1
          go_wp2_with (with_reducible refine bxArr (cs := ccs ⟨p, (l : Int)⟩) (.tmp 1) (wn rfl) rfl rfl ?_)
          intro w2 h5 b2
          have n4 := h4.lt
          have ls := b1.size
          have n5 : w1.heap.size < w2.heap.size := h5.lt
          replace h4 := h4.below b2 n4
          have hb := b1.trans (b2.mono ls)
          clear b1 b2
          generalize w1.heap.size = g5 at *
          go_wp2_with (with_reducible refine ldAgg (off := 0) (.tmp 12) (pcs p) Try.ag_pt (wn rfl) rfl rfl rfl (fun j u hu => h5.cell (i := 0 + j) (ccs_at ⟨p, (l : Int)⟩ hu)) ?_)
          refine (HEN.out _).mono ?_
          rintro e w3 ⟨rfl, b3⟩
          replace h4 := h4.below b3 h4.lt
          replace h5 := h5.below b3 h5.lt
          replace hb := hb.trans (b3.mono hb.size)
          clear b3
          go_wp2_with (first | (with_reducible refine ldArr (.tmp 3) Try.ag_bx (wn rfl) rfl rfl rfl h4 ?_) | (with_reducible refine ldArr (.tmp 4) Try.ag_cu (wn rfl) rfl rfl rfl h5 ?_))
          refine (HAP.out _).mono ?_
          rintro e w4 ⟨rfl, b3⟩
          replace h4 := h4.below b3 h4.lt
          replace h5 := h5.below b3 h5.lt
          replace hb := hb.trans (b3.mono hb.size)
          clear b3
          have hlv := h5.cell (i := 3) (v := .int .i64 (l : Int)) rfl
          go_wp2_with (first | (with_reducible refine ldOne (v := .int .i64 (l : Int)) (.tmp 21) (by kernel_rfl) (by kernel_rfl) rfl rfl hlv ?_) | (with_reducible refine opVal (v := .int .i64 ((3 * l : Nat) : Int)) (by kernel_rfl) (mulRun (A := 3) (B := (l : Int)) (.const (.int .i64 3)) (.tmp 22) rfl rfl rfl (by simp) (by omega)) ?_) | (with_reducible refine opVal (v := .int .i64 (z : Int)) (by kernel_rfl) (shlZ HZ.out (.const (.int .i64 1)) (.tmp 23) rfl rfl rfl (by omega) (by omega)) ?_) | (with_reducible refine opVal (v := .int .i64 (f + (z : Int))) (by kernel_rfl) (addRun (A := f) (B := (z : Int)) (.tmp 20) (.tmp 24) rfl rfl rfl rfl (by omega)) ?_) | (with_reducible refine opVal (v := .int .i64 (f + (z : Int) - 1)) (by kernel_rfl) (subRun (A := f + (z : Int)) (B := 1) (.tmp 25) (.const (.int .i64 1)) rfl rfl rfl rfl (by omega)) ?_))
          replace h4 := h4.drew
          replace h5 := h5.drew
          replace hb := hb.drew
          refine rgStart (fun w' => Arr w' w.heap.size 37 (bxs b) ∧ Arr w' g5 27 (ccs ⟨p, (l : Int)⟩)) (by kernel_rfl) ?_
          have hq : (fun w' : World => Arr w' w.heap.size 37 (bxs b) ∧ Arr w' g5 27 (ccs ⟨p, (l : Int)⟩)) _ := ⟨h4, h5⟩
          clear h4 h5
          generalize World.drew _ = wd at *
          refine rgLoad (S := fun w' => Arr w' w.heap.size 37 (bxs b) ∧ Arr w' g5 27 (ccs ⟨p, (l : Int)⟩)) (i := 0) (b := w.heap.size) (off := 0) (.tmp 3) (bxs b) Try.ag_bx rfl (by kernel_rfl) (by kernel_rfl) (fun _ _ _ h => h) rfl (by kernel_rfl) rfl (fun w h j u hu => by rw [Nat.zero_add]; exact (h.1).cell hu) hq ?_
          refine rgTake (S := fun w' => Arr w' w.heap.size 37 (bxs b) ∧ Arr w' g5 27 (ccs ⟨p, (l : Int)⟩)) (i := 1) (v := .pointer (some ⟨g5, 0, none⟩)) rfl (by kernel_rfl) (by kernel_rfl) (fun _ _ _ h => h) (fun w _ => by kernel_rfl) hq ?_
          refine rgTake (S := fun w' => Arr w' w.heap.size 37 (bxs b) ∧ Arr w' g5 27 (ccs ⟨p, (l : Int)⟩)) (i := 2) (v := .agg (pcs p).toArray) rfl (by kernel_rfl) (by kernel_rfl) (fun _ _ _ h => h) (fun w h => ldAgRun (.tmp 31) Try.ag_pt rfl (by kernel_rfl) rfl (fun j u hu => h.2.cell (i := 0 + j) (ccs_at ⟨p, (l : Int)⟩ hu))) hq ?_
          try simp only [Act.put, List.setIfInBounds_toArray, List.set_cons_succ, List.set_cons_zero]
          refine rgNext (S := fun w' => Arr w' w.heap.size 37 (bxs b) ∧ Arr w' g5 27 (ccs ⟨p, (l : Int)⟩)) (i := 3) (by kernel_rfl) rfl ?_
          refine callOp 33 [.agg (bxs b).toArray, .agg (pcs p).toArray] [] [] (by kernel_rfl) (by kernel_rfl) rfl rfl rfl ?_
          refine (HC1.out _).mono ?_
          rintro e wz ⟨rfl, bz⟩
          replace hq := And.intro (hq.1.below bz hq.1.lt) (hq.2.below bz hq.2.lt)
          replace hb := hb.trans (bz.mono hb.size)
          clear bz
          refine ⟨_, rfl, ?_⟩
          refine rgBack hq ?_
          refine rgTake (S := fun w' => Arr w' w.heap.size 37 (bxs b) ∧ Arr w' g5 27 (ccs ⟨p, (l : Int)⟩)) (i := 4) (v := .bool true) rfl (by kernel_rfl) (by kernel_rfl) (fun _ _ _ h => h) (fun w _ => by kernel_rfl) hq ?_
          refine rgLoad (S := fun w' => Arr w' w.heap.size 37 (bxs b) ∧ Arr w' g5 27 (ccs ⟨p, (l : Int)⟩)) (i := 5) (b := w.heap.size) (off := 0) (.tmp 3) (bxs b) Try.ag_bx rfl (by kernel_rfl) (by kernel_rfl) (fun _ _ _ h => h) rfl (by kernel_rfl) rfl (fun w h j u hu => by rw [Nat.zero_add]; exact (h.1).cell hu) hq ?_
          refine rgLoad (S := fun w' => Arr w' w.heap.size 37 (bxs b) ∧ Arr w' g5 27 (ccs ⟨p, (l : Int)⟩)) (i := 6) (b := g5) (off := 0) (.tmp 4) (ccs ⟨p, (l : Int)⟩) Try.ag_cu rfl (by kernel_rfl) (by kernel_rfl) (fun _ _ _ h => h) rfl (by kernel_rfl) rfl (fun w h j u hu => by rw [Nat.zero_add]; exact (h.2).cell hu) hq ?_
          try simp only [Act.put, List.setIfInBounds_toArray, List.set_cons_succ, List.set_cons_zero]
          refine rgNext (S := fun w' => Arr w' w.heap.size 37 (bxs b) ∧ Arr w' g5 27 (ccs ⟨p, (l : Int)⟩)) (i := 7) (by kernel_rfl) rfl ?_
          refine callOp 50 [.agg (ccs ⟨p, (l : Int)⟩).toArray] [] [] (by kernel_rfl) (by kernel_rfl) rfl rfl rfl ?_
          refine (HF.out _).mono ?_
          rintro e wz ⟨rfl, bz⟩
          replace hq := And.intro (hq.1.below bz hq.1.lt) (hq.2.below bz hq.2.lt)
          replace hb := hb.trans (bz.mono hb.size)
          clear bz
          refine ⟨_, rfl, ?_⟩
          refine rgBack hq ?_
          try simp only [Act.put, List.setIfInBounds_toArray, List.set_cons_succ, List.set_cons_zero]
          refine rgNext (S := fun w' => Arr w' w.heap.size 37 (bxs b) ∧ Arr w' g5 27 (ccs ⟨p, (l : Int)⟩)) (i := 8) (by kernel_rfl) rfl ?_
          refine callOp 33 [.agg (bxs b).toArray, .agg (pcs (p.far l)).toArray] [] [] (by kernel_rfl) (by kernel_rfl) rfl rfl rfl ?_
          refine (HC2.out _).mono ?_
          rintro e wz ⟨rfl, bz⟩
          replace hq := And.intro (hq.1.below bz hq.1.lt) (hq.2.below bz hq.2.lt)
          replace hb := hb.trans (bz.mono hb.size)
          clear bz
          refine ⟨_, rfl, ?_⟩
          refine rgBack hq ?_
          try simp only [Act.put, List.setIfInBounds_toArray, List.set_cons_succ, List.set_cons_zero]
          refine rgTake (S := fun w' => Arr w' w.heap.size 37 (bxs b) ∧ Arr w' g5 27 (ccs ⟨p, (l : Int)⟩)) (i := 9) (v := .bool true) rfl (by kernel_rfl) (by kernel_rfl) (fun _ _ _ h => h) (fun w _ => by kernel_rfl) hq ?_
          refine rgTake (S := fun w' => Arr w' w.heap.size 37 (bxs b) ∧ Arr w' g5 27 (ccs ⟨p, (l : Int)⟩)) (i := 10) (v := .bool true) rfl (by kernel_rfl) (by kernel_rfl) (fun _ _ _ h => h) (fun w _ => by kernel_rfl) hq ?_
          refine rgDone (by kernel_rfl) ?_
          try simp only [Act.put, List.setIfInBounds_toArray, List.set_cons_succ, List.set_cons_zero]
          obtain ⟨h4, h5⟩ := hq
          go_wp2_with fail
          go_ret
          exact .of HR.out.symm hb
        · rw [decide_eq_false hc2] at HC2
          have hnw : ¬ b.whole p l := fun h => hc2 h.2
          have hc2 := ()
          have HRD := Lib.hid (fun m (e : l = m + 1) => show leastL b n (m + 1) p = firstFrom (fun i => leastL b n m (p.child m i)) 8 0 by subst e; exact leastL_div HNC hnw)
          clear HNC
          generalize mEnc p = f at *
          have hl0 : l ≠ 0 := fun e => hnw (HW0.out e hap)
          obtain ⟨m, rfl⟩ : ∃ m, l = m + 1 := ⟨l - 1, by omega⟩
          have HR := Lib.hid (show leastL b n (m + 1) p = firstFrom (fun i => leastL b n m (p.child m i)) 8 0 from HRD.out m rfl)
          have HRec := Lib.hid (HIH.out m rfl)
          have HCH' := fun (i : Nat) (hi : i < 8) => refChild_any p m i HAL.out.1 (by omega) hi
          have HALC := Lib.hid (fun (i : Nat) (hi : i < 8) => al_child HAL.out (by omega) hi)
          clear hnw hl0 hap
          generalize leastL b n (m + 1) p = RES at *
          obtain ⟨L, hL⟩ : ∃ L : Int, L = ((m + 1 : Nat) : Int) := ⟨_, rfl⟩
          rw [← hL] at HF HAP HCH' ⊢
          have HCH := Lib.hid HCH'
          clear HCH'
          have HL := Lib.hid hL
          clear hL
          go_enter Try.func45, Try.ntmps45
          go_wp2_with (with_reducible refine bxArr (cs := bxs b) (.tmp 0) (wn rfl) rfl rfl ?_)
          intro w1 h4 b1
          go_wp2_with (with_reducible refine bxArr (cs := ccs ⟨p, L⟩) (.tmp 1) (wn rfl) rfl rfl ?_)
          intro w2 h5 b2
          have n4 := h4.lt
          have ls := b1.size
          have n5 : w1.heap.size < w2.heap.size := h5.lt
          replace h4 := h4.below b2 n4
          have hb := b1.trans (b2.mono ls)
          clear b1 b2
          generalize w1.heap.size = g5 at *
          go_wp2_with (with_reducible refine ldAgg (off := 0) (.tmp 12) (pcs p) Try.ag_pt (wn rfl) rfl rfl rfl (fun j u hu => h5.cell (i := 0 + j) (ccs_at ⟨p, L⟩ hu)) ?_)
          refine (HEN.out _).mono ?_
          rintro e w3 ⟨rfl, b3⟩
          replace h4 := h4.below b3 h4.lt
          replace h5 := h5.below b3 h5.lt
          replace hb := hb.trans (b3.mono hb.size)
          clear b3
          go_wp2_with (first | (with_reducible refine ldArr (.tmp 3) Try.ag_bx (wn rfl) rfl rfl rfl h4 ?_) | (with_reducible refine ldArr (.tmp 4) Try.ag_cu (wn rfl) rfl rfl rfl h5 ?_))
          refine (HAP.out _).mono ?_
          rintro e w4 ⟨rfl, b3⟩
          replace h4 := h4.below b3 h4.lt
          replace h5 := h5.below b3 h5.lt
          replace hb := hb.trans (b3.mono hb.size)
          clear b3
          have hlv := h5.cell (i := 3) (v := .int .i64 L) rfl
          go_wp2_with (first | (with_reducible refine ldOne (v := .int .i64 L) (.tmp 21) (by kernel_rfl) (by kernel_rfl) rfl rfl hlv ?_) | (with_reducible refine opVal (v := .int .i64 ((3 * (m + 1) : Nat) : Int)) (by kernel_rfl) (mulRun (A := 3) (B := L) (.const (.int .i64 3)) (.tmp 22) rfl rfl rfl (by have := HL.out; omega) (by omega)) ?_) | (with_reducible refine opVal (v := .int .i64 (z : Int)) (by kernel_rfl) (shlZ HZ.out (.const (.int .i64 1)) (.tmp 23) rfl rfl rfl (by omega) (by omega)) ?_) | (with_reducible refine opVal (v := .int .i64 (f + (z : Int))) (by kernel_rfl) (addRun (A := f) (B := (z : Int)) (.tmp 20) (.tmp 24) rfl rfl rfl rfl (by omega)) ?_) | (with_reducible refine opVal (v := .int .i64 (f + (z : Int) - 1)) (by kernel_rfl) (subRun (A := f + (z : Int)) (B := 1) (.tmp 25) (.const (.int .i64 1)) rfl rfl rfl rfl (by omega)) ?_))
          replace h4 := h4.drew
          replace h5 := h5.drew
          replace hb := hb.drew
          refine rgStart (fun w' => Arr w' w.heap.size 37 (bxs b) ∧ Arr w' g5 27 (ccs ⟨p, L⟩)) (by kernel_rfl) ?_
          have hq : (fun w' : World => Arr w' w.heap.size 37 (bxs b) ∧ Arr w' g5 27 (ccs ⟨p, L⟩)) _ := ⟨h4, h5⟩
          clear h4 h5
          generalize World.drew _ = wd at *
          refine rgLoad (S := fun w' => Arr w' w.heap.size 37 (bxs b) ∧ Arr w' g5 27 (ccs ⟨p, L⟩)) (i := 0) (b := w.heap.size) (off := 0) (.tmp 3) (bxs b) Try.ag_bx rfl (by kernel_rfl) (by kernel_rfl) (fun _ _ _ h => h) rfl (by kernel_rfl) rfl (fun w h j u hu => by rw [Nat.zero_add]; exact (h.1).cell hu) hq ?_
          refine rgTake (S := fun w' => Arr w' w.heap.size 37 (bxs b) ∧ Arr w' g5 27 (ccs ⟨p, L⟩)) (i := 1) (v := .pointer (some ⟨g5, 0, none⟩)) rfl (by kernel_rfl) (by kernel_rfl) (fun _ _ _ h => h) (fun w _ => by kernel_rfl) hq ?_
          refine rgTake (S := fun w' => Arr w' w.heap.size 37 (bxs b) ∧ Arr w' g5 27 (ccs ⟨p, L⟩)) (i := 2) (v := .agg (pcs p).toArray) rfl (by kernel_rfl) (by kernel_rfl) (fun _ _ _ h => h) (fun w h => ldAgRun (.tmp 31) Try.ag_pt rfl (by kernel_rfl) rfl (fun j u hu => h.2.cell (i := 0 + j) (ccs_at ⟨p, L⟩ hu))) hq ?_
          try simp only [Act.put, List.setIfInBounds_toArray, List.set_cons_succ, List.set_cons_zero]
          refine rgNext (S := fun w' => Arr w' w.heap.size 37 (bxs b) ∧ Arr w' g5 27 (ccs ⟨p, L⟩)) (i := 3) (by kernel_rfl) rfl ?_
          refine callOp 33 [.agg (bxs b).toArray, .agg (pcs p).toArray] [] [] (by kernel_rfl) (by kernel_rfl) rfl rfl rfl ?_
          refine (HC1.out _).mono ?_
          rintro e wz ⟨rfl, bz⟩
          replace hq := And.intro (hq.1.below bz hq.1.lt) (hq.2.below bz hq.2.lt)
          replace hb := hb.trans (bz.mono hb.size)
          clear bz
          refine ⟨_, rfl, ?_⟩
          refine rgBack hq ?_
          refine rgTake (S := fun w' => Arr w' w.heap.size 37 (bxs b) ∧ Arr w' g5 27 (ccs ⟨p, L⟩)) (i := 4) (v := .bool true) rfl (by kernel_rfl) (by kernel_rfl) (fun _ _ _ h => h) (fun w _ => by kernel_rfl) hq ?_
          refine rgLoad (S := fun w' => Arr w' w.heap.size 37 (bxs b) ∧ Arr w' g5 27 (ccs ⟨p, L⟩)) (i := 5) (b := w.heap.size) (off := 0) (.tmp 3) (bxs b) Try.ag_bx rfl (by kernel_rfl) (by kernel_rfl) (fun _ _ _ h => h) rfl (by kernel_rfl) rfl (fun w h j u hu => by rw [Nat.zero_add]; exact (h.1).cell hu) hq ?_
          refine rgLoad (S := fun w' => Arr w' w.heap.size 37 (bxs b) ∧ Arr w' g5 27 (ccs ⟨p, L⟩)) (i := 6) (b := g5) (off := 0) (.tmp 4) (ccs ⟨p, L⟩) Try.ag_cu rfl (by kernel_rfl) (by kernel_rfl) (fun _ _ _ h => h) rfl (by kernel_rfl) rfl (fun w h j u hu => by rw [Nat.zero_add]; exact (h.2).cell hu) hq ?_
          try simp only [Act.put, List.setIfInBounds_toArray, List.set_cons_succ, List.set_cons_zero]
          refine rgNext (S := fun w' => Arr w' w.heap.size 37 (bxs b) ∧ Arr w' g5 27 (ccs ⟨p, L⟩)) (i := 7) (by kernel_rfl) rfl ?_
          refine callOp 50 [.agg (ccs ⟨p, L⟩).toArray] [] [] (by kernel_rfl) (by kernel_rfl) rfl rfl rfl ?_
          refine (HF.out _).mono ?_
          rintro e wz ⟨rfl, bz⟩
          replace hq := And.intro (hq.1.below bz hq.1.lt) (hq.2.below bz hq.2.lt)
          replace hb := hb.trans (bz.mono hb.size)
          clear bz
          refine ⟨_, rfl, ?_⟩
          refine rgBack hq ?_
          try simp only [Act.put, List.setIfInBounds_toArray, List.set_cons_succ, List.set_cons_zero]
          refine rgNext (S := fun w' => Arr w' w.heap.size 37 (bxs b) ∧ Arr w' g5 27 (ccs ⟨p, L⟩)) (i := 8) (by kernel_rfl) rfl ?_
          refine callOp 33 [.agg (bxs b).toArray, .agg (pcs (p.far (m + 1))).toArray] [] [] (by kernel_rfl) (by kernel_rfl) rfl rfl rfl ?_
          refine (HC2.out _).mono ?_
          rintro e wz ⟨rfl, bz⟩
          replace hq := And.intro (hq.1.below bz hq.1.lt) (hq.2.below bz hq.2.lt)
          replace hb := hb.trans (bz.mono hb.size)
          clear bz
          refine ⟨_, rfl, ?_⟩
          refine rgBack hq ?_
          try simp only [Act.put, List.setIfInBounds_toArray, List.set_cons_succ, List.set_cons_zero]
          refine rgTake (S := fun w' => Arr w' w.heap.size 37 (bxs b) ∧ Arr w' g5 27 (ccs ⟨p, L⟩)) (i := 9) (v := .bool false) rfl (by kernel_rfl) (by kernel_rfl) (fun _ _ _ h => h) (fun w _ => by kernel_rfl) hq ?_
          refine rgTake (S := fun w' => Arr w' w.heap.size 37 (bxs b) ∧ Arr w' g5 27 (ccs ⟨p, L⟩)) (i := 10) (v := .bool false) rfl (by kernel_rfl) (by kernel_rfl) (fun _ _ _ h => h) (fun w _ => by kernel_rfl) hq ?_
          refine rgDone (by kernel_rfl) ?_
          try simp only [Act.put, List.setIfInBounds_toArray, List.set_cons_succ, List.set_cons_zero]
          obtain ⟨h4, h5⟩ := hq
          go_wp2_with fail
          go_loopw [10] (fun kk wr => ∃ k : Nat, k ≤ 8 ∧ kk = .int .i64 (k : Int) ∧ RES = firstFrom (fun i => leastL b n m (p.child m i)) (8 - k) k ∧ Below w.heap.size w wr ∧ Arr wr w.heap.size 37 (bxs b) ∧ Arr wr g5 27 (ccs ⟨p, L⟩)) (fun kk _ => 8 - (intOf kk).toNat)
          case atStart => exact ⟨0, by omega, rfl, HR.out, hb, h4, h5⟩
          case round =>
            clear hb h4 h5
            obtain ⟨k, hk, rfl, hE, hb, h4, h5⟩ := hrel
            by_cases hlt : k < 8
            · go_wp2_with fail
              have hE := Lib.hid (show RES = if 0 ≤ leastL b n m (p.child m k) then leastL b n m (p.child m k) else firstFrom (fun i => leastL b n m (p.child m i)) (8 - (k + 1)) (k + 1) by rw [hE, show 8 - k = 8 - (k + 1) + 1 by omega]; rfl)
              replace h4 := h4.drew
              replace h5 := h5.drew
              replace hb := hb.drew
              refine rgStart (fun w' => Arr w' w.heap.size 37 (bxs b) ∧ Arr w' g5 27 (ccs ⟨p, L⟩)) (by kernel_rfl) ?_
              have hq : (fun w' : World => Arr w' w.heap.size 37 (bxs b) ∧ Arr w' g5 27 (ccs ⟨p, L⟩)) _ := ⟨h4, h5⟩
              clear h4 h5
              generalize wr.drew = wd at *
              refine rgLoad (S := fun w' => Arr w' w.heap.size 37 (bxs b) ∧ Arr w' g5 27 (ccs ⟨p, L⟩)) (i := 0) (b := w.heap.size) (off := 0) (.tmp 3) (bxs b) Try.ag_bx rfl (by kernel_rfl) (by kernel_rfl) (fun _ _ _ h => h) rfl (by kernel_rfl) rfl (fun w h j u hu => by rw [Nat.zero_add]; exact (h.1).cell hu) hq ?_
              refine rgLoad (S := fun w' => Arr w' w.heap.size 37 (bxs b) ∧ Arr w' g5 27 (ccs ⟨p, L⟩)) (i := 1) (b := g5) (off := 0) (.tmp 4) (ccs ⟨p, L⟩) Try.ag_cu rfl (by kernel_rfl) (by kernel_rfl) (fun _ _ _ h => h) rfl (by kernel_rfl) rfl (fun w h j u hu => by rw [Nat.zero_add]; exact (h.2).cell hu) hq ?_
              refine rgTake (S := fun w' => Arr w' w.heap.size 37 (bxs b) ∧ Arr w' g5 27 (ccs ⟨p, L⟩)) (i := 2) (v := .int .i64 (k : Int)) rfl (by kernel_rfl) (by kernel_rfl) (fun _ _ _ h => h) (fun w _ => by kernel_rfl) hq ?_
              refine rgTake (S := fun w' => Arr w' w.heap.size 37 (bxs b) ∧ Arr w' g5 27 (ccs ⟨p, L⟩)) (i := 4) (v := .int .i64 n) rfl (by kernel_rfl) (by kernel_rfl) (fun _ _ _ h => h) (fun w _ => by kernel_rfl) hq ?_
              try simp only [Act.put, List.setIfInBounds_toArray, List.set_cons_succ, List.set_cons_zero]
              refine rgNext (S := fun w' => Arr w' w.heap.size 37 (bxs b) ∧ Arr w' g5 27 (ccs ⟨p, L⟩)) (i := 3) (by kernel_rfl) rfl ?_
              refine callOp 51 [.agg (ccs ⟨p, L⟩).toArray, .int .i64 (k : Int)] [] [] (by kernel_rfl) (by kernel_rfl) rfl rfl rfl ?_
              refine (HCH.out k hlt _).mono ?_
              rintro e wz ⟨rfl, bz⟩
              replace hq := And.intro (hq.1.below bz hq.1.lt) (hq.2.below bz hq.2.lt)
              replace hb := hb.trans (bz.mono hb.size)
              clear bz
              refine ⟨_, rfl, ?_⟩
              refine rgBack hq ?_
              try simp only [Act.put, List.setIfInBounds_toArray, List.set_cons_succ, List.set_cons_zero]
              refine rgNext (S := fun w' => Arr w' w.heap.size 37 (bxs b) ∧ Arr w' g5 27 (ccs ⟨p, L⟩)) (i := 5) (by kernel_rfl) rfl ?_
              refine callOp 45 [.agg (bxs b).toArray, .agg (ccs ⟨p.child m k, (m : Int)⟩).toArray, .int .i64 n] [] [] (by kernel_rfl) (by kernel_rfl) rfl rfl rfl ?_
              refine (HRec.out (p.child m k) _ (HALC.out k hlt)).mono ?_
              rintro e wz ⟨rfl, bz⟩
              replace hq := And.intro (hq.1.below bz hq.1.lt) (hq.2.below bz hq.2.lt)
              replace hb := hb.trans (bz.mono hb.size)
              clear bz
              refine ⟨_, rfl, ?_⟩
              refine rgBack hq ?_
              try simp only [Act.put, List.setIfInBounds_toArray, List.set_cons_succ, List.set_cons_zero]
              refine rgTake (S := fun w' => Arr w' w.heap.size 37 (bxs b) ∧ Arr w' g5 27 (ccs ⟨p, L⟩)) (i := 6) (v := .int .i64 (leastL b n m (p.child m k))) rfl (by kernel_rfl) (by kernel_rfl) (fun _ _ _ h => h) (fun w _ => by kernel_rfl) hq ?_
              refine rgDone (by kernel_rfl) ?_
              try simp only [Act.put, List.setIfInBounds_toArray, List.set_cons_succ, List.set_cons_zero]
              by_cases hx : 0 ≤ leastL b n m (p.child m k)
              · have HX := Lib.hid (show leastL b n m (p.child m k) = RES by rw [hE.out, if_pos hx])
                generalize leastL b n m (p.child m k) = X at *
                go_wp2_with fail
                go_ret
                exact .of HX.out hb
              · have HX := Lib.hid (show RES = firstFrom (fun i => leastL b n m (p.child m i)) (8 - (k + 1)) (k + 1) by rw [hE.out, if_neg hx])
                clear hE
                generalize leastL b n m (p.child m k) = X at *
                go_wp2_with fail
                exact ⟨⟨k + 1, by omega, by simp, HX.out, hb, hq.1, hq.2⟩, by simp [intOf]; omega⟩
            · obtain rfl : k = 8 := by omega
              go_wp2_with fail
              go_ret
              exact .of (show -1 = RES from hE.symm) hb
      · rw [decide_eq_false hc1] at HC1
        have hnw : ¬ b.whole p l := fun h => hc1 h.1
        have hc1 := ()
        have HRD := Lib.hid (fun m (e : l = m + 1) => show leastL b n (m + 1) p = firstFrom (fun i => leastL b n m (p.child m i)) 8 0 by subst e; exact leastL_div HNC hnw)
        clear HNC
        generalize mEnc p = f at *
        have hl0 : l ≠ 0 := fun e => hnw (HW0.out e hap)
        obtain ⟨m, rfl⟩ : ∃ m, l = m + 1 := ⟨l - 1, by omega⟩
        have HR := Lib.hid (show leastL b n (m + 1) p = firstFrom (fun i => leastL b n m (p.child m i)) 8 0 from HRD.out m rfl)
        have HRec := Lib.hid (HIH.out m rfl)
        have HCH' := fun (i : Nat) (hi : i < 8) => refChild_any p m i HAL.out.1 (by omega) hi
        have HALC := Lib.hid (fun (i : Nat) (hi : i < 8) => al_child HAL.out (by omega) hi)
        clear hnw hl0 hap
        generalize leastL b n (m + 1) p = RES at *
        obtain ⟨L, hL⟩ : ∃ L : Int, L = ((m + 1 : Nat) : Int) := ⟨_, rfl⟩
        rw [← hL] at HF HAP HCH' ⊢
        have HCH := Lib.hid HCH'
        clear HCH'
        have HL := Lib.hid hL
        clear hL
        go_enter Try.func45, Try.ntmps45
        go_wp2_with (with_reducible refine bxArr (cs := bxs b) (.tmp 0) (wn rfl) rfl rfl ?_)
        intro w1 h4 b1
        go_wp2_with (with_reducible refine bxArr (cs := ccs ⟨p, L⟩) (.tmp 1) (wn rfl) rfl rfl ?_)
        intro w2 h5 b2
        have n4 := h4.lt
        have ls := b1.size
        have n5 : w1.heap.size < w2.heap.size := h5.lt
        replace h4 := h4.below b2 n4
        have hb := b1.trans (b2.mono ls)
        clear b1 b2
        generalize w1.heap.size = g5 at *
        go_wp2_with (with_reducible refine ldAgg (off := 0) (.tmp 12) (pcs p) Try.ag_pt (wn rfl) rfl rfl rfl (fun j u hu => h5.cell (i := 0 + j) (ccs_at ⟨p, L⟩ hu)) ?_)
        refine (HEN.out _).mono ?_
        rintro e w3 ⟨rfl, b3⟩
        replace h4 := h4.below b3 h4.lt
        replace h5 := h5.below b3 h5.lt
        replace hb := hb.trans (b3.mono hb.size)
        clear b3
        go_wp2_with (first | (with_reducible refine ldArr (.tmp 3) Try.ag_bx (wn rfl) rfl rfl rfl h4 ?_) | (with_reducible refine ldArr (.tmp 4) Try.ag_cu (wn rfl) rfl rfl rfl h5 ?_))
        refine (HAP.out _).mono ?_
        rintro e w4 ⟨rfl, b3⟩
        replace h4 := h4.below b3 h4.lt
        replace h5 := h5.below b3 h5.lt
        replace hb := hb.trans (b3.mono hb.size)
        clear b3
        have hlv := h5.cell (i := 3) (v := .int .i64 L) rfl
        go_wp2_with (first | (with_reducible refine ldOne (v := .int .i64 L) (.tmp 21) (by kernel_rfl) (by kernel_rfl) rfl rfl hlv ?_) | (with_reducible refine opVal (v := .int .i64 ((3 * (m + 1) : Nat) : Int)) (by kernel_rfl) (mulRun (A := 3) (B := L) (.const (.int .i64 3)) (.tmp 22) rfl rfl rfl (by have := HL.out; omega) (by omega)) ?_) | (with_reducible refine opVal (v := .int .i64 (z : Int)) (by kernel_rfl) (shlZ HZ.out (.const (.int .i64 1)) (.tmp 23) rfl rfl rfl (by omega) (by omega)) ?_) | (with_reducible refine opVal (v := .int .i64 (f + (z : Int))) (by kernel_rfl) (addRun (A := f) (B := (z : Int)) (.tmp 20) (.tmp 24) rfl rfl rfl rfl (by omega)) ?_) | (with_reducible refine opVal (v := .int .i64 (f + (z : Int) - 1)) (by kernel_rfl) (subRun (A := f + (z : Int)) (B := 1) (.tmp 25) (.const (.int .i64 1)) rfl rfl rfl rfl (by omega)) ?_))
        replace h4 := h4.drew
        replace h5 := h5.drew
        replace hb := hb.drew
        refine rgStart (fun w' => Arr w' w.heap.size 37 (bxs b) ∧ Arr w' g5 27 (ccs ⟨p, L⟩)) (by kernel_rfl) ?_
        have hq : (fun w' : World => Arr w' w.heap.size 37 (bxs b) ∧ Arr w' g5 27 (ccs ⟨p, L⟩)) _ := ⟨h4, h5⟩
        clear h4 h5
        generalize World.drew _ = wd at *
        refine rgLoad (S := fun w' => Arr w' w.heap.size 37 (bxs b) ∧ Arr w' g5 27 (ccs ⟨p, L⟩)) (i := 0) (b := w.heap.size) (off := 0) (.tmp 3) (bxs b) Try.ag_bx rfl (by kernel_rfl) (by kernel_rfl) (fun _ _ _ h => h) rfl (by kernel_rfl) rfl (fun w h j u hu => by rw [Nat.zero_add]; exact (h.1).cell hu) hq ?_
        refine rgTake (S := fun w' => Arr w' w.heap.size 37 (bxs b) ∧ Arr w' g5 27 (ccs ⟨p, L⟩)) (i := 1) (v := .pointer (some ⟨g5, 0, none⟩)) rfl (by kernel_rfl) (by kernel_rfl) (fun _ _ _ h => h) (fun w _ => by kernel_rfl) hq ?_
        refine rgTake (S := fun w' => Arr w' w.heap.size 37 (bxs b) ∧ Arr w' g5 27 (ccs ⟨p, L⟩)) (i := 2) (v := .agg (pcs p).toArray) rfl (by kernel_rfl) (by kernel_rfl) (fun _ _ _ h => h) (fun w h => ldAgRun (.tmp 31) Try.ag_pt rfl (by kernel_rfl) rfl (fun j u hu => h.2.cell (i := 0 + j) (ccs_at ⟨p, L⟩ hu))) hq ?_
        try simp only [Act.put, List.setIfInBounds_toArray, List.set_cons_succ, List.set_cons_zero]
        refine rgNext (S := fun w' => Arr w' w.heap.size 37 (bxs b) ∧ Arr w' g5 27 (ccs ⟨p, L⟩)) (i := 3) (by kernel_rfl) rfl ?_
        refine callOp 33 [.agg (bxs b).toArray, .agg (pcs p).toArray] [] [] (by kernel_rfl) (by kernel_rfl) rfl rfl rfl ?_
        refine (HC1.out _).mono ?_
        rintro e wz ⟨rfl, bz⟩
        replace hq := And.intro (hq.1.below bz hq.1.lt) (hq.2.below bz hq.2.lt)
        replace hb := hb.trans (bz.mono hb.size)
        clear bz
        refine ⟨_, rfl, ?_⟩
        refine rgBack hq ?_
        refine rgTake (S := fun w' => Arr w' w.heap.size 37 (bxs b) ∧ Arr w' g5 27 (ccs ⟨p, L⟩)) (i := 4) (v := .bool false) rfl (by kernel_rfl) (by kernel_rfl) (fun _ _ _ h => h) (fun w _ => by kernel_rfl) hq ?_
        refine rgSkip (S := fun w' => Arr w' w.heap.size 37 (bxs b) ∧ Arr w' g5 27 (ccs ⟨p, L⟩)) (i := 5) rfl (by kernel_rfl) (by kernel_rfl) (fun _ _ _ h => h) hq ?_
        refine rgSkip (S := fun w' => Arr w' w.heap.size 37 (bxs b) ∧ Arr w' g5 27 (ccs ⟨p, L⟩)) (i := 6) rfl (by kernel_rfl) (by kernel_rfl) (fun _ _ _ h => h) hq ?_
        refine rgSkip (S := fun w' => Arr w' w.heap.size 37 (bxs b) ∧ Arr w' g5 27 (ccs ⟨p, L⟩)) (i := 7) rfl (by kernel_rfl) (by kernel_rfl) (fun _ _ _ h => h) hq ?_
        refine rgSkip (S := fun w' => Arr w' w.heap.size 37 (bxs b) ∧ Arr w' g5 27 (ccs ⟨p, L⟩)) (i := 8) rfl (by kernel_rfl) (by kernel_rfl) (fun _ _ _ h => h) hq ?_
        try simp only [Act.put, List.setIfInBounds_toArray, List.set_cons_succ, List.set_cons_zero]
        refine rgTake (S := fun w' => Arr w' w.heap.size 37 (bxs b) ∧ Arr w' g5 27 (ccs ⟨p, L⟩)) (i := 9) (v := .bool false) rfl (by kernel_rfl) (by kernel_rfl) (fun _ _ _ h => h) (fun w _ => by kernel_rfl) hq ?_
        refine rgTake (S := fun w' => Arr w' w.heap.size 37 (bxs b) ∧ Arr w' g5 27 (ccs ⟨p, L⟩)) (i := 10) (v := .bool false) rfl (by kernel_rfl) (by kernel_rfl) (fun _ _ _ h => h) (fun w _ => by kernel_rfl) hq ?_
        refine rgDone (by kernel_rfl) ?_
        try simp only [Act.put, List.setIfInBounds_toArray, List.set_cons_succ, List.set_cons_zero]
        obtain ⟨h4, h5⟩ := hq
        go_wp2_with fail
        go_loopw [10] (fun kk wr => ∃ k : Nat, k ≤ 8 ∧ kk = .int .i64 (k : Int) ∧ RES = firstFrom (fun i => leastL b n m (p.child m i)) (8 - k) k ∧ Below w.heap.size w wr ∧ Arr wr w.heap.size 37 (bxs b) ∧ Arr wr g5 27 (ccs ⟨p, L⟩)) (fun kk _ => 8 - (intOf kk).toNat)
        case atStart => exact ⟨0, by omega, rfl, HR.out, hb, h4, h5⟩
        case round =>
          clear hb h4 h5
          obtain ⟨k, hk, rfl, hE, hb, h4, h5⟩ := hrel
          by_cases hlt : k < 8
          · go_wp2_with fail
            have hE := Lib.hid (show RES = if 0 ≤ leastL b n m (p.child m k) then leastL b n m (p.child m k) else firstFrom (fun i => leastL b n m (p.child m i)) (8 - (k + 1)) (k + 1) by rw [hE, show 8 - k = 8 - (k + 1) + 1 by omega]; rfl)
            replace h4 := h4.drew
            replace h5 := h5.drew
            replace hb := hb.drew
            refine rgStart (fun w' => Arr w' w.heap.size 37 (bxs b) ∧ Arr w' g5 27 (ccs ⟨p, L⟩)) (by kernel_rfl) ?_
            have hq : (fun w' : World => Arr w' w.heap.size 37 (bxs b) ∧ Arr w' g5 27 (ccs ⟨p, L⟩)) _ := ⟨h4, h5⟩
            clear h4 h5
            generalize wr.drew = wd at *
            refine rgLoad (S := fun w' => Arr w' w.heap.size 37 (bxs b) ∧ Arr w' g5 27 (ccs ⟨p, L⟩)) (i := 0) (b := w.heap.size) (off := 0) (.tmp 3) (bxs b) Try.ag_bx rfl (by kernel_rfl) (by kernel_rfl) (fun _ _ _ h => h) rfl (by kernel_rfl) rfl (fun w h j u hu => by rw [Nat.zero_add]; exact (h.1).cell hu) hq ?_
            refine rgLoad (S := fun w' => Arr w' w.heap.size 37 (bxs b) ∧ Arr w' g5 27 (ccs ⟨p, L⟩)) (i := 1) (b := g5) (off := 0) (.tmp 4) (ccs ⟨p, L⟩) Try.ag_cu rfl (by kernel_rfl) (by kernel_rfl) (fun _ _ _ h => h) rfl (by kernel_rfl) rfl (fun w h j u hu => by rw [Nat.zero_add]; exact (h.2).cell hu) hq ?_
            refine rgTake (S := fun w' => Arr w' w.heap.size 37 (bxs b) ∧ Arr w' g5 27 (ccs ⟨p, L⟩)) (i := 2) (v := .int .i64 (k : Int)) rfl (by kernel_rfl) (by kernel_rfl) (fun _ _ _ h => h) (fun w _ => by kernel_rfl) hq ?_
            refine rgTake (S := fun w' => Arr w' w.heap.size 37 (bxs b) ∧ Arr w' g5 27 (ccs ⟨p, L⟩)) (i := 4) (v := .int .i64 n) rfl (by kernel_rfl) (by kernel_rfl) (fun _ _ _ h => h) (fun w _ => by kernel_rfl) hq ?_
            try simp only [Act.put, List.setIfInBounds_toArray, List.set_cons_succ, List.set_cons_zero]
            refine rgNext (S := fun w' => Arr w' w.heap.size 37 (bxs b) ∧ Arr w' g5 27 (ccs ⟨p, L⟩)) (i := 3) (by kernel_rfl) rfl ?_
            refine callOp 51 [.agg (ccs ⟨p, L⟩).toArray, .int .i64 (k : Int)] [] [] (by kernel_rfl) (by kernel_rfl) rfl rfl rfl ?_
            refine (HCH.out k hlt _).mono ?_
            rintro e wz ⟨rfl, bz⟩
            replace hq := And.intro (hq.1.below bz hq.1.lt) (hq.2.below bz hq.2.lt)
            replace hb := hb.trans (bz.mono hb.size)
            clear bz
            refine ⟨_, rfl, ?_⟩
            refine rgBack hq ?_
            try simp only [Act.put, List.setIfInBounds_toArray, List.set_cons_succ, List.set_cons_zero]
            refine rgNext (S := fun w' => Arr w' w.heap.size 37 (bxs b) ∧ Arr w' g5 27 (ccs ⟨p, L⟩)) (i := 5) (by kernel_rfl) rfl ?_
            refine callOp 45 [.agg (bxs b).toArray, .agg (ccs ⟨p.child m k, (m : Int)⟩).toArray, .int .i64 n] [] [] (by kernel_rfl) (by kernel_rfl) rfl rfl rfl ?_
            refine (HRec.out (p.child m k) _ (HALC.out k hlt)).mono ?_
            rintro e wz ⟨rfl, bz⟩
            replace hq := And.intro (hq.1.below bz hq.1.lt) (hq.2.below bz hq.2.lt)
            replace hb := hb.trans (bz.mono hb.size)
            clear bz
            refine ⟨_, rfl, ?_⟩
            refine rgBack hq ?_
            try simp only [Act.put, List.setIfInBounds_toArray, List.set_cons_succ, List.set_cons_zero]
            refine rgTake (S := fun w' => Arr w' w.heap.size 37 (bxs b) ∧ Arr w' g5 27 (ccs ⟨p, L⟩)) (i := 6) (v := .int .i64 (leastL b n m (p.child m k))) rfl (by kernel_rfl) (by kernel_rfl) (fun _ _ _ h => h) (fun w _ => by kernel_rfl) hq ?_
            refine rgDone (by kernel_rfl) ?_
            try simp only [Act.put, List.setIfInBounds_toArray, List.set_cons_succ, List.set_cons_zero]
            by_cases hx : 0 ≤ leastL b n m (p.child m k)
            · have HX := Lib.hid (show leastL b n m (p.child m k) = RES by rw [hE.out, if_pos hx])
              generalize leastL b n m (p.child m k) = X at *
              go_wp2_with fail
              go_ret
              exact .of HX.out hb
            · have HX := Lib.hid (show RES = firstFrom (fun i => leastL b n m (p.child m i)) (8 - (k + 1)) (k + 1) by rw [hE.out, if_neg hx])
              clear hE
              generalize leastL b n m (p.child m k) = X at *
              go_wp2_with fail
              exact ⟨⟨k + 1, by omega, by simp, HX.out, hb, hq.1, hq.2⟩, by simp [intOf]; omega⟩
          · obtain rfl : k = 8 := by omega
            go_wp2_with fail
            go_ret
            exact .of (show -1 = RES from hE.symm) hb
theorem refLeast_rec (b : Bx) (n : Int) : ∀ l, l ≤ 14 → LeastAt b n l
  | 0, h => refLeast_step b n 0 h (fun m e => by omega)
  | l + 1, h => refLeast_step b n (l + 1) h (fun m e => by
    obtain rfl : m = l := by omega
    exact refLeast_rec b n m (by omega))
set_option maxRecDepth 100000 in
set_option maxHeartbeats 4000000 in
theorem refNext_any (b : Bx) (n : Int) (w : World) : Calls Try.prog 29 #[.agg (bxs b).toArray, .int .i64 n] w (RetI w (mNext b n)) := by
  by_cases hne : b.ne
  · have HREC := Lib.hid (refLeast_rec b n 14 (by omega) p0)
    have HR := Lib.hid (show mNext b n = leastL b n 14 p0 by unfold mNext; rw [if_pos hne])
    obtain ⟨n1, n2, n3⟩ := hne
    go_enter Try.func29, Try.ntmps29
    go_wp2_with (with_reducible refine bxArr (cs := bxs b) (.tmp 0) (wn rfl) rfl rfl ?_)
    intro w1 h1 b1
    have d0 := h1.cell (i := 0) (v := .int .i64 b.mn.x) rfl
    have d1 := h1.cell (i := 1) (v := .int .i64 b.mn.y) rfl
    have d2 := h1.cell (i := 2) (v := .int .i64 b.mn.z) rfl
    have d3 := h1.cell (i := 3) (v := .int .i64 b.mx.x) rfl
    have d4 := h1.cell (i := 4) (v := .int .i64 b.mx.y) rfl
    have d5 := h1.cell (i := 5) (v := .int .i64 b.mx.z) rfl
    go_wp2_with (with_reducible refine ldArr (.tmp 2) Try.ag_bx (wn rfl) rfl rfl rfl h1 ?_)
    refine (HREC.out _ al_top).mono ?_
    rintro e w2 ⟨rfl, hb⟩
    go_wp2_with fail
    go_ret
    exact .of HR.out.symm (b1.trans (hb.mono b1.size))
  · have HR := Lib.hid (show mNext b n = -1 by unfold mNext; rw [if_neg hne])
    have HNE : Hid (¬ (b.mn.x < b.mx.x ∧ b.mn.y < b.mx.y ∧ b.mn.z < b.mx.z)) := Lib.hid hne
    clear hne
    generalize mNext b n = RES at *
    go_enter Try.func29, Try.ntmps29
    go_wp2_with (with_reducible refine bxArr (cs := bxs b) (.tmp 0) (wn rfl) rfl rfl ?_)
    intro w1 h1 b1
    have d0 := h1.cell (i := 0) (v := .int .i64 b.mn.x) rfl
    have d1 := h1.cell (i := 1) (v := .int .i64 b.mn.y) rfl
    have d2 := h1.cell (i := 2) (v := .int .i64 b.mn.z) rfl
    have d3 := h1.cell (i := 3) (v := .int .i64 b.mx.x) rfl
    have d4 := h1.cell (i := 4) (v := .int .i64 b.mx.y) rfl
    have d5 := h1.cell (i := 5) (v := .int .i64 b.mx.z) rfl
    have hne := HNE.out
    generalize b.mn.x = x1 at *
    generalize b.mn.y = y1 at *
    generalize b.mn.z = z1 at *
    generalize b.mx.x = x2 at *
    generalize b.mx.y = y2 at *
    generalize b.mx.z = z2 at *
    by_cases hx : x2 ≤ x1
    · go_wp2_with fail
      go_ret
      exact .of HR.out.symm b1
    · by_cases hy : y2 ≤ y1
      · go_wp2_with fail
        go_ret
        exact .of HR.out.symm b1
      · have hz : z2 ≤ z1 := by omega
        go_wp2_with fail
        go_ret
        exact .of HR.out.symm b1
end Go.Proofs.Ytkfijpghjjnpkaa
/-
  '==' on cubes and runs; SameCubes and SameRuns. No statement is proved here.
-/
namespace Go.Proofs.Ytkfijpghjjnpkaa
open Go.RowKit
set_option linter.unusedVariables false
set_option linter.unusedSimpArgs false

theorem Try.cu_fields : (Try.prog.fieldsOf 27).toList.map (fun f => (f.name, f.type, f.offset)) = [("At", 23, 0), ("Level", 3, 3)] := by kernel_rfl
theorem Try.ru_fields : (Try.prog.fieldsOf 54).toList.map (fun f => (f.name, f.type, f.offset)) = [("First", 3, 0), ("Last", 3, 1)] := by kernel_rfl
theorem part_agg {P : Program} {w : World} {ty : TypeId} {z : Array Value} {n : Nat} (T : AgTy P ty z n) (cs : Array Value) (off : Nat) : (Go.part ty cs off).run P w = .ok (.agg (cs.extract off (off + n))) w := by
  have ha : (isAgg ty).run P w = .ok true w := by
    obtain ⟨d, hd, h2⟩ := Option.map_eq_some_iff.1 T.agg
    unfold isAgg
    rw [Sem.run_bind, run_underlying hd w]
    cases d <;> simp_all
  obtain ⟨i, hi, hz⟩ := Option.map_eq_some_iff.1 T.inf
  have hsz : i.size = n := by injection hz
  unfold Go.part
  simp [ha, sizeOf, typeInfo, hi, hsz]
theorem eqCus (w : World) (d : Nat) (p q : Cube) : (Op.equalIn (d + 3) 27 (.agg (ccs p).toArray) (.agg (ccs q).toArray)).run Try.prog w = .ok (decide (p = q)) w := by
  rw [run_equalIn_struct w (d + 2) 27 _ _ (by kernel_rfl) (by kernel_rfl)]
  obtain ⟨fs, hfs⟩ : ∃ fs, fs = (Try.prog.fieldsOf 27).toList := ⟨_, rfl⟩
  have hm := Try.cu_fields
  rw [← hfs] at hm ⊢
  obtain ⟨f0, f1, rfl⟩ : ∃ f0 f1, fs = [f0, f1] := by
    match fs, hm with
    | [a, b], _ => exact ⟨a, b, rfl⟩
  simp only [List.map_cons, List.map_nil, List.cons.injEq, Prod.mk.injEq, and_true] at hm
  obtain ⟨⟨n0, t0, o0⟩, ⟨n1, t1, o1⟩⟩ := hm
  obtain ⟨pa, pl⟩ := p
  obtain ⟨qa, ql⟩ := q
  have a0 : (Go.part 23 (ccs ⟨pa, pl⟩).toArray 0).run Try.prog w = .ok (.agg (pcs pa).toArray) w := part_agg Try.ag_pt _ _
  have b0 : (Go.part 23 (ccs ⟨qa, ql⟩).toArray 0).run Try.prog w = .ok (.agg (pcs qa).toArray) w := part_agg Try.ag_pt _ _
  have a1 := part_int (w := w) (cs := ccs ⟨pa, pl⟩) (i := 3) Try.und_int rfl
  have b1 := part_int (w := w) (cs := ccs ⟨qa, ql⟩) (i := 3) Try.und_int rfl
  have e := fun a b => run_equalIn_int w (d + 1) 3 .i64 .i64 a b Try.und_int
  have e2 := eqPts w d pa qa
  simp only [Op.eqFields, n0, n1, t0, t1, o0, o1, Sem.run_bind, Sem.run_ite, a0, a1, b0, b1, e, e2, Result.andThen_ok, Sem.run_pure]
  by_cases h0 : pa = qa
  · by_cases h1 : pl = ql
    · subst h0; subst h1; simp
    · subst h0; simp [h1]
  · simp [h0]
theorem eqRus (w : World) (d : Nat) (p q : Run) : (Op.equalIn (d + 2) 54 (.agg (rcs p).toArray) (.agg (rcs q).toArray)).run Try.prog w = .ok (decide (p = q)) w := by
  rw [run_equalIn_struct w (d + 1) 54 _ _ (by kernel_rfl) (by kernel_rfl)]
  obtain ⟨fs, hfs⟩ : ∃ fs, fs = (Try.prog.fieldsOf 54).toList := ⟨_, rfl⟩
  have hm := Try.ru_fields
  rw [← hfs] at hm ⊢
  obtain ⟨f0, f1, rfl⟩ : ∃ f0 f1, fs = [f0, f1] := by
    match fs, hm with
    | [a, b], _ => exact ⟨a, b, rfl⟩
  simp only [List.map_cons, List.map_nil, List.cons.injEq, Prod.mk.injEq, and_true] at hm
  obtain ⟨⟨n0, t0, o0⟩, ⟨n1, t1, o1⟩⟩ := hm
  obtain ⟨pa, pl⟩ := p
  obtain ⟨qa, ql⟩ := q
  have a0 := part_int (w := w) (cs := rcs ⟨pa, pl⟩) (i := 0) Try.und_int rfl
  have b0 := part_int (w := w) (cs := rcs ⟨qa, ql⟩) (i := 0) Try.und_int rfl
  have a1 := part_int (w := w) (cs := rcs ⟨pa, pl⟩) (i := 1) Try.und_int rfl
  have b1 := part_int (w := w) (cs := rcs ⟨qa, ql⟩) (i := 1) Try.und_int rfl
  have e := fun a b => run_equalIn_int w d 3 .i64 .i64 a b Try.und_int
  simp only [Op.eqFields, n0, n1, t0, t1, o0, o1, Sem.run_bind, Sem.run_ite, a0, a1, b0, b1, e, Result.andThen_ok, Sem.run_pure]
  by_cases h0 : pa = qa
  · by_cases h1 : pl = ql
    · subst h0; subst h1; simp
    · subst h0; simp [h1]
  · simp [h0]
theorem list_take_eq {α : Type} {a b : List α} {k : Nat} {x y : α} (h : a.take k = b.take k) (hx : a[k]? = some x) (hy : b[k]? = some y) (e : x = y) : a.take (k + 1) = b.take (k + 1) := by
  rw [List.take_add_one, List.take_add_one, h, hx, hy, e]
theorem rus_at : ∀ (l : List Run) (k : Nat) (c : Run), l[k]? = some c → ∀ j u, (rcs c)[j]? = some u → (rus l)[k * 2 + j]? = some u
  | [], k, c, h, _, _, _ => by simp at h
  | d :: l, 0, c, h, j, u, hj => by
    simp only [List.getElem?_cons_zero, Option.some.injEq] at h
    subst h
    have hl := (List.getElem?_eq_some_iff.1 hj).1
    show (rcs d ++ rus l)[_]? = _
    rw [Nat.zero_mul, Nat.zero_add, List.getElem?_append_left hl]
    exact hj
  | d :: l, k + 1, c, h, j, u, hj => by
    have ih := rus_at l k c (by simpa using h) j u hj
    show (rcs d ++ rus l)[_]? = _
    rw [List.getElem?_append_right (by show 2 ≤ _; omega), show (k + 1) * 2 + j - (rcs d).length = k * 2 + j by show _ - 2 = _; omega]
    exact ih
theorem eqlCuRun {w : World} {o : Oper} {a : Act} {ty : TypeId} (x y : Operand) (p q : Cube) (ho : o.op = .binOp .eql 27 x y ty) (hx : a.eval x = .agg (ccs p).toArray) (hy : a.eval y = .agg (ccs q).toArray) :
    (execOp a.eval o).run Try.prog w = .ok (.value (.bool (decide (p = q)))) w := by
  have hq : Try.prog.eqGuardType Try.prog.depth 27 = false := by kernel_rfl
  have hr := eqCus w 9997 p q
  unfold execOp
  simp only [ho, hx, hy]
  simp [eqGuard, hq, run_eql_struct, hr]
theorem neqCuRun {w : World} {o : Oper} {a : Act} {ty : TypeId} (x y : Operand) (p q : Cube) (ho : o.op = .binOp .neq 27 x y ty) (hx : a.eval x = .agg (ccs p).toArray) (hy : a.eval y = .agg (ccs q).toArray) :
    (execOp a.eval o).run Try.prog w = .ok (.value (.bool (!decide (p = q)))) w := by
  have hq : Try.prog.eqGuardType Try.prog.depth 27 = false := by kernel_rfl
  have hr := eqCus w 9997 p q
  unfold execOp
  simp only [ho, hx, hy]
  simp [eqGuard, hq, run_neq_struct, hr]
theorem eqlRuRun {w : World} {o : Oper} {a : Act} {ty : TypeId} (x y : Operand) (p q : Run) (ho : o.op = .binOp .eql 54 x y ty) (hx : a.eval x = .agg (rcs p).toArray) (hy : a.eval y = .agg (rcs q).toArray) :
    (execOp a.eval o).run Try.prog w = .ok (.value (.bool (decide (p = q)))) w := by
  have hq : Try.prog.eqGuardType Try.prog.depth 54 = false := by kernel_rfl
  have hr := eqRus w 9998 p q
  unfold execOp
  simp only [ho, hx, hy]
  simp [eqGuard, hq, run_eql_struct, hr]
theorem neqRuRun {w : World} {o : Oper} {a : Act} {ty : TypeId} (x y : Operand) (p q : Run) (ho : o.op = .binOp .neq 54 x y ty) (hx : a.eval x = .agg (rcs p).toArray) (hy : a.eval y = .agg (rcs q).toArray) :
    (execOp a.eval o).run Try.prog w = .ok (.value (.bool (!decide (p = q)))) w := by
  have hq : Try.prog.eqGuardType Try.prog.depth 54 = false := by kernel_rfl
  have hr := eqRus w 9998 p q
  unfold execOp
  simp only [ho, hx, hy]
  simp [eqGuard, hq, run_neq_struct, hr]
set_option maxRecDepth 100000 in
set_option maxHeartbeats 2000000 in
theorem sameCu_any (la lb : List Cube) (A A' : Option Addr) (c c' : Nat) (w : World) (hA : Rd w w.heap.size 4 A la.length c (cus la)) (hA' : Rd w w.heap.size 4 A' lb.length c' (cus lb)) : Calls Try.prog 26 #[.slice A la.length c, .slice A' lb.length c'] w (RetB w (decide (la = lb))) := by
  have hmx : la.length ≤ 9223372036854775807 ∧ lb.length ≤ 9223372036854775807 := by
    have h1 := hA.le
    have h2 := hA.cap
    have h3 := hA'.le
    have h4 := hA'.cap
    unfold maxLen at h2 h4
    omega
  by_cases hlen : la.length = lb.length
  · obtain ⟨n, hn⟩ : ∃ n, la.length = n := ⟨_, rfl⟩
    have hm : lb.length = n := by omega
    rw [hn] at hA hmx ⊢
    rw [hm] at hA' hmx ⊢
    have HN := Lib.hid hn
    have HM := Lib.hid hm
    have hnx := hmx.1
    clear hn hm hlen hmx
    go_enter Try.func26, Try.ntmps26
    go_wp2_with fail
    go_loopw [5] (fun kk wr => ∃ k : Nat, k ≤ n ∧ kk = .int .i64 (k : Int) ∧ la.take k = lb.take k ∧ Below w.heap.size w wr) (fun kk _ => n - (intOf kk).toNat)
    case atStart => exact ⟨0, by omega, rfl, rfl, Below.refl _ _⟩
    case round =>
      obtain ⟨k, hk, rfl, hE, hb⟩ := hrel
      by_cases hlt : k < n
      · obtain ⟨C, hC⟩ : ∃ C, la[k]? = some C := ⟨la[k]'(by have := HN.out; omega), List.getElem?_eq_getElem _⟩
        obtain ⟨D, hD⟩ : ∃ D, lb[k]? = some D := ⟨lb[k]'(by have := HM.out; omega), List.getElem?_eq_getElem _⟩
        obtain ⟨b0, off, rfl, -, hcells⟩ := (hA.below hb).cells (by omega)
        obtain ⟨b1, off', rfl, -, hcells'⟩ := (hA'.below hb).cells (by omega)
        have hc : ∀ j x, (ccs C)[j]? = some x → wr.drew.cell? ⟨b0, off + k * 4 + j, none⟩ = some x := fun j x hj => by
          rw [Nat.add_assoc]
          exact hcells _ _ (cus_at la k C hC j x hj)
        have hd : ∀ j x, (ccs D)[j]? = some x → wr.drew.cell? ⟨b1, off' + k * 4 + j, none⟩ = some x := fun j x hj => by
          rw [Nat.add_assoc]
          exact hcells' _ _ (cus_at lb k D hD j x hj)
        clear hcells hcells'
        have HC := Lib.hid hC
        have HD := Lib.hid hD
        have HE := Lib.hid hE
        clear hC hD hE
        go_wp2_with fail
        refine rgStart (fun w' => (∀ j x, (ccs C)[j]? = some x → w'.cell? ⟨b0, off + k * 4 + j, none⟩ = some x) ∧ (∀ j x, (ccs D)[j]? = some x → w'.cell? ⟨b1, off' + k * 4 + j, none⟩ = some x)) (by kernel_rfl) ?_
        have hq : (fun w' : World => (∀ j x, (ccs C)[j]? = some x → w'.cell? ⟨b0, off + k * 4 + j, none⟩ = some x) ∧ (∀ j x, (ccs D)[j]? = some x → w'.cell? ⟨b1, off' + k * 4 + j, none⟩ = some x)) wr.drew := ⟨hc, hd⟩
        clear hc hd
        replace hb := hb.drew
        generalize wr.drew = wd at *
        refine rgTake (S := fun w' => (∀ j x, (ccs C)[j]? = some x → w'.cell? ⟨b0, off + k * 4 + j, none⟩ = some x) ∧ (∀ j x, (ccs D)[j]? = some x → w'.cell? ⟨b1, off' + k * 4 + j, none⟩ = some x)) (i := 0) (v := .slice (some ⟨b0, off, none⟩) n c) rfl (by kernel_rfl) (by kernel_rfl) (fun _ _ _ h => h) (fun w _ => by kernel_rfl) hq ?_
        refine rgTake (S := fun w' => (∀ j x, (ccs C)[j]? = some x → w'.cell? ⟨b0, off + k * 4 + j, none⟩ = some x) ∧ (∀ j x, (ccs D)[j]? = some x → w'.cell? ⟨b1, off' + k * 4 + j, none⟩ = some x)) (i := 1) (v := .int .i64 (k : Int)) rfl (by kernel_rfl) (by kernel_rfl) (fun _ _ _ h => h) (fun w _ => by kernel_rfl) hq ?_
        refine rgTake (S := fun w' => (∀ j x, (ccs C)[j]? = some x → w'.cell? ⟨b0, off + k * 4 + j, none⟩ = some x) ∧ (∀ j x, (ccs D)[j]? = some x → w'.cell? ⟨b1, off' + k * 4 + j, none⟩ = some x)) (i := 2) (v := .pointer (some ⟨b0, off + k * 4, none⟩)) rfl (by kernel_rfl) (by kernel_rfl) (fun _ _ _ h => h) (fun w _ => iaRowRun (kk := .i64) (n := n) (c := c) (.tmp 17) (.tmp 18) k Try.sl_cu rfl (by kernel_rfl) (by kernel_rfl) rfl (by omega)) hq ?_
        refine rgTake (S := fun w' => (∀ j x, (ccs C)[j]? = some x → w'.cell? ⟨b0, off + k * 4 + j, none⟩ = some x) ∧ (∀ j x, (ccs D)[j]? = some x → w'.cell? ⟨b1, off' + k * 4 + j, none⟩ = some x)) (i := 3) (v := .agg (ccs C).toArray) rfl (by kernel_rfl) (by kernel_rfl) (fun _ _ _ h => h) (fun w h => ldAgRun (.tmp 19) Try.ag_cu rfl (by kernel_rfl) rfl h.1) hq ?_
        try simp only [Act.put, List.setIfInBounds_toArray, List.set_cons_succ, List.set_cons_zero]
        refine rgTake (S := fun w' => (∀ j x, (ccs C)[j]? = some x → w'.cell? ⟨b0, off + k * 4 + j, none⟩ = some x) ∧ (∀ j x, (ccs D)[j]? = some x → w'.cell? ⟨b1, off' + k * 4 + j, none⟩ = some x)) (i := 4) (v := .slice (some ⟨b1, off', none⟩) n c') rfl (by kernel_rfl) (by kernel_rfl) (fun _ _ _ h => h) (fun w _ => by kernel_rfl) hq ?_
        refine rgTake (S := fun w' => (∀ j x, (ccs C)[j]? = some x → w'.cell? ⟨b0, off + k * 4 + j, none⟩ = some x) ∧ (∀ j x, (ccs D)[j]? = some x → w'.cell? ⟨b1, off' + k * 4 + j, none⟩ = some x)) (i := 5) (v := .int .i64 (k : Int)) rfl (by kernel_rfl) (by kernel_rfl) (fun _ _ _ h => h) (fun w _ => by kernel_rfl) hq ?_
        refine rgTake (S := fun w' => (∀ j x, (ccs C)[j]? = some x → w'.cell? ⟨b0, off + k * 4 + j, none⟩ = some x) ∧ (∀ j x, (ccs D)[j]? = some x → w'.cell? ⟨b1, off' + k * 4 + j, none⟩ = some x)) (i := 6) (v := .pointer (some ⟨b1, off' + k * 4, none⟩)) rfl (by kernel_rfl) (by kernel_rfl) (fun _ _ _ h => h) (fun w _ => iaRowRun (kk := .i64) (n := n) (c := c') (.tmp 21) (.tmp 22) k Try.sl_cu rfl (by kernel_rfl) (by kernel_rfl) rfl (by omega)) hq ?_
        refine rgTake (S := fun w' => (∀ j x, (ccs C)[j]? = some x → w'.cell? ⟨b0, off + k * 4 + j, none⟩ = some x) ∧ (∀ j x, (ccs D)[j]? = some x → w'.cell? ⟨b1, off' + k * 4 + j, none⟩ = some x)) (i := 7) (v := .agg (ccs D).toArray) rfl (by kernel_rfl) (by kernel_rfl) (fun _ _ _ h => h) (fun w h => ldAgRun (.tmp 23) Try.ag_cu rfl (by kernel_rfl) rfl h.2) hq ?_
        try simp only [Act.put, List.setIfInBounds_toArray, List.set_cons_succ, List.set_cons_zero]
        refine rgTake (S := fun w' => (∀ j x, (ccs C)[j]? = some x → w'.cell? ⟨b0, off + k * 4 + j, none⟩ = some x) ∧ (∀ j x, (ccs D)[j]? = some x → w'.cell? ⟨b1, off' + k * 4 + j, none⟩ = some x)) (i := 8) (v := .bool (!decide (C = D))) rfl (by kernel_rfl) (by kernel_rfl) (fun _ _ _ h => h) (fun w _ => neqCuRun (.tmp 20) (.tmp 24) C D rfl (by kernel_rfl) (by kernel_rfl)) hq ?_
        refine rgDone (by kernel_rfl) ?_
        try simp only [Act.put, List.setIfInBounds_toArray, List.set_cons_succ, List.set_cons_zero]
        by_cases hCD : C = D
        · have HS := Lib.hid (list_take_eq HE.out HC.out HD.out hCD)
          rw [decide_eq_true hCD]
          clear hCD
          go_wp2_with fail
          exact ⟨⟨k + 1, by omega, by simp, HS.out, hb⟩, by simp [intOf]; omega⟩
        · have hne : la ≠ lb := fun e => by
            have h1 := HC.out
            have h2 := HD.out
            rw [e, h2] at h1
            injection h1 with h1
            exact hCD h1.symm
          rw [decide_eq_false hCD]
          have HNE := Lib.hid (decide_eq_false hne)
          clear hne hCD
          go_wp2_with fail
          go_ret
          exact ⟨congrArg (fun b => Ending.returned (.bool b)) HNE.out.symm, hb⟩
      · obtain rfl : k = n := by omega
        have HNE := Lib.hid (decide_eq_true (show la = lb by
          have h1 := HN.out
          have h2 := HM.out
          rw [← h1, List.take_length, h1, ← h2, List.take_length] at hE
          exact hE))
        clear hE
        go_wp2_with fail
        go_ret
        exact ⟨congrArg (fun b => Ending.returned (.bool b)) HNE.out.symm, hb⟩
  · have HNE := Lib.hid (decide_eq_false (show la ≠ lb from fun e => hlen (by rw [e])))
    generalize la.length = n at *
    generalize lb.length = m at *
    have hlI : ¬ (n : Int) = (m : Int) := by omega
    go_enter Try.func26, Try.ntmps26
    go_wp2_with fail
    go_ret
    exact ⟨congrArg (fun b => Ending.returned (.bool b)) HNE.out.symm, Below.refl _ _⟩
set_option maxRecDepth 100000 in
set_option maxHeartbeats 2000000 in
theorem sameRu_any (la lb : List Run) (A A' : Option Addr) (c c' : Nat) (w : World) (hA : Rd w w.heap.size 2 A la.length c (rus la)) (hA' : Rd w w.heap.size 2 A' lb.length c' (rus lb)) : Calls Try.prog 27 #[.slice A la.length c, .slice A' lb.length c'] w (RetB w (decide (la = lb))) := by
  have hmx : la.length ≤ 9223372036854775807 ∧ lb.length ≤ 9223372036854775807 := by
    have h1 := hA.le
    have h2 := hA.cap
    have h3 := hA'.le
    have h4 := hA'.cap
    unfold maxLen at h2 h4
    omega
  by_cases hlen : la.length = lb.length
  · obtain ⟨n, hn⟩ : ∃ n, la.length = n := ⟨_, rfl⟩
    have hm : lb.length = n := by omega
    rw [hn] at hA hmx ⊢
    rw [hm] at hA' hmx ⊢
    have HN := Lib.hid hn
    have HM := Lib.hid hm
    have hnx := hmx.1
    clear hn hm hlen hmx
    go_enter Try.func27, Try.ntmps27
    go_wp2_with fail
    go_loopw [5] (fun kk wr => ∃ k : Nat, k ≤ n ∧ kk = .int .i64 (k : Int) ∧ la.take k = lb.take k ∧ Below w.heap.size w wr) (fun kk _ => n - (intOf kk).toNat)
    case atStart => exact ⟨0, by omega, rfl, rfl, Below.refl _ _⟩
    case round =>
      obtain ⟨k, hk, rfl, hE, hb⟩ := hrel
      by_cases hlt : k < n
      · obtain ⟨C, hC⟩ : ∃ C, la[k]? = some C := ⟨la[k]'(by have := HN.out; omega), List.getElem?_eq_getElem _⟩
        obtain ⟨D, hD⟩ : ∃ D, lb[k]? = some D := ⟨lb[k]'(by have := HM.out; omega), List.getElem?_eq_getElem _⟩
        obtain ⟨b0, off, rfl, -, hcells⟩ := (hA.below hb).cells (by omega)
        obtain ⟨b1, off', rfl, -, hcells'⟩ := (hA'.below hb).cells (by omega)
        have hc : ∀ j x, (rcs C)[j]? = some x → wr.drew.cell? ⟨b0, off + k * 2 + j, none⟩ = some x := fun j x hj => by
          rw [Nat.add_assoc]
          exact hcells _ _ (rus_at la k C hC j x hj)
        have hd : ∀ j x, (rcs D)[j]? = some x → wr.drew.cell? ⟨b1, off' + k * 2 + j, none⟩ = some x := fun j x hj => by
          rw [Nat.add_assoc]
          exact hcells' _ _ (rus_at lb k D hD j x hj)
        clear hcells hcells'
        have HC := Lib.hid hC
        have HD := Lib.hid hD
        have HE := Lib.hid hE
        clear hC hD hE
        go_wp2_with fail
        refine rgStart (fun w' => (∀ j x, (rcs C)[j]? = some x → w'.cell? ⟨b0, off + k * 2 + j, none⟩ = some x) ∧ (∀ j x, (rcs D)[j]? = some x → w'.cell? ⟨b1, off' + k * 2 + j, none⟩ = some x)) (by kernel_rfl) ?_
        have hq : (fun w' : World => (∀ j x, (rcs C)[j]? = some x → w'.cell? ⟨b0, off + k * 2 + j, none⟩ = some x) ∧ (∀ j x, (rcs D)[j]? = some x → w'.cell? ⟨b1, off' + k * 2 + j, none⟩ = some x)) wr.drew := ⟨hc, hd⟩
        clear hc hd
        replace hb := hb.drew
        generalize wr.drew = wd at *
        refine rgTake (S := fun w' => (∀ j x, (rcs C)[j]? = some x → w'.cell? ⟨b0, off + k * 2 + j, none⟩ = some x) ∧ (∀ j x, (rcs D)[j]? = some x → w'.cell? ⟨b1, off' + k * 2 + j, none⟩ = some x)) (i := 0) (v := .slice (some ⟨b0, off, none⟩) n c) rfl (by kernel_rfl) (by kernel_rfl) (fun _ _ _ h => h) (fun w _ => by kernel_rfl) hq ?_
        refine rgTake (S := fun w' => (∀ j x, (rcs C)[j]? = some x → w'.cell? ⟨b0, off + k * 2 + j, none⟩ = some x) ∧ (∀ j x, (rcs D)[j]? = some x → w'.cell? ⟨b1, off' + k * 2 + j, none⟩ = some x)) (i := 1) (v := .int .i64 (k : Int)) rfl (by kernel_rfl) (by kernel_rfl) (fun _ _ _ h => h) (fun w _ => by kernel_rfl) hq ?_
        refine rgTake (S := fun w' => (∀ j x, (rcs C)[j]? = some x → w'.cell? ⟨b0, off + k * 2 + j, none⟩ = some x) ∧ (∀ j x, (rcs D)[j]? = some x → w'.cell? ⟨b1, off' + k * 2 + j, none⟩ = some x)) (i := 2) (v := .pointer (some ⟨b0, off + k * 2, none⟩)) rfl (by kernel_rfl) (by kernel_rfl) (fun _ _ _ h => h) (fun w _ => iaRowRun (kk := .i64) (n := n) (c := c) (.tmp 17) (.tmp 18) k Try.sl_ru rfl (by kernel_rfl) (by kernel_rfl) rfl (by omega)) hq ?_
        refine rgTake (S := fun w' => (∀ j x, (rcs C)[j]? = some x → w'.cell? ⟨b0, off + k * 2 + j, none⟩ = some x) ∧ (∀ j x, (rcs D)[j]? = some x → w'.cell? ⟨b1, off' + k * 2 + j, none⟩ = some x)) (i := 3) (v := .agg (rcs C).toArray) rfl (by kernel_rfl) (by kernel_rfl) (fun _ _ _ h => h) (fun w h => ldAgRun (.tmp 19) Try.ag_ru rfl (by kernel_rfl) rfl h.1) hq ?_
        try simp only [Act.put, List.setIfInBounds_toArray, List.set_cons_succ, List.set_cons_zero]
        refine rgTake (S := fun w' => (∀ j x, (rcs C)[j]? = some x → w'.cell? ⟨b0, off + k * 2 + j, none⟩ = some x) ∧ (∀ j x, (rcs D)[j]? = some x → w'.cell? ⟨b1, off' + k * 2 + j, none⟩ = some x)) (i := 4) (v := .slice (some ⟨b1, off', none⟩) n c') rfl (by kernel_rfl) (by kernel_rfl) (fun _ _ _ h => h) (fun w _ => by kernel_rfl) hq ?_
        refine rgTake (S := fun w' => (∀ j x, (rcs C)[j]? = some x → w'.cell? ⟨b0, off + k * 2 + j, none⟩ = some x) ∧ (∀ j x, (rcs D)[j]? = some x → w'.cell? ⟨b1, off' + k * 2 + j, none⟩ = some x)) (i := 5) (v := .int .i64 (k : Int)) rfl (by kernel_rfl) (by kernel_rfl) (fun _ _ _ h => h) (fun w _ => by kernel_rfl) hq ?_
        refine rgTake (S := fun w' => (∀ j x, (rcs C)[j]? = some x → w'.cell? ⟨b0, off + k * 2 + j, none⟩ = some x) ∧ (∀ j x, (rcs D)[j]? = some x → w'.cell? ⟨b1, off' + k * 2 + j, none⟩ = some x)) (i := 6) (v := .pointer (some ⟨b1, off' + k * 2, none⟩)) rfl (by kernel_rfl) (by kernel_rfl) (fun _ _ _ h => h) (fun w _ => iaRowRun (kk := .i64) (n := n) (c := c') (.tmp 21) (.tmp 22) k Try.sl_ru rfl (by kernel_rfl) (by kernel_rfl) rfl (by omega)) hq ?_
        refine rgTake (S := fun w' => (∀ j x, (rcs C)[j]? = some x → w'.cell? ⟨b0, off + k * 2 + j, none⟩ = some x) ∧ (∀ j x, (rcs D)[j]? = some x → w'.cell? ⟨b1, off' + k * 2 + j, none⟩ = some x)) (i := 7) (v := .agg (rcs D).toArray) rfl (by kernel_rfl) (by kernel_rfl) (fun _ _ _ h => h) (fun w h => ldAgRun (.tmp 23) Try.ag_ru rfl (by kernel_rfl) rfl h.2) hq ?_
        try simp only [Act.put, List.setIfInBounds_toArray, List.set_cons_succ, List.set_cons_zero]
        refine rgTake (S := fun w' => (∀ j x, (rcs C)[j]? = some x → w'.cell? ⟨b0, off + k * 2 + j, none⟩ = some x) ∧ (∀ j x, (rcs D)[j]? = some x → w'.cell? ⟨b1, off' + k * 2 + j, none⟩ = some x)) (i := 8) (v := .bool (!decide (C = D))) rfl (by kernel_rfl) (by kernel_rfl) (fun _ _ _ h => h) (fun w _ => neqRuRun (.tmp 20) (.tmp 24) C D rfl (by kernel_rfl) (by kernel_rfl)) hq ?_
        refine rgDone (by kernel_rfl) ?_
        try simp only [Act.put, List.setIfInBounds_toArray, List.set_cons_succ, List.set_cons_zero]
        by_cases hCD : C = D
        · have HS := Lib.hid (list_take_eq HE.out HC.out HD.out hCD)
          rw [decide_eq_true hCD]
          clear hCD
          go_wp2_with fail
          exact ⟨⟨k + 1, by omega, by simp, HS.out, hb⟩, by simp [intOf]; omega⟩
        · have hne : la ≠ lb := fun e => by
            have h1 := HC.out
            have h2 := HD.out
            rw [e, h2] at h1
            injection h1 with h1
            exact hCD h1.symm
          rw [decide_eq_false hCD]
          have HNE := Lib.hid (decide_eq_false hne)
          clear hne hCD
          go_wp2_with fail
          go_ret
          exact ⟨congrArg (fun b => Ending.returned (.bool b)) HNE.out.symm, hb⟩
      · obtain rfl : k = n := by omega
        have HNE := Lib.hid (decide_eq_true (show la = lb by
          have h1 := HN.out
          have h2 := HM.out
          rw [← h1, List.take_length, h1, ← h2, List.take_length] at hE
          exact hE))
        clear hE
        go_wp2_with fail
        go_ret
        exact ⟨congrArg (fun b => Ending.returned (.bool b)) HNE.out.symm, hb⟩
  · have HNE := Lib.hid (decide_eq_false (show la ≠ lb from fun e => hlen (by rw [e])))
    generalize la.length = n at *
    generalize lb.length = m at *
    have hlI : ¬ (n : Int) = (m : Int) := by omega
    go_enter Try.func27, Try.ntmps27
    go_wp2_with fail
    go_ret
    exact ⟨congrArg (fun b => Ending.returned (.bool b)) HNE.out.symm, Below.refl _ _⟩
end Go.Proofs.Ytkfijpghjjnpkaa
/-
  Small, and a point of three numbers. No statement is proved here.
-/
namespace Go.Proofs.Ytkfijpghjjnpkaa
open Go.RowKit
set_option linter.unusedVariables false
set_option linter.unusedSimpArgs false

def Bx.small (b : Bx) : Prop := -100000 ≤ b.mn.x ∧ -100000 ≤ b.mn.y ∧ -100000 ≤ b.mn.z ∧ b.mx.x ≤ 100000 ∧ b.mx.y ≤ 100000 ∧ b.mx.z ≤ 100000 ∧ wrap64 (b.mx.x - b.mn.x) ≤ 20 ∧ wrap64 (b.mx.y - b.mn.y) ≤ 20 ∧ wrap64 (b.mx.z - b.mn.z) ≤ 20
instance (b : Bx) : Decidable b.small := by unfold Bx.small; infer_instance
set_option maxRecDepth 100000 in
set_option maxHeartbeats 2000000 in
theorem at_any (x y z : Int) (w : World) : Calls Try.prog 32 #[.int .i64 x, .int .i64 y, .int .i64 z] w (RetP w ⟨x, y, z⟩) := by
  go_enter Try.func32, Try.ntmps32
  go_wp2_with (with_reducible refine alArr (z := pcs p0) Try.ag_pt (wn rfl) rfl ?_)
  intro w1 h1 b1
  go_wp2_with (with_reducible refine stArrG (cs := pcs ⟨x, y, z⟩) (.tmp 6) (.tmp 10) Try.ag_pt (wn rfl) rfl rfl (by kernel_rfl) h1 rfl rfl (pcs_one _) ?_)
  intro w2 h2 k2
  go_wp2_with fail
  refine bodyPost_ret (v := .agg (pcs ⟨x, y, z⟩).toArray) ?_ rfl ⟨rfl, b1.grown k2 b1.size (fun k e => by cases e; omega)⟩
  exact res_cell1 _ Try.results32 Try.ag_pt _ rfl rfl (fun j u hu => by rw [Nat.zero_add]; exact h2.cell hu)
set_option maxRecDepth 100000 in
set_option maxHeartbeats 4000000 in
theorem small_any (b : Bx) (w : World) : Calls Try.prog 31 #[.agg (bxs b).toArray] w (RetB w (decide b.small)) := by
  obtain ⟨D, hD'⟩ : ∃ D, D = decide b.small := ⟨_, rfl⟩
  rw [← hD']
  have hD : D = true ↔ b.small := by rw [hD', decide_eq_true_iff]
  clear hD'
  unfold Bx.small at hD
  replace hD := Lib.hid hD
  go_enter Try.func31, Try.ntmps31
  go_wp2_with (with_reducible refine bxArr (cs := bxs b) (.tmp 0) (wn rfl) rfl rfl ?_)
  intro w1 h1 b1
  have d0 := h1.cell (i := 0) (v := .int .i64 b.mn.x) rfl
  have d1 := h1.cell (i := 1) (v := .int .i64 b.mn.y) rfl
  have d2 := h1.cell (i := 2) (v := .int .i64 b.mn.z) rfl
  have d3 := h1.cell (i := 3) (v := .int .i64 b.mx.x) rfl
  have d4 := h1.cell (i := 4) (v := .int .i64 b.mx.y) rfl
  have d5 := h1.cell (i := 5) (v := .int .i64 b.mx.z) rfl
  generalize b.mn.x = x1 at *
  generalize b.mn.y = y1 at *
  generalize b.mn.z = z1 at *
  generalize b.mx.x = x2 at *
  generalize b.mx.y = y2 at *
  generalize b.mx.z = z2 at *
  by_cases h0 : -100000 ≤ x1
  · by_cases h1' : -100000 ≤ y1
    · by_cases h2 : -100000 ≤ z1
      · by_cases h3 : x2 ≤ 100000
        · by_cases h4 : y2 ≤ 100000
          · by_cases h5 : z2 ≤ 100000
            · by_cases h6 : wrap64 (x2 - x1) ≤ 20
              · by_cases h7 : wrap64 (y2 - y1) ≤ 20
                · by_cases h8 : wrap64 (z2 - z1) ≤ 20
                  · have HR := Lib.hid (hD.out.2 ⟨h0, h1', h2, h3, h4, h5, h6, h7, h8⟩)
                    go_wp2_with fail
                    go_ret
                    exact ⟨congrArg (fun b => Ending.returned (.bool b)) HR.out.symm, b1⟩
                  · have HR := Lib.hid (Bool.eq_false_iff.2 (fun h => h8 (hD.out.1 h).2.2.2.2.2.2.2.2))
                    go_wp2_with fail
                    go_ret
                    exact ⟨congrArg (fun b => Ending.returned (.bool b)) HR.out.symm, b1⟩
                · have HR := Lib.hid (Bool.eq_false_iff.2 (fun h => h7 (hD.out.1 h).2.2.2.2.2.2.2.1))
                  go_wp2_with fail
                  go_ret
                  exact ⟨congrArg (fun b => Ending.returned (.bool b)) HR.out.symm, b1⟩
              · have HR := Lib.hid (Bool.eq_false_iff.2 (fun h => h6 (hD.out.1 h).2.2.2.2.2.2.1))
                go_wp2_with fail
                go_ret
                exact ⟨congrArg (fun b => Ending.returned (.bool b)) HR.out.symm, b1⟩
            · have HR := Lib.hid (Bool.eq_false_iff.2 (fun h => h5 (hD.out.1 h).2.2.2.2.2.1))
              go_wp2_with fail
              go_ret
              exact ⟨congrArg (fun b => Ending.returned (.bool b)) HR.out.symm, b1⟩
          · have HR := Lib.hid (Bool.eq_false_iff.2 (fun h => h4 (hD.out.1 h).2.2.2.2.1))
            go_wp2_with fail
            go_ret
            exact ⟨congrArg (fun b => Ending.returned (.bool b)) HR.out.symm, b1⟩
        · have HR := Lib.hid (Bool.eq_false_iff.2 (fun h => h3 (hD.out.1 h).2.2.2.1))
          go_wp2_with fail
          go_ret
          exact ⟨congrArg (fun b => Ending.returned (.bool b)) HR.out.symm, b1⟩
      · have HR := Lib.hid (Bool.eq_false_iff.2 (fun h => h2 (hD.out.1 h).2.2.1))
        go_wp2_with fail
        go_ret
        exact ⟨congrArg (fun b => Ending.returned (.bool b)) HR.out.symm, b1⟩
    · have HR := Lib.hid (Bool.eq_false_iff.2 (fun h => h1' (hD.out.1 h).2.1))
      go_wp2_with fail
      go_ret
      exact ⟨congrArg (fun b => Ending.returned (.bool b)) HR.out.symm, b1⟩
  · have HR := Lib.hid (Bool.eq_false_iff.2 (fun h => h0 (hD.out.1 h).1))
    go_wp2_with fail
    go_ret
    exact ⟨congrArg (fun b => Ending.returned (.bool b)) HR.out.symm, b1⟩
end Go.Proofs.Ytkfijpghjjnpkaa
/-
  Walks printed by a program: memory of a call as a list of resources (Mem), regions by the number of the operation (PL), and what the operations yield. No statement is proved here.
-/
namespace Go.Proofs.Ytkfijpghjjnpkaa
open Go.RowKit

/-- What a call holds: a block of its own; a row of its own; a slice that is read. -/
inductive Res where
  | arr (g : Nat) (t : TypeId) (cs : List Value)
  | row (v : Value) (e : TypeId) (size n : Nat) (xs : List Value)
  | rd (A : Option Addr) (size n c : Nat) (xs : List Value)
def Res.At (B : Nat) (w : World) : Res → Prop
  | .arr g t cs => B ≤ g ∧ Arr w g t cs
  | .row v e size n xs => w.ownsRow B e size v n xs
  | .rd A size n c xs => Rd w w.heap.size size A n c xs
def Res.blk : Res → Option Nat
  | .arr g _ _ => some g
  | .row v _ _ _ _ => v.ownBlock
  | .rd A size n _ _ => if n * size = 0 then none else A.map (·.block)
def Res.mut : Res → Bool
  | .rd .. => false
  | _ => true
def ResApart (r s : Res) : Prop := (r.mut = false ∧ s.mut = false) ∨ r.blk = none ∨ r.blk ≠ s.blk
theorem ResApart.symm {r s : Res} (h : ResApart r s) : ResApart s r := by
  rcases h with h | h | h
  · exact Or.inl ⟨h.2, h.1⟩
  · by_cases h2 : s.blk = none
    · exact Or.inr (Or.inl h2)
    · exact Or.inr (Or.inr (fun e => h2 (e.trans h)))
  · exact Or.inr (Or.inr (Ne.symm h))
theorem Res.At.below {B : Nat} {w w' : World} {r : Res} (h : r.At B w) (b : Below w.heap.size w w') : r.At B w' := by
  cases r with
  | arr g t cs => exact ⟨h.1, h.2.below b h.2.lt⟩
  | row v e size n xs => exact ownsRow_below h b (Nat.le_refl _)
  | rd A size n c xs => exact (Rd.below h b).more b.size
theorem Res.At.lt {B : Nat} {w : World} {r : Res} (h : r.At B w) {g : Nat} (hg : r.blk = some g) : g < w.heap.size := by
  cases r with
  | arr g' t cs =>
    simp only [Res.blk, Option.some.injEq] at hg
    subst hg
    exact h.2.lt
  | row v e size n xs => exact (World.ownsRow.lt h g hg).2
  | rd A size n c xs =>
    simp only [Res.blk] at hg
    split at hg
    · cases hg
    · rename_i hne
      obtain ⟨b, off, e, hb, _⟩ := Rd.cells h (by omega)
      rw [e] at hg
      simp only [Option.map_some, Option.some.injEq] at hg
      omega
theorem Res.At.grown {B : Nat} {w w' : World} {row : Option Nat} {r : Res} (h : r.At B w) (k : w.grownBy w' row) (hne : r.blk = none ∨ r.blk ≠ row) : r.At B w' := by
  cases r with
  | arr g t cs =>
    refine ⟨h.1, h.2.grown k ?_⟩
    rcases hne with h1 | h1
    · cases h1
    · exact h1
  | row v e size n xs => exact World.ownsRow.kept h k hne
  | rd A size n c xs =>
    refine ⟨Rd.len h, Rd.le h, Rd.cap h, fun hn => ?_⟩
    obtain ⟨b, off, e, hb, hc⟩ := Rd.cells h hn
    refine ⟨b, off, e, Nat.lt_of_lt_of_le hb k.size, fun j u hu => ?_⟩
    rw [← hc j u hu]
    refine World.cell?_of_block (k.block b hb fun e2 => ?_)
    have hbl : (Res.rd A size n c xs).blk = some b := by
      simp only [Res.blk]
      rw [if_neg (by omega), e]
      rfl
    rcases hne with h1 | h1
    · rw [hbl] at h1; cases h1
    · rw [hbl] at h1; exact h1 e2

/-- What holds in the world w of a call that began in w0. -/
structure Mem (w0 w : World) (L : List Res) : Prop where
  bel : Below w0.heap.size w0 w
  each : ∀ r ∈ L, r.At w0.heap.size w
  apart : L.Pairwise ResApart

section
variable {w0 w w' : World} {L : List Res} {t e : TypeId} {cs : List Value}
theorem Mem.nil (w : World) : Mem w w [] := ⟨Below.refl _ _, fun _ h => (by cases h), List.Pairwise.nil⟩
theorem Mem.below (h : Mem w0 w L) (b : Below w.heap.size w w') : Mem w0 w' L :=
  ⟨h.bel.trans (b.mono h.bel.size), fun r hr => (h.each r hr).below b, h.apart⟩
theorem Mem.drew (h : Mem w0 w L) : Mem w0 w.drew L := h.below (Below.refl _ _).drew
theorem Mem.arr (h : Mem w0 w L) (i : Nat) {g : Nat} (hi : L[i]? = some (.arr g t cs)) : Arr w g t cs := (h.each _ (List.mem_of_getElem? hi)).2
theorem Mem.arrGe (h : Mem w0 w L) (i : Nat) {g : Nat} (hi : L[i]? = some (.arr g t cs)) : w0.heap.size ≤ g := (h.each _ (List.mem_of_getElem? hi)).1
theorem Mem.row (h : Mem w0 w L) (i : Nat) {v : Value} {size n : Nat} {xs : List Value} (hi : L[i]? = some (.row v e size n xs)) : w.ownsRow w0.heap.size e size v n xs := h.each _ (List.mem_of_getElem? hi)
theorem Mem.rd (h : Mem w0 w L) (i : Nat) {A : Option Addr} {size n c : Nat} {xs : List Value} (hi : L[i]? = some (.rd A size n c xs)) : Rd w w.heap.size size A n c xs := h.each _ (List.mem_of_getElem? hi)
theorem Mem.push {r : Res} (h : Mem w0 w L) (b : Below w.heap.size w w') (hr : r.At w0.heap.size w') (hb : ∀ g, r.blk = some g → w.heap.size ≤ g) : Mem w0 w' (L ++ [r]) := by
  refine ⟨h.bel.trans (b.mono h.bel.size), fun s hs => ?_, ?_⟩
  · rcases List.mem_append.1 hs with hs | hs
    · exact (h.each s hs).below b
    · rw [List.mem_singleton] at hs; subst hs; exact hr
  · refine List.pairwise_append.2 ⟨h.apart, List.pairwise_singleton _ _, fun s hs t ht => ?_⟩
    rw [List.mem_singleton] at ht
    subst ht
    cases hsb : s.blk with
    | none => exact Or.inr (Or.inl hsb)
    | some g =>
      refine Or.inr (Or.inr fun e => ?_)
      have h1 := (h.each s hs).lt hsb
      have h2 := hb g (e ▸ hsb)
      omega
theorem Mem.new (h : Mem w0 w L) (b : Below w.heap.size w w') (hA : Arr w' w.heap.size t cs) : Mem w0 w' (L ++ [.arr w.heap.size t cs]) :=
  h.push b ⟨h.bel.size, hA⟩ (fun g hg => by simp only [Res.blk, Option.some.injEq] at hg; omega)
theorem Mem.newRow (h : Mem w0 w L) (b : Below w.heap.size w w') {v : Value} {size n : Nat} {xs : List Value} (hA : w'.ownsRow w.heap.size e size v n xs) : Mem w0 w' (L ++ [.row v e size n xs]) :=
  h.push b (ownsRow_base hA h.bel.size) (fun g hg => (World.ownsRow.lt hA g hg).1)
theorem resMem_set_ne {L : List Res} {i : Nat} {r s : Res} (h : s ∈ L.set i r) : s = r ∨ ∃ j, j ≠ i ∧ L[j]? = some s := by
  obtain ⟨j, hj, e⟩ := List.getElem_of_mem h
  by_cases hij : i = j
  · subst hij; left; rw [← e]; simp
  · right
    refine ⟨j, Ne.symm hij, ?_⟩
    rw [List.getElem_set_ne hij] at e
    rw [← e]
    exact List.getElem?_eq_getElem _
theorem resApart_at {L : List Res} (h : L.Pairwise ResApart) {i j : Nat} (hij : i ≠ j) {r s : Res} (hi : L[i]? = some r) (hj : L[j]? = some s) : ResApart r s := by
  obtain ⟨hi', rfl⟩ := List.getElem?_eq_some_iff.1 hi
  obtain ⟨hj', rfl⟩ := List.getElem?_eq_some_iff.1 hj
  rcases Nat.lt_or_gt_of_ne hij with hlt | hlt
  · exact List.pairwise_iff_getElem.1 h i j hi' hj' hlt
  · exact (List.pairwise_iff_getElem.1 h j i hj' hi' hlt).symm
theorem resApart_set {L : List Res} (h : L.Pairwise ResApart) {i : Nat} {r : Res} (hr : ∀ j s, j ≠ i → L[j]? = some s → ResApart r s) : (L.set i r).Pairwise ResApart := by
  refine List.pairwise_iff_getElem.2 fun a b ha hb hab => ?_
  simp only [List.length_set] at ha hb
  by_cases hia : i = a
  · subst hia
    rw [List.getElem_set_self, List.getElem_set_ne (by omega)]
    exact hr b _ (by omega) (List.getElem?_eq_getElem hb)
  · by_cases hib : i = b
    · subst hib
      rw [List.getElem_set_self, List.getElem_set_ne hia]
      exact (hr a _ (by omega) (List.getElem?_eq_getElem ha)).symm
    · rw [List.getElem_set_ne hia, List.getElem_set_ne hib]
      exact List.pairwise_iff_getElem.1 h a b ha hb hab
/-- A block of the call's own has been written. -/
theorem Mem.set (h : Mem w0 w L) (i : Nat) {g : Nat} {cs' : List Value} (hi : L[i]? = some (.arr g t cs)) (hA : Arr w' g t cs') (k : w.grownBy w' (some g)) : Mem w0 w' (L.set i (.arr g t cs')) := by
  have hge := h.arrGe i hi
  refine ⟨h.bel.grown k h.bel.size (fun k' hk' => by cases hk'; exact hge), fun s hs => ?_, resApart_set h.apart fun j s hji hj => ?_⟩
  · rcases resMem_set_ne hs with rfl | ⟨j, hji, hj⟩
    · exact ⟨hge, hA⟩
    · refine (h.each s (List.mem_of_getElem? hj)).grown k ?_
      rcases resApart_at h.apart hji hj hi with ⟨_, h2⟩ | h2 | h2
      · cases h2
      · exact Or.inl h2
      · exact Or.inr h2
  · have h1 := resApart_at h.apart (Ne.symm hji) hi hj
    exact h1
/-- A row of the call's own has been appended to. -/
theorem Mem.app (h : Mem w0 w L) (i : Nat) {v v' : Value} {size n n' : Nat} {xs xs' : List Value} (hi : L[i]? = some (.row v e size n xs)) (hA : w'.ownsRow w0.heap.size e size v' n' xs') (k : w.grownBy w' v.ownBlock) (hS : SameOrNew v v' w.heap.size) : Mem w0 w' (L.set i (.row v' e size n' xs')) := by
  have hrow := h.row i hi
  refine ⟨h.bel.grown k h.bel.size (fun k' hk' => (World.ownsRow.lt hrow k' hk').1), fun s hs => ?_, resApart_set h.apart fun j s hji hj => ?_⟩
  · rcases resMem_set_ne hs with rfl | ⟨j, hji, hj⟩
    · exact hA
    · refine (h.each s (List.mem_of_getElem? hj)).grown k ?_
      rcases resApart_at h.apart hji hj hi with ⟨_, h2⟩ | h2 | h2
      · cases h2
      · exact Or.inl h2
      · exact Or.inr h2
  · have h1 := resApart_at h.apart (Ne.symm hji) hi hj
    rcases hS with hS | ⟨g, hg, hge⟩
    · rcases h1 with ⟨h2, _⟩ | h2 | h2
      · cases h2
      · exact Or.inr (Or.inl (hS.trans h2))
      · exact Or.inr (Or.inr (fun e => h2 (hS.symm.trans e)))
    · refine Or.inr (Or.inr fun e => ?_)
      have h2 := (h.each s (List.mem_of_getElem? hj)).lt (g := g) (e ▸ hg)
      omega
theorem Mem.sub {L' : List Res} (h : Mem w0 w L) (hs : L'.Sublist L) : Mem w0 w L' := ⟨h.bel, fun r hr => h.each r (hs.subset hr), h.apart.sublist hs⟩
/-- A block of the call's own is read as a slice. -/
theorem Rd.of_arr {g size n : Nat} (h : Arr w g t cs) (hl : cs.length = n * size) (hn : n ≤ maxLen) : Rd w w.heap.size size (some ⟨g, 0, none⟩) n n cs :=
  ⟨hl, Nat.le_refl _, hn, fun _ => ⟨g, 0, rfl, h.lt, fun j u hu => by rw [Nat.zero_add]; exact h.cell hu⟩⟩
theorem Mem.rdRow (h : Mem w0 w L) (i : Nat) {A : Option Addr} {size n c : Nat} {xs : List Value} (hi : L[i]? = some (.row (.slice A n c) e size n xs)) : Rd w w.heap.size size A n c xs := by
  obtain ⟨A', c', e1, hr⟩ := Rd.of_own (h.row i hi)
  injection e1 with e2 e3 e4
  rw [e2, e4]
  exact hr
theorem Mem.nilRow (h : Mem w0 w L) (e : TypeId) (size : Nat) : Mem w0 w (L ++ [.row (.slice none 0 0) e size 0 []]) :=
  h.push (Below.refl _ _) ⟨by simp, Or.inl ⟨rfl, rfl⟩⟩ (fun g hg => by cases hg)
theorem Mem.firsts (h : Mem w0 w L) (n : Nat) : Mem w0 w (L.take n) := h.sub (List.take_sublist n L)
theorem Mem.rowBlk (h : Mem w0 w L) (i : Nat) {A : Option Addr} {size n c : Nat} {xs : List Value} (hi : L[i]? = some (.row (.slice A n c) e size n xs)) (hn : 0 < n) : ∃ b, A = some ⟨b, 0, none⟩ := by
  rcases (h.row i hi).2 with ⟨_, h0⟩ | ⟨g, cap, cur, hv, _⟩
  · omega
  · injection hv with h1
    exact ⟨g, h1⟩
theorem Mem.ofBelow (b : Below w0.heap.size w0 w) : Mem w0 w [] := ⟨b, fun _ h => (by cases h), List.Pairwise.nil⟩
end

section
variable {P : Program} {ops : Array Oper} {Q : Exit → Act → World → Prop} {a : Act} {w w0 : World} {o : Oper} {L : List Res} {i : Nat}
/-- A region that keeps its order, from operation i on. -/
structure PL (P : Program) (ops : Array Oper) (Q : Exit → Act → World → Prop) (i : Nat) (a : Act) (w : World) : Prop where
  out : wpList P ops Q (ops.toList.drop i) a w
theorem plStart {id : Nat} (h : PL P ops Q 0 a w) : (Code.region id ops false).wp P Q a w := by
  refine wp_region ?_
  have h1 := wpOps_eq_wpList (P := P) (ops := ops) (Q := Q) ops.toList 0 (fun j => by simp)
  rw [List.range_eq_range', show ops.size = ops.toList.length by simp, h1]
  exact h.out
theorem plOf (hi : ops.toList[i]? = some o) (h : wpList P ops Q (o :: ops.toList.drop (i + 1)) a w) : PL P ops Q i a w := by
  refine ⟨?_⟩
  obtain ⟨hl, rfl⟩ := List.getElem?_eq_some_iff.1 hi
  rw [List.drop_eq_getElem_cons hl]
  exact h
theorem plVal {v : Value} (hi : ops.toList[i]? = some o) (hw : Region.wanted o (yielded ops a.tmps) = true) (hr : (execOp a.eval o).run P w = .ok (.value v) w) (h : PL P ops Q (i + 1) (a.put o.dst v) w) : PL P ops Q i a w :=
  plOf hi (opVal hw hr h.out)
theorem plSkip (hi : ops.toList[i]? = some o) (hw : Region.wanted o (yielded ops a.tmps) = false) (h : PL P ops Q (i + 1) (a.put o.dst undef) w) : PL P ops Q i a w := by
  refine plOf hi ?_
  unfold wpList
  rw [hw]
  exact h.out
theorem plDone (hi : ops.toList.length ≤ i) (h : Q .normal a w) : PL P ops Q i a w := by
  refine ⟨?_⟩
  rw [List.drop_eq_nil_of_le hi]
  exact h
/-- A call by its contract, the world kept below. -/
theorem plCall {c : Operand} {args : Array Operand} {argTypes : Array TypeId} {R : Ending → World → Prop} (f : FuncId) (vals first caps : List Value)
    (hi : ops.toList[i]? = some o) (hf : callable P f = true) (hw : Region.wanted o (yielded ops a.tmps) = true) (ho : o.op = .call { callee := .value c, args, argTypes }) (hc : a.eval c = .func (.func f) first.toArray caps.toArray) (hargs : args.toList.map a.eval = vals)
    (hC : Calls P f (first ++ vals ++ caps).toArray w R) (h : ∀ e w', R e w' → ∃ v, e = .returned v ∧ PL P ops Q (i + 1) (a.put o.dst v) w') : PL P ops Q i a w :=
  plOf hi (callOp f vals first caps hf hw ho hc hargs (hC.mono fun e w' he => by
    obtain ⟨v, h1, h2⟩ := h e w' he
    exact ⟨v, h1, h2.out⟩))
theorem plBox {x : Operand} {ty : TypeId} {cs : List Value} (hm : Mem w0 w L) (hi : ops.toList[i]? = some o) (hw : Region.wanted o (yielded ops a.tmps) = true) (ho : o.op = .box ty x) (hx : a.eval x = .agg cs.toArray)
    (h : ∀ g w', Mem w0 w' (L ++ [.arr g ty cs]) → PL P ops Q (i + 1) (a.put o.dst (.pointer (some ⟨g, 0, none⟩))) w') : PL P ops Q i a w :=
  plOf hi (bxArr x hw ho hx fun w' hA hb => (h _ w' (hm.new hb hA)).out)
theorem plBox1 {x : Operand} {ty : TypeId} {v : Value} (hm : Mem w0 w L) (hi : ops.toList[i]? = some o) (hw : Region.wanted o (yielded ops a.tmps) = true) (ho : o.op = .box ty x) (hx : a.eval x = v) (hv : v.cells = #[v])
    (h : ∀ g w', Mem w0 w' (L ++ [.arr g ty [v]]) → PL P ops Q (i + 1) (a.put o.dst (.pointer (some ⟨g, 0, none⟩))) w') : PL P ops Q i a w :=
  plOf hi (bxOne x hw ho hx hv fun w' hA hb => (h _ w' (hm.new hb hA)).out)
theorem plAlloc {z : List Value} {ty : TypeId} {n : Nat} (T : AgTy P ty z.toArray n) (hm : Mem w0 w L) (hi : ops.toList[i]? = some o) (hw : Region.wanted o (yielded ops a.tmps) = true) (ho : o.op = .alloc ty)
    (h : ∀ g w', Mem w0 w' (L ++ [.arr g ty z]) → PL P ops Q (i + 1) (a.put o.dst (.pointer (some ⟨g, 0, none⟩))) w') : PL P ops Q i a w :=
  plOf hi (alArr T hw ho fun w' hA hb => (h _ w' (hm.new hb hA)).out)
theorem plAlloc1 {v : Value} {ty : TypeId} (hz : (P.info? ty).map (fun i => i.zero.map Value.cells) = some (some #[v])) (hm : Mem w0 w L) (hi : ops.toList[i]? = some o) (hw : Region.wanted o (yielded ops a.tmps) = true) (ho : o.op = .alloc ty)
    (h : ∀ g w', Mem w0 w' (L ++ [.arr g ty [v]]) → PL P ops Q (i + 1) (a.put o.dst (.pointer (some ⟨g, 0, none⟩))) w') : PL P ops Q i a w :=
  plOf hi (alScG hz hw ho fun w' hA hb => (h _ w' (hm.new hb hA)).out)
theorem plStore {x y : Operand} {ty : TypeId} {n g : Nat} {z : Array Value} {cur cs : List Value} {t : TypeId} (j : Nat) (T : AgTy P ty z n) (hm : Mem w0 w L) (hj : L[j]? = some (.arr g t cur)) (hi : ops.toList[i]? = some o) (hw : Region.wanted o (yielded ops a.tmps) = true) (ho : o.op = .store ty x y)
    (hx : a.eval x = .pointer (some ⟨g, 0, none⟩)) (hy : a.eval y = .agg cs.toArray) (hs : cur.length = n) (hl : cs.length = n) (h1 : (cs.all fun u => u.oneCell') = true)
    (h : ∀ w', Mem w0 w' (L.set j (.arr g t cs)) → PL P ops Q (i + 1) (a.put o.dst undef) w') : PL P ops Q i a w :=
  plOf hi (stArrG x y T hw ho hx hy (hm.arr j hj) hs hl (fun u hu => List.all_eq_true.1 h1 u hu) fun w' hA hk => (h w' (hm.set j hj hA hk)).out)
theorem plStore1 {x y : Operand} {ty : TypeId} {g k : Nat} {cur : List Value} {v v0 : Value} {t : TypeId} (j : Nat) (hsz : (P.info? ty).map (·.size) = some 1) (hm : Mem w0 w L) (hj : L[j]? = some (.arr g t cur)) (hi : ops.toList[i]? = some o) (hw : Region.wanted o (yielded ops a.tmps) = true) (ho : o.op = .store ty x y)
    (hx : a.eval x = .pointer (some ⟨g, k, none⟩)) (hy : a.eval y = v) (hk : cur[k]? = some v0) (hv : v.cells = #[v]) (h1 : v.oneCell' = true)
    (h : ∀ w', Mem w0 w' (L.set j (.arr g t (cur.set k v))) → PL P ops Q (i + 1) (a.put o.dst undef) w') : PL P ops Q i a w :=
  plOf hi (stCellG x y hsz hw ho hx hy (hm.arr j hj) hk hv h1 fun w' hA hg => (h w' (hm.set j hj hA hg)).out)
/-- A slice literal. -/
theorem plLit {t e : TypeId} {z : Value} {size bytes n : Nat} {parts : Array (Nat × Operand)} {cs : List Value} (T : SlTy P t e z size bytes) (hm : Mem w0 w L) (hi : ops.toList[i]? = some o) (hw : Region.wanted o (yielded ops a.tmps) = true) (ho : o.op = .buildSlice t n parts) (hn : n * size ≤ 65536) (hn0 : ¬ n * size = 0)
    (hf : Instr.fill (fun i => some (i * size, size)) ((Array.range (n * size)).map (z.cells[· % z.cells.size]!)) (parts.map fun (i, x) => (i, a.eval x)).toList = some cs.toArray)
    (h : ∀ g w', Mem w0 w' (L ++ [.arr g e cs]) → PL P ops Q (i + 1) (a.put o.dst (.slice (some ⟨g, 0, none⟩) n n)) w') : PL P ops Q i a w := by
  obtain ⟨ti, hti, hz0, hz1, hz2⟩ := info_parts T.inf
  refine plOf hi (wpList_want hw fun K hK => wp_buildSlice t e n _ ho cs.toArray ti z T.und hti hz0 (by rw [hz1]; omega) (by rw [hz1]; exact hn0) (by rw [hz1]; exact hf) (hK _ _ (h _ _ (hm.new ((Below.refl _ _).alloc (Nat.le_refl _) _) (Arr.new w e cs))).out))
/-- 'append(v, u...)' where u is a slice literal of one element that lies in a block of its own: the block is given up. -/
theorem plApp1 {s x : Operand} {t e : TypeId} {z : Value} {size bytes n g : Nat} {v : Value} {xs ys : List Value} (j j2 : Nat) (T : SlTy P t e z size bytes) (hm : Mem w0 w L) (hj : L[j]? = some (.row v e size n xs)) (hj2 : L[j2]? = some (.arr g e ys)) (hi : ops.toList[i]? = some o) (hw : Region.wanted o (yielded ops a.tmps) = true)
    (ho : o.op = .call { callee := .builtin .append, args := #[s, x], argTypes := #[t, t] }) (hs : a.eval s = v) (hx : a.eval x = .slice (some ⟨g, 0, none⟩) 1 1) (hl : ys.length = size) (hu : (ys.all fun u => u.oneCell') = true)
    (hn : n + 1 ≤ 70368744177664) (hby : (n + 1) * bytes ≤ 140737488355328)
    (h : ∀ v' w', Mem w0 w' (L.set j (.row v' e size (n + 1) (xs ++ ys))) → PL P ops Q (i + 1) (a.put o.dst v') w') : PL P ops Q i a w :=
  plOf hi (appNB s x T hw ho hs hx (hm.row j hj) (hm.arr j2 hj2) hl hm.bel (Nat.le_refl _) (fun u h => List.all_eq_true.1 hu u h) hn hby fun v' w' h1 _ h3 h4 => (h v' w' (hm.app j hj h1 h3 h4)).out)
end

section
variable {P : Program} {w : World} {o : Oper} {a : Act} {t ty : TypeId} {A B C : Int}
theorem boolTo {b c : Bool} (h : b = c) (hr : (execOp a.eval o).run P w = .ok (.value (.bool b)) w) : (execOp a.eval o).run P w = .ok (.value (.bool c)) w := h ▸ hr
theorem valTo {b c : Value} (h : b = c) (hr : (execOp a.eval o).run P w = .ok (.value b) w) : (execOp a.eval o).run P w = .ok (.value c) w := h ▸ hr
theorem lssRun {A B : Int} (x y : Operand) (ho : o.op = .binOp .lss t x y ty) (hx : a.eval x = .int .i64 A) (hy : a.eval y = .int .i64 B) : (execOp a.eval o).run P w = .ok (.value (.bool (decide (A < B)))) w := by
  unfold execOp
  simp [ho, hx, hy, eqGuard, binOp_lss]
theorem neqRun {A B : Int} (x y : Operand) (ho : o.op = .binOp .neq t x y ty) (hx : a.eval x = .int .i64 A) (hy : a.eval y = .int .i64 B) : (execOp a.eval o).run P w = .ok (.value (.bool (!decide (A = B)))) w := by
  unfold execOp
  simp [ho, hx, hy, eqGuard, binOp_neq]
  by_cases h : A = B <;> simp [h]
end

section
variable {P : Program} {Q : Exit → Act → World → Prop} {K : Act → World → Prop} {a : Act} {w : World} {id id' : Nat}
theorem then_normal (h : K a w) : Exit.then K Q .normal a w := h
theorem then_exit (h : Q (.exit id) a w) : Exit.then K Q (.exit id) a w := h
theorem then_ret (h : Q .ret a w) : Exit.then K Q .ret a w := h
theorem inBlock_normal (h : Q .normal a w) : Exit.inBlock id Q .normal a w := h
theorem inBlock_ret (h : Q .ret a w) : Exit.inBlock id Q .ret a w := h
theorem inBlock_exit (h : Q .normal a w) : Exit.inBlock id Q (.exit id) a w := by simp only [Exit.inBlock, if_true]; exact h
theorem inBlock_other (hne : id' ≠ id) (h : Q (.exit id') a w) : Exit.inBlock id Q (.exit id') a w := by simp only [Exit.inBlock, if_neg hne]; exact h
theorem exists_least {p : Nat → Prop} (h : ∃ n, p n) : ∃ n, p n ∧ ∀ m, p m → n ≤ m := by
  obtain ⟨n, hn⟩ := h
  induction n using Nat.strongRecOn with
  | ind n ih =>
    by_cases h2 : ∃ m, m < n ∧ p m
    · obtain ⟨m, hm, hp⟩ := h2
      exact ih m hm hp
    · exact ⟨n, hn, fun m hm => Nat.le_of_not_lt fun hlt => h2 ⟨m, hlt, hm⟩⟩
open Classical in
/-- A loop by a relation that holds at every head, with a number that falls. -/
theorem gwLoop {c : Code} (I : Nat → Act → World → Prop) (n : Nat) (h0 : I n a w)
    (h : ∀ n a w, I n a w → c.wp P (Exit.then (fun a' w' => ∃ m, m < n ∧ I m a' w') Q) a w) : (Code.loop c).wp P Q a w := by
  refine wp_loop (fun a w => ∃ n, I n a w) (fun a w => if h : ∃ n, I n a w then Classical.choose (exists_least h) else 0) ⟨n, h0⟩ fun a w hI => ?_
  have hs := Classical.choose_spec (exists_least hI)
  refine wp_mono (h _ a w hs.1) fun e a' w' he => ?_
  cases e with
  | normal =>
    obtain ⟨m, hm, hI'⟩ := he
    refine ⟨⟨m, hI'⟩, ?_⟩
    rw [dif_pos hI, dif_pos ⟨m, hI'⟩]
    exact Nat.lt_of_le_of_lt ((Classical.choose_spec (exists_least ⟨m, hI'⟩)).2 m hI') hm
  | _ => exact he
/-- What holds ahead of a later piece, shown first. -/
theorem gwAhead1 {x y : Code} (J : Act → World → Prop) (hJ : ∀ a w, J a w → y.wp P Q a w) (h : (∀ a w, J a w → y.wp P Q a w) → (Code.seq x y).wp P Q a w) : (Code.seq x y).wp P Q a w := h hJ
theorem gwAhead2 {x x2 y : Code} (J : Act → World → Prop) (hJ : ∀ a w, J a w → y.wp P Q a w) (h : (∀ a w, J a w → y.wp P Q a w) → (Code.seq x (.seq x2 y)).wp P Q a w) : (Code.seq x (.seq x2 y)).wp P Q a w := h hJ
theorem gwAhead3 {x x2 x3 y : Code} (J : Act → World → Prop) (hJ : ∀ a w, J a w → y.wp P Q a w) (h : (∀ a w, J a w → y.wp P Q a w) → (Code.seq x (.seq x2 (.seq x3 y))).wp P Q a w) : (Code.seq x (.seq x2 (.seq x3 y))).wp P Q a w := h hJ
theorem gwAhead4 {x x2 x3 x4 y : Code} (J : Act → World → Prop) (hJ : ∀ a w, J a w → y.wp P Q a w) (h : (∀ a w, J a w → y.wp P Q a w) → (Code.seq x (.seq x2 (.seq x3 (.seq x4 y)))).wp P Q a w) : (Code.seq x (.seq x2 (.seq x3 (.seq x4 y)))).wp P Q a w := h hJ
/-- What holds between two pieces. -/
theorem gwCut {x y : Code} (J : Act → World → Prop) (h1 : x.wp P (Exit.then J Q) a w) (h2 : ∀ a w, J a w → y.wp P Q a w) : (Code.seq x y).wp P Q a w := by
  refine wp_seq (wp_mono h1 fun e a' w' he => ?_)
  cases e with
  | normal => exact h2 _ _ he
  | _ => exact he
end

section
variable {P : Program} {ops : Array Oper} {Q : Exit → Act → World → Prop} {listed : Array Bool} {a : Act} {w w0 : World} {fuel : Nat} {L : List Res} {i : Nat} {o : Oper}
/-- A region that draws its order, with what is held throughout. -/
structure MG (P : Program) (ops : Array Oper) (Q : Exit → Act → World → Prop) (w0 : World) (L : List Res) (fuel : Nat) (listed : Array Bool) (a : Act) (w : World) : Prop where
  out : wpAnyH P .any ops Q (fun w' => Mem w0 w' L) fuel listed a w
theorem mgStart {id : Nat} (hm : Mem w0 w L) (hmode : P.follows .mixedOrders = true) (h : ∀ w', Mem w0 w' L → MG P ops Q w0 L ops.size (Array.replicate ops.size false) a w') : (Code.region id ops true).wp P Q a w :=
  rgStart _ hmode (h _ hm.drew).out
theorem mgTake {v : Value} (hi : ops.toList[i]? = some o) (hf : mayFirst ops listed i = true) (hw : Region.wanted o (yielded ops a.tmps) = true)
    (hQ : ∀ c a w, Q (.panic c) (a.put o.dst v) w → Q (.panic c) a w) (hm : Mem w0 w L) (hy : ∀ w, Mem w0 w L → (execOp a.eval o).run P w = .ok (.value v) w)
    (h : MG P ops Q w0 L fuel (listed.setIfInBounds i true) (a.put o.dst v) w) : MG P ops Q w0 L (fuel + 1) listed a w :=
  ⟨rgTake hi hf hw hQ hy hm h.out⟩
theorem mgSkip (hi : ops.toList[i]? = some o) (hf : mayFirst ops listed i = true) (hw : Region.wanted o (yielded ops a.tmps) = false)
    (hQ : ∀ c a w, Q (.panic c) (a.put o.dst undef) w → Q (.panic c) a w) (hm : Mem w0 w L)
    (h : MG P ops Q w0 L fuel (listed.setIfInBounds i true) (a.put o.dst undef) w) : MG P ops Q w0 L (fuel + 1) listed a w :=
  ⟨rgSkip (S := fun w' => Mem w0 w' L) hi hf hw hQ hm h.out⟩
theorem mgCall {c : Operand} {args : Array Operand} {argTypes : Array TypeId} {R : Ending → World → Prop} (f : FuncId) (vals first caps : List Value) (hr : Region.ready .any ops listed = [i])
    (hi : ops.toList[i]? = some o) (hf : callable P f = true) (hw : Region.wanted o (yielded ops a.tmps) = true) (ho : o.op = .call { callee := .value c, args, argTypes }) (hc : a.eval c = .func (.func f) first.toArray caps.toArray) (hargs : args.toList.map a.eval = vals)
    (hC : Calls P f (first ++ vals ++ caps).toArray w R) (h : ∀ e w', R e w' → ∃ v, e = .returned v ∧ Mem w0 w' L ∧ MG P ops Q w0 L fuel (listed.setIfInBounds i true) (a.put o.dst v) w') : MG P ops Q w0 L (fuel + 1) listed a w :=
  ⟨rgNext hr hi (callOp f vals first caps hf hw ho hc hargs (hC.mono fun e w' he => by
    obtain ⟨v, h1, h2, h3⟩ := h e w' he
    exact ⟨v, h1, h2, h3.out⟩))⟩
theorem mgMore_ {L' : List Res} (hL : ∀ w, Mem w0 w L' → Mem w0 w L) : ∀ (fuel : Nat) (listed : Array Bool) (a : Act) (w : World), wpAnyH P .any ops Q (fun w' => Mem w0 w' L') fuel listed a w → wpAnyH P .any ops Q (fun w' => Mem w0 w' L) fuel listed a w
  | 0, _, _, _, h => h
  | fuel + 1, _, _, _, h => ⟨h.1, fun i hi => wpOp_mono (fun a' w' h' => ⟨hL _ h'.1, mgMore_ hL fuel _ a' w' h'.2⟩) (h.2 i hi)⟩
theorem mgMore {L' : List Res} (hL : ∀ w, Mem w0 w L' → Mem w0 w L) (h : MG P ops Q w0 L' fuel listed a w) : MG P ops Q w0 L fuel listed a w := ⟨mgMore_ hL _ _ _ _ h.out⟩
theorem mgDone (hr : Region.ready .any ops listed = []) (h : Q .normal a w) : MG P ops Q w0 L fuel listed a w := ⟨rgDone hr h⟩
end
end Go.Proofs.Ytkfijpghjjnpkaa
/-
  What operations yield, for walks printed by a program. No statement is proved here.
-/
namespace Go.Proofs.Ytkfijpghjjnpkaa
open Go.RowKit

section
variable {P : Program} {w w0 : World} {o : Oper} {a : Act} {t ty : TypeId} {L : List Res}
/-- A cell of a block of the call's own. -/
theorem gLoad {g k : Nat} {cs : List Value} {v : Value} {tb : TypeId} (j : Nat) (hm : Mem w0 w L) (hj : L[j]? = some (.arr g tb cs)) (hv : cs[k]? = some v) (x : Operand) (hu : ((P.underlying ty).map fun d => match d with | .struct _ | .array _ _ => true | _ => false) = some false)
    (ho : o.op = .load ty x) (hx : a.eval x = .pointer (some ⟨g, k, none⟩)) : (execOp a.eval o).run P w = .ok (.value v) w :=
  ldRun x hu ho hx ((hm.arr j hj).cell hv)
theorem gLoadAg {g k n : Nat} {cs vs : List Value} {tb : TypeId} {z : Array Value} (j : Nat) (hm : Mem w0 w L) (hj : L[j]? = some (.arr g tb cs)) (hv : (cs.drop k).take n = vs) (hl : vs.length = n) (x : Operand) (T : AgTy P ty z n)
    (ho : o.op = .load ty x) (hx : a.eval x = .pointer (some ⟨g, k, none⟩)) : (execOp a.eval o).run P w = .ok (.value (.agg vs.toArray)) w := by
  have hc : ∀ i u, vs[i]? = some u → w.cell? ⟨g, k + i, none⟩ = some u := fun i u hu => by
    refine (hm.arr j hj).cell ?_
    rw [← hv, List.getElem?_take] at hu
    split at hu
    · rw [← hu, List.getElem?_drop]
    · cases hu
  unfold execOp
  simp only [ho, hx, Instr.loadAt, Instr.sureAddr, Sem.run_bind, Sem.run_pure, Result.andThen_ok, run_loadAgg T g k vs hl hc]
/-- A cell of a slice that is read, one cell to an element. -/
theorem gLoadRd {B size n c m off b : Nat} {A : Option Addr} {xs : List Value} {v : Value} (hr : Rd w B size A n c xs) (hA : A = some ⟨b, off, none⟩) (hv : xs[m]? = some v) (hpos : 0 < n * size) (x : Operand) (hu : ((P.underlying ty).map fun d => match d with | .struct _ | .array _ _ => true | _ => false) = some false)
    (ho : o.op = .load ty x) (hx : a.eval x = .pointer (some ⟨b, off + m, none⟩)) : (execOp a.eval o).run P w = .ok (.value v) w := by
  obtain ⟨b', off', e, _, hc⟩ := hr.cells hpos
  rw [hA] at e
  injection e with e
  injection e with e1 e2
  subst e1
  subst e2
  exact ldRun x hu ho hx (hc m v hv)
theorem gLoadAgRd {B size n c m k off b : Nat} {A : Option Addr} {xs vs : List Value} {z : Array Value} (hr : Rd w B size A n c xs) (hA : A = some ⟨b, off, none⟩) (hv : ∀ (i : Nat) (u : Value), vs[i]? = some u → xs[m + i]? = some u) (hl : vs.length = k) (hpos : 0 < n * size) (x : Operand) (T : AgTy P ty z k)
    (ho : o.op = .load ty x) (hx : a.eval x = .pointer (some ⟨b, off + m, none⟩)) : (execOp a.eval o).run P w = .ok (.value (.agg vs.toArray)) w := by
  obtain ⟨b', off', e, _, hc0⟩ := hr.cells hpos
  rw [hA] at e
  injection e with e
  injection e with e1 e2
  subst e1
  subst e2
  have hc : ∀ i u, vs[i]? = some u → w.cell? ⟨b, off + m + i, none⟩ = some u := fun i u hu => by
    rw [Nat.add_assoc]
    exact hc0 (m + i) u (hv i u hu)
  unfold execOp
  simp only [ho, hx, Instr.loadAt, Instr.sureAddr, Sem.run_bind, Sem.run_pure, Result.andThen_ok, run_loadAgg T b (off + m) vs hl hc]
/-- The address of an element of a slice. -/
theorem gIaSl {e : TypeId} {z : Value} {size bytes b off n c : Nat} {kk : IntKind} {K : Int} (x y : Operand) (k : Nat) (T : SlTy P t e z size bytes)
    (ho : o.op = .indexAddr t x y) (hx : a.eval x = .slice (some ⟨b, off, none⟩) n c) (hy : a.eval y = .int kk K) (hK : K = (k : Int)) (hk : k < n) : (execOp a.eval o).run P w = .ok (.value (.pointer (some ⟨b, off + k * size, none⟩))) w :=
  iaRowRun x y k T ho hx hy hK hk
theorem gMin {A B : Int} (x y : Operand) (ho : o.op = .call { callee := .builtin .min, args := #[x, y], argTypes := #[t, t] }) (hx : a.eval x = .int .i64 A) (hy : a.eval y = .int .i64 B) : (execOp a.eval o).run P w = .ok (.value (.int .i64 (min A B))) w := by
  unfold execOp
  simp [ho, hx, hy, resolve, invoke, builtin, Builtin.min_, Builtin.min2]
  by_cases h : B < A
  · rw [if_pos h, Int.min_eq_right (by omega)]
  · rw [if_neg h, Int.min_eq_left (by omega)]
theorem gMax {A B : Int} (x y : Operand) (ho : o.op = .call { callee := .builtin .max, args := #[x, y], argTypes := #[t, t] }) (hx : a.eval x = .int .i64 A) (hy : a.eval y = .int .i64 B) : (execOp a.eval o).run P w = .ok (.value (.int .i64 (max A B))) w := by
  unfold execOp
  simp [ho, hx, hy, resolve, invoke, builtin, Builtin.max_, Builtin.max2]
  by_cases h : A < B
  · rw [if_pos h, Int.max_eq_right (by omega)]
  · rw [if_neg h, Int.max_eq_left (by omega)]
theorem gSubW {A B : Int} (x y : Operand) (ho : o.op = .binOp .sub t x y ty) (hx : a.eval x = .int .i64 A) (hy : a.eval y = .int .i64 B) : (execOp a.eval o).run P w = .ok (.value (.int .i64 (wrap64 (A - B)))) w := by
  unfold execOp
  simp [ho, hx, hy, eqGuard, binOp_sub, Op.intArith, IntWalk.i64_left]
theorem gAddW {A B : Int} (x y : Operand) (ho : o.op = .binOp .add t x y ty) (hx : a.eval x = .int .i64 A) (hy : a.eval y = .int .i64 B) : (execOp a.eval o).run P w = .ok (.value (.int .i64 (wrap64 (A + B)))) w := by
  unfold execOp
  simp [ho, hx, hy, eqGuard, binOp_add, Op.intArith, IntWalk.i64_left]
theorem gNeg {A : Int} (x : Operand) (ho : o.op = .unOp .neg t x) (hx : a.eval x = .int .i64 A) (h : -9223372036854775808 ≤ -A ∧ -A ≤ 9223372036854775807) : (execOp a.eval o).run P w = .ok (.value (.int .i64 (-A))) w := by
  have hw := IntWalk.i64_in (-A) h
  unfold execOp
  simp [ho, hx, Op.unary, Op.intArith, hw]
theorem gGeq {A B : Int} (x y : Operand) (ho : o.op = .binOp .geq t x y ty) (hx : a.eval x = .int .i64 A) (hy : a.eval y = .int .i64 B) : (execOp a.eval o).run P w = .ok (.value (.bool (decide (B ≤ A)))) w := by
  unfold execOp
  simp [ho, hx, hy, eqGuard, binOp_geq]
end

section
variable {P : Program} {w w0 : World} {tmps : Array Value} {L : List Res}
theorem bool_or (b : Bool) : b = false ∨ b = true := by cases b <;> simp
/-- What the slots of a frame are. -/
def FrIs (a : Act) : List (Nat × Value) → Prop
  | [] => True
  | p :: l => a.tmps.getD p.1 undef = p.2 ∧ FrIs a l
/-- A frame of N slots, known at the slots of l. -/
structure Fr (a : Act) (N : Nat) (l : List (Nat × Value)) : Prop where
  size : a.tmps.size = N
  defers : a.defers = []
  known : FrIs a l
def slotOf (l : List (Nat × Value)) (i : Nat) (x : Value) : Value := match l with
  | [] => x
  | p :: l => if p.1 = i then p.2 else slotOf l i x
theorem slotOf_eq {a : Act} {i : Nat} : ∀ {l : List (Nat × Value)}, FrIs a l → slotOf l i (a.tmps.getD i undef) = a.tmps.getD i undef
  | [], _ => rfl
  | p :: l, h => by
    unfold slotOf
    split
    · rename_i e; rw [← e]; exact h.1.symm
    · exact slotOf_eq h.2
theorem Fr.lit {a : Act} {N : Nat} {l : List (Nat × Value)} (h : Fr a N l) : ∃ X : Nat → Value, a = { tmps := ((List.range N).map fun i => slotOf l i (X i)).toArray, defers := [] } := by
  refine ⟨fun i => a.tmps.getD i undef, ?_⟩
  obtain ⟨tmps, defers⟩ := a
  have hd : defers = [] := h.defers
  have hs : tmps.size = N := h.size
  subst hd
  congr 1
  apply Array.ext
  · simp [hs]
  · intro i h1 h2
    have e := slotOf_eq (i := i) h.known
    simp only [List.getElem_toArray, List.getElem_map, List.getElem_range]
    rw [e]
    simp [h1]
/-- What a result is. -/
def ResIs (P : Program) (w : World) (tmps : Array Value) : ResultVar → Value → Prop
  | .tmp t, v => tmps.getD t undef = v
  | .cell a t, v => ∃ p, tmps.getD a undef = .pointer (some p) ∧ (loadVar t p).run P w = .ok v w
def resRun (tmps : Array Value) : ResultVar → Sem Value
  | .tmp t => pure (tmps.getD t undef)
  | .cell a t => do loadVar t (← asAddr (tmps.getD a undef))
theorem ResIs.run {r : ResultVar} {v : Value} (h : ResIs P w tmps r v) : (resRun tmps r).run P w = .ok v w := by
  cases r with
  | tmp t =>
    have h : tmps.getD t undef = v := h
    show (pure (tmps.getD t undef) : Sem Value).run P w = _
    rw [h, Sem.run_pure]
  | cell a t =>
    obtain ⟨p, h1, h2⟩ := h
    unfold resRun
    simp only [h1, asAddr, Sem.run_bind, Sem.run_pure, Result.andThen_ok, h2]
theorem results_resRun (fn : Func) : results fn tmps = (do let vs ← fn.results.mapM (resRun tmps); pure (if h : vs.size = 1 then vs[0] else .tuple vs)) := by
  unfold results
  congr 1
theorem gRes1 {fn : Func} {r1 : ResultVar} {v1 : Value} (h : fn.results = #[r1]) (h1 : ResIs P w tmps r1 v1) : (results fn tmps).run P w = .ok v1 w := by
  rw [results_resRun, h]
  simp [h1.run]
theorem gRes2 {fn : Func} {r1 r2 : ResultVar} {v1 v2 : Value} (h : fn.results = #[r1, r2]) (h1 : ResIs P w tmps r1 v1) (h2 : ResIs P w tmps r2 v2) : (results fn tmps).run P w = .ok (.tuple #[v1, v2]) w := by
  rw [results_resRun, h]
  simp [h1.run, h2.run]
theorem gRes3 {fn : Func} {r1 r2 r3 : ResultVar} {v1 v2 v3 : Value} (h : fn.results = #[r1, r2, r3]) (h1 : ResIs P w tmps r1 v1) (h2 : ResIs P w tmps r2 v2) (h3 : ResIs P w tmps r3 v3) : (results fn tmps).run P w = .ok (.tuple #[v1, v2, v3]) w := by
  rw [results_resRun, h]
  simp [h1.run, h2.run, h3.run]
theorem gRes4 {fn : Func} {r1 r2 r3 r4 : ResultVar} {v1 v2 v3 v4 : Value} (h : fn.results = #[r1, r2, r3, r4]) (h1 : ResIs P w tmps r1 v1) (h2 : ResIs P w tmps r2 v2) (h3 : ResIs P w tmps r3 v3) (h4 : ResIs P w tmps r4 v4) : (results fn tmps).run P w = .ok (.tuple #[v1, v2, v3, v4]) w := by
  rw [results_resRun, h]
  simp [h1.run, h2.run, h3.run, h4.run]
theorem gResTmp {t : Tmp} {v : Value} (h : tmps.getD t undef = v) : ResIs P w tmps (.tmp t) v := h
theorem gRes0 {fn : Func} (h : fn.results = #[]) : (results fn tmps).run P w = .ok (.tuple #[]) w := by simp [results, h]
theorem gResAg {p : Tmp} {ty tb : TypeId} {g n : Nat} {cs : List Value} {z : Array Value} (j : Nat) (hm : Mem w0 w L) (hj : L[j]? = some (.arr g tb cs)) (T : AgTy P ty z n) (hl : cs.length = n) (hp : tmps.getD p undef = .pointer (some ⟨g, 0, none⟩)) : ResIs P w tmps (.cell p ty) (.agg cs.toArray) :=
  ⟨_, hp, run_loadAgg T g 0 cs hl fun i u hu => by rw [Nat.zero_add]; exact (hm.arr j hj).cell hu⟩
theorem gResCell {p : Tmp} {ty tb : TypeId} {g : Nat} {cs : List Value} {v : Value} (j : Nat) (hm : Mem w0 w L) (hj : L[j]? = some (.arr g tb cs)) (hv : cs[0]? = some v) (hu : ((P.underlying ty).map fun d => match d with | .struct _ | .array _ _ => true | _ => false) = some false) (hp : tmps.getD p undef = .pointer (some ⟨g, 0, none⟩)) : ResIs P w tmps (.cell p ty) v := by
  refine ⟨_, hp, ?_⟩
  obtain ⟨d, hd, h2⟩ := Option.map_eq_some_iff.1 hu
  have ha : (isAgg ty).run P w = .ok false w := by
    unfold isAgg
    rw [Sem.run_bind, run_underlying hd w]
    cases d <;> simp_all
  have hc := (hm.arr j hj).cell hv
  simp [loadVar, Sem.run_bind, ha, hc]
end
end Go.Proofs.Ytkfijpghjjnpkaa
/-
  Frames as lists of what is known of their slots, for walks printed by a program. No statement is proved here.
-/
namespace Go.Proofs.Ytkfijpghjjnpkaa
open Go.RowKit

/-- A frame of N slots: what l knows, and X elsewhere. -/
def lit (N : Nat) (X : Nat → Value) (l : List (Nat × Value)) : Act := { tmps := ((List.range N).map fun i => slotOf l i (X i)).toArray, defers := [] }
def litEval (N : Nat) (X : Nat → Value) (l : List (Nat × Value)) : Operand → Value
  | .tmp k => if k < N then slotOf l k (X k) else undef
  | .const v => v
  | .global g => .pointer (some ⟨g, 0, none⟩)
  | .func f => .func (.func f) #[] #[]
section
variable {N : Nat} {X : Nat → Value} {l : List (Nat × Value)} {P : Program} {w w0 : World} {o : Oper} {ops : Array Oper} {Q : Exit → Act → World → Prop} {i : Nat}
theorem lit_get? (k : Nat) : (lit N X l).tmps[k]? = if k < N then some (slotOf l k (X k)) else none := by
  unfold lit
  simp only [List.getElem?_toArray, List.getElem?_map]
  by_cases h : k < N
  · rw [List.getElem?_range h, if_pos h]; rfl
  · rw [List.getElem?_eq_none (by simp; omega), if_neg h]; rfl
theorem lit_getD (k : Nat) : (lit N X l).tmps.getD k undef = if k < N then slotOf l k (X k) else undef := by
  rw [Array.getD_eq_getD_getElem?, lit_get?]
  split <;> rfl
theorem lit_eval : (lit N X l).eval = litEval N X l := by
  funext x
  cases x with
  | tmp k => exact lit_getD k
  | _ => rfl
theorem lit_put {d : Nat} {v : Value} (_h : d < N) : (lit N X l).put (some d) v = lit N X ((d, v) :: l) := by
  unfold Act.put lit
  simp only
  congr 1
  apply Array.ext
  · simp
  · intro k h1 h2
    simp only [Array.size_setIfInBounds, List.size_toArray, List.length_map, List.length_range] at h1
    by_cases hk : d = k
    · subst hk
      simp [slotOf]
    · simp [hk, slotOf]
theorem litEv {x : Operand} {v : Value} (h : litEval N X l x = v) : (lit N X l).eval x = v := by rw [lit_eval]; exact h
theorem litRun {r : Result Next} (h : (execOp (litEval N X l) o).run P w = r) : (execOp (lit N X l).eval o).run P w = r := by rw [lit_eval]; exact h
theorem litArgs {args : List Operand} {vals : List Value} (h : args.map (litEval N X l) = vals) : args.map (lit N X l).eval = vals := by rw [lit_eval]; exact h
theorem litGet {k : Nat} {v : Value} (h : litEval N X l (.tmp k) = v) : (lit N X l).tmps.getD k undef = v := litEv h
theorem wgY {j dj : Nat} {b : Bool} {oj : Oper} (hg : o.guard = some (j, b)) (hj : ops.toList[j]? = some oj) (hd : oj.dst = some dj) (hN : (decide (dj < N)) = true) (hv : litEval N X l (.tmp dj) = .bool b) : Region.wanted o (yielded ops (lit N X l).tmps) = true := by
  have hj' : ops[j]? = some oj := by rw [← hj]; simp
  have hN' := of_decide_eq_true hN
  have hs : (lit N X l).tmps[dj]? = some (.bool b) := by
    rw [lit_get?, if_pos hN']
    have : litEval N X l (.tmp dj) = slotOf l dj (X dj) := if_pos hN'
    rw [← this, hv]
  simp [Region.wanted, hg, yielded, hj', hd, hs]
theorem wgN {j dj : Nat} {b : Bool} {oj : Oper} (hg : o.guard = some (j, b)) (hj : ops.toList[j]? = some oj) (hd : oj.dst = some dj) (hN : (decide (dj < N)) = true) (hv : litEval N X l (.tmp dj) = .bool !b) : Region.wanted o (yielded ops (lit N X l).tmps) = false := by
  have hj' : ops[j]? = some oj := by rw [← hj]; simp
  have hN' := of_decide_eq_true hN
  have hs : (lit N X l).tmps[dj]? = some (.bool !b) := by
    rw [lit_get?, if_pos hN']
    have : litEval N X l (.tmp dj) = slotOf l dj (X dj) := if_pos hN'
    rw [← this, hv]
  simp [Region.wanted, hg, yielded, hj', hd, hs]
theorem qPut {d : Nat} {v : Value} {dst : Option Tmp} (hd : dst = some d) (hN : (decide (d < N)) = true) (h : PL P ops Q i (lit N X ((d, v) :: l)) w) : PL P ops Q i ((lit N X l).put dst v) w := by
  rw [hd, lit_put (of_decide_eq_true hN)]; exact h
theorem qNone {v : Value} {dst : Option Tmp} (hd : dst = none) (h : PL P ops Q i (lit N X l) w) : PL P ops Q i ((lit N X l).put dst v) w := by
  rw [hd]; exact h
theorem mPut {L : List Res} {fuel : Nat} {listed : Array Bool} {d : Nat} {v : Value} {dst : Option Tmp} (hd : dst = some d) (hN : (decide (d < N)) = true) (h : MG P ops Q w0 L fuel listed (lit N X ((d, v) :: l)) w) : MG P ops Q w0 L fuel listed ((lit N X l).put dst v) w := by
  rw [hd, lit_put (of_decide_eq_true hN)]; exact h
theorem mNone {L : List Res} {fuel : Nat} {listed : Array Bool} {v : Value} {dst : Option Tmp} (hd : dst = none) (h : MG P ops Q w0 L fuel listed (lit N X l) w) : MG P ops Q w0 L fuel listed ((lit N X l).put dst v) w := by
  rw [hd]; exact h
theorem litStart {c : Code} {a : Act} (N : Nat) (l : List (Nat × Value)) (h : a = lit N (fun _ => undef) l) (k : ∀ X, c.wp P Q (lit N X l) w) : c.wp P Q a w := by
  rw [h]; exact k _
theorem frLit {a : Act} (h : Fr a N l) : ∃ X : Nat → Value, a = lit N X l := Fr.lit h
theorem litSize : (lit N X l).tmps.size = N := by simp [lit]
/-- What is no longer wanted is let go. -/
theorem wpPrune {c : Code} (l' : List (Nat × Value)) (h : FrIs (lit N X l) l') (k : ∀ X', c.wp P Q (lit N X' l') w) : c.wp P Q (lit N X l) w := by
  obtain ⟨X', e⟩ := frLit (⟨litSize, rfl, h⟩ : Fr (lit N X l) N l')
  rw [e]
  exact k X'
theorem litVal {v : Value} {d : Nat} (hi : ops.toList[i]? = some o) (hw : Region.wanted o (yielded ops (lit N X l).tmps) = true) (hr : (execOp (lit N X l).eval o).run P w = .ok (.value v) w) (hd : o.dst = some d) (hN : (decide (d < N)) = true) (h : PL P ops Q (i + 1) (lit N X ((d, v) :: l)) w) : PL P ops Q i (lit N X l) w :=
  plVal hi hw hr (qPut hd hN h)
end
end Go.Proofs.Ytkfijpghjjnpkaa
/-
  The types of the seat. No statement is proved here.
-/
namespace Go.Proofs.Ytkfijpghjjnpkaa
open Go.RowKit

theorem Ty.ag_voxel_api_Point : AgTy Try.prog 23 [.int .i64 0, .int .i64 0, .int .i64 0].toArray 3 := ⟨by kernel_rfl, by kernel_rfl, by kernel_rfl⟩
theorem Ty.ag_voxel_api_Cube : AgTy Try.prog 27 [.int .i64 0, .int .i64 0, .int .i64 0, .int .i64 0].toArray 4 := ⟨by kernel_rfl, by kernel_rfl, by kernel_rfl⟩
theorem Ty.ag_voxel_api_Box : AgTy Try.prog 37 [.int .i64 0, .int .i64 0, .int .i64 0, .int .i64 0, .int .i64 0, .int .i64 0].toArray 6 := ⟨by kernel_rfl, by kernel_rfl, by kernel_rfl⟩
theorem Ty.ag_voxel_api_Run : AgTy Try.prog 54 [.int .i64 0, .int .i64 0].toArray 2 := ⟨by kernel_rfl, by kernel_rfl, by kernel_rfl⟩
theorem Ty.ag_3_int : AgTy Try.prog 57 [.int .i64 0, .int .i64 0, .int .i64 0].toArray 3 := ⟨by kernel_rfl, by kernel_rfl, by kernel_rfl⟩
theorem Ty.sl_api_Cube : SlTy Try.prog 38 27 (.agg ([.int .i64 0, .int .i64 0, .int .i64 0, .int .i64 0]).toArray) 4 32 := ⟨by kernel_rfl, by kernel_rfl, by rfl, by decide⟩
theorem Ty.sl_api_Run : SlTy Try.prog 42 54 (.agg ([.int .i64 0, .int .i64 0]).toArray) 2 16 := ⟨by kernel_rfl, by kernel_rfl, by rfl, by decide⟩
theorem Ty.und_int : Try.prog.underlying 3 = some (.int .i64) := by kernel_rfl
theorem Ty.und_uint8 : Try.prog.underlying 5 = some (.int .u8) := by kernel_rfl
theorem Ty.und_string : Try.prog.underlying 9 = some (.string) := by kernel_rfl
theorem Ty.und_api_Cube : Try.prog.underlying 38 = some (.slice 27) := by kernel_rfl
theorem Ty.und_api_Run : Try.prog.underlying 42 = some (.slice 54) := by kernel_rfl
theorem Ty.und_3_int : Try.prog.underlying 57 = some (.array 3 3) := by kernel_rfl
theorem Ty.und_uint : Try.prog.underlying 62 = some (.int .u64) := by kernel_rfl
theorem Ty.und_uint32 : Try.prog.underlying 71 = some (.int .u32) := by kernel_rfl
theorem Ty.und_uint64 : Try.prog.underlying 73 = some (.int .u64) := by kernel_rfl
end Go.Proofs.Ytkfijpghjjnpkaa
/-
  Morton codes: plain laws on Decode, Encode, Compare, Neighbour and Common. No statement is proved here.
-/
namespace Go.Proofs.Ytkfijpghjjnpkaa

theorem enc_of_dec {n : Int} (h : (mDec n).2 = true) : mEnc (mDec n).1 = n := by
  unfold mDec at h ⊢
  split at h
  · rename_i hn
    rw [if_pos hn]
    show mEnc (mDecP n.toNat) = n
    rw [mEnc_dec (by omega)]
    omega
  · cases h
theorem dec_enc_in {p : Pt} (h : p.In) : (mDec (mEnc p)).2 = true ∧ (mDec (mEnc p)).1 = p := by
  rw [mDec_enc h]
  exact ⟨rfl, rfl⟩
theorem dec_enc_out {p : Pt} (h : ¬ p.In) : (mDec (mEnc p)).2 = false := by
  rw [mEnc_out h]
  unfold mDec
  rw [if_neg (by omega)]
theorem mCmp_neg (a b : Pt) : mCmp a b < 0 ↔ mEnc a < mEnc b := by
  unfold mCmp cmpI
  split
  · exact ⟨fun _ => by assumption, fun _ => by decide⟩
  · split
    · exact ⟨fun h => absurd h (by decide), fun h => absurd h (by assumption)⟩
    · exact ⟨fun h => absurd h (by decide), fun h => absurd h (by assumption)⟩
theorem mCmp_zero (a b : Pt) : mCmp a b = 0 ↔ mEnc a = mEnc b := by
  unfold mCmp cmpI
  split
  · exact ⟨fun h => absurd h (by decide), fun h => by omega⟩
  · split
    · exact ⟨fun h => absurd h (by decide), fun h => by omega⟩
    · exact ⟨fun _ => by omega, fun _ => rfl⟩
theorem mCmp_swap (a b : Pt) : mCmp b a = -mCmp a b := by
  unfold mCmp cmpI
  split <;> split <;> first | rfl | omega | (split <;> first | rfl | omega)
theorem mCmp_small (a b : Pt) : -1 ≤ mCmp a b ∧ mCmp a b ≤ 1 := by
  unfold mCmp cmpI
  split
  · exact ⟨by decide, by decide⟩
  · split <;> exact ⟨by decide, by decide⟩
theorem encL_cut : ∀ (l x y z : Nat), encL l (x * 2 ^ l) (y * 2 ^ l) (z * 2 ^ l) = 0
  | 0, _, _, _ => rfl
  | l + 1, x, y, z => by
    have h := encL_cut l x y z
    have e : ∀ a : Nat, a * 2 ^ (l + 1) = 2 * (a * 2 ^ l) := fun a => by rw [Nat.pow_succ, ← Nat.mul_assoc, Nat.mul_comm]
    rw [encL, e, e, e, Nat.mul_div_cancel_left _ (by decide), Nat.mul_div_cancel_left _ (by decide), Nat.mul_div_cancel_left _ (by decide), h]
    omega
theorem at0 (p : Pt) : p.x = p.at 0 := rfl
theorem corner_in {p : Pt} (hp : p.In) (l : Nat) : (p.corner l).In := by
  have h := fun k => (hp.nat k).2
  have h0 := h 0
  have h1 := h 1
  have h2 := h 2
  have d0 := Nat.div_mul_le_self (p.nat 0) (2 ^ l)
  have d1 := Nat.div_mul_le_self (p.nat 1) (2 ^ l)
  have d2 := Nat.div_mul_le_self (p.nat 2) (2 ^ l)
  unfold Pt.corner Pt.In
  simp only
  omega
theorem mEnc_nat {p : Pt} (hp : p.In) : mEnc p = (encL 14 (p.nat 0) (p.nat 1) (p.nat 2) : Int) := by
  unfold mEnc
  rw [if_pos hp]
  rfl
theorem corner_nat (p : Pt) (l : Nat) : (p.corner l).nat 0 = p.nat 0 / 2 ^ l * 2 ^ l ∧ (p.corner l).nat 1 = p.nat 1 / 2 ^ l * 2 ^ l ∧ (p.corner l).nat 2 = p.nat 2 / 2 ^ l * 2 ^ l := ⟨rfl, rfl, rfl⟩
/-- A cell of a cube has a code of the cube's. -/
theorem code_corner {p : Pt} (hp : p.In) (l : Nat) (hl : l ≤ 14) : mEnc (p.corner l) ≤ mEnc p ∧ mEnc p < mEnc (p.corner l) + ((8 ^ l : Nat) : Int) := by
  rw [mEnc_nat hp, mEnc_nat (corner_in hp l)]
  obtain ⟨e0, e1, e2⟩ := corner_nat p l
  rw [e0, e1, e2]
  have hs := encL_split l (14 - l) (p.nat 0) (p.nat 1) (p.nat 2)
  have hc := encL_split l (14 - l) (p.nat 0 / 2 ^ l * 2 ^ l) (p.nat 1 / 2 ^ l * 2 ^ l) (p.nat 2 / 2 ^ l * 2 ^ l)
  rw [show l + (14 - l) = 14 by omega] at hs hc
  rw [encL_cut, Nat.mul_div_cancel _ (Nat.two_pow_pos l), Nat.mul_div_cancel _ (Nat.two_pow_pos l), Nat.mul_div_cancel _ (Nat.two_pow_pos l)] at hc
  have hlt := encL_lt l (p.nat 0) (p.nat 1) (p.nat 2)
  omega
theorem move_back (p : Pt) {k : Nat} (hk : k < 3) (d : Int) : (p.move k d).move k (-d) = p := by
  obtain ⟨x, y, z⟩ := p
  match k, hk with
  | 0, _ => simp [Pt.move]; omega
  | 1, _ => simp [Pt.move]; omega
  | 2, _ => simp [Pt.move]; omega
theorem move_ne (p : Pt) {k : Nat} (hk : k < 3) {d : Int} (hd : d ≠ 0) : p ≠ p.move k d := by
  obtain ⟨x, y, z⟩ := p
  match k, hk with
  | 0, _ => simp [Pt.move]; omega
  | 1, _ => simp [Pt.move]; omega
  | 2, _ => simp [Pt.move]; omega
theorem corner_zero {p : Pt} (hp : p.In) : p.corner 0 = p := by
  have h0 := (hp.nat 0).1
  have h1 := (hp.nat 1).1
  have h2 := (hp.nat 2).1
  obtain ⟨x, y, z⟩ := p
  unfold Pt.corner
  simp only [Pt.at, Nat.pow_zero, Nat.div_one, Nat.mul_one] at *
  rw [← h0, ← h1, ← h2]
theorem mDec_neg : mDec (-1) = (⟨0, 0, 0⟩, false) := by
  unfold mDec
  rw [if_neg (by omega)]
/-- A neighbour, in whole. -/
theorem nb_case (p : Pt) (axis : Int) (up : Bool) : mNb (mEnc p) axis up = -1 ∨
    ∃ (q : Pt) (l : Nat), mNb (mEnc p) axis up = mEnc q ∧ 0 ≤ mEnc q ∧ mDec (mEnc q) = (q, true) ∧ mNb (mEnc q) axis (!up) = mEnc p ∧ mCommon p q = (⟨p.corner l, (l : Int)⟩, true) ∧ 0 < l ∧ l ≤ 14 ∧
      mEnc (p.corner l) ≤ mEnc p ∧ mEnc p < mEnc (p.corner l) + ((8 ^ l : Nat) : Int) ∧ mEnc (p.corner l) ≤ mEnc q ∧ mEnc q < mEnc (p.corner l) + ((8 ^ l : Nat) : Int) ∧ mEnc p < 4398046511104 ∧ mEnc q < 4398046511104 := by
  by_cases hp : p.In
  · unfold mNb
    rw [mDec_enc hp]
    by_cases ha : 0 ≤ axis ∧ axis ≤ 2
    · rw [if_pos ⟨rfl, ha⟩]
      obtain ⟨d, hd⟩ : ∃ d : Int, d = if up = true then 1 else -1 := ⟨_, rfl⟩
      have hd' : (if (!up) = true then (1 : Int) else -1) = -d := by rw [hd]; cases up <;> rfl
      have hd0 : d ≠ 0 := by rw [hd]; cases up <;> decide
      rw [hd', ← hd]
      clear hd hd'
      have hk : axis.toNat < 3 := by omega
      generalize axis.toNat = k at *
      by_cases hq : (p.move k d).In
      · right
        have hb := move_back p hk d
        have hn := move_ne p hk hd0
        generalize p.move k d = q at *
        have hpos := mEnc_in hq
        have hl14 := lvTo_le hp hq 3
        have hce := (corner_eq hp hq (lvTo p q 3) hl14).2 (Nat.le_refl _)
        have hl0 : 0 < lvTo p q 3 := by
          refine Nat.pos_of_ne_zero fun e => hn ?_
          have h2 := (corner_eq hp hq 0 (by omega)).2 (by omega)
          rwa [corner_zero hp, corner_zero hq] at h2
        refine ⟨q, lvTo p q 3, rfl, hpos.1, mDec_enc hq, ?_, ?_, hl0, hl14, ?_⟩
        · rw [mDec_enc hq, if_pos ⟨rfl, ha⟩, hb]
        · unfold mCommon; rw [if_pos ⟨hp, hq⟩]
        · have h1 := code_corner hp (lvTo p q 3) hl14
          have h2 := code_corner hq (lvTo p q 3) hl14
          rw [← hce] at h2
          exact ⟨h1.1, h1.2, h2.1, h2.2, (mEnc_in hp).2, hpos.2⟩
      · left
        exact mEnc_out hq
    · rw [if_neg (fun h => ha h.2)]
      exact Or.inl rfl
  · left
    rw [mEnc_out hp]
    unfold mNb
    rw [mDec_neg, if_neg (fun h => by cases h.1)]
open Go.RowKit in
theorem neqPtRun {w : World} {o : Oper} {a : Act} {ty : TypeId} (x y : Operand) (p q : Pt) (ho : o.op = .binOp .neq 23 x y ty) (hx : a.eval x = .agg (pcs p).toArray) (hy : a.eval y = .agg (pcs q).toArray) :
    (execOp a.eval o).run Try.prog w = .ok (.value (.bool (!decide (p = q)))) w := by
  have hq : Try.prog.eqGuardType Try.prog.depth 23 = false := by kernel_rfl
  have hr := eqPts w 9998 p q
  unfold execOp
  simp only [ho, hx, hy]
  simp [eqGuard, hq, run_neq_struct, hr]
theorem cube_size (l : Nat) : 1 * 2 ^ l * (1 * 2 ^ l) * (1 * 2 ^ l) = 8 ^ l := by
  rw [Nat.one_mul, ← Nat.mul_pow, ← Nat.mul_pow]
theorem cube_side {l : Nat} (h : l ≤ 14) : 1 * 2 ^ l ≤ 16384 := by
  rw [Nat.one_mul]
  exact Nat.pow_le_pow_right (n := 2) (by decide) h
end Go.Proofs.Ytkfijpghjjnpkaa
/-
  sanity of the laws. No statement is proved here.
-/
namespace Go.Proofs.Ytkfijpghjjnpkaa
open Go.RowKit
set_option linter.unusedVariables false
set_option linter.unusedSimpArgs false

def B0 : Bx := ⟨p0, ⟨2, 2, 3⟩⟩
def L0 : List Cube := [⟨p0, 1⟩, ⟨⟨0, 0, 2⟩, 0⟩, ⟨⟨1, 0, 2⟩, 0⟩, ⟨⟨0, 1, 2⟩, 0⟩, ⟨⟨1, 1, 2⟩, 0⟩]
def U0 : List Run := [⟨0, 7⟩, ⟨32, 35⟩]
theorem san_cubes : mCubes B0 = (L0, 0) := by decide +kernel
theorem san_runs : mRuns B0 = (U0, 0) := by decide +kernel
theorem san_dec : mDec 143 = (⟨3, 5, 1⟩, true) := by decide +kernel
theorem san_com : mCommon p0 ⟨3, 5, 1⟩ = (⟨p0, 3⟩, true) := by decide +kernel
theorem san_enc : mEnc ⟨3, 5, 1⟩ = 143 := by decide +kernel
theorem san_enc2 : mEnc ⟨-1, 0, 0⟩ = -1 := by decide +kernel
theorem san_cmp : mCmp ⟨1, 0, 0⟩ ⟨0, 1, 0⟩ = -1 := by decide +kernel
theorem san_oct : mOct ⟨3, 5, 1⟩ 0 = 7 := by decide +kernel
theorem san_oct2 : mOct ⟨3, 5, 1⟩ 2 = 2 := by decide +kernel
theorem san_nb : mNb 143 0 true = 198 := by decide +kernel
theorem san_nb2 : mNb 0 2 false = -1 := by decide +kernel
theorem san_next : mNext B0 9 = 32 := by decide +kernel
theorem san_next2 : mNext B0 36 = -1 := by decide +kernel
set_option maxRecDepth 100000 in
set_option maxHeartbeats 4000000 in
theorem sanity_any (w : World) : Calls Try.prog 21 #[] w (RetB w true) := by
  have hm0 := Mem.nil w
  go_enter Try.func21, Try.ntmps21
  refine litStart 129 [] (by kernel_rfl) (fun X0 => ?_)
  refine wp_seq_k fun K1 hK1 => ?_
  refine plStart ?_
  refine litVal (i := 0) (v := .bool false) rfl (wn rfl) (litRun (by kernel_rfl)) rfl (by decide) ?_
  refine plDone (by decide) ?_
  refine then_normal (hK1 _ _ ?_)
  refine wp_seq_k fun K2 hK2 => ?_
  refine plStart ?_
  refine plCall (i := 0) 9 [.int .i64 143] [] [] rfl (by kernel_rfl) (wn rfl) rfl (litEv rfl) (litArgs (by kernel_rfl)) (by have h := decode_any 143 w; rw [san_dec] at h; exact h) ?_
  rintro e w3 ⟨rfl, hbz⟩
  have hm4 := hm0.below hbz
  clear hbz hm0
  refine ⟨_, rfl, ?_⟩
  refine qPut rfl (by decide) ?_
  refine litVal (i := 1) (v := .tuple #[.agg (pcs ⟨3, 5, 1⟩).toArray, .bool true]) rfl (wn rfl) (litRun (by kernel_rfl)) rfl (by decide) ?_
  refine litVal (i := 2) (v := .agg (pcs ⟨3, 5, 1⟩).toArray) rfl (wn rfl) (litRun (by kernel_rfl)) rfl (by decide) ?_
  refine litVal (i := 3) (v := .bool true) rfl (wn rfl) (litRun (by kernel_rfl)) rfl (by decide) ?_
  refine plAlloc (z := [.int .i64 0, .int .i64 0, .int .i64 0]) Ty.ag_voxel_api_Point hm4 (i := 4) rfl (wn rfl) rfl ?_
  intro g5 w7 hm6
  clear hm4
  simp only [List.cons_append, List.nil_append, List.set_cons_succ, List.set_cons_zero] at hm6
  refine qPut rfl (by decide) ?_
  refine plStore 0 Ty.ag_voxel_api_Point hm6 rfl (i := 5) (cs := pcs ⟨3, 5, 1⟩) rfl (wn rfl) rfl (litEv (by kernel_rfl)) (litEv (by kernel_rfl)) rfl rfl (by kernel_rfl) ?_
  intro w9 hm8
  clear hm6
  simp only [List.cons_append, List.nil_append, List.set_cons_succ, List.set_cons_zero] at hm8
  refine qNone rfl ?_
  refine litVal (i := 6) (v := .bool true) rfl (wn rfl) (litRun (by kernel_rfl)) rfl (by decide) ?_
  refine plDone (by decide) ?_
  refine then_normal (hK2 _ _ ?_)
  refine wp_seq_k fun K10 hK10 => ?_
  refine plStart ?_
  refine plCall (i := 0) 32 [.int .i64 0, .int .i64 0, .int .i64 0] [] [] rfl (by kernel_rfl) (wn rfl) rfl (litEv rfl) (litArgs (by kernel_rfl)) (at_any 0 0 0 _) ?_
  rintro e w11 ⟨rfl, hbz⟩
  have hm12 := hm8.below hbz
  clear hbz hm8
  refine ⟨_, rfl, ?_⟩
  refine qPut rfl (by decide) ?_
  refine plCall (i := 1) 32 [.int .i64 3, .int .i64 5, .int .i64 1] [] [] rfl (by kernel_rfl) (wn rfl) rfl (litEv rfl) (litArgs (by kernel_rfl)) (at_any 3 5 1 _) ?_
  rintro e w13 ⟨rfl, hbz⟩
  have hm14 := hm12.below hbz
  clear hbz hm12
  refine ⟨_, rfl, ?_⟩
  refine qPut rfl (by decide) ?_
  refine plCall (i := 2) 11 [.agg (pcs ⟨0, 0, 0⟩).toArray, .agg (pcs ⟨3, 5, 1⟩).toArray] [] [] rfl (by kernel_rfl) (wn rfl) rfl (litEv rfl) (litArgs (by kernel_rfl)) (by have h := common_any p0 ⟨3, 5, 1⟩ w13; rw [san_com] at h; exact h) ?_
  rintro e w15 ⟨rfl, hbz⟩
  have hm16 := hm14.below hbz
  clear hbz hm14
  refine ⟨_, rfl, ?_⟩
  refine qPut rfl (by decide) ?_
  refine litVal (i := 3) (v := .tuple #[.agg (ccs ⟨p0, 3⟩).toArray, .bool true]) rfl (wn rfl) (litRun (by kernel_rfl)) rfl (by decide) ?_
  refine litVal (i := 4) (v := .agg (ccs ⟨p0, 3⟩).toArray) rfl (wn rfl) (litRun (by kernel_rfl)) rfl (by decide) ?_
  refine litVal (i := 5) (v := .bool true) rfl (wn rfl) (litRun (by kernel_rfl)) rfl (by decide) ?_
  refine plAlloc (z := [.int .i64 0, .int .i64 0, .int .i64 0, .int .i64 0]) Ty.ag_voxel_api_Cube hm16 (i := 6) rfl (wn rfl) rfl ?_
  intro g17 w19 hm18
  clear hm16
  simp only [List.cons_append, List.nil_append, List.set_cons_succ, List.set_cons_zero] at hm18
  refine qPut rfl (by decide) ?_
  refine plStore 1 Ty.ag_voxel_api_Cube hm18 rfl (i := 7) (cs := ccs ⟨p0, 3⟩) rfl (wn rfl) rfl (litEv (by kernel_rfl)) (litEv (by kernel_rfl)) rfl rfl (by kernel_rfl) ?_
  intro w21 hm20
  clear hm18
  simp only [List.cons_append, List.nil_append, List.set_cons_succ, List.set_cons_zero] at hm20
  refine qNone rfl ?_
  refine litVal (i := 8) (v := .bool true) rfl (wn rfl) (litRun (by kernel_rfl)) rfl (by decide) ?_
  refine plDone (by decide) ?_
  refine then_normal (hK10 _ _ ?_)
  refine wp_seq_k fun K22 hK22 => ?_
  refine plStart ?_
  refine plCall (i := 0) 32 [.int .i64 2, .int .i64 2, .int .i64 3] [] [] rfl (by kernel_rfl) (wn rfl) rfl (litEv rfl) (litArgs (by kernel_rfl)) (at_any 2 2 3 _) ?_
  rintro e w23 ⟨rfl, hbz⟩
  have hm24 := hm20.below hbz
  clear hbz hm20
  refine ⟨_, rfl, ?_⟩
  refine qPut rfl (by decide) ?_
  refine litVal (i := 1) (v := .agg ([.int .i64 0, .int .i64 0, .int .i64 0, .int .i64 2, .int .i64 2, .int .i64 3]).toArray) rfl (wn rfl) (litRun (by kernel_rfl)) rfl (by decide) ?_
  refine plAlloc (z := [.int .i64 0, .int .i64 0, .int .i64 0, .int .i64 0, .int .i64 0, .int .i64 0]) Ty.ag_voxel_api_Box hm24 (i := 2) rfl (wn rfl) rfl ?_
  intro g25 w27 hm26
  clear hm24
  simp only [List.cons_append, List.nil_append, List.set_cons_succ, List.set_cons_zero] at hm26
  refine qPut rfl (by decide) ?_
  refine plStore 2 Ty.ag_voxel_api_Box hm26 rfl (i := 3) (cs := [.int .i64 0, .int .i64 0, .int .i64 0, .int .i64 2, .int .i64 2, .int .i64 3]) rfl (wn rfl) rfl (litEv (by kernel_rfl)) (litEv (by kernel_rfl)) rfl rfl (by kernel_rfl) ?_
  intro w29 hm28
  clear hm26
  simp only [List.cons_append, List.nil_append, List.set_cons_succ, List.set_cons_zero] at hm28
  refine qNone rfl ?_
  refine plDone (by decide) ?_
  refine then_normal (hK22 _ _ ?_)
  refine wp_seq_k fun K30 hK30 => ?_
  refine plStart ?_
  refine litVal (i := 0) (v := .agg ([.int .i64 0, .int .i64 0, .int .i64 0, .int .i64 2, .int .i64 2, .int .i64 3]).toArray) rfl (wn rfl) (gLoadAg (vs := [.int .i64 0, .int .i64 0, .int .i64 0, .int .i64 2, .int .i64 2, .int .i64 3]) (k := 0) 2 hm28 rfl (by kernel_rfl) (by kernel_rfl) (.tmp 5) Ty.ag_voxel_api_Box rfl (litEv (by kernel_rfl))) rfl (by decide) ?_
  refine plCall (i := 1) 22 [.agg ([.int .i64 0, .int .i64 0, .int .i64 0, .int .i64 2, .int .i64 2, .int .i64 3]).toArray] [] [] rfl (by kernel_rfl) (wn rfl) rfl (litEv rfl) (litArgs (by kernel_rfl)) (by have h := cubes_any B0 w29; rw [san_cubes] at h; exact h) ?_
  rintro e w31 ⟨v, rfl, hown, hbz⟩
  obtain ⟨A, c, rfl, hrd⟩ := Rd.of_own hown
  clear hrd
  have hm32 := hm28.newRow hbz hown
  clear hown hbz hm28
  obtain ⟨A33, rfl⟩ : ∃ x, x = A := ⟨_, rfl⟩
  obtain ⟨c34, rfl⟩ : ∃ x, x = c := ⟨_, rfl⟩
  simp only [List.cons_append, List.nil_append, List.set_cons_succ, List.set_cons_zero] at hm32
  refine ⟨_, rfl, ?_⟩
  refine qPut rfl (by decide) ?_
  refine litVal (i := 2) (v := .tuple #[.slice A33 L0.length c34, .int .i64 0]) rfl (wn rfl) (litRun (by kernel_rfl)) rfl (by decide) ?_
  refine litVal (i := 3) (v := .slice A33 L0.length c34) rfl (wn rfl) (litRun (by kernel_rfl)) rfl (by decide) ?_
  refine litVal (i := 4) (v := .int .i64 0) rfl (wn rfl) (litRun (by kernel_rfl)) rfl (by decide) ?_
  refine litVal (i := 5) (v := .slice A33 L0.length c34) rfl (wn rfl) (litRun (by kernel_rfl)) rfl (by decide) ?_
  refine litVal (i := 6) (v := .int .i64 0) rfl (wn rfl) (litRun (by kernel_rfl)) rfl (by decide) ?_
  refine plDone (by decide) ?_
  refine then_normal (hK30 _ _ ?_)
  refine wpPrune [(0, .bool false), (1, .pointer (some ⟨g5, 0, none⟩)), (2, .bool true), (3, .pointer (some ⟨g17, 0, none⟩)), (4, .bool true), (5, .pointer (some ⟨g25, 0, none⟩)), (6, .slice A33 L0.length c34), (7, .int .i64 0)] ⟨litGet (by kernel_rfl), ⟨litGet (by kernel_rfl), ⟨litGet (by kernel_rfl), ⟨litGet (by kernel_rfl), ⟨litGet (by kernel_rfl), ⟨litGet (by kernel_rfl), ⟨litGet (by kernel_rfl), ⟨litGet (by kernel_rfl), trivial⟩⟩⟩⟩⟩⟩⟩⟩ (fun X35 => ?_)
  refine wp_seq_k fun K36 hK36 => ?_
  refine plStart ?_
  refine litVal (i := 0) (v := .agg ([.int .i64 0, .int .i64 0, .int .i64 0, .int .i64 2, .int .i64 2, .int .i64 3]).toArray) rfl (wn rfl) (gLoadAg (vs := [.int .i64 0, .int .i64 0, .int .i64 0, .int .i64 2, .int .i64 2, .int .i64 3]) (k := 0) 2 hm32 rfl (by kernel_rfl) (by kernel_rfl) (.tmp 5) Ty.ag_voxel_api_Box rfl (litEv (by kernel_rfl))) rfl (by decide) ?_
  refine plCall (i := 1) 24 [.agg ([.int .i64 0, .int .i64 0, .int .i64 0, .int .i64 2, .int .i64 2, .int .i64 3]).toArray] [] [] rfl (by kernel_rfl) (wn rfl) rfl (litEv rfl) (litArgs (by kernel_rfl)) (by have h := runs_any B0 w31; rw [san_runs] at h; exact h) ?_
  rintro e w37 ⟨v, rfl, hown, hbz⟩
  obtain ⟨A, c, rfl, hrd⟩ := Rd.of_own hown
  clear hrd
  have hm38 := hm32.newRow hbz hown
  clear hown hbz hm32
  obtain ⟨A39, rfl⟩ : ∃ x, x = A := ⟨_, rfl⟩
  obtain ⟨c40, rfl⟩ : ∃ x, x = c := ⟨_, rfl⟩
  simp only [List.cons_append, List.nil_append, List.set_cons_succ, List.set_cons_zero] at hm38
  refine ⟨_, rfl, ?_⟩
  refine qPut rfl (by decide) ?_
  refine litVal (i := 2) (v := .tuple #[.slice A39 U0.length c40, .int .i64 0]) rfl (wn rfl) (litRun (by kernel_rfl)) rfl (by decide) ?_
  refine litVal (i := 3) (v := .slice A39 U0.length c40) rfl (wn rfl) (litRun (by kernel_rfl)) rfl (by decide) ?_
  refine litVal (i := 4) (v := .int .i64 0) rfl (wn rfl) (litRun (by kernel_rfl)) rfl (by decide) ?_
  refine litVal (i := 5) (v := .slice A39 U0.length c40) rfl (wn rfl) (litRun (by kernel_rfl)) rfl (by decide) ?_
  refine litVal (i := 6) (v := .int .i64 0) rfl (wn rfl) (litRun (by kernel_rfl)) rfl (by decide) ?_
  refine plDone (by decide) ?_
  refine then_normal (hK36 _ _ ?_)
  refine wp_seq_k fun K41 hK41 => ?_
  refine plStart ?_
  refine litVal (i := 0) (v := .slice A33 L0.length c34) rfl (wn rfl) (litRun (by kernel_rfl)) rfl (by decide) ?_
  refine litVal (i := 1) (v := .agg ([.int .i64 0, .int .i64 0, .int .i64 0, .int .i64 1]).toArray) rfl (wn rfl) (litRun (by kernel_rfl)) rfl (by decide) ?_
  refine plCall (i := 2) 32 [.int .i64 0, .int .i64 0, .int .i64 2] [] [] rfl (by kernel_rfl) (wn rfl) rfl (litEv rfl) (litArgs (by kernel_rfl)) (at_any 0 0 2 _) ?_
  rintro e w42 ⟨rfl, hbz⟩
  have hm43 := hm38.below hbz
  clear hbz hm38
  refine ⟨_, rfl, ?_⟩
  refine qPut rfl (by decide) ?_
  refine litVal (i := 3) (v := .agg ([.int .i64 0, .int .i64 0, .int .i64 2, .int .i64 0]).toArray) rfl (wn rfl) (litRun (by kernel_rfl)) rfl (by decide) ?_
  refine plCall (i := 4) 32 [.int .i64 1, .int .i64 0, .int .i64 2] [] [] rfl (by kernel_rfl) (wn rfl) rfl (litEv rfl) (litArgs (by kernel_rfl)) (at_any 1 0 2 _) ?_
  rintro e w44 ⟨rfl, hbz⟩
  have hm45 := hm43.below hbz
  clear hbz hm43
  refine ⟨_, rfl, ?_⟩
  refine qPut rfl (by decide) ?_
  refine litVal (i := 5) (v := .agg ([.int .i64 1, .int .i64 0, .int .i64 2, .int .i64 0]).toArray) rfl (wn rfl) (litRun (by kernel_rfl)) rfl (by decide) ?_
  refine plCall (i := 6) 32 [.int .i64 0, .int .i64 1, .int .i64 2] [] [] rfl (by kernel_rfl) (wn rfl) rfl (litEv rfl) (litArgs (by kernel_rfl)) (at_any 0 1 2 _) ?_
  rintro e w46 ⟨rfl, hbz⟩
  have hm47 := hm45.below hbz
  clear hbz hm45
  refine ⟨_, rfl, ?_⟩
  refine qPut rfl (by decide) ?_
  refine litVal (i := 7) (v := .agg ([.int .i64 0, .int .i64 1, .int .i64 2, .int .i64 0]).toArray) rfl (wn rfl) (litRun (by kernel_rfl)) rfl (by decide) ?_
  refine plCall (i := 8) 32 [.int .i64 1, .int .i64 1, .int .i64 2] [] [] rfl (by kernel_rfl) (wn rfl) rfl (litEv rfl) (litArgs (by kernel_rfl)) (at_any 1 1 2 _) ?_
  rintro e w48 ⟨rfl, hbz⟩
  have hm49 := hm47.below hbz
  clear hbz hm47
  refine ⟨_, rfl, ?_⟩
  refine qPut rfl (by decide) ?_
  refine litVal (i := 9) (v := .agg ([.int .i64 1, .int .i64 1, .int .i64 2, .int .i64 0]).toArray) rfl (wn rfl) (litRun (by kernel_rfl)) rfl (by decide) ?_
  refine plLit (cs := [.int .i64 0, .int .i64 0, .int .i64 0, .int .i64 1, .int .i64 0, .int .i64 0, .int .i64 2, .int .i64 0, .int .i64 1, .int .i64 0, .int .i64 2, .int .i64 0, .int .i64 0, .int .i64 1, .int .i64 2, .int .i64 0, .int .i64 1, .int .i64 1, .int .i64 2, .int .i64 0]) (n := 5) Ty.sl_api_Cube hm49 (i := 10) rfl (wn rfl) rfl (by decide) (by decide) (by rw [lit_eval]; kernel_rfl) ?_
  intro g50 w52 hm51
  clear hm49
  simp only [List.cons_append, List.nil_append, List.set_cons_succ, List.set_cons_zero] at hm51
  refine qPut rfl (by decide) ?_
  refine plCall (i := 11) 26 [.slice A33 L0.length c34, .slice (some ⟨g50, 0, none⟩) 5 5] [] [] rfl (by kernel_rfl) (wn rfl) rfl (litEv rfl) (litArgs (by kernel_rfl)) (by have h := sameCu_any L0 L0 A33 (some ⟨g50, 0, none⟩) c34 5 w52 (hm51.rdRow 3 rfl) (Rd.of_arr (t := 27) (cs := cus L0) (hm51.arr 5 (by kernel_rfl)) (by kernel_rfl) (by decide)); rw [decide_eq_true rfl] at h; exact h) ?_
  rintro e w53 ⟨rfl, hbz⟩
  have hm54 := hm51.below hbz
  clear hbz hm51
  refine ⟨_, rfl, ?_⟩
  refine qPut rfl (by decide) ?_
  refine litVal (i := 12) (v := .bool true) rfl (wn rfl) (litRun (by kernel_rfl)) rfl (by decide) ?_
  refine litVal (i := 13) (v := .slice A39 U0.length c40) rfl (wgY rfl rfl rfl (by decide) (by kernel_rfl)) (litRun (by kernel_rfl)) rfl (by decide) ?_
  refine litVal (i := 14) (v := .agg ([.int .i64 0, .int .i64 7]).toArray) rfl (wgY rfl rfl rfl (by decide) (by kernel_rfl)) (litRun (by kernel_rfl)) rfl (by decide) ?_
  refine litVal (i := 15) (v := .agg ([.int .i64 32, .int .i64 35]).toArray) rfl (wgY rfl rfl rfl (by decide) (by kernel_rfl)) (litRun (by kernel_rfl)) rfl (by decide) ?_
  refine plLit (cs := [.int .i64 0, .int .i64 7, .int .i64 32, .int .i64 35]) (n := 2) Ty.sl_api_Run hm54 (i := 16) rfl (wgY rfl rfl rfl (by decide) (by kernel_rfl)) rfl (by decide) (by decide) (by rw [lit_eval]; kernel_rfl) ?_
  intro g55 w57 hm56
  clear hm54
  simp only [List.cons_append, List.nil_append, List.set_cons_succ, List.set_cons_zero] at hm56
  refine qPut rfl (by decide) ?_
  refine plCall (i := 17) 27 [.slice A39 U0.length c40, .slice (some ⟨g55, 0, none⟩) 2 2] [] [] rfl (by kernel_rfl) (wgY rfl rfl rfl (by decide) (by kernel_rfl)) rfl (litEv rfl) (litArgs (by kernel_rfl)) (by have h := sameRu_any U0 U0 A39 (some ⟨g55, 0, none⟩) c40 2 w57 (hm56.rdRow 4 rfl) (Rd.of_arr (t := 54) (cs := rus U0) (hm56.arr 6 (by kernel_rfl)) (by kernel_rfl) (by decide)); rw [decide_eq_true rfl] at h; exact h) ?_
  rintro e w58 ⟨rfl, hbz⟩
  have hm59 := hm56.below hbz
  clear hbz hm56
  refine ⟨_, rfl, ?_⟩
  refine qPut rfl (by decide) ?_
  refine litVal (i := 18) (v := .bool true) rfl (wn rfl) (litRun (by kernel_rfl)) rfl (by decide) ?_
  refine litVal (i := 19) (v := .bool true) rfl (wn rfl) (litRun (by kernel_rfl)) rfl (by decide) ?_
  refine plDone (by decide) ?_
  refine then_normal (hK41 _ _ ?_)
  refine wpPrune [(0, .bool false), (1, .pointer (some ⟨g5, 0, none⟩)), (2, .bool true), (3, .pointer (some ⟨g17, 0, none⟩)), (4, .bool true), (5, .pointer (some ⟨g25, 0, none⟩)), (7, .int .i64 0), (9, .int .i64 0), (10, .bool true)] ⟨litGet (by kernel_rfl), ⟨litGet (by kernel_rfl), ⟨litGet (by kernel_rfl), ⟨litGet (by kernel_rfl), ⟨litGet (by kernel_rfl), ⟨litGet (by kernel_rfl), ⟨litGet (by kernel_rfl), ⟨litGet (by kernel_rfl), ⟨litGet (by kernel_rfl), trivial⟩⟩⟩⟩⟩⟩⟩⟩⟩ (fun X60 => ?_)
  refine wp_seq_k fun K61 hK61 => ?_
  refine mgStart hm59 (by kernel_rfl) ?_
  intro w63 hm62
  clear hm59
  refine mgCall (i := 0) 32 [.int .i64 3, .int .i64 5, .int .i64 1] [] [] (by kernel_rfl) rfl (by kernel_rfl) (wn rfl) rfl (litEv rfl) (litArgs (by kernel_rfl)) (at_any 3 5 1 _) ?_
  rintro e w64 ⟨rfl, hbz⟩
  have hm65 := hm62.below hbz
  clear hbz hm62
  refine ⟨_, rfl, hm65, ?_⟩
  refine mPut rfl (by decide) ?_
  refine mgCall (i := 1) 13 [.agg (pcs ⟨3, 5, 1⟩).toArray] [] [] (by kernel_rfl) rfl (by kernel_rfl) (wn rfl) rfl (litEv rfl) (litArgs (by kernel_rfl)) (by have h := encode_any ⟨3, 5, 1⟩ w64; rw [san_enc] at h; exact h) ?_
  rintro e w66 ⟨rfl, hbz⟩
  have hm67 := hm65.below hbz
  clear hbz hm65
  refine ⟨_, rfl, hm67, ?_⟩
  refine mPut rfl (by decide) ?_
  refine mgTake (i := 2) (v := .bool true) rfl (by kernel_rfl) (wn rfl) (fun _ _ _ h => h) hm67 (fun w_ h_ => litRun (by kernel_rfl)) ?_
  refine mPut rfl (by decide) ?_
  refine mgTake (i := 3) (v := .bool true) rfl (by kernel_rfl) (wn rfl) (fun _ _ _ h => h) hm67 (fun w_ h_ => litRun (by kernel_rfl)) ?_
  refine mPut rfl (by decide) ?_
  refine mgCall (i := 4) 32 [.int .i64 (-1), .int .i64 0, .int .i64 0] [] [] (by kernel_rfl) rfl (by kernel_rfl) (wgY rfl rfl rfl (by decide) (by kernel_rfl)) rfl (litEv rfl) (litArgs (by kernel_rfl)) (at_any (-1) 0 0 _) ?_
  rintro e w68 ⟨rfl, hbz⟩
  have hm69 := hm67.below hbz
  clear hbz hm67
  refine ⟨_, rfl, hm69, ?_⟩
  refine mPut rfl (by decide) ?_
  refine mgCall (i := 5) 13 [.agg (pcs ⟨-1, 0, 0⟩).toArray] [] [] (by kernel_rfl) rfl (by kernel_rfl) (wgY rfl rfl rfl (by decide) (by kernel_rfl)) rfl (litEv rfl) (litArgs (by kernel_rfl)) (by have h := encode_any ⟨-1, 0, 0⟩ w68; rw [san_enc2] at h; exact h) ?_
  rintro e w70 ⟨rfl, hbz⟩
  have hm71 := hm69.below hbz
  clear hbz hm69
  refine ⟨_, rfl, hm71, ?_⟩
  refine mPut rfl (by decide) ?_
  refine mgTake (i := 6) (v := .bool true) rfl (by kernel_rfl) (wgY rfl rfl rfl (by decide) (by kernel_rfl)) (fun _ _ _ h => h) hm71 (fun w_ h_ => litRun (by kernel_rfl)) ?_
  refine mPut rfl (by decide) ?_
  refine mgTake (i := 7) (v := .bool true) rfl (by kernel_rfl) (wn rfl) (fun _ _ _ h => h) hm71 (fun w_ h_ => litRun (by kernel_rfl)) ?_
  refine mPut rfl (by decide) ?_
  refine mgTake (i := 8) (v := .bool true) rfl (by kernel_rfl) (wn rfl) (fun _ _ _ h => h) hm71 (fun w_ h_ => litRun (by kernel_rfl)) ?_
  refine mPut rfl (by decide) ?_
  refine mgTake (i := 9) (v := .agg (pcs ⟨3, 5, 1⟩).toArray) rfl (by kernel_rfl) (wgY rfl rfl rfl (by decide) (by kernel_rfl)) (fun _ _ _ h => h) hm71 (fun w_ h_ => gLoadAg (vs := pcs ⟨3, 5, 1⟩) (k := 0) 0 h_ rfl (by kernel_rfl) (by kernel_rfl) (.tmp 1) Ty.ag_voxel_api_Point rfl (litEv (by kernel_rfl))) ?_
  refine mPut rfl (by decide) ?_
  refine mgCall (i := 10) 32 [.int .i64 3, .int .i64 5, .int .i64 1] [] [] (by kernel_rfl) rfl (by kernel_rfl) (wgY rfl rfl rfl (by decide) (by kernel_rfl)) rfl (litEv rfl) (litArgs (by kernel_rfl)) (at_any 3 5 1 _) ?_
  rintro e w72 ⟨rfl, hbz⟩
  have hm73 := hm71.below hbz
  clear hbz hm71
  refine ⟨_, rfl, hm73, ?_⟩
  refine mPut rfl (by decide) ?_
  refine mgTake (i := 11) (v := .bool true) rfl (by kernel_rfl) (wgY rfl rfl rfl (by decide) (by kernel_rfl)) (fun _ _ _ h => h) hm73 (fun w_ h_ => boolTo (decide_eq_true rfl) (eqPtRun (.tmp 63) (.tmp 64) (⟨3, 5, 1⟩) (⟨3, 5, 1⟩) rfl (litEv (by kernel_rfl)) (litEv (by kernel_rfl)))) ?_
  refine mPut rfl (by decide) ?_
  refine mgTake (i := 12) (v := .bool true) rfl (by kernel_rfl) (wn rfl) (fun _ _ _ h => h) hm73 (fun w_ h_ => litRun (by kernel_rfl)) ?_
  refine mPut rfl (by decide) ?_
  refine mgTake (i := 13) (v := .bool true) rfl (by kernel_rfl) (wn rfl) (fun _ _ _ h => h) hm73 (fun w_ h_ => litRun (by kernel_rfl)) ?_
  refine mPut rfl (by decide) ?_
  refine mgTake (i := 14) (v := .bool true) rfl (by kernel_rfl) (wgY rfl rfl rfl (by decide) (by kernel_rfl)) (fun _ _ _ h => h) hm73 (fun w_ h_ => litRun (by kernel_rfl)) ?_
  refine mPut rfl (by decide) ?_
  refine mgTake (i := 15) (v := .bool true) rfl (by kernel_rfl) (wn rfl) (fun _ _ _ h => h) hm73 (fun w_ h_ => litRun (by kernel_rfl)) ?_
  refine mPut rfl (by decide) ?_
  refine mgTake (i := 16) (v := .bool true) rfl (by kernel_rfl) (wn rfl) (fun _ _ _ h => h) hm73 (fun w_ h_ => litRun (by kernel_rfl)) ?_
  refine mPut rfl (by decide) ?_
  refine mgTake (i := 17) (v := .agg (ccs ⟨p0, 3⟩).toArray) rfl (by kernel_rfl) (wgY rfl rfl rfl (by decide) (by kernel_rfl)) (fun _ _ _ h => h) hm73 (fun w_ h_ => gLoadAg (vs := ccs ⟨p0, 3⟩) (k := 0) 1 h_ rfl (by kernel_rfl) (by kernel_rfl) (.tmp 3) Ty.ag_voxel_api_Cube rfl (litEv (by kernel_rfl))) ?_
  refine mPut rfl (by decide) ?_
  refine mgTake (i := 18) (v := .agg ([.int .i64 0, .int .i64 0, .int .i64 0, .int .i64 3]).toArray) rfl (by kernel_rfl) (wgY rfl rfl rfl (by decide) (by kernel_rfl)) (fun _ _ _ h => h) hm73 (fun w_ h_ => litRun (by kernel_rfl)) ?_
  refine mPut rfl (by decide) ?_
  refine mgTake (i := 19) (v := .bool true) rfl (by kernel_rfl) (wgY rfl rfl rfl (by decide) (by kernel_rfl)) (fun _ _ _ h => h) hm73 (fun w_ h_ => boolTo (decide_eq_true rfl) (eqlCuRun (.tmp 71) (.tmp 72) ⟨p0, 3⟩ ⟨⟨0, 0, 0⟩, 3⟩ rfl (litEv (by kernel_rfl)) (litEv (by kernel_rfl)))) ?_
  refine mPut rfl (by decide) ?_
  refine mgTake (i := 20) (v := .bool true) rfl (by kernel_rfl) (wn rfl) (fun _ _ _ h => h) hm73 (fun w_ h_ => litRun (by kernel_rfl)) ?_
  refine mPut rfl (by decide) ?_
  refine mgTake (i := 21) (v := .bool true) rfl (by kernel_rfl) (wn rfl) (fun _ _ _ h => h) hm73 (fun w_ h_ => litRun (by kernel_rfl)) ?_
  refine mPut rfl (by decide) ?_
  refine mgTake (i := 22) (v := .bool true) rfl (by kernel_rfl) (wgY rfl rfl rfl (by decide) (by kernel_rfl)) (fun _ _ _ h => h) hm73 (fun w_ h_ => litRun (by kernel_rfl)) ?_
  refine mPut rfl (by decide) ?_
  refine mgTake (i := 23) (v := .bool true) rfl (by kernel_rfl) (wn rfl) (fun _ _ _ h => h) hm73 (fun w_ h_ => litRun (by kernel_rfl)) ?_
  refine mPut rfl (by decide) ?_
  refine mgTake (i := 24) (v := .bool true) rfl (by kernel_rfl) (wn rfl) (fun _ _ _ h => h) hm73 (fun w_ h_ => litRun (by kernel_rfl)) ?_
  refine mPut rfl (by decide) ?_
  refine mgTake (i := 25) (v := .int .i64 0) rfl (by kernel_rfl) (wgY rfl rfl rfl (by decide) (by kernel_rfl)) (fun _ _ _ h => h) hm73 (fun w_ h_ => litRun (by kernel_rfl)) ?_
  refine mPut rfl (by decide) ?_
  refine mgTake (i := 26) (v := .bool true) rfl (by kernel_rfl) (wgY rfl rfl rfl (by decide) (by kernel_rfl)) (fun _ _ _ h => h) hm73 (fun w_ h_ => litRun (by kernel_rfl)) ?_
  refine mPut rfl (by decide) ?_
  refine mgTake (i := 27) (v := .bool true) rfl (by kernel_rfl) (wn rfl) (fun _ _ _ h => h) hm73 (fun w_ h_ => litRun (by kernel_rfl)) ?_
  refine mPut rfl (by decide) ?_
  refine mgTake (i := 28) (v := .bool true) rfl (by kernel_rfl) (wn rfl) (fun _ _ _ h => h) hm73 (fun w_ h_ => litRun (by kernel_rfl)) ?_
  refine mPut rfl (by decide) ?_
  refine mgTake (i := 29) (v := .int .i64 0) rfl (by kernel_rfl) (wgY rfl rfl rfl (by decide) (by kernel_rfl)) (fun _ _ _ h => h) hm73 (fun w_ h_ => litRun (by kernel_rfl)) ?_
  refine mPut rfl (by decide) ?_
  refine mgTake (i := 30) (v := .bool true) rfl (by kernel_rfl) (wgY rfl rfl rfl (by decide) (by kernel_rfl)) (fun _ _ _ h => h) hm73 (fun w_ h_ => litRun (by kernel_rfl)) ?_
  refine mPut rfl (by decide) ?_
  refine mgTake (i := 31) (v := .bool true) rfl (by kernel_rfl) (wn rfl) (fun _ _ _ h => h) hm73 (fun w_ h_ => litRun (by kernel_rfl)) ?_
  refine mPut rfl (by decide) ?_
  refine mgTake (i := 32) (v := .bool true) rfl (by kernel_rfl) (wn rfl) (fun _ _ _ h => h) hm73 (fun w_ h_ => litRun (by kernel_rfl)) ?_
  refine mPut rfl (by decide) ?_
  refine mgDone (by kernel_rfl) ?_
  refine then_normal (hK61 _ _ ?_)
  refine wpPrune [(0, .bool false), (5, .pointer (some ⟨g25, 0, none⟩)), (10, .bool true), (11, .bool true)] ⟨litGet (by kernel_rfl), ⟨litGet (by kernel_rfl), ⟨litGet (by kernel_rfl), ⟨litGet (by kernel_rfl), trivial⟩⟩⟩⟩ (fun X74 => ?_)
  refine wp_seq_k fun K75 hK75 => ?_
  refine plStart ?_
  refine plCall (i := 0) 32 [.int .i64 1, .int .i64 0, .int .i64 0] [] [] rfl (by kernel_rfl) (wn rfl) rfl (litEv rfl) (litArgs (by kernel_rfl)) (at_any 1 0 0 _) ?_
  rintro e w76 ⟨rfl, hbz⟩
  have hm77 := hm73.below hbz
  clear hbz hm73
  refine ⟨_, rfl, ?_⟩
  refine qPut rfl (by decide) ?_
  refine plCall (i := 1) 32 [.int .i64 0, .int .i64 1, .int .i64 0] [] [] rfl (by kernel_rfl) (wn rfl) rfl (litEv rfl) (litArgs (by kernel_rfl)) (at_any 0 1 0 _) ?_
  rintro e w78 ⟨rfl, hbz⟩
  have hm79 := hm77.below hbz
  clear hbz hm77
  refine ⟨_, rfl, ?_⟩
  refine qPut rfl (by decide) ?_
  refine plCall (i := 2) 15 [.agg (pcs ⟨1, 0, 0⟩).toArray, .agg (pcs ⟨0, 1, 0⟩).toArray] [] [] rfl (by kernel_rfl) (wn rfl) rfl (litEv rfl) (litArgs (by kernel_rfl)) (by have h := compare_any ⟨1, 0, 0⟩ ⟨0, 1, 0⟩ w78; rw [san_cmp] at h; exact h) ?_
  rintro e w80 ⟨rfl, hbz⟩
  have hm81 := hm79.below hbz
  clear hbz hm79
  refine ⟨_, rfl, ?_⟩
  refine qPut rfl (by decide) ?_
  refine litVal (i := 3) (v := .bool true) rfl (wn rfl) (litRun (by kernel_rfl)) rfl (by decide) ?_
  refine litVal (i := 4) (v := .bool true) rfl (wn rfl) (litRun (by kernel_rfl)) rfl (by decide) ?_
  refine plCall (i := 5) 32 [.int .i64 3, .int .i64 5, .int .i64 1] [] [] rfl (by kernel_rfl) (wgY rfl rfl rfl (by decide) (by kernel_rfl)) rfl (litEv rfl) (litArgs (by kernel_rfl)) (at_any 3 5 1 _) ?_
  rintro e w82 ⟨rfl, hbz⟩
  have hm83 := hm81.below hbz
  clear hbz hm81
  refine ⟨_, rfl, ?_⟩
  refine qPut rfl (by decide) ?_
  refine plCall (i := 6) 17 [.agg (pcs ⟨3, 5, 1⟩).toArray, .int .i64 0] [] [] rfl (by kernel_rfl) (wgY rfl rfl rfl (by decide) (by kernel_rfl)) rfl (litEv rfl) (litArgs (by kernel_rfl)) (by have h := octant_any ⟨3, 5, 1⟩ 0 w82; rw [san_oct] at h; exact h) ?_
  rintro e w84 ⟨rfl, hbz⟩
  have hm85 := hm83.below hbz
  clear hbz hm83
  refine ⟨_, rfl, ?_⟩
  refine qPut rfl (by decide) ?_
  refine litVal (i := 7) (v := .bool true) rfl (wgY rfl rfl rfl (by decide) (by kernel_rfl)) (litRun (by kernel_rfl)) rfl (by decide) ?_
  refine litVal (i := 8) (v := .bool true) rfl (wn rfl) (litRun (by kernel_rfl)) rfl (by decide) ?_
  refine litVal (i := 9) (v := .bool true) rfl (wn rfl) (litRun (by kernel_rfl)) rfl (by decide) ?_
  refine plCall (i := 10) 32 [.int .i64 3, .int .i64 5, .int .i64 1] [] [] rfl (by kernel_rfl) (wgY rfl rfl rfl (by decide) (by kernel_rfl)) rfl (litEv rfl) (litArgs (by kernel_rfl)) (at_any 3 5 1 _) ?_
  rintro e w86 ⟨rfl, hbz⟩
  have hm87 := hm85.below hbz
  clear hbz hm85
  refine ⟨_, rfl, ?_⟩
  refine qPut rfl (by decide) ?_
  refine plCall (i := 11) 17 [.agg (pcs ⟨3, 5, 1⟩).toArray, .int .i64 2] [] [] rfl (by kernel_rfl) (wgY rfl rfl rfl (by decide) (by kernel_rfl)) rfl (litEv rfl) (litArgs (by kernel_rfl)) (by have h := octant_any ⟨3, 5, 1⟩ 2 w86; rw [san_oct2] at h; exact h) ?_
  rintro e w88 ⟨rfl, hbz⟩
  have hm89 := hm87.below hbz
  clear hbz hm87
  refine ⟨_, rfl, ?_⟩
  refine qPut rfl (by decide) ?_
  refine litVal (i := 12) (v := .bool true) rfl (wgY rfl rfl rfl (by decide) (by kernel_rfl)) (litRun (by kernel_rfl)) rfl (by decide) ?_
  refine litVal (i := 13) (v := .bool true) rfl (wn rfl) (litRun (by kernel_rfl)) rfl (by decide) ?_
  refine litVal (i := 14) (v := .bool true) rfl (wn rfl) (litRun (by kernel_rfl)) rfl (by decide) ?_
  refine plCall (i := 15) 19 [.int .i64 143, .int .i64 0, .bool true] [] [] rfl (by kernel_rfl) (wgY rfl rfl rfl (by decide) (by kernel_rfl)) rfl (litEv rfl) (litArgs (by kernel_rfl)) (by have h := neighbour_any 143 0 true w88; rw [san_nb] at h; exact h) ?_
  rintro e w90 ⟨rfl, hbz⟩
  have hm91 := hm89.below hbz
  clear hbz hm89
  refine ⟨_, rfl, ?_⟩
  refine qPut rfl (by decide) ?_
  refine litVal (i := 16) (v := .bool true) rfl (wgY rfl rfl rfl (by decide) (by kernel_rfl)) (litRun (by kernel_rfl)) rfl (by decide) ?_
  refine litVal (i := 17) (v := .bool true) rfl (wn rfl) (litRun (by kernel_rfl)) rfl (by decide) ?_
  refine litVal (i := 18) (v := .bool true) rfl (wn rfl) (litRun (by kernel_rfl)) rfl (by decide) ?_
  refine plCall (i := 19) 19 [.int .i64 0, .int .i64 2, .bool false] [] [] rfl (by kernel_rfl) (wgY rfl rfl rfl (by decide) (by kernel_rfl)) rfl (litEv rfl) (litArgs (by kernel_rfl)) (by have h := neighbour_any 0 2 false w90; rw [san_nb2] at h; exact h) ?_
  rintro e w92 ⟨rfl, hbz⟩
  have hm93 := hm91.below hbz
  clear hbz hm91
  refine ⟨_, rfl, ?_⟩
  refine qPut rfl (by decide) ?_
  refine litVal (i := 20) (v := .bool true) rfl (wgY rfl rfl rfl (by decide) (by kernel_rfl)) (litRun (by kernel_rfl)) rfl (by decide) ?_
  refine litVal (i := 21) (v := .bool true) rfl (wn rfl) (litRun (by kernel_rfl)) rfl (by decide) ?_
  refine litVal (i := 22) (v := .bool true) rfl (wn rfl) (litRun (by kernel_rfl)) rfl (by decide) ?_
  refine plDone (by decide) ?_
  refine then_normal (hK75 _ _ ?_)
  refine wpPrune [(0, .bool false), (5, .pointer (some ⟨g25, 0, none⟩)), (10, .bool true), (11, .bool true), (12, .bool true)] ⟨litGet (by kernel_rfl), ⟨litGet (by kernel_rfl), ⟨litGet (by kernel_rfl), ⟨litGet (by kernel_rfl), ⟨litGet (by kernel_rfl), trivial⟩⟩⟩⟩⟩ (fun X94 => ?_)
  refine wp_seq_k fun K95 hK95 => ?_
  refine plStart ?_
  refine litVal (i := 0) (v := .bool true) rfl (wn rfl) (litRun (by kernel_rfl)) rfl (by decide) ?_
  refine litVal (i := 1) (v := .bool true) rfl (wn rfl) (litRun (by kernel_rfl)) rfl (by decide) ?_
  refine litVal (i := 2) (v := .bool true) rfl (wgY rfl rfl rfl (by decide) (by kernel_rfl)) (litRun (by kernel_rfl)) rfl (by decide) ?_
  refine litVal (i := 3) (v := .bool true) rfl (wn rfl) (litRun (by kernel_rfl)) rfl (by decide) ?_
  refine litVal (i := 4) (v := .bool true) rfl (wn rfl) (litRun (by kernel_rfl)) rfl (by decide) ?_
  refine litVal (i := 5) (v := .bool true) rfl (wgY rfl rfl rfl (by decide) (by kernel_rfl)) (litRun (by kernel_rfl)) rfl (by decide) ?_
  refine litVal (i := 6) (v := .bool true) rfl (wn rfl) (litRun (by kernel_rfl)) rfl (by decide) ?_
  refine litVal (i := 7) (v := .bool true) rfl (wn rfl) (litRun (by kernel_rfl)) rfl (by decide) ?_
  refine litVal (i := 8) (v := .agg ([.int .i64 0, .int .i64 0, .int .i64 0, .int .i64 2, .int .i64 2, .int .i64 3]).toArray) rfl (wgY rfl rfl rfl (by decide) (by kernel_rfl)) (gLoadAg (vs := [.int .i64 0, .int .i64 0, .int .i64 0, .int .i64 2, .int .i64 2, .int .i64 3]) (k := 0) 2 hm93 rfl (by kernel_rfl) (by kernel_rfl) (.tmp 5) Ty.ag_voxel_api_Box rfl (litEv (by kernel_rfl))) rfl (by decide) ?_
  refine plCall (i := 9) 28 [.agg ([.int .i64 0, .int .i64 0, .int .i64 0, .int .i64 2, .int .i64 2, .int .i64 3]).toArray, .int .i64 9] [] [] rfl (by kernel_rfl) (wgY rfl rfl rfl (by decide) (by kernel_rfl)) rfl (litEv rfl) (litArgs (by kernel_rfl)) (by have h := next_any B0 9 w92; rw [san_next] at h; exact h) ?_
  rintro e w96 ⟨rfl, hbz⟩
  have hm97 := hm93.below hbz
  clear hbz hm93
  refine ⟨_, rfl, ?_⟩
  refine qPut rfl (by decide) ?_
  refine litVal (i := 10) (v := .bool true) rfl (wgY rfl rfl rfl (by decide) (by kernel_rfl)) (litRun (by kernel_rfl)) rfl (by decide) ?_
  refine litVal (i := 11) (v := .bool true) rfl (wn rfl) (litRun (by kernel_rfl)) rfl (by decide) ?_
  refine litVal (i := 12) (v := .bool true) rfl (wn rfl) (litRun (by kernel_rfl)) rfl (by decide) ?_
  refine litVal (i := 13) (v := .agg ([.int .i64 0, .int .i64 0, .int .i64 0, .int .i64 2, .int .i64 2, .int .i64 3]).toArray) rfl (wgY rfl rfl rfl (by decide) (by kernel_rfl)) (gLoadAg (vs := [.int .i64 0, .int .i64 0, .int .i64 0, .int .i64 2, .int .i64 2, .int .i64 3]) (k := 0) 2 hm97 rfl (by kernel_rfl) (by kernel_rfl) (.tmp 5) Ty.ag_voxel_api_Box rfl (litEv (by kernel_rfl))) rfl (by decide) ?_
  refine plCall (i := 14) 28 [.agg ([.int .i64 0, .int .i64 0, .int .i64 0, .int .i64 2, .int .i64 2, .int .i64 3]).toArray, .int .i64 36] [] [] rfl (by kernel_rfl) (wgY rfl rfl rfl (by decide) (by kernel_rfl)) rfl (litEv rfl) (litArgs (by kernel_rfl)) (by have h := next_any B0 36 w96; rw [san_next2] at h; exact h) ?_
  rintro e w98 ⟨rfl, hbz⟩
  have hm99 := hm97.below hbz
  clear hbz hm97
  refine ⟨_, rfl, ?_⟩
  refine qPut rfl (by decide) ?_
  refine litVal (i := 15) (v := .bool true) rfl (wgY rfl rfl rfl (by decide) (by kernel_rfl)) (litRun (by kernel_rfl)) rfl (by decide) ?_
  refine litVal (i := 16) (v := .bool true) rfl (wn rfl) (litRun (by kernel_rfl)) rfl (by decide) ?_
  refine litVal (i := 17) (v := .bool true) rfl (wn rfl) (litRun (by kernel_rfl)) rfl (by decide) ?_
  refine litVal (i := 18) (v := .bool true) rfl (wn rfl) (litRun (by kernel_rfl)) rfl (by decide) ?_
  refine litVal (i := 19) (v := .bool true) rfl (wn rfl) (litRun (by kernel_rfl)) rfl (by decide) ?_
  refine litVal (i := 20) (v := .bool true) rfl (wn rfl) (litRun (by kernel_rfl)) rfl (by decide) ?_
  refine litVal (i := 21) (v := .bool true) rfl (wn rfl) (litRun (by kernel_rfl)) rfl (by decide) ?_
  refine plDone (by decide) ?_
  refine then_normal (hK95 _ _ ?_)
  refine wpPrune [(0, .bool true)] ⟨litGet (by kernel_rfl), trivial⟩ (fun X100 => ?_)
  refine wp_ret ?_
  refine bodyPost_ret (v := .bool true) (gRes1 rfl (gResTmp (t := 0) (v := .bool true) (litGet (by kernel_rfl)))) rfl ?_
  exact ⟨by first | rfl | simp_all, hm99.bel⟩
end Go.Proofs.Ytkfijpghjjnpkaa
/-
  From an argument of a struct or array type to its leaves: each leaf reads as data of its own. No statement is proved here.
-/
namespace Go.Proofs.Ytkfijpghjjnpkaa
open Go.RowKit Go.ChangeShapes Go.WideShapes

def joinAll {α β : Type} (f : α → Option (List β)) : List α → Option (List β)
  | [] => some []
  | a :: l => match f a, joinAll f l with
    | some x, some y => some (x ++ y)
    | _, _ => none
theorem joinAll_mem {α β : Type} {f : α → Option (List β)} {p : β} : ∀ {l : List α} {r : List β}, joinAll f l = some r → p ∈ r → ∃ (i : Nat) (a : α) (s : List β), l[i]? = some a ∧ f a = some s ∧ p ∈ s
  | [], r, h, hp => by
    simp only [joinAll, Option.some.injEq] at h
    subst h
    cases hp
  | a :: l, r, h, hp => by
    unfold joinAll at h
    split at h
    · rename_i x y hx hy
      injection h with h
      subst h
      rcases List.mem_append.1 hp with hp | hp
      · exact ⟨0, a, x, rfl, hx, hp⟩
      · obtain ⟨i, b, s, h1, h2, h3⟩ := joinAll_mem hy hp
        exact ⟨i + 1, b, s, h1, h2, h3⟩
    · cases h
/-- Where the leaves of a type lie, with their types. -/
def leaves (P : Program) : Nat → TypeId → Option (List (Nat × TypeId))
  | 0, _ => none
  | m + 1, t => match P.underlying t with
    | some (.struct fs) => joinAll (fun f => match leaves P m f.type with
        | some s => if (decide (f.offset + P.cellsOf f.type ≤ P.cellsOf t) && s.all fun p => decide (p.1 + P.cellsOf p.2 ≤ P.cellsOf f.type)) = true then some (s.map fun p => (f.offset + p.1, p.2)) else none
        | none => none) fs.toList
    | some (.array n e) => match leaves P m e with
      | some s => if (decide (n * P.cellsOf e ≤ P.cellsOf t) && s.all fun p => decide (p.1 + P.cellsOf p.2 ≤ P.cellsOf e)) = true then some ((List.range n).flatMap fun i => s.map fun p => (i * P.cellsOf e + p.1, p.2)) else none
      | none => none
    | _ => some [(0, t)]
section
variable {H : Type} {enc : TypeId × Value → H} {P : Program} {w : World} {base : Nat} {held : Bool} {spare : Nat → Bool}
theorem drop_take_drop_take {α : Type} (l : List α) (a b c d : Nat) (h : c + d ≤ b) : (((l.drop a).take b).drop c).take d = (l.drop (a + c)).take d := by
  rw [List.drop_take, List.take_take, List.drop_drop, Nat.min_eq_left (by omega)]
theorem br_leaves : ∀ (m : Nat) (t : TypeId) (ls : List (Nat × TypeId)), leaves P m t = some ls → ∀ (fuel : Nat) (cs : List Value) (x : DataW H × List MemPlace), cs.length = P.cellsOf t → DataW.trod enc P w base spare held fuel t cs = some x →
    ∀ p ∈ ls, ∃ fuel' y, DataW.trod enc P w base spare held fuel' p.2 ((cs.drop p.1).take (P.cellsOf p.2)) = some y
  | 0, _, _, h => by simp [leaves] at h
  | m + 1, t, ls, h => by
    intro fuel cs x hl hx p hp
    unfold leaves at h
    split at h
    · rename_i fs hu
      obtain ⟨xs, n, rfl, _, _, hlen, hf⟩ := DataW.trod_struct hu hx
      obtain ⟨i, f, s, h1, h2, h3⟩ := joinAll_mem h hp
      split at h2
      · rename_i s' hs'
        split at h2
        · rename_i hall
          injection h2 with h2
          subst h2
          rw [Bool.and_eq_true, decide_eq_true_eq] at hall
          obtain ⟨q, hq, rfl⟩ := List.mem_map.1 h3
          have hle := of_decide_eq_true (List.all_eq_true.1 hall.2 q hq)
          have hfx := hf i f (by rw [← h1]; simp)
          have hix : i < xs.length := by
            have := (List.getElem?_eq_some_iff.1 h1).1
            rw [hlen]; simpa using this
          rw [List.getElem?_eq_getElem hix] at hfx
          obtain ⟨f', y, hy⟩ := br_leaves m _ s' hs' _ _ _ (by rw [List.length_take, List.length_drop]; omega) hfx q hq
          rw [drop_take_drop_take _ _ _ _ _ hle] at hy
          exact ⟨f', y, hy⟩
        · cases h2
      · cases h2
    · rename_i n e hu
      obtain ⟨xs, m', rfl, _, _, hlen, hf⟩ := DataW.trod_array hu hx
      split at h
      · rename_i s' hs'
        split at h
        · rename_i hall
          injection h with h
          subst h
          rw [Bool.and_eq_true, decide_eq_true_eq] at hall
          obtain ⟨i, hi, h3⟩ := List.mem_flatMap.1 hp
          obtain ⟨q, hq, rfl⟩ := List.mem_map.1 h3
          rw [List.mem_range] at hi
          have hle := of_decide_eq_true (List.all_eq_true.1 hall.2 q hq)
          have hfx := hf i hi
          have hix : i < xs.length := by omega
          rw [List.getElem?_eq_getElem hix] at hfx
          have hmul : (i + 1) * P.cellsOf e ≤ n * P.cellsOf e := Nat.mul_le_mul_right _ hi
          rw [Nat.add_mul, Nat.one_mul] at hmul
          obtain ⟨f', y, hy⟩ := br_leaves m _ s' hs' _ _ _ (by rw [List.length_take, List.length_drop]; omega) hfx q hq
          rw [drop_take_drop_take _ _ _ _ _ hle] at hy
          exact ⟨f', y, hy⟩
        · cases h
      · cases h
    · injection h with h
      subst h
      rw [List.mem_singleton] at hp
      subst hp
      exact ⟨fuel, x, by rw [List.drop_zero, ← hl, List.take_length]; exact hx⟩
/-- An argument of a struct type by value: its cells, and what each leaf reads as. -/
theorem br_flat {t : TypeId} {m n : Nat} {ls : List (Nat × TypeId)} (hls : leaves P m t = some ls) (hct : P.cellsOf t = n) (hu : ((P.underlying t).map fun d => match d with | .struct _ | .array _ _ => true | _ => false) = some true)
    {W : World} {r : Reach} {b0 : Nat} {v : Value} {d : DataW H} {pl : List MemPlace}
    (hval : Value.okWide P W r b0 t v) (h : DataW.Trod enc P w base (fun _ => true) held t v d pl) : ∃ cs : List Value, v = .agg cs.toArray ∧ cs.length = n ∧ ∀ p ∈ ls, ∃ fuel' y, DataW.trod enc P w base (fun _ => true) held fuel' p.2 ((cs.drop p.1).take (P.cellsOf p.2)) = some y := by
  obtain ⟨ud, hud, h2⟩ := Option.map_eq_some_iff.1 hu
  have hcs : (∃ fs, ud = .struct fs) ∨ ∃ n e, ud = .array n e := by cases ud <;> simp_all
  obtain ⟨cs, rfl⟩ : ∃ cs : Array Value, v = .agg cs := by
    rcases hcs with ⟨fs, rfl⟩ | ⟨n', e, rfl⟩
    · simp only [Value.okWide, hud] at hval
      obtain ⟨cs, rfl, _⟩ := hval
      exact ⟨cs, rfl⟩
    · simp only [Value.okWide, hud] at hval
      obtain ⟨cs, rfl, _⟩ := hval
      exact ⟨cs, rfl⟩
  obtain ⟨fuel, hf⟩ := h
  have hf : DataW.trod enc P w base (fun _ => true) held fuel t cs.toList = some (d, pl) := hf
  have hl : cs.toList.length = P.cellsOf t := by
    rcases hcs with ⟨fs, rfl⟩ | ⟨n', e, rfl⟩
    · obtain ⟨_, _, _, _, h5, _⟩ := DataW.trod_struct hud hf
      exact h5
    · obtain ⟨_, _, _, _, h5, _⟩ := DataW.trod_array hud hf
      exact h5
  exact ⟨cs.toList, by simp, by rw [hl, hct], br_leaves m t ls hls fuel cs.toList _ hl hf⟩
/-- A leaf that is an integer. -/
theorem leaf_int {cs : List Value} {ls : List (Nat × TypeId)} (h : ∀ p ∈ ls, ∃ fuel' y, DataW.trod enc P w base spare held fuel' p.2 ((cs.drop p.1).take (P.cellsOf p.2)) = some y) {o : Nat} {t : TypeId} {k : IntKind} (hp : ls.contains (o, t) = true) (ht : P.underlying t = some (.int k)) (hc : P.cellsOf t = 1) :
    ∃ z, cs[o]? = some (.int k z) ∧ (Lit.int k z).wf = true := by
  obtain ⟨f, y, hy⟩ := h (o, t) (by simpa using hp)
  simp only [hc] at hy
  obtain ⟨z, hz, _, hw⟩ := DataW.trod_int ht hy
  refine ⟨z, ?_, hw⟩
  have h2 : ((cs.drop o).take 1)[0]? = some (.int k z) := by rw [hz]; rfl
  rw [List.getElem?_take, if_pos (by omega), List.getElem?_drop, Nat.add_zero] at h2
  exact h2
end
theorem eq3 {cs : List Value} {a b c : Value} (hl : cs.length = 3) (h0 : cs[0]? = some a) (h1 : cs[1]? = some b) (h2 : cs[2]? = some c) : cs = [a, b, c] := by
  match cs, hl with
  | [x, y, z], _ => simp_all
theorem eq6 {cs : List Value} {a b c d e f : Value} (hl : cs.length = 6) (h0 : cs[0]? = some a) (h1 : cs[1]? = some b) (h2 : cs[2]? = some c) (h3 : cs[3]? = some d) (h4 : cs[4]? = some e) (h5 : cs[5]? = some f) : cs = [a, b, c, d, e, f] := by
  match cs, hl with
  | [x, y, z, u, v, w], _ => simp_all
end Go.Proofs.Ytkfijpghjjnpkaa
