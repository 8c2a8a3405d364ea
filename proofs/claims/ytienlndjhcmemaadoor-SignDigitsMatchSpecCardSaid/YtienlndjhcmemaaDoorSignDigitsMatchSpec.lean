/-
  SignDigitsMatchSpec answers true, for any digest, height and index.
-/
import Derived.Test.YtienlndjhcmemaaDoorMH
namespace Go.Proofs.YtienlndjhcmemaaDoor
open Go.RowKit
set_option linter.unusedVariables false

set_option maxRecDepth 100000 in
set_option maxHeartbeats 2000000 in
theorem walk_SignDigitsMatchSpec (d : List UInt8) (h i : Int) (w : World) (ht : Tabs w) (hd : d.length = 16) (_hh : -9223372036854775808 ≤ h ∧ h ≤ 9223372036854775807) (_hi : -9223372036854775808 ≤ i ∧ i ≤ 9223372036854775807) :
    Calls Tryd.prog 3 #[.agg (bcs d).toArray, .int .i64 h, .int .i64 i] w (RetB w true) := by
  have HSAN := Lib.hid (fun w' (h : Tabs w') => sanity_any w' h)
  have HDB := Lib.hid (show (bcs d).length = 16 by rw [bcs_length]; exact hd)
  have HDIG := Lib.hid (fun w' => digits_any d w' hd)
  have HRD := Lib.hid (fun w' => refDigits_any d w' hd)
  have HD35 := Lib.hid (show ((digitsD d).map fun x : Nat => (x : Int)).length = 35 by rw [List.length_map]; exact digitsD_len hd)
  have HDL := Lib.hid (show (ivs (digitsD d)).length = 35 by rw [ivs_len]; exact digitsD_len hd)
  have HDG := Lib.hid (fun j (hj : j < 35) => digits_get d hd j hj)
  rw [ivs_eq] at HDIG HRD HDL HDG
  have HDL1 := HDL
  generalize hD : (digitsD d).map (fun x : Nat => (x : Int)) = D at *
  clear hD
  have hg : w.heap.size ≤ w.heap.size := Nat.le_refl _
  go_enter Tryd.func3, Tryd.ntmps3
  go_wp2_with (with_reducible refine bxArr (cs := bcs d) (.tmp 0) (wn rfl) rfl rfl ?_)
  intro w1 h3 hb
  have l3 := h3.lt
  go_wp2_with fail
  have hc := HSAN.out w1 (ht.below hb ht.size)
  refine hc.mono ?_
  rintro e w2 ⟨rfl, b2⟩
  replace h3 := h3.below b2 h3.lt
  replace hb := hb.trans (b2.mono hb.size)
  clear b2 hc HSAN
  go_wp2_with (with_reducible refine ldArr (.tmp 3) Tryd.ag_b16 (wn rfl) rfl rfl HDB.out h3 ?_)
  refine (HDIG.out w2).mono ?_
  rintro e w3 ⟨rfl, b3⟩
  replace h3 := h3.below b3 h3.lt
  replace hb := hb.trans (b3.mono hb.size)
  clear b3 HDIG
  go_wp2_with (with_reducible refine alArr (z := zerosI 35) Tryd.ag_i35 (wn rfl) rfl ?_)
  intro w4 h8 b4
  have l8 : w.heap.size ≤ w3.heap.size := hb.size
  have n3 := h3.lt
  replace h3 := h3.below b4 n3
  replace hb := hb.trans (b4.mono hb.size)
  clear b4
  generalize w3.heap.size = g8 at *
  go_wp2_with (with_reducible refine stArr (cs := D.map (Value.int .i64)) (.tmp 8) (.tmp 12) Tryd.ag_i35 (wn rfl) rfl rfl rfl h8 (zerosI_len _) HDL.out (ints_one _) ?_)
  intro w5 h8 hkeep hbel
  replace h3 := hkeep _ _ _ (by omega) h3
  replace hb := hb.trans (hbel _ l8)
  clear hkeep hbel l8
  go_wp2_with fail
  go_loop [9] (fun v9 => ∃ j : Nat, j ≤ 35 ∧ v9 = .int .i64 j) (fun v9 => 35 - (intOf v9).toNat)
  case atStart => exact ⟨0, by omega, rfl⟩
  case round =>
    obtain ⟨j, hj, rfl⟩ := hrel
    by_cases hlt : j < 35
    · have hcell := h8.cell (HDG.out j hlt)
      have hda := digAt_le d j
      generalize digAt d j = da at *
      go_wp2_with fail
      go_round
      case rel => exact ⟨j + 1, by omega, by go_num⟩
      case measure => (simp [intOf]; try omega)
    · obtain rfl : j = 35 := by omega
      clear hlt
      go_wp2_with fail
      refine rgStart (fun w' => Below w5.heap.size w5 w') (by kernel_rfl) ?_
      have hq : Below w5.heap.size w5 w5.drew := (Below.refl _ _).drew
      generalize w5.drew = wq at *
      refine rgTake (S := fun w' => Below w5.heap.size w5 w') (i := 0) (v := .bool true) rfl (by kernel_rfl) (by kernel_rfl) (fun _ _ _ h => h) (fun w _ => by kernel_rfl) hq ?_
      refine rgTake (S := fun w' => Below w5.heap.size w5 w') (i := 1) (v := .bool true) rfl (by kernel_rfl) (by kernel_rfl) (fun _ _ _ h => h) (fun w _ => by kernel_rfl) hq ?_
      refine rgLoad (S := fun w' => Below w5.heap.size w5 w') (i := 2) (b := g8) (off := 0) (.tmp 8) (D.map (Value.int .i64)) Tryd.ag_i35 rfl (by kernel_rfl) (by kernel_rfl) (fun _ _ _ h => h) rfl (by kernel_rfl) HDL.out (fun w' h j u hu => by rw [Nat.zero_add]; exact (h8.below h h8.lt).cell hu) hq ?_
      refine rgLoad (S := fun w' => Below w5.heap.size w5 w') (i := 3) (b := w.heap.size) (off := 0) (.tmp 3) (bcs d) Tryd.ag_b16 rfl (by kernel_rfl) (by kernel_rfl) (fun _ _ _ h => h) rfl (by kernel_rfl) HDB.out (fun w' h j u hu => by rw [Nat.zero_add]; exact (h3.below h h3.lt).cell hu) hq ?_
      refine rgNext (S := fun w' => Below w5.heap.size w5 w') (i := 4) (by kernel_rfl) rfl ?_
      simp only [Act.put, List.setIfInBounds_toArray, List.set_cons_succ, List.set_cons_zero]
      refine callOp 11 [.agg (bcs d).toArray] [] [] (by kernel_rfl) (by kernel_rfl) rfl (by kernel_rfl) (by kernel_rfl) ?_
      refine (HRD.out wq).mono ?_
      rintro e wq1 ⟨rfl, hbq⟩
      refine ⟨_, rfl, ?_⟩
      replace hq := hq.trans (hbq.mono hq.size)
      clear hbq
      refine rgBack hq ?_
      refine rgNext (S := fun w' => Below w5.heap.size w5 w') (i := 5) (by kernel_rfl) rfl ?_
      refine eqInts (.tmp 29) (.tmp 31) D D true Tryd.arr_i35 Tryd.und_int Tryd.one_int (by kernel_rfl) (by kernel_rfl) rfl (by kernel_rfl) (by kernel_rfl) HD35.out HD35.out (by rw [beq_self_eq_true]) ?_
      refine rgBack hq ?_
      refine rgTake (S := fun w' => Below w5.heap.size w5 w') (i := 6) (v := .bool true) rfl (by kernel_rfl) (by kernel_rfl) (fun _ _ _ h => h) (fun w _ => by kernel_rfl) hq ?_
      refine rgTake (S := fun w' => Below w5.heap.size w5 w') (i := 7) (v := .bool true) rfl (by kernel_rfl) (by kernel_rfl) (fun _ _ _ h => h) (fun w _ => by kernel_rfl) hq ?_
      refine rgTake (S := fun w' => Below w5.heap.size w5 w') (i := 8) (v := .int .i64 h) rfl (by kernel_rfl) (by kernel_rfl) (fun _ _ _ h => h) (fun w _ => by kernel_rfl) hq ?_
      refine rgTake (S := fun w' => Below w5.heap.size w5 w') (i := 10) (v := .int .i64 h) rfl (by kernel_rfl) (by kernel_rfl) (fun _ _ _ h => h) (fun w _ => by kernel_rfl) hq ?_
      refine rgNext (S := fun w' => Below w5.heap.size w5 w') (i := 9) (by kernel_rfl) rfl ?_
      simp only [Act.put, List.setIfInBounds_toArray, List.set_cons_succ, List.set_cons_zero]
      refine callOp 12 [.int .i64 h] [] [] (by kernel_rfl) (by kernel_rfl) rfl (by kernel_rfl) (by kernel_rfl) ?_
      refine (count_any h _).mono ?_
      rintro e wq2 ⟨rfl, hbq⟩
      refine ⟨_, rfl, ?_⟩
      replace hq := hq.trans (hbq.mono hq.size)
      clear hbq
      refine rgBack hq ?_
      refine rgNext (S := fun w' => Below w5.heap.size w5 w') (i := 11) (by kernel_rfl) rfl ?_
      simp only [Act.put, List.setIfInBounds_toArray, List.set_cons_succ, List.set_cons_zero]
      refine callOp 13 [.int .i64 h] [] [] (by kernel_rfl) (by kernel_rfl) rfl (by kernel_rfl) (by kernel_rfl) ?_
      refine (refCount_any h _).mono ?_
      rintro e w' ⟨rfl, rfl⟩
      refine ⟨_, rfl, ?_⟩
      refine rgBack hq ?_
      refine rgTake (S := fun w' => Below w5.heap.size w5 w') (i := 12) (v := .bool true) rfl (by kernel_rfl) (by kernel_rfl) (fun _ _ _ h => h) (fun w _ => eqIntRun (k := .i64) (A := (countD h : Int)) (.tmp 36) (.tmp 38) rfl (by kernel_rfl) (by kernel_rfl)) hq ?_
      refine rgTake (S := fun w' => Below w5.heap.size w5 w') (i := 13) (v := .bool true) rfl (by kernel_rfl) (by kernel_rfl) (fun _ _ _ h => h) (fun w _ => by kernel_rfl) hq ?_
      refine rgTake (S := fun w' => Below w5.heap.size w5 w') (i := 14) (v := .bool true) rfl (by kernel_rfl) (by kernel_rfl) (fun _ _ _ h => h) (fun w _ => by kernel_rfl) hq ?_
      refine rgTake (S := fun w' => Below w5.heap.size w5 w') (i := 15) (v := .int .i64 h) rfl (by kernel_rfl) (by kernel_rfl) (fun _ _ _ h => h) (fun w _ => by kernel_rfl) hq ?_
      refine rgTake (S := fun w' => Below w5.heap.size w5 w') (i := 16) (v := .int .i64 i) rfl (by kernel_rfl) (by kernel_rfl) (fun _ _ _ h => h) (fun w _ => by kernel_rfl) hq ?_
      refine rgTake (S := fun w' => Below w5.heap.size w5 w') (i := 18) (v := .int .i64 h) rfl (by kernel_rfl) (by kernel_rfl) (fun _ _ _ h => h) (fun w _ => by kernel_rfl) hq ?_
      refine rgTake (S := fun w' => Below w5.heap.size w5 w') (i := 19) (v := .int .i64 i) rfl (by kernel_rfl) (by kernel_rfl) (fun _ _ _ h => h) (fun w _ => by kernel_rfl) hq ?_
      refine rgNext (S := fun w' => Below w5.heap.size w5 w') (i := 17) (by kernel_rfl) rfl ?_
      simp only [Act.put, List.setIfInBounds_toArray, List.set_cons_succ, List.set_cons_zero]
      refine callOp 14 [.int .i64 h, .int .i64 i] [] [] (by kernel_rfl) (by kernel_rfl) rfl (by kernel_rfl) (by kernel_rfl) ?_
      refine (size_any h i _).mono ?_
      rintro e wq4 ⟨rfl, hbq⟩
      refine ⟨_, rfl, ?_⟩
      replace hq := hq.trans (hbq.mono hq.size)
      clear hbq
      refine rgBack hq ?_
      refine rgNext (S := fun w' => Below w5.heap.size w5 w') (i := 20) (by kernel_rfl) rfl ?_
      simp only [Act.put, List.setIfInBounds_toArray, List.set_cons_succ, List.set_cons_zero]
      refine callOp 15 [.int .i64 h, .int .i64 i] [] [] (by kernel_rfl) (by kernel_rfl) rfl (by kernel_rfl) (by kernel_rfl) ?_
      refine (refSize_any h i _).mono ?_
      rintro e wq5 ⟨rfl, hbq⟩
      refine ⟨_, rfl, ?_⟩
      replace hq := hq.trans (hbq.mono hq.size)
      clear hbq
      refine rgBack hq ?_
      refine rgTake (S := fun w' => Below w5.heap.size w5 w') (i := 21) (v := .bool true) rfl (by kernel_rfl) (by kernel_rfl) (fun _ _ _ h => h) (fun w _ => eqIntRun (k := .i64) (A := (sizeD h i : Int)) (.tmp 44) (.tmp 47) rfl (by kernel_rfl) (by kernel_rfl)) hq ?_
      refine rgTake (S := fun w' => Below w5.heap.size w5 w') (i := 22) (v := .bool true) rfl (by kernel_rfl) (by kernel_rfl) (fun _ _ _ h => h) (fun w _ => by kernel_rfl) hq ?_
      refine rgTake (S := fun w' => Below w5.heap.size w5 w') (i := 23) (v := .bool true) rfl (by kernel_rfl) (by kernel_rfl) (fun _ _ _ h => h) (fun w _ => by kernel_rfl) hq ?_
      refine rgDone (by kernel_rfl) ?_
      simp only [Act.put, List.setIfInBounds_toArray, List.set_cons_succ, List.set_cons_zero]
      go_wp2_with fail
      go_ret
      exact ⟨rfl, hb.trans (hq.mono hb.size)⟩
end Go.Proofs.YtienlndjhcmemaaDoor

