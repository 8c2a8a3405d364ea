/-
  WireLengths answers true, for any two integers.
-/
import Derived.Test.YtelphmfdpnmncaaSanity
import Derived.Test.YtelphmfdpnmncaaFull
import Derived.Test.YtelphmfdpnmncaaWireMath
import Derived.Deep.Cut
import Derived.Deep.RegionWith
import Derived.Test.YtelphmfdpnmncaaSliceEq
import Derived.Test.YtelphmfdpnmncaaReg2
namespace Go.Proofs.Ytelphmfdpnmncaa
open Go.RowKit

set_option maxRecDepth 100000 in
set_option maxHeartbeats 4000000 in
theorem walk_WireLengths (m n : Int) (w0 : World) (hm : -9223372036854775808 ≤ m ∧ m ≤ 9223372036854775807) (hn : -9223372036854775808 ≤ n ∧ n ≤ 9223372036854775807) :
    Calls Try.prog 5 #[.int .i64 m, .int .i64 n] w0 (RetB w0 true) := by
  have hb0 : Below w0.heap.size w0 w0 := Below.refl _ _
  have hlt0 : w0.heap.size ≤ w0.heap.size := Nat.le_refl _
  have h1 := enc_len m
  have h2 := enc_pos m
  have h3 := enc_len n
  have h4 := enc_pos n
  have hfm : (if m < -1 - m then -1 - m else m) = far m := by unfold far; split <;> omega
  have hfn : (if n < -1 - n then -1 - n else n) = far n := by unfold far; split <;> omega
  go_enter Try.func5, Try.ntmps5
  go_wp2_with fail
  refine (int_any m _ hm.1 hm.2).mono ?_
  rintro e w1 hret
  obtain ⟨A1, c1, rfl, _, hx, hst⟩ := hret.open
  have hb1 := below_call0 hb0 hst
  clear hret
  have hlt1 : w1.heap.size ≤ w1.heap.size := Nat.le_refl _
  clear hst hb0
  clear hlt0
  go_wp2_with fail
  refine (int_any n _ hn.1 hn.2).mono ?_
  rintro e w2 hret
  obtain ⟨A2, c2, rfl, _, hy, hst⟩ := hret.open
  have hb2 := below_call0 hb1 hst
  clear hret
  have hx := hx.below (hst.mono hlt1)
  have hlt1 := Nat.le_trans hlt1 hst.size
  have hlt2 : w2.heap.size ≤ w2.heap.size := Nat.le_refl _
  clear hst hb1
  have hsl := enc_same_len m
  have hpre0 := enc_prefix (m := m) (n := n) ⟨hm.1, by omega⟩ ⟨hn.1, by omega⟩
  have l1 := fun h => enc_len_le m n h
  have l2 := fun h => enc_len_le n m h
  have l3 := enc_one m
  have e1 : (((enc m).length : Int) == 0) = false := by rw [beq_eq_false_iff_ne]; omega
  have e2 : (((enc n).length : Int) == 0) = false := by rw [beq_eq_false_iff_ne]; omega
  generalize hEa : (enc m).length = a at *
  generalize hEb : (enc n).length = b at *
  generalize hFm : far m = fm at *
  generalize hFn : far n = fn at *
  have L1 := Lib.hid l1
  have L2 := Lib.hid l2
  have L3 := Lib.hid l3
  have hpK : ∀ K : Nat, K = min a b → ((enc m).take K == (enc n).take K) = (m == n) := fun K hK => by subst hK; rw [Bool.eq_iff_iff, beq_iff_eq, beq_iff_eq]; exact hpre0
  have HP := Lib.hid hpK
  clear hpK hpre0
  have hwr : IntKind.i64.wrap (-1 - m) = -1 - m := IntWalk.i64_in _ (by omega)
  have HEa := Lib.hid hEa
  have HEb := Lib.hid hEb
  have HSL := Lib.hid hsl
  have HFm := Lib.hid hFm
  have HFn := Lib.hid hFn
  clear l1 l2 l3 hEa hEb hsl hFm hFn
  go_upto_region 3 with (fail)
  clear hfm hfn
  have hle : fm ≤ fn → a ≤ b := fun h => by have := L1.out h; omega
  have hge : fn ≤ fm → b ≤ a := fun h => by have := L2.out h; omega
  have hone : fm < 64 → a ≤ 1 := fun h => by have := L3.out.2 h; omega
  have hmany : ¬ fm < 64 → a ≠ 1 := fun h e => h (L3.out.1 (by omega))
  by_cases hd : fm < 64
  · have hd1 := hone hd
    have q1 : ((a : Int) == 1) = true := by rw [beq_iff_eq]; omega
    clear hone hmany
    rcases Int.lt_trichotomy fm fn with hc | hc | hc
    · have hc1 := hle (by omega)
      clear hle hge
      go_upto_region 6 with (fail)
      obtain ⟨A3, hxc, hs1⟩ := sliceH_eq Try.sl_u8 hx (V := a) (by omega)
      obtain ⟨A4, hyc, hs2⟩ := sliceH_eq Try.sl_u8 hy (V := a) (by omega)
      rw [Nat.mul_one, take_bcs] at hxc hyc
      have hpre := HP.out a (by omega)
      clear e1 e2 q1
      have hxs : ∀ w' : World, Below w2.heap.size w2 w' → Rd w' w1.heap.size 1 A3 _ c1 _ := fun w' h => hxc.below (h.mono hlt1)
      have hys : ∀ w' : World, Below w2.heap.size w2 w' → Rd w' w2.heap.size 1 A4 _ c2 _ := fun w' h => hyc.below h
      have hb : Below w2.heap.size w2 w2.drew := (Below.refl _ _).drew
      refine rgStart (fun w' => Below w2.heap.size w2 w') (by kernel_rfl) ?_
      refine rgNext (i := 0) (by kernel_rfl) rfl ?_
      go_wp2_with fail
      refine (sanity_any _).mono ?_
      rintro e w3 ⟨rfl, hb3⟩
      replace hb := hb.trans (hb3.mono hb.size)
      clear hb3
      go_wp2_with fail
      refine ⟨hb, ?_⟩
      show wpAnyH _ _ _ _ (fun w' => Below w2.heap.size w2 w') _ _ _ _
      refine rgTake (i := 1) (v := .bool true) rfl (by kernel_rfl) (wn rfl) (fun _ _ _ h => h) (fun w _ => by kernel_rfl) hb ?_
      refine rgTake (i := 2) (v := .int .i64 m) rfl (by kernel_rfl) (by kernel_rfl) (fun _ _ _ h => h) (fun w _ => by kernel_rfl) hb ?_
      refine rgTake (i := 3) (v := .int .i64 (IntKind.i64.wrap (-1 - m))) rfl (by kernel_rfl) (by kernel_rfl) (fun _ _ _ h => h) (fun w _ => by kernel_rfl) hb ?_
      rw [hwr]
      refine rgTake (i := 6) (v := .slice A1 a c1) rfl (by kernel_rfl) (by kernel_rfl) (fun _ _ _ h => h) (fun w _ => by kernel_rfl) hb ?_
      refine rgTake (i := 7) (v := .int .i64 (a : Int)) rfl (by kernel_rfl) (by kernel_rfl) (fun _ _ _ h => h) (fun w _ => by kernel_rfl) hb ?_
      refine rgNext (i := 4) (by kernel_rfl) rfl ?_
      simp only [Act.put, List.setIfInBounds_toArray, List.set_cons_succ, List.set_cons_zero]
      go_wp2_with fail
      refine (int_any (-1 - m) _ (by omega) (by omega)).mono ?_
      rintro e w4 hret
      rw [HSL.out] at hret
      obtain ⟨A5, c5, rfl, _, hz, hb4⟩ := hret.open
      replace hb := hb.trans (hb4.mono hb.size)
      clear hb4 hz hret
      go_wp2_with fail
      refine ⟨hb, ?_⟩
      show wpAnyH _ _ _ _ (fun w' => Below w2.heap.size w2 w') _ _ _ _
      refine rgTake (i := 5) (v := .int .i64 (a : Int)) rfl (by kernel_rfl) (by kernel_rfl) (fun _ _ _ h => h) (fun w _ => by kernel_rfl) hb ?_
      refine rgTake (i := 8) (v := .bool ((a : Int) == (a : Int))) rfl (by kernel_rfl) (by kernel_rfl) (fun _ _ _ h => h) (fun w _ => by kernel_rfl) hb ?_
      rw [beq_self_eq_true]
      simp only [Act.put, List.setIfInBounds_toArray, List.set_cons_succ, List.set_cons_zero]
      refine rgTake (i := 9) (v := .bool true) rfl (by kernel_rfl) (wn rfl) (fun _ _ _ h => h) (fun w _ => by kernel_rfl) hb ?_
      refine rgTake (i := 10) (v := .bool true) rfl (by kernel_rfl) (wn rfl) (fun _ _ _ h => h) (fun w _ => by kernel_rfl) hb ?_
      refine rgTake (i := 11) (v := .slice A1 a c1) rfl (by kernel_rfl) (by kernel_rfl) (fun _ _ _ h => h) (fun w _ => by kernel_rfl) hb ?_
      refine rgTake (i := 12) (v := .int .i64 (a : Int)) rfl (by kernel_rfl) (by kernel_rfl) (fun _ _ _ h => h) (fun w _ => by kernel_rfl) hb ?_
      refine rgSliceH (i := 13) (.tmp 83) (.tmp 84) hs1 rfl (by kernel_rfl) (by kernel_rfl) (fun _ _ _ h => h) rfl (by kernel_rfl) (by kernel_rfl) hb ?_
      refine rgConvStr (i := 14) (.tmp 85) _ Try.sl_u8.und Try.und_u8 Try.und_str rfl (by kernel_rfl) (by kernel_rfl) (fun _ _ _ h => h) rfl (by kernel_rfl) hxs hb ?_
      simp only [Act.put, List.setIfInBounds_toArray, List.set_cons_succ, List.set_cons_zero]
      refine rgTake (i := 15) (v := .slice A2 b c2) rfl (by kernel_rfl) (by kernel_rfl) (fun _ _ _ h => h) (fun w _ => by kernel_rfl) hb ?_
      refine rgTake (i := 16) (v := .int .i64 (a : Int)) rfl (by kernel_rfl) (by kernel_rfl) (fun _ _ _ h => h) (fun w _ => by kernel_rfl) hb ?_
      refine rgSliceH (i := 17) (.tmp 87) (.tmp 88) hs2 rfl (by kernel_rfl) (by kernel_rfl) (fun _ _ _ h => h) rfl (by kernel_rfl) (by kernel_rfl) hb ?_
      refine rgConvStr (i := 18) (.tmp 89) _ Try.sl_u8.und Try.und_u8 Try.und_str rfl (by kernel_rfl) (by kernel_rfl) (fun _ _ _ h => h) rfl (by kernel_rfl) hys hb ?_
      refine rgEqStr (i := 19) (.tmp 86) (.tmp 90) _ _ _ hpre rfl (by kernel_rfl) (by kernel_rfl) (fun _ _ _ h => h) rfl (by kernel_rfl) (by kernel_rfl) hb ?_
      refine rgTake (i := 20) (v := .int .i64 m) rfl (by kernel_rfl) (by kernel_rfl) (fun _ _ _ h => h) (fun w _ => by kernel_rfl) hb ?_
      refine rgTake (i := 21) (v := .int .i64 n) rfl (by kernel_rfl) (by kernel_rfl) (fun _ _ _ h => h) (fun w _ => by kernel_rfl) hb ?_
      simp only [Act.put, List.setIfInBounds_toArray, List.set_cons_succ, List.set_cons_zero]
      refine rgTake (i := 22) (v := .bool (m == n)) rfl (by kernel_rfl) (by kernel_rfl) (fun _ _ _ h => h) (fun w _ => by kernel_rfl) hb ?_
      refine rgTake (i := 23) (v := .bool ((m == n) == (m == n))) rfl (by kernel_rfl) (by kernel_rfl) (fun _ _ _ h => h) (fun w _ => by kernel_rfl) hb ?_
      rw [beq_self_eq_true]
      refine rgTake (i := 24) (v := .bool true) rfl (by kernel_rfl) (wn rfl) (fun _ _ _ h => h) (fun w _ => by kernel_rfl) hb ?_
      refine rgNext (i := 25) (by kernel_rfl) rfl ?_
      simp only [Act.put, List.setIfInBounds_toArray, List.set_cons_succ, List.set_cons_zero]
      go_wp2_with fail
      refine ⟨hb, ?_⟩
      refine rgDone (by kernel_rfl) ?_
      go_wp2_with fail
      go_ret
      exact ⟨rfl, hb2.trans (hb.mono hb2.size)⟩
    · subst hc
      have hc1 := hle (by omega)
      have hc2 := hge (by omega)
      clear hle hge
      go_upto_region 6 with (fail)
      obtain ⟨A3, hxc, hs1⟩ := sliceH_eq Try.sl_u8 hx (V := a) (by omega)
      obtain ⟨A4, hyc, hs2⟩ := sliceH_eq Try.sl_u8 hy (V := a) (by omega)
      rw [Nat.mul_one, take_bcs] at hxc hyc
      have hpre := HP.out a (by omega)
      clear e1 e2 q1
      have hxs : ∀ w' : World, Below w2.heap.size w2 w' → Rd w' w1.heap.size 1 A3 _ c1 _ := fun w' h => hxc.below (h.mono hlt1)
      have hys : ∀ w' : World, Below w2.heap.size w2 w' → Rd w' w2.heap.size 1 A4 _ c2 _ := fun w' h => hyc.below h
      have hb : Below w2.heap.size w2 w2.drew := (Below.refl _ _).drew
      refine rgStart (fun w' => Below w2.heap.size w2 w') (by kernel_rfl) ?_
      refine rgNext (i := 0) (by kernel_rfl) rfl ?_
      go_wp2_with fail
      refine (sanity_any _).mono ?_
      rintro e w3 ⟨rfl, hb3⟩
      replace hb := hb.trans (hb3.mono hb.size)
      clear hb3
      go_wp2_with fail
      refine ⟨hb, ?_⟩
      show wpAnyH _ _ _ _ (fun w' => Below w2.heap.size w2 w') _ _ _ _
      refine rgTake (i := 1) (v := .bool true) rfl (by kernel_rfl) (wn rfl) (fun _ _ _ h => h) (fun w _ => by kernel_rfl) hb ?_
      refine rgTake (i := 2) (v := .int .i64 m) rfl (by kernel_rfl) (by kernel_rfl) (fun _ _ _ h => h) (fun w _ => by kernel_rfl) hb ?_
      refine rgTake (i := 3) (v := .int .i64 (IntKind.i64.wrap (-1 - m))) rfl (by kernel_rfl) (by kernel_rfl) (fun _ _ _ h => h) (fun w _ => by kernel_rfl) hb ?_
      rw [hwr]
      refine rgTake (i := 6) (v := .slice A1 a c1) rfl (by kernel_rfl) (by kernel_rfl) (fun _ _ _ h => h) (fun w _ => by kernel_rfl) hb ?_
      refine rgTake (i := 7) (v := .int .i64 (a : Int)) rfl (by kernel_rfl) (by kernel_rfl) (fun _ _ _ h => h) (fun w _ => by kernel_rfl) hb ?_
      refine rgNext (i := 4) (by kernel_rfl) rfl ?_
      simp only [Act.put, List.setIfInBounds_toArray, List.set_cons_succ, List.set_cons_zero]
      go_wp2_with fail
      refine (int_any (-1 - m) _ (by omega) (by omega)).mono ?_
      rintro e w4 hret
      rw [HSL.out] at hret
      obtain ⟨A5, c5, rfl, _, hz, hb4⟩ := hret.open
      replace hb := hb.trans (hb4.mono hb.size)
      clear hb4 hz hret
      go_wp2_with fail
      refine ⟨hb, ?_⟩
      show wpAnyH _ _ _ _ (fun w' => Below w2.heap.size w2 w') _ _ _ _
      refine rgTake (i := 5) (v := .int .i64 (a : Int)) rfl (by kernel_rfl) (by kernel_rfl) (fun _ _ _ h => h) (fun w _ => by kernel_rfl) hb ?_
      refine rgTake (i := 8) (v := .bool ((a : Int) == (a : Int))) rfl (by kernel_rfl) (by kernel_rfl) (fun _ _ _ h => h) (fun w _ => by kernel_rfl) hb ?_
      rw [beq_self_eq_true]
      simp only [Act.put, List.setIfInBounds_toArray, List.set_cons_succ, List.set_cons_zero]
      refine rgTake (i := 9) (v := .bool true) rfl (by kernel_rfl) (wn rfl) (fun _ _ _ h => h) (fun w _ => by kernel_rfl) hb ?_
      refine rgTake (i := 10) (v := .bool true) rfl (by kernel_rfl) (wn rfl) (fun _ _ _ h => h) (fun w _ => by kernel_rfl) hb ?_
      refine rgTake (i := 11) (v := .slice A1 a c1) rfl (by kernel_rfl) (by kernel_rfl) (fun _ _ _ h => h) (fun w _ => by kernel_rfl) hb ?_
      refine rgTake (i := 12) (v := .int .i64 (a : Int)) rfl (by kernel_rfl) (by kernel_rfl) (fun _ _ _ h => h) (fun w _ => by kernel_rfl) hb ?_
      refine rgSliceH (i := 13) (.tmp 83) (.tmp 84) hs1 rfl (by kernel_rfl) (by kernel_rfl) (fun _ _ _ h => h) rfl (by kernel_rfl) (by kernel_rfl) hb ?_
      refine rgConvStr (i := 14) (.tmp 85) _ Try.sl_u8.und Try.und_u8 Try.und_str rfl (by kernel_rfl) (by kernel_rfl) (fun _ _ _ h => h) rfl (by kernel_rfl) hxs hb ?_
      simp only [Act.put, List.setIfInBounds_toArray, List.set_cons_succ, List.set_cons_zero]
      refine rgTake (i := 15) (v := .slice A2 b c2) rfl (by kernel_rfl) (by kernel_rfl) (fun _ _ _ h => h) (fun w _ => by kernel_rfl) hb ?_
      refine rgTake (i := 16) (v := .int .i64 (a : Int)) rfl (by kernel_rfl) (by kernel_rfl) (fun _ _ _ h => h) (fun w _ => by kernel_rfl) hb ?_
      refine rgSliceH (i := 17) (.tmp 87) (.tmp 88) hs2 rfl (by kernel_rfl) (by kernel_rfl) (fun _ _ _ h => h) rfl (by kernel_rfl) (by kernel_rfl) hb ?_
      refine rgConvStr (i := 18) (.tmp 89) _ Try.sl_u8.und Try.und_u8 Try.und_str rfl (by kernel_rfl) (by kernel_rfl) (fun _ _ _ h => h) rfl (by kernel_rfl) hys hb ?_
      refine rgEqStr (i := 19) (.tmp 86) (.tmp 90) _ _ _ hpre rfl (by kernel_rfl) (by kernel_rfl) (fun _ _ _ h => h) rfl (by kernel_rfl) (by kernel_rfl) hb ?_
      refine rgTake (i := 20) (v := .int .i64 m) rfl (by kernel_rfl) (by kernel_rfl) (fun _ _ _ h => h) (fun w _ => by kernel_rfl) hb ?_
      refine rgTake (i := 21) (v := .int .i64 n) rfl (by kernel_rfl) (by kernel_rfl) (fun _ _ _ h => h) (fun w _ => by kernel_rfl) hb ?_
      simp only [Act.put, List.setIfInBounds_toArray, List.set_cons_succ, List.set_cons_zero]
      refine rgTake (i := 22) (v := .bool (m == n)) rfl (by kernel_rfl) (by kernel_rfl) (fun _ _ _ h => h) (fun w _ => by kernel_rfl) hb ?_
      refine rgTake (i := 23) (v := .bool ((m == n) == (m == n))) rfl (by kernel_rfl) (by kernel_rfl) (fun _ _ _ h => h) (fun w _ => by kernel_rfl) hb ?_
      rw [beq_self_eq_true]
      refine rgTake (i := 24) (v := .bool true) rfl (by kernel_rfl) (wn rfl) (fun _ _ _ h => h) (fun w _ => by kernel_rfl) hb ?_
      refine rgNext (i := 25) (by kernel_rfl) rfl ?_
      simp only [Act.put, List.setIfInBounds_toArray, List.set_cons_succ, List.set_cons_zero]
      go_wp2_with fail
      refine ⟨hb, ?_⟩
      refine rgDone (by kernel_rfl) ?_
      go_wp2_with fail
      go_ret
      exact ⟨rfl, hb2.trans (hb.mono hb2.size)⟩
    · have hc2 := hge (by omega)
      clear hle hge
      go_upto_region 6 with (fail)
      obtain ⟨A3, hxc, hs1⟩ := sliceH_eq Try.sl_u8 hx (V := a) (by omega)
      obtain ⟨A4, hyc, hs2⟩ := sliceH_eq Try.sl_u8 hy (V := a) (by omega)
      rw [Nat.mul_one, take_bcs] at hxc hyc
      have hpre := HP.out a (by omega)
      clear e1 e2 q1
      have hxs : ∀ w' : World, Below w2.heap.size w2 w' → Rd w' w1.heap.size 1 A3 _ c1 _ := fun w' h => hxc.below (h.mono hlt1)
      have hys : ∀ w' : World, Below w2.heap.size w2 w' → Rd w' w2.heap.size 1 A4 _ c2 _ := fun w' h => hyc.below h
      have hb : Below w2.heap.size w2 w2.drew := (Below.refl _ _).drew
      refine rgStart (fun w' => Below w2.heap.size w2 w') (by kernel_rfl) ?_
      refine rgNext (i := 0) (by kernel_rfl) rfl ?_
      go_wp2_with fail
      refine (sanity_any _).mono ?_
      rintro e w3 ⟨rfl, hb3⟩
      replace hb := hb.trans (hb3.mono hb.size)
      clear hb3
      go_wp2_with fail
      refine ⟨hb, ?_⟩
      show wpAnyH _ _ _ _ (fun w' => Below w2.heap.size w2 w') _ _ _ _
      refine rgTake (i := 1) (v := .bool true) rfl (by kernel_rfl) (wn rfl) (fun _ _ _ h => h) (fun w _ => by kernel_rfl) hb ?_
      refine rgTake (i := 2) (v := .int .i64 m) rfl (by kernel_rfl) (by kernel_rfl) (fun _ _ _ h => h) (fun w _ => by kernel_rfl) hb ?_
      refine rgTake (i := 3) (v := .int .i64 (IntKind.i64.wrap (-1 - m))) rfl (by kernel_rfl) (by kernel_rfl) (fun _ _ _ h => h) (fun w _ => by kernel_rfl) hb ?_
      rw [hwr]
      refine rgTake (i := 6) (v := .slice A1 a c1) rfl (by kernel_rfl) (by kernel_rfl) (fun _ _ _ h => h) (fun w _ => by kernel_rfl) hb ?_
      refine rgTake (i := 7) (v := .int .i64 (a : Int)) rfl (by kernel_rfl) (by kernel_rfl) (fun _ _ _ h => h) (fun w _ => by kernel_rfl) hb ?_
      refine rgNext (i := 4) (by kernel_rfl) rfl ?_
      simp only [Act.put, List.setIfInBounds_toArray, List.set_cons_succ, List.set_cons_zero]
      go_wp2_with fail
      refine (int_any (-1 - m) _ (by omega) (by omega)).mono ?_
      rintro e w4 hret
      rw [HSL.out] at hret
      obtain ⟨A5, c5, rfl, _, hz, hb4⟩ := hret.open
      replace hb := hb.trans (hb4.mono hb.size)
      clear hb4 hz hret
      go_wp2_with fail
      refine ⟨hb, ?_⟩
      show wpAnyH _ _ _ _ (fun w' => Below w2.heap.size w2 w') _ _ _ _
      refine rgTake (i := 5) (v := .int .i64 (a : Int)) rfl (by kernel_rfl) (by kernel_rfl) (fun _ _ _ h => h) (fun w _ => by kernel_rfl) hb ?_
      refine rgTake (i := 8) (v := .bool ((a : Int) == (a : Int))) rfl (by kernel_rfl) (by kernel_rfl) (fun _ _ _ h => h) (fun w _ => by kernel_rfl) hb ?_
      rw [beq_self_eq_true]
      simp only [Act.put, List.setIfInBounds_toArray, List.set_cons_succ, List.set_cons_zero]
      refine rgTake (i := 9) (v := .bool true) rfl (by kernel_rfl) (wn rfl) (fun _ _ _ h => h) (fun w _ => by kernel_rfl) hb ?_
      refine rgTake (i := 10) (v := .bool true) rfl (by kernel_rfl) (wn rfl) (fun _ _ _ h => h) (fun w _ => by kernel_rfl) hb ?_
      refine rgTake (i := 11) (v := .slice A1 a c1) rfl (by kernel_rfl) (by kernel_rfl) (fun _ _ _ h => h) (fun w _ => by kernel_rfl) hb ?_
      refine rgTake (i := 12) (v := .int .i64 (a : Int)) rfl (by kernel_rfl) (by kernel_rfl) (fun _ _ _ h => h) (fun w _ => by kernel_rfl) hb ?_
      refine rgSliceH (i := 13) (.tmp 83) (.tmp 84) hs1 rfl (by kernel_rfl) (by kernel_rfl) (fun _ _ _ h => h) rfl (by kernel_rfl) (by kernel_rfl) hb ?_
      refine rgConvStr (i := 14) (.tmp 85) _ Try.sl_u8.und Try.und_u8 Try.und_str rfl (by kernel_rfl) (by kernel_rfl) (fun _ _ _ h => h) rfl (by kernel_rfl) hxs hb ?_
      simp only [Act.put, List.setIfInBounds_toArray, List.set_cons_succ, List.set_cons_zero]
      refine rgTake (i := 15) (v := .slice A2 b c2) rfl (by kernel_rfl) (by kernel_rfl) (fun _ _ _ h => h) (fun w _ => by kernel_rfl) hb ?_
      refine rgTake (i := 16) (v := .int .i64 (a : Int)) rfl (by kernel_rfl) (by kernel_rfl) (fun _ _ _ h => h) (fun w _ => by kernel_rfl) hb ?_
      refine rgSliceH (i := 17) (.tmp 87) (.tmp 88) hs2 rfl (by kernel_rfl) (by kernel_rfl) (fun _ _ _ h => h) rfl (by kernel_rfl) (by kernel_rfl) hb ?_
      refine rgConvStr (i := 18) (.tmp 89) _ Try.sl_u8.und Try.und_u8 Try.und_str rfl (by kernel_rfl) (by kernel_rfl) (fun _ _ _ h => h) rfl (by kernel_rfl) hys hb ?_
      refine rgEqStr (i := 19) (.tmp 86) (.tmp 90) _ _ _ hpre rfl (by kernel_rfl) (by kernel_rfl) (fun _ _ _ h => h) rfl (by kernel_rfl) (by kernel_rfl) hb ?_
      refine rgTake (i := 20) (v := .int .i64 m) rfl (by kernel_rfl) (by kernel_rfl) (fun _ _ _ h => h) (fun w _ => by kernel_rfl) hb ?_
      refine rgTake (i := 21) (v := .int .i64 n) rfl (by kernel_rfl) (by kernel_rfl) (fun _ _ _ h => h) (fun w _ => by kernel_rfl) hb ?_
      simp only [Act.put, List.setIfInBounds_toArray, List.set_cons_succ, List.set_cons_zero]
      refine rgTake (i := 22) (v := .bool (m == n)) rfl (by kernel_rfl) (by kernel_rfl) (fun _ _ _ h => h) (fun w _ => by kernel_rfl) hb ?_
      refine rgTake (i := 23) (v := .bool ((m == n) == (m == n))) rfl (by kernel_rfl) (by kernel_rfl) (fun _ _ _ h => h) (fun w _ => by kernel_rfl) hb ?_
      rw [beq_self_eq_true]
      refine rgTake (i := 24) (v := .bool true) rfl (by kernel_rfl) (wn rfl) (fun _ _ _ h => h) (fun w _ => by kernel_rfl) hb ?_
      refine rgNext (i := 25) (by kernel_rfl) rfl ?_
      simp only [Act.put, List.setIfInBounds_toArray, List.set_cons_succ, List.set_cons_zero]
      go_wp2_with fail
      refine ⟨hb, ?_⟩
      refine rgDone (by kernel_rfl) ?_
      go_wp2_with fail
      go_ret
      exact ⟨rfl, hb2.trans (hb.mono hb2.size)⟩
  · have hd1 := hmany hd
    have q1 : ((a : Int) == 1) = false := by rw [beq_eq_false_iff_ne]; omega
    clear hone hmany
    rcases Int.lt_trichotomy fm fn with hc | hc | hc
    · have hc1 := hle (by omega)
      clear hle hge
      go_upto_region 6 with (fail)
      obtain ⟨A3, hxc, hs1⟩ := sliceH_eq Try.sl_u8 hx (V := a) (by omega)
      obtain ⟨A4, hyc, hs2⟩ := sliceH_eq Try.sl_u8 hy (V := a) (by omega)
      rw [Nat.mul_one, take_bcs] at hxc hyc
      have hpre := HP.out a (by omega)
      clear e1 e2 q1
      have hxs : ∀ w' : World, Below w2.heap.size w2 w' → Rd w' w1.heap.size 1 A3 _ c1 _ := fun w' h => hxc.below (h.mono hlt1)
      have hys : ∀ w' : World, Below w2.heap.size w2 w' → Rd w' w2.heap.size 1 A4 _ c2 _ := fun w' h => hyc.below h
      have hb : Below w2.heap.size w2 w2.drew := (Below.refl _ _).drew
      refine rgStart (fun w' => Below w2.heap.size w2 w') (by kernel_rfl) ?_
      refine rgNext (i := 0) (by kernel_rfl) rfl ?_
      go_wp2_with fail
      refine (sanity_any _).mono ?_
      rintro e w3 ⟨rfl, hb3⟩
      replace hb := hb.trans (hb3.mono hb.size)
      clear hb3
      go_wp2_with fail
      refine ⟨hb, ?_⟩
      show wpAnyH _ _ _ _ (fun w' => Below w2.heap.size w2 w') _ _ _ _
      refine rgTake (i := 1) (v := .bool true) rfl (by kernel_rfl) (wn rfl) (fun _ _ _ h => h) (fun w _ => by kernel_rfl) hb ?_
      refine rgTake (i := 2) (v := .int .i64 m) rfl (by kernel_rfl) (by kernel_rfl) (fun _ _ _ h => h) (fun w _ => by kernel_rfl) hb ?_
      refine rgTake (i := 3) (v := .int .i64 (IntKind.i64.wrap (-1 - m))) rfl (by kernel_rfl) (by kernel_rfl) (fun _ _ _ h => h) (fun w _ => by kernel_rfl) hb ?_
      rw [hwr]
      refine rgTake (i := 6) (v := .slice A1 a c1) rfl (by kernel_rfl) (by kernel_rfl) (fun _ _ _ h => h) (fun w _ => by kernel_rfl) hb ?_
      refine rgTake (i := 7) (v := .int .i64 (a : Int)) rfl (by kernel_rfl) (by kernel_rfl) (fun _ _ _ h => h) (fun w _ => by kernel_rfl) hb ?_
      refine rgNext (i := 4) (by kernel_rfl) rfl ?_
      simp only [Act.put, List.setIfInBounds_toArray, List.set_cons_succ, List.set_cons_zero]
      go_wp2_with fail
      refine (int_any (-1 - m) _ (by omega) (by omega)).mono ?_
      rintro e w4 hret
      rw [HSL.out] at hret
      obtain ⟨A5, c5, rfl, _, hz, hb4⟩ := hret.open
      replace hb := hb.trans (hb4.mono hb.size)
      clear hb4 hz hret
      go_wp2_with fail
      refine ⟨hb, ?_⟩
      show wpAnyH _ _ _ _ (fun w' => Below w2.heap.size w2 w') _ _ _ _
      refine rgTake (i := 5) (v := .int .i64 (a : Int)) rfl (by kernel_rfl) (by kernel_rfl) (fun _ _ _ h => h) (fun w _ => by kernel_rfl) hb ?_
      refine rgTake (i := 8) (v := .bool ((a : Int) == (a : Int))) rfl (by kernel_rfl) (by kernel_rfl) (fun _ _ _ h => h) (fun w _ => by kernel_rfl) hb ?_
      rw [beq_self_eq_true]
      simp only [Act.put, List.setIfInBounds_toArray, List.set_cons_succ, List.set_cons_zero]
      refine rgTake (i := 9) (v := .bool true) rfl (by kernel_rfl) (wn rfl) (fun _ _ _ h => h) (fun w _ => by kernel_rfl) hb ?_
      refine rgTake (i := 10) (v := .bool true) rfl (by kernel_rfl) (wn rfl) (fun _ _ _ h => h) (fun w _ => by kernel_rfl) hb ?_
      refine rgTake (i := 11) (v := .slice A1 a c1) rfl (by kernel_rfl) (by kernel_rfl) (fun _ _ _ h => h) (fun w _ => by kernel_rfl) hb ?_
      refine rgTake (i := 12) (v := .int .i64 (a : Int)) rfl (by kernel_rfl) (by kernel_rfl) (fun _ _ _ h => h) (fun w _ => by kernel_rfl) hb ?_
      refine rgSliceH (i := 13) (.tmp 83) (.tmp 84) hs1 rfl (by kernel_rfl) (by kernel_rfl) (fun _ _ _ h => h) rfl (by kernel_rfl) (by kernel_rfl) hb ?_
      refine rgConvStr (i := 14) (.tmp 85) _ Try.sl_u8.und Try.und_u8 Try.und_str rfl (by kernel_rfl) (by kernel_rfl) (fun _ _ _ h => h) rfl (by kernel_rfl) hxs hb ?_
      simp only [Act.put, List.setIfInBounds_toArray, List.set_cons_succ, List.set_cons_zero]
      refine rgTake (i := 15) (v := .slice A2 b c2) rfl (by kernel_rfl) (by kernel_rfl) (fun _ _ _ h => h) (fun w _ => by kernel_rfl) hb ?_
      refine rgTake (i := 16) (v := .int .i64 (a : Int)) rfl (by kernel_rfl) (by kernel_rfl) (fun _ _ _ h => h) (fun w _ => by kernel_rfl) hb ?_
      refine rgSliceH (i := 17) (.tmp 87) (.tmp 88) hs2 rfl (by kernel_rfl) (by kernel_rfl) (fun _ _ _ h => h) rfl (by kernel_rfl) (by kernel_rfl) hb ?_
      refine rgConvStr (i := 18) (.tmp 89) _ Try.sl_u8.und Try.und_u8 Try.und_str rfl (by kernel_rfl) (by kernel_rfl) (fun _ _ _ h => h) rfl (by kernel_rfl) hys hb ?_
      refine rgEqStr (i := 19) (.tmp 86) (.tmp 90) _ _ _ hpre rfl (by kernel_rfl) (by kernel_rfl) (fun _ _ _ h => h) rfl (by kernel_rfl) (by kernel_rfl) hb ?_
      refine rgTake (i := 20) (v := .int .i64 m) rfl (by kernel_rfl) (by kernel_rfl) (fun _ _ _ h => h) (fun w _ => by kernel_rfl) hb ?_
      refine rgTake (i := 21) (v := .int .i64 n) rfl (by kernel_rfl) (by kernel_rfl) (fun _ _ _ h => h) (fun w _ => by kernel_rfl) hb ?_
      simp only [Act.put, List.setIfInBounds_toArray, List.set_cons_succ, List.set_cons_zero]
      refine rgTake (i := 22) (v := .bool (m == n)) rfl (by kernel_rfl) (by kernel_rfl) (fun _ _ _ h => h) (fun w _ => by kernel_rfl) hb ?_
      refine rgTake (i := 23) (v := .bool ((m == n) == (m == n))) rfl (by kernel_rfl) (by kernel_rfl) (fun _ _ _ h => h) (fun w _ => by kernel_rfl) hb ?_
      rw [beq_self_eq_true]
      refine rgTake (i := 24) (v := .bool true) rfl (by kernel_rfl) (wn rfl) (fun _ _ _ h => h) (fun w _ => by kernel_rfl) hb ?_
      refine rgNext (i := 25) (by kernel_rfl) rfl ?_
      simp only [Act.put, List.setIfInBounds_toArray, List.set_cons_succ, List.set_cons_zero]
      go_wp2_with fail
      refine ⟨hb, ?_⟩
      refine rgDone (by kernel_rfl) ?_
      go_wp2_with fail
      go_ret
      exact ⟨rfl, hb2.trans (hb.mono hb2.size)⟩
    · subst hc
      have hc1 := hle (by omega)
      have hc2 := hge (by omega)
      clear hle hge
      go_upto_region 6 with (fail)
      obtain ⟨A3, hxc, hs1⟩ := sliceH_eq Try.sl_u8 hx (V := a) (by omega)
      obtain ⟨A4, hyc, hs2⟩ := sliceH_eq Try.sl_u8 hy (V := a) (by omega)
      rw [Nat.mul_one, take_bcs] at hxc hyc
      have hpre := HP.out a (by omega)
      clear e1 e2 q1
      have hxs : ∀ w' : World, Below w2.heap.size w2 w' → Rd w' w1.heap.size 1 A3 _ c1 _ := fun w' h => hxc.below (h.mono hlt1)
      have hys : ∀ w' : World, Below w2.heap.size w2 w' → Rd w' w2.heap.size 1 A4 _ c2 _ := fun w' h => hyc.below h
      have hb : Below w2.heap.size w2 w2.drew := (Below.refl _ _).drew
      refine rgStart (fun w' => Below w2.heap.size w2 w') (by kernel_rfl) ?_
      refine rgNext (i := 0) (by kernel_rfl) rfl ?_
      go_wp2_with fail
      refine (sanity_any _).mono ?_
      rintro e w3 ⟨rfl, hb3⟩
      replace hb := hb.trans (hb3.mono hb.size)
      clear hb3
      go_wp2_with fail
      refine ⟨hb, ?_⟩
      show wpAnyH _ _ _ _ (fun w' => Below w2.heap.size w2 w') _ _ _ _
      refine rgTake (i := 1) (v := .bool true) rfl (by kernel_rfl) (wn rfl) (fun _ _ _ h => h) (fun w _ => by kernel_rfl) hb ?_
      refine rgTake (i := 2) (v := .int .i64 m) rfl (by kernel_rfl) (by kernel_rfl) (fun _ _ _ h => h) (fun w _ => by kernel_rfl) hb ?_
      refine rgTake (i := 3) (v := .int .i64 (IntKind.i64.wrap (-1 - m))) rfl (by kernel_rfl) (by kernel_rfl) (fun _ _ _ h => h) (fun w _ => by kernel_rfl) hb ?_
      rw [hwr]
      refine rgTake (i := 6) (v := .slice A1 a c1) rfl (by kernel_rfl) (by kernel_rfl) (fun _ _ _ h => h) (fun w _ => by kernel_rfl) hb ?_
      refine rgTake (i := 7) (v := .int .i64 (a : Int)) rfl (by kernel_rfl) (by kernel_rfl) (fun _ _ _ h => h) (fun w _ => by kernel_rfl) hb ?_
      refine rgNext (i := 4) (by kernel_rfl) rfl ?_
      simp only [Act.put, List.setIfInBounds_toArray, List.set_cons_succ, List.set_cons_zero]
      go_wp2_with fail
      refine (int_any (-1 - m) _ (by omega) (by omega)).mono ?_
      rintro e w4 hret
      rw [HSL.out] at hret
      obtain ⟨A5, c5, rfl, _, hz, hb4⟩ := hret.open
      replace hb := hb.trans (hb4.mono hb.size)
      clear hb4 hz hret
      go_wp2_with fail
      refine ⟨hb, ?_⟩
      show wpAnyH _ _ _ _ (fun w' => Below w2.heap.size w2 w') _ _ _ _
      refine rgTake (i := 5) (v := .int .i64 (a : Int)) rfl (by kernel_rfl) (by kernel_rfl) (fun _ _ _ h => h) (fun w _ => by kernel_rfl) hb ?_
      refine rgTake (i := 8) (v := .bool ((a : Int) == (a : Int))) rfl (by kernel_rfl) (by kernel_rfl) (fun _ _ _ h => h) (fun w _ => by kernel_rfl) hb ?_
      rw [beq_self_eq_true]
      simp only [Act.put, List.setIfInBounds_toArray, List.set_cons_succ, List.set_cons_zero]
      refine rgTake (i := 9) (v := .bool true) rfl (by kernel_rfl) (wn rfl) (fun _ _ _ h => h) (fun w _ => by kernel_rfl) hb ?_
      refine rgTake (i := 10) (v := .bool true) rfl (by kernel_rfl) (wn rfl) (fun _ _ _ h => h) (fun w _ => by kernel_rfl) hb ?_
      refine rgTake (i := 11) (v := .slice A1 a c1) rfl (by kernel_rfl) (by kernel_rfl) (fun _ _ _ h => h) (fun w _ => by kernel_rfl) hb ?_
      refine rgTake (i := 12) (v := .int .i64 (a : Int)) rfl (by kernel_rfl) (by kernel_rfl) (fun _ _ _ h => h) (fun w _ => by kernel_rfl) hb ?_
      refine rgSliceH (i := 13) (.tmp 83) (.tmp 84) hs1 rfl (by kernel_rfl) (by kernel_rfl) (fun _ _ _ h => h) rfl (by kernel_rfl) (by kernel_rfl) hb ?_
      refine rgConvStr (i := 14) (.tmp 85) _ Try.sl_u8.und Try.und_u8 Try.und_str rfl (by kernel_rfl) (by kernel_rfl) (fun _ _ _ h => h) rfl (by kernel_rfl) hxs hb ?_
      simp only [Act.put, List.setIfInBounds_toArray, List.set_cons_succ, List.set_cons_zero]
      refine rgTake (i := 15) (v := .slice A2 b c2) rfl (by kernel_rfl) (by kernel_rfl) (fun _ _ _ h => h) (fun w _ => by kernel_rfl) hb ?_
      refine rgTake (i := 16) (v := .int .i64 (a : Int)) rfl (by kernel_rfl) (by kernel_rfl) (fun _ _ _ h => h) (fun w _ => by kernel_rfl) hb ?_
      refine rgSliceH (i := 17) (.tmp 87) (.tmp 88) hs2 rfl (by kernel_rfl) (by kernel_rfl) (fun _ _ _ h => h) rfl (by kernel_rfl) (by kernel_rfl) hb ?_
      refine rgConvStr (i := 18) (.tmp 89) _ Try.sl_u8.und Try.und_u8 Try.und_str rfl (by kernel_rfl) (by kernel_rfl) (fun _ _ _ h => h) rfl (by kernel_rfl) hys hb ?_
      refine rgEqStr (i := 19) (.tmp 86) (.tmp 90) _ _ _ hpre rfl (by kernel_rfl) (by kernel_rfl) (fun _ _ _ h => h) rfl (by kernel_rfl) (by kernel_rfl) hb ?_
      refine rgTake (i := 20) (v := .int .i64 m) rfl (by kernel_rfl) (by kernel_rfl) (fun _ _ _ h => h) (fun w _ => by kernel_rfl) hb ?_
      refine rgTake (i := 21) (v := .int .i64 n) rfl (by kernel_rfl) (by kernel_rfl) (fun _ _ _ h => h) (fun w _ => by kernel_rfl) hb ?_
      simp only [Act.put, List.setIfInBounds_toArray, List.set_cons_succ, List.set_cons_zero]
      refine rgTake (i := 22) (v := .bool (m == n)) rfl (by kernel_rfl) (by kernel_rfl) (fun _ _ _ h => h) (fun w _ => by kernel_rfl) hb ?_
      refine rgTake (i := 23) (v := .bool ((m == n) == (m == n))) rfl (by kernel_rfl) (by kernel_rfl) (fun _ _ _ h => h) (fun w _ => by kernel_rfl) hb ?_
      rw [beq_self_eq_true]
      refine rgTake (i := 24) (v := .bool true) rfl (by kernel_rfl) (wn rfl) (fun _ _ _ h => h) (fun w _ => by kernel_rfl) hb ?_
      refine rgNext (i := 25) (by kernel_rfl) rfl ?_
      simp only [Act.put, List.setIfInBounds_toArray, List.set_cons_succ, List.set_cons_zero]
      go_wp2_with fail
      refine ⟨hb, ?_⟩
      refine rgDone (by kernel_rfl) ?_
      go_wp2_with fail
      go_ret
      exact ⟨rfl, hb2.trans (hb.mono hb2.size)⟩
    · have hc2 := hge (by omega)
      clear hle hge
      go_upto_region 6 with (fail)
      rw [show (if b < a then (b : Int) else (a : Int)) = ((b : Nat) : Int) from by split <;> omega]
      obtain ⟨A3, hxc, hs1⟩ := sliceH_eq Try.sl_u8 hx (V := b) (by omega)
      obtain ⟨A4, hyc, hs2⟩ := sliceH_eq Try.sl_u8 hy (V := b) (by omega)
      rw [Nat.mul_one, take_bcs] at hxc hyc
      have hpre := HP.out b (by omega)
      clear e1 e2 q1
      have hxs : ∀ w' : World, Below w2.heap.size w2 w' → Rd w' w1.heap.size 1 A3 _ c1 _ := fun w' h => hxc.below (h.mono hlt1)
      have hys : ∀ w' : World, Below w2.heap.size w2 w' → Rd w' w2.heap.size 1 A4 _ c2 _ := fun w' h => hyc.below h
      have hb : Below w2.heap.size w2 w2.drew := (Below.refl _ _).drew
      refine rgStart (fun w' => Below w2.heap.size w2 w') (by kernel_rfl) ?_
      refine rgNext (i := 0) (by kernel_rfl) rfl ?_
      go_wp2_with fail
      refine (sanity_any _).mono ?_
      rintro e w3 ⟨rfl, hb3⟩
      replace hb := hb.trans (hb3.mono hb.size)
      clear hb3
      go_wp2_with fail
      refine ⟨hb, ?_⟩
      show wpAnyH _ _ _ _ (fun w' => Below w2.heap.size w2 w') _ _ _ _
      refine rgTake (i := 1) (v := .bool true) rfl (by kernel_rfl) (wn rfl) (fun _ _ _ h => h) (fun w _ => by kernel_rfl) hb ?_
      refine rgTake (i := 2) (v := .int .i64 m) rfl (by kernel_rfl) (by kernel_rfl) (fun _ _ _ h => h) (fun w _ => by kernel_rfl) hb ?_
      refine rgTake (i := 3) (v := .int .i64 (IntKind.i64.wrap (-1 - m))) rfl (by kernel_rfl) (by kernel_rfl) (fun _ _ _ h => h) (fun w _ => by kernel_rfl) hb ?_
      rw [hwr]
      refine rgTake (i := 6) (v := .slice A1 a c1) rfl (by kernel_rfl) (by kernel_rfl) (fun _ _ _ h => h) (fun w _ => by kernel_rfl) hb ?_
      refine rgTake (i := 7) (v := .int .i64 (a : Int)) rfl (by kernel_rfl) (by kernel_rfl) (fun _ _ _ h => h) (fun w _ => by kernel_rfl) hb ?_
      refine rgNext (i := 4) (by kernel_rfl) rfl ?_
      simp only [Act.put, List.setIfInBounds_toArray, List.set_cons_succ, List.set_cons_zero]
      go_wp2_with fail
      refine (int_any (-1 - m) _ (by omega) (by omega)).mono ?_
      rintro e w4 hret
      rw [HSL.out] at hret
      obtain ⟨A5, c5, rfl, _, hz, hb4⟩ := hret.open
      replace hb := hb.trans (hb4.mono hb.size)
      clear hb4 hz hret
      go_wp2_with fail
      refine ⟨hb, ?_⟩
      show wpAnyH _ _ _ _ (fun w' => Below w2.heap.size w2 w') _ _ _ _
      refine rgTake (i := 5) (v := .int .i64 (a : Int)) rfl (by kernel_rfl) (by kernel_rfl) (fun _ _ _ h => h) (fun w _ => by kernel_rfl) hb ?_
      refine rgTake (i := 8) (v := .bool ((a : Int) == (a : Int))) rfl (by kernel_rfl) (by kernel_rfl) (fun _ _ _ h => h) (fun w _ => by kernel_rfl) hb ?_
      rw [beq_self_eq_true]
      simp only [Act.put, List.setIfInBounds_toArray, List.set_cons_succ, List.set_cons_zero]
      refine rgTake (i := 9) (v := .bool true) rfl (by kernel_rfl) (wn rfl) (fun _ _ _ h => h) (fun w _ => by kernel_rfl) hb ?_
      refine rgTake (i := 10) (v := .bool true) rfl (by kernel_rfl) (wn rfl) (fun _ _ _ h => h) (fun w _ => by kernel_rfl) hb ?_
      refine rgTake (i := 11) (v := .slice A1 a c1) rfl (by kernel_rfl) (by kernel_rfl) (fun _ _ _ h => h) (fun w _ => by kernel_rfl) hb ?_
      refine rgTake (i := 12) (v := .int .i64 (b : Int)) rfl (by kernel_rfl) (by kernel_rfl) (fun _ _ _ h => h) (fun w _ => by kernel_rfl) hb ?_
      refine rgSliceH (i := 13) (.tmp 83) (.tmp 84) hs1 rfl (by kernel_rfl) (by kernel_rfl) (fun _ _ _ h => h) rfl (by kernel_rfl) (by kernel_rfl) hb ?_
      refine rgConvStr (i := 14) (.tmp 85) _ Try.sl_u8.und Try.und_u8 Try.und_str rfl (by kernel_rfl) (by kernel_rfl) (fun _ _ _ h => h) rfl (by kernel_rfl) hxs hb ?_
      simp only [Act.put, List.setIfInBounds_toArray, List.set_cons_succ, List.set_cons_zero]
      refine rgTake (i := 15) (v := .slice A2 b c2) rfl (by kernel_rfl) (by kernel_rfl) (fun _ _ _ h => h) (fun w _ => by kernel_rfl) hb ?_
      refine rgTake (i := 16) (v := .int .i64 (b : Int)) rfl (by kernel_rfl) (by kernel_rfl) (fun _ _ _ h => h) (fun w _ => by kernel_rfl) hb ?_
      refine rgSliceH (i := 17) (.tmp 87) (.tmp 88) hs2 rfl (by kernel_rfl) (by kernel_rfl) (fun _ _ _ h => h) rfl (by kernel_rfl) (by kernel_rfl) hb ?_
      refine rgConvStr (i := 18) (.tmp 89) _ Try.sl_u8.und Try.und_u8 Try.und_str rfl (by kernel_rfl) (by kernel_rfl) (fun _ _ _ h => h) rfl (by kernel_rfl) hys hb ?_
      refine rgEqStr (i := 19) (.tmp 86) (.tmp 90) _ _ _ hpre rfl (by kernel_rfl) (by kernel_rfl) (fun _ _ _ h => h) rfl (by kernel_rfl) (by kernel_rfl) hb ?_
      refine rgTake (i := 20) (v := .int .i64 m) rfl (by kernel_rfl) (by kernel_rfl) (fun _ _ _ h => h) (fun w _ => by kernel_rfl) hb ?_
      refine rgTake (i := 21) (v := .int .i64 n) rfl (by kernel_rfl) (by kernel_rfl) (fun _ _ _ h => h) (fun w _ => by kernel_rfl) hb ?_
      simp only [Act.put, List.setIfInBounds_toArray, List.set_cons_succ, List.set_cons_zero]
      refine rgTake (i := 22) (v := .bool (m == n)) rfl (by kernel_rfl) (by kernel_rfl) (fun _ _ _ h => h) (fun w _ => by kernel_rfl) hb ?_
      refine rgTake (i := 23) (v := .bool ((m == n) == (m == n))) rfl (by kernel_rfl) (by kernel_rfl) (fun _ _ _ h => h) (fun w _ => by kernel_rfl) hb ?_
      rw [beq_self_eq_true]
      refine rgTake (i := 24) (v := .bool true) rfl (by kernel_rfl) (wn rfl) (fun _ _ _ h => h) (fun w _ => by kernel_rfl) hb ?_
      refine rgNext (i := 25) (by kernel_rfl) rfl ?_
      simp only [Act.put, List.setIfInBounds_toArray, List.set_cons_succ, List.set_cons_zero]
      go_wp2_with fail
      refine ⟨hb, ?_⟩
      refine rgDone (by kernel_rfl) ?_
      go_wp2_with fail
      go_ret
      exact ⟨rfl, hb2.trans (hb.mono hb2.size)⟩
end Go.Proofs.Ytelphmfdpnmncaa
