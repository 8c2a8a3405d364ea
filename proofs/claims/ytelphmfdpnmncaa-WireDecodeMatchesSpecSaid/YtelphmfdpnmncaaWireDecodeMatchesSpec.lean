/-
  WireDecodeMatchesSpec answers true, for every sequence of bytes that can be read.
-/
import Derived.Test.YtelphmfdpnmncaaSanity
namespace Go.Proofs.Ytelphmfdpnmncaa
open Go.RowKit

set_option maxRecDepth 100000 in
set_option maxHeartbeats 4000000 in
theorem walk_WireDecodeMatchesSpec (l : List UInt8) (A : Option Addr) (n c : Nat) (w0 : World) (hr : Rd w0 w0.heap.size 1 A n c (bcs l)) (hn : n ≤ 140737488351232) :
    Calls Try.prog 4 #[.slice A n c] w0 (RetB w0 true) := by
  have hb0 : Below w0.heap.size w0 w0 := Below.refl _ _
  have hlt0 : w0.heap.size ≤ w0.heap.size := Nat.le_refl _
  have hll : l.length = n := by have := hr.len; rwa [bcs_length, Nat.mul_one] at this
  have HLL := Lib.hid hll
  clear hll
  by_cases hbig : 2000 < n
  · skip
    go_enter Try.func4, Try.ntmps4
    go_wp2_with fail
    refine (sanity_any _).mono ?_
    rintro e w1 ⟨rfl, hst⟩
    have hb1 := below_call0 hb0 hst
    have hlt1 : w1.heap.size ≤ w1.heap.size := Nat.le_refl _
    clear hst hb0
    clear hlt0
    go_wp2_with fail
    go_ret
    exact ⟨rfl, hb1⟩
  · skip
    have hlen : l.length ≤ 1099511627776 := by have := HLL.out; omega
    have HLEN := Lib.hid hlen
    clear hlen
    go_enter Try.func4, Try.ntmps4
    go_wp2_with fail
    refine (getInt_any l _ _ _ _ _ hr).mono ?_
    rintro e _ ⟨rfl, rfl⟩
    go_wp2_with fail
    refine (refGetInt_any l _ _ _ _ _ hr).mono ?_
    rintro e _ ⟨rfl, rfl⟩
    go_wp2_with fail
    refine (getBytes_any l _ _ _ _ _ hr).mono ?_
    rintro e _ ⟨rfl, rfl⟩
    unfold sv
    go_wp2_with fail
    refine (refGetBytes_any l _ _ _ _ _ hr).mono ?_
    rintro e _ ⟨rfl, rfl⟩
    unfold sv
    go_wp2_with fail
    refine (getInts_any l _ _ _ _ _ hr hlt0 HLEN.out).mono ?_
    rintro e w1 hret
    obtain ⟨A1, n1, c1, rfl, _, hi, hst⟩ := hret.open
    have hb1 := below_call0 hb0 hst
    clear hret
    have hr := hr.below (hst.mono hlt0)
    have hlt0 := Nat.le_trans hlt0 hst.size
    have hlt1 : w1.heap.size ≤ w1.heap.size := Nat.le_refl _
    clear hst hb0
    go_wp2_with fail
    refine (refGetInts_any l _ _ _ _ _ hr hlt0 HLEN.out).mono ?_
    rintro e w2 hret
    obtain ⟨A2, n2, c2, rfl, _, hj, hst⟩ := hret.open
    have hb2 := below_call0 hb1 hst
    clear hret
    have hr := hr.below (hst.mono hlt0)
    have hi := hi.below (hst.mono hlt1)
    have hlt0 := Nat.le_trans hlt0 hst.size
    have hlt1 := Nat.le_trans hlt1 hst.size
    have hlt2 : w2.heap.size ≤ w2.heap.size := Nat.le_refl _
    clear hst hb1
    go_wp2_with fail
    refine (sameInts_true _ _ _ _ _ _ _ _ _ _ hi hj).mono ?_
    rintro e w3 ⟨rfl, q, hw⟩
    have hst : Below w2.heap.size w2 w3 := by subst hw; exact below_drewN _ q
    have hb3 := below_call0 hb2 hst
    clear hw
    have hr := hr.below (hst.mono hlt0)
    have hi := hi.below (hst.mono hlt1)
    have hj := hj.below (hst.mono hlt2)
    have hlt0 := Nat.le_trans hlt0 hst.size
    have hlt1 := Nat.le_trans hlt1 hst.size
    have hlt2 := Nat.le_trans hlt2 hst.size
    have hlt3 : w3.heap.size ≤ w3.heap.size := Nat.le_refl _
    clear hst hb2
    clear hi hj
    go_wp2_with fail
    refine (getStrs_any l _ _ _ _ _ hr hlt0 HLEN.out).mono ?_
    rintro e w4 hret
    obtain ⟨A4, n4, c4, rfl, _, hi, hst⟩ := hret.open
    have hb4 := below_call0 hb3 hst
    clear hret
    have hr := hr.below (hst.mono hlt0)
    have hlt0 := Nat.le_trans hlt0 hst.size
    have hlt4 : w4.heap.size ≤ w4.heap.size := Nat.le_refl _
    clear hst hb3
    clear hlt3
    go_wp2_with fail
    refine (refGetStrs_any l _ _ _ _ _ hr hlt0 HLEN.out).mono ?_
    rintro e w5 hret
    obtain ⟨A5, n5, c5, rfl, _, hj, hst⟩ := hret.open
    have hb5 := below_call0 hb4 hst
    clear hret
    have hr := hr.below (hst.mono hlt0)
    have hi := hi.below (hst.mono hlt4)
    have hlt0 := Nat.le_trans hlt0 hst.size
    have hlt4 := Nat.le_trans hlt4 hst.size
    have hlt5 : w5.heap.size ≤ w5.heap.size := Nat.le_refl _
    clear hst hb4
    go_wp2_with fail
    refine (sameTexts_true _ _ _ _ _ _ _ _ _ _ hi hj).mono ?_
    rintro e w6 ⟨rfl, q, hw⟩
    have hst : Below w5.heap.size w5 w6 := by subst hw; exact below_drewN _ q
    have hb6 := below_call0 hb5 hst
    clear hw
    have hr := hr.below (hst.mono hlt0)
    have hi := hi.below (hst.mono hlt4)
    have hj := hj.below (hst.mono hlt5)
    have hlt0 := Nat.le_trans hlt0 hst.size
    have hlt4 := Nat.le_trans hlt4 hst.size
    have hlt5 := Nat.le_trans hlt5 hst.size
    have hlt6 : w6.heap.size ≤ w6.heap.size := Nat.le_refl _
    clear hst hb5
    clear hi hj
    go_wp2_with fail
    refine (getDigs_any l _ _ _ _ _ hr hlt0 HLEN.out).mono ?_
    rintro e w7 hret
    obtain ⟨A7, n7, c7, rfl, _, hi, hst⟩ := hret.open
    have hb7 := below_call0 hb6 hst
    clear hret
    have hr := hr.below (hst.mono hlt0)
    have hlt0 := Nat.le_trans hlt0 hst.size
    have hlt7 : w7.heap.size ≤ w7.heap.size := Nat.le_refl _
    clear hst hb6
    clear hlt6
    go_wp2_with fail
    refine (refGetDigs_any l _ _ _ _ _ hr hlt0 HLEN.out).mono ?_
    rintro e w8 hret
    obtain ⟨A8, n8, c8, rfl, _, hj, hst⟩ := hret.open
    have hb8 := below_call0 hb7 hst
    clear hret
    have hr := hr.below (hst.mono hlt0)
    have hi := hi.below (hst.mono hlt7)
    have hlt0 := Nat.le_trans hlt0 hst.size
    have hlt7 := Nat.le_trans hlt7 hst.size
    have hlt8 : w8.heap.size ≤ w8.heap.size := Nat.le_refl _
    clear hst hb7
    go_wp2_with fail
    refine (sanity_any _).mono ?_
    rintro e w9 ⟨rfl, hst⟩
    have hb9 := below_call0 hb8 hst
    have hr := hr.below (hst.mono hlt0)
    have hi := hi.below (hst.mono hlt7)
    have hj := hj.below (hst.mono hlt8)
    have hlt0 := Nat.le_trans hlt0 hst.size
    have hlt7 := Nat.le_trans hlt7 hst.size
    have hlt8 := Nat.le_trans hlt8 hst.size
    have hlt9 : w9.heap.size ≤ w9.heap.size := Nat.le_refl _
    clear hst hb8
    go_wp2_with fail
    refine (sameDigs_true _ _ _ _ _ _ _ _ _ _ hi hj).mono ?_
    rintro e w10 ⟨rfl, q, hw⟩
    have hst : Below w9.heap.size w9 w10 := by subst hw; exact below_drewN _ q
    have hb10 := below_call0 hb9 hst
    clear hw
    have hr := hr.below (hst.mono hlt0)
    have hi := hi.below (hst.mono hlt7)
    have hj := hj.below (hst.mono hlt8)
    have hlt0 := Nat.le_trans hlt0 hst.size
    have hlt7 := Nat.le_trans hlt7 hst.size
    have hlt8 := Nat.le_trans hlt8 hst.size
    have hlt10 : w10.heap.size ≤ w10.heap.size := Nat.le_refl _
    clear hst hb9
    clear hlt9
    go_wp2_with fail
    go_ret
    exact ⟨rfl, hb10⟩
end Go.Proofs.Ytelphmfdpnmncaa
