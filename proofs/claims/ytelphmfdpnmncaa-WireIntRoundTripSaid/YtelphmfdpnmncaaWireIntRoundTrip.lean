/-
  WireIntRoundTrip answers true, for every integer and every sequence of bytes that can be read.
-/
import Derived.Test.YtelphmfdpnmncaaSanity
import Derived.Test.YtelphmfdpnmncaaFull
import Derived.Test.YtelphmfdpnmncaaWireMath
namespace Go.Proofs.Ytelphmfdpnmncaa
open Go.RowKit

set_option maxRecDepth 100000 in
set_option maxHeartbeats 4000000 in
theorem walk_WireIntRoundTrip (n : Int) (l : List UInt8) (A : Option Addr) (m c : Nat) (w0 : World) (hi : -9223372036854775808 ≤ n ∧ n ≤ 9223372036854775807) (hr : Rd w0 w0.heap.size 1 A m c (bcs l)) (hm : m ≤ 140737488351232) :
    Calls Try.prog 6 #[.int .i64 n, .slice A m c] w0 (RetB w0 true) := by
  have hb0 : Below w0.heap.size w0 w0 := Below.refl _ _
  have hlt0 : w0.heap.size ≤ w0.heap.size := Nat.le_refl _
  by_cases hbig : 2000 < m
  · skip
    go_enter Try.func6, Try.ntmps6
    go_wp2_with fail
    refine (sanity_any _).mono ?_
    rintro e w1 ⟨rfl, hst⟩
    have hb1 := below_call0 hb0 hst
    have hlt1 : w1.heap.size ≤ w1.heap.size := Nat.le_refl _
    clear hst hb0
    clear hlt0
    go_wp2_with fail
    go_ret
    exact ⟨by first | rfl | (simp; done) | (simp; omega), hb1⟩
  · skip
    have hel := enc_len n
    have hep := enc_pos n
    have HD := Lib.hid (dec_enc n l hi)
    go_enter Try.func6, Try.ntmps6
    go_wp2_with fail
    refine (int_any n _ hi.1 hi.2).mono ?_
    rintro e w1 hret
    obtain ⟨A1, c1, rfl, _, hx, hst⟩ := hret.open
    have hb1 := below_call0 hb0 hst
    clear hret
    have hr := hr.below (hst.mono hlt0)
    have hlt0 := Nat.le_trans hlt0 hst.size
    have hlt1 : w1.heap.size ≤ w1.heap.size := Nat.le_refl _
    clear hst hb0
    go_wp2_with (with_reducible refine slHM (.tmp 16) (.tmp 18) (.tmp 20) (enc n).length (enc n).length Try.sl_u8 (wn rfl) rfl rfl rfl rfl hx rfl rfl (Nat.le_refl _) (Nat.le_refl _) hx.le ?_)
    intro A' hcut
    rw [List.take_of_length_le (by rw [bcs_length]; omega)] at hcut
    go_wp2_with (at_builtin; with_reducible refine appFull (.tmp 21) (.tmp 22) Try.sl_u8 (wn rfl) rfl rfl rfl hcut (hr.more hlt0) hlt1 hb1 hep (by omega) (by omega) ?_)
    intro A3 c3 w2 hz hb2 hst
    clear hx hcut hr hlt1 hlt0 hb1 hst
    rw [← bcs_append] at hz
    go_wp2_with fail
    refine (getInt_any (enc n ++ l) _ _ _ _ _ hz).mono ?_
    rintro e _ ⟨rfl, rfl⟩
    rw [HD.out]
    have hlt2 : w2.heap.size ≤ w2.heap.size := Nat.le_refl _
    go_wp2_with fail
    refine (sanity_any _).mono ?_
    rintro e w3 ⟨rfl, hst⟩
    have hb3 := below_call0 hb2 hst
    have hlt3 : w3.heap.size ≤ w3.heap.size := Nat.le_refl _
    clear hst hb2
    clear hlt2
    go_wp2_with fail
    go_ret
    exact ⟨by first | rfl | (simp; done) | (simp; omega), hb3⟩
end Go.Proofs.Ytelphmfdpnmncaa
