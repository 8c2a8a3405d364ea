/-
  WireEncodeMatchesSpec answers true, for every integer, text and lists that can be read.
-/
import Derived.Test.YtelphmfdpnmncaaSanity
import Derived.Test.YtelphmfdpnmncaaFull
import Derived.Test.YtelphmfdpnmncaaWireMath
import Derived.Test.YtelphmfdpnmncaaWireCut
namespace Go.Proofs.Ytelphmfdpnmncaa
open Go.RowKit

set_option maxRecDepth 100000 in
set_option maxHeartbeats 4000000 in
theorem walk_WireEncodeMatchesSpec (n : Int) (s : List UInt8) (l : List Int) (Al : Option Addr) (ml cl : Nat) (x : List (List UInt8)) (Ax : Option Addr) (mx cx : Nat) (D : List UInt8) (Ad : Option Addr) (md cd : Nat) (w0 : World) (hi : -9223372036854775808 ≤ n ∧ n ≤ 9223372036854775807) (hs : s.length ≤ 1048576) (hrl : Rd w0 w0.heap.size 1 Al ml cl (l.map iv)) (hml : ml ≤ 1048576) (hel : ∀ y ∈ l, isI64 y) (hrx : Rd w0 w0.heap.size 1 Ax mx cx (x.map sv)) (_hmx : mx ≤ 1048576) (hgx : x.length + total x ≤ 1048576) (hrd : Rd w0 w0.heap.size 16 Ad md cd (bcs D)) (hmd : md ≤ 1048576) :
    Calls Try.prog 3 #[.int .i64 n, .string ⟨s.toArray⟩, .slice Al ml cl, .slice Ax mx cx, .slice Ad md cd] w0 (RetB w0 true) := by
  have hb0 : Below w0.heap.size w0 w0 := Below.refl _ _
  have hlt0 : w0.heap.size ≤ w0.heap.size := Nat.le_refl _
  have hsz : (⟨s.toArray⟩ : ByteArray).size = s.length := by simp [ByteArray.size]
  have hle : (encI l).length ≤ 10 + 10 * ml := by
    have h1 := enc_len l.length
    have h2 := flat_le enc 10 enc_len l
    have h3 : l.length = ml := by have := hrl.len; simpa using this
    unfold encI; rw [List.length_append, ← h3]; omega
  have hlx : (encT x).length ≤ 10 + 10 * x.length + total x := encT_len x
  have hld : (encD md D).length ≤ 10 + 16 * md := by
    have h1 := enc_len md
    have h3 : D.length = md * 16 := by have := hrd.len; rwa [bcs_length] at this
    unfold encD; rw [List.length_append, h3]; omega
  by_cases hbig : 2000 < s.length + ml + md
  · skip
    go_enter Try.func3, Try.ntmps3
    go_wp2_with fail
    refine (sanity_any _).mono ?_
    rintro e w1 ⟨rfl, hst⟩
    have hb1 := below_call0 hb0 hst
    have hlt1 : w1.heap.size ≤ w1.heap.size := Nat.le_refl _
    clear hst hb0
    clear hlt0
    go_wp2_with fail
    go_ret
    exact ⟨by first | rfl | (simp; done) | (simp; omega), hb1⟩
  · skip
    by_cases hfew : x.length + total x ≤ 2000
    rotate_left
    · skip
      have HF := Lib.hid (decide_eq_false hfew)
      go_enter Try.func3, Try.ntmps3
      go_wp2_with fail
      refine (few_any x _ _ _ _ _ hrx (by omega)).mono ?_
      rintro e _ ⟨rfl, rfl⟩
      rw [HF.out]
      go_wp2_with fail
      refine (sanity_any _).mono ?_
      rintro e w1 ⟨rfl, hst⟩
      have hb1 := below_call0 hb0 hst
      have hlt1 : w1.heap.size ≤ w1.heap.size := Nat.le_refl _
      clear hst hb0
      clear hlt0
      go_wp2_with fail
      go_ret
      exact ⟨by first | rfl | (simp; done) | (simp; omega), hb1⟩
    · skip
      have HF := Lib.hid (decide_eq_true hfew)
      have hle := Lib.hid (show (encI l).length ≤ 70368744177664 by omega)
      have hlx := Lib.hid (show (encT x).length ≤ 70368744177664 by omega)
      have hld := Lib.hid (show (encD md D).length ≤ 70368744177664 by omega)
      go_enter Try.func3, Try.ntmps3
      go_wp2_with fail
      refine (few_any x _ _ _ _ _ hrx (by omega)).mono ?_
      rintro e _ ⟨rfl, rfl⟩
      rw [HF.out]
      go_wp2_with fail
      refine (sanity_any _).mono ?_
      rintro e w1 ⟨rfl, hst⟩
      have hb1 := below_call0 hb0 hst
      have hrl := hrl.below (hst.mono hlt0)
      have hrx := hrx.below (hst.mono hlt0)
      have hrd := hrd.below (hst.mono hlt0)
      have hlt0 := Nat.le_trans hlt0 hst.size
      have hlt1 : w1.heap.size ≤ w1.heap.size := Nat.le_refl _
      clear hst hb0
      go_wp2_with fail
      refine (int_any n _ hi.1 hi.2).mono ?_
      rintro e w2 hret
      obtain ⟨A2, c2, rfl, _, ha, hst⟩ := hret.open
      have hb2 := below_call0 hb1 hst
      clear hret
      have hrl := hrl.below (hst.mono hlt0)
      have hrx := hrx.below (hst.mono hlt0)
      have hrd := hrd.below (hst.mono hlt0)
      have hlt0 := Nat.le_trans hlt0 hst.size
      have hlt2 : w2.heap.size ≤ w2.heap.size := Nat.le_refl _
      clear hst hb1
      clear hlt1
      go_wp2_with fail
      refine (refInt_any n _ hi.1 hi.2).mono ?_
      rintro e w3 hret
      obtain ⟨A3, c3, rfl, _, hb, hst⟩ := hret.open
      have hb3 := below_call0 hb2 hst
      clear hret
      have hrl := hrl.below (hst.mono hlt0)
      have hrx := hrx.below (hst.mono hlt0)
      have hrd := hrd.below (hst.mono hlt0)
      have ha := ha.below (hst.mono hlt2)
      have hlt0 := Nat.le_trans hlt0 hst.size
      have hlt2 := Nat.le_trans hlt2 hst.size
      have hlt3 : w3.heap.size ≤ w3.heap.size := Nat.le_refl _
      clear hst hb2
      go_wp2_with fail
      refine (same_true _ _ _ _ _ _ _ _ _ _ ha hb).mono ?_
      rintro e _ ⟨rfl, rfl⟩
      clear ha hb
      go_wp2_with fail
      refine (bytes_any s _ (by omega)).mono ?_
      rintro e w4 hret
      obtain ⟨A4, c4, rfl, _, ha, hst⟩ := hret.open
      have hb4 := below_call0 hb3 hst
      clear hret
      have hrl := hrl.below (hst.mono hlt0)
      have hrx := hrx.below (hst.mono hlt0)
      have hrd := hrd.below (hst.mono hlt0)
      have hlt0 := Nat.le_trans hlt0 hst.size
      have hlt4 : w4.heap.size ≤ w4.heap.size := Nat.le_refl _
      clear hst hb3
      clear hlt3
      go_wp2_with fail
      refine (refBytes_any s _ (by omega)).mono ?_
      rintro e w5 hret
      obtain ⟨A5, c5, rfl, _, hb, hst⟩ := hret.open
      have hb5 := below_call0 hb4 hst
      clear hret
      have hrl := hrl.below (hst.mono hlt0)
      have hrx := hrx.below (hst.mono hlt0)
      have hrd := hrd.below (hst.mono hlt0)
      have ha := ha.below (hst.mono hlt4)
      have hlt0 := Nat.le_trans hlt0 hst.size
      have hlt4 := Nat.le_trans hlt4 hst.size
      have hlt5 : w5.heap.size ≤ w5.heap.size := Nat.le_refl _
      clear hst hb4
      go_wp2_with fail
      refine (same_true _ _ _ _ _ _ _ _ _ _ ha hb).mono ?_
      rintro e _ ⟨rfl, rfl⟩
      clear ha hb
      go_wp2_with fail
      refine (ints_any l _ _ _ _ _ hrl hlt0 hel hle.out).mono ?_
      rintro e w6 hret
      obtain ⟨A6, c6, rfl, _, ha, hst⟩ := hret.open
      have hb6 := below_call0 hb5 hst
      clear hret
      have hrl := hrl.below (hst.mono hlt0)
      have hrx := hrx.below (hst.mono hlt0)
      have hrd := hrd.below (hst.mono hlt0)
      have hlt0 := Nat.le_trans hlt0 hst.size
      have hlt6 : w6.heap.size ≤ w6.heap.size := Nat.le_refl _
      clear hst hb5
      clear hlt5
      go_wp2_with fail
      refine (refInts_any l _ _ _ _ _ hrl hlt0 hel hle.out).mono ?_
      rintro e w7 hret
      obtain ⟨A7, c7, rfl, _, hb, hst⟩ := hret.open
      have hb7 := below_call0 hb6 hst
      clear hret
      have hrl := hrl.below (hst.mono hlt0)
      have hrx := hrx.below (hst.mono hlt0)
      have hrd := hrd.below (hst.mono hlt0)
      have ha := ha.below (hst.mono hlt6)
      have hlt0 := Nat.le_trans hlt0 hst.size
      have hlt6 := Nat.le_trans hlt6 hst.size
      have hlt7 : w7.heap.size ≤ w7.heap.size := Nat.le_refl _
      clear hst hb6
      go_wp2_with fail
      refine (same_true _ _ _ _ _ _ _ _ _ _ ha hb).mono ?_
      rintro e _ ⟨rfl, rfl⟩
      clear ha hb hrl
      go_wp2_with fail
      refine (strs_any x _ _ _ _ _ hrx hlt0 hlx.out).mono ?_
      rintro e w8 hret
      obtain ⟨A8, c8, rfl, _, ha, hst⟩ := hret.open
      have hb8 := below_call0 hb7 hst
      clear hret
      have hrx := hrx.below (hst.mono hlt0)
      have hrd := hrd.below (hst.mono hlt0)
      have hlt0 := Nat.le_trans hlt0 hst.size
      have hlt8 : w8.heap.size ≤ w8.heap.size := Nat.le_refl _
      clear hst hb7
      clear hlt7
      go_wp2_with fail
      refine (refStrs_any x _ _ _ _ _ hrx hlt0 hlx.out).mono ?_
      rintro e w9 hret
      obtain ⟨A9, c9, rfl, _, hb, hst⟩ := hret.open
      have hb9 := below_call0 hb8 hst
      clear hret
      have hrx := hrx.below (hst.mono hlt0)
      have hrd := hrd.below (hst.mono hlt0)
      have ha := ha.below (hst.mono hlt8)
      have hlt0 := Nat.le_trans hlt0 hst.size
      have hlt8 := Nat.le_trans hlt8 hst.size
      have hlt9 : w9.heap.size ≤ w9.heap.size := Nat.le_refl _
      clear hst hb8
      go_wp2_with fail
      refine (same_true _ _ _ _ _ _ _ _ _ _ ha hb).mono ?_
      rintro e _ ⟨rfl, rfl⟩
      clear ha hb hrx
      go_wp2_with fail
      refine (digs_any D _ _ _ _ _ hrd hlt0 hld.out).mono ?_
      rintro e w10 hret
      obtain ⟨A10, c10, rfl, _, ha, hst⟩ := hret.open
      have hb10 := below_call0 hb9 hst
      clear hret
      have hrd := hrd.below (hst.mono hlt0)
      have hlt0 := Nat.le_trans hlt0 hst.size
      have hlt10 : w10.heap.size ≤ w10.heap.size := Nat.le_refl _
      clear hst hb9
      clear hlt9
      go_wp2_with fail
      refine (refDigs_any D _ _ _ _ _ hrd hlt0 hld.out).mono ?_
      rintro e w11 hret
      obtain ⟨A11, c11, rfl, _, hb, hst⟩ := hret.open
      have hb11 := below_call0 hb10 hst
      clear hret
      have hrd := hrd.below (hst.mono hlt0)
      have ha := ha.below (hst.mono hlt10)
      have hlt0 := Nat.le_trans hlt0 hst.size
      have hlt10 := Nat.le_trans hlt10 hst.size
      have hlt11 : w11.heap.size ≤ w11.heap.size := Nat.le_refl _
      clear hst hb10
      go_wp2_with fail
      refine (same_true _ _ _ _ _ _ _ _ _ _ ha hb).mono ?_
      rintro e _ ⟨rfl, rfl⟩
      clear ha hb
      go_wp2_with fail
      go_ret
      exact ⟨by first | rfl | (simp; done) | (simp; omega), hb11⟩
end Go.Proofs.Ytelphmfdpnmncaa
