/-
  WireListRoundTrip answers true, for every text, lists and bytes that can be read.
-/
import Derived.Test.YtelphmfdpnmncaaSanity
import Derived.Test.YtelphmfdpnmncaaFull
import Derived.Test.YtelphmfdpnmncaaWireMath
import Derived.Test.YtelphmfdpnmncaaWireCut
namespace Go.Proofs.Ytelphmfdpnmncaa
open Go.RowKit

set_option maxRecDepth 100000 in
set_option maxHeartbeats 4000000 in
theorem walk_WireListRoundTrip (s : List UInt8) (l : List Int) (Al : Option Addr) (ml cl : Nat) (x : List (List UInt8)) (Ax : Option Addr) (mx cx : Nat) (D : List UInt8) (Ad : Option Addr) (md cd : Nat) (t : List UInt8) (At : Option Addr) (mt ct : Nat) (w0 : World) (hs : s.length ≤ 1048576) (hrl : Rd w0 w0.heap.size 1 Al ml cl (l.map iv)) (hml : ml ≤ 1048576) (hel : ∀ y ∈ l, isI64 y) (hrx : Rd w0 w0.heap.size 1 Ax mx cx (x.map sv)) (_hmx : mx ≤ 1048576) (hgx : x.length + total x ≤ 1048576) (hrd : Rd w0 w0.heap.size 16 Ad md cd (bcs D)) (hmd : md ≤ 1048576) (hrt : Rd w0 w0.heap.size 1 At mt ct (bcs t)) (hmt : mt ≤ 1048576) :
    Calls Try.prog 8 #[.string ⟨s.toArray⟩, .slice Al ml cl, .slice Ax mx cx, .slice Ad md cd, .slice At mt ct] w0 (RetB w0 true) := by
  have hb0 : Below w0.heap.size w0 w0 := Below.refl _ _
  have hlt0 : w0.heap.size ≤ w0.heap.size := Nat.le_refl _
  have hrx0 := hrx
  have hrl0 := hrl
  have hrd0 := hrd
  have hsz : (⟨s.toArray⟩ : ByteArray).size = s.length := by simp [ByteArray.size]
  have hle : (encI l).length ≤ 10 + 10 * ml := by
    have h1 := enc_len l.length
    have h2 := flat_le enc 10 enc_len l
    have h3 : l.length = ml := by have := hrl.len; simpa using this
    unfold encI; rw [List.length_append, ← h3]; omega
  have hlx : (encT x).length ≤ 10 + 10 * x.length + total x := encT_len x
  have hdl : D.length = md * 16 := by have := hrd.len; rwa [bcs_length] at this
  have hld : (encD md D).length ≤ 10 + 16 * md := by
    have h1 := enc_len md
    unfold encD; rw [List.length_append, hdl]; omega
  have htl : t.length = mt := by have := hrt.len; rwa [bcs_length, Nat.mul_one] at this
  have hls : (encS s).length ≤ 10 + s.length := by have := enc_len s.length; unfold encS; rw [List.length_append]; omega
  have hps := encS_pos s
  have hpl : 0 < (encI l).length := by have := enc_pos l.length; unfold encI; rw [List.length_append]; omega
  have hpx : 0 < (encT x).length := by have := enc_pos x.length; unfold encT; rw [List.length_append]; omega
  have hpd : 0 < (encD md D).length := by have := enc_pos md; unfold encD; rw [List.length_append]; omega
  have hll : l.length ≤ 9223372036854775807 := by have := hrl.len; simp at this; omega
  have HS := Lib.hid (decS_enc s t (by omega))
  have HI := Lib.hid (decI_enc l t hll hel)
  have HT := Lib.hid (decT_enc x t (by omega) (fun y hy => by have h := total_mem x y hy; have h2 : (x.map List.length).sum = total x := rfl; omega))
  have HD := Lib.hid (decD_enc md D t (by omega) hdl)
  have HTL := Lib.hid htl
  have HDL := Lib.hid hdl
  clear hll hdl htl
  by_cases hbig : 2000 < s.length + ml + md + mt
  · skip
    go_enter Try.func8, Try.ntmps8
    go_wp2_with fail
    refine (sanity_any _).mono ?_
    rintro e w1 ⟨rfl, hst⟩
    have hb1 := below_call0 hb0 hst
    have hlt1 : w1.heap.size ≤ w1.heap.size := Nat.le_refl _
    clear hst hb0
    clear hlt0
    go_wp2_with fail
    go_ret
    exact ⟨by first | rfl | (simp; done) | (simp; omega), hb1⟩
  · skip
    by_cases hfew : x.length + total x ≤ 2000
    rotate_left
    · skip
      have HF := Lib.hid (decide_eq_false hfew)
      go_enter Try.func8, Try.ntmps8
      go_wp2_with fail
      refine (few_any x _ _ _ _ _ hrx (by omega)).mono ?_
      rintro e _ ⟨rfl, rfl⟩
      rw [HF.out]
      go_wp2_with fail
      refine (sanity_any _).mono ?_
      rintro e w1 ⟨rfl, hst⟩
      have hb1 := below_call0 hb0 hst
      have hlt1 : w1.heap.size ≤ w1.heap.size := Nat.le_refl _
      clear hst hb0
      clear hlt0
      go_wp2_with fail
      go_ret
      exact ⟨by first | rfl | (simp; done) | (simp; omega), hb1⟩
    · skip
      have HF := Lib.hid (decide_eq_true hfew)
      go_enter Try.func8, Try.ntmps8
      go_wp2_with fail
      refine (few_any x _ _ _ _ _ hrx (by omega)).mono ?_
      rintro e _ ⟨rfl, rfl⟩
      rw [HF.out]
      go_wp2_with fail
      refine (bytes_any s _ (by omega)).mono ?_
      rintro e w1 hret
      obtain ⟨A1, c1, rfl, _, ha, hst⟩ := hret.open
      have hb1 := below_call0 hb0 hst
      clear hret
      have hrl := hrl.below (hst.mono hlt0)
      have hrx := hrx.below (hst.mono hlt0)
      have hrd := hrd.below (hst.mono hlt0)
      have hrt := hrt.below (hst.mono hlt0)
      have hlt0 := Nat.le_trans hlt0 hst.size
      have hlt1 : w1.heap.size ≤ w1.heap.size := Nat.le_refl _
      clear hst hb0
      go_wp2_with fail
      refine (ints_any l _ _ _ _ _ hrl hlt0 hel (by omega)).mono ?_
      rintro e w2 hret
      obtain ⟨A2, c2, rfl, _, hb, hst⟩ := hret.open
      have hb2 := below_call0 hb1 hst
      clear hret
      have hrl := hrl.below (hst.mono hlt0)
      have hrx := hrx.below (hst.mono hlt0)
      have hrd := hrd.below (hst.mono hlt0)
      have hrt := hrt.below (hst.mono hlt0)
      have ha := ha.below (hst.mono hlt1)
      have hlt0 := Nat.le_trans hlt0 hst.size
      have hlt1 := Nat.le_trans hlt1 hst.size
      have hlt2 : w2.heap.size ≤ w2.heap.size := Nat.le_refl _
      clear hst hb1
      clear hrl
      go_wp2_with fail
      refine (digs_any D _ _ _ _ _ hrd hlt0 (by omega)).mono ?_
      rintro e w3 hret
      obtain ⟨A3, c3, rfl, _, hc, hst⟩ := hret.open
      have hb3 := below_call0 hb2 hst
      clear hret
      have hrx := hrx.below (hst.mono hlt0)
      have hrd := hrd.below (hst.mono hlt0)
      have hrt := hrt.below (hst.mono hlt0)
      have ha := ha.below (hst.mono hlt1)
      have hb := hb.below (hst.mono hlt2)
      have hlt0 := Nat.le_trans hlt0 hst.size
      have hlt1 := Nat.le_trans hlt1 hst.size
      have hlt2 := Nat.le_trans hlt2 hst.size
      have hlt3 : w3.heap.size ≤ w3.heap.size := Nat.le_refl _
      clear hst hb2
      clear hrd
      go_wp2_with fail
      refine (strs_any x _ _ _ _ _ hrx hlt0 (by omega)).mono ?_
      rintro e w4 hret
      obtain ⟨A4, c4, rfl, _, ho, hst⟩ := hret.open
      have hb4 := below_call0 hb3 hst
      clear hret
      have hrx := hrx.below (hst.mono hlt0)
      have hrt := hrt.below (hst.mono hlt0)
      have ha := ha.below (hst.mono hlt1)
      have hb := hb.below (hst.mono hlt2)
      have hc := hc.below (hst.mono hlt3)
      have hlt0 := Nat.le_trans hlt0 hst.size
      have hlt1 := Nat.le_trans hlt1 hst.size
      have hlt2 := Nat.le_trans hlt2 hst.size
      have hlt3 := Nat.le_trans hlt3 hst.size
      have hlt4 : w4.heap.size ≤ w4.heap.size := Nat.le_refl _
      clear hst hb3
      clear hrx
      go_wp2_with (with_reducible refine slHM (.tmp 54) (.tmp 56) (.tmp 58) (encS s).length (encS s).length Try.sl_u8 (wn rfl) rfl rfl rfl rfl ha rfl rfl (Nat.le_refl _) (Nat.le_refl _) ha.le ?_)
      intro A' hcut
      rw [List.take_of_length_le (by rw [bcs_length]; omega)] at hcut
      go_wp2_with (at_builtin; with_reducible refine appFull (.tmp 59) (.tmp 60) Try.sl_u8 (wn rfl) rfl rfl rfl hcut (hrt.more hlt0) hlt1 hb4 (by omega) (by omega) (by omega) ?_)
      intro A3 c3 w5 hz hb5 hst
      clear hcut ha
      rw [← bcs_append] at hz
      have hrt := hrt.below (hst.mono hlt0)
      have hb := hb.below (hst.mono hlt2)
      have hc := hc.below (hst.mono hlt3)
      have ho := ho.below (hst.mono hlt4)
      have hlt0 := Nat.le_trans hlt0 hst.size
      have hlt2 := Nat.le_trans hlt2 hst.size
      have hlt3 := Nat.le_trans hlt3 hst.size
      have hlt4 := Nat.le_trans hlt4 hst.size
      have hlt5 : w5.heap.size ≤ w5.heap.size := Nat.le_refl _
      clear hst hb4
      go_wp2_with fail
      refine (getBytes_any (encS s ++ t) _ _ _ _ _ hz).mono ?_
      rintro e _ ⟨rfl, rfl⟩
      rw [HS.out]
      unfold sv
      clear hz
      go_wp2_with (with_reducible refine slHM (.tmp 67) (.tmp 69) (.tmp 71) (encI l).length (encI l).length Try.sl_u8 (wn rfl) rfl rfl rfl rfl hb rfl rfl (Nat.le_refl _) (Nat.le_refl _) hb.le ?_)
      intro A' hcut
      rw [List.take_of_length_le (by rw [bcs_length]; omega)] at hcut
      go_wp2_with (at_builtin; with_reducible refine appFull (.tmp 72) (.tmp 73) Try.sl_u8 (wn rfl) rfl rfl rfl hcut (hrt.more hlt0) hlt2 hb5 (by omega) (by omega) (by omega) ?_)
      intro A3 c3 w6 hz hb6 hst
      clear hcut hb
      rw [← bcs_append] at hz
      have hrt := hrt.below (hst.mono hlt0)
      have hc := hc.below (hst.mono hlt3)
      have ho := ho.below (hst.mono hlt4)
      have hlt0 := Nat.le_trans hlt0 hst.size
      have hlt3 := Nat.le_trans hlt3 hst.size
      have hlt4 := Nat.le_trans hlt4 hst.size
      have hlt6 : w6.heap.size ≤ w6.heap.size := Nat.le_refl _
      clear hst hb5
      clear hlt5
      go_wp2_with fail
      refine (getInts_any (encI l ++ t) _ _ _ _ _ hz hlt6 (by rw [List.length_append, HTL.out]; omega)).mono ?_
      rintro e w7 hret
      rw [HI.out] at hret
      obtain ⟨A7, n7, c7, rfl, _, hk, hst⟩ := hret.open
      have hb7 := below_call0 hb6 hst
      clear hret
      have hrt := hrt.below (hst.mono hlt0)
      have hc := hc.below (hst.mono hlt3)
      have ho := ho.below (hst.mono hlt4)
      have hz := hz.below (hst.mono hlt6)
      have hlt0 := Nat.le_trans hlt0 hst.size
      have hlt3 := Nat.le_trans hlt3 hst.size
      have hlt4 := Nat.le_trans hlt4 hst.size
      have hlt6 := Nat.le_trans hlt6 hst.size
      have hlt7 : w7.heap.size ≤ w7.heap.size := Nat.le_refl _
      clear hst hb6
      clear hz
      go_wp2_with (with_reducible refine slHM (.tmp 80) (.tmp 82) (.tmp 84) (encD md D).length (encD md D).length Try.sl_u8 (wn rfl) rfl rfl rfl rfl hc rfl rfl (Nat.le_refl _) (Nat.le_refl _) hc.le ?_)
      intro A' hcut
      rw [List.take_of_length_le (by rw [bcs_length]; omega)] at hcut
      go_wp2_with (at_builtin; with_reducible refine appFull (.tmp 85) (.tmp 86) Try.sl_u8 (wn rfl) rfl rfl rfl hcut (hrt.more hlt0) hlt3 hb7 (by omega) (by omega) (by omega) ?_)
      intro A3 c3 w8 hz hb8 hst
      clear hcut hc
      rw [← bcs_append] at hz
      have hrt := hrt.below (hst.mono hlt0)
      have ho := ho.below (hst.mono hlt4)
      have hk := hk.below (hst.mono hlt7)
      have hlt0 := Nat.le_trans hlt0 hst.size
      have hlt4 := Nat.le_trans hlt4 hst.size
      have hlt7 := Nat.le_trans hlt7 hst.size
      have hlt8 : w8.heap.size ≤ w8.heap.size := Nat.le_refl _
      clear hst hb7
      go_wp2_with fail
      refine (getDigs_any (encD md D ++ t) _ _ _ _ _ hz hlt8 (by rw [List.length_append, HTL.out]; omega)).mono ?_
      rintro e w9 hret
      rw [HD.out] at hret
      obtain ⟨A9, n9, c9, rfl, _, hy, hst⟩ := hret.open
      have hb9 := below_call0 hb8 hst
      clear hret
      have hrt := hrt.below (hst.mono hlt0)
      have ho := ho.below (hst.mono hlt4)
      have hk := hk.below (hst.mono hlt7)
      have hz := hz.below (hst.mono hlt8)
      have hlt0 := Nat.le_trans hlt0 hst.size
      have hlt4 := Nat.le_trans hlt4 hst.size
      have hlt7 := Nat.le_trans hlt7 hst.size
      have hlt8 := Nat.le_trans hlt8 hst.size
      have hlt9 : w9.heap.size ≤ w9.heap.size := Nat.le_refl _
      clear hst hb8
      clear hz
      go_wp2_with (with_reducible refine slHM (.tmp 93) (.tmp 95) (.tmp 97) (encT x).length (encT x).length Try.sl_u8 (wn rfl) rfl rfl rfl rfl ho rfl rfl (Nat.le_refl _) (Nat.le_refl _) ho.le ?_)
      intro A' hcut
      rw [List.take_of_length_le (by rw [bcs_length]; omega)] at hcut
      go_wp2_with (at_builtin; with_reducible refine appFull (.tmp 98) (.tmp 99) Try.sl_u8 (wn rfl) rfl rfl rfl hcut (hrt.more hlt0) hlt4 hb9 (by omega) (by omega) (by omega) ?_)
      intro A3 c3 w10 hz hb10 hst
      clear hcut ho
      clear hrt
      rw [← bcs_append] at hz
      have hk := hk.below (hst.mono hlt7)
      have hy := hy.below (hst.mono hlt9)
      have hlt7 := Nat.le_trans hlt7 hst.size
      have hlt9 := Nat.le_trans hlt9 hst.size
      have hlt10 : w10.heap.size ≤ w10.heap.size := Nat.le_refl _
      clear hst hb9
      go_wp2_with fail
      refine (getStrs_any (encT x ++ t) _ _ _ _ _ hz hlt10 (by rw [List.length_append, HTL.out]; omega)).mono ?_
      rintro e w11 hret
      rw [HT.out] at hret
      obtain ⟨A11, n11, c11, rfl, _, hzz, hst⟩ := hret.open
      have hb11 := below_call0 hb10 hst
      clear hret
      have hk := hk.below (hst.mono hlt7)
      have hy := hy.below (hst.mono hlt9)
      have hz := hz.below (hst.mono hlt10)
      have hlt10 := Nat.le_trans hlt10 hst.size
      have hlt7 := Nat.le_trans hlt7 hst.size
      have hlt9 := Nat.le_trans hlt9 hst.size
      have hlt11 : w11.heap.size ≤ w11.heap.size := Nat.le_refl _
      clear hst hb10
      clear hz
      go_wp2_with fail
      refine (sanity_any _).mono ?_
      rintro e w12 ⟨rfl, hst⟩
      have hb12 := below_call0 hb11 hst
      have hk := hk.below (hst.mono hlt7)
      have hy := hy.below (hst.mono hlt9)
      have hzz := hzz.below (hst.mono hlt11)
      have hlt11 := Nat.le_trans hlt11 hst.size
      have hlt7 := Nat.le_trans hlt7 hst.size
      have hlt9 := Nat.le_trans hlt9 hst.size
      have hlt12 : w12.heap.size ≤ w12.heap.size := Nat.le_refl _
      clear hst hb11
      go_wp2_with fail
      refine (sameTexts_true x _ _ _ _ _ _ _ _ _ hzz (hrx0.below hb12)).mono ?_
      rintro e w13 ⟨rfl, q, hw⟩
      have hst : Below w12.heap.size w12 w13 := by subst hw; exact below_drewN _ q
      have hb13 := below_call0 hb12 hst
      clear hw
      have hk := hk.below (hst.mono hlt7)
      have hy := hy.below (hst.mono hlt9)
      have hzz := hzz.below (hst.mono hlt11)
      have hlt11 := Nat.le_trans hlt11 hst.size
      have hlt7 := Nat.le_trans hlt7 hst.size
      have hlt9 := Nat.le_trans hlt9 hst.size
      have hlt13 : w13.heap.size ≤ w13.heap.size := Nat.le_refl _
      clear hst hb12
      clear hlt12
      go_wp2_with fail
      refine (sameInts_true l _ _ _ _ _ _ _ _ _ hk (hrl0.below hb13)).mono ?_
      rintro e w14 ⟨rfl, q, hw⟩
      have hst : Below w13.heap.size w13 w14 := by subst hw; exact below_drewN _ q
      have hb14 := below_call0 hb13 hst
      clear hw
      have hk := hk.below (hst.mono hlt7)
      have hy := hy.below (hst.mono hlt9)
      have hzz := hzz.below (hst.mono hlt11)
      have hlt11 := Nat.le_trans hlt11 hst.size
      have hlt7 := Nat.le_trans hlt7 hst.size
      have hlt9 := Nat.le_trans hlt9 hst.size
      have hlt14 : w14.heap.size ≤ w14.heap.size := Nat.le_refl _
      clear hst hb13
      clear hlt13
      go_wp2_with fail
      refine (sameDigs_true D _ _ _ _ _ _ _ _ _ hy (hrd0.below hb14)).mono ?_
      rintro e w15 ⟨rfl, q, hw⟩
      have hst : Below w14.heap.size w14 w15 := by subst hw; exact below_drewN _ q
      have hb15 := below_call0 hb14 hst
      clear hw
      have hk := hk.below (hst.mono hlt7)
      have hy := hy.below (hst.mono hlt9)
      have hzz := hzz.below (hst.mono hlt11)
      have hlt11 := Nat.le_trans hlt11 hst.size
      have hlt7 := Nat.le_trans hlt7 hst.size
      have hlt9 := Nat.le_trans hlt9 hst.size
      have hlt15 : w15.heap.size ≤ w15.heap.size := Nat.le_refl _
      clear hst hb14
      clear hlt14
      go_wp2_with fail
      go_ret
      exact ⟨by first | rfl | (simp; done) | (simp; omega), hb15⟩
end Go.Proofs.Ytelphmfdpnmncaa
