/-
  WireConcat answers true, for every text and list of integers that can be read.
-/
import Derived.Test.YtelphmfdpnmncaaSanity
import Derived.Test.YtelphmfdpnmncaaFull
import Derived.Test.YtelphmfdpnmncaaWireMath
namespace Go.Proofs.Ytelphmfdpnmncaa
open Go.RowKit

set_option maxRecDepth 100000 in
set_option maxHeartbeats 4000000 in
theorem walk_WireConcat (s : List UInt8) (l : List Int) (A : Option Addr) (m c : Nat) (w0 : World) (hs : s.length ≤ 140737488351232) (hr : Rd w0 w0.heap.size 1 A m c (l.map iv)) (hm : m ≤ 140737488351232) (hl : ∀ x ∈ l, isI64 x) :
    Calls Try.prog 10 #[.string ⟨s.toArray⟩, .slice A m c] w0 (RetB w0 true) := by
  have hb0 : Below w0.heap.size w0 w0 := Below.refl _ _
  have hlt0 : w0.heap.size ≤ w0.heap.size := Nat.le_refl _
  have hr0 := hr
  have hll : l.length = m := by have := hr.len; simpa using this
  have hsz : (⟨s.toArray⟩ : ByteArray).size = s.length := by simp [ByteArray.size]
  have HLL := Lib.hid hll
  clear hll
  by_cases hbig : 2000 < s.length + m
  · skip
    go_enter Try.func10, Try.ntmps10
    go_wp2_with fail
    refine (sanity_any _).mono ?_
    rintro e w1 ⟨rfl, hst⟩
    have hb1 := below_call0 hb0 hst
    have hlt1 : w1.heap.size ≤ w1.heap.size := Nat.le_refl _
    clear hst hb0
    clear hlt0
    go_wp2_with fail
    go_ret
    exact ⟨by first | rfl | (simp; done) | (simp; omega), hb1⟩
  · skip
    have HS := Lib.hid (decS_enc s (encI l) (by omega))
    have HI := Lib.hid (by have := decI_enc l [] (by have := HLL.out; omega) hl; rwa [List.append_nil] at this : decI (encI l) = (l, ((encI l).length : Int), 0))
    have hli : (encI l).length ≤ 20010 := by
      have h1 := enc_len l.length
      have h2 := flat_le enc 10 enc_len l
      have := HLL.out
      unfold encI; rw [List.length_append]; omega
    have hls : (encS s).length ≤ 2010 := by have := enc_len s.length; unfold encS; rw [List.length_append]; omega
    have hsp := encS_pos s
    go_enter Try.func10, Try.ntmps10
    go_wp2_with fail
    refine (bytes_any s _ (by omega)).mono ?_
    rintro e w1 ⟨v1, rfl, hown, hb1⟩
    have hr := hr.below hb1
    have hlt0 := Nat.le_trans hlt0 hb1.size
    go_wp2_with fail
    refine (ints_any l _ _ _ _ _ hr hlt0 hl (by omega)).mono ?_
    rintro e w2 hret
    obtain ⟨A2, c2, rfl, _, hx, hst⟩ := hret.open
    have hb2 := below_call0 hb1 hst
    have hown := ownsRow_below hown hst (Nat.le_refl _)
    clear hret hst hb1
    go_wp2_with (at_builtin; with_reducible refine appR _ _ Try.sl_u8 (wn rfl) rfl rfl rfl hown hx (bcs_one _) hb2 (Nat.le_refl _) (by omega) (by omega) ?_)
    intro v3 w3 hown3 hb3 _
    clear hown hx hb2
    rw [← bcs_append] at hown3
    obtain ⟨A3, c3, rfl, hz⟩ := Rd.of_own hown3
    clear hown3 hr hlt0
    have hlt3 : w3.heap.size ≤ w3.heap.size := Nat.le_refl _
    go_wp2_with fail
    refine (getBytes_any (encS s ++ encI l) _ _ _ _ _ hz).mono ?_
    rintro e _ ⟨rfl, rfl⟩
    rw [HS.out]
    unfold sv
    go_wp2_with (with_reducible refine slL (.tmp 43) (.tmp 44) (encS s).length Try.sl_u8 (wn rfl) rfl rfl rfl hz rfl (by omega) ?_)
    intro A4 hcut
    have hcut2 : Rd w3 w3.heap.size 1 A4 (encI l).length (c3 - (encS s).length) (bcs (encI l)) := by
      have h := hcut
      rw [cut_cat] at h
      exact h
    clear hcut hz
    go_wp2_with fail
    refine (getInts_any (encI l) _ _ _ _ _ hcut2 hlt3 (by omega)).mono ?_
    rintro e w4 hret
    rw [HI.out] at hret
    obtain ⟨A4, n4, c4, rfl, _, hk, hst⟩ := hret.open
    have hb4 := below_call0 hb3 hst
    clear hret
    have hcut2 := hcut2.below (hst.mono hlt3)
    have hlt3 := Nat.le_trans hlt3 hst.size
    have hlt4 : w4.heap.size ≤ w4.heap.size := Nat.le_refl _
    clear hst hb3
    clear hcut2
    go_wp2_with fail
    refine (sanity_any _).mono ?_
    rintro e w5 ⟨rfl, hst⟩
    have hb5 := below_call0 hb4 hst
    have hk := hk.below (hst.mono hlt4)
    have hlt4 := Nat.le_trans hlt4 hst.size
    have hlt5 : w5.heap.size ≤ w5.heap.size := Nat.le_refl _
    clear hst hb4
    have hr := hr0.below hb5
    go_wp2_with fail
    refine (sameInts_true l _ _ _ _ _ _ _ _ _ hk hr).mono ?_
    rintro e w6 ⟨rfl, q, hw⟩
    have hst : Below w5.heap.size w5 w6 := by subst hw; exact below_drewN _ q
    have hb6 := below_call0 hb5 hst
    clear hw
    have hk := hk.below (hst.mono hlt4)
    have hlt4 := Nat.le_trans hlt4 hst.size
    have hlt6 : w6.heap.size ≤ w6.heap.size := Nat.le_refl _
    clear hst hb5
    clear hlt5
    go_wp2_with fail
    go_ret
    exact ⟨by first | rfl | (simp; done) | (simp; omega), hb6⟩
end Go.Proofs.Ytelphmfdpnmncaa
