/-
  sanity answers true; nothing that was there has turned.
-/
import Derived.Test.YtelphmfdpnmncaaFew
namespace Go.Proofs.Ytelphmfdpnmncaa
open Go.RowKit

/-- A call that answers b and leaves what was there as it was. -/
def RetB (w : World) (b : Bool) (e : Ending) (w' : World) : Prop := e = .returned (.bool b) ∧ Below w.heap.size w w'

theorem RetL.open {w : World} {e : TypeId} {size : Nat} {xs : List Value} {u err : Int} {en : Ending} {w' : World} (h : RetL w e size xs u err en w') :
    ∃ A n c, en = .returned (.tuple #[.slice A n c, .int .i64 u, .int .i64 err]) ∧ w'.ownsRow w.heap.size e size (.slice A n c) n xs ∧ Rd w' w'.heap.size size A n c xs ∧ Below w.heap.size w w' := by
  obtain ⟨v, n, rfl, hown, hb⟩ := h
  obtain ⟨A, c, rfl, hr⟩ := Rd.of_own hown
  exact ⟨A, n, c, rfl, hown, hr, hb⟩

theorem below_step {w wa wb : World} {o : Obj} (hb : Below w.heap.size w wa) (h : wa.alloc o = wb) : Below w.heap.size w wb ∧ Below wa.heap.size wa wb := by
  subst h; exact ⟨hb.alloc hb.size _, (Below.refl _ _).alloc (Nat.le_refl _) _⟩
theorem slitI (w : World) : Rd (w.alloc (.cells #[.int .i64 1, .int .i64 (-1)] 3)) (w.heap.size + 1) 1 (some ⟨w.heap.size, 0, none⟩) 2 2 (([1, -1] : List Int).map iv) := rd_agg w [iv 1, iv (-1)] _ (by decide)
theorem slitS (w : World) : Rd (w.alloc (.cells #[.string ⟨#[]⟩, .string ⟨#[97]⟩] 9)) (w.heap.size + 1) 1 (some ⟨w.heap.size, 0, none⟩) 2 2 (([[], [97]] : List (List UInt8)).map sv) := rd_agg w [sv [], sv [97]] _ (by decide)
theorem below_call {w wa wb : World} {o : Obj} (hb : Below w.heap.size w wa) (h : Below (wa.alloc o).heap.size (wa.alloc o) wb) : Below w.heap.size w wb ∧ Below wa.heap.size wa wb :=
  ⟨(hb.alloc hb.size _).trans (h.mono (by have := hb.size; simp; omega)), ((Below.refl _ _).alloc (Nat.le_refl _) _).trans (h.mono (by simp))⟩
theorem below_call0 {w wa wb : World} (hb : Below w.heap.size w wa) (h : Below wa.heap.size wa wb) : Below w.heap.size w wb := hb.trans (h.mono hb.size)
theorem Rd.known {w : World} {B b off size n c : Nat} {xs : List Value} (h : Rd w B size (some ⟨b, off, none⟩) n c xs) (hn : 0 < n * size) : b < B ∧ ∀ j u, xs[j]? = some u → w.cell? ⟨b, off + j, none⟩ = some u := by
  obtain ⟨b', off', e, hb, hc⟩ := h.cells hn
  injection e with e
  injection e with e1 e2 e3
  subst e1; subst e2
  exact ⟨hb, hc⟩
/-- The digest of the examples. -/
def sD : List UInt8 := [1, 2, 0, 0, 0, 0, 0, 0, 0, 0, 0, 0, 0, 0, 0, 0]
theorem se1 : encT [[], [97]] = [4, 0, 2, 97] := by decide
theorem se2 : enc (-65) = [129, 1] := by decide
theorem se3 : encS [97, 98] = [4, 97, 98] := by decide
theorem se4 : encI [1, -1] = [4, 2, 1] := by decide
theorem sd8 : decD (encD 1 sD) = (sD, 17, 0) := by decide
theorem slit0 (w : World) : Rd (w.alloc (.cells #[.int .u8 128, .int .u8 1, .int .u8 9] 5)) (w.heap.size + 1) 1 (some ⟨w.heap.size, 0, none⟩) 3 3 (bcs [128, 1, 9]) := rd_agg w [bc 128, bc 1, bc 9] _ (by decide)
theorem slit1 (w : World) : Rd (w.alloc (.cells #[.int .u8 128] 5)) (w.heap.size + 1) 1 (some ⟨w.heap.size, 0, none⟩) 1 1 (bcs [128]) := rd_agg w [bc 128] _ (by decide)
theorem slit2 (w : World) : Rd (w.alloc (.cells #[.int .u8 128, .int .u8 0] 5)) (w.heap.size + 1) 1 (some ⟨w.heap.size, 0, none⟩) 2 2 (bcs [128, 0]) := rd_agg w [bc 128, bc 0] _ (by decide)
theorem slit3 (w : World) : Rd (w.alloc (.cells #[.int .u8 4, .int .u8 97, .int .u8 98, .int .u8 7] 5)) (w.heap.size + 1) 1 (some ⟨w.heap.size, 0, none⟩) 4 4 (bcs [4, 97, 98, 7]) := rd_agg w [bc 4, bc 97, bc 98, bc 7] _ (by decide)
theorem slit4 (w : World) : Rd (w.alloc (.cells #[.int .u8 4, .int .u8 2, .int .u8 1] 5)) (w.heap.size + 1) 1 (some ⟨w.heap.size, 0, none⟩) 3 3 (bcs [4, 2, 1]) := rd_agg w [bc 4, bc 2, bc 1] _ (by decide)
theorem slit5 (w : World) : Rd (w.alloc (.cells #[.int .u8 4, .int .u8 0, .int .u8 2, .int .u8 97, .int .u8 5] 5)) (w.heap.size + 1) 1 (some ⟨w.heap.size, 0, none⟩) 5 5 (bcs [4, 0, 2, 97, 5]) := rd_agg w [bc 4, bc 0, bc 2, bc 97, bc 5] _ (by decide)
theorem slit6 (w : World) : Rd (w.alloc (.cells #[.int .u8 4, .int .u8 0, .int .u8 2, .int .u8 97] 5)) (w.heap.size + 1) 1 (some ⟨w.heap.size, 0, none⟩) 4 4 (bcs [4, 0, 2, 97]) := rd_agg w [bc 4, bc 0, bc 2, bc 97] _ (by decide)
theorem slit7 (w : World) : Rd (w.alloc (.cells #[.int .u8 129, .int .u8 1] 5)) (w.heap.size + 1) 1 (some ⟨w.heap.size, 0, none⟩) 2 2 (bcs [129, 1]) := rd_agg w [bc 129, bc 1] _ (by decide)
theorem slit8 (w : World) : Rd (w.alloc (.cells #[.int .u8 4, .int .u8 97, .int .u8 98] 5)) (w.heap.size + 1) 1 (some ⟨w.heap.size, 0, none⟩) 3 3 (bcs [4, 97, 98]) := rd_agg w [bc 4, bc 97, bc 98] _ (by decide)
theorem sd1 : dec [128, 1, 9] = (64, 2, 0) := by decide
theorem sd2 : dec [128] = (0, 0, 5) := by decide
theorem sd3 : dec [128, 0] = (0, 0, 6) := by decide
theorem sd4 : decS [4, 97, 98, 7] = ([97, 98], 3, 0) := by decide
theorem sd5 : decI [4, 2, 1] = ([1, -1], 3, 0) := by decide
theorem sd7 : decT [4, 0, 2, 97, 5] = ([[], [97]], 4, 0) := by decide

set_option maxRecDepth 100000 in
set_option maxHeartbeats 4000000 in
theorem sanity_any (w : World) : Calls Try.prog 12 #[] w (RetB w true) := by
  have hb0 : Below w.heap.size w w := Below.refl _ _
  go_enter Try.func12, Try.ntmps12
  go_wp2_with fail
  refine (getInt_any [128, 1, 9] _ _ _ _ _ (slit0 _)).mono ?_
  rintro e w1 ⟨rfl, hw⟩
  rw [sd1]
  have hb1 := (below_step hb0 hw).1
  clear hw hb0
  go_wp2_with fail
  refine (getInt_any [128] _ _ _ _ _ (slit1 _)).mono ?_
  rintro e w2 ⟨rfl, hw⟩
  rw [sd2]
  have hb2 := (below_step hb1 hw).1
  clear hw hb1
  go_wp2_with fail
  refine (getInt_any [128, 0] _ _ _ _ _ (slit2 _)).mono ?_
  rintro e w3 ⟨rfl, hw⟩
  rw [sd3]
  have hb3 := (below_step hb2 hw).1
  clear hw hb2
  go_wp2_with fail
  refine (getBytes_any [4, 97, 98, 7] _ _ _ _ _ (slit3 _)).mono ?_
  rintro e w4 ⟨rfl, hw⟩
  rw [sd4]; unfold sv
  have hb4 := (below_step hb3 hw).1
  clear hw hb3
  go_wp2_with fail
  refine (getInts_any [4, 2, 1] _ _ _ _ _ (slit4 _) (by simp) (by decide)).mono ?_
  rintro e w5 hret
  rw [sd5] at hret
  obtain ⟨A5, n5, c5, rfl, _, hr5, hb⟩ := hret.open
  have hb5 := (below_call hb4 hb).1
  clear hret hb hb4
  go_wp2_with (first | (with_reducible refine alAgg Try.ag_dig (wn rfl) rfl ?_) | (refine stNew (.tmp 16) (.tmp 54) (cs := (bcs sD).toArray) Try.ag_dig (wn rfl) rfl rfl rfl Try.ag_dig.zs rfl (by simpa using bcs_one sD) ?_) | (refine ldAgg (.tmp 16) (bcs sD) Try.ag_dig (wn rfl) rfl rfl rfl (by intro j u hu; rw [World.cell?_alloc_at _ _ _ _ rfl]; simpa using hu) ?_) | (refine bsAgg1 (.tmp 56) (cs := (bcs sD).toArray) Try.sl_dig (wn rfl) rfl rfl rfl (by decide) ?_))
  have hrd := rd_aggN w5 (bcs sD) 57 16 1 rfl (by decide)
  have hb6 := hb5.alloc hb5.size (.cells (bcs sD).toArray 57)
  have hr5 := hr5.alloc (Nat.le_refl _) (.cells (bcs sD).toArray 57)
  obtain ⟨w6, hw6⟩ : ∃ w6, w6 = w5.alloc (.cells (bcs sD).toArray 57) := ⟨_, rfl⟩
  have hs6 : w5.heap.size + 1 = w6.heap.size := by rw [hw6]; simp
  rw [← hw6] at hrd hb6 hr5 ⊢
  have HS6 := Lib.hid hs6
  have HW6 := Lib.hid hw6
  have hlt6 : w5.heap.size + 1 ≤ w6.heap.size := by omega
  clear hw6 hb5 hs6
  have hL := rd_aggN w6 (bcs sD) 57 16 1 rfl (by decide)
  have H22 := digs_any sD _ 1 1 _ _ hL (by simp) (by decide)
  rw [HS6.out]
  refine H22.mono ?_
  clear H22 hL
  rintro e w7 hret
  obtain ⟨A7, c7, rfl, _, hr7, hb⟩ := hret.open
  obtain ⟨hb7, hb67⟩ := below_call hb6 hb
  have hrd := hrd.below (hb67.mono hlt6)
  have hr5 := hr5.below (hb67.mono (by omega))
  have hlt7 := Nat.le_trans hlt6 hb67.size
  have hlt5 : w5.heap.size ≤ w7.heap.size := by omega
  clear hret hb hb6 hb67 hlt6
  go_wp2_with fail
  refine (getDigs_any (encD 1 sD) _ _ _ _ _ hr7 (Nat.le_refl _) (by decide)).mono ?_
  rintro e w8 hret
  rw [sd8] at hret
  obtain ⟨A8, n8, c8, rfl, _, hr8, hb⟩ := hret.open
  have hb8 := below_call0 hb7 hb
  have hrd := hrd.below (hb.mono hlt7)
  have hr5 := hr5.below (hb.mono hlt5)
  have hlt7 := Nat.le_trans hlt7 hb.size
  have hlt5 := Nat.le_trans hlt5 hb.size
  clear hret hb hb7 hr7
  go_wp2_with fail
  refine (getStrs_any [4, 0, 2, 97, 5] _ _ _ _ _ (slit5 _) (by simp) (by decide)).mono ?_
  rintro e w9 hret
  rw [sd7] at hret
  obtain ⟨A9, n9, c9, rfl, _, hr9, hb⟩ := hret.open
  obtain ⟨hb9, hb89⟩ := below_call hb8 hb
  have hrd := hrd.below (hb89.mono hlt7)
  have hr5 := hr5.below (hb89.mono hlt5)
  have hr8 := hr8.below hb89
  have hlt7 := Nat.le_trans hlt7 hb89.size
  have hlt5 := Nat.le_trans hlt5 hb89.size
  have hlt8 := hb89.size
  clear hret hb hb8 hb89
  have hlt9 : w9.heap.size ≤ w9.heap.size := Nat.le_refl _
  go_wp2_with fail
  refine (sameTexts_true [[], [97]] _ _ _ _ _ _ _ _ _ (hr9.alloc hlt9 _) (slitS _)).mono ?_
  rintro e w10 ⟨rfl, q, hw⟩
  obtain ⟨hb10, hst⟩ : Below w.heap.size w w10 ∧ Below w9.heap.size w9 w10 := by subst hw; exact ⟨(hb9.alloc hb9.size _).trans ((below_drewN _ q).mono (by have := hb9.size; simp; omega)), ((Below.refl _ _).alloc (Nat.le_refl _) _).trans (below_drewN _ q)⟩
  have hrd := hrd.below (hst.mono hlt7)
  have hr5 := hr5.below (hst.mono hlt5)
  have hr8 := hr8.below (hst.mono hlt8)
  have hlt5 := Nat.le_trans hlt5 hst.size
  have hlt7 := Nat.le_trans hlt7 hst.size
  have hlt8 := Nat.le_trans hlt8 hst.size
  clear hw hst hb9
  go_wp2_with fail
  refine (strs_any [[], [97]] _ _ _ _ _ (slitS _) (by simp) (by decide)).mono ?_
  rintro e w11 hret
  obtain ⟨A11, c11, rfl, _, hx, hb⟩ := hret.open
  obtain ⟨hb11, hst⟩ := below_call hb10 hb
  have hrd := hrd.below (hst.mono hlt7)
  have hr5 := hr5.below (hst.mono hlt5)
  have hr8 := hr8.below (hst.mono hlt8)
  have hlt5 := Nat.le_trans hlt5 hst.size
  have hlt7 := Nat.le_trans hlt7 hst.size
  have hlt8 := Nat.le_trans hlt8 hst.size
  have hlt11 : w11.heap.size ≤ w11.heap.size := Nat.le_refl _
  rw [se1] at hx
  clear hret hb hst hb10
  go_wp2_with fail
  refine (same_true [4, 0, 2, 97] _ _ _ _ _ _ _ _ _ (hx.alloc hlt11 _) (slit6 _)).mono ?_
  rintro e w12 ⟨rfl, hw⟩
  obtain ⟨hb12, hst⟩ := below_step hb11 hw
  have hrd := hrd.below (hst.mono hlt7)
  have hr5 := hr5.below (hst.mono hlt5)
  have hr8 := hr8.below (hst.mono hlt8)
  have hlt5 := Nat.le_trans hlt5 hst.size
  have hlt7 := Nat.le_trans hlt7 hst.size
  have hlt8 := Nat.le_trans hlt8 hst.size
  clear hw hst hb11
  go_wp2_with fail
  refine (int_any (-65) _ (by decide) (by decide)).mono ?_
  rintro e w13 hret
  obtain ⟨A13, c13, rfl, _, hx, hb⟩ := hret.open
  have hb13 := below_call0 hb12 hb
  have hst := hb
  have hrd := hrd.below (hst.mono hlt7)
  have hr5 := hr5.below (hst.mono hlt5)
  have hr8 := hr8.below (hst.mono hlt8)
  have hlt5 := Nat.le_trans hlt5 hst.size
  have hlt7 := Nat.le_trans hlt7 hst.size
  have hlt8 := Nat.le_trans hlt8 hst.size
  have hlt13 : w13.heap.size ≤ w13.heap.size := Nat.le_refl _
  rw [se2] at hx
  clear hret hb hst hb12
  go_wp2_with fail
  refine (same_true [129, 1] _ _ _ _ _ _ _ _ _ (hx.alloc hlt13 _) (slit7 _)).mono ?_
  rintro e w14 ⟨rfl, hw⟩
  obtain ⟨hb14, hst⟩ := below_step hb13 hw
  have hrd := hrd.below (hst.mono hlt7)
  have hr5 := hr5.below (hst.mono hlt5)
  have hr8 := hr8.below (hst.mono hlt8)
  have hlt5 := Nat.le_trans hlt5 hst.size
  have hlt7 := Nat.le_trans hlt7 hst.size
  have hlt8 := Nat.le_trans hlt8 hst.size
  clear hw hst hb13
  go_wp2_with fail
  refine (sameInts_true [1, -1] _ _ _ _ _ _ _ _ _ (hr5.alloc hlt5 _) (slitI _)).mono ?_
  rintro e w15 ⟨rfl, q, hw⟩
  obtain ⟨hb15, hst⟩ : Below w.heap.size w w15 ∧ Below w14.heap.size w14 w15 := by subst hw; exact ⟨(hb14.alloc hb14.size _).trans ((below_drewN _ q).mono (by have := hb14.size; simp; omega)), ((Below.refl _ _).alloc (Nat.le_refl _) _).trans (below_drewN _ q)⟩
  have hrd := hrd.below (hst.mono hlt7)
  have hr8 := hr8.below (hst.mono hlt8)
  have hlt7 := Nat.le_trans hlt7 hst.size
  have hlt8 := Nat.le_trans hlt8 hst.size
  clear hw hst hb14
  go_wp2_with fail
  refine (bytes_any [97, 98] _ (by decide)).mono ?_
  rintro e w16 hret
  obtain ⟨A16, c16, rfl, _, hx, hb⟩ := hret.open
  have hb16 := below_call0 hb15 hb
  have hst := hb
  have hrd := hrd.below (hst.mono hlt7)
  have hr8 := hr8.below (hst.mono hlt8)
  have hlt7 := Nat.le_trans hlt7 hst.size
  have hlt8 := Nat.le_trans hlt8 hst.size
  have hlt16 : w16.heap.size ≤ w16.heap.size := Nat.le_refl _
  rw [se3] at hx
  clear hret hb hst hb15
  go_wp2_with fail
  refine (same_true [4, 97, 98] _ _ _ _ _ _ _ _ _ (hx.alloc hlt16 _) (slit8 _)).mono ?_
  rintro e w17 ⟨rfl, hw⟩
  obtain ⟨hb17, hst⟩ := below_step hb16 hw
  have hrd := hrd.below (hst.mono hlt7)
  have hr8 := hr8.below (hst.mono hlt8)
  have hlt7 := Nat.le_trans hlt7 hst.size
  have hlt8 := Nat.le_trans hlt8 hst.size
  clear hw hst hb16
  go_wp2_with fail
  refine (ints_any [1, -1] _ _ _ _ _ (slitI _) (by simp) (by intro x hx; simp at hx; rcases hx with rfl | rfl <;> exact ⟨by decide, by decide⟩) (by decide)).mono ?_
  rintro e w18 hret
  obtain ⟨A18, c18, rfl, _, hx, hb⟩ := hret.open
  obtain ⟨hb18, hst⟩ := below_call hb17 hb
  have hrd := hrd.below (hst.mono hlt7)
  have hr8 := hr8.below (hst.mono hlt8)
  have hlt7 := Nat.le_trans hlt7 hst.size
  have hlt8 := Nat.le_trans hlt8 hst.size
  have hlt18 : w18.heap.size ≤ w18.heap.size := Nat.le_refl _
  rw [se4] at hx
  clear hret hb hst hb17
  go_wp2_with fail
  refine (same_true [4, 2, 1] _ _ _ _ _ _ _ _ _ (hx.alloc hlt18 _) (slit4 _)).mono ?_
  rintro e w19 ⟨rfl, hw⟩
  obtain ⟨hb19, hst⟩ := below_step hb18 hw
  have hrd := hrd.below (hst.mono hlt7)
  have hr8 := hr8.below (hst.mono hlt8)
  have hlt7 := Nat.le_trans hlt7 hst.size
  have hlt8 := Nat.le_trans hlt8 hst.size
  clear hw hst hb18
  have hdc := (hrd.known (by decide)).2
  have HDC := Lib.hid hdc
  clear hdc hrd
  go_wp2_with (first | (refine ldAgg (.tmp 16) (bcs sD) Try.ag_dig (by kernel_rfl) rfl rfl rfl HDC.out ?_) | (refine bsAgg1 (.tmp 150) (cs := (bcs sD).toArray) Try.sl_dig (by kernel_rfl) rfl rfl rfl (by decide) ?_))
  refine (sameDigs_true sD _ _ _ _ _ _ _ _ _ (hr8.alloc hlt8 _) (rd_aggN _ (bcs sD) _ 16 1 rfl (by decide))).mono ?_
  rintro e w20 ⟨rfl, q, hw⟩
  obtain ⟨hb20, hst⟩ : Below w.heap.size w w20 ∧ Below w19.heap.size w19 w20 := by subst hw; exact ⟨(hb19.alloc hb19.size _).trans ((below_drewN _ q).mono (by have := hb19.size; simp; omega)), ((Below.refl _ _).alloc (Nat.le_refl _) _).trans (below_drewN _ q)⟩
  clear hw hst hb19
  go_wp2_with fail
  go_ret
  exact ⟨rfl, hb20⟩
end Go.Proofs.Ytelphmfdpnmncaa
