/-
 MK: several texts in one. No statement is proved here.
-/
import Derived.Test.YtbpihalphhoiaaaGreatDoorMZ
import Derived.Test.YtbpihalphhoiaaaGreatDoorMJ
import Derived.Test.YtbpihalphhoiaaaGreatDoorMB
import Derived.Test.YtbpihalphhoiaaaGreatDoorMI
import Derived.Test.YtbpihalphhoiaaaGreatDoorMH
set_option maxRecDepth 100000
set_option maxHeartbeats 4000000
set_option linter.unusedVariables false
set_option linter.unusedSimpArgs false
namespace Go.Proofs.YtbpihalphhoiaaaGreatDoor
open Go.RowKit
def exs (b : Bx) : List Value := [.int .i64 b.mn.x, .int .i64 b.mx.x, .int .i64 b.mn.y, .int .i64 b.mx.y, .int .i64 b.mn.z, .int .i64 b.mx.z]
def unitB (p : Pt) : Bx := ⟨p, ⟨p.x + 1, p.y + 1, p.z + 1⟩⟩
theorem meets_unit {a b p : Int} : (max a p < min b (p + 1)) ↔ (a ≤ p ∧ p < b) := by omega
theorem shift_exs (p : Pt) : ([.int .i64 p.x, .int .i64 (p.x + 1), .int .i64 p.y, .int .i64 (p.y + 1), .int .i64 (p.z + (-1)), .int .i64 ((p.z + 1) + (-1))] : List Value) = exs (unitB ⟨p.x, p.y, p.z - 1⟩) := by
 unfold exs unitB
 simp only
 rw [show p.z + -1 = p.z - 1 by omega, show p.z + 1 + -1 = p.z - 1 + 1 by omega]
theorem has_no {b : Bx} {p : Pt} (h : ¬ (b.mn.x ≤ p.x ∧ p.x < b.mx.x) ∨ ¬ (b.mn.y ≤ p.y ∧ p.y < b.mx.y) ∨ ¬ (b.mn.z ≤ p.z ∧ p.z < b.mx.z)) : decide (b.has p) = false := decide_eq_false (fun e => by unfold Bx.has at e; rcases h with h | h | h <;> omega)
theorem cof_any (b : Bx) (w : World) : Calls Tryz.prog 35 #[.agg (bxs b).toArray] w (RetV w (.agg (exs b).toArray)) := by
 have hm0 := Mem.nil w
 go_enter Tryz.func35, Tryz.ntmps35
 refine litStart 25 [(0, .agg (bxs b).toArray)] kr_ (fun X0 => ?_)
 refine sp_ fun _ hK1 => ?_
 refine plBox hm0 (cs := bxs b) (i := 0) rfl (wn rfl) rfl le_ ?_
 intro g2 w4 hm3
 clear hm0
 try simp only [lc_] at hm3
 refine qP rfl ?_
 refine plAlloc (z := [.int .i64 0, .int .i64 0, .int .i64 0, .int .i64 0, .int .i64 0, .int .i64 0]) Ty.ag_voxel_collide_extent hm3 (i := 1) rfl (wn rfl) rfl ?_
 intro g5 w7 hm6
 clear hm3
 try simp only [lc_] at hm6
 refine qP rfl ?_
 refine pt_ hK1 ?_
 refine sp_ fun _ hK8 => ?_
 refine lp_ g2 0 ?_
 refine lp_ g2 0 ?_
 refine lv_ rfl (.int .i64 b.mn.x) (ld_ 0 0 hm6) ?_
 refine lp_ g2 3 ?_
 refine lp_ g2 3 ?_
 refine lv_ rfl (.int .i64 b.mx.x) (ld_ 3 0 hm6) ?_
 refine lk_ (.agg ([.int .i64 b.mn.x, .int .i64 b.mx.x]).toArray) ?_
 refine lp_ g2 0 ?_
 refine lp_ g2 1 ?_
 refine lv_ rfl (.int .i64 b.mn.y) (ld_ 1 0 hm6) ?_
 refine lp_ g2 3 ?_
 refine lp_ g2 4 ?_
 refine lv_ rfl (.int .i64 b.mx.y) (ld_ 4 0 hm6) ?_
 refine lk_ (.agg ([.int .i64 b.mn.y, .int .i64 b.mx.y]).toArray) ?_
 refine lp_ g2 0 ?_
 refine lp_ g2 2 ?_
 refine lv_ rfl (.int .i64 b.mn.z) (ld_ 2 0 hm6) ?_
 refine lp_ g2 3 ?_
 refine lp_ g2 5 ?_
 refine lv_ rfl (.int .i64 b.mx.z) (ld_ 5 0 hm6) ?_
 refine lk_ (.agg ([.int .i64 b.mn.z, .int .i64 b.mx.z]).toArray) ?_
 refine lk_ (.agg (bxs ⟨⟨b.mn.x, b.mx.x, b.mn.y⟩, ⟨b.mx.y, b.mn.z, b.mx.z⟩⟩).toArray) ?_
 refine plStore 1 Ty.ag_voxel_collide_extent hm6 rfl (i := 22) (cs := bxs ⟨⟨b.mn.x, b.mx.x, b.mn.y⟩, ⟨b.mx.y, b.mn.z, b.mx.z⟩⟩) rfl (wn rfl) rfl le_ le_ rfl rfl kr_ ?_
 intro w10 hm9
 clear hm6
 try simp only [lc_] at hm9
 refine qNone rfl ?_
 refine pt_ hK8 ?_
 refine wpPrune [(2, .pointer (some ⟨g5, 0, none⟩))] fo_ (fun X11 => ?_)
 refine wp_ret ?_
 refine bodyPost_ret (v := .agg (bxs ⟨⟨b.mn.x, b.mx.x, b.mn.y⟩, ⟨b.mx.y, b.mn.z, b.mx.z⟩⟩).toArray) (gRes1 rfl (gResAg (cs := bxs ⟨⟨b.mn.x, b.mx.x, b.mn.y⟩, ⟨b.mx.y, b.mn.z, b.mx.z⟩⟩) 1 hm9 rfl Ty.ag_voxel_collide_extent rfl (lg_))) rfl ?_
 exact ⟨by rfl, hm9.bel⟩
theorem cbox_any (b : Bx) (w : World) : Calls Tryz.prog 36 #[.agg (exs b).toArray] w (RetV w (.agg (bxs b).toArray)) := by
 have hm0 := Mem.nil w
 go_enter Tryz.func36, Tryz.ntmps36
 refine litStart 24 [(0, .agg (exs b).toArray)] kr_ (fun X0 => ?_)
 refine sp_ fun _ hK1 => ?_
 refine plBox hm0 (cs := exs b) (i := 0) rfl (wn rfl) rfl le_ ?_
 intro g2 w4 hm3
 clear hm0
 try simp only [lc_] at hm3
 refine qP rfl ?_
 refine plAlloc (z := [.int .i64 0, .int .i64 0, .int .i64 0, .int .i64 0, .int .i64 0, .int .i64 0]) Ty.ag_voxel_api_Box hm3 (i := 1) rfl (wn rfl) rfl ?_
 intro g5 w7 hm6
 clear hm3
 try simp only [lc_] at hm6
 refine qP rfl ?_
 refine pt_ hK1 ?_
 refine sp_ fun _ hK8 => ?_
 refine lv_ rfl (.pointer (some ⟨g2, 0, none⟩)) (iaRun (b := g2) (off := 0) (s := 2) (n := 3) (kk := .i64) (.tmp 1) (.const (.int .i64 0)) 0 Ty.und_voxel_collide_extent kr_ rfl le_ le_ rfl (by decide)) ?_
 refine lv_ rfl (.pointer (some ⟨g2, 0, none⟩)) (iaRun (b := g2) (off := 0) (s := 1) (n := 2) (kk := .i64) (.tmp 3) (.const (.int .i64 0)) 0 Ty.und_2_int kr_ rfl le_ le_ rfl (by decide)) ?_
 refine lv_ rfl (.int .i64 b.mn.x) (ld_ 0 0 hm6) ?_
 refine lv_ rfl (.pointer (some ⟨g2, 2, none⟩)) (iaRun (b := g2) (off := 0) (s := 2) (n := 3) (kk := .i64) (.tmp 1) (.const (.int .i64 1)) 1 Ty.und_voxel_collide_extent kr_ rfl le_ le_ rfl (by decide)) ?_
 refine lv_ rfl (.pointer (some ⟨g2, 2, none⟩)) (iaRun (b := g2) (off := 2) (s := 1) (n := 2) (kk := .i64) (.tmp 6) (.const (.int .i64 0)) 0 Ty.und_2_int kr_ rfl le_ le_ rfl (by decide)) ?_
 refine lv_ rfl (.int .i64 b.mn.y) (ld_ 2 0 hm6) ?_
 refine lv_ rfl (.pointer (some ⟨g2, 4, none⟩)) (iaRun (b := g2) (off := 0) (s := 2) (n := 3) (kk := .i64) (.tmp 1) (.const (.int .i64 2)) 2 Ty.und_voxel_collide_extent kr_ rfl le_ le_ rfl (by decide)) ?_
 refine lv_ rfl (.pointer (some ⟨g2, 4, none⟩)) (iaRun (b := g2) (off := 4) (s := 1) (n := 2) (kk := .i64) (.tmp 9) (.const (.int .i64 0)) 0 Ty.und_2_int kr_ rfl le_ le_ rfl (by decide)) ?_
 refine lv_ rfl (.int .i64 b.mn.z) (ld_ 4 0 hm6) ?_
 refine lk_ (.agg (pcs b.mn).toArray) ?_
 refine lv_ rfl (.pointer (some ⟨g2, 0, none⟩)) (iaRun (b := g2) (off := 0) (s := 2) (n := 3) (kk := .i64) (.tmp 1) (.const (.int .i64 0)) 0 Ty.und_voxel_collide_extent kr_ rfl le_ le_ rfl (by decide)) ?_
 refine lv_ rfl (.pointer (some ⟨g2, 1, none⟩)) (iaRun (b := g2) (off := 0) (s := 1) (n := 2) (kk := .i64) (.tmp 13) (.const (.int .i64 1)) 1 Ty.und_2_int kr_ rfl le_ le_ rfl (by decide)) ?_
 refine lv_ rfl (.int .i64 b.mx.x) (ld_ 1 0 hm6) ?_
 refine lv_ rfl (.pointer (some ⟨g2, 2, none⟩)) (iaRun (b := g2) (off := 0) (s := 2) (n := 3) (kk := .i64) (.tmp 1) (.const (.int .i64 1)) 1 Ty.und_voxel_collide_extent kr_ rfl le_ le_ rfl (by decide)) ?_
 refine lv_ rfl (.pointer (some ⟨g2, 3, none⟩)) (iaRun (b := g2) (off := 2) (s := 1) (n := 2) (kk := .i64) (.tmp 16) (.const (.int .i64 1)) 1 Ty.und_2_int kr_ rfl le_ le_ rfl (by decide)) ?_
 refine lv_ rfl (.int .i64 b.mx.y) (ld_ 3 0 hm6) ?_
 refine lv_ rfl (.pointer (some ⟨g2, 4, none⟩)) (iaRun (b := g2) (off := 0) (s := 2) (n := 3) (kk := .i64) (.tmp 1) (.const (.int .i64 2)) 2 Ty.und_voxel_collide_extent kr_ rfl le_ le_ rfl (by decide)) ?_
 refine lv_ rfl (.pointer (some ⟨g2, 5, none⟩)) (iaRun (b := g2) (off := 4) (s := 1) (n := 2) (kk := .i64) (.tmp 19) (.const (.int .i64 1)) 1 Ty.und_2_int kr_ rfl le_ le_ rfl (by decide)) ?_
 refine lv_ rfl (.int .i64 b.mx.z) (ld_ 5 0 hm6) ?_
 refine lk_ (.agg (pcs b.mx).toArray) ?_
 refine lk_ (.agg (bxs ⟨b.mn, b.mx⟩).toArray) ?_
 refine plStore 1 Ty.ag_voxel_api_Box hm6 rfl (i := 21) (cs := bxs ⟨b.mn, b.mx⟩) rfl (wn rfl) rfl le_ le_ rfl rfl kr_ ?_
 intro w10 hm9
 clear hm6
 try simp only [lc_] at hm9
 refine qNone rfl ?_
 refine pt_ hK8 ?_
 refine wpPrune [(2, .pointer (some ⟨g5, 0, none⟩))] fo_ (fun X11 => ?_)
 refine wp_ret ?_
 refine bodyPost_ret (v := .agg (bxs ⟨b.mn, b.mx⟩).toArray) (gRes1 rfl (gResAg (cs := bxs ⟨b.mn, b.mx⟩) 1 hm9 rfl Ty.ag_voxel_api_Box rfl (lg_))) rfl ?_
 exact ⟨by rfl, hm9.bel⟩
theorem meets_any (a b c d : Int) (w : World) : Calls Tryz.prog 44 #[.agg ([.int .i64 a, .int .i64 b]).toArray, .agg ([.int .i64 c, .int .i64 d]).toArray] w (RetV w (.bool (decide (max a c < min b d)))) := by
 have hm0 := Mem.nil w
 go_enter Tryz.func44, Tryz.ntmps44
 refine litStart 16 [(0, .agg ([.int .i64 a, .int .i64 b]).toArray), (1, .agg ([.int .i64 c, .int .i64 d]).toArray)] kr_ (fun X0 => ?_)
 refine sp_ fun _ hK1 => ?_
 refine plBox hm0 (cs := [.int .i64 a, .int .i64 b]) (i := 0) rfl (wn rfl) rfl le_ ?_
 intro g2 w4 hm3
 clear hm0
 try simp only [lc_] at hm3
 refine qP rfl ?_
 refine plBox hm3 (cs := [.int .i64 c, .int .i64 d]) (i := 1) rfl (wn rfl) rfl le_ ?_
 intro g5 w7 hm6
 clear hm3
 try simp only [lc_] at hm6
 refine qP rfl ?_
 refine lF_ ?_
 refine pt_ hK1 ?_
 refine sp_ fun _ hK8 => ?_
 refine lv_ rfl (.pointer (some ⟨g2, 0, none⟩)) (iaRun (b := g2) (off := 0) (s := 1) (n := 2) (kk := .i64) (.tmp 2) (.const (.int .i64 0)) 0 Ty.und_2_int kr_ rfl le_ le_ rfl (by decide)) ?_
 refine lv_ rfl (.int .i64 a) (ld_ 0 0 hm6) ?_
 refine lv_ rfl (.pointer (some ⟨g5, 0, none⟩)) (iaRun (b := g5) (off := 0) (s := 1) (n := 2) (kk := .i64) (.tmp 3) (.const (.int .i64 0)) 0 Ty.und_2_int kr_ rfl le_ le_ rfl (by decide)) ?_
 refine lv_ rfl (.int .i64 c) (ld_ 0 1 hm6) ?_
 refine lv_ rfl (.int .i64 (max a c)) (gMax (.tmp 6) (.tmp 8) rfl le_ le_) ?_
 refine lv_ rfl (.pointer (some ⟨g2, 1, none⟩)) (iaRun (b := g2) (off := 0) (s := 1) (n := 2) (kk := .i64) (.tmp 2) (.const (.int .i64 1)) 1 Ty.und_2_int kr_ rfl le_ le_ rfl (by decide)) ?_
 refine lv_ rfl (.int .i64 b) (ld_ 1 0 hm6) ?_
 refine lv_ rfl (.pointer (some ⟨g5, 1, none⟩)) (iaRun (b := g5) (off := 0) (s := 1) (n := 2) (kk := .i64) (.tmp 3) (.const (.int .i64 1)) 1 Ty.und_2_int kr_ rfl le_ le_ rfl (by decide)) ?_
 refine lv_ rfl (.int .i64 d) (ld_ 1 1 hm6) ?_
 refine lv_ rfl (.int .i64 (min b d)) (gMin (.tmp 11) (.tmp 13) rfl le_ le_) ?_
 by_cases h9 : (max a c) < (min b d)
 ·refine lv_ rfl _ (lsT_ h9) ?_
  refine lT_ ?_
  refine pt_ hK8 ?_
  refine wpPrune [(4, .bool true)] fo_ (fun X10 => ?_)
  refine wp_ret ?_
  refine br_ 4 (.bool true) ?_
  exact ⟨by rw [decide_eq_true h9], hm6.bel⟩
 refine lv_ rfl _ (lsF_ h9) ?_
 refine lF_ ?_
 refine pt_ hK8 ?_
 refine wpPrune [(4, .bool false)] fo_ (fun X11 => ?_)
 refine wp_ret ?_
 refine br_ 4 (.bool false) ?_
 exact ⟨by rw [decide_eq_false h9], hm6.bel⟩
theorem munit_any (a b p : Int) (w : World) : Calls Tryz.prog 44 #[.agg ([.int .i64 a, .int .i64 b]).toArray, .agg ([.int .i64 p, .int .i64 (p + 1)]).toArray] w (RetV w (.bool (decide (a ≤ p ∧ p < b)))) := by
 have h := meets_any a b p (p + 1) w
 rw [decide_eq_decide.2 meets_unit] at h
 exact h
theorem ovl1_any {w0 w : World} (b : Bx) (p : Pt) (g : Nat) (M : List Res) (hm : Mem w0 w (.arr g 85 (exs (unitB p)) :: M)) : Calls Tryz.prog 43 #[.agg (bxs b).toArray, .pointer (some ⟨g, 0, none⟩)] w (fun e w' => e = .returned (.bool (decide (b.has p))) ∧ Mem w0 w' (.arr g 85 (exs (unitB p)) :: M)) := by
 have hm0 := hm
 go_enter Tryz.func43, Tryz.ntmps43
 refine litStart 19 [(0, .agg (bxs b).toArray), (1, .pointer (some ⟨g, 0, none⟩))] kr_ (fun X0 => ?_)
 refine sp_ fun _ hK1 => ?_
 refine plBox hm0 (cs := bxs b) (i := 0) rfl (wn rfl) rfl le_ ?_
 intro g2 w4 hm3
 clear hm0
 try simp only [lc_] at hm3
 replace hm3 := hm3.i1
 refine qP rfl ?_
 refine lF_ ?_
 refine pt_ hK1 ?_
 refine sk_ fun _ hK5 => ?_
 refine sp_ fun _ hK6 => ?_
 refine lv_ rfl (.agg (bxs b).toArray) (la_ 0 1 hm3 Ty.ag_voxel_api_Box) ?_
 refine plCall (i := 1) 35 [.agg (bxs b).toArray] [] [] rfl kr_ (wn rfl) rfl le_ (litArgs kr_) (cof_any b _) ?_
 rintro e w7 ⟨rfl, hbz⟩
 have hm8 := hm3.below hbz
 clear hbz hm3
 refine ⟨_, rfl, ?_⟩
 refine qP rfl ?_
 refine li_ 0 ?_
 refine pt_ hK6 ?_
 refine wp_block ?_
 refine roundsStart 5 ?_
 refine sp_ fun _ hK9 => ?_
 refine lT_ ?_
 refine pt_ hK9 ?_
 refine sk_ fun _ hK10 => ?_
 refine wp_cond_true le_ ?_
 refine wp_skip ?_
 refine tn_ hK10 ?_
 refine sk_ fun _ hK11 => ?_
 refine wp_block ?_
 refine sp_ fun _ hK12 => ?_
 refine li_ 0 ?_
 refine lk_ (.agg ([.int .i64 b.mn.x, .int .i64 b.mx.x]).toArray) ?_
 refine plAlloc (z := [.int .i64 0, .int .i64 0]) Ty.ag_2_int hm8 (i := 2) rfl (wn rfl) rfl ?_
 intro g13 w15 hm14
 clear hm8
 try simp only [lc_] at hm14
 replace hm14 := hm14.i2
 refine qP rfl ?_
 refine li_ 0 ?_
 refine plStore 2 Ty.ag_2_int hm14 rfl (i := 4) (cs := [.int .i64 b.mn.x, .int .i64 b.mx.x]) rfl (wn rfl) rfl le_ le_ rfl rfl kr_ ?_
 intro w17 hm16
 clear hm14
 try simp only [lc_] at hm16
 refine qNone rfl ?_
 refine pt_ hK12 ?_
 refine sk_ fun _ hK18 => ?_
 refine mgStart hm16 kr_ ?_
 intro w20 hm19
 clear hm16
 refine mt_ 0 rfl (.agg ([.int .i64 b.mn.x, .int .i64 b.mx.x]).toArray) hm19 (fun w_ h_ => la_ 0 2 h_ Ty.ag_2_int) ?_
 refine mk_ (i := 1) (v := .int .i64 0) rfl rfl (fun _ _ _ h => h) hm19 rfl ?_
 refine mt_ 2 rfl (.pointer (some ⟨g, 0, none⟩)) hm19 (fun w_ h_ => iaRun (b := g) (off := 0) (s := 2) (n := 3) (kk := .i64) (.tmp 1) (.tmp 13) 0 Ty.und_voxel_collide_extent kr_ rfl le_ le_ rfl (by decide)) ?_
 refine mt_ 3 rfl (.agg ([.int .i64 p.x, .int .i64 (p.x + 1)]).toArray) hm19 (fun w_ h_ => la_ 0 0 h_ Ty.ag_2_int) ?_
 refine mgCall (i := 4) 44 [.agg ([.int .i64 b.mn.x, .int .i64 b.mx.x]).toArray, .agg ([.int .i64 p.x, .int .i64 (p.x + 1)]).toArray] [] [] kr_ rfl kr_ (wn rfl) rfl le_ (litArgs kr_) (by exact munit_any b.mn.x b.mx.x p.x _) ?_
 rintro e w21 ⟨rfl, hbz⟩
 have hm22 := hm19.below hbz
 clear hbz hm19
 refine ⟨_, rfl, hm22, ?_⟩
 refine mP rfl ?_
 rcases bool_or (decide (b.mn.x ≤ p.x ∧ p.x < b.mx.x)) with h23 | h23
 ·rw [h23]
  refine mk_ (i := 5) (v := .bool true) rfl rfl (fun _ _ _ h => h) hm22 rfl ?_
  refine mgDone kr_ ?_
  refine tn_ hK18 ?_
  refine wp_cond_true le_ ?_
  refine sp_ fun _ hK24 => ?_
  refine lF_ ?_
  refine pt_ hK24 ?_
  refine wp_ret ?_
  refine inBlock_ret ?_
  refine then_ret ?_
  refine then_ret ?_
  refine inBlock_ret ?_
  refine then_ret ?_
  refine br_ 3 (.bool false) ?_
  exact ⟨congrArg (fun b_ => Ending.returned (.bool b_)) (show _ = decide (b.has p) from (has_no (Or.inl (of_decide_eq_false h23))).symm), (hm22.sub (.cons_cons _ (.cons _ (.cons _ (List.Sublist.refl _)))))⟩
 rw [h23]
 refine mk_ (i := 5) (v := .bool false) rfl rfl (fun _ _ _ h => h) hm22 rfl ?_
 refine mgDone kr_ ?_
 refine tn_ hK18 ?_
 refine wp_cond_false le_ ?_
 refine wp_skip ?_
 refine inBlock_normal ?_
 refine tn_ hK11 ?_
 refine plStart ?_
 refine li_ 1 ?_
 refine li_ 1 ?_
 refine plD ?_
 refine then_normal (roundsNext ?_)
 refine sp_ fun _ hK25 => ?_
 refine lT_ ?_
 refine pt_ hK25 ?_
 refine sk_ fun _ hK26 => ?_
 refine wp_cond_true le_ ?_
 refine wp_skip ?_
 refine tn_ hK26 ?_
 refine sk_ fun _ hK27 => ?_
 refine wp_block ?_
 refine sp_ fun _ hK28 => ?_
 refine li_ 1 ?_
 refine lk_ (.agg ([.int .i64 b.mn.y, .int .i64 b.mx.y]).toArray) ?_
 refine plAlloc (z := [.int .i64 0, .int .i64 0]) Ty.ag_2_int hm22 (i := 2) rfl (wn rfl) rfl ?_
 intro g29 w31 hm30
 clear hm22
 try simp only [lc_] at hm30
 replace hm30 := hm30.i3
 refine qP rfl ?_
 refine li_ 1 ?_
 refine plStore 3 Ty.ag_2_int hm30 rfl (i := 4) (cs := [.int .i64 b.mn.y, .int .i64 b.mx.y]) rfl (wn rfl) rfl le_ le_ rfl rfl kr_ ?_
 intro w33 hm32
 clear hm30
 try simp only [lc_] at hm32
 refine qNone rfl ?_
 refine pt_ hK28 ?_
 refine sk_ fun _ hK34 => ?_
 refine mgStart hm32 kr_ ?_
 intro w36 hm35
 clear hm32
 refine mt_ 0 rfl (.agg ([.int .i64 b.mn.y, .int .i64 b.mx.y]).toArray) hm35 (fun w_ h_ => la_ 0 3 h_ Ty.ag_2_int) ?_
 refine mk_ (i := 1) (v := .int .i64 1) rfl rfl (fun _ _ _ h => h) hm35 rfl ?_
 refine mt_ 2 rfl (.pointer (some ⟨g, 2, none⟩)) hm35 (fun w_ h_ => iaRun (b := g) (off := 0) (s := 2) (n := 3) (kk := .i64) (.tmp 1) (.tmp 13) 1 Ty.und_voxel_collide_extent kr_ rfl le_ le_ rfl (by decide)) ?_
 refine mt_ 3 rfl (.agg ([.int .i64 p.y, .int .i64 (p.y + 1)]).toArray) hm35 (fun w_ h_ => la_ 2 0 h_ Ty.ag_2_int) ?_
 refine mgCall (i := 4) 44 [.agg ([.int .i64 b.mn.y, .int .i64 b.mx.y]).toArray, .agg ([.int .i64 p.y, .int .i64 (p.y + 1)]).toArray] [] [] kr_ rfl kr_ (wn rfl) rfl le_ (litArgs kr_) (by exact munit_any b.mn.y b.mx.y p.y _) ?_
 rintro e w37 ⟨rfl, hbz⟩
 have hm38 := hm35.below hbz
 clear hbz hm35
 refine ⟨_, rfl, hm38, ?_⟩
 refine mP rfl ?_
 rcases bool_or (decide (b.mn.y ≤ p.y ∧ p.y < b.mx.y)) with h39 | h39
 ·rw [h39]
  refine mk_ (i := 5) (v := .bool true) rfl rfl (fun _ _ _ h => h) hm38 rfl ?_
  refine mgDone kr_ ?_
  refine tn_ hK34 ?_
  refine wpPrune [(1, .pointer (some ⟨g, 0, none⟩)), (3, .bool false), (4, .int .i64 1), (5, .pointer (some ⟨g29, 0, none⟩)), (7, .agg (exs b).toArray), (8, .int .i64 1), (9, .bool true), (10, .int .i64 1), (11, .agg ([.int .i64 b.mn.y, .int .i64 b.mx.y]).toArray), (12, .agg ([.int .i64 b.mn.y, .int .i64 b.mx.y]).toArray), (13, .int .i64 1), (14, .pointer (some ⟨g, 2, none⟩)), (15, .agg ([.int .i64 p.y, .int .i64 (p.y + 1)]).toArray), (16, .bool false), (17, .bool true), (18, .int .i64 1)] fo_ (fun X40 => ?_)
  refine wp_cond_true le_ ?_
  refine sp_ fun _ hK41 => ?_
  refine lF_ ?_
  refine pt_ hK41 ?_
  refine wp_ret ?_
  refine inBlock_ret ?_
  refine then_ret ?_
  refine then_ret ?_
  refine inBlock_ret ?_
  refine then_ret ?_
  refine br_ 3 (.bool false) ?_
  exact ⟨congrArg (fun b_ => Ending.returned (.bool b_)) (show _ = decide (b.has p) from (has_no (Or.inr (Or.inl (of_decide_eq_false h39)))).symm), (hm38.sub (.cons_cons _ (.cons _ (.cons _ (.cons _ (List.Sublist.refl _))))))⟩
 rw [h39]
 refine mk_ (i := 5) (v := .bool false) rfl rfl (fun _ _ _ h => h) hm38 rfl ?_
 refine mgDone kr_ ?_
 refine tn_ hK34 ?_
 refine wpPrune [(1, .pointer (some ⟨g, 0, none⟩)), (3, .bool false), (4, .int .i64 1), (5, .pointer (some ⟨g29, 0, none⟩)), (7, .agg (exs b).toArray), (8, .int .i64 1), (9, .bool true), (10, .int .i64 1), (11, .agg ([.int .i64 b.mn.y, .int .i64 b.mx.y]).toArray), (12, .agg ([.int .i64 b.mn.y, .int .i64 b.mx.y]).toArray), (13, .int .i64 1), (14, .pointer (some ⟨g, 2, none⟩)), (15, .agg ([.int .i64 p.y, .int .i64 (p.y + 1)]).toArray), (16, .bool true), (17, .bool false), (18, .int .i64 1)] fo_ (fun X42 => ?_)
 refine wp_cond_false le_ ?_
 refine wp_skip ?_
 refine inBlock_normal ?_
 refine tn_ hK27 ?_
 refine plStart ?_
 refine li_ 2 ?_
 refine li_ 2 ?_
 refine plD ?_
 refine then_normal (roundsNext ?_)
 refine sp_ fun _ hK43 => ?_
 refine lT_ ?_
 refine pt_ hK43 ?_
 refine sk_ fun _ hK44 => ?_
 refine wp_cond_true le_ ?_
 refine wp_skip ?_
 refine tn_ hK44 ?_
 refine sk_ fun _ hK45 => ?_
 refine wp_block ?_
 refine sp_ fun _ hK46 => ?_
 refine li_ 2 ?_
 refine lk_ (.agg ([.int .i64 b.mn.z, .int .i64 b.mx.z]).toArray) ?_
 refine plAlloc (z := [.int .i64 0, .int .i64 0]) Ty.ag_2_int hm38 (i := 2) rfl (wn rfl) rfl ?_
 intro g47 w49 hm48
 clear hm38
 try simp only [lc_] at hm48
 replace hm48 := hm48.i4
 refine qP rfl ?_
 refine li_ 2 ?_
 refine plStore 4 Ty.ag_2_int hm48 rfl (i := 4) (cs := [.int .i64 b.mn.z, .int .i64 b.mx.z]) rfl (wn rfl) rfl le_ le_ rfl rfl kr_ ?_
 intro w51 hm50
 clear hm48
 try simp only [lc_] at hm50
 refine qNone rfl ?_
 refine pt_ hK46 ?_
 refine sk_ fun _ hK52 => ?_
 refine mgStart hm50 kr_ ?_
 intro w54 hm53
 clear hm50
 refine mt_ 0 rfl (.agg ([.int .i64 b.mn.z, .int .i64 b.mx.z]).toArray) hm53 (fun w_ h_ => la_ 0 4 h_ Ty.ag_2_int) ?_
 refine mk_ (i := 1) (v := .int .i64 2) rfl rfl (fun _ _ _ h => h) hm53 rfl ?_
 refine mt_ 2 rfl (.pointer (some ⟨g, 4, none⟩)) hm53 (fun w_ h_ => iaRun (b := g) (off := 0) (s := 2) (n := 3) (kk := .i64) (.tmp 1) (.tmp 13) 2 Ty.und_voxel_collide_extent kr_ rfl le_ le_ rfl (by decide)) ?_
 refine mt_ 3 rfl (.agg ([.int .i64 p.z, .int .i64 (p.z + 1)]).toArray) hm53 (fun w_ h_ => la_ 4 0 h_ Ty.ag_2_int) ?_
 refine mgCall (i := 4) 44 [.agg ([.int .i64 b.mn.z, .int .i64 b.mx.z]).toArray, .agg ([.int .i64 p.z, .int .i64 (p.z + 1)]).toArray] [] [] kr_ rfl kr_ (wn rfl) rfl le_ (litArgs kr_) (by exact munit_any b.mn.z b.mx.z p.z _) ?_
 rintro e w55 ⟨rfl, hbz⟩
 have hm56 := hm53.below hbz
 clear hbz hm53
 refine ⟨_, rfl, hm56, ?_⟩
 refine mP rfl ?_
 rcases bool_or (decide (b.mn.z ≤ p.z ∧ p.z < b.mx.z)) with h57 | h57
 ·rw [h57]
  refine mk_ (i := 5) (v := .bool true) rfl rfl (fun _ _ _ h => h) hm56 rfl ?_
  refine mgDone kr_ ?_
  refine tn_ hK52 ?_
  refine wpPrune [(1, .pointer (some ⟨g, 0, none⟩)), (3, .bool false), (4, .int .i64 2), (5, .pointer (some ⟨g47, 0, none⟩)), (7, .agg (exs b).toArray), (8, .int .i64 2), (9, .bool true), (10, .int .i64 2), (11, .agg ([.int .i64 b.mn.z, .int .i64 b.mx.z]).toArray), (12, .agg ([.int .i64 b.mn.z, .int .i64 b.mx.z]).toArray), (13, .int .i64 2), (14, .pointer (some ⟨g, 4, none⟩)), (15, .agg ([.int .i64 p.z, .int .i64 (p.z + 1)]).toArray), (16, .bool false), (17, .bool true), (18, .int .i64 2)] fo_ (fun X58 => ?_)
  refine wp_cond_true le_ ?_
  refine sp_ fun _ hK59 => ?_
  refine lF_ ?_
  refine pt_ hK59 ?_
  refine wp_ret ?_
  refine inBlock_ret ?_
  refine then_ret ?_
  refine then_ret ?_
  refine inBlock_ret ?_
  refine then_ret ?_
  refine br_ 3 (.bool false) ?_
  exact ⟨congrArg (fun b_ => Ending.returned (.bool b_)) (show _ = decide (b.has p) from (has_no (Or.inr (Or.inr (of_decide_eq_false h57)))).symm), (hm56.sub (.cons_cons _ (.cons _ (.cons _ (.cons _ (.cons _ (List.Sublist.refl _)))))))⟩
 rw [h57]
 refine mk_ (i := 5) (v := .bool false) rfl rfl (fun _ _ _ h => h) hm56 rfl ?_
 refine mgDone kr_ ?_
 refine tn_ hK52 ?_
 refine wpPrune [(1, .pointer (some ⟨g, 0, none⟩)), (3, .bool false), (4, .int .i64 2), (5, .pointer (some ⟨g47, 0, none⟩)), (7, .agg (exs b).toArray), (8, .int .i64 2), (9, .bool true), (10, .int .i64 2), (11, .agg ([.int .i64 b.mn.z, .int .i64 b.mx.z]).toArray), (12, .agg ([.int .i64 b.mn.z, .int .i64 b.mx.z]).toArray), (13, .int .i64 2), (14, .pointer (some ⟨g, 4, none⟩)), (15, .agg ([.int .i64 p.z, .int .i64 (p.z + 1)]).toArray), (16, .bool true), (17, .bool false), (18, .int .i64 2)] fo_ (fun X60 => ?_)
 refine wp_cond_false le_ ?_
 refine wp_skip ?_
 refine inBlock_normal ?_
 refine tn_ hK45 ?_
 refine plStart ?_
 refine li_ 3 ?_
 refine li_ 3 ?_
 refine plD ?_
 refine then_normal (roundsNext ?_)
 refine sp_ fun _ hK61 => ?_
 refine lF_ ?_
 refine pt_ hK61 ?_
 refine sk_ fun _ hK62 => ?_
 refine wp_cond_false le_ ?_
 refine wp_exit ?_
 refine then_exit ?_
 refine then_exit ?_
 refine inBlock_exit ?_
 refine tn_ hK5 ?_
 refine wpPrune [(3, .bool false)] fo_ (fun X63 => ?_)
 refine sp_ fun _ hK64 => ?_
 refine lT_ ?_
 refine pt_ hK64 ?_
 refine wp_ret ?_
 refine br_ 3 (.bool true) ?_
 exact ⟨congrArg (fun b_ => Ending.returned (.bool b_)) (show _ = decide (b.has p) from (decide_eq_true ⟨of_decide_eq_true h23, of_decide_eq_true h39, of_decide_eq_true h57⟩).symm), (hm56.sub (.cons_cons _ (.cons _ (.cons _ (.cons _ (.cons _ (List.Sublist.refl _)))))))⟩
theorem take_all_succB {P : Bx → Prop} {l : List Bx} {k : Nat} {p : Bx} (hp : l[k]? = some p) (h : ∀ q ∈ l.take k, P q) (h1 : P p) : ∀ q ∈ l.take (k + 1), P q := by
 intro q hq
 rw [List.take_add_one, List.mem_append, hp] at hq
 rcases hq with hq | hq
 ·exact h q hq
 ·simp at hq; rw [hq]; exact h1
theorem rdOpen {w : World} {B size n c : Nat} {A : Option Addr} {xs : List Value} (h : Rd w B size A n c xs) (hs : 0 < size) : ∃ b o : Nat, 0 < n → A = some ⟨b, o, none⟩ := by
 by_cases hn : 0 < n
 ·obtain ⟨b, o, e, _, _⟩ := h.cells (Nat.mul_pos hn hs)
  exact ⟨b, o, fun _ => e⟩
 ·exact ⟨0, 0, fun h => absurd h hn⟩
def ovl (l : List Bx) (p : Pt) : Bool := l.any fun b => decide (b.has p)
theorem ovl_iff {l : List Bx} {p : Pt} : ovl l p = true ↔ ∃ b ∈ l, b.has p := by unfold ovl; simp
theorem indexB_any {w0 w : World} (l : List Bx) (hl : l.length ≤ 100000) (p : Pt) (A : Option Addr) (c g : Nat) (M : List Res) (hm : Mem w0 w (.arr g 85 (exs (unitB p)) :: .rd A 6 l.length c (bxsC l) :: M)) : Calls Tryz.prog 81 #[.slice A l.length c, .func (.func 43) #[] #[.pointer (some ⟨g, 0, none⟩)]] w (fun e w' => ∃ k : Int, e = .returned (.int .i64 k) ∧ (0 ≤ k ↔ ∃ b ∈ l, b.has p) ∧ Mem w0 w' (.arr g 85 (exs (unitB p)) :: .rd A 6 l.length c (bxsC l) :: M)) := by
 obtain ⟨bi_, oi_, hA_⟩ := rdOpen (hm.rd 1 rfl) (by decide)
 have hm0 := hm
 go_enter Tryz.func81, Tryz.ntmps81
 refine litStart 19 [(0, .slice A l.length c), (1, .func (.func 43) #[] #[.pointer (some ⟨g, 0, none⟩)])] kr_ (fun X0 => ?_)
 refine sp_ fun _ hK1 => ?_
 refine li_ 0 ?_
 refine pt_ hK1 ?_
 refine sk_ fun _ hK2 => ?_
 refine sp_ fun _ hK3 => ?_
 refine lk_ (.slice A l.length c) ?_
 refine lv_ rfl (.int .i64 (l.length : Int)) (ln_ A l.length c Ty.und_L_api_Box) ?_
 refine li_ 0 ?_
 refine pt_ hK3 ?_
 refine wp_block ?_
 refine gwLoop (fun n_ a_ w_ => ∃ (k : Nat), n_ = l.length - k ∧ (k ≤ l.length) ∧ (∀ q ∈ l.take k, decide (q.has p) = false) ∧ Fr a_ 19 [(0, .slice A l.length c), (1, .func (.func 43) #[] #[.pointer (some ⟨g, 0, none⟩)]), (7, .int .i64 (l.length : Int)), (8, .int .i64 (k : Int))] ∧ Mem w0 w_ ((.arr g 85 (exs (unitB p))) :: (.rd A 6 l.length c (bxsC l)) :: M)) (l.length - 0) ⟨0, rfl, (Nat.zero_le _), (by simp), ⟨litSize, rfl, fo_⟩, hm0⟩ ?_
 clear hm0
 intro n_ a6 w4 hI_
 obtain ⟨k, rfl, hk, hno, hF_, hm5⟩ := hI_
 obtain ⟨X7, rfl⟩ := frLit hF_
 clear hF_
 refine sp_ fun _ hK8 => ?_
 by_cases h9 : (k : Int) < (l.length : Int)
 ·have hk2_ : k < l.length := by omega
  obtain ⟨b_, hg_⟩ : ∃ b_, l[k]? = some b_ := ⟨_, List.getElem?_eq_getElem hk2_⟩
  obtain rfl := hA_ (by omega)
  refine lv_ rfl _ (lsT_ h9) ?_
  refine pt_ hK8 ?_
  refine sk_ fun _ hK10 => ?_
  refine wp_cond_true le_ ?_
  refine wp_skip ?_
  refine tn_ hK10 ?_
  refine sk_ fun _ hK11 => ?_
  refine wp_block ?_
  refine sp_ fun _ hK12 => ?_
  refine li_ k ?_
  refine li_ k ?_
  refine pt_ hK12 ?_
  refine sp_ fun _ hK13 => ?_
  refine lk_ (.func (.func 43) #[] #[.pointer (some ⟨g, 0, none⟩)]) ?_
  refine lk_ (.slice (some ⟨bi_, oi_, none⟩) l.length c) ?_
  refine li_ k ?_
  refine lv_ rfl (.pointer (some ⟨bi_, oi_ + k * 6, none⟩)) (ia_ c k Ty.sl_L_api_Box rfl hk2_) ?_
  refine lv_ rfl (.agg (bxs b_).toArray) (lar_ (m := k * 6) (hm5.rd 1 rfl) (bxsC_get hg_) (by omega) Ty.ag_voxel_api_Box) ?_
  refine plCall (i := 5) 43 [.agg (bxs b_).toArray] [] [.pointer (some ⟨g, 0, none⟩)] rfl kr_ (wn rfl) rfl le_ (litArgs kr_) (ovl1_any b_ p g ((.rd (some ⟨bi_, oi_, none⟩) 6 l.length c (bxsC l)) :: M) hm5) ?_
  rintro e w14 ⟨rfl, hm15⟩
  clear hm5
  refine ⟨_, rfl, ?_⟩
  refine qP rfl ?_
  rcases bool_or (decide (b_.has p)) with h16 | h16
  ·rw [h16]
   refine pt_ hK13 ?_
   refine wp_cond_false le_ ?_
   refine wp_skip ?_
   refine inBlock_normal ?_
   refine tn_ hK11 ?_
   refine plStart ?_
   refine lv_ rfl _ (ad_ (k : Int) 1) ?_
   refine li_ ((k : Int) + 1) ?_
   refine plD ?_
   refine then_normal ?_
   exact ⟨_, by omega, (k + 1), rfl, (by omega), (take_all_succB hg_ hno h16), ⟨litSize, rfl, fo_⟩, hm15⟩
  rw [h16]
  refine pt_ hK13 ?_
  refine wp_cond_true le_ ?_
  refine sp_ fun _ hK17 => ?_
  refine li_ k ?_
  refine li_ k ?_
  refine pt_ hK17 ?_
  refine wp_ret ?_
  refine inBlock_ret ?_
  refine then_ret ?_
  refine then_ret ?_
  refine inBlock_ret ?_
  refine then_ret ?_
  refine br_ 4 (.int .i64 (k : Int)) ?_
  exact ⟨(k : Int), rfl, ⟨fun _ => ⟨b_, List.mem_of_getElem? hg_, of_decide_eq_true h16⟩, fun _ => Int.natCast_nonneg k⟩, (hm15.sub (.cons_cons _ (.cons_cons _ (List.Sublist.refl _))))⟩
 refine lv_ rfl _ (lsF_ h9) ?_
 refine pt_ hK8 ?_
 refine sk_ fun _ hK18 => ?_
 refine wp_cond_false le_ ?_
 refine wp_exit ?_
 refine then_exit ?_
 refine then_exit ?_
 refine inBlock_exit ?_
 refine tn_ hK2 ?_
 refine sp_ fun _ hK19 => ?_
 refine li_ (-1) ?_
 refine pt_ hK19 ?_
 refine wp_ret ?_
 refine br_ 4 (.int .i64 (-1)) ?_
 obtain rfl : k = l.length := by omega
 rw [List.take_length] at hno
 exact ⟨-1, rfl, ⟨fun h => absurd h (by decide), fun ⟨b, hb, hp⟩ => absurd hp (of_decide_eq_false (hno b hb))⟩, (hm5.sub (.cons_cons _ (.cons_cons _ (List.Sublist.refl _))))⟩
theorem containsB_any {w0 w : World} (l : List Bx) (hl : l.length ≤ 100000) (p : Pt) (A : Option Addr) (c g : Nat) (M : List Res) (hm : Mem w0 w (.arr g 85 (exs (unitB p)) :: .rd A 6 l.length c (bxsC l) :: M)) : Calls Tryz.prog 42 #[.slice A l.length c, .func (.func 43) #[] #[.pointer (some ⟨g, 0, none⟩)]] w (fun e w' => e = .returned (.bool (ovl l p)) ∧ Mem w0 w' (.arr g 85 (exs (unitB p)) :: .rd A 6 l.length c (bxsC l) :: M)) := by
 have hm0 := hm
 go_enter Tryz.func42, Tryz.ntmps42
 refine litStart 9 [(0, .slice A l.length c), (1, .func (.func 43) #[] #[.pointer (some ⟨g, 0, none⟩)])] kr_ (fun X0 => ?_)
 refine sp_ fun _ hK1 => ?_
 refine lF_ ?_
 refine pt_ hK1 ?_
 refine sp_ fun _ hK2 => ?_
 refine lk_ (.slice A l.length c) ?_
 refine lk_ (.func (.func 43) #[] #[.pointer (some ⟨g, 0, none⟩)]) ?_
 refine plCall (i := 2) 81 [.slice A l.length c, .func (.func 43) #[] #[.pointer (some ⟨g, 0, none⟩)]] [] [] rfl kr_ (wn rfl) rfl le_ (litArgs kr_) (indexB_any l hl p A c g (M) hm0) ?_
 rintro e w3 ⟨k_, rfl, hk_, hm4⟩
 clear hm0
 refine ⟨_, rfl, ?_⟩
 refine qP rfl ?_
 by_cases h5 : 0 ≤ k_
 ·refine lv_ rfl _ (geT_ h5) ?_
  refine lT_ ?_
  refine pt_ hK2 ?_
  refine wp_ret ?_
  refine br_ 4 (.bool true) ?_
  exact ⟨congrArg (fun b_ => Ending.returned (.bool b_)) (show _ = ovl l p from (ovl_iff.2 (hk_.1 h5)).symm), (hm4.sub (.cons_cons _ (.cons_cons _ (List.Sublist.refl _))))⟩
 refine lv_ rfl _ (geF_ h5) ?_
 refine lF_ ?_
 refine pt_ hK2 ?_
 refine wp_ret ?_
 refine br_ 4 (.bool false) ?_
 exact ⟨congrArg (fun b_ => Ending.returned (.bool b_)) (show _ = ovl l p from (Bool.eq_false_iff.2 (fun e => h5 (hk_.2 (ovl_iff.1 e)))).symm), (hm4.sub (.cons_cons _ (.cons_cons _ (List.Sublist.refl _))))⟩
theorem overlap_any (l : List Bx) (hl : l.length ≤ 100000) (p : Pt) (A : Option Addr) (c : Nat) (w : World) (hrd : Rd w w.heap.size 6 A l.length c (bxsC l)) : Calls Tryz.prog 11 #[.slice A l.length c, .agg (bxs (unitB p)).toArray] w (RetV w (.bool (ovl l p))) := by
 have hm0 := Mem.rd1 hrd
 go_enter Tryz.func11, Tryz.ntmps11
 refine litStart 11 [(0, .slice A l.length c), (1, .agg (bxs (unitB p)).toArray)] kr_ (fun X0 => ?_)
 refine sp_ fun _ hK1 => ?_
 refine plBox hm0 (cs := bxs (unitB p)) (i := 0) rfl (wn rfl) rfl le_ ?_
 intro g2 w4 hm3
 clear hm0
 try simp only [lc_] at hm3
 refine qP rfl ?_
 refine lF_ ?_
 refine pt_ hK1 ?_
 refine sp_ fun _ hK5 => ?_
 refine lv_ rfl (.agg (bxs (unitB p)).toArray) (la_ 0 1 hm3 Ty.ag_voxel_api_Box) ?_
 refine plCall (i := 1) 35 [.agg (bxs (unitB p)).toArray] [] [] rfl kr_ (wn rfl) rfl le_ (litArgs kr_) (cof_any (unitB p) _) ?_
 rintro e w6 ⟨rfl, hbz⟩
 have hm7 := hm3.below hbz
 clear hbz hm3
 refine ⟨_, rfl, ?_⟩
 refine qP rfl ?_
 refine plAlloc (z := [.int .i64 0, .int .i64 0, .int .i64 0, .int .i64 0, .int .i64 0, .int .i64 0]) Ty.ag_voxel_collide_extent hm7 (i := 2) rfl (wn rfl) rfl ?_
 intro g8 w10 hm9
 clear hm7
 try simp only [lc_] at hm9
 refine qP rfl ?_
 refine plStore 2 Ty.ag_voxel_collide_extent hm9 rfl (i := 3) (cs := exs (unitB p)) rfl (wn rfl) rfl le_ le_ rfl rfl kr_ ?_
 intro w12 hm11
 clear hm9
 try simp only [lc_] at hm11
 refine qNone rfl ?_
 refine pt_ hK5 ?_
 refine sp_ fun _ hK13 => ?_
 refine lk_ (.slice A l.length c) ?_
 refine lk_ (.func (.func 43) #[] #[.pointer (some ⟨g8, 0, none⟩)]) ?_
 have hm14 : Mem w w12 [.rd A 6 l.length c (bxsC l), .arr g2 25 (bxs (unitB p)), .arr g8 85 (exs (unitB p))] := Mem.front 0 hm11 rfl
 clear hm11
 have hm15 := hm14.f2
 clear hm14
 refine plCall (i := 2) 42 [.slice A l.length c, .func (.func 43) #[] #[.pointer (some ⟨g8, 0, none⟩)]] [] [] rfl kr_ (wn rfl) rfl le_ (litArgs kr_) (containsB_any l hl p A c g8 ([.arr g2 25 (bxs (unitB p))]) hm15) ?_
 rintro e w16 ⟨rfl, hm17⟩
 clear hm15
 refine ⟨_, rfl, ?_⟩
 refine qP rfl ?_
 rcases bool_or (ovl l p) with h18 | h18
 ·rw [h18]
  refine lF_ ?_
  refine pt_ hK13 ?_
  refine wp_ret ?_
  refine br_ 4 (.bool false) ?_
  exact ⟨congrArg (fun b_ => Ending.returned (.bool b_)) (show _ = ovl l p by rw [h18]), hm17.bel⟩
 rw [h18]
 refine lT_ ?_
 refine pt_ hK13 ?_
 refine wp_ret ?_
 refine br_ 4 (.bool true) ?_
 exact ⟨congrArg (fun b_ => Ending.returned (.bool b_)) (show _ = ovl l p by rw [h18]), hm17.bel⟩
theorem cshift_any (p : Pt) (hp : p.w 1000) (w : World) : Calls Tryz.prog 45 #[.agg (bxs (unitB p)).toArray, .int .i64 2, .int .i64 (-1)] w (RetV w (.agg (bxs (unitB ⟨p.x, p.y, p.z - 1⟩)).toArray)) := by
 unfold Pt.w at hp
 have hm0 := Mem.nil w
 go_enter Tryz.func45, Tryz.ntmps45
 refine litStart 28 [(0, .agg (bxs (unitB p)).toArray), (1, .int .i64 2), (2, .int .i64 (-1))] kr_ (fun X0 => ?_)
 refine sp_ fun _ hK1 => ?_
 refine plBox hm0 (cs := bxs (unitB p)) (i := 0) rfl (wn rfl) rfl le_ ?_
 intro g2 w4 hm3
 clear hm0
 try simp only [lc_] at hm3
 refine qP rfl ?_
 refine plAlloc (z := [.int .i64 0, .int .i64 0, .int .i64 0, .int .i64 0, .int .i64 0, .int .i64 0]) Ty.ag_voxel_api_Box hm3 (i := 1) rfl (wn rfl) rfl ?_
 intro g5 w7 hm6
 clear hm3
 try simp only [lc_] at hm6
 refine qP rfl ?_
 refine pt_ hK1 ?_
 refine sp_ fun _ hK8 => ?_
 refine lv_ rfl (.agg (bxs (unitB p)).toArray) (la_ 0 0 hm6 Ty.ag_voxel_api_Box) ?_
 refine plCall (i := 1) 35 [.agg (bxs (unitB p)).toArray] [] [] rfl kr_ (wn rfl) rfl le_ (litArgs kr_) (cof_any (unitB p) _) ?_
 rintro e w9 ⟨rfl, hbz⟩
 have hm10 := hm6.below hbz
 clear hbz hm6
 refine ⟨_, rfl, ?_⟩
 refine qP rfl ?_
 refine plAlloc (z := [.int .i64 0, .int .i64 0, .int .i64 0, .int .i64 0, .int .i64 0, .int .i64 0]) Ty.ag_voxel_collide_extent hm10 (i := 2) rfl (wn rfl) rfl ?_
 intro g11 w13 hm12
 clear hm10
 try simp only [lc_] at hm12
 refine qP rfl ?_
 refine plStore 2 Ty.ag_voxel_collide_extent hm12 rfl (i := 3) (cs := exs (unitB p)) rfl (wn rfl) rfl le_ le_ rfl rfl kr_ ?_
 intro w15 hm14
 clear hm12
 try simp only [lc_] at hm14
 refine qNone rfl ?_
 refine pt_ hK8 ?_
 refine sk_ fun _ hK16 => ?_
 refine aoStart (aoV [fun _ => .int .i64 2, fun _ => .pointer (some ⟨g11, 4, none⟩), fun _ => .pointer (some ⟨g11, 4, none⟩), fun _ => .int .i64 p.z, fun _ => .int .i64 (-1), fun _ => .int .i64 (p.z + (-1)), fun _ => .pointer (some ⟨g11, 4, none⟩), fun _ => .pointer (some ⟨g11, 4, none⟩), fun _ => undef]) (aoA [[], [], [], [], [], [], [], [], []]) (fun b_ g_ => ((.arr g2 25 (bxs (unitB p))) :: (.arr g5 25 ([.int .i64 0, .int .i64 0, .int .i64 0, .int .i64 0, .int .i64 0, .int .i64 0])) :: (.arr g11 85 (bsel (b_ 8) [.int .i64 p.x, .int .i64 (p.x + 1), .int .i64 p.y, .int .i64 (p.y + 1), .int .i64 (p.z + (-1)), .int .i64 (p.z + 1)] (exs (unitB p)))) :: [])) hm14 kr_ kr_ (fun w_ h_ => h_) (fun b_ g_ h_ => by show (fun (x8_ : Bool) => (((.arr g2 25 (bxs (unitB p))) :: (.arr g5 25 ([.int .i64 0, .int .i64 0, .int .i64 0, .int .i64 0, .int .i64 0, .int .i64 0])) :: (.arr g11 85 (bsel x8_ [.int .i64 p.x, .int .i64 (p.x + 1), .int .i64 p.y, .int .i64 (p.y + 1), .int .i64 (p.z + (-1)), .int .i64 (p.z + 1)] (exs (unitB p)))) :: []) : List Res)) (b_ 8) = _; rw [h_ 8 (by decide)]) ?_ ?_
 ·refine aoNext rfl aoK_ ?_
  refine aoNext rfl (aoV_ (fun b_ g_ X_ w_ h_b h_ => valTo (b := .pointer (some ⟨g11, 4, none⟩)) kr_ (iaRun (b := g11) (off := 0) (s := 2) (n := 3) (kk := .i64) (.tmp 7) (.tmp 10) 2 Ty.und_voxel_collide_extent kr_ rfl le_ le_ rfl (by decide)))) ?_
  refine aoNext rfl (aoV_ (fun b_ g_ X_ w_ h_b h_ => valTo (b := .pointer (some ⟨g11, 4, none⟩)) kr_ (iaRun (b := g11) (off := 4) (s := 1) (n := 2) (kk := .i64) (.tmp 11) (.const (.int .i64 0)) 0 Ty.und_2_int kr_ rfl le_ le_ rfl (by decide)))) ?_
  refine aoNext rfl (aoV_ (fun b_ g_ X_ w_ h_b h_ => valTo (b := .int .i64 p.z) kr_ ((fun (h_ : Mem _ w_ ((.arr g2 25 (bxs (unitB p))) :: (.arr g5 25 ([.int .i64 0, .int .i64 0, .int .i64 0, .int .i64 0, .int .i64 0, .int .i64 0])) :: (.arr g11 85 (exs (unitB p))) :: [])) => gLoad (v := .int .i64 p.z) (k := 4) 2 h_ rfl kr_ (.tmp 12) kr_ rfl le_) (by have h2_ : Mem w w_ ((.arr g2 25 (bxs (unitB p))) :: (.arr g5 25 ([.int .i64 0, .int .i64 0, .int .i64 0, .int .i64 0, .int .i64 0, .int .i64 0])) :: (.arr g11 85 (bsel (b_ 8) [.int .i64 p.x, .int .i64 (p.x + 1), .int .i64 p.y, .int .i64 (p.y + 1), .int .i64 (p.z + (-1)), .int .i64 (p.z + 1)] (exs (unitB p)))) :: []) := h_; rw [bselF (h_b.post 8 kr_)] at h2_; exact h2_)))) ?_
  refine aoNext rfl aoK_ ?_
  refine aoNext rfl (aoV_ (fun b_ g_ X_ w_ h_b h_ => valTo (b := .int .i64 (p.z + (-1))) kr_ (ad_ p.z (-1)))) ?_
  refine aoNext rfl (aoV_ (fun b_ g_ X_ w_ h_b h_ => valTo (b := .pointer (some ⟨g11, 4, none⟩)) kr_ (iaRun (b := g11) (off := 0) (s := 2) (n := 3) (kk := .i64) (.tmp 7) (.tmp 10) 2 Ty.und_voxel_collide_extent kr_ rfl le_ le_ rfl (by decide)))) ?_
  refine aoNext rfl (aoV_ (fun b_ g_ X_ w_ h_b h_ => valTo (b := .pointer (some ⟨g11, 4, none⟩)) kr_ (iaRun (b := g11) (off := 4) (s := 1) (n := 2) (kk := .i64) (.tmp 16) (.const (.int .i64 0)) 0 Ty.und_2_int kr_ rfl le_ le_ rfl (by decide)))) ?_
  refine aoNext rfl (aoStore1 (gb := fun g_ => g11) (k := 4) (cur := fun g_ => exs (unitB p)) (v := fun g_ => .int .i64 (p.z + (-1))) (v0 := fun g_ => .int .i64 p.z) 2 (fun g_ => [(15, .int .i64 (p.z + (-1))), (17, .pointer (some ⟨g11, 4, none⟩))]) (fun g_ a_ h_k => ⟨(h_k.inn 5 _ _ kr_ rfl rfl).trans kr_, (h_k.inn 7 _ _ kr_ rfl rfl).trans kr_, trivial⟩) kr_ (fun b_ g_ h_b => by show some (Res.arr g11 85 (bsel (b_ 8) [.int .i64 p.x, .int .i64 (p.x + 1), .int .i64 p.y, .int .i64 (p.y + 1), .int .i64 (p.z + (-1)), .int .i64 (p.z + 1)] (exs (unitB p)))) = some (Res.arr g11 85 (exs (unitB p))); rw [bselF h_b.no]) (fun g_ X_ => (wn rfl)) rfl (fun g_ X_ => litEv kr_) (fun g_ X_ => litEv kr_) (fun _ => rfl) (fun _ => rfl) (fun _ => rfl) (fun b_ g_ h_b => by kernel_rfl) rfl) ?_
  exact aoDone (by decide)
 intro g_ a_ w18 hF_ hm17
 obtain ⟨X19, rfl⟩ := frLit (⟨hF_.size, hF_.defers, ⟨hF_.o_ 1, hF_.o_ 2, hF_.o_ 6, hF_.o_ 7, hF_.i_ 0, hF_.i_ 1, hF_.i_ 2, hF_.i_ 3, hF_.i_ 4, hF_.i_ 5, hF_.i_ 6, hF_.i_ 7, trivial⟩⟩ : Fr _ 28 [(1, .int .i64 2), (2, .int .i64 (-1)), (6, .pointer (some ⟨g5, 0, none⟩)), (7, .pointer (some ⟨g11, 0, none⟩)), (10, .int .i64 2), (11, .pointer (some ⟨g11, 4, none⟩)), (12, .pointer (some ⟨g11, 4, none⟩)), (13, .int .i64 p.z), (14, .int .i64 (-1)), (15, .int .i64 (p.z + (-1))), (16, .pointer (some ⟨g11, 4, none⟩)), (17, .pointer (some ⟨g11, 4, none⟩))])
 clear hF_
 have hm20 : Mem w w18 [.arr g2 25 (bxs (unitB p)), .arr g5 25 ([.int .i64 0, .int .i64 0, .int .i64 0, .int .i64 0, .int .i64 0, .int .i64 0]), .arr g11 85 ([.int .i64 p.x, .int .i64 (p.x + 1), .int .i64 p.y, .int .i64 (p.y + 1), .int .i64 (p.z + (-1)), .int .i64 (p.z + 1)])] := hm17
 clear hm17 hm14
 refine tn_ hK16 ?_
 refine sk_ fun _ hK21 => ?_
 refine aoStart (aoV [fun _ => .int .i64 2, fun _ => .pointer (some ⟨g11, 4, none⟩), fun _ => .pointer (some ⟨g11, 5, none⟩), fun _ => .int .i64 (p.z + 1), fun _ => .int .i64 (-1), fun _ => .int .i64 ((p.z + 1) + (-1)), fun _ => .pointer (some ⟨g11, 4, none⟩), fun _ => .pointer (some ⟨g11, 5, none⟩), fun _ => undef]) (aoA [[], [], [], [], [], [], [], [], []]) (fun b_ g_ => ((.arr g2 25 (bxs (unitB p))) :: (.arr g5 25 ([.int .i64 0, .int .i64 0, .int .i64 0, .int .i64 0, .int .i64 0, .int .i64 0])) :: (.arr g11 85 (bsel (b_ 8) [.int .i64 p.x, .int .i64 (p.x + 1), .int .i64 p.y, .int .i64 (p.y + 1), .int .i64 (p.z + (-1)), .int .i64 ((p.z + 1) + (-1))] [.int .i64 p.x, .int .i64 (p.x + 1), .int .i64 p.y, .int .i64 (p.y + 1), .int .i64 (p.z + (-1)), .int .i64 (p.z + 1)])) :: [])) hm20 kr_ kr_ (fun w_ h_ => h_) (fun b_ g_ h_ => by show (fun (x8_ : Bool) => (((.arr g2 25 (bxs (unitB p))) :: (.arr g5 25 ([.int .i64 0, .int .i64 0, .int .i64 0, .int .i64 0, .int .i64 0, .int .i64 0])) :: (.arr g11 85 (bsel x8_ [.int .i64 p.x, .int .i64 (p.x + 1), .int .i64 p.y, .int .i64 (p.y + 1), .int .i64 (p.z + (-1)), .int .i64 ((p.z + 1) + (-1))] [.int .i64 p.x, .int .i64 (p.x + 1), .int .i64 p.y, .int .i64 (p.y + 1), .int .i64 (p.z + (-1)), .int .i64 (p.z + 1)])) :: []) : List Res)) (b_ 8) = _; rw [h_ 8 (by decide)]) ?_ ?_
 ·refine aoNext rfl aoK_ ?_
  refine aoNext rfl (aoV_ (fun b_ g_ X_ w_ h_b h_ => valTo (b := .pointer (some ⟨g11, 4, none⟩)) kr_ (iaRun (b := g11) (off := 0) (s := 2) (n := 3) (kk := .i64) (.tmp 7) (.tmp 18) 2 Ty.und_voxel_collide_extent kr_ rfl le_ le_ rfl (by decide)))) ?_
  refine aoNext rfl (aoV_ (fun b_ g_ X_ w_ h_b h_ => valTo (b := .pointer (some ⟨g11, 5, none⟩)) kr_ (iaRun (b := g11) (off := 4) (s := 1) (n := 2) (kk := .i64) (.tmp 19) (.const (.int .i64 1)) 1 Ty.und_2_int kr_ rfl le_ le_ rfl (by decide)))) ?_
  refine aoNext rfl (aoV_ (fun b_ g_ X_ w_ h_b h_ => valTo (b := .int .i64 (p.z + 1)) kr_ ((fun (h_ : Mem _ w_ ((.arr g2 25 (bxs (unitB p))) :: (.arr g5 25 ([.int .i64 0, .int .i64 0, .int .i64 0, .int .i64 0, .int .i64 0, .int .i64 0])) :: (.arr g11 85 ([.int .i64 p.x, .int .i64 (p.x + 1), .int .i64 p.y, .int .i64 (p.y + 1), .int .i64 (p.z + (-1)), .int .i64 (p.z + 1)])) :: [])) => gLoad (v := .int .i64 (p.z + 1)) (k := 5) 2 h_ rfl kr_ (.tmp 20) kr_ rfl le_) (by have h2_ : Mem w w_ ((.arr g2 25 (bxs (unitB p))) :: (.arr g5 25 ([.int .i64 0, .int .i64 0, .int .i64 0, .int .i64 0, .int .i64 0, .int .i64 0])) :: (.arr g11 85 (bsel (b_ 8) [.int .i64 p.x, .int .i64 (p.x + 1), .int .i64 p.y, .int .i64 (p.y + 1), .int .i64 (p.z + (-1)), .int .i64 ((p.z + 1) + (-1))] [.int .i64 p.x, .int .i64 (p.x + 1), .int .i64 p.y, .int .i64 (p.y + 1), .int .i64 (p.z + (-1)), .int .i64 (p.z + 1)])) :: []) := h_; rw [bselF (h_b.post 8 kr_)] at h2_; exact h2_)))) ?_
  refine aoNext rfl aoK_ ?_
  refine aoNext rfl (aoV_ (fun b_ g_ X_ w_ h_b h_ => valTo (b := .int .i64 ((p.z + 1) + (-1))) kr_ (ad_ (p.z + 1) (-1)))) ?_
  refine aoNext rfl (aoV_ (fun b_ g_ X_ w_ h_b h_ => valTo (b := .pointer (some ⟨g11, 4, none⟩)) kr_ (iaRun (b := g11) (off := 0) (s := 2) (n := 3) (kk := .i64) (.tmp 7) (.tmp 18) 2 Ty.und_voxel_collide_extent kr_ rfl le_ le_ rfl (by decide)))) ?_
  refine aoNext rfl (aoV_ (fun b_ g_ X_ w_ h_b h_ => valTo (b := .pointer (some ⟨g11, 5, none⟩)) kr_ (iaRun (b := g11) (off := 4) (s := 1) (n := 2) (kk := .i64) (.tmp 24) (.const (.int .i64 1)) 1 Ty.und_2_int kr_ rfl le_ le_ rfl (by decide)))) ?_
  refine aoNext rfl (aoStore1 (gb := fun g_ => g11) (k := 5) (cur := fun g_ => [.int .i64 p.x, .int .i64 (p.x + 1), .int .i64 p.y, .int .i64 (p.y + 1), .int .i64 (p.z + (-1)), .int .i64 (p.z + 1)]) (v := fun g_ => .int .i64 ((p.z + 1) + (-1))) (v0 := fun g_ => .int .i64 (p.z + 1)) 2 (fun g_ => [(23, .int .i64 ((p.z + 1) + (-1))), (25, .pointer (some ⟨g11, 5, none⟩))]) (fun g_ a_ h_k => ⟨(h_k.inn 5 _ _ kr_ rfl rfl).trans kr_, (h_k.inn 7 _ _ kr_ rfl rfl).trans kr_, trivial⟩) kr_ (fun b_ g_ h_b => by show some (Res.arr g11 85 (bsel (b_ 8) [.int .i64 p.x, .int .i64 (p.x + 1), .int .i64 p.y, .int .i64 (p.y + 1), .int .i64 (p.z + (-1)), .int .i64 ((p.z + 1) + (-1))] [.int .i64 p.x, .int .i64 (p.x + 1), .int .i64 p.y, .int .i64 (p.y + 1), .int .i64 (p.z + (-1)), .int .i64 (p.z + 1)])) = some (Res.arr g11 85 ([.int .i64 p.x, .int .i64 (p.x + 1), .int .i64 p.y, .int .i64 (p.y + 1), .int .i64 (p.z + (-1)), .int .i64 (p.z + 1)])); rw [bselF h_b.no]) (fun g_ X_ => (wn rfl)) rfl (fun g_ X_ => litEv kr_) (fun g_ X_ => litEv kr_) (fun _ => rfl) (fun _ => rfl) (fun _ => rfl) (fun b_ g_ h_b => by kernel_rfl) rfl) ?_
  exact aoDone (by decide)
 intro g_ a_ w23 hF_ hm22
 obtain ⟨X24, rfl⟩ := frLit (⟨hF_.size, hF_.defers, ⟨hF_.o_ 6, hF_.o_ 7, hF_.i_ 0, hF_.i_ 1, hF_.i_ 2, hF_.i_ 3, hF_.i_ 4, hF_.i_ 5, hF_.i_ 6, hF_.i_ 7, trivial⟩⟩ : Fr _ 28 [(6, .pointer (some ⟨g5, 0, none⟩)), (7, .pointer (some ⟨g11, 0, none⟩)), (18, .int .i64 2), (19, .pointer (some ⟨g11, 4, none⟩)), (20, .pointer (some ⟨g11, 5, none⟩)), (21, .int .i64 (p.z + 1)), (22, .int .i64 (-1)), (23, .int .i64 ((p.z + 1) + (-1))), (24, .pointer (some ⟨g11, 4, none⟩)), (25, .pointer (some ⟨g11, 5, none⟩))])
 clear hF_
 have hm25 : Mem w w23 [.arr g2 25 (bxs (unitB p)), .arr g5 25 ([.int .i64 0, .int .i64 0, .int .i64 0, .int .i64 0, .int .i64 0, .int .i64 0]), .arr g11 85 ([.int .i64 p.x, .int .i64 (p.x + 1), .int .i64 p.y, .int .i64 (p.y + 1), .int .i64 (p.z + (-1)), .int .i64 ((p.z + 1) + (-1))])] := hm22
 clear hm22 hm20
 refine tn_ hK21 ?_
 refine sp_ fun _ hK26 => ?_
 refine lv_ rfl (.agg (bxs ⟨⟨p.x, p.x + 1, p.y⟩, ⟨p.y + 1, p.z + (-1), (p.z + 1) + (-1)⟩⟩).toArray) (la_ 0 2 hm25 Ty.ag_voxel_collide_extent) ?_
 refine plCall (i := 1) 36 [.agg (bxs ⟨⟨p.x, p.x + 1, p.y⟩, ⟨p.y + 1, p.z + (-1), (p.z + 1) + (-1)⟩⟩).toArray] [] [] rfl kr_ (wn rfl) rfl le_ (litArgs kr_) ((by have h_ := cbox_any (unitB ⟨p.x, p.y, p.z - 1⟩); rw [← shift_exs] at h_; exact h_ _)) ?_
 rintro e w27 ⟨rfl, hbz⟩
 have hm28 := hm25.below hbz
 clear hbz hm25
 refine ⟨_, rfl, ?_⟩
 refine qP rfl ?_
 refine plStore 1 Ty.ag_voxel_api_Box hm28 rfl (i := 2) (cs := bxs (unitB (⟨p.x, p.y, p.z - 1⟩))) rfl (wn rfl) rfl le_ le_ rfl rfl kr_ ?_
 intro w30 hm29
 clear hm28
 try simp only [lc_] at hm29
 refine qNone rfl ?_
 refine pt_ hK26 ?_
 refine wp_ret ?_
 refine bodyPost_ret (v := .agg (bxs (unitB (⟨p.x, p.y, p.z - 1⟩))).toArray) (gRes1 rfl (gResAg (cs := bxs (unitB (⟨p.x, p.y, p.z - 1⟩))) 1 hm29 rfl Ty.ag_voxel_api_Box rfl (lg_))) rfl ?_
 exact ⟨by rfl, hm29.bel⟩
theorem rests_any (l : List Bx) (hl : l.length ≤ 100000) (p : Pt) (hp : p.w 1000) (A : Option Addr) (c : Nat) (w : World) (hrd : Rd w w.heap.size 6 A l.length c (bxsC l)) : Calls Tryz.prog 13 #[.slice A l.length c, .agg (bxs (unitB p)).toArray] w (RetV w (.bool (!ovl l p && ovl l ⟨p.x, p.y, p.z - 1⟩))) := by
 have hm0 := Mem.rd1 hrd
 go_enter Tryz.func13, Tryz.ntmps13
 refine litStart 15 [(0, .slice A l.length c), (1, .agg (bxs (unitB p)).toArray)] kr_ (fun X0 => ?_)
 refine sp_ fun _ hK1 => ?_
 refine plBox hm0 (cs := bxs (unitB p)) (i := 0) rfl (wn rfl) rfl le_ ?_
 intro g2 w4 hm3
 clear hm0
 try simp only [lc_] at hm3
 refine qP rfl ?_
 refine lF_ ?_
 refine pt_ hK1 ?_
 refine sp_ fun _ hK5 => ?_
 refine lk_ (.slice A l.length c) ?_
 refine lv_ rfl (.agg (bxs (unitB p)).toArray) (la_ 0 1 hm3 Ty.ag_voxel_api_Box) ?_
 refine plCall (i := 2) 11 [.slice A l.length c, .agg (bxs (unitB p)).toArray] [] [] rfl kr_ (wn rfl) rfl le_ (litArgs kr_) (overlap_any l hl p A c _ (hm3.rd 0 rfl)) ?_
 rintro e w6 ⟨rfl, hbz⟩
 have hm7 := hm3.below hbz
 clear hbz hm3
 refine ⟨_, rfl, ?_⟩
 refine qP rfl ?_
 rcases bool_or (ovl l p) with h8 | h8
 ·rw [h8]
  refine lT_ ?_
  refine lT_ ?_
  refine lw_ rfl (.slice A l.length c) (litRun kr_) ?_
  refine lw_ rfl (.agg (bxs (unitB p)).toArray) (la_ 0 1 hm7 Ty.ag_voxel_api_Box) ?_
  refine plCall (i := 7) 45 [.agg (bxs (unitB p)).toArray, .int .i64 2, .int .i64 (-1)] [] [] rfl kr_ (wgY rfl rfl rfl (by decide) kr_) rfl le_ (litArgs kr_) (cshift_any p hp _) ?_
  rintro e w9 ⟨rfl, hbz⟩
  have hm10 := hm7.below hbz
  clear hbz hm7
  refine ⟨_, rfl, ?_⟩
  refine qP rfl ?_
  refine plCall (i := 8) 11 [.slice A l.length c, .agg (bxs (unitB (⟨p.x, p.y, p.z - 1⟩))).toArray] [] [] rfl kr_ (wgY rfl rfl rfl (by decide) kr_) rfl le_ (litArgs kr_) (overlap_any l hl (⟨p.x, p.y, p.z - 1⟩) A c _ (hm10.rd 0 rfl)) ?_
  rintro e w11 ⟨rfl, hbz⟩
  have hm12 := hm10.below hbz
  clear hbz hm10
  refine ⟨_, rfl, ?_⟩
  refine qP rfl ?_
  rcases bool_or (ovl l (⟨p.x, p.y, p.z - 1⟩)) with h13 | h13
  ·rw [h13]
   refine lF_ ?_
   refine lF_ ?_
   refine pt_ hK5 ?_
   refine wpPrune [(4, .bool false)] fo_ (fun X14 => ?_)
   refine wp_ret ?_
   refine br_ 4 (.bool false) ?_
   exact ⟨congrArg (fun b_ => Ending.returned (.bool b_)) (show _ = (!ovl l p && ovl l ⟨p.x, p.y, p.z - 1⟩) by rw [h8, h13]; rfl), hm12.bel⟩
  rw [h13]
  refine lT_ ?_
  refine lT_ ?_
  refine pt_ hK5 ?_
  refine wpPrune [(4, .bool true)] fo_ (fun X15 => ?_)
  refine wp_ret ?_
  refine br_ 4 (.bool true) ?_
  exact ⟨congrArg (fun b_ => Ending.returned (.bool b_)) (show _ = (!ovl l p && ovl l ⟨p.x, p.y, p.z - 1⟩) by rw [h8, h13]; rfl), hm12.bel⟩
 rw [h8]
 refine lF_ ?_
 refine lF_ ?_
 refine ps_ (i := 5) ?_
 refine ps_ (i := 6) ?_
 refine ps_ (i := 7) ?_
 refine ps_ (i := 8) ?_
 refine lF_ ?_
 refine lF_ ?_
 refine pt_ hK5 ?_
 refine wpPrune [(4, .bool false)] fo_ (fun X16 => ?_)
 refine wp_ret ?_
 refine br_ 4 (.bool false) ?_
 exact ⟨congrArg (fun b_ => Ending.returned (.bool b_)) (show _ = (!ovl l p && ovl l ⟨p.x, p.y, p.z - 1⟩) by rw [h8]; rfl), hm7.bel⟩
def overP (q : Qd) (p : Pt) : Prop := (q.p.y ≤ p.y ∧ p.y < q.p.y + q.sz) ∧ (q.p.z ≤ p.z ∧ p.z < q.p.z + q.sz)
instance (q : Qd) (p : Pt) : Decidable (overP q p) := by unfold overP; infer_instance
def insP (p : Pt) (q : Qd) : Prop := q.ax = 0 ∧ p.x < q.p.x ∧ overP q p
instance (p : Pt) (q : Qd) : Decidable (insP p q) := by unfold insP; infer_instance
def oddB (p : Pt) (l : List Qd) : Bool := l.foldl (fun b q => if insP p q then !b else b) false
theorem oddB_succ {p : Pt} {l : List Qd} {k : Nat} {q : Qd} (h : l[k]? = some q) : oddB p (l.take (k + 1)) = if insP p q then !oddB p (l.take k) else oddB p (l.take k) := by
 unfold oddB
 rw [List.take_add_one, h, List.foldl_append]
 rfl
theorem oddB_yes {p : Pt} {l : List Qd} {k : Nat} {q : Qd} (h : l[k]? = some q) (hi : insP p q) {b : Bool} (hb : oddB p (l.take k) = b) : oddB p (l.take (k + 1)) = !b := by rw [oddB_succ h, if_pos hi, hb]
theorem oddB_no {p : Pt} {l : List Qd} {k : Nat} {q : Qd} (h : l[k]? = some q) (hi : ¬ insP p q) : oddB p (l.take (k + 1)) = oddB p (l.take k) := by rw [oddB_succ h, if_neg hi]
theorem minside_any (d : List Qd) (H : List Hf) (hok : ∀ q ∈ d, q.Ok) (hl : d.length ≤ 100000) (p : Pt) (qA hA : Option Addr) (qc hc : Nat) (w : World) (hrd : Rd w w.heap.size 6 qA d.length qc (qdsC d)) : Calls Tryz.prog 10 #[.agg ([.slice qA d.length qc, .slice hA H.length hc]).toArray, .agg (pcs p).toArray] w (RetV w (.bool (oddB p d))) := by
 obtain ⟨bi_, oi_, hA_⟩ := rdOpen hrd (by decide)
 have hm0 := Mem.rd1 hrd
 go_enter Tryz.func10, Tryz.ntmps10
 refine litStart 70 [(0, .agg ([.slice qA d.length qc, .slice hA H.length hc]).toArray), (1, .agg (pcs p).toArray)] kr_ (fun X0 => ?_)
 refine sp_ fun _ hK1 => ?_
 refine plBox hm0 (cs := [.slice qA d.length qc, .slice hA H.length hc]) (i := 0) rfl (wn rfl) rfl le_ ?_
 intro g2 w4 hm3
 clear hm0
 try simp only [lc_] at hm3
 refine qP rfl ?_
 refine plBox hm3 (cs := pcs p) (i := 1) rfl (wn rfl) rfl le_ ?_
 intro g5 w7 hm6
 clear hm3
 try simp only [lc_] at hm6
 refine qP rfl ?_
 refine lF_ ?_
 refine pt_ hK1 ?_
 refine sp_ fun _ hK8 => ?_
 refine lF_ ?_
 refine pt_ hK8 ?_
 refine sk_ fun _ hK9 => ?_
 refine sp_ fun _ hK10 => ?_
 refine lp_ g2 0 ?_
 refine lv_ rfl (.slice qA d.length qc) (ld_ 0 1 hm6) ?_
 refine lv_ rfl (.int .i64 (d.length : Int)) (ln_ qA d.length qc Ty.und_L_api_Quad) ?_
 refine li_ 0 ?_
 refine pt_ hK10 ?_
 refine wp_block ?_
 refine gwLoop (fun n_ a_ w_ => ∃ (k : Nat), n_ = d.length - k ∧ (k ≤ d.length) ∧ Fr a_ 70 [(3, .pointer (some ⟨g5, 0, none⟩)), (4, .bool false), (5, .bool (oddB p (d.take k))), (10, .slice qA d.length qc), (11, .int .i64 (d.length : Int)), (12, .int .i64 (k : Int))] ∧ Mem w w_ [.rd qA 6 d.length qc (qdsC d), .arr g2 41 ([.slice qA d.length qc, .slice hA H.length hc]), .arr g5 23 (pcs p)]) (d.length - 0) ⟨0, rfl, (Nat.zero_le _), ⟨litSize, rfl, fo_⟩, hm6⟩ ?_
 clear hm6
 intro n_ a13 w11 hI_
 obtain ⟨k, rfl, hk, hF_, hm12⟩ := hI_
 obtain ⟨X14, rfl⟩ := frLit hF_
 clear hF_
 refine sp_ fun _ hK15 => ?_
 by_cases h16 : (k : Int) < (d.length : Int)
 ·have hk2_ : k < d.length := by omega
  obtain ⟨q, hg_⟩ : ∃ q, d[k]? = some q := ⟨_, List.getElem?_eq_getElem hk2_⟩
  obtain rfl := hA_ (by omega)
  have hqo_ := hok q (List.mem_of_getElem? hg_)
  have hqp_ := hqo_.1
  have hqs_ := hqo_.2.2
  unfold Pt.w at hqp_
  refine lv_ rfl _ (lsT_ h16) ?_
  refine pt_ hK15 ?_
  refine sk_ fun _ hK17 => ?_
  refine wp_cond_true le_ ?_
  refine wp_skip ?_
  refine tn_ hK17 ?_
  refine sk_ fun _ hK18 => ?_
  refine wp_block ?_
  refine sp_ fun _ hK19 => ?_
  refine lv_ rfl (.pointer (some ⟨bi_, oi_ + k * 6, none⟩)) (ia_ qc k Ty.sl_L_api_Quad rfl hk2_) ?_
  refine lv_ rfl (.agg (qdc q).toArray) (lar_ (m := k * 6) (hm12.rd 0 rfl) (qdsC_get hg_) (by omega) Ty.ag_voxel_api_Quad) ?_
  refine plAlloc (z := [.int .i64 0, .int .i64 0, .int .i64 0, .int .i64 0, .bool false, .int .i64 0]) Ty.ag_voxel_api_Quad hm12 (i := 2) rfl (wn rfl) rfl ?_
  intro g20 w22 hm21
  clear hm12
  try simp only [lc_] at hm21
  refine qP rfl ?_
  refine plStore 3 Ty.ag_voxel_api_Quad hm21 rfl (i := 3) (cs := qdc q) rfl (wn rfl) rfl le_ le_ rfl rfl kr_ ?_
  intro w24 hm23
  clear hm21
  try simp only [lc_] at hm23
  refine qNone rfl ?_
  refine pt_ hK19 ?_
  refine gwCut (fun a_ w_ => (True) ∧ Fr a_ 70 [(3, .pointer (some ⟨g5, 0, none⟩)), (4, .bool false), (5, .bool (oddB p (d.take k))), (7, .pointer (some ⟨g20, 0, none⟩)), (8, .bool (decide (overP q p))), (10, .slice (some ⟨bi_, oi_, none⟩) d.length qc), (11, .int .i64 (d.length : Int)), (12, .int .i64 (k : Int)), (13, .bool true), (14, .pointer (some ⟨bi_, oi_ + k * 6, none⟩)), (15, .agg (qdc q).toArray)] ∧ Mem w w_ [.rd (some ⟨bi_, oi_, none⟩) 6 d.length qc (qdsC d), .arr g2 41 ([.slice (some ⟨bi_, oi_, none⟩) d.length qc, .slice hA H.length hc]), .arr g5 23 (pcs p), .arr g20 45 (qdc q)]) ?_ ?_
  ·refine plStart ?_
   refine lp_ g20 0 ?_
   refine lp_ g20 1 ?_
   refine lv_ rfl (.int .i64 q.p.y) (ld_ 1 3 hm23) ?_
   refine lp_ g5 1 ?_
   refine lv_ rfl (.int .i64 p.y) (ld_ 1 2 hm23) ?_
   by_cases h25 : q.p.y ≤ p.y
   ·refine lv_ rfl _ (leT_ h25) ?_
    refine lT_ ?_
    refine lw_ rfl (.pointer (some ⟨g5, 1, none⟩)) (litRun kr_) ?_
    refine lw_ rfl (.int .i64 p.y) (ld_ 1 2 hm23) ?_
    refine lw_ rfl (.pointer (some ⟨g20, 0, none⟩)) (litRun kr_) ?_
    refine lw_ rfl (.pointer (some ⟨g20, 1, none⟩)) (litRun kr_) ?_
    refine lw_ rfl (.int .i64 q.p.y) (ld_ 1 3 hm23) ?_
    refine lw_ rfl (.pointer (some ⟨g20, 5, none⟩)) (litRun kr_) ?_
    refine lw_ rfl (.int .i64 q.sz) (ld_ 5 3 hm23) ?_
    refine lw_ rfl _ (ad_ q.p.y q.sz) ?_
    by_cases h26 : p.y < (q.p.y + q.sz)
    ·refine lw_ rfl _ (lsT_ h26) ?_
     refine lT_ ?_
     refine lT_ ?_
     refine lw_ rfl (.pointer (some ⟨g20, 0, none⟩)) (litRun kr_) ?_
     refine lw_ rfl (.pointer (some ⟨g20, 2, none⟩)) (litRun kr_) ?_
     refine lw_ rfl (.int .i64 q.p.z) (ld_ 2 3 hm23) ?_
     refine lw_ rfl (.pointer (some ⟨g5, 2, none⟩)) (litRun kr_) ?_
     refine lw_ rfl (.int .i64 p.z) (ld_ 2 2 hm23) ?_
     by_cases h27 : q.p.z ≤ p.z
     ·refine lw_ rfl _ (leT_ h27) ?_
      refine lT_ ?_
      refine lT_ ?_
      refine lw_ rfl (.pointer (some ⟨g5, 2, none⟩)) (litRun kr_) ?_
      refine lw_ rfl (.int .i64 p.z) (ld_ 2 2 hm23) ?_
      refine lw_ rfl (.pointer (some ⟨g20, 0, none⟩)) (litRun kr_) ?_
      refine lw_ rfl (.pointer (some ⟨g20, 2, none⟩)) (litRun kr_) ?_
      refine lw_ rfl (.int .i64 q.p.z) (ld_ 2 3 hm23) ?_
      refine lw_ rfl (.pointer (some ⟨g20, 5, none⟩)) (litRun kr_) ?_
      refine lw_ rfl (.int .i64 q.sz) (ld_ 5 3 hm23) ?_
      refine lw_ rfl _ (ad_ q.p.z q.sz) ?_
      by_cases h28 : p.z < (q.p.z + q.sz)
      ·refine lw_ rfl _ (lsT_ h28) ?_
       refine lT_ ?_
       refine lT_ ?_
       refine plD ?_
       refine then_normal ?_
       rw [show (decide (overP q p)) = true from decide_eq_true (by unfold overP; omega)]
       exact ⟨trivial, ⟨litSize, rfl, fo_⟩, hm23⟩
      refine lw_ rfl _ (lsF_ h28) ?_
      refine lF_ ?_
      refine lF_ ?_
      refine plD ?_
      refine then_normal ?_
      rw [show (decide (overP q p)) = false from decide_eq_false (by unfold overP; omega)]
      exact ⟨trivial, ⟨litSize, rfl, fo_⟩, hm23⟩
     refine lw_ rfl _ (leF_ h27) ?_
     refine lF_ ?_
     refine lF_ ?_
     refine ps_ (i := 26) ?_
     refine ps_ (i := 27) ?_
     refine ps_ (i := 28) ?_
     refine ps_ (i := 29) ?_
     refine ps_ (i := 30) ?_
     refine ps_ (i := 31) ?_
     refine ps_ (i := 32) ?_
     refine ps_ (i := 33) ?_
     refine ps_ (i := 34) ?_
     refine lF_ ?_
     refine lF_ ?_
     refine plD ?_
     refine then_normal ?_
     rw [show (decide (overP q p)) = false from decide_eq_false (by unfold overP; omega)]
     exact ⟨trivial, ⟨litSize, rfl, fo_⟩, hm23⟩
    refine lw_ rfl _ (lsF_ h26) ?_
    refine lF_ ?_
    refine lF_ ?_
    refine ps_ (i := 18) ?_
    refine ps_ (i := 19) ?_
    refine ps_ (i := 20) ?_
    refine ps_ (i := 21) ?_
    refine ps_ (i := 22) ?_
    refine ps_ (i := 23) ?_
    refine lF_ ?_
    refine lF_ ?_
    refine ps_ (i := 26) ?_
    refine ps_ (i := 27) ?_
    refine ps_ (i := 28) ?_
    refine ps_ (i := 29) ?_
    refine ps_ (i := 30) ?_
    refine ps_ (i := 31) ?_
    refine ps_ (i := 32) ?_
    refine ps_ (i := 33) ?_
    refine ps_ (i := 34) ?_
    refine lF_ ?_
    refine lF_ ?_
    refine plD ?_
    refine then_normal ?_
    rw [show (decide (overP q p)) = false from decide_eq_false (by unfold overP; omega)]
    exact ⟨trivial, ⟨litSize, rfl, fo_⟩, hm23⟩
   refine lv_ rfl _ (leF_ h25) ?_
   refine lF_ ?_
   refine ps_ (i := 7) ?_
   refine ps_ (i := 8) ?_
   refine ps_ (i := 9) ?_
   refine ps_ (i := 10) ?_
   refine ps_ (i := 11) ?_
   refine ps_ (i := 12) ?_
   refine ps_ (i := 13) ?_
   refine ps_ (i := 14) ?_
   refine ps_ (i := 15) ?_
   refine lF_ ?_
   refine lF_ ?_
   refine ps_ (i := 18) ?_
   refine ps_ (i := 19) ?_
   refine ps_ (i := 20) ?_
   refine ps_ (i := 21) ?_
   refine ps_ (i := 22) ?_
   refine ps_ (i := 23) ?_
   refine lF_ ?_
   refine lF_ ?_
   refine ps_ (i := 26) ?_
   refine ps_ (i := 27) ?_
   refine ps_ (i := 28) ?_
   refine ps_ (i := 29) ?_
   refine ps_ (i := 30) ?_
   refine ps_ (i := 31) ?_
   refine ps_ (i := 32) ?_
   refine ps_ (i := 33) ?_
   refine ps_ (i := 34) ?_
   refine lF_ ?_
   refine lF_ ?_
   refine plD ?_
   refine then_normal ?_
   rw [show (decide (overP q p)) = false from decide_eq_false (by unfold overP; omega)]
   exact ⟨trivial, ⟨litSize, rfl, fo_⟩, hm23⟩
  clear hm23
  intro a31 w29 hI_
  obtain ⟨ht_, hF_, hm30⟩ := hI_
  obtain ⟨X32, rfl⟩ := frLit hF_
  clear hF_
  refine sp_ fun _ hK33 => ?_
  refine lp_ g20 3 ?_
  refine lv_ rfl (.int .i64 q.ax) (ld_ 3 3 hm30) ?_
  by_cases h34 : q.ax = 0
  ·refine lv_ rfl _ (eqT_ h34) ?_
   refine lT_ ?_
   refine lw_ rfl (.pointer (some ⟨g20, 0, none⟩)) (litRun kr_) ?_
   refine lw_ rfl (.pointer (some ⟨g20, 0, none⟩)) (litRun kr_) ?_
   refine lw_ rfl (.int .i64 q.p.x) (ld_ 0 3 hm30) ?_
   refine lw_ rfl (.pointer (some ⟨g5, 0, none⟩)) (litRun kr_) ?_
   refine lw_ rfl (.int .i64 p.x) (ld_ 0 2 hm30) ?_
   by_cases h35 : p.x < q.p.x
   ·refine lw_ rfl _ (gtT_ h35) ?_
    refine lT_ ?_
    refine lT_ ?_
    rcases bool_or (decide (overP q p)) with h36 | h36
    ·refine lw_ rfl (.bool false) (boolTo h36 (litRun kr_)) ?_
     refine lF_ ?_
     refine pt_ hK33 ?_
     refine wp_cond_false le_ ?_
     refine wp_skip ?_
     refine inBlock_normal ?_
     refine tn_ hK18 ?_
     refine plStart ?_
     refine lv_ rfl _ (ad_ (k : Int) 1) ?_
     refine li_ ((k : Int) + 1) ?_
     refine plD ?_
     refine then_normal ?_
     have hov_ := of_decide_eq_false h36
     have hod_ := oddB_no hg_ (show ¬ insP p q from fun e => hov_ e.2.2)
     rw [← hod_]
     exact ⟨_, by omega, (k + 1), rfl, (by omega), ⟨litSize, rfl, fo_⟩, (hm30.sub (.cons_cons _ (.cons_cons _ (.cons_cons _ (.cons _ .slnil)))))⟩
    refine lw_ rfl (.bool true) (boolTo h36 (litRun kr_)) ?_
    refine lT_ ?_
    refine pt_ hK33 ?_
    refine wp_cond_true le_ ?_
    refine plStart ?_
    rcases bool_or (oddB p (d.take k)) with h37 | h37
    ·refine lv_ rfl (.bool false) (boolTo h37 (litRun kr_)) ?_
     refine lT_ ?_
     refine lT_ ?_
     refine plD ?_
     refine inBlock_normal ?_
     refine tn_ hK18 ?_
     refine plStart ?_
     refine lv_ rfl _ (ad_ (k : Int) 1) ?_
     refine li_ ((k : Int) + 1) ?_
     refine plD ?_
     refine then_normal ?_
     have hov_ := of_decide_eq_true h36
     have hod_ := oddB_yes hg_ (show insP p q from ⟨by omega, by omega, hov_⟩) h37
     rw [Bool.not_false] at hod_
     rw [← hod_]
     exact ⟨_, by omega, (k + 1), rfl, (by omega), ⟨litSize, rfl, fo_⟩, (hm30.sub (.cons_cons _ (.cons_cons _ (.cons_cons _ (.cons _ .slnil)))))⟩
    refine lv_ rfl (.bool true) (boolTo h37 (litRun kr_)) ?_
    refine lF_ ?_
    refine lF_ ?_
    refine plD ?_
    refine inBlock_normal ?_
    refine tn_ hK18 ?_
    refine plStart ?_
    refine lv_ rfl _ (ad_ (k : Int) 1) ?_
    refine li_ ((k : Int) + 1) ?_
    refine plD ?_
    refine then_normal ?_
    have hov_ := of_decide_eq_true h36
    have hod_ := oddB_yes hg_ (show insP p q from ⟨by omega, by omega, hov_⟩) h37
    rw [Bool.not_true] at hod_
    rw [← hod_]
    exact ⟨_, by omega, (k + 1), rfl, (by omega), ⟨litSize, rfl, fo_⟩, (hm30.sub (.cons_cons _ (.cons_cons _ (.cons_cons _ (.cons _ .slnil)))))⟩
   refine lw_ rfl _ (gtF_ h35) ?_
   refine lF_ ?_
   refine lF_ ?_
   refine ps_ (i := 12) ?_
   refine lF_ ?_
   refine pt_ hK33 ?_
   refine wp_cond_false le_ ?_
   refine wp_skip ?_
   refine inBlock_normal ?_
   refine tn_ hK18 ?_
   refine plStart ?_
   refine lv_ rfl _ (ad_ (k : Int) 1) ?_
   refine li_ ((k : Int) + 1) ?_
   refine plD ?_
   refine then_normal ?_
   have hod_ := oddB_no hg_ (show ¬ insP p q from fun e => by have e1 := e.1; have e2 := e.2.1; omega)
   rw [← hod_]
   exact ⟨_, by omega, (k + 1), rfl, (by omega), ⟨litSize, rfl, fo_⟩, (hm30.sub (.cons_cons _ (.cons_cons _ (.cons_cons _ (.cons _ .slnil)))))⟩
  refine lv_ rfl _ (eqF_ h34) ?_
  refine lF_ ?_
  refine ps_ (i := 4) ?_
  refine ps_ (i := 5) ?_
  refine ps_ (i := 6) ?_
  refine ps_ (i := 7) ?_
  refine ps_ (i := 8) ?_
  refine ps_ (i := 9) ?_
  refine lF_ ?_
  refine lF_ ?_
  refine ps_ (i := 12) ?_
  refine lF_ ?_
  refine pt_ hK33 ?_
  refine wp_cond_false le_ ?_
  refine wp_skip ?_
  refine inBlock_normal ?_
  refine tn_ hK18 ?_
  refine plStart ?_
  refine lv_ rfl _ (ad_ (k : Int) 1) ?_
  refine li_ ((k : Int) + 1) ?_
  refine plD ?_
  refine then_normal ?_
  have hod_ := oddB_no hg_ (show ¬ insP p q from fun e => by have e1 := e.1; have e2 := e.2.1; omega)
  rw [← hod_]
  exact ⟨_, by omega, (k + 1), rfl, (by omega), ⟨litSize, rfl, fo_⟩, (hm30.sub (.cons_cons _ (.cons_cons _ (.cons_cons _ (.cons _ .slnil)))))⟩
 refine lv_ rfl _ (lsF_ h16) ?_
 refine pt_ hK15 ?_
 refine sk_ fun _ hK38 => ?_
 refine wp_cond_false le_ ?_
 refine wp_exit ?_
 refine then_exit ?_
 refine then_exit ?_
 refine inBlock_exit ?_
 refine tn_ hK9 ?_
 refine sp_ fun _ hK39 => ?_
 refine lk_ (.bool (oddB p (d.take k))) ?_
 refine lk_ (.bool (oddB p (d.take k))) ?_
 refine pt_ hK39 ?_
 refine wp_ret ?_
 refine br_ 4 (.bool (oddB p (d.take k))) ?_
 obtain rfl : k = d.length := by omega
 exact ⟨by rw [List.take_length], hm12.bel⟩
end Go.Proofs.YtbpihalphhoiaaaGreatDoor
namespace Go.Proofs.YtbpihalphhoiaaaGreatDoor
theorem cell_co {b : Bx} (h : b.rng) {i : Int} (h0 : 0 ≤ i) (h1 : i < b.vol) : b.size = b.mx.sub b.mn := by
 obtain ⟨hx, hy, hz⟩ := vol_pos h h0 h1
 unfold Bx.size at *
 split at hx
 ·unfold p0 at hx; simp only at hx; omega
 ·rename_i hn; rw [if_neg hn]
theorem cell_has {b : Bx} (h : b.rng) {i : Int} (h0 : 0 ≤ i) (h1 : i < b.vol) : b.has (b.cell i) := by
 obtain ⟨⟨c1, c2⟩, ⟨c3, c4⟩, ⟨c5, c6⟩, c7⟩ := cell_bd h h0 h1
 have hs := cell_co h h0 h1
 have hx : b.size.x = b.mx.x - b.mn.x := by rw [hs]; rfl
 have hy : b.size.y = b.mx.y - b.mn.y := by rw [hs]; rfl
 have hz : b.size.z = b.mx.z - b.mn.z := by rw [hs]; rfl
 unfold Bx.has Bx.cell
 simp only
 omega
theorem idx_eq {b : Bx} {p : Pt} (hp : b.has p) : b.idx p = (p.x - b.mn.x) + b.size.x * ((p.y - b.mn.y) + b.size.y * (p.z - b.mn.z)) := by unfold Bx.idx; rw [if_pos hp]
theorem cell_idx {b : Bx} (h : b.rng) {p : Pt} (hp : b.has p) : b.cell (b.idx p) = p := by
 obtain ⟨hs, hx, hy, hz, _⟩ := idx_bd h hp
 rw [idx_eq hp]
 unfold Bx.cell
 obtain ⟨px, py, pz⟩ := p
 simp only [Pt.mk.injEq] at *
 have hx0 : b.size.x ≠ 0 := by omega
 have hy0 : b.size.y ≠ 0 := by omega
 have e1 : (px - b.mn.x + b.size.x * (py - b.mn.y + b.size.y * (pz - b.mn.z))) % b.size.x = px - b.mn.x := by rw [Int.add_mul_emod_self_left, Int.emod_eq_of_lt hx.1 hx.2]
 have e2 : (px - b.mn.x + b.size.x * (py - b.mn.y + b.size.y * (pz - b.mn.z))) / b.size.x = py - b.mn.y + b.size.y * (pz - b.mn.z) := by rw [Int.add_mul_ediv_left _ _ hx0, Int.ediv_eq_zero_of_lt hx.1 hx.2, Int.zero_add]
 rw [e1, e2, Int.add_mul_emod_self_left, Int.emod_eq_of_lt hy.1 hy.2, Int.add_mul_ediv_left _ _ hy0, Int.ediv_eq_zero_of_lt hy.1 hy.2]
 omega
theorem idx_cell {b : Bx} (h : b.rng) {i : Int} (h0 : 0 ≤ i) (h1 : i < b.vol) : b.idx (b.cell i) = i := by
 rw [idx_eq (cell_has h h0 h1)]
 unfold Bx.cell
 simp only
 have e1 := Int.emod_add_mul_ediv i b.size.x
 have e2 := Int.emod_add_mul_ediv (i / b.size.x) b.size.y
 rw [show b.mn.x + i % b.size.x - b.mn.x = i % b.size.x by omega, show b.mn.y + i / b.size.x % b.size.y - b.mn.y = i / b.size.x % b.size.y by omega, show b.mn.z + i / b.size.x / b.size.y - b.mn.z = i / b.size.x / b.size.y by omega, e2, e1]
theorem idx_in {b : Bx} (h : b.rng) {p : Pt} (hp : b.has p) : 0 ≤ b.idx p ∧ b.idx p < b.vol := (idx_bd h hp).2.2.2.2.2.2.2
def opnB (g : Gr) (o : List Bool) (p : Pt) : Bool := decide (g.box.has p) && o.getD (g.box.idx p).toNat false
def allB (g : Gr) (o : List Bool) (b : Bx) : Bool := (List.range b.vol.toNat).all fun (i : Nat) => opnB g o (b.cell (i : Int))
theorem opn_has {g : Gr} {o : List Bool} {p : Pt} (h : opnB g o p = true) : g.box.has p := by unfold opnB at h; rw [Bool.and_eq_true] at h; exact of_decide_eq_true h.1
theorem allB_iff {g : Gr} {o : List Bool} {b : Bx} (h : b.rng) : allB g o b = true ↔ ∀ p, b.has p → opnB g o p = true := by
 unfold allB
 rw [List.all_eq_true]
 constructor
 ·intro ha p hp
  have h1 := idx_in h hp
  have h2 := ha (b.idx p).toNat (List.mem_range.2 (by omega))
  rw [show ((b.idx p).toNat : Int) = b.idx p by omega, cell_idx h hp] at h2
  exact h2
 ·intro ha i hi
  have := List.mem_range.1 hi
  exact ha _ (cell_has h (by omega) (by omega))
theorem allB_no {g : Gr} {o : List Bool} {b : Bx} {k : Nat} (hk : k < b.vol.toNat) (h : opnB g o (b.cell (k : Int)) = false) : allB g o b = false := by
 rw [Bool.eq_false_iff]
 intro ha
 unfold allB at ha
 rw [List.all_eq_true] at ha
 rw [ha k (List.mem_range.2 hk)] at h
 cases h
theorem allB_yes {g : Gr} {o : List Bool} {b : Bx} {k : Nat} (hk : k = b.vol.toNat) (h : ∀ i, i < k → opnB g o (b.cell (i : Int)) = true) : allB g o b = true := by
 subst hk
 unfold allB
 rw [List.all_eq_true]
 exact fun i hi => h i (List.mem_range.1 hi)
theorem all_succ {P : Nat → Prop} {k : Nat} (h : ∀ i, i < k → P i) (h1 : P k) : ∀ i, i < k + 1 → P i := fun i hi => by
 by_cases e : i = k
 ·subst e; exact h1
 ·exact h i (by omega)
theorem opn_out {g : Gr} {o : List Bool} {p : Pt} (h : g.box.idx p < 0) : opnB g o p = false := by
 unfold opnB
 by_cases hp : g.box.has p
 ·have e := idx_eq hp
  exfalso
  unfold Bx.idx at h
  rw [if_pos hp] at h
  have hs : g.box.size = g.box.mx.sub g.box.mn := by
   unfold Bx.size
   rw [if_neg]
   unfold Bx.has at hp
   unfold Bx.none
   omega
  have h1 : 0 ≤ g.box.size.x := by rw [hs]; unfold Bx.has at hp; unfold Pt.sub; simp only; omega
  have h2 : 0 ≤ g.box.size.y := by rw [hs]; unfold Bx.has at hp; unfold Pt.sub; simp only; omega
  unfold Bx.has at hp
  have h3 : 0 ≤ g.box.size.y * (p.z - g.box.mn.z) := Int.mul_nonneg h2 (by omega)
  have h4 : 0 ≤ g.box.size.x * (p.y - g.box.mn.y + g.box.size.y * (p.z - g.box.mn.z)) := Int.mul_nonneg h1 (by omega)
  omega
 ·rw [decide_eq_false hp]; rfl
theorem idx_has {b : Bx} {p : Pt} (h : ¬ b.idx p < 0) : b.has p := Decidable.byContradiction fun hp => h (by rw [idx_neg hp]; decide)
theorem opn_get {g : Gr} {o : List Bool} {p : Pt} (h : ¬ g.box.idx p < 0) : opnB g o p = o.getD (g.box.idx p).toNat false := by
 unfold opnB
 rw [decide_eq_true (idx_has h), Bool.true_and]
def clrN (g : Gr) (b : Bx) (o : List Bool) : Nat → List Bool
 | 0 => o
 | i + 1 => (clrN g b o i).set (g.box.idx (b.cell (i : Int))).toNat false
theorem clr_len (g : Gr) (b : Bx) (o : List Bool) : ∀ n, (clrN g b o n).length = o.length
 | 0 => rfl
 | n + 1 => by unfold clrN; rw [List.length_set]; exact clr_len g b o n
theorem clr_get (g : Gr) (b : Bx) (o : List Bool) (k : Nat) : ∀ n, (clrN g b o n).getD k false = true ↔ o.getD k false = true ∧ ∀ i, i < n → (g.box.idx (b.cell (i : Int))).toNat ≠ k
 | 0 => by
  show o.getD k false = true ↔ _
  exact ⟨fun h => ⟨h, fun i hi => absurd hi (Nat.not_lt_zero _)⟩, fun h => h.1⟩
 | n + 1 => by
  unfold clrN
  by_cases hk : (g.box.idx (b.cell (n : Int))).toNat = k
  ·constructor
   ·intro h
    rw [List.getD_eq_getElem?_getD, List.getElem?_set, if_pos hk] at h
    split at h <;> simp at h
   ·intro h
    exact absurd hk (h.2 n (by omega))
  ·rw [List.getD_eq_getElem?_getD, List.getElem?_set, if_neg hk, ← List.getD_eq_getElem?_getD, clr_get g b o k n]
   constructor
   ·exact fun h => ⟨h.1, all_succ h.2 hk⟩
   ·exact fun h => ⟨h.1, fun i hi => h.2 i (by omega)⟩
theorem idx_inj {b : Bx} (h : b.rng) {p q : Pt} (hp : b.has p) (hq : b.has q) (e : (b.idx p).toNat = (b.idx q).toNat) : p = q := by
 have h1 := idx_in h hp
 have h2 := idx_in h hq
 rw [← cell_idx h hp, ← cell_idx h hq, show b.idx p = b.idx q by omega]
theorem clr_opn {g : Gr} {b : Bx} {o : List Bool} (hg : g.box.rng) (hb : b.rng) (hin : ∀ p, b.has p → g.box.has p) (p : Pt) : opnB g (clrN g b o b.vol.toNat) p = true ↔ opnB g o p = true ∧ ¬ b.has p := by
 unfold opnB
 simp only [Bool.and_eq_true, decide_eq_true_iff]
 constructor
 ·rintro ⟨h1, h2⟩
  rw [clr_get] at h2
  refine ⟨⟨h1, h2.1⟩, fun hp => ?_⟩
  have h3 := idx_in hb hp
  refine h2.2 (b.idx p).toNat (by omega) ?_
  rw [show ((b.idx p).toNat : Int) = b.idx p by omega, cell_idx hb hp]
 ·rintro ⟨⟨h1, h2⟩, h3⟩
  refine ⟨h1, (clr_get _ _ _ _ _).2 ⟨h2, fun i hi e => h3 ?_⟩⟩
  have hc := cell_has hb (i := (i : Int)) (by omega) (by omega)
  rw [← idx_inj hg (hin _ hc) h1 e]
  exact hc
structure BI (g : Gr) (T : List Mat) (o : List Bool) (l : List Bx) (i : Nat) : Prop where
 len : o.length = g.cells.length
 sub : ∀ p, opnB g o p = true → solidAt g T p = true
 cov : ∀ p, solidAt g T p = true → opnB g o p = true ∨ ovl l p = true
 sol : ∀ p, ovl l p = true → solidAt g T p = true
 done : ∀ k, k < i → o.getD k false = false
 cnt : l.length ≤ i
theorem ovl_app (l : List Bx) (b : Bx) (p : Pt) : ovl (l ++ [b]) p = true ↔ ovl l p = true ∨ b.has p := by
 rw [ovl_iff, ovl_iff]
 constructor
 ·rintro ⟨x, hx, h⟩
  rcases List.mem_append.1 hx with hx | hx
  ·exact Or.inl ⟨x, hx, h⟩
  ·rw [List.mem_singleton] at hx; subst hx; exact Or.inr h
 ·rintro (⟨x, hx, h⟩ | h)
  ·exact ⟨x, List.mem_append_left _ hx, h⟩
  ·exact ⟨b, List.mem_append_right _ (List.mem_singleton.2 rfl), h⟩
def iniB (g : Gr) (T : List Mat) (i : Nat) : List Bool := (g.cells.take i).map (fun c => (matAt T c).solid) ++ List.replicate (g.cells.length - i) false
theorem ini_len (g : Gr) (T : List Mat) {i : Nat} (h : i ≤ g.cells.length) : (iniB g T i).length = g.cells.length := by
 unfold iniB
 rw [List.length_append, List.length_map, List.length_take, List.length_replicate]
 omega
theorem ini_zero (g : Gr) (T : List Mat) : blsC (iniB g T 0) = List.replicate g.cells.length (.bool false) := by
 unfold iniB blsC
 simp
theorem ini_succ {g : Gr} {T : List Mat} {i : Nat} {c : Int} (h : g.cells[i]? = some c) : (iniB g T i).set i (matAt T c).solid = iniB g T (i + 1) := by
 have hi := (List.getElem?_eq_some_iff.1 h).1
 unfold iniB
 have e : List.replicate (g.cells.length - i) false = false :: List.replicate (g.cells.length - (i + 1)) false := by
  rw [show g.cells.length - i = (g.cells.length - (i + 1)) + 1 by omega, List.replicate_succ]
 rw [e, List.set_append_right _ _ (by rw [List.length_map, List.length_take]; omega), List.length_map, List.length_take, show i - min i g.cells.length = 0 by omega, List.set_cons_zero, List.take_add_one, h, List.map_append, List.append_assoc]
 rfl
theorem ini_full (g : Gr) (T : List Mat) : iniB g T g.cells.length = g.cells.map fun c => (matAt T c).solid := by
 unfold iniB
 rw [List.take_length, Nat.sub_self]
 simp
theorem BI.start {g : Gr} (T : List Mat) (hv : g.Valid) : BI g T (iniB g T g.cells.length) [] 0 := by
 have e : ∀ p, opnB g (iniB g T g.cells.length) p = solidAt g T p := fun p => by
  unfold opnB solidAt
  by_cases hp : g.box.has p
  ·rw [decide_eq_true hp, ini_full]
   obtain ⟨h1, h2⟩ := hv.idx hp
   have h3 : g.get p = g.cells.getD (g.box.idx p).toNat 0 := by unfold Gr.get; rw [if_neg (by omega)]
   rw [h3, List.getD_eq_getElem?_getD, List.getElem?_map, getD_of 0 h2]
   rfl
  ·rw [decide_eq_false hp]; rfl
 exact ⟨ini_len g T (Nat.le_refl _), fun p h => by rw [← e]; exact h, fun p h => Or.inl (by rw [e]; exact h), fun p h => (by cases h), fun k hk => absurd hk (Nat.not_lt_zero _), Nat.zero_le _⟩
theorem BI.skip {g : Gr} {T : List Mat} {o : List Bool} {l : List Bx} {i : Nat} (h : BI g T o l i) (hi : o.getD i false = false) : BI g T o l (i + 1) :=
 ⟨h.len, h.sub, h.cov, h.sol, all_succ h.done hi, Nat.le_succ_of_le h.cnt⟩
theorem BI.step {g : Gr} {T : List Mat} {o : List Bool} {l : List Bx} {i : Nat} (h : BI g T o l i) (hv : g.Valid) (hi : i < g.cells.length) {b : Bx} (hb : b.rng) (ha : ∀ p, b.has p → opnB g o p = true) (hc : b.has (g.box.cell (i : Int))) : BI g T (clrN g b o b.vol.toNat) (l ++ [b]) (i + 1) := by
 have hin : ∀ p, b.has p → g.box.has p := fun p hp => opn_has (ha p hp)
 have ho := fun p => clr_opn (o := o) hv.1 hb hin p
 have hvol : (g.cells.length : Int) = g.box.vol := Decidable.byContradiction fun e => hv.2.1 (Or.inr (Or.inr e))
 refine ⟨(clr_len _ _ _ _).trans h.len, fun p hp => h.sub p ((ho p).1 hp).1, fun p hp => ?_, fun p hp => ?_, fun k hk => ?_, by rw [List.length_append]; have := h.cnt; simp; omega⟩
 ·rcases h.cov p hp with h1 | h1
  ·by_cases h2 : b.has p
   ·exact Or.inr ((ovl_app l b p).2 (Or.inr h2))
   ·exact Or.inl ((ho p).2 ⟨h1, h2⟩)
  ·exact Or.inr ((ovl_app l b p).2 (Or.inl h1))
 ·rcases (ovl_app l b p).1 hp with h1 | h1
  ·exact h.sol p h1
  ·exact h.sub p (ha p h1)
 ·rw [Bool.eq_false_iff]
  intro hk2
  rw [clr_get] at hk2
  by_cases e : k = i
  ·subst e
   have h1 := idx_in hb hc
   refine hk2.2 (b.idx (g.box.cell (k : Int))).toNat (by omega) ?_
   rw [show ((b.idx (g.box.cell (k : Int))).toNat : Int) = b.idx (g.box.cell (k : Int)) by omega, cell_idx hb hc, idx_cell hv.1 (by omega) (by omega)]
   rfl
  ·rw [h.done k (by omega)] at hk2
   cases hk2.1
theorem BI.fin {g : Gr} {T : List Mat} {o : List Bool} {l : List Bx} (h : BI g T o l g.cells.length) (hv : g.Valid) (p : Pt) : ovl l p = solidAt g T p := by
 have h1 : opnB g o p = false := by
  unfold opnB
  by_cases hp : g.box.has p
  ·rw [h.done _ (hv.idx hp).2, Bool.and_false]
  ·rw [decide_eq_false hp]; rfl
 rw [Bool.eq_iff_iff]
 exact ⟨h.sol p, fun hs => (h.cov p hs).resolve_left (by rw [h1]; decide)⟩
def grB (g : Gr) (o : List Bool) (b : Bx) : Prop := ∀ p, b.has p → opnB g o p = true
theorem grB_x {g : Gr} {o : List Bool} {p m : Pt} (h : grB g o ⟨p, m⟩) (hs : grB g o ⟨⟨m.x, p.y, p.z⟩, ⟨m.x + 1, m.y, m.z⟩⟩) : grB g o ⟨p, ⟨m.x + 1, m.y, m.z⟩⟩ := fun q hq => by
 by_cases e : q.x < m.x
 ·exact h q (by unfold Bx.has at *; simp only at *; omega)
 ·exact hs q (by unfold Bx.has at *; simp only at *; omega)
theorem grB_y {g : Gr} {o : List Bool} {p m : Pt} (h : grB g o ⟨p, m⟩) (hs : grB g o ⟨⟨p.x, m.y, p.z⟩, ⟨m.x, m.y + 1, m.z⟩⟩) : grB g o ⟨p, ⟨m.x, m.y + 1, m.z⟩⟩ := fun q hq => by
 by_cases e : q.y < m.y
 ·exact h q (by unfold Bx.has at *; simp only at *; omega)
 ·exact hs q (by unfold Bx.has at *; simp only at *; omega)
theorem grB_z {g : Gr} {o : List Bool} {p m : Pt} (h : grB g o ⟨p, m⟩) (hs : grB g o ⟨⟨p.x, p.y, m.z⟩, ⟨m.x, m.y, m.z + 1⟩⟩) : grB g o ⟨p, ⟨m.x, m.y, m.z + 1⟩⟩ := fun q hq => by
 by_cases e : q.z < m.z
 ·exact h q (by unfold Bx.has at *; simp only at *; omega)
 ·exact hs q (by unfold Bx.has at *; simp only at *; omega)
theorem grB_lt {g : Gr} {o : List Bool} {s : Int} (hg : g.box = cubeB s) {b : Bx} (h : grB g o b) (hb : ¬ b.none) : b.mn.x < s ∧ b.mn.y < s ∧ b.mn.z < s := by
 have h1 := opn_has (h b.mn (by unfold Bx.none at hb; unfold Bx.has; omega))
 rw [hg] at h1
 unfold Bx.has cubeB p0 at h1
 simp only at h1
 omega
theorem grB_one {g : Gr} {o : List Bool} {p : Pt} (h : opnB g o p = true) : grB g o ⟨p, ⟨p.x + 1, p.y + 1, p.z + 1⟩⟩ := fun q hq => by
 have e : q = p := by
  obtain ⟨qx, qy, qz⟩ := q
  obtain ⟨px, py, pz⟩ := p
  unfold Bx.has at hq
  simp only [Pt.mk.injEq] at *
  omega
 rw [e]; exact h
end Go.Proofs.YtbpihalphhoiaaaGreatDoor
namespace Go.Proofs.YtbpihalphhoiaaaGreatDoor
open Go.RowKit
theorem opn_row {g : Gr} {o : List Bool} {p : Pt} (hg : g.box.rng) (hl : (o.length : Int) = g.box.vol) (h : ¬ g.box.idx p < 0) : o[(g.box.idx p).toNat]? = some (opnB g o p) := by
 rw [opn_get h]
 have := idx_in hg (idx_has h)
 exact getD_of false (by omega)
theorem all_any {w0 w : World} (g : Gr) (hg : g.box.rng) (A : Option Addr) (c gg go gr n cc : Nat) (o : List Bool) (hvn : (n : Int) = g.box.vol) (hl : o.length = n) (b : Bx) (hb : b.rng) (M : List Res) (hm : Mem w0 w (.arr gg 28 (gcs g A c) :: .arr go 73 [.slice (some ⟨gr, 0, none⟩) n cc] :: .row (.slice (some ⟨gr, 0, none⟩) n cc) 4 1 n (blsC o) :: M)) : Calls Tryz.prog 30 #[.agg (bxs b).toArray, .pointer (some ⟨gg, 0, none⟩), .pointer (some ⟨go, 0, none⟩)] w (fun e w' => e = .returned (.bool (allB g o b)) ∧ Mem w0 w' (.arr gg 28 (gcs g A c) :: .arr go 73 [.slice (some ⟨gr, 0, none⟩) n cc] :: .row (.slice (some ⟨gr, 0, none⟩) n cc) 4 1 n (blsC o) :: M)) := by
 have hvb_ := (vol_bd hb).2
 have hm0 := hm
 go_enter Tryz.func30, Tryz.ntmps30
 refine litStart 34 [(0, .agg (bxs b).toArray), (1, .pointer (some ⟨gg, 0, none⟩)), (2, .pointer (some ⟨go, 0, none⟩))] kr_ (fun X0 => ?_)
 refine sp_ fun _ hK1 => ?_
 refine plBox hm0 (cs := bxs b) (i := 0) rfl (wn rfl) rfl le_ ?_
 intro g2 w4 hm3
 clear hm0
 try simp only [lc_] at hm3
 replace hm3 := hm3.i3
 refine qP rfl ?_
 refine lF_ ?_
 refine pt_ hK1 ?_
 refine sk_ fun _ hK5 => ?_
 refine sp_ fun _ hK6 => ?_
 refine lv_ rfl (.agg (bxs b).toArray) (la_ 0 3 hm3 Ty.ag_voxel_api_Box) ?_
 refine plCall (i := 1) 31 [.agg (bxs b).toArray] [] [] rfl kr_ (wn rfl) rfl le_ (litArgs kr_) (pvol_any b hb _) ?_
 rintro e w7 ⟨rfl, hbz⟩
 have hm8 := hm3.below hbz
 clear hbz hm3
 refine ⟨_, rfl, ?_⟩
 refine qP rfl ?_
 refine li_ 0 ?_
 refine pt_ hK6 ?_
 refine wp_block ?_
 refine gwLoop (fun n_ a_ w_ => ∃ (k : Nat), n_ = b.vol.toNat - k ∧ (k ≤ b.vol.toNat) ∧ (∀ i, i < k → opnB g o (b.cell (i : Int)) = true) ∧ Fr a_ 34 [(1, .pointer (some ⟨gg, 0, none⟩)), (2, .pointer (some ⟨go, 0, none⟩)), (3, .pointer (some ⟨g2, 0, none⟩)), (10, .int .i64 b.vol), (11, .int .i64 (k : Int))] ∧ Mem w0 w_ ((.arr gg 28 (gcs g A c)) :: (.arr go 73 ([.slice (some ⟨gr, 0, none⟩) n cc])) :: (.row (.slice (some ⟨gr, 0, none⟩) n cc) 4 1 n (blsC o)) :: (.arr g2 25 (bxs b)) :: M)) (b.vol.toNat - 0) ⟨0, rfl, (Nat.zero_le _), (fun i hi => absurd hi (Nat.not_lt_zero _)), ⟨litSize, rfl, fo_⟩, hm8⟩ ?_
 clear hm8
 intro n_ a11 w9 hI_
 obtain ⟨k, rfl, hk, hall, hF_, hm10⟩ := hI_
 obtain ⟨X12, rfl⟩ := frLit hF_
 clear hF_
 refine sp_ fun _ hK13 => ?_
 by_cases h14 : (k : Int) < b.vol
 ·have hch_ := cell_has hb (i := (k : Int)) (by omega) (by omega)
  have hcb_ : (-1073741824 ≤ (b.cell (k : Int)).x ∧ (b.cell (k : Int)).x ≤ 1073741824) ∧ (-1073741824 ≤ (b.cell (k : Int)).y ∧ (b.cell (k : Int)).y ≤ 1073741824) ∧ (-1073741824 ≤ (b.cell (k : Int)).z ∧ (b.cell (k : Int)).z ≤ 1073741824) := by
   have h1_ := hb
   unfold Bx.rng Pt.rng at h1_
   unfold Bx.has at hch_
   omega
  refine lv_ rfl _ (lsT_ h14) ?_
  refine pt_ hK13 ?_
  refine sk_ fun _ hK15 => ?_
  refine wp_cond_true le_ ?_
  refine wp_skip ?_
  refine tn_ hK15 ?_
  refine sk_ fun _ hK16 => ?_
  refine wp_block ?_
  refine sp_ fun _ hK17 => ?_
  refine li_ k ?_
  refine li_ k ?_
  refine pt_ hK17 ?_
  refine sp_ fun _ hK18 => ?_
  refine lv_ rfl (.agg (bxs b).toArray) (la_ 0 3 hm10 Ty.ag_voxel_api_Box) ?_
  refine li_ k ?_
  refine plCall (i := 2) 32 [.agg (bxs b).toArray, .int .i64 (k : Int)] [] [] rfl kr_ (wn rfl) rfl le_ (litArgs kr_) (at_any b (k : Int) hb ⟨by omega, by omega⟩ _) ?_
  rintro e w19 ⟨rfl, hbz⟩
  have hm20 := hm10.below hbz
  clear hbz hm10
  refine ⟨_, rfl, ?_⟩
  refine qP rfl ?_
  refine lk_ (.tuple #[.agg (pcs (b.cell (k : Int))).toArray, .bool true]) ?_
  refine lk_ (.agg (pcs (b.cell (k : Int))).toArray) ?_
  refine lT_ ?_
  refine plAlloc (z := [.int .i64 0, .int .i64 0, .int .i64 0]) Ty.ag_voxel_api_Point hm20 (i := 6) rfl (wn rfl) rfl ?_
  intro g21 w23 hm22
  clear hm20
  try simp only [lc_] at hm22
  replace hm22 := hm22.i4
  refine qP rfl ?_
  refine plStore 4 Ty.ag_voxel_api_Point hm22 rfl (i := 7) (cs := pcs (b.cell (k : Int))) rfl (wn rfl) rfl le_ le_ rfl rfl kr_ ?_
  intro w25 hm24
  clear hm22
  try simp only [lc_] at hm24
  refine qNone rfl ?_
  refine lT_ ?_
  refine pt_ hK18 ?_
  refine sp_ fun _ hK26 => ?_
  refine lp_ gg 0 ?_
  refine lv_ rfl (.agg (bxs ⟨g.box.mn, g.box.mx⟩).toArray) (la_ 0 0 hm24 Ty.ag_voxel_api_Box) ?_
  refine lv_ rfl (.agg (pcs (b.cell (k : Int))).toArray) (la_ 0 4 hm24 Ty.ag_voxel_api_Point) ?_
  refine plCall (i := 3) 33 [.agg (bxs ⟨g.box.mn, g.box.mx⟩).toArray, .agg (pcs (b.cell (k : Int))).toArray] [] [] rfl kr_ (wn rfl) rfl le_ (litArgs kr_) (pidx_any g.box (b.cell (k : Int)) hg hcb_ _) ?_
  rintro e w27 ⟨rfl, hbz⟩
  have hm28 := hm24.below hbz
  clear hbz hm24
  refine ⟨_, rfl, ?_⟩
  refine qP rfl ?_
  refine li_ (g.box.idx (b.cell (k : Int))) ?_
  refine pt_ hK26 ?_
  refine sp_ fun _ hK29 => ?_
  refine li_ (g.box.idx (b.cell (k : Int))) ?_
  by_cases h30 : (g.box.idx (b.cell (k : Int))) < 0
  ·refine lv_ rfl _ (lsT_ h30) ?_
   refine lT_ ?_
   refine ps_ (i := 3) ?_
   refine ps_ (i := 4) ?_
   refine ps_ (i := 5) ?_
   refine ps_ (i := 6) ?_
   refine ps_ (i := 7) ?_
   refine lT_ ?_
   refine pt_ hK29 ?_
   refine wp_cond_true le_ ?_
   refine sp_ fun _ hK31 => ?_
   refine lF_ ?_
   refine pt_ hK31 ?_
   refine wp_ret ?_
   refine inBlock_ret ?_
   refine then_ret ?_
   refine then_ret ?_
   refine inBlock_ret ?_
   refine then_ret ?_
   refine br_ 4 (.bool false) ?_
   exact ⟨congrArg (fun b_ => Ending.returned (.bool b_)) (show _ = allB g o b from (allB_no (show k < b.vol.toNat by omega) (opn_out h30)).symm), (hm28.sub (.cons_cons _ (.cons_cons _ (.cons_cons _ (.cons _ (.cons _ (List.Sublist.refl _)))))))⟩
  refine lv_ rfl _ (lsF_ h30) ?_
  refine lF_ ?_
  refine lw_ rfl (.slice (some ⟨gr, 0, none⟩) n cc) (ld_ 0 1 hm28) ?_
  refine lw_ rfl (.int .i64 (g.box.idx (b.cell (k : Int)))) (litRun kr_) ?_
  refine lw_ rfl (.pointer (some ⟨gr, 0 + ((g.box.idx (b.cell (k : Int))).toNat) * 1, none⟩)) (gIaSl (b := gr) (off := 0) (n := n) (c := cc) (kk := .i64) (K := (g.box.idx (b.cell (k : Int)))) (.tmp 27) (.tmp 28) ((g.box.idx (b.cell (k : Int))).toNat) Ty.sl_L_bool rfl le_ le_ ((by omega)) ((show (g.box.idx (b.cell (k : Int))).toNat < n by have h_ := idx_in hg (idx_has h30); omega))) ?_
  rcases bool_or (opnB g o (b.cell (k : Int))) with h32 | h32
  ·refine lw_ rfl (.bool false) (boolTo h32 (gLoadRd (v := .bool (opnB g o (b.cell (k : Int)))) (m := ((g.box.idx (b.cell (k : Int))).toNat) * 1) (hm28.rdRow 2 rfl) rfl (blsGet (opn_row hg (by omega) h30)) (show 0 < n * 1 by have h_ := idx_in hg (idx_has h30); omega) (.tmp 29) kr_ rfl le_)) ?_
   refine lw_ rfl (.bool true) (litRun kr_) ?_
   refine lT_ ?_
   refine pt_ hK29 ?_
   refine wp_cond_true le_ ?_
   refine sp_ fun _ hK33 => ?_
   refine lF_ ?_
   refine pt_ hK33 ?_
   refine wp_ret ?_
   refine inBlock_ret ?_
   refine then_ret ?_
   refine then_ret ?_
   refine inBlock_ret ?_
   refine then_ret ?_
   refine br_ 4 (.bool false) ?_
   exact ⟨congrArg (fun b_ => Ending.returned (.bool b_)) (show _ = allB g o b from (allB_no (show k < b.vol.toNat by omega) h32).symm), (hm28.sub (.cons_cons _ (.cons_cons _ (.cons_cons _ (.cons _ (.cons _ (List.Sublist.refl _)))))))⟩
  refine lw_ rfl (.bool true) (boolTo h32 (gLoadRd (v := .bool (opnB g o (b.cell (k : Int)))) (m := ((g.box.idx (b.cell (k : Int))).toNat) * 1) (hm28.rdRow 2 rfl) rfl (blsGet (opn_row hg (by omega) h30)) (show 0 < n * 1 by have h_ := idx_in hg (idx_has h30); omega) (.tmp 29) kr_ rfl le_)) ?_
  refine lw_ rfl (.bool false) (litRun kr_) ?_
  refine lF_ ?_
  refine pt_ hK29 ?_
  refine wp_cond_false le_ ?_
  refine wp_skip ?_
  refine inBlock_normal ?_
  refine tn_ hK16 ?_
  refine plStart ?_
  refine lv_ rfl _ (ad_ (k : Int) 1) ?_
  refine li_ ((k : Int) + 1) ?_
  refine plD ?_
  refine then_normal ?_
  exact ⟨_, by omega, (k + 1), rfl, (by omega), (all_succ hall h32), ⟨litSize, rfl, fo_⟩, (hm28.sub (.cons_cons _ (.cons_cons _ (.cons_cons _ (.cons_cons _ (.cons _ (List.Sublist.refl _)))))))⟩
 refine lv_ rfl _ (lsF_ h14) ?_
 refine pt_ hK13 ?_
 refine sk_ fun _ hK34 => ?_
 refine wp_cond_false le_ ?_
 refine wp_exit ?_
 refine then_exit ?_
 refine then_exit ?_
 refine inBlock_exit ?_
 refine tn_ hK5 ?_
 refine sp_ fun _ hK35 => ?_
 refine lT_ ?_
 refine pt_ hK35 ?_
 refine wp_ret ?_
 refine br_ 4 (.bool true) ?_
 exact ⟨congrArg (fun b_ => Ending.returned (.bool b_)) (show _ = allB g o b from (allB_yes (show k = b.vol.toNat by omega) hall).symm), (hm10.sub (.cons_cons _ (.cons_cons _ (.cons_cons _ (.cons _ (List.Sublist.refl _))))))⟩
theorem gEach_any {w0 w : World} (g : Gr) (A : Option Addr) (c : Nat) (M : List Res) (hm : Mem w0 w M) : Calls Tryz.prog 34 #[.agg (gcs g A c).toArray] w (fun e w' => ∃ gE, e = .returned (.func (.func 77) #[] #[.pointer (some ⟨gE, 0, none⟩)]) ∧ Mem w0 w' (.arr gE 28 (gcs g A c) :: M)) := by
 have hm0 := hm
 go_enter Tryz.func34, Tryz.ntmps34
 refine litStart 4 [(0, .agg (gcs g A c).toArray)] kr_ (fun X0 => ?_)
 refine sp_ fun _ hK1 => ?_
 refine plBox hm0 (cs := gcs g A c) (i := 0) rfl (wn rfl) rfl le_ ?_
 intro g2 w4 hm3
 clear hm0
 try simp only [lc_] at hm3
 replace hm3 := hm3.i0
 refine qP rfl ?_
 refine lk_ (Value.nilFunc) ?_
 refine pt_ hK1 ?_
 refine sp_ fun _ hK5 => ?_
 refine lk_ (.func (.func 77) #[] #[.pointer (some ⟨g2, 0, none⟩)]) ?_
 refine lk_ (.func (.func 77) #[] #[.pointer (some ⟨g2, 0, none⟩)]) ?_
 refine pt_ hK5 ?_
 refine wp_ret ?_
 refine br_ 2 (.func (.func 77) #[] #[.pointer (some ⟨g2, 0, none⟩)]) ?_
 exact ⟨_, rfl, hm3⟩
def eachV (g : Gr) : List (List Value) := (List.range g.cells.length).map fun (i : Nat) => [.agg (pcs (g.box.cell (i : Int))).toArray, .int .i64 (g.cells.getD i 0)]
theorem eachV_len (g : Gr) : (eachV g).length = g.cells.length := by simp [eachV]
theorem eachV_two (g : Gr) : ∀ x ∈ eachV g, x.length = 2 := fun x hx => by unfold eachV at hx; obtain ⟨i, _, rfl⟩ := List.mem_map.1 hx; rfl
theorem eachV_get {g : Gr} {i : Nat} (h : i < g.cells.length) : (eachV g)[i]? = some [.agg (pcs (g.box.cell (i : Int))).toArray, .int .i64 (g.cells.getD i 0)] := by unfold eachV; rw [List.getElem?_map, List.getElem?_range h]; rfl
theorem eachV_inv {g : Gr} {i : Nat} {x : List Value} (h : (eachV g)[i]? = some x) : i < g.cells.length ∧ x = [.agg (pcs (g.box.cell (i : Int))).toArray, .int .i64 (g.cells.getD i 0)] := by
 have hi : i < g.cells.length := by rw [← eachV_len]; exact (List.getElem?_eq_some_iff.1 h).1
 rw [eachV_get hi] at h
 exact ⟨hi, (Option.some.inj h).symm⟩
theorem each_word (g : Gr) (hg : g.box.rng) (hvn : (g.cells.length : Int) = g.box.vol) (hvm : g.cells.length ≤ 3000000) (bi_ oi_ c gE : Nat) : ItWord Tryz.prog 77 [.pointer (some ⟨gE, 0, none⟩)] (eachV g) ([.arr gE 28 (gcs g (some ⟨bi_, oi_, none⟩) c), .rd (some ⟨bi_, oi_, none⟩) 1 g.cells.length c (ics g.cells)]) := by
 intro w0 w lp J Jx V M hJ hm hY
 have hm0 : Mem w0 w ((.arr gE 28 (gcs g (some ⟨bi_, oi_, none⟩) c)) :: (.rd (some ⟨bi_, oi_, none⟩) 1 g.cells.length c (ics g.cells)) :: (V ++ M)) := hm.permL (permY [.arr gE 28 (gcs g (some ⟨bi_, oi_, none⟩) c), .rd (some ⟨bi_, oi_, none⟩) 1 g.cells.length c (ics g.cells)] V M).symm
 clear hm
 go_enter Tryz.func77, Tryz.ntmps77
 refine litStart 28 [(0, .func (.yield lp) #[] #[]), (1, .pointer (some ⟨gE, 0, none⟩))] kr_ (fun X0 => ?_)
 refine sp_ fun _ hK1 => ?_
 refine lp_ gE 6 ?_
 refine lv_ rfl (.slice (some ⟨bi_, oi_, none⟩) g.cells.length c) (ld_ 6 0 hm0) ?_
 refine lv_ rfl (.int .i64 (g.cells.length : Int)) (ln_ (some ⟨bi_, oi_, none⟩) g.cells.length c Ty.und_L_int) ?_
 refine li_ 0 ?_
 refine pt_ hK1 ?_
 refine wp_block ?_
 refine gwLoop (fun n_ a_ w_ => ∃ (i : Nat) (V : List Res), n_ = g.cells.length - i ∧ (i ≤ g.cells.length) ∧ (J i V) ∧ Fr a_ 28 [(0, .func (.yield lp) #[] #[]), (1, .pointer (some ⟨gE, 0, none⟩)), (8, .slice (some ⟨bi_, oi_, none⟩) g.cells.length c), (9, .int .i64 (g.cells.length : Int)), (10, .int .i64 (i : Int))] ∧ Mem w0 w_ ((.arr gE 28 (gcs g (some ⟨bi_, oi_, none⟩) c)) :: (.rd (some ⟨bi_, oi_, none⟩) 1 g.cells.length c (ics g.cells)) :: (V ++ M))) (g.cells.length - 0) ⟨0, V, rfl, (Nat.zero_le _), hJ, ⟨litSize, rfl, fo_⟩, hm0⟩ ?_
 clear hm0
 intro n_ a4 w2 hI_
 obtain ⟨i, V, rfl, hi, hJ, hF_, hm3⟩ := hI_
 obtain ⟨X5, rfl⟩ := frLit hF_
 clear hF_
 refine sp_ fun _ hK6 => ?_
 by_cases h7 : (i : Int) < (g.cells.length : Int)
 ·have hi2_ : i < g.cells.length := by omega
  refine lv_ rfl _ (lsT_ h7) ?_
  refine pt_ hK6 ?_
  refine sk_ fun _ hK8 => ?_
  refine wp_cond_true le_ ?_
  refine wp_skip ?_
  refine tn_ hK8 ?_
  refine sk_ fun _ hK9 => ?_
  refine wp_block ?_
  refine sp_ fun _ hK10 => ?_
  refine li_ i ?_
  refine lv_ rfl (.pointer (some ⟨bi_, oi_ + i * 1, none⟩)) (ia_ c i Ty.sl_L_int rfl hi2_) ?_
  refine lv_ rfl (.int .i64 (g.cells.getD i 0)) (lr_ (m := i * 1) (hm3.rd 1 rfl) (icsGet (getD_of 0 (show i < g.cells.length by omega))) (by omega)) ?_
  refine li_ i ?_
  refine li_ (g.cells.getD i 0) ?_
  refine pt_ hK10 ?_
  refine sp_ fun _ hK11 => ?_
  refine lp_ gE 0 ?_
  refine lv_ rfl (.agg (bxs ⟨g.box.mn, g.box.mx⟩).toArray) (la_ 0 0 hm3 Ty.ag_voxel_api_Box) ?_
  refine li_ i ?_
  refine plCall (i := 3) 32 [.agg (bxs ⟨g.box.mn, g.box.mx⟩).toArray, .int .i64 (i : Int)] [] [] rfl kr_ (wn rfl) rfl le_ (litArgs kr_) (at_any g.box (i : Int) hg ⟨by omega, by omega⟩ _) ?_
  rintro e w12 ⟨rfl, hbz⟩
  have hm13 := hm3.below hbz
  clear hbz hm3
  refine ⟨_, rfl, ?_⟩
  refine qP rfl ?_
  refine lk_ (.tuple #[.agg (pcs (g.box.cell (i : Int))).toArray, .bool true]) ?_
  refine lk_ (.agg (pcs (g.box.cell (i : Int))).toArray) ?_
  refine lT_ ?_
  refine plAlloc (z := [.int .i64 0, .int .i64 0, .int .i64 0]) Ty.ag_voxel_api_Point hm13 (i := 7) rfl (wn rfl) rfl ?_
  intro g14 w16 hm15
  clear hm13
  try simp only [lc_] at hm15
  replace hm15 := hm15.i2
  refine qP rfl ?_
  refine plStore 2 Ty.ag_voxel_api_Point hm15 rfl (i := 8) (cs := pcs (g.box.cell (i : Int))) rfl (wn rfl) rfl le_ le_ rfl rfl kr_ ?_
  intro w18 hm17
  clear hm15
  try simp only [lc_] at hm17
  refine qNone rfl ?_
  refine lT_ ?_
  refine pt_ hK11 ?_
  refine sk_ fun _ hK19 => ?_
  refine ofWr (LD.plrStart ?_)
  refine lkR0 (v := .func (.yield lp) #[] #[]) rfl rfl rfl ?_
  refine litValR0 (v := .agg (pcs (g.box.cell (i : Int))).toArray) rfl (wn rfl) (gLoadAg (vs := pcs (g.box.cell (i : Int))) (k := 0) 2 hm17 rfl kr_ kr_ (.tmp 5) Ty.ag_voxel_api_Point rfl le_) rfl (by decide) ?_
  refine lkR0 (v := .int .i64 (g.cells.getD i 0)) rfl rfl rfl ?_
  refine plrYield0 lp [.agg (pcs (g.box.cell (i : Int))).toArray, .int .i64 (g.cells.getD i 0)] rfl rfl rfl le_ (litArgs kr_) (hY i [.agg (pcs (g.box.cell (i : Int))).toArray, .int .i64 (g.cells.getD i 0)] _ V ([.arr gE 28 (gcs g (some ⟨bi_, oi_, none⟩) c), .rd (some ⟨bi_, oi_, none⟩) 1 g.cells.length c (ics g.cells), .arr g14 23 (pcs (g.box.cell (i : Int)))] ++ M) (eachV_get hi2_) hJ (hm17.permL (permY [.arr gE 28 (gcs g (some ⟨bi_, oi_, none⟩) c), .rd (some ⟨bi_, oi_, none⟩) 1 g.cells.length c (ics g.cells), .arr g14 23 (pcs (g.box.cell (i : Int)))] V M))) rfl (by decide) ?_
  rintro e w22 ⟨t20, V21, rfl, hq_, hT24, hF25⟩
  have hm23 : Mem w0 w22 ((.arr gE 28 (gcs g (some ⟨bi_, oi_, none⟩) c)) :: (.rd (some ⟨bi_, oi_, none⟩) 1 g.cells.length c (ics g.cells)) :: (.arr g14 23 (pcs (g.box.cell (i : Int)))) :: (V21 ++ M)) := hq_.permL (permY [.arr gE 28 (gcs g (some ⟨bi_, oi_, none⟩) c), .rd (some ⟨bi_, oi_, none⟩) 1 g.cells.length c (ics g.cells), .arr g14 23 (pcs (g.box.cell (i : Int)))] V21 M).symm
  clear hq_ hm17
  refine ⟨_, rfl, ?_⟩
  rcases bool_or t20 with hb_ | hb_ <;> subst hb_
  ·have hX26 := hF25 rfl
   refine lkR0 (v := .bool true) rfl rfl rfl ?_
   refine LD.plrD ?_
   refine tn_ hK19 ?_
   refine wp_cond_true le_ ?_
   refine wp_ret ?_
   refine inBlock_ret ?_
   refine then_ret ?_
   refine then_ret ?_
   refine inBlock_ret ?_
   refine bodyPost_ret (v := .tuple #[]) (gRes0 rfl) rfl ?_
   have hm27 : Mem w0 w22 ((.arr gE 28 (gcs g (some ⟨bi_, oi_, none⟩) c)) :: (.rd (some ⟨bi_, oi_, none⟩) 1 g.cells.length c (ics g.cells)) :: (V21 ++ M)) := (hm23.sub (.cons_cons _ (.cons_cons _ (.cons _ (List.Sublist.refl _)))))
   clear hm23
   exact ⟨⟨_, rfl⟩, V21, hm27.permL (permY [.arr gE 28 (gcs g (some ⟨bi_, oi_, none⟩) c), .rd (some ⟨bi_, oi_, none⟩) 1 g.cells.length c (ics g.cells)] V21 M), Or.inr hX26⟩
  have hJ28 := hT24 rfl
  refine lkR0 (v := .bool false) rfl rfl rfl ?_
  refine LD.plrD ?_
  refine tn_ hK19 ?_
  refine wp_cond_false le_ ?_
  refine wp_skip ?_
  refine inBlock_normal ?_
  refine tn_ hK9 ?_
  refine plStart ?_
  refine lv_ rfl _ (ad_ (i : Int) 1) ?_
  refine li_ ((i : Int) + 1) ?_
  refine plD ?_
  refine then_normal ?_
  exact ⟨_, by omega, (i + 1), V21, rfl, (by omega), hJ28, ⟨litSize, rfl, fo_⟩, (hm23.sub (.cons_cons _ (.cons_cons _ (.cons _ (List.Sublist.refl _)))))⟩
 have hie_ : i = g.cells.length := by omega
 refine lv_ rfl _ (lsF_ h7) ?_
 refine pt_ hK6 ?_
 refine sk_ fun _ hK29 => ?_
 refine wp_cond_false le_ ?_
 refine wp_exit ?_
 refine then_exit ?_
 refine then_exit ?_
 refine inBlock_exit ?_
 refine bodyPost_end (v := .tuple #[]) (gRes0 rfl) rfl ?_
 exact ⟨⟨_, rfl⟩, V, hm3.permL (permY [.arr gE 28 (gcs g (some ⟨bi_, oi_, none⟩) c), .rd (some ⟨bi_, oi_, none⟩) 1 g.cells.length c (ics g.cells)] V M), Or.inl (by rw [eachV_len, ← hie_]; exact hJ)⟩
theorem mkBools {m : Nat} (h : m = 64 ∨ m = 512) (w : World) : (Instr.makeSlice 73 (.int .i64 (m : Int)) (.int .i64 (m : Int))).run Tryz.prog w = .ok (.slice (some ⟨w.heap.size, 0, none⟩) m m) (w.alloc (.cells (List.replicate m (.bool false)).toArray 4)) := by
 rcases h with rfl | rfl <;> kernel_rfl
namespace LD
theorem boxes_any (g : Gr) (hv : g.Valid) (s : Int) (hs : s = 4 ∨ s = 8) (hbs : g.box = cubeB s) (A : Option Addr) (c : Nat) (T : List Mat) (A2 : Option Addr) (c2 : Nat) (w : World) (hrd : Rd w w.heap.size 1 A g.cells.length c (ics g.cells)) (htb : Rd w w.heap.size 8 A2 T.length c2 (mts T)) : Calls Tryz.prog 8 #[.agg (gcs g A c).toArray, .slice A2 T.length c2] w (fun e w' => ∃ (l : List Bx) (v : Value), e = .returned v ∧ w'.ownsRow w.heap.size 25 6 v l.length (bxsC l) ∧ (∀ p, ovl l p = solidAt g T p) ∧ l.length ≤ g.cells.length ∧ Below w.heap.size w w') := by
 have hvn_ : (g.cells.length : Int) = g.box.vol := Decidable.byContradiction fun e => hv.2.1 (Or.inr (Or.inr e))
 have hlen_ : g.cells.length = 64 ∨ g.cells.length = 512 := by
  rcases hs with rfl | rfl
  ·left; rw [hbs] at hvn_; have : (cubeB 4).vol = 64 := by decide
   omega
  ·right; rw [hbs] at hvn_; have : (cubeB 8).vol = 512 := by decide
   omega
 obtain ⟨bi_, oi_, rfl, _, _⟩ := hrd.cells (by omega)
 have hm0 := Mem.rd1 hrd
 refine callsOfMarks Tryz.func8 rfl ?_
 refine litStart (ds := (([] : List Nat).map mark)) 111 [(0, .agg (gcs g (some ⟨bi_, oi_, none⟩) c).toArray), (1, .slice A2 T.length c2)] kr_ (fun X0 => ?_)
 refine sp_ fun _ hK1 => ?_
 refine plBox hm0 (cs := gcs g (some ⟨bi_, oi_, none⟩) c) (i := 0) rfl (wn rfl) rfl (litEv kr_) ?_
 intro g2 w4 hm3
 clear hm0
 try simp only [lc_] at hm3
 refine qP rfl ?_
 refine plAlloc1 (v := .slice none 0 0) kr_ hm3 (i := 1) rfl (wn rfl) rfl ?_
 intro g5 w7 hm6
 clear hm3
 try simp only [lc_] at hm6
 refine qP rfl ?_
 refine pt_ hK1 ?_
 refine sp_ fun _ hK8 => ?_
 refine lk (v := .pointer (some ⟨g2, 6, none⟩)) rfl rfl rfl ?_
 refine lv_ rfl (.slice (some ⟨bi_, oi_, none⟩) g.cells.length c) (ld_ 6 1 hm6) ?_
 refine lv_ rfl (.int .i64 (g.cells.length : Int)) (ln_ (some ⟨bi_, oi_, none⟩) g.cells.length c Ty.und_L_int) ?_
 refine plMakeRow (m := g.cells.length) (cs := blsC (iniB g T 0)) (e := 4) hm6 (i := 3) rfl (wn rfl) rfl (litEv kr_) (litEv kr_) (fun w_ => by rw [ini_zero]; exact mkBools hlen_ w_) (by unfold blsC; rw [List.length_map, ini_len g T (Nat.zero_le _), Nat.mul_one]) (Nat.le_trans (show g.cells.length ≤ 512 by omega) (by decide)) ?_
 intro g9 w10 hm11
 clear hm6
 try simp only [lc_] at hm11
 refine qP rfl ?_
 refine plAlloc1 (v := .slice none 0 0) kr_ hm11 (i := 4) rfl (wn rfl) rfl ?_
 intro g12 w14 hm13
 clear hm11
 try simp only [lc_] at hm13
 refine qP rfl ?_
 refine plStore1 (v := .slice (some ⟨g9, 0, none⟩) g.cells.length g.cells.length) (k := 0) 4 kr_ hm13 rfl (i := 5) rfl (wn rfl) rfl (litEv kr_) (litEv kr_) rfl rfl rfl ?_
 intro w16 hm15
 clear hm13
 try simp only [lc_] at hm15
 refine qNone rfl ?_
 refine pt_ hK8 ?_
 refine sk_ fun _ hK17 => ?_
 refine sp_ fun _ hK18 => ?_
 refine lk (v := .pointer (some ⟨g2, 6, none⟩)) rfl rfl rfl ?_
 refine lv_ rfl (.slice (some ⟨bi_, oi_, none⟩) g.cells.length c) (ld_ 6 1 hm15) ?_
 refine lv_ rfl (.int .i64 (g.cells.length : Int)) (ln_ (some ⟨bi_, oi_, none⟩) g.cells.length c Ty.und_L_int) ?_
 refine lk (v := .int .i64 0) rfl rfl rfl ?_
 refine pt_ hK18 ?_
 refine wp_block ?_
 refine gwLoop (fun n_ a_ w_ => ∃ (i : Nat), n_ = g.cells.length - i ∧ (i ≤ g.cells.length) ∧ Fr (ds := (([] : List Nat).map mark)) a_ 111 [(1, .slice A2 T.length c2), (2, .pointer (some ⟨g2, 0, none⟩)), (4, .pointer (some ⟨g5, 0, none⟩)), (5, .pointer (some ⟨g12, 0, none⟩)), (22, .slice (some ⟨bi_, oi_, none⟩) g.cells.length c), (23, .int .i64 (g.cells.length : Int)), (24, .int .i64 (i : Int))] ∧ Mem w w_ ((.rd (some ⟨bi_, oi_, none⟩) 1 g.cells.length c (ics g.cells)) :: (.arr g2 28 (gcs g (some ⟨bi_, oi_, none⟩) c)) :: (.arr g5 36 ([.slice none 0 0])) :: (.row (.slice (some ⟨g9, 0, none⟩) g.cells.length g.cells.length) 4 1 g.cells.length (blsC (iniB g T i))) :: (.arr g12 73 ([.slice (some ⟨g9, 0, none⟩) g.cells.length g.cells.length])) :: (([] : List Nat).map defR))) (g.cells.length - 0) ⟨0, rfl, (Nat.zero_le _), ⟨litSize, rfl, fo_⟩, hm15⟩ ?_
 clear hm15
 intro n_ a21 w19 hI_
 obtain ⟨i, rfl, hi, hF_, hm20⟩ := hI_
 obtain ⟨X22, rfl⟩ := frLit hF_
 clear hF_
 refine sp_ fun _ hK23 => ?_
 by_cases h24 : (i : Int) < (g.cells.length : Int)
 ·have hi2_ : i < g.cells.length := by omega
  refine lv_ rfl _ (lsT_ h24) ?_
  refine pt_ hK23 ?_
  refine sk_ fun _ hK25 => ?_
  refine wp_cond_true (litEv kr_) ?_
  refine wp_skip ?_
  refine tn_ hK25 ?_
  refine sk_ fun _ hK26 => ?_
  refine wp_block ?_
  refine sp_ fun _ hK27 => ?_
  refine lk (v := .int .i64 (i : Int)) rfl rfl rfl ?_
  refine lv_ rfl (.pointer (some ⟨bi_, oi_ + i * 1, none⟩)) (ia_ c i Ty.sl_L_int rfl (show i < g.cells.length by omega)) ?_
  refine lv_ rfl (.int .i64 (g.cells.getD i 0)) (lr_ (m := i * 1) ((Rd.below hrd hm20.bel).more hm20.bel.size) (icsGet (getD_of 0 (show i < g.cells.length by omega))) (by omega)) ?_
  refine lk (v := .int .i64 (i : Int)) rfl rfl rfl ?_
  refine lk (v := .int .i64 (g.cells.getD i 0)) rfl rfl rfl ?_
  refine pt_ hK27 ?_
  refine wpNoPanic ?_
  refine glStart 6 ((.rd (some ⟨bi_, oi_, none⟩) 1 g.cells.length c (ics g.cells)) :: (.arr g2 28 (gcs g (some ⟨bi_, oi_, none⟩) c)) :: (.arr g5 36 ([.slice none 0 0])) :: (.arr g12 73 ([.slice (some ⟨g9, 0, none⟩) g.cells.length g.cells.length])) :: (([] : List Nat).map defR)) hm20 kr_ ?_
  intro w29 hm28
  clear hm20
  have hk30 := (hm28.sub (.cons_cons _ (.cons_cons _ (.cons_cons _ (.cons _ (.cons_cons _ (List.Sublist.refl _)))))))
  refine glTake (i := 0) (v := .slice (some ⟨g9, 0, none⟩) g.cells.length g.cells.length) rfl kr_ (wn rfl) (fun _ _ _ h => h) hk30 (fun w_ h_ => gLoad (v := .slice (some ⟨g9, 0, none⟩) g.cells.length g.cells.length) (k := 0) 3 h_ rfl kr_ (.tmp 5) kr_ rfl (litEv kr_)) ?_
  refine glP rfl ?_
  refine glk (i := 1) (v := .int .i64 (i : Int)) rfl rfl (fun _ _ _ h => h) hk30 rfl ?_
  refine glk (i := 2) (v := .slice A2 T.length c2) rfl rfl (fun _ _ _ h => h) hk30 rfl ?_
  refine glk (i := 3) (v := .int .i64 (g.cells.getD i 0)) rfl rfl (fun _ _ _ h => h) hk30 rfl ?_
  refine glCall (i := 4) 29 [.slice A2 T.length c2, .int .i64 (g.cells.getD i 0)] [] [] kr_ rfl kr_ (wn rfl) rfl (litEv kr_) (litArgs kr_) (solidM_any T (g.cells.getD i 0) A2 c2 _ ((Rd.below htb hm28.bel).more hm28.bel.size)) ?_
  rintro e w31 ⟨rfl, hbz⟩
  have hm32 := hm28.below hbz
  clear hbz hm28
  have hk33 := (hm32.sub (.cons_cons _ (.cons_cons _ (.cons_cons _ (.cons _ (.cons_cons _ (List.Sublist.refl _)))))))
  refine ⟨_, rfl, hk33, ?_⟩
  refine glP rfl ?_
  rcases bool_or ((matAt T (g.cells.getD i 0)).solid) with h34 | h34
  ·rw [h34]
   refine glTake (i := 5) (v := .pointer (some ⟨g9, 0 + i * 1, none⟩)) rfl kr_ (wn rfl) (fun _ _ _ h => h) hk33 (fun w_ h_ => gIaSl (b := g9) (off := 0) (n := g.cells.length) (c := g.cells.length) (kk := .i64) (K := (i : Int)) (.tmp 29) (.tmp 30) i Ty.sl_L_bool rfl (litEv kr_) (litEv kr_) (rfl) ((show i < g.cells.length by omega))) ?_
   refine glP rfl ?_
   refine glStoreRow (v := .bool false) (v0 := .bool ((iniB g T i).getD (i) false)) (k := 0 + i * 1) (xs := blsC (iniB g T i)) 3 kr_ hm32 rfl kr_ (i := 6) rfl kr_ (wn rfl) rfl (litEv kr_) (litEv kr_) (blsZ (getD_of false (by rw [ini_len g T (by omega)]; omega))) (by omega) rfl rfl ?_
   intro w35 hm36
   clear hm32
   try simp only [lc_] at hm36
   replace hm36 := Mem.rowEq (v := .slice (some ⟨g9, 0, none⟩) g.cells.length g.cells.length) (e := 4) (size := 1) (n := g.cells.length) (n' := g.cells.length) (xs := (blsC (iniB g T i)).set (0 + i * 1) (.bool false)) (xs' := blsC (iniB g T (i + 1))) 3 hm36 rfl rfl (blsZs (by rw [← ini_succ (getD_of 0 hi2_), h34]))
   try simp only [lc_] at hm36
   refine glNone rfl ?_
   refine glDone kr_ ?_
   refine noPN ?_
   refine inBlock_normal ?_
   refine tn_ hK26 ?_
   refine plStart ?_
   refine lv_ rfl _ (ad_ (i : Int) 1) ?_
   refine lk (v := .int .i64 ((i : Int) + 1)) rfl rfl rfl ?_
   refine plD ?_
   refine then_normal ?_
   exact ⟨_, by omega, (i + 1), rfl, (by omega), ⟨litSize, rfl, fo_⟩, (hm36.sub (.cons_cons _ (.cons_cons _ (.cons_cons _ (.cons_cons _ (.cons_cons _ (List.Sublist.refl _)))))))⟩
  rw [h34]
  refine glTake (i := 5) (v := .pointer (some ⟨g9, 0 + i * 1, none⟩)) rfl kr_ (wn rfl) (fun _ _ _ h => h) hk33 (fun w_ h_ => gIaSl (b := g9) (off := 0) (n := g.cells.length) (c := g.cells.length) (kk := .i64) (K := (i : Int)) (.tmp 29) (.tmp 30) i Ty.sl_L_bool rfl (litEv kr_) (litEv kr_) (rfl) ((show i < g.cells.length by omega))) ?_
  refine glP rfl ?_
  refine glStoreRow (v := .bool true) (v0 := .bool ((iniB g T i).getD (i) false)) (k := 0 + i * 1) (xs := blsC (iniB g T i)) 3 kr_ hm32 rfl kr_ (i := 6) rfl kr_ (wn rfl) rfl (litEv kr_) (litEv kr_) (blsZ (getD_of false (by rw [ini_len g T (by omega)]; omega))) (by omega) rfl rfl ?_
  intro w37 hm38
  clear hm32
  try simp only [lc_] at hm38
  replace hm38 := Mem.rowEq (v := .slice (some ⟨g9, 0, none⟩) g.cells.length g.cells.length) (e := 4) (size := 1) (n := g.cells.length) (n' := g.cells.length) (xs := (blsC (iniB g T i)).set (0 + i * 1) (.bool true)) (xs' := blsC (iniB g T (i + 1))) 3 hm38 rfl rfl (blsZs (by rw [← ini_succ (getD_of 0 hi2_), h34]))
  try simp only [lc_] at hm38
  refine glNone rfl ?_
  refine glDone kr_ ?_
  refine noPN ?_
  refine inBlock_normal ?_
  refine tn_ hK26 ?_
  refine plStart ?_
  refine lv_ rfl _ (ad_ (i : Int) 1) ?_
  refine lk (v := .int .i64 ((i : Int) + 1)) rfl rfl rfl ?_
  refine plD ?_
  refine then_normal ?_
  exact ⟨_, by omega, (i + 1), rfl, (by omega), ⟨litSize, rfl, fo_⟩, (hm38.sub (.cons_cons _ (.cons_cons _ (.cons_cons _ (.cons_cons _ (.cons_cons _ (List.Sublist.refl _)))))))⟩
 have hie_ : i = g.cells.length := by omega
 rw [hie_] at hm20
 refine lv_ rfl _ (lsF_ h24) ?_
 refine pt_ hK23 ?_
 refine sk_ fun _ hK39 => ?_
 refine wp_cond_false (litEv kr_) ?_
 refine wp_exit ?_
 refine then_exit ?_
 refine then_exit ?_
 refine inBlock_exit ?_
 refine tn_ hK17 ?_
 refine sp_ fun _ hK40 => ?_
 refine lk (v := .func (.func 30) #[] #[.pointer (some ⟨g2, 0, none⟩), .pointer (some ⟨g12, 0, none⟩)]) rfl rfl rfl ?_
 refine plAlloc1 (v := .nilFunc) kr_ hm20 (i := 1) rfl (wn rfl) rfl ?_
 intro g41 w43 hm42
 clear hm20
 try simp only [lc_] at hm42
 refine qP rfl ?_
 refine plStore1 (v := .func (.func 30) #[] #[.pointer (some ⟨g2, 0, none⟩), .pointer (some ⟨g12, 0, none⟩)]) (k := 0) 5 kr_ hm42 rfl (i := 2) rfl (wn rfl) rfl (litEv kr_) (litEv kr_) rfl rfl rfl ?_
 intro w45 hm44
 clear hm42
 try simp only [lc_] at hm44
 refine qNone rfl ?_
 refine pt_ hK40 ?_
 refine sk_ fun _ hK46 => ?_
 refine sp_ fun _ hK47 => ?_
 refine lv_ rfl (.agg (gcs g (some ⟨bi_, oi_, none⟩) c).toArray) (la_ 0 1 hm44 Ty.ag_voxel_api_Grid) ?_
 refine plCall (i := 1) 34 [.agg (gcs g (some ⟨bi_, oi_, none⟩) c).toArray] [] [] rfl kr_ (wn rfl) rfl (litEv kr_) (litArgs kr_) (gEach_any (M := ((.rd (some ⟨bi_, oi_, none⟩) 1 g.cells.length c (ics g.cells)) :: (.arr g2 28 (gcs g (some ⟨bi_, oi_, none⟩) c)) :: (.arr g5 36 ([.slice none 0 0])) :: (.row (.slice (some ⟨g9, 0, none⟩) g.cells.length g.cells.length) 4 1 g.cells.length (blsC (iniB g T g.cells.length))) :: (.arr g12 73 ([.slice (some ⟨g9, 0, none⟩) g.cells.length g.cells.length])) :: (.arr g41 79 ([.func (.func 30) #[] #[.pointer (some ⟨g2, 0, none⟩), .pointer (some ⟨g12, 0, none⟩)]])) :: (([] : List Nat).map defR))) g (some ⟨bi_, oi_, none⟩) c hm44) ?_
 rintro e w48 ⟨g50, rfl, hm49⟩
 clear hm44
 refine ⟨_, rfl, ?_⟩
 refine qP rfl ?_
 refine pt_ hK47 ?_
 refine wp_block ?_
 have hm51 := Mem.nilFront hm49 25 6
 clear hm49
 have hm52 := hm51.f2
 clear hm51
 have hm53 := hm52.f2
 clear hm52
 have hm54 := hm53.f2
 clear hm53
 have hm55 := hm54.f7
 clear hm54
 have hm56 := hm55.f5
 clear hm55
 have hm57 := hm56.f6
 clear hm56
 have hm58 := hm57.f7
 clear hm57
 have hm59 := hm58.f7
 clear hm58
 refine gwRange (gf := 77) (lb := [.pointer (some ⟨g50, 0, none⟩)]) (eachV g) ([.arr g50 28 (gcs g (some ⟨bi_, oi_, none⟩) c), .rd (some ⟨bi_, oi_, none⟩) 1 g.cells.length c (ics g.cells)]) (litEv kr_) kr_ (each_word g hv.1 hvn_ (by omega) bi_ oi_ c g50) ((eachV_two g)) (fun i_ V_ => ∃ (l : List Bx) (o : List Bool) (A3 : Option Addr) (c3 : Nat), (BI g T o l i_) ∧ V_ = [.arr g2 28 (gcs g (some ⟨bi_, oi_, none⟩) c), .arr g12 73 ([.slice (some ⟨g9, 0, none⟩) g.cells.length g.cells.length]), .row (.slice (some ⟨g9, 0, none⟩) g.cells.length g.cells.length) 4 1 g.cells.length (blsC o), .arr g5 36 ([.slice A3 l.length c3]), .arr g41 79 ([.func (.func 30) #[] #[.pointer (some ⟨g2, 0, none⟩), .pointer (some ⟨g12, 0, none⟩)]]), .row (.slice A3 l.length c3) 25 6 l.length (bxsC l)]) (fun _ _ => False) ([.arr g2 28 (gcs g (some ⟨bi_, oi_, none⟩) c), .arr g12 73 ([.slice (some ⟨g9, 0, none⟩) g.cells.length g.cells.length]), .row (.slice (some ⟨g9, 0, none⟩) g.cells.length g.cells.length) 4 1 g.cells.length (blsC (iniB g T g.cells.length)), .arr g5 36 ([.slice none 0 0]), .arr g41 79 ([.func (.func 30) #[] #[.pointer (some ⟨g2, 0, none⟩), .pointer (some ⟨g12, 0, none⟩)]]), .row (.slice none 0 0) 25 6 0 ([])]) (([] : List Nat).map defR) ⟨[], (iniB g T g.cells.length), none, 0, (BI.start T hv), rfl⟩ hm59 ?_ ?_ (fun _ _ _ _ h => h.elim)
 ·clear hm59
  intro lp60 i61 x62 w63 V64 N65 hx66 hJ_ hm67
  obtain ⟨l, o, A3, c3, hBI, rfl⟩ := hJ_
  try simp only [lc_] at hm67
  obtain ⟨hil_, rfl⟩ := eachV_inv hx66
  clear hx66
  have hol_ : o.length = g.cells.length := hBI.len
  have hcn_ : l.length ≤ i61 := hBI.cnt
  have hpin_ : inC s (g.box.cell (i61 : Int)) := by
   have h0_ := cell_has hv.1 (i := (i61 : Int)) (by omega) (by omega)
   rw [hbs] at h0_ ⊢
   unfold Bx.has cubeB p0 at h0_; simp only at h0_
   unfold inC; exact h0_
  have hpix_ : ∀ w, Calls Tryz.prog 33 #[.agg (bxs g.box).toArray, .agg (pcs (g.box.cell (i61 : Int))).toArray] w (RetV w (.int .i64 (i61 : Int))) := fun w => by
   have h_ := pidx_any g.box (g.box.cell (i61 : Int)) hv.1 (by unfold inC at hpin_; omega) w
   rw [idx_cell hv.1 (by omega) (by omega)] at h_
   exact h_
  have hpop_ : o.getD i61 false = true → opnB g o (g.box.cell (i61 : Int)) = true := fun h0_ => by
   have h1_ := cell_has hv.1 (i := (i61 : Int)) (by omega) (by omega)
   unfold opnB; rw [decide_eq_true h1_, idx_cell hv.1 (by omega) (by omega), Bool.true_and]; exact h0_
  obtain ⟨p, hpe_⟩ : ∃ p, p = g.box.cell (i61 : Int) := ⟨_, rfl⟩
  rw [← hpe_] at hpix_ hpin_ hpop_ ⊢
  unfold inC at hpin_
  refine rgFrame2 ?_
  refine plStartR kr_ (fun _ _ h => h) ?_
  refine plAlloc (z := [.int .i64 0, .int .i64 0, .int .i64 0]) Ty.ag_voxel_api_Point hm67 (i := 0) rfl (wn rfl) rfl ?_
  intro g68 w70 hm69
  clear hm67
  try simp only [lc_] at hm69
  replace hm69 := hm69.i6
  refine qP rfl ?_
  refine plStore 6 Ty.ag_voxel_api_Point hm69 rfl (i := 1) (cs := pcs p) rfl (wn rfl) rfl (litEv kr_) (litEv kr_) rfl rfl kr_ ?_
  intro w72 hm71
  clear hm69
  try simp only [lc_] at hm71
  refine qNone rfl ?_
  refine plD ?_
  refine ⟨[.arr g2 28 (gcs g (some ⟨bi_, oi_, none⟩) c), .arr g12 73 ([.slice (some ⟨g9, 0, none⟩) g.cells.length g.cells.length]), .row (.slice (some ⟨g9, 0, none⟩) g.cells.length g.cells.length) 4 1 g.cells.length (blsC o), .arr g5 36 ([.slice A3 l.length c3]), .arr g41 79 ([.func (.func 30) #[] #[.pointer (some ⟨g2, 0, none⟩), .pointer (some ⟨g12, 0, none⟩)]]), .row (.slice A3 l.length c3) 25 6 l.length (bxsC l), .arr g68 23 (pcs p)], hm71, ?_⟩
  clear hm71
  intro w73 N74 hm75
  try simp only [lc_] at hm75
  refine wpIn_block ?_
  refine wpIn_seq_k fun K76 hK76 => ?_
  refine wpIn_seq_k fun K77 hK77 => ?_
  refine mgStartR kr_ (fun _ _ h => h) hm75 kr_ ?_
  intro w79 hm78
  clear hm75
  refine mt_ 0 rfl (.slice (some ⟨g9, 0, none⟩) g.cells.length g.cells.length) hm78 (fun w_ h_ => ld_ 0 1 h_) ?_
  refine mk_ (i := 1) (v := .pointer (some ⟨g2, 0, none⟩)) rfl rfl (fun _ _ _ h => h) hm78 rfl ?_
  refine mt_ 2 rfl (.agg (bxs ⟨g.box.mn, g.box.mx⟩).toArray) hm78 (fun w_ h_ => la_ 0 0 h_ Ty.ag_voxel_api_Box) ?_
  refine mt_ 3 rfl (.agg (pcs p).toArray) hm78 (fun w_ h_ => la_ 0 6 h_ Ty.ag_voxel_api_Point) ?_
  refine mgCall (i := 4) 33 [.agg (bxs ⟨g.box.mn, g.box.mx⟩).toArray, .agg (pcs p).toArray] [] [] kr_ rfl kr_ (wn rfl) rfl (litEv kr_) (litArgs kr_) ((hpix_ _)) ?_
  rintro e w80 ⟨rfl, hbz⟩
  have hm81 := hm78.below hbz
  clear hbz hm78
  refine ⟨_, rfl, hm81, ?_⟩
  refine mP rfl ?_
  refine mt_ 5 rfl (.pointer (some ⟨g9, 0 + i61 * 1, none⟩)) hm81 (fun w_ h_ => ia_ g.cells.length i61 Ty.sl_L_bool rfl (show i61 < g.cells.length by omega)) ?_
  rcases bool_or (o.getD i61 false) with h82 | h82
  ·refine mt_ 6 rfl (.bool false) hm81 (fun w_ h_ => boolTo h82 (gLoadRd (v := .bool (o.getD i61 false)) (m := i61 * 1) (h_.rdRow 2 rfl) rfl (blsGet (getD_of false (show i61 < o.length by omega))) (by omega) (.tmp 46) kr_ rfl (litEv kr_))) ?_
   refine mk_ (i := 7) (v := .bool true) rfl rfl (fun _ _ _ h => h) hm81 rfl ?_
   refine mgDone kr_ ?_
   refine tn_ hK77 ?_
   refine wpPruneR [(2, .pointer (some ⟨g2, 0, none⟩)), (4, .pointer (some ⟨g5, 0, none⟩)), (5, .pointer (some ⟨g12, 0, none⟩)), (8, .pointer (some ⟨g41, 0, none⟩)), (9, .pointer (some ⟨g68, 0, none⟩)), (48, .bool true)] fo_ (fun X83 => ?_)
   refine wpIn_cond_true (litEv kr_) ?_
   refine wpIn_exit ?_
   refine then_exit ?_
   refine inBlock_exit ?_
   exact ⟨_, ⟨l, o, A3, c3, (hBI.skip h82), rfl⟩, (hm81.sub (.cons_cons _ (.cons_cons _ (.cons_cons _ (.cons_cons _ (.cons_cons _ (.cons_cons _ (.cons _ (List.Sublist.refl _)))))))))⟩
  refine mt_ 6 rfl (.bool true) hm81 (fun w_ h_ => boolTo h82 (gLoadRd (v := .bool (o.getD i61 false)) (m := i61 * 1) (h_.rdRow 2 rfl) rfl (blsGet (getD_of false (show i61 < o.length by omega))) (by omega) (.tmp 46) kr_ rfl (litEv kr_))) ?_
  refine mk_ (i := 7) (v := .bool false) rfl rfl (fun _ _ _ h => h) hm81 rfl ?_
  refine mgDone kr_ ?_
  refine tn_ hK77 ?_
  refine wpPruneR [(2, .pointer (some ⟨g2, 0, none⟩)), (4, .pointer (some ⟨g5, 0, none⟩)), (5, .pointer (some ⟨g12, 0, none⟩)), (8, .pointer (some ⟨g41, 0, none⟩)), (9, .pointer (some ⟨g68, 0, none⟩)), (48, .bool false)] fo_ (fun X84 => ?_)
  refine wpIn_cond_false (litEv kr_) ?_
  refine wpIn_skip ?_
  refine tn_ hK76 ?_
  refine wpIn_seq_k fun K85 hK85 => ?_
  refine aoStartR (aoV [fun _ => .agg (pcs p).toArray, fun _ => .agg (pcs p).toArray, fun _ => .agg (pcs ⟨1, 1, 1⟩).toArray, fun _ => .agg (pcs ⟨p.x + 1, p.y + 1, p.z + 1⟩).toArray, fun _ => .agg (bxs ⟨p, ⟨p.x + 1, p.y + 1, p.z + 1⟩⟩).toArray, fun _ => .agg ([.int .i64 p.x, .int .i64 (p.x + 1), .int .i64 p.y, .int .i64 (p.y + 1), .int .i64 p.z, .int .i64 (p.z + 1)]).toArray, fun γ_ => .pointer (some ⟨(γ_.getD 0 0), 0, none⟩), fun _ => undef]) (aoA [[], [], [], [], [], [], [6], []]) (fun b_ g_ => ((.arr g2 28 (gcs g (some ⟨bi_, oi_, none⟩) c)) :: (.arr g12 73 ([.slice (some ⟨g9, 0, none⟩) g.cells.length g.cells.length])) :: (.row (.slice (some ⟨g9, 0, none⟩) g.cells.length g.cells.length) 4 1 g.cells.length (blsC o)) :: (.arr g5 36 ([.slice A3 l.length c3])) :: (.arr g41 79 ([.func (.func 30) #[] #[.pointer (some ⟨g2, 0, none⟩), .pointer (some ⟨g12, 0, none⟩)]])) :: (.row (.slice A3 l.length c3) 25 6 l.length (bxsC l)) :: (.arr g68 23 (pcs p)) :: (bsel (b_ 6) (.arr (g_ 6) 85 (bsel (b_ 7) [.int .i64 p.x, .int .i64 (p.x + 1), .int .i64 p.y, .int .i64 (p.y + 1), .int .i64 p.z, .int .i64 (p.z + 1)] [.int .i64 0, .int .i64 0, .int .i64 0, .int .i64 0, .int .i64 0, .int .i64 0])) .free) :: N74)) kr_ (fun _ _ h => h) hm81 kr_ kr_ (fun w_ h_ => (Mem.insAt 7 h_.pushFree)) (fun b_ g_ h_ => by show (fun (x6_ x7_ : Bool) => (((.arr g2 28 (gcs g (some ⟨bi_, oi_, none⟩) c)) :: (.arr g12 73 ([.slice (some ⟨g9, 0, none⟩) g.cells.length g.cells.length])) :: (.row (.slice (some ⟨g9, 0, none⟩) g.cells.length g.cells.length) 4 1 g.cells.length (blsC o)) :: (.arr g5 36 ([.slice A3 l.length c3])) :: (.arr g41 79 ([.func (.func 30) #[] #[.pointer (some ⟨g2, 0, none⟩), .pointer (some ⟨g12, 0, none⟩)]])) :: (.row (.slice A3 l.length c3) 25 6 l.length (bxsC l)) :: (.arr g68 23 (pcs p)) :: (bsel x6_ (.arr (g_ 6) 85 (bsel x7_ [.int .i64 p.x, .int .i64 (p.x + 1), .int .i64 p.y, .int .i64 (p.y + 1), .int .i64 p.z, .int .i64 (p.z + 1)] [.int .i64 0, .int .i64 0, .int .i64 0, .int .i64 0, .int .i64 0, .int .i64 0])) .free) :: N74) : List Res)) (b_ 6) (b_ 7) = _; rw [h_ 6 (by decide), h_ 7 (by decide)]) ?_ ?_
  ·refine aoNext rfl (aoV_ (fun b_ g_ X_ w_ h_b h_ => valTo (b := .agg (pcs p).toArray) kr_ (la_ 0 6 h_ Ty.ag_voxel_api_Point))) ?_
   refine aoNext rfl (aoV_ (fun b_ g_ X_ w_ h_b h_ => valTo (b := .agg (pcs p).toArray) kr_ (la_ 0 6 h_ Ty.ag_voxel_api_Point))) ?_
   refine aoNext rfl aoK_ ?_
   refine aoNext rfl (aoC_ 27 (fun g_ => [.agg (pcs p).toArray, .agg (pcs ⟨1, 1, 1⟩).toArray]) [] [] (fun b_ g_ w_ h_b h_ => (add_any p ⟨1, 1, 1⟩ (by show _ ≤ _ + (1 : Int) ∧ _ + (1 : Int) ≤ _; omega) (by show _ ≤ _ + (1 : Int) ∧ _ + (1 : Int) ≤ _; omega) (by show _ ≤ _ + (1 : Int) ∧ _ + (1 : Int) ≤ _; omega) _).mono (fun _ _ h_r => ⟨h_r.1.trans kr_, h_r.2⟩))) ?_
   refine aoNext rfl aoK_ ?_
   refine aoNext rfl (aoC_ 35 (fun g_ => [.agg (bxs ⟨p, ⟨p.x + 1, p.y + 1, p.z + 1⟩⟩).toArray]) [] [] (fun b_ g_ w_ h_b h_ => (cof_any ⟨p, ⟨p.x + 1, p.y + 1, p.z + 1⟩⟩ _).mono (fun _ _ h_r => ⟨h_r.1.trans kr_, h_r.2⟩))) ?_
   refine aoNext rfl (aoNewAg (z := [.int .i64 0, .int .i64 0, .int .i64 0, .int .i64 0, .int .i64 0, .int .i64 0]) 7 Ty.ag_voxel_collide_extent rfl rfl (fun _ _ _ => ⟨_, rfl⟩) (fun b_ g_ γ_ h_b => Eq.trans kr_ (congrArg (fun x_ => List.set _ 7 (Res.arr γ_ 85 x_)) (bselF (α := List Value) (h_b.post 7 kr_) [.int .i64 p.x, .int .i64 (p.x + 1), .int .i64 p.y, .int .i64 (p.y + 1), .int .i64 p.z, .int .i64 (p.z + 1)] [.int .i64 0, .int .i64 0, .int .i64 0, .int .i64 0, .int .i64 0, .int .i64 0]))) (fun _ => by kernel_rfl) kr_) ?_
   refine aoNext rfl (aoStore (gb := fun g_ => (g_ 6)) (k := 0) (cur := fun g_ => [.int .i64 0, .int .i64 0, .int .i64 0, .int .i64 0, .int .i64 0, .int .i64 0]) (vs := fun g_ => [.int .i64 p.x, .int .i64 (p.x + 1), .int .i64 p.y, .int .i64 (p.y + 1), .int .i64 p.z, .int .i64 (p.z + 1)]) 7 (fun g_ => [(10, .pointer (some ⟨(g_ 6), 0, none⟩)), (54, .agg ([.int .i64 p.x, .int .i64 (p.x + 1), .int .i64 p.y, .int .i64 (p.y + 1), .int .i64 p.z, .int .i64 (p.z + 1)]).toArray)]) (fun g_ a_ h_k => ⟨(h_k.inn 6 _ _ kr_ rfl rfl).trans kr_, (h_k.inn 5 _ _ kr_ rfl rfl).trans kr_, trivial⟩) Ty.ag_voxel_collide_extent (fun b_ g_ h_b => by show some (bsel (b_ 6) (Res.arr (g_ 6) 85 (bsel (b_ 7) [.int .i64 p.x, .int .i64 (p.x + 1), .int .i64 p.y, .int .i64 (p.y + 1), .int .i64 p.z, .int .i64 (p.z + 1)] [.int .i64 0, .int .i64 0, .int .i64 0, .int .i64 0, .int .i64 0, .int .i64 0])) Res.free) = some (Res.arr (g_ 6) 85 ([.int .i64 0, .int .i64 0, .int .i64 0, .int .i64 0, .int .i64 0, .int .i64 0])); rw [bselT (h_b.pre 6 kr_), bselF h_b.no]) (fun g_ X_ => (wn rfl)) rfl (fun g_ X_ => litEv kr_) (fun g_ X_ => litEv kr_) (fun _ => by kernel_rfl) (fun _ => by kernel_rfl) (fun _ => by kernel_rfl) (fun b_ g_ h_b => Eq.trans (b := List.set (((.arr g2 28 (gcs g (some ⟨bi_, oi_, none⟩) c)) :: (.arr g12 73 ([.slice (some ⟨g9, 0, none⟩) g.cells.length g.cells.length])) :: (.row (.slice (some ⟨g9, 0, none⟩) g.cells.length g.cells.length) 4 1 g.cells.length (blsC o)) :: (.arr g5 36 ([.slice A3 l.length c3])) :: (.arr g41 79 ([.func (.func 30) #[] #[.pointer (some ⟨g2, 0, none⟩), .pointer (some ⟨g12, 0, none⟩)]])) :: (.row (.slice A3 l.length c3) 25 6 l.length (bxsC l)) :: (.arr g68 23 (pcs p)) :: (bsel (b_ 6) (.arr (g_ 6) 85 (bsel (b_ 7) [.int .i64 p.x, .int .i64 (p.x + 1), .int .i64 p.y, .int .i64 (p.y + 1), .int .i64 p.z, .int .i64 (p.z + 1)] [.int .i64 0, .int .i64 0, .int .i64 0, .int .i64 0, .int .i64 0, .int .i64 0])) .free) :: N74)) 7 (bsel (b_ 6) (Res.arr (g_ 6) 85 ([.int .i64 p.x, .int .i64 (p.x + 1), .int .i64 p.y, .int .i64 (p.y + 1), .int .i64 p.z, .int .i64 (p.z + 1)])) Res.free)) kr_ (congrArg (fun x_ => List.set _ 7 x_) (bselT (h_b.pre 6 kr_) _ _))) rfl) ?_
   exact aoDone (by decide)
  intro g_ a_ w87 hF_ hm86
  obtain ⟨X88, rfl⟩ := frLit (⟨hF_.size, hF_.defers, ⟨(hF_.out 2 kr_).trans (litGet kr_), (hF_.out 4 kr_).trans (litGet kr_), (hF_.out 5 kr_).trans (litGet kr_), (hF_.out 8 kr_).trans (litGet kr_), hF_.i_ 6, hF_.i_ 0, hF_.i_ 1, hF_.i_ 2, hF_.i_ 3, hF_.i_ 4, hF_.i_ 5, trivial⟩⟩ : Fr _ 111 [(2, .pointer (some ⟨g2, 0, none⟩)), (4, .pointer (some ⟨g5, 0, none⟩)), (5, .pointer (some ⟨g12, 0, none⟩)), (8, .pointer (some ⟨g41, 0, none⟩)), (10, .pointer (some ⟨(g_ 6), 0, none⟩)), (49, .agg (pcs p).toArray), (50, .agg (pcs p).toArray), (51, .agg (pcs ⟨1, 1, 1⟩).toArray), (52, .agg (pcs ⟨p.x + 1, p.y + 1, p.z + 1⟩).toArray), (53, .agg (bxs ⟨p, ⟨p.x + 1, p.y + 1, p.z + 1⟩⟩).toArray), (54, .agg ([.int .i64 p.x, .int .i64 (p.x + 1), .int .i64 p.y, .int .i64 (p.y + 1), .int .i64 p.z, .int .i64 (p.z + 1)]).toArray)])
  clear hF_
  have hm89 : Mem w w87 ((.arr g2 28 (gcs g (some ⟨bi_, oi_, none⟩) c)) :: (.arr g12 73 ([.slice (some ⟨g9, 0, none⟩) g.cells.length g.cells.length])) :: (.row (.slice (some ⟨g9, 0, none⟩) g.cells.length g.cells.length) 4 1 g.cells.length (blsC o)) :: (.arr g5 36 ([.slice A3 l.length c3])) :: (.arr g41 79 ([.func (.func 30) #[] #[.pointer (some ⟨g2, 0, none⟩), .pointer (some ⟨g12, 0, none⟩)]])) :: (.row (.slice A3 l.length c3) 25 6 l.length (bxsC l)) :: (.arr g68 23 (pcs p)) :: (.arr (g_ 6) 85 ([.int .i64 p.x, .int .i64 (p.x + 1), .int .i64 p.y, .int .i64 (p.y + 1), .int .i64 p.z, .int .i64 (p.z + 1)])) :: N74) := hm86
  clear hm86 hm81
  generalize g_ 6 = g90 at hm89 ⊢
  clear g_
  refine tn_ hK85 ?_
  refine wpIn_seq_k fun K91 hK91 => ?_
  refine wpIn_seq_k fun K92 hK92 => ?_
  refine plStartR kr_ (fun _ _ h => h) ?_
  have hop_ := hpop_ h82
  refine lk (v := .int .i64 0) rfl rfl rfl ?_
  refine pt_ hK92 ?_
  refine wpIn_block ?_
  refine roundsStartR 4 ?_
  refine wpIn_seq_k fun K93 hK93 => ?_
  refine plStartR kr_ (fun _ _ h => h) ?_
  refine lk (v := .bool true) rfl rfl rfl ?_
  refine pt_ hK93 ?_
  refine wpIn_seq_k fun K94 hK94 => ?_
  refine wpIn_cond_true (litEv kr_) ?_
  refine wpIn_skip ?_
  refine tn_ hK94 ?_
  refine wpIn_seq_k fun K95 hK95 => ?_
  refine wpIn_block ?_
  refine wpIn_seq_k fun K96 hK96 => ?_
  refine plStartR kr_ (fun _ _ h => h) ?_
  refine lk (v := .int .i64 0) rfl rfl rfl ?_
  refine lk (v := .int .i64 0) rfl rfl rfl ?_
  refine pt_ hK96 ?_
  refine wpIn_block ?_
  refine gwLoopR (fun n_ a_ w_ => ∃ (a0 : Int), n_ = (s - a0).toNat ∧ (p.x + 1 ≤ a0 ∧ a0 ≤ s) ∧ (grB g o (⟨p, ⟨a0, p.y + 1, p.z + 1⟩⟩ : Bx)) ∧ Fr (ds := []) a_ 111 [(2, .pointer (some ⟨g2, 0, none⟩)), (4, .pointer (some ⟨g5, 0, none⟩)), (5, .pointer (some ⟨g12, 0, none⟩)), (8, .pointer (some ⟨g41, 0, none⟩)), (10, .pointer (some ⟨g90, 0, none⟩)), (11, .int .i64 0), (55, .int .i64 0), (56, .bool true), (57, .int .i64 0)] ∧ Mem w w_ ((.arr g2 28 (gcs g (some ⟨bi_, oi_, none⟩) c)) :: (.arr g12 73 ([.slice (some ⟨g9, 0, none⟩) g.cells.length g.cells.length])) :: (.row (.slice (some ⟨g9, 0, none⟩) g.cells.length g.cells.length) 4 1 g.cells.length (blsC o)) :: (.arr g5 36 ([.slice A3 l.length c3])) :: (.arr g41 79 ([.func (.func 30) #[] #[.pointer (some ⟨g2, 0, none⟩), .pointer (some ⟨g12, 0, none⟩)]])) :: (.row (.slice A3 l.length c3) 25 6 l.length (bxsC l)) :: (.arr g68 23 (pcs p)) :: (.arr g90 85 ([.int .i64 p.x, .int .i64 a0, .int .i64 p.y, .int .i64 (p.y + 1), .int .i64 p.z, .int .i64 (p.z + 1)])) :: N74)) ((s - (p.x + 1)).toNat) ⟨(p.x + 1), rfl, ⟨by omega, by omega⟩, (grB_one hop_), ⟨litSize, rfl, fo_⟩, hm89⟩ ?_
  clear hm89
  intro n_ a99 w97 hI_
  obtain ⟨a0, rfl, ha0, hg0, hF_, hm98⟩ := hI_
  obtain ⟨X100, rfl⟩ := frLit hF_
  clear hF_
  refine wpIn_block ?_
  refine wpIn_seq_k fun K101 hK101 => ?_
  refine plStartR kr_ (fun _ _ h => h) ?_
  refine lv_ rfl (.agg (bxs ⟨⟨p.x, a0, p.y⟩, ⟨p.y + 1, p.z, p.z + 1⟩⟩).toArray) (la_ 0 7 hm98 Ty.ag_voxel_collide_extent) ?_
  refine plAlloc (z := [.int .i64 0, .int .i64 0, .int .i64 0, .int .i64 0, .int .i64 0, .int .i64 0]) Ty.ag_voxel_collide_extent hm98 (i := 1) rfl (wn rfl) rfl ?_
  intro g102 w104 hm103
  clear hm98
  try simp only [lc_] at hm103
  replace hm103 := hm103.i8
  refine qP rfl ?_
  refine plStore 8 Ty.ag_voxel_collide_extent hm103 rfl (i := 2) (cs := bxs ⟨⟨p.x, a0, p.y⟩, ⟨p.y + 1, p.z, p.z + 1⟩⟩) rfl (wn rfl) rfl (litEv kr_) (litEv kr_) rfl rfl kr_ ?_
  intro w106 hm105
  clear hm103
  try simp only [lc_] at hm105
  refine qNone rfl ?_
  refine pt_ hK101 ?_
  refine wpIn_seq_k fun K107 hK107 => ?_
  refine glStartR 7 ((.arr g90 85 ([.int .i64 p.x, .int .i64 a0, .int .i64 p.y, .int .i64 (p.y + 1), .int .i64 p.z, .int .i64 (p.z + 1)])) :: (.arr g102 85 (bxs ⟨⟨p.x, a0, p.y⟩, ⟨p.y + 1, p.z, p.z + 1⟩⟩)) :: N74) kr_ (fun _ _ h => h) hm105 kr_ ?_
  intro w109 hm108
  clear hm105
  have hk110 := (hm108.sub (.cons _ (.cons _ (.cons _ (.cons _ (.cons _ (.cons _ (.cons _ (.cons_cons _ (.cons_cons _ (List.Sublist.refl _)))))))))))
  refine glk (i := 0) (v := .int .i64 0) rfl rfl (fun _ _ _ h => h) hk110 rfl ?_
  refine glk (i := 1) (v := .int .i64 0) rfl rfl (fun _ _ _ h => h) hk110 rfl ?_
  refine glTake (i := 2) (v := .pointer (some ⟨g90, 0, none⟩)) rfl kr_ (wn rfl) (fun _ _ _ h => h) hk110 (fun w_ h_ => iaRun (b := g90) (off := 0) (s := 2) (n := 3) (kk := .i64) (.tmp 10) (.tmp 60) 0 Ty.und_voxel_collide_extent kr_ rfl (litEv kr_) (litEv kr_) rfl (by decide)) ?_
  refine glP rfl ?_
  refine glTake (i := 3) (v := .pointer (some ⟨g90, 1, none⟩)) rfl kr_ (wn rfl) (fun _ _ _ h => h) hk110 (fun w_ h_ => iaRun (b := g90) (off := 0) (s := 1) (n := 2) (kk := .i64) (.tmp 61) (.const (.int .i64 1)) 1 Ty.und_2_int kr_ rfl (litEv kr_) (litEv kr_) rfl (by decide)) ?_
  refine glP rfl ?_
  refine glTake (i := 4) (v := .int .i64 a0) rfl kr_ (wn rfl) (fun _ _ _ h => h) hk110 (fun w_ h_ => gLoad (v := .int .i64 a0) (k := 1) 0 h_ rfl kr_ (.tmp 62) kr_ rfl (litEv kr_)) ?_
  refine glP rfl ?_
  refine glTake (i := 5) (v := .pointer (some ⟨g102, 0, none⟩)) rfl kr_ (wn rfl) (fun _ _ _ h => h) hk110 (fun w_ h_ => iaRun (b := g102) (off := 0) (s := 2) (n := 3) (kk := .i64) (.tmp 12) (.tmp 59) 0 Ty.und_voxel_collide_extent kr_ rfl (litEv kr_) (litEv kr_) rfl (by decide)) ?_
  refine glP rfl ?_
  refine glTake (i := 6) (v := .pointer (some ⟨g102, 0, none⟩)) rfl kr_ (wn rfl) (fun _ _ _ h => h) hk110 (fun w_ h_ => iaRun (b := g102) (off := 0) (s := 1) (n := 2) (kk := .i64) (.tmp 64) (.const (.int .i64 0)) 0 Ty.und_2_int kr_ rfl (litEv kr_) (litEv kr_) rfl (by decide)) ?_
  refine glP rfl ?_
  refine glStore1 (v := .int .i64 a0) (k := 0) 8 kr_ hm108 rfl kr_ (i := 7) rfl kr_ (wn rfl) rfl (litEv kr_) (litEv kr_) rfl rfl rfl ?_
  intro w112 hm111
  clear hm108
  try simp only [lc_] at hm111
  refine glNone rfl ?_
  refine glDone kr_ ?_
  refine tn_ hK107 ?_
  refine wpIn_seq_k fun K113 hK113 => ?_
  refine glStartR 7 ((.arr g90 85 ([.int .i64 p.x, .int .i64 a0, .int .i64 p.y, .int .i64 (p.y + 1), .int .i64 p.z, .int .i64 (p.z + 1)])) :: (.arr g102 85 ([.int .i64 a0, .int .i64 a0, .int .i64 p.y, .int .i64 (p.y + 1), .int .i64 p.z, .int .i64 (p.z + 1)])) :: N74) kr_ (fun _ _ h => h) hm111 kr_ ?_
  intro w115 hm114
  clear hm111
  have hk116 := (hm114.sub (.cons _ (.cons _ (.cons _ (.cons _ (.cons _ (.cons _ (.cons _ (.cons_cons _ (.cons_cons _ (List.Sublist.refl _)))))))))))
  refine glk (i := 0) (v := .int .i64 0) rfl rfl (fun _ _ _ h => h) hk116 rfl ?_
  refine glTake (i := 1) (v := .pointer (some ⟨g102, 0, none⟩)) rfl kr_ (wn rfl) (fun _ _ _ h => h) hk116 (fun w_ h_ => iaRun (b := g102) (off := 0) (s := 2) (n := 3) (kk := .i64) (.tmp 12) (.tmp 66) 0 Ty.und_voxel_collide_extent kr_ rfl (litEv kr_) (litEv kr_) rfl (by decide)) ?_
  refine glP rfl ?_
  refine glTake (i := 2) (v := .pointer (some ⟨g102, 1, none⟩)) rfl kr_ (wn rfl) (fun _ _ _ h => h) hk116 (fun w_ h_ => iaRun (b := g102) (off := 0) (s := 1) (n := 2) (kk := .i64) (.tmp 67) (.const (.int .i64 1)) 1 Ty.und_2_int kr_ rfl (litEv kr_) (litEv kr_) rfl (by decide)) ?_
  refine glP rfl ?_
  refine glTake (i := 3) (v := .int .i64 a0) rfl kr_ (wn rfl) (fun _ _ _ h => h) hk116 (fun w_ h_ => gLoad (v := .int .i64 a0) (k := 1) 1 h_ rfl kr_ (.tmp 68) kr_ rfl (litEv kr_)) ?_
  refine glP rfl ?_
  refine glTake (i := 4) (v := .int .i64 (a0 + 1)) rfl kr_ (wn rfl) (fun _ _ _ h => h) hk116 (fun w_ h_ => addRun (A := a0) (B := 1) (C := a0 + 1) (.tmp 69) (.const (.int .i64 1)) rfl (litEv kr_) (litEv kr_) rfl (by omega)) ?_
  refine glP rfl ?_
  refine glTake (i := 5) (v := .pointer (some ⟨g102, 0, none⟩)) rfl kr_ (wn rfl) (fun _ _ _ h => h) hk116 (fun w_ h_ => iaRun (b := g102) (off := 0) (s := 2) (n := 3) (kk := .i64) (.tmp 12) (.tmp 66) 0 Ty.und_voxel_collide_extent kr_ rfl (litEv kr_) (litEv kr_) rfl (by decide)) ?_
  refine glP rfl ?_
  refine glTake (i := 6) (v := .pointer (some ⟨g102, 1, none⟩)) rfl kr_ (wn rfl) (fun _ _ _ h => h) hk116 (fun w_ h_ => iaRun (b := g102) (off := 0) (s := 1) (n := 2) (kk := .i64) (.tmp 71) (.const (.int .i64 1)) 1 Ty.und_2_int kr_ rfl (litEv kr_) (litEv kr_) rfl (by decide)) ?_
  refine glP rfl ?_
  refine glStore1 (v := .int .i64 (a0 + 1)) (k := 1) 8 kr_ hm114 rfl kr_ (i := 7) rfl kr_ (wn rfl) rfl (litEv kr_) (litEv kr_) rfl rfl rfl ?_
  intro w118 hm117
  clear hm114
  try simp only [lc_] at hm117
  refine glNone rfl ?_
  refine glDone kr_ ?_
  refine tn_ hK113 ?_
  refine wpIn_seq_k fun K119 hK119 => ?_
  refine wpIn_seq_k fun K120 hK120 => ?_
  refine mgStartR kr_ (fun _ _ h => h) hm117 kr_ ?_
  intro w122 hm121
  clear hm117
  refine mt_ 0 rfl (.func (.func 30) #[] #[.pointer (some ⟨g2, 0, none⟩), .pointer (some ⟨g12, 0, none⟩)]) hm121 (fun w_ h_ => ld_ 0 4 h_) ?_
  refine mt_ 1 rfl (.agg (bxs ⟨⟨a0, a0 + 1, p.y⟩, ⟨p.y + 1, p.z, p.z + 1⟩⟩).toArray) hm121 (fun w_ h_ => la_ 0 8 h_ Ty.ag_voxel_collide_extent) ?_
  refine mgCall (i := 2) 36 [.agg (bxs ⟨⟨a0, a0 + 1, p.y⟩, ⟨p.y + 1, p.z, p.z + 1⟩⟩).toArray] [] [] kr_ rfl kr_ (wn rfl) rfl (litEv kr_) (litArgs kr_) (cbox_any ⟨⟨a0, p.y, p.z⟩, ⟨a0 + 1, p.y + 1, p.z + 1⟩⟩ _) ?_
  rintro e w123 ⟨rfl, hbz⟩
  have hm124 := hm121.below hbz
  clear hbz hm121
  refine ⟨_, rfl, hm124, ?_⟩
  refine mP rfl ?_
  refine mgCall (i := 3) 30 [.agg (bxs (⟨⟨a0, p.y, p.z⟩, ⟨a0 + 1, p.y + 1, p.z + 1⟩⟩ : Bx)).toArray] [] [.pointer (some ⟨g2, 0, none⟩), .pointer (some ⟨g12, 0, none⟩)] kr_ rfl kr_ (wn rfl) rfl (litEv kr_) (litArgs kr_) (all_any (A := some ⟨bi_, oi_, none⟩) (M := ((.arr g5 36 ([.slice A3 l.length c3])) :: (.arr g41 79 ([.func (.func 30) #[] #[.pointer (some ⟨g2, 0, none⟩), .pointer (some ⟨g12, 0, none⟩)]])) :: (.row (.slice A3 l.length c3) 25 6 l.length (bxsC l)) :: (.arr g68 23 (pcs p)) :: (.arr g90 85 ([.int .i64 p.x, .int .i64 a0, .int .i64 p.y, .int .i64 (p.y + 1), .int .i64 p.z, .int .i64 (p.z + 1)])) :: (.arr g102 85 ([.int .i64 a0, .int .i64 (a0 + 1), .int .i64 p.y, .int .i64 (p.y + 1), .int .i64 p.z, .int .i64 (p.z + 1)])) :: N74)) g hv.1 c g2 g12 g9 g.cells.length g.cells.length o hvn_ hol_ (⟨⟨a0, p.y, p.z⟩, ⟨a0 + 1, p.y + 1, p.z + 1⟩⟩ : Bx) (by unfold Bx.rng Pt.rng; simp only; omega) hm124) ?_
  rintro e w125 ⟨rfl, hm126⟩
  clear hm124
  refine ⟨_, rfl, hm126, ?_⟩
  refine mP rfl ?_
  rcases bool_or (allB g o (⟨⟨a0, p.y, p.z⟩, ⟨a0 + 1, p.y + 1, p.z + 1⟩⟩ : Bx)) with h127 | h127
  ·rw [h127]
   refine mk_ (i := 4) (v := .bool true) rfl rfl (fun _ _ _ h => h) hm126 rfl ?_
   refine mgDone kr_ ?_
   refine tn_ hK120 ?_
   refine wpIn_cond_true (litEv kr_) ?_
   refine wpIn_exit ?_
   refine then_exit ?_
   refine inBlock_other (by decide) ?_
   refine then_exit ?_
   refine inBlock_exit ?_
   refine inBlock_normal ?_
   refine tn_ hK95 ?_
   refine plStartR kr_ (fun _ _ h => h) ?_
   refine lk (v := .int .i64 1) rfl rfl rfl ?_
   refine lk (v := .int .i64 1) rfl rfl rfl ?_
   refine plD ?_
   refine then_normal (roundsNextR ?_)
   have hm128 : Mem w w125 ((.arr g2 28 (gcs g (some ⟨bi_, oi_, none⟩) c)) :: (.arr g12 73 ([.slice (some ⟨g9, 0, none⟩) g.cells.length g.cells.length])) :: (.row (.slice (some ⟨g9, 0, none⟩) g.cells.length g.cells.length) 4 1 g.cells.length (blsC o)) :: (.arr g5 36 ([.slice A3 l.length c3])) :: (.arr g41 79 ([.func (.func 30) #[] #[.pointer (some ⟨g2, 0, none⟩), .pointer (some ⟨g12, 0, none⟩)]])) :: (.row (.slice A3 l.length c3) 25 6 l.length (bxsC l)) :: (.arr g68 23 (pcs p)) :: (.arr g90 85 ([.int .i64 p.x, .int .i64 a0, .int .i64 p.y, .int .i64 (p.y + 1), .int .i64 p.z, .int .i64 (p.z + 1)])) :: N74) := (hm126.sub (.cons_cons _ (.cons_cons _ (.cons_cons _ (.cons_cons _ (.cons_cons _ (.cons_cons _ (.cons_cons _ (.cons_cons _ (.cons _ (List.Sublist.refl _)))))))))))
   clear hm126
   refine wpIn_seq_k fun K129 hK129 => ?_
   refine plStartR kr_ (fun _ _ h => h) ?_
   refine lk (v := .bool true) rfl rfl rfl ?_
   refine pt_ hK129 ?_
   refine wpIn_seq_k fun K130 hK130 => ?_
   refine wpIn_cond_true (litEv kr_) ?_
   refine wpIn_skip ?_
   refine tn_ hK130 ?_
   refine wpIn_seq_k fun K131 hK131 => ?_
   refine wpIn_block ?_
   refine wpIn_seq_k fun K132 hK132 => ?_
   refine plStartR kr_ (fun _ _ h => h) ?_
   refine lk (v := .int .i64 1) rfl rfl rfl ?_
   refine lk (v := .int .i64 1) rfl rfl rfl ?_
   refine pt_ hK132 ?_
   refine wpIn_block ?_
   refine gwLoopR (fun n_ a_ w_ => ∃ (a1 : Int), n_ = (s - a1).toNat ∧ (p.y + 1 ≤ a1 ∧ a1 ≤ s) ∧ (grB g o (⟨p, ⟨a0, a1, p.z + 1⟩⟩ : Bx)) ∧ Fr (ds := []) a_ 111 [(2, .pointer (some ⟨g2, 0, none⟩)), (4, .pointer (some ⟨g5, 0, none⟩)), (5, .pointer (some ⟨g12, 0, none⟩)), (8, .pointer (some ⟨g41, 0, none⟩)), (10, .pointer (some ⟨g90, 0, none⟩)), (11, .int .i64 1), (55, .int .i64 1), (56, .bool true), (57, .int .i64 1), (85, .int .i64 1)] ∧ Mem w w_ ((.arr g2 28 (gcs g (some ⟨bi_, oi_, none⟩) c)) :: (.arr g12 73 ([.slice (some ⟨g9, 0, none⟩) g.cells.length g.cells.length])) :: (.row (.slice (some ⟨g9, 0, none⟩) g.cells.length g.cells.length) 4 1 g.cells.length (blsC o)) :: (.arr g5 36 ([.slice A3 l.length c3])) :: (.arr g41 79 ([.func (.func 30) #[] #[.pointer (some ⟨g2, 0, none⟩), .pointer (some ⟨g12, 0, none⟩)]])) :: (.row (.slice A3 l.length c3) 25 6 l.length (bxsC l)) :: (.arr g68 23 (pcs p)) :: (.arr g90 85 ([.int .i64 p.x, .int .i64 a0, .int .i64 p.y, .int .i64 a1, .int .i64 p.z, .int .i64 (p.z + 1)])) :: N74)) ((s - (p.y + 1)).toNat) ⟨(p.y + 1), rfl, ⟨by omega, by omega⟩, hg0, ⟨litSize, rfl, fo_⟩, hm128⟩ ?_
   clear hm128
   intro n_ a135 w133 hI_
   obtain ⟨a1, rfl, ha1, hg1, hF_, hm134⟩ := hI_
   obtain ⟨X136, rfl⟩ := frLit hF_
   clear hF_
   refine wpIn_block ?_
   refine wpIn_seq_k fun K137 hK137 => ?_
   refine plStartR kr_ (fun _ _ h => h) ?_
   refine lv_ rfl (.agg (bxs ⟨⟨p.x, a0, p.y⟩, ⟨a1, p.z, p.z + 1⟩⟩).toArray) (la_ 0 7 hm134 Ty.ag_voxel_collide_extent) ?_
   refine plAlloc (z := [.int .i64 0, .int .i64 0, .int .i64 0, .int .i64 0, .int .i64 0, .int .i64 0]) Ty.ag_voxel_collide_extent hm134 (i := 1) rfl (wn rfl) rfl ?_
   intro g138 w140 hm139
   clear hm134
   try simp only [lc_] at hm139
   replace hm139 := hm139.i8
   refine qP rfl ?_
   refine plStore 8 Ty.ag_voxel_collide_extent hm139 rfl (i := 2) (cs := bxs ⟨⟨p.x, a0, p.y⟩, ⟨a1, p.z, p.z + 1⟩⟩) rfl (wn rfl) rfl (litEv kr_) (litEv kr_) rfl rfl kr_ ?_
   intro w142 hm141
   clear hm139
   try simp only [lc_] at hm141
   refine qNone rfl ?_
   refine pt_ hK137 ?_
   refine wpIn_seq_k fun K143 hK143 => ?_
   refine glStartR 7 ((.arr g90 85 ([.int .i64 p.x, .int .i64 a0, .int .i64 p.y, .int .i64 a1, .int .i64 p.z, .int .i64 (p.z + 1)])) :: (.arr g138 85 (bxs ⟨⟨p.x, a0, p.y⟩, ⟨a1, p.z, p.z + 1⟩⟩)) :: N74) kr_ (fun _ _ h => h) hm141 kr_ ?_
   intro w145 hm144
   clear hm141
   have hk146 := (hm144.sub (.cons _ (.cons _ (.cons _ (.cons _ (.cons _ (.cons _ (.cons _ (.cons_cons _ (.cons_cons _ (List.Sublist.refl _)))))))))))
   refine glk (i := 0) (v := .int .i64 1) rfl rfl (fun _ _ _ h => h) hk146 rfl ?_
   refine glk (i := 1) (v := .int .i64 1) rfl rfl (fun _ _ _ h => h) hk146 rfl ?_
   refine glTake (i := 2) (v := .pointer (some ⟨g90, 2, none⟩)) rfl kr_ (wn rfl) (fun _ _ _ h => h) hk146 (fun w_ h_ => iaRun (b := g90) (off := 0) (s := 2) (n := 3) (kk := .i64) (.tmp 10) (.tmp 60) 1 Ty.und_voxel_collide_extent kr_ rfl (litEv kr_) (litEv kr_) rfl (by decide)) ?_
   refine glP rfl ?_
   refine glTake (i := 3) (v := .pointer (some ⟨g90, 3, none⟩)) rfl kr_ (wn rfl) (fun _ _ _ h => h) hk146 (fun w_ h_ => iaRun (b := g90) (off := 2) (s := 1) (n := 2) (kk := .i64) (.tmp 61) (.const (.int .i64 1)) 1 Ty.und_2_int kr_ rfl (litEv kr_) (litEv kr_) rfl (by decide)) ?_
   refine glP rfl ?_
   refine glTake (i := 4) (v := .int .i64 a1) rfl kr_ (wn rfl) (fun _ _ _ h => h) hk146 (fun w_ h_ => gLoad (v := .int .i64 a1) (k := 3) 0 h_ rfl kr_ (.tmp 62) kr_ rfl (litEv kr_)) ?_
   refine glP rfl ?_
   refine glTake (i := 5) (v := .pointer (some ⟨g138, 2, none⟩)) rfl kr_ (wn rfl) (fun _ _ _ h => h) hk146 (fun w_ h_ => iaRun (b := g138) (off := 0) (s := 2) (n := 3) (kk := .i64) (.tmp 12) (.tmp 59) 1 Ty.und_voxel_collide_extent kr_ rfl (litEv kr_) (litEv kr_) rfl (by decide)) ?_
   refine glP rfl ?_
   refine glTake (i := 6) (v := .pointer (some ⟨g138, 2, none⟩)) rfl kr_ (wn rfl) (fun _ _ _ h => h) hk146 (fun w_ h_ => iaRun (b := g138) (off := 2) (s := 1) (n := 2) (kk := .i64) (.tmp 64) (.const (.int .i64 0)) 0 Ty.und_2_int kr_ rfl (litEv kr_) (litEv kr_) rfl (by decide)) ?_
   refine glP rfl ?_
   refine glStore1 (v := .int .i64 a1) (k := 2) 8 kr_ hm144 rfl kr_ (i := 7) rfl kr_ (wn rfl) rfl (litEv kr_) (litEv kr_) rfl rfl rfl ?_
   intro w148 hm147
   clear hm144
   try simp only [lc_] at hm147
   refine glNone rfl ?_
   refine glDone kr_ ?_
   refine tn_ hK143 ?_
   refine wpIn_seq_k fun K149 hK149 => ?_
   refine glStartR 7 ((.arr g90 85 ([.int .i64 p.x, .int .i64 a0, .int .i64 p.y, .int .i64 a1, .int .i64 p.z, .int .i64 (p.z + 1)])) :: (.arr g138 85 ([.int .i64 p.x, .int .i64 a0, .int .i64 a1, .int .i64 a1, .int .i64 p.z, .int .i64 (p.z + 1)])) :: N74) kr_ (fun _ _ h => h) hm147 kr_ ?_
   intro w151 hm150
   clear hm147
   have hk152 := (hm150.sub (.cons _ (.cons _ (.cons _ (.cons _ (.cons _ (.cons _ (.cons _ (.cons_cons _ (.cons_cons _ (List.Sublist.refl _)))))))))))
   refine glk (i := 0) (v := .int .i64 1) rfl rfl (fun _ _ _ h => h) hk152 rfl ?_
   refine glTake (i := 1) (v := .pointer (some ⟨g138, 2, none⟩)) rfl kr_ (wn rfl) (fun _ _ _ h => h) hk152 (fun w_ h_ => iaRun (b := g138) (off := 0) (s := 2) (n := 3) (kk := .i64) (.tmp 12) (.tmp 66) 1 Ty.und_voxel_collide_extent kr_ rfl (litEv kr_) (litEv kr_) rfl (by decide)) ?_
   refine glP rfl ?_
   refine glTake (i := 2) (v := .pointer (some ⟨g138, 3, none⟩)) rfl kr_ (wn rfl) (fun _ _ _ h => h) hk152 (fun w_ h_ => iaRun (b := g138) (off := 2) (s := 1) (n := 2) (kk := .i64) (.tmp 67) (.const (.int .i64 1)) 1 Ty.und_2_int kr_ rfl (litEv kr_) (litEv kr_) rfl (by decide)) ?_
   refine glP rfl ?_
   refine glTake (i := 3) (v := .int .i64 a1) rfl kr_ (wn rfl) (fun _ _ _ h => h) hk152 (fun w_ h_ => gLoad (v := .int .i64 a1) (k := 3) 1 h_ rfl kr_ (.tmp 68) kr_ rfl (litEv kr_)) ?_
   refine glP rfl ?_
   refine glTake (i := 4) (v := .int .i64 (a1 + 1)) rfl kr_ (wn rfl) (fun _ _ _ h => h) hk152 (fun w_ h_ => addRun (A := a1) (B := 1) (C := a1 + 1) (.tmp 69) (.const (.int .i64 1)) rfl (litEv kr_) (litEv kr_) rfl (by omega)) ?_
   refine glP rfl ?_
   refine glTake (i := 5) (v := .pointer (some ⟨g138, 2, none⟩)) rfl kr_ (wn rfl) (fun _ _ _ h => h) hk152 (fun w_ h_ => iaRun (b := g138) (off := 0) (s := 2) (n := 3) (kk := .i64) (.tmp 12) (.tmp 66) 1 Ty.und_voxel_collide_extent kr_ rfl (litEv kr_) (litEv kr_) rfl (by decide)) ?_
   refine glP rfl ?_
   refine glTake (i := 6) (v := .pointer (some ⟨g138, 3, none⟩)) rfl kr_ (wn rfl) (fun _ _ _ h => h) hk152 (fun w_ h_ => iaRun (b := g138) (off := 2) (s := 1) (n := 2) (kk := .i64) (.tmp 71) (.const (.int .i64 1)) 1 Ty.und_2_int kr_ rfl (litEv kr_) (litEv kr_) rfl (by decide)) ?_
   refine glP rfl ?_
   refine glStore1 (v := .int .i64 (a1 + 1)) (k := 3) 8 kr_ hm150 rfl kr_ (i := 7) rfl kr_ (wn rfl) rfl (litEv kr_) (litEv kr_) rfl rfl rfl ?_
   intro w154 hm153
   clear hm150
   try simp only [lc_] at hm153
   refine glNone rfl ?_
   refine glDone kr_ ?_
   refine tn_ hK149 ?_
   refine wpIn_seq_k fun K155 hK155 => ?_
   refine wpIn_seq_k fun K156 hK156 => ?_
   refine mgStartR kr_ (fun _ _ h => h) hm153 kr_ ?_
   intro w158 hm157
   clear hm153
   refine mt_ 0 rfl (.func (.func 30) #[] #[.pointer (some ⟨g2, 0, none⟩), .pointer (some ⟨g12, 0, none⟩)]) hm157 (fun w_ h_ => ld_ 0 4 h_) ?_
   refine mt_ 1 rfl (.agg (bxs ⟨⟨p.x, a0, a1⟩, ⟨a1 + 1, p.z, p.z + 1⟩⟩).toArray) hm157 (fun w_ h_ => la_ 0 8 h_ Ty.ag_voxel_collide_extent) ?_
   refine mgCall (i := 2) 36 [.agg (bxs ⟨⟨p.x, a0, a1⟩, ⟨a1 + 1, p.z, p.z + 1⟩⟩).toArray] [] [] kr_ rfl kr_ (wn rfl) rfl (litEv kr_) (litArgs kr_) (cbox_any ⟨⟨p.x, a1, p.z⟩, ⟨a0, a1 + 1, p.z + 1⟩⟩ _) ?_
   rintro e w159 ⟨rfl, hbz⟩
   have hm160 := hm157.below hbz
   clear hbz hm157
   refine ⟨_, rfl, hm160, ?_⟩
   refine mP rfl ?_
   refine mgCall (i := 3) 30 [.agg (bxs (⟨⟨p.x, a1, p.z⟩, ⟨a0, a1 + 1, p.z + 1⟩⟩ : Bx)).toArray] [] [.pointer (some ⟨g2, 0, none⟩), .pointer (some ⟨g12, 0, none⟩)] kr_ rfl kr_ (wn rfl) rfl (litEv kr_) (litArgs kr_) (all_any (A := some ⟨bi_, oi_, none⟩) (M := ((.arr g5 36 ([.slice A3 l.length c3])) :: (.arr g41 79 ([.func (.func 30) #[] #[.pointer (some ⟨g2, 0, none⟩), .pointer (some ⟨g12, 0, none⟩)]])) :: (.row (.slice A3 l.length c3) 25 6 l.length (bxsC l)) :: (.arr g68 23 (pcs p)) :: (.arr g90 85 ([.int .i64 p.x, .int .i64 a0, .int .i64 p.y, .int .i64 a1, .int .i64 p.z, .int .i64 (p.z + 1)])) :: (.arr g138 85 ([.int .i64 p.x, .int .i64 a0, .int .i64 a1, .int .i64 (a1 + 1), .int .i64 p.z, .int .i64 (p.z + 1)])) :: N74)) g hv.1 c g2 g12 g9 g.cells.length g.cells.length o hvn_ hol_ (⟨⟨p.x, a1, p.z⟩, ⟨a0, a1 + 1, p.z + 1⟩⟩ : Bx) (by unfold Bx.rng Pt.rng; simp only; omega) hm160) ?_
   rintro e w161 ⟨rfl, hm162⟩
   clear hm160
   refine ⟨_, rfl, hm162, ?_⟩
   refine mP rfl ?_
   rcases bool_or (allB g o (⟨⟨p.x, a1, p.z⟩, ⟨a0, a1 + 1, p.z + 1⟩⟩ : Bx)) with h163 | h163
   ·rw [h163]
    refine mk_ (i := 4) (v := .bool true) rfl rfl (fun _ _ _ h => h) hm162 rfl ?_
    refine mgDone kr_ ?_
    refine tn_ hK156 ?_
    refine wpIn_cond_true (litEv kr_) ?_
    refine wpIn_exit ?_
    refine then_exit ?_
    refine inBlock_other (by decide) ?_
    refine then_exit ?_
    refine inBlock_exit ?_
    refine inBlock_normal ?_
    refine tn_ hK131 ?_
    refine plStartR kr_ (fun _ _ h => h) ?_
    refine lk (v := .int .i64 2) rfl rfl rfl ?_
    refine lk (v := .int .i64 2) rfl rfl rfl ?_
    refine plD ?_
    refine then_normal (roundsNextR ?_)
    have hm164 : Mem w w161 ((.arr g2 28 (gcs g (some ⟨bi_, oi_, none⟩) c)) :: (.arr g12 73 ([.slice (some ⟨g9, 0, none⟩) g.cells.length g.cells.length])) :: (.row (.slice (some ⟨g9, 0, none⟩) g.cells.length g.cells.length) 4 1 g.cells.length (blsC o)) :: (.arr g5 36 ([.slice A3 l.length c3])) :: (.arr g41 79 ([.func (.func 30) #[] #[.pointer (some ⟨g2, 0, none⟩), .pointer (some ⟨g12, 0, none⟩)]])) :: (.row (.slice A3 l.length c3) 25 6 l.length (bxsC l)) :: (.arr g68 23 (pcs p)) :: (.arr g90 85 ([.int .i64 p.x, .int .i64 a0, .int .i64 p.y, .int .i64 a1, .int .i64 p.z, .int .i64 (p.z + 1)])) :: N74) := (hm162.sub (.cons_cons _ (.cons_cons _ (.cons_cons _ (.cons_cons _ (.cons_cons _ (.cons_cons _ (.cons_cons _ (.cons_cons _ (.cons _ (List.Sublist.refl _)))))))))))
    clear hm162
    refine wpIn_seq_k fun K165 hK165 => ?_
    refine plStartR kr_ (fun _ _ h => h) ?_
    refine lk (v := .bool true) rfl rfl rfl ?_
    refine pt_ hK165 ?_
    refine wpIn_seq_k fun K166 hK166 => ?_
    refine wpIn_cond_true (litEv kr_) ?_
    refine wpIn_skip ?_
    refine tn_ hK166 ?_
    refine wpIn_seq_k fun K167 hK167 => ?_
    refine wpIn_block ?_
    refine wpIn_seq_k fun K168 hK168 => ?_
    refine plStartR kr_ (fun _ _ h => h) ?_
    refine lk (v := .int .i64 2) rfl rfl rfl ?_
    refine lk (v := .int .i64 2) rfl rfl rfl ?_
    refine pt_ hK168 ?_
    refine wpIn_block ?_
    refine gwLoopR (fun n_ a_ w_ => ∃ (a2 : Int), n_ = (s - a2).toNat ∧ (p.z + 1 ≤ a2 ∧ a2 ≤ s) ∧ (grB g o (⟨p, ⟨a0, a1, a2⟩⟩ : Bx)) ∧ Fr (ds := []) a_ 111 [(2, .pointer (some ⟨g2, 0, none⟩)), (4, .pointer (some ⟨g5, 0, none⟩)), (5, .pointer (some ⟨g12, 0, none⟩)), (8, .pointer (some ⟨g41, 0, none⟩)), (10, .pointer (some ⟨g90, 0, none⟩)), (11, .int .i64 2), (55, .int .i64 2), (56, .bool true), (57, .int .i64 2), (85, .int .i64 2)] ∧ Mem w w_ ((.arr g2 28 (gcs g (some ⟨bi_, oi_, none⟩) c)) :: (.arr g12 73 ([.slice (some ⟨g9, 0, none⟩) g.cells.length g.cells.length])) :: (.row (.slice (some ⟨g9, 0, none⟩) g.cells.length g.cells.length) 4 1 g.cells.length (blsC o)) :: (.arr g5 36 ([.slice A3 l.length c3])) :: (.arr g41 79 ([.func (.func 30) #[] #[.pointer (some ⟨g2, 0, none⟩), .pointer (some ⟨g12, 0, none⟩)]])) :: (.row (.slice A3 l.length c3) 25 6 l.length (bxsC l)) :: (.arr g68 23 (pcs p)) :: (.arr g90 85 ([.int .i64 p.x, .int .i64 a0, .int .i64 p.y, .int .i64 a1, .int .i64 p.z, .int .i64 a2])) :: N74)) ((s - (p.z + 1)).toNat) ⟨(p.z + 1), rfl, ⟨by omega, by omega⟩, hg1, ⟨litSize, rfl, fo_⟩, hm164⟩ ?_
    clear hm164
    intro n_ a171 w169 hI_
    obtain ⟨a2, rfl, ha2, hg2, hF_, hm170⟩ := hI_
    obtain ⟨X172, rfl⟩ := frLit hF_
    clear hF_
    refine wpIn_block ?_
    refine wpIn_seq_k fun K173 hK173 => ?_
    refine plStartR kr_ (fun _ _ h => h) ?_
    refine lv_ rfl (.agg (bxs ⟨⟨p.x, a0, p.y⟩, ⟨a1, p.z, a2⟩⟩).toArray) (la_ 0 7 hm170 Ty.ag_voxel_collide_extent) ?_
    refine plAlloc (z := [.int .i64 0, .int .i64 0, .int .i64 0, .int .i64 0, .int .i64 0, .int .i64 0]) Ty.ag_voxel_collide_extent hm170 (i := 1) rfl (wn rfl) rfl ?_
    intro g174 w176 hm175
    clear hm170
    try simp only [lc_] at hm175
    replace hm175 := hm175.i8
    refine qP rfl ?_
    refine plStore 8 Ty.ag_voxel_collide_extent hm175 rfl (i := 2) (cs := bxs ⟨⟨p.x, a0, p.y⟩, ⟨a1, p.z, a2⟩⟩) rfl (wn rfl) rfl (litEv kr_) (litEv kr_) rfl rfl kr_ ?_
    intro w178 hm177
    clear hm175
    try simp only [lc_] at hm177
    refine qNone rfl ?_
    refine pt_ hK173 ?_
    refine wpIn_seq_k fun K179 hK179 => ?_
    refine glStartR 7 ((.arr g90 85 ([.int .i64 p.x, .int .i64 a0, .int .i64 p.y, .int .i64 a1, .int .i64 p.z, .int .i64 a2])) :: (.arr g174 85 (bxs ⟨⟨p.x, a0, p.y⟩, ⟨a1, p.z, a2⟩⟩)) :: N74) kr_ (fun _ _ h => h) hm177 kr_ ?_
    intro w181 hm180
    clear hm177
    have hk182 := (hm180.sub (.cons _ (.cons _ (.cons _ (.cons _ (.cons _ (.cons _ (.cons _ (.cons_cons _ (.cons_cons _ (List.Sublist.refl _)))))))))))
    refine glk (i := 0) (v := .int .i64 2) rfl rfl (fun _ _ _ h => h) hk182 rfl ?_
    refine glk (i := 1) (v := .int .i64 2) rfl rfl (fun _ _ _ h => h) hk182 rfl ?_
    refine glTake (i := 2) (v := .pointer (some ⟨g90, 4, none⟩)) rfl kr_ (wn rfl) (fun _ _ _ h => h) hk182 (fun w_ h_ => iaRun (b := g90) (off := 0) (s := 2) (n := 3) (kk := .i64) (.tmp 10) (.tmp 60) 2 Ty.und_voxel_collide_extent kr_ rfl (litEv kr_) (litEv kr_) rfl (by decide)) ?_
    refine glP rfl ?_
    refine glTake (i := 3) (v := .pointer (some ⟨g90, 5, none⟩)) rfl kr_ (wn rfl) (fun _ _ _ h => h) hk182 (fun w_ h_ => iaRun (b := g90) (off := 4) (s := 1) (n := 2) (kk := .i64) (.tmp 61) (.const (.int .i64 1)) 1 Ty.und_2_int kr_ rfl (litEv kr_) (litEv kr_) rfl (by decide)) ?_
    refine glP rfl ?_
    refine glTake (i := 4) (v := .int .i64 a2) rfl kr_ (wn rfl) (fun _ _ _ h => h) hk182 (fun w_ h_ => gLoad (v := .int .i64 a2) (k := 5) 0 h_ rfl kr_ (.tmp 62) kr_ rfl (litEv kr_)) ?_
    refine glP rfl ?_
    refine glTake (i := 5) (v := .pointer (some ⟨g174, 4, none⟩)) rfl kr_ (wn rfl) (fun _ _ _ h => h) hk182 (fun w_ h_ => iaRun (b := g174) (off := 0) (s := 2) (n := 3) (kk := .i64) (.tmp 12) (.tmp 59) 2 Ty.und_voxel_collide_extent kr_ rfl (litEv kr_) (litEv kr_) rfl (by decide)) ?_
    refine glP rfl ?_
    refine glTake (i := 6) (v := .pointer (some ⟨g174, 4, none⟩)) rfl kr_ (wn rfl) (fun _ _ _ h => h) hk182 (fun w_ h_ => iaRun (b := g174) (off := 4) (s := 1) (n := 2) (kk := .i64) (.tmp 64) (.const (.int .i64 0)) 0 Ty.und_2_int kr_ rfl (litEv kr_) (litEv kr_) rfl (by decide)) ?_
    refine glP rfl ?_
    refine glStore1 (v := .int .i64 a2) (k := 4) 8 kr_ hm180 rfl kr_ (i := 7) rfl kr_ (wn rfl) rfl (litEv kr_) (litEv kr_) rfl rfl rfl ?_
    intro w184 hm183
    clear hm180
    try simp only [lc_] at hm183
    refine glNone rfl ?_
    refine glDone kr_ ?_
    refine tn_ hK179 ?_
    refine wpIn_seq_k fun K185 hK185 => ?_
    refine glStartR 7 ((.arr g90 85 ([.int .i64 p.x, .int .i64 a0, .int .i64 p.y, .int .i64 a1, .int .i64 p.z, .int .i64 a2])) :: (.arr g174 85 ([.int .i64 p.x, .int .i64 a0, .int .i64 p.y, .int .i64 a1, .int .i64 a2, .int .i64 a2])) :: N74) kr_ (fun _ _ h => h) hm183 kr_ ?_
    intro w187 hm186
    clear hm183
    have hk188 := (hm186.sub (.cons _ (.cons _ (.cons _ (.cons _ (.cons _ (.cons _ (.cons _ (.cons_cons _ (.cons_cons _ (List.Sublist.refl _)))))))))))
    refine glk (i := 0) (v := .int .i64 2) rfl rfl (fun _ _ _ h => h) hk188 rfl ?_
    refine glTake (i := 1) (v := .pointer (some ⟨g174, 4, none⟩)) rfl kr_ (wn rfl) (fun _ _ _ h => h) hk188 (fun w_ h_ => iaRun (b := g174) (off := 0) (s := 2) (n := 3) (kk := .i64) (.tmp 12) (.tmp 66) 2 Ty.und_voxel_collide_extent kr_ rfl (litEv kr_) (litEv kr_) rfl (by decide)) ?_
    refine glP rfl ?_
    refine glTake (i := 2) (v := .pointer (some ⟨g174, 5, none⟩)) rfl kr_ (wn rfl) (fun _ _ _ h => h) hk188 (fun w_ h_ => iaRun (b := g174) (off := 4) (s := 1) (n := 2) (kk := .i64) (.tmp 67) (.const (.int .i64 1)) 1 Ty.und_2_int kr_ rfl (litEv kr_) (litEv kr_) rfl (by decide)) ?_
    refine glP rfl ?_
    refine glTake (i := 3) (v := .int .i64 a2) rfl kr_ (wn rfl) (fun _ _ _ h => h) hk188 (fun w_ h_ => gLoad (v := .int .i64 a2) (k := 5) 1 h_ rfl kr_ (.tmp 68) kr_ rfl (litEv kr_)) ?_
    refine glP rfl ?_
    refine glTake (i := 4) (v := .int .i64 (a2 + 1)) rfl kr_ (wn rfl) (fun _ _ _ h => h) hk188 (fun w_ h_ => addRun (A := a2) (B := 1) (C := a2 + 1) (.tmp 69) (.const (.int .i64 1)) rfl (litEv kr_) (litEv kr_) rfl (by omega)) ?_
    refine glP rfl ?_
    refine glTake (i := 5) (v := .pointer (some ⟨g174, 4, none⟩)) rfl kr_ (wn rfl) (fun _ _ _ h => h) hk188 (fun w_ h_ => iaRun (b := g174) (off := 0) (s := 2) (n := 3) (kk := .i64) (.tmp 12) (.tmp 66) 2 Ty.und_voxel_collide_extent kr_ rfl (litEv kr_) (litEv kr_) rfl (by decide)) ?_
    refine glP rfl ?_
    refine glTake (i := 6) (v := .pointer (some ⟨g174, 5, none⟩)) rfl kr_ (wn rfl) (fun _ _ _ h => h) hk188 (fun w_ h_ => iaRun (b := g174) (off := 4) (s := 1) (n := 2) (kk := .i64) (.tmp 71) (.const (.int .i64 1)) 1 Ty.und_2_int kr_ rfl (litEv kr_) (litEv kr_) rfl (by decide)) ?_
    refine glP rfl ?_
    refine glStore1 (v := .int .i64 (a2 + 1)) (k := 5) 8 kr_ hm186 rfl kr_ (i := 7) rfl kr_ (wn rfl) rfl (litEv kr_) (litEv kr_) rfl rfl rfl ?_
    intro w190 hm189
    clear hm186
    try simp only [lc_] at hm189
    refine glNone rfl ?_
    refine glDone kr_ ?_
    refine tn_ hK185 ?_
    refine wpIn_seq_k fun K191 hK191 => ?_
    refine wpIn_seq_k fun K192 hK192 => ?_
    refine mgStartR kr_ (fun _ _ h => h) hm189 kr_ ?_
    intro w194 hm193
    clear hm189
    refine mt_ 0 rfl (.func (.func 30) #[] #[.pointer (some ⟨g2, 0, none⟩), .pointer (some ⟨g12, 0, none⟩)]) hm193 (fun w_ h_ => ld_ 0 4 h_) ?_
    refine mt_ 1 rfl (.agg (bxs ⟨⟨p.x, a0, p.y⟩, ⟨a1, a2, a2 + 1⟩⟩).toArray) hm193 (fun w_ h_ => la_ 0 8 h_ Ty.ag_voxel_collide_extent) ?_
    refine mgCall (i := 2) 36 [.agg (bxs ⟨⟨p.x, a0, p.y⟩, ⟨a1, a2, a2 + 1⟩⟩).toArray] [] [] kr_ rfl kr_ (wn rfl) rfl (litEv kr_) (litArgs kr_) (cbox_any ⟨⟨p.x, p.y, a2⟩, ⟨a0, a1, a2 + 1⟩⟩ _) ?_
    rintro e w195 ⟨rfl, hbz⟩
    have hm196 := hm193.below hbz
    clear hbz hm193
    refine ⟨_, rfl, hm196, ?_⟩
    refine mP rfl ?_
    refine mgCall (i := 3) 30 [.agg (bxs (⟨⟨p.x, p.y, a2⟩, ⟨a0, a1, a2 + 1⟩⟩ : Bx)).toArray] [] [.pointer (some ⟨g2, 0, none⟩), .pointer (some ⟨g12, 0, none⟩)] kr_ rfl kr_ (wn rfl) rfl (litEv kr_) (litArgs kr_) (all_any (A := some ⟨bi_, oi_, none⟩) (M := ((.arr g5 36 ([.slice A3 l.length c3])) :: (.arr g41 79 ([.func (.func 30) #[] #[.pointer (some ⟨g2, 0, none⟩), .pointer (some ⟨g12, 0, none⟩)]])) :: (.row (.slice A3 l.length c3) 25 6 l.length (bxsC l)) :: (.arr g68 23 (pcs p)) :: (.arr g90 85 ([.int .i64 p.x, .int .i64 a0, .int .i64 p.y, .int .i64 a1, .int .i64 p.z, .int .i64 a2])) :: (.arr g174 85 ([.int .i64 p.x, .int .i64 a0, .int .i64 p.y, .int .i64 a1, .int .i64 a2, .int .i64 (a2 + 1)])) :: N74)) g hv.1 c g2 g12 g9 g.cells.length g.cells.length o hvn_ hol_ (⟨⟨p.x, p.y, a2⟩, ⟨a0, a1, a2 + 1⟩⟩ : Bx) (by unfold Bx.rng Pt.rng; simp only; omega) hm196) ?_
    rintro e w197 ⟨rfl, hm198⟩
    clear hm196
    refine ⟨_, rfl, hm198, ?_⟩
    refine mP rfl ?_
    rcases bool_or (allB g o (⟨⟨p.x, p.y, a2⟩, ⟨a0, a1, a2 + 1⟩⟩ : Bx)) with h199 | h199
    ·rw [h199]
     refine mk_ (i := 4) (v := .bool true) rfl rfl (fun _ _ _ h => h) hm198 rfl ?_
     refine mgDone kr_ ?_
     refine tn_ hK192 ?_
     refine wpIn_cond_true (litEv kr_) ?_
     refine wpIn_exit ?_
     refine then_exit ?_
     refine inBlock_other (by decide) ?_
     refine then_exit ?_
     refine inBlock_exit ?_
     refine inBlock_normal ?_
     refine tn_ hK167 ?_
     refine plStartR kr_ (fun _ _ h => h) ?_
     refine lk (v := .int .i64 3) rfl rfl rfl ?_
     refine lk (v := .int .i64 3) rfl rfl rfl ?_
     refine plD ?_
     refine then_normal (roundsNextR ?_)
     have hm200 : Mem w w197 ((.arr g2 28 (gcs g (some ⟨bi_, oi_, none⟩) c)) :: (.arr g12 73 ([.slice (some ⟨g9, 0, none⟩) g.cells.length g.cells.length])) :: (.row (.slice (some ⟨g9, 0, none⟩) g.cells.length g.cells.length) 4 1 g.cells.length (blsC o)) :: (.arr g5 36 ([.slice A3 l.length c3])) :: (.arr g41 79 ([.func (.func 30) #[] #[.pointer (some ⟨g2, 0, none⟩), .pointer (some ⟨g12, 0, none⟩)]])) :: (.row (.slice A3 l.length c3) 25 6 l.length (bxsC l)) :: (.arr g68 23 (pcs p)) :: (.arr g90 85 ([.int .i64 p.x, .int .i64 a0, .int .i64 p.y, .int .i64 a1, .int .i64 p.z, .int .i64 a2])) :: N74) := (hm198.sub (.cons_cons _ (.cons_cons _ (.cons_cons _ (.cons_cons _ (.cons_cons _ (.cons_cons _ (.cons_cons _ (.cons_cons _ (.cons _ (List.Sublist.refl _)))))))))))
     clear hm198
     refine wpIn_seq_k fun K201 hK201 => ?_
     refine plStartR kr_ (fun _ _ h => h) ?_
     refine lk (v := .bool false) rfl rfl rfl ?_
     refine pt_ hK201 ?_
     refine wpIn_seq_k fun K202 hK202 => ?_
     refine wpIn_cond_false (litEv kr_) ?_
     refine wpIn_exit ?_
     refine then_exit ?_
     refine then_exit ?_
     refine inBlock_exit ?_
     refine tn_ hK91 ?_
     refine wpPruneR [(2, .pointer (some ⟨g2, 0, none⟩)), (4, .pointer (some ⟨g5, 0, none⟩)), (5, .pointer (some ⟨g12, 0, none⟩)), (10, .pointer (some ⟨g90, 0, none⟩))] fo_ (fun X203 => ?_)
     refine wpIn_seq_k fun K204 hK204 => ?_
     refine plStartR kr_ (fun _ _ h => h) ?_
     refine lv_ rfl (.agg (bxs ⟨⟨p.x, a0, p.y⟩, ⟨a1, p.z, a2⟩⟩).toArray) (la_ 0 7 hm200 Ty.ag_voxel_collide_extent) ?_
     obtain ⟨b, hbe_⟩ : ∃ b : Bx, b = ⟨p, ⟨a0, a1, a2⟩⟩ := ⟨_, rfl⟩
     have hcbx_ : ∀ w, Calls Tryz.prog 36 #[.agg ([.int .i64 p.x, .int .i64 a0, .int .i64 p.y, .int .i64 a1, .int .i64 p.z, .int .i64 a2]).toArray] w (RetV w (.agg (bxs b).toArray)) := fun w => by subst hbe_; exact cbox_any ⟨p, ⟨a0, a1, a2⟩⟩ w
     have hbg_ : grB g o b := by subst hbe_; assumption
     have hbr_ : b.rng := by subst hbe_; unfold Bx.rng Pt.rng; simp only; omega
     have hbp_ : b.has p := by subst hbe_; unfold Bx.has; simp only; omega
     have hbin_ : ∀ q, b.has q → g.box.has q := fun q hq => opn_has (hbg_ q hq)
     have hbv_ := (vol_bd hbr_).2
     clear hbe_
     refine plCall (i := 1) 36 [.agg (bxs ⟨⟨p.x, a0, p.y⟩, ⟨a1, p.z, a2⟩⟩).toArray] [] [] rfl kr_ (wn rfl) rfl (litEv kr_) (litArgs kr_) ((hcbx_ _)) ?_
     rintro e w205 ⟨rfl, hbz⟩
     have hm206 := hm200.below hbz
     clear hbz hm200
     refine ⟨_, rfl, ?_⟩
     refine qP rfl ?_
     refine plAlloc (z := [.int .i64 0, .int .i64 0, .int .i64 0, .int .i64 0, .int .i64 0, .int .i64 0]) Ty.ag_voxel_api_Box hm206 (i := 2) rfl (wn rfl) rfl ?_
     intro g207 w209 hm208
     clear hm206
     try simp only [lc_] at hm208
     replace hm208 := hm208.i8
     refine qP rfl ?_
     refine plStore 8 Ty.ag_voxel_api_Box hm208 rfl (i := 3) (cs := bxs b) rfl (wn rfl) rfl (litEv kr_) (litEv kr_) rfl rfl kr_ ?_
     intro w211 hm210
     clear hm208
     try simp only [lc_] at hm210
     refine qNone rfl ?_
     refine pt_ hK204 ?_
     refine wpIn_seq_k fun K212 hK212 => ?_
     refine wpIn_seq_k fun K213 hK213 => ?_
     refine plStartR kr_ (fun _ _ h => h) ?_
     refine lv_ rfl (.agg (bxs b).toArray) (la_ 0 8 hm210 Ty.ag_voxel_api_Box) ?_
     refine plCall (i := 1) 31 [.agg (bxs b).toArray] [] [] rfl kr_ (wn rfl) rfl (litEv kr_) (litArgs kr_) (pvol_any b hbr_ _) ?_
     rintro e w214 ⟨rfl, hbz⟩
     have hm215 := hm210.below hbz
     clear hbz hm210
     refine ⟨_, rfl, ?_⟩
     refine qP rfl ?_
     refine lk (v := .int .i64 0) rfl rfl rfl ?_
     refine pt_ hK213 ?_
     refine wpIn_block ?_
     refine gwLoopR (fun n_ a_ w_ => ∃ (j : Nat), n_ = b.vol.toNat - j ∧ (j ≤ b.vol.toNat) ∧ Fr (ds := []) a_ 111 [(2, .pointer (some ⟨g2, 0, none⟩)), (4, .pointer (some ⟨g5, 0, none⟩)), (5, .pointer (some ⟨g12, 0, none⟩)), (13, .pointer (some ⟨g207, 0, none⟩)), (89, .int .i64 b.vol), (90, .int .i64 (j : Int))] ∧ Mem w w_ ((.arr g2 28 (gcs g (some ⟨bi_, oi_, none⟩) c)) :: (.arr g12 73 ([.slice (some ⟨g9, 0, none⟩) g.cells.length g.cells.length])) :: (.row (.slice (some ⟨g9, 0, none⟩) g.cells.length g.cells.length) 4 1 g.cells.length (blsC (clrN g b o j))) :: (.arr g5 36 ([.slice A3 l.length c3])) :: (.arr g41 79 ([.func (.func 30) #[] #[.pointer (some ⟨g2, 0, none⟩), .pointer (some ⟨g12, 0, none⟩)]])) :: (.row (.slice A3 l.length c3) 25 6 l.length (bxsC l)) :: (.arr g68 23 (pcs p)) :: (.arr g90 85 ([.int .i64 p.x, .int .i64 a0, .int .i64 p.y, .int .i64 a1, .int .i64 p.z, .int .i64 a2])) :: (.arr g207 25 (bxs b)) :: N74)) (b.vol.toNat - 0) ⟨0, rfl, (Nat.zero_le _), ⟨litSize, rfl, fo_⟩, hm215⟩ ?_
     clear hm215
     intro n_ a218 w216 hI_
     obtain ⟨j, rfl, hj, hF_, hm217⟩ := hI_
     obtain ⟨X219, rfl⟩ := frLit hF_
     clear hF_
     refine wpIn_seq_k fun K220 hK220 => ?_
     refine plStartR kr_ (fun _ _ h => h) ?_
     by_cases h221 : (j : Int) < b.vol
     ·have hj2_ : j < b.vol.toNat := by omega
      have hch_ := cell_has hbr_ (i := (j : Int)) (by omega) (by omega)
      have hih_ := hbin_ _ hch_
      have hii_ := idx_in hv.1 hih_
      have hcb_ : (-1073741824 ≤ (b.cell (j : Int)).x ∧ (b.cell (j : Int)).x ≤ 1073741824) ∧ (-1073741824 ≤ (b.cell (j : Int)).y ∧ (b.cell (j : Int)).y ≤ 1073741824) ∧ (-1073741824 ≤ (b.cell (j : Int)).z ∧ (b.cell (j : Int)).z ≤ 1073741824) := by
       have h1_ := hbr_
       unfold Bx.rng Pt.rng at h1_
       unfold Bx.has at hch_
       omega
      refine lv_ rfl _ (lsT_ h221) ?_
      refine pt_ hK220 ?_
      refine wpIn_seq_k fun K222 hK222 => ?_
      refine wpIn_cond_true (litEv kr_) ?_
      refine wpIn_skip ?_
      refine tn_ hK222 ?_
      refine wpIn_seq_k fun K223 hK223 => ?_
      refine wpIn_block ?_
      refine wpIn_seq_k fun K224 hK224 => ?_
      refine plStartR kr_ (fun _ _ h => h) ?_
      refine lk (v := .int .i64 (j : Int)) rfl rfl rfl ?_
      refine lk (v := .int .i64 (j : Int)) rfl rfl rfl ?_
      refine pt_ hK224 ?_
      refine wpIn_seq_k fun K225 hK225 => ?_
      refine plStartR kr_ (fun _ _ h => h) ?_
      refine lv_ rfl (.agg (bxs b).toArray) (la_ 0 8 hm217 Ty.ag_voxel_api_Box) ?_
      refine lk (v := .int .i64 (j : Int)) rfl rfl rfl ?_
      refine plCall (i := 2) 32 [.agg (bxs b).toArray, .int .i64 (j : Int)] [] [] rfl kr_ (wn rfl) rfl (litEv kr_) (litArgs kr_) (at_any b (j : Int) hbr_ ⟨by omega, by omega⟩ _) ?_
      rintro e w226 ⟨rfl, hbz⟩
      have hm227 := hm217.below hbz
      clear hbz hm217
      refine ⟨_, rfl, ?_⟩
      refine qP rfl ?_
      refine lk (v := .tuple #[.agg (pcs (b.cell (j : Int))).toArray, .bool true]) rfl rfl rfl ?_
      refine lk (v := .agg (pcs (b.cell (j : Int))).toArray) rfl rfl rfl ?_
      refine lk (v := .bool true) rfl rfl rfl ?_
      refine plAlloc (z := [.int .i64 0, .int .i64 0, .int .i64 0]) Ty.ag_voxel_api_Point hm227 (i := 6) rfl (wn rfl) rfl ?_
      intro g228 w230 hm229
      clear hm227
      try simp only [lc_] at hm229
      replace hm229 := hm229.i9
      refine qP rfl ?_
      refine plStore 9 Ty.ag_voxel_api_Point hm229 rfl (i := 7) (cs := pcs (b.cell (j : Int))) rfl (wn rfl) rfl (litEv kr_) (litEv kr_) rfl rfl kr_ ?_
      intro w232 hm231
      clear hm229
      try simp only [lc_] at hm231
      refine qNone rfl ?_
      refine lk (v := .bool true) rfl rfl rfl ?_
      refine pt_ hK225 ?_
      refine glStartR 6 ((.arr g2 28 (gcs g (some ⟨bi_, oi_, none⟩) c)) :: (.arr g12 73 ([.slice (some ⟨g9, 0, none⟩) g.cells.length g.cells.length])) :: (.arr g5 36 ([.slice A3 l.length c3])) :: (.arr g41 79 ([.func (.func 30) #[] #[.pointer (some ⟨g2, 0, none⟩), .pointer (some ⟨g12, 0, none⟩)]])) :: (.row (.slice A3 l.length c3) 25 6 l.length (bxsC l)) :: (.arr g68 23 (pcs p)) :: (.arr g90 85 ([.int .i64 p.x, .int .i64 a0, .int .i64 p.y, .int .i64 a1, .int .i64 p.z, .int .i64 a2])) :: (.arr g207 25 (bxs b)) :: (.arr g228 23 (pcs (b.cell (j : Int)))) :: N74) kr_ (fun _ _ h => h) hm231 kr_ ?_
      intro w234 hm233
      clear hm231
      have hk235 := (hm233.sub (.cons_cons _ (.cons_cons _ (.cons _ (.cons_cons _ (.cons_cons _ (.cons_cons _ (.cons_cons _ (.cons_cons _ (.cons_cons _ (.cons_cons _ (List.Sublist.refl _))))))))))))
      refine glTake (i := 0) (v := .slice (some ⟨g9, 0, none⟩) g.cells.length g.cells.length) rfl kr_ (wn rfl) (fun _ _ _ h => h) hk235 (fun w_ h_ => gLoad (v := .slice (some ⟨g9, 0, none⟩) g.cells.length g.cells.length) (k := 0) 1 h_ rfl kr_ (.tmp 5) kr_ rfl (litEv kr_)) ?_
      refine glP rfl ?_
      refine glk (i := 1) (v := .pointer (some ⟨g2, 0, none⟩)) rfl rfl (fun _ _ _ h => h) hk235 rfl ?_
      refine glTake (i := 2) (v := .agg (bxs ⟨g.box.mn, g.box.mx⟩).toArray) rfl kr_ (wn rfl) (fun _ _ _ h => h) hk235 (fun w_ h_ => gLoadAg (vs := bxs ⟨g.box.mn, g.box.mx⟩) (k := 0) 0 h_ rfl kr_ kr_ (.tmp 100) Ty.ag_voxel_api_Box rfl (litEv kr_)) ?_
      refine glP rfl ?_
      refine glTake (i := 3) (v := .agg (pcs (b.cell (j : Int))).toArray) rfl kr_ (wn rfl) (fun _ _ _ h => h) hk235 (fun w_ h_ => gLoadAg (vs := pcs (b.cell (j : Int))) (k := 0) 8 h_ rfl kr_ kr_ (.tmp 15) Ty.ag_voxel_api_Point rfl (litEv kr_)) ?_
      refine glP rfl ?_
      refine glCall (i := 4) 33 [.agg (bxs ⟨g.box.mn, g.box.mx⟩).toArray, .agg (pcs (b.cell (j : Int))).toArray] [] [] kr_ rfl kr_ (wn rfl) rfl (litEv kr_) (litArgs kr_) (pidx_any g.box (b.cell (j : Int)) hv.1 hcb_ _) ?_
      rintro e w236 ⟨rfl, hbz⟩
      have hm237 := hm233.below hbz
      clear hbz hm233
      have hk238 := (hm237.sub (.cons_cons _ (.cons_cons _ (.cons _ (.cons_cons _ (.cons_cons _ (.cons_cons _ (.cons_cons _ (.cons_cons _ (.cons_cons _ (.cons_cons _ (List.Sublist.refl _))))))))))))
      refine ⟨_, rfl, hk238, ?_⟩
      refine glP rfl ?_
      refine glTake (i := 5) (v := .pointer (some ⟨g9, 0 + ((g.box.idx (b.cell (j : Int))).toNat) * 1, none⟩)) rfl kr_ (wn rfl) (fun _ _ _ h => h) hk238 (fun w_ h_ => gIaSl (b := g9) (off := 0) (n := g.cells.length) (c := g.cells.length) (kk := .i64) (K := (g.box.idx (b.cell (j : Int)))) (.tmp 99) (.tmp 103) ((g.box.idx (b.cell (j : Int))).toNat) Ty.sl_L_bool rfl (litEv kr_) (litEv kr_) ((by omega)) ((show (g.box.idx (b.cell (j : Int))).toNat < g.cells.length by omega))) ?_
      refine glP rfl ?_
      refine glStoreRow (v := .bool false) (v0 := .bool ((clrN g b o j).getD ((g.box.idx (b.cell (j : Int))).toNat) false)) (k := 0 + ((g.box.idx (b.cell (j : Int))).toNat) * 1) (xs := blsC (clrN g b o j)) 2 kr_ hm237 rfl kr_ (i := 6) rfl kr_ (wn rfl) rfl (litEv kr_) (litEv kr_) (blsZ (getD_of false (by rw [clr_len]; omega))) (by omega) rfl rfl ?_
      intro w239 hm240
      clear hm237
      try simp only [lc_] at hm240
      replace hm240 := Mem.rowEq (v := .slice (some ⟨g9, 0, none⟩) g.cells.length g.cells.length) (e := 4) (size := 1) (n := g.cells.length) (n' := g.cells.length) (xs := (blsC (clrN g b o j)).set (0 + ((g.box.idx (b.cell (j : Int))).toNat) * 1) (.bool false)) (xs' := blsC (clrN g b o (j + 1))) 2 hm240 rfl rfl (blsZs rfl)
      try simp only [lc_] at hm240
      refine glNone rfl ?_
      refine glDone kr_ ?_
      refine inBlock_normal ?_
      refine tn_ hK223 ?_
      refine plStartR kr_ (fun _ _ h => h) ?_
      refine lv_ rfl _ (ad_ (j : Int) 1) ?_
      refine lk (v := .int .i64 ((j : Int) + 1)) rfl rfl rfl ?_
      refine plD ?_
      refine then_normal ?_
      exact ⟨_, by omega, (j + 1), rfl, (by omega), ⟨litSize, rfl, fo_⟩, (hm240.sub (.cons_cons _ (.cons_cons _ (.cons_cons _ (.cons_cons _ (.cons_cons _ (.cons_cons _ (.cons_cons _ (.cons_cons _ (.cons_cons _ (.cons _ (List.Sublist.refl _))))))))))))⟩
     have hje_ : j = b.vol.toNat := by omega
     refine lv_ rfl _ (lsF_ h221) ?_
     refine pt_ hK220 ?_
     refine wpIn_seq_k fun K241 hK241 => ?_
     refine wpIn_cond_false (litEv kr_) ?_
     refine wpIn_exit ?_
     refine then_exit ?_
     refine then_exit ?_
     refine inBlock_exit ?_
     refine tn_ hK212 ?_
     refine plStartR kr_ (fun _ _ h => h) ?_
     refine lv_ rfl (.slice A3 l.length c3) (ld_ 0 3 hm217) ?_
     refine lv_ rfl (.agg (bxs b).toArray) (la_ 0 8 hm217 Ty.ag_voxel_api_Box) ?_
     refine plLit (cs := [.int .i64 b.mn.x, .int .i64 b.mn.y, .int .i64 b.mn.z, .int .i64 b.mx.x, .int .i64 b.mx.y, .int .i64 b.mx.z]) (n := 1) Ty.sl_L_api_Box hm217 (i := 2) rfl (wn rfl) rfl (by decide) (by decide) (by rw [lit_eval]; kernel_rfl) ?_
     intro g242 w244 hm243
     clear hm217
     try simp only [lc_] at hm243
     replace hm243 := hm243.i9
     refine qP rfl ?_
     refine plApp1 (v := .slice A3 l.length c3) (n := l.length) (xs := bxsC l) (ys := [.int .i64 b.mn.x, .int .i64 b.mn.y, .int .i64 b.mn.z, .int .i64 b.mx.x, .int .i64 b.mx.y, .int .i64 b.mx.z]) 5 9 Ty.sl_L_api_Box hm243 rfl rfl (i := 3) rfl (wn rfl) rfl (litEv kr_) (litEv kr_) kr_ kr_ (by omega) (by omega) ?_
     intro v249 w246 hm245
     clear hm243
     try simp only [lc_] at hm245
     replace hm245 := Mem.rowEq (v := v249) (e := 25) (size := 6) (n := l.length + 1) (n' := (l ++ [b]).length) (xs := (bxsC l) ++ ([.int .i64 b.mn.x, .int .i64 b.mn.y, .int .i64 b.mn.z, .int .i64 b.mx.x, .int .i64 b.mx.y, .int .i64 b.mx.z])) (xs' := bxsC (l ++ [b])) 5 hm245 rfl (by simp) (by rw [bxsC_app]; rfl)
     try simp only [lc_] at hm245
     obtain ⟨A247, c248, rfl⟩ := Mem.rowSl (v := v249) (e := 25) (size := 6) (n := (l ++ [b]).length) (xs := bxsC (l ++ [b])) 5 hm245 rfl
     refine qP rfl ?_
     refine plStore1 (v := .slice A247 ((l ++ [b]).length) c248) (k := 0) 3 kr_ hm245 rfl (i := 4) rfl (wn rfl) rfl (litEv kr_) (litEv kr_) rfl rfl rfl ?_
     intro w251 hm250
     clear hm245
     try simp only [lc_] at hm250
     refine qNone rfl ?_
     refine plD ?_
     refine inBlock_normal ?_
     exact ⟨_, ⟨(l ++ [b]), (clrN g b o j), A247, c248, (by rw [hje_]; exact hBI.step hv hil_ hbr_ hbg_ (by rw [← hpe_]; exact hbp_)), rfl⟩, (hm250.sub (.cons_cons _ (.cons_cons _ (.cons_cons _ (.cons_cons _ (.cons_cons _ (.cons_cons _ (.cons _ (.cons _ (.cons _ (.cons _ (List.Sublist.refl _))))))))))))⟩
    rw [h199]
    refine mk_ (i := 4) (v := .bool false) rfl rfl (fun _ _ _ h => h) hm198 rfl ?_
    refine mgDone kr_ ?_
    refine tn_ hK192 ?_
    refine wpIn_cond_false (litEv kr_) ?_
    refine wpIn_skip ?_
    refine tn_ hK191 ?_
    refine glStartR 7 ((.arr g90 85 ([.int .i64 p.x, .int .i64 a0, .int .i64 p.y, .int .i64 a1, .int .i64 p.z, .int .i64 a2])) :: (.arr g174 85 ([.int .i64 p.x, .int .i64 a0, .int .i64 p.y, .int .i64 a1, .int .i64 a2, .int .i64 (a2 + 1)])) :: N74) kr_ (fun _ _ h => h) hm198 kr_ ?_
    intro w253 hm252
    clear hm198
    have hk254 := (hm252.sub (.cons _ (.cons _ (.cons _ (.cons _ (.cons _ (.cons _ (.cons _ (.cons_cons _ (.cons_cons _ (List.Sublist.refl _)))))))))))
    refine glk (i := 0) (v := .int .i64 2) rfl rfl (fun _ _ _ h => h) hk254 rfl ?_
    refine glTake (i := 1) (v := .pointer (some ⟨g90, 4, none⟩)) rfl kr_ (wn rfl) (fun _ _ _ h => h) hk254 (fun w_ h_ => iaRun (b := g90) (off := 0) (s := 2) (n := 3) (kk := .i64) (.tmp 10) (.tmp 78) 2 Ty.und_voxel_collide_extent kr_ rfl (litEv kr_) (litEv kr_) rfl (by decide)) ?_
    refine glP rfl ?_
    refine glTake (i := 2) (v := .pointer (some ⟨g90, 5, none⟩)) rfl kr_ (wn rfl) (fun _ _ _ h => h) hk254 (fun w_ h_ => iaRun (b := g90) (off := 4) (s := 1) (n := 2) (kk := .i64) (.tmp 79) (.const (.int .i64 1)) 1 Ty.und_2_int kr_ rfl (litEv kr_) (litEv kr_) rfl (by decide)) ?_
    refine glP rfl ?_
    refine glTake (i := 3) (v := .int .i64 a2) rfl kr_ (wn rfl) (fun _ _ _ h => h) hk254 (fun w_ h_ => gLoad (v := .int .i64 a2) (k := 5) 0 h_ rfl kr_ (.tmp 80) kr_ rfl (litEv kr_)) ?_
    refine glP rfl ?_
    refine glTake (i := 4) (v := .int .i64 (a2 + 1)) rfl kr_ (wn rfl) (fun _ _ _ h => h) hk254 (fun w_ h_ => addRun (A := a2) (B := 1) (C := a2 + 1) (.tmp 81) (.const (.int .i64 1)) rfl (litEv kr_) (litEv kr_) rfl (by omega)) ?_
    refine glP rfl ?_
    refine glTake (i := 5) (v := .pointer (some ⟨g90, 4, none⟩)) rfl kr_ (wn rfl) (fun _ _ _ h => h) hk254 (fun w_ h_ => iaRun (b := g90) (off := 0) (s := 2) (n := 3) (kk := .i64) (.tmp 10) (.tmp 78) 2 Ty.und_voxel_collide_extent kr_ rfl (litEv kr_) (litEv kr_) rfl (by decide)) ?_
    refine glP rfl ?_
    refine glTake (i := 6) (v := .pointer (some ⟨g90, 5, none⟩)) rfl kr_ (wn rfl) (fun _ _ _ h => h) hk254 (fun w_ h_ => iaRun (b := g90) (off := 4) (s := 1) (n := 2) (kk := .i64) (.tmp 83) (.const (.int .i64 1)) 1 Ty.und_2_int kr_ rfl (litEv kr_) (litEv kr_) rfl (by decide)) ?_
    refine glP rfl ?_
    refine glStore1 (v := .int .i64 (a2 + 1)) (k := 5) 7 kr_ hm252 rfl kr_ (i := 7) rfl kr_ (wn rfl) rfl (litEv kr_) (litEv kr_) rfl rfl rfl ?_
    intro w256 hm255
    clear hm252
    try simp only [lc_] at hm255
    refine glNone rfl ?_
    refine glDone kr_ ?_
    refine inBlock_normal ?_
    refine then_normal ?_
    have hsl_ : grB g o (⟨⟨p.x, p.y, a2⟩, ⟨a0, a1, a2 + 1⟩⟩ : Bx) := (allB_iff (by unfold Bx.rng Pt.rng; simp only; omega)).1 h199
    have hlt_ := grB_lt hbs hsl_ (by unfold Bx.none; simp only; omega)
    simp only at hlt_
    exact ⟨_, by omega, (a2 + 1), rfl, ⟨by omega, by omega⟩, (grB_z (p := p) (m := ⟨a0, a1, a2⟩) hg2 hsl_), ⟨litSize, rfl, fo_⟩, (hm255.sub (.cons_cons _ (.cons_cons _ (.cons_cons _ (.cons_cons _ (.cons_cons _ (.cons_cons _ (.cons_cons _ (.cons_cons _ (.cons _ (List.Sublist.refl _)))))))))))⟩
   rw [h163]
   refine mk_ (i := 4) (v := .bool false) rfl rfl (fun _ _ _ h => h) hm162 rfl ?_
   refine mgDone kr_ ?_
   refine tn_ hK156 ?_
   refine wpIn_cond_false (litEv kr_) ?_
   refine wpIn_skip ?_
   refine tn_ hK155 ?_
   refine glStartR 7 ((.arr g90 85 ([.int .i64 p.x, .int .i64 a0, .int .i64 p.y, .int .i64 a1, .int .i64 p.z, .int .i64 (p.z + 1)])) :: (.arr g138 85 ([.int .i64 p.x, .int .i64 a0, .int .i64 a1, .int .i64 (a1 + 1), .int .i64 p.z, .int .i64 (p.z + 1)])) :: N74) kr_ (fun _ _ h => h) hm162 kr_ ?_
   intro w258 hm257
   clear hm162
   have hk259 := (hm257.sub (.cons _ (.cons _ (.cons _ (.cons _ (.cons _ (.cons _ (.cons _ (.cons_cons _ (.cons_cons _ (List.Sublist.refl _)))))))))))
   refine glk (i := 0) (v := .int .i64 1) rfl rfl (fun _ _ _ h => h) hk259 rfl ?_
   refine glTake (i := 1) (v := .pointer (some ⟨g90, 2, none⟩)) rfl kr_ (wn rfl) (fun _ _ _ h => h) hk259 (fun w_ h_ => iaRun (b := g90) (off := 0) (s := 2) (n := 3) (kk := .i64) (.tmp 10) (.tmp 78) 1 Ty.und_voxel_collide_extent kr_ rfl (litEv kr_) (litEv kr_) rfl (by decide)) ?_
   refine glP rfl ?_
   refine glTake (i := 2) (v := .pointer (some ⟨g90, 3, none⟩)) rfl kr_ (wn rfl) (fun _ _ _ h => h) hk259 (fun w_ h_ => iaRun (b := g90) (off := 2) (s := 1) (n := 2) (kk := .i64) (.tmp 79) (.const (.int .i64 1)) 1 Ty.und_2_int kr_ rfl (litEv kr_) (litEv kr_) rfl (by decide)) ?_
   refine glP rfl ?_
   refine glTake (i := 3) (v := .int .i64 a1) rfl kr_ (wn rfl) (fun _ _ _ h => h) hk259 (fun w_ h_ => gLoad (v := .int .i64 a1) (k := 3) 0 h_ rfl kr_ (.tmp 80) kr_ rfl (litEv kr_)) ?_
   refine glP rfl ?_
   refine glTake (i := 4) (v := .int .i64 (a1 + 1)) rfl kr_ (wn rfl) (fun _ _ _ h => h) hk259 (fun w_ h_ => addRun (A := a1) (B := 1) (C := a1 + 1) (.tmp 81) (.const (.int .i64 1)) rfl (litEv kr_) (litEv kr_) rfl (by omega)) ?_
   refine glP rfl ?_
   refine glTake (i := 5) (v := .pointer (some ⟨g90, 2, none⟩)) rfl kr_ (wn rfl) (fun _ _ _ h => h) hk259 (fun w_ h_ => iaRun (b := g90) (off := 0) (s := 2) (n := 3) (kk := .i64) (.tmp 10) (.tmp 78) 1 Ty.und_voxel_collide_extent kr_ rfl (litEv kr_) (litEv kr_) rfl (by decide)) ?_
   refine glP rfl ?_
   refine glTake (i := 6) (v := .pointer (some ⟨g90, 3, none⟩)) rfl kr_ (wn rfl) (fun _ _ _ h => h) hk259 (fun w_ h_ => iaRun (b := g90) (off := 2) (s := 1) (n := 2) (kk := .i64) (.tmp 83) (.const (.int .i64 1)) 1 Ty.und_2_int kr_ rfl (litEv kr_) (litEv kr_) rfl (by decide)) ?_
   refine glP rfl ?_
   refine glStore1 (v := .int .i64 (a1 + 1)) (k := 3) 7 kr_ hm257 rfl kr_ (i := 7) rfl kr_ (wn rfl) rfl (litEv kr_) (litEv kr_) rfl rfl rfl ?_
   intro w261 hm260
   clear hm257
   try simp only [lc_] at hm260
   refine glNone rfl ?_
   refine glDone kr_ ?_
   refine inBlock_normal ?_
   refine then_normal ?_
   have hsl_ : grB g o (⟨⟨p.x, a1, p.z⟩, ⟨a0, a1 + 1, p.z + 1⟩⟩ : Bx) := (allB_iff (by unfold Bx.rng Pt.rng; simp only; omega)).1 h163
   have hlt_ := grB_lt hbs hsl_ (by unfold Bx.none; simp only; omega)
   simp only at hlt_
   exact ⟨_, by omega, (a1 + 1), rfl, ⟨by omega, by omega⟩, (grB_y (p := p) (m := ⟨a0, a1, p.z + 1⟩) hg1 hsl_), ⟨litSize, rfl, fo_⟩, (hm260.sub (.cons_cons _ (.cons_cons _ (.cons_cons _ (.cons_cons _ (.cons_cons _ (.cons_cons _ (.cons_cons _ (.cons_cons _ (.cons _ (List.Sublist.refl _)))))))))))⟩
  rw [h127]
  refine mk_ (i := 4) (v := .bool false) rfl rfl (fun _ _ _ h => h) hm126 rfl ?_
  refine mgDone kr_ ?_
  refine tn_ hK120 ?_
  refine wpIn_cond_false (litEv kr_) ?_
  refine wpIn_skip ?_
  refine tn_ hK119 ?_
  refine glStartR 7 ((.arr g90 85 ([.int .i64 p.x, .int .i64 a0, .int .i64 p.y, .int .i64 (p.y + 1), .int .i64 p.z, .int .i64 (p.z + 1)])) :: (.arr g102 85 ([.int .i64 a0, .int .i64 (a0 + 1), .int .i64 p.y, .int .i64 (p.y + 1), .int .i64 p.z, .int .i64 (p.z + 1)])) :: N74) kr_ (fun _ _ h => h) hm126 kr_ ?_
  intro w263 hm262
  clear hm126
  have hk264 := (hm262.sub (.cons _ (.cons _ (.cons _ (.cons _ (.cons _ (.cons _ (.cons _ (.cons_cons _ (.cons_cons _ (List.Sublist.refl _)))))))))))
  refine glk (i := 0) (v := .int .i64 0) rfl rfl (fun _ _ _ h => h) hk264 rfl ?_
  refine glTake (i := 1) (v := .pointer (some ⟨g90, 0, none⟩)) rfl kr_ (wn rfl) (fun _ _ _ h => h) hk264 (fun w_ h_ => iaRun (b := g90) (off := 0) (s := 2) (n := 3) (kk := .i64) (.tmp 10) (.tmp 78) 0 Ty.und_voxel_collide_extent kr_ rfl (litEv kr_) (litEv kr_) rfl (by decide)) ?_
  refine glP rfl ?_
  refine glTake (i := 2) (v := .pointer (some ⟨g90, 1, none⟩)) rfl kr_ (wn rfl) (fun _ _ _ h => h) hk264 (fun w_ h_ => iaRun (b := g90) (off := 0) (s := 1) (n := 2) (kk := .i64) (.tmp 79) (.const (.int .i64 1)) 1 Ty.und_2_int kr_ rfl (litEv kr_) (litEv kr_) rfl (by decide)) ?_
  refine glP rfl ?_
  refine glTake (i := 3) (v := .int .i64 a0) rfl kr_ (wn rfl) (fun _ _ _ h => h) hk264 (fun w_ h_ => gLoad (v := .int .i64 a0) (k := 1) 0 h_ rfl kr_ (.tmp 80) kr_ rfl (litEv kr_)) ?_
  refine glP rfl ?_
  refine glTake (i := 4) (v := .int .i64 (a0 + 1)) rfl kr_ (wn rfl) (fun _ _ _ h => h) hk264 (fun w_ h_ => addRun (A := a0) (B := 1) (C := a0 + 1) (.tmp 81) (.const (.int .i64 1)) rfl (litEv kr_) (litEv kr_) rfl (by omega)) ?_
  refine glP rfl ?_
  refine glTake (i := 5) (v := .pointer (some ⟨g90, 0, none⟩)) rfl kr_ (wn rfl) (fun _ _ _ h => h) hk264 (fun w_ h_ => iaRun (b := g90) (off := 0) (s := 2) (n := 3) (kk := .i64) (.tmp 10) (.tmp 78) 0 Ty.und_voxel_collide_extent kr_ rfl (litEv kr_) (litEv kr_) rfl (by decide)) ?_
  refine glP rfl ?_
  refine glTake (i := 6) (v := .pointer (some ⟨g90, 1, none⟩)) rfl kr_ (wn rfl) (fun _ _ _ h => h) hk264 (fun w_ h_ => iaRun (b := g90) (off := 0) (s := 1) (n := 2) (kk := .i64) (.tmp 83) (.const (.int .i64 1)) 1 Ty.und_2_int kr_ rfl (litEv kr_) (litEv kr_) rfl (by decide)) ?_
  refine glP rfl ?_
  refine glStore1 (v := .int .i64 (a0 + 1)) (k := 1) 7 kr_ hm262 rfl kr_ (i := 7) rfl kr_ (wn rfl) rfl (litEv kr_) (litEv kr_) rfl rfl rfl ?_
  intro w266 hm265
  clear hm262
  try simp only [lc_] at hm265
  refine glNone rfl ?_
  refine glDone kr_ ?_
  refine inBlock_normal ?_
  refine then_normal ?_
  have hsl_ : grB g o (⟨⟨a0, p.y, p.z⟩, ⟨a0 + 1, p.y + 1, p.z + 1⟩⟩ : Bx) := (allB_iff (by unfold Bx.rng Pt.rng; simp only; omega)).1 h127
  have hlt_ := grB_lt hbs hsl_ (by unfold Bx.none; simp only; omega)
  simp only at hlt_
  exact ⟨_, by omega, (a0 + 1), rfl, ⟨by omega, by omega⟩, (grB_x (p := p) (m := ⟨a0, p.y + 1, p.z + 1⟩) hg0 hsl_), ⟨litSize, rfl, fo_⟩, (hm265.sub (.cons_cons _ (.cons_cons _ (.cons_cons _ (.cons_cons _ (.cons_cons _ (.cons_cons _ (.cons_cons _ (.cons_cons _ (.cons _ (List.Sublist.refl _)))))))))))⟩
 clear hm59
 intro D267 w268 V269 hJ_ hm270
 obtain ⟨l, o, A3, c3, hBI, rfl⟩ := hJ_
 refine rgDone ?_
 have hm271 : Mem w w268 ((.arr g2 28 (gcs g (some ⟨bi_, oi_, none⟩) c)) :: (.arr g12 73 ([.slice (some ⟨g9, 0, none⟩) g.cells.length g.cells.length])) :: (.row (.slice (some ⟨g9, 0, none⟩) g.cells.length g.cells.length) 4 1 g.cells.length (blsC o)) :: (.arr g5 36 ([.slice A3 l.length c3])) :: (.arr g41 79 ([.func (.func 30) #[] #[.pointer (some ⟨g2, 0, none⟩), .pointer (some ⟨g12, 0, none⟩)]])) :: (.row (.slice A3 l.length c3) 25 6 l.length (bxsC l)) :: (.arr g50 28 (gcs g (some ⟨bi_, oi_, none⟩) c)) :: (.rd (some ⟨bi_, oi_, none⟩) 1 g.cells.length c (ics g.cells)) :: (((D267 :: []) : List Nat).map defR)) := hm270
 clear hm270
 rw [eachV_len] at hBI
 refine inBlock_normal ?_
 refine tn_ hK46 ?_
 refine sp_ fun _ hK272 => ?_
 refine lv_ rfl (.slice A3 l.length c3) (ld_ 0 3 hm271) ?_
 refine plStore1 (v := .slice A3 l.length c3) (k := 0) 3 kr_ hm271 rfl (i := 1) rfl (wn rfl) rfl (litEv kr_) (litEv kr_) rfl rfl rfl ?_
 intro w274 hm273
 clear hm271
 try simp only [lc_] at hm273
 refine qNone rfl ?_
 refine pt_ hK272 ?_
 refine wp_ret ?_
 refine bodyPostM_ret (leaveMarksT (M := [.arr g2 28 (gcs g (some ⟨bi_, oi_, none⟩) c), .arr g12 73 ([.slice (some ⟨g9, 0, none⟩) g.cells.length g.cells.length]), .row (.slice (some ⟨g9, 0, none⟩) g.cells.length g.cells.length) 4 1 g.cells.length (blsC o), .arr g5 36 ([.slice A3 l.length c3]), .arr g41 79 ([.func (.func 30) #[] #[.pointer (some ⟨g2, 0, none⟩), .pointer (some ⟨g12, 0, none⟩)]]), .row (.slice A3 l.length c3) 25 6 l.length (bxsC l), .arr g50 28 (gcs g (some ⟨bi_, oi_, none⟩) c), .rd (some ⟨bi_, oi_, none⟩) 1 g.cells.length c (ics g.cells)]) ((D267 :: []) : List Nat) hm273 ?_)
 clear hm273
 intro w275 hm276
 refine ⟨.slice A3 l.length c3, gRes1 rfl (gResCell (v := .slice A3 l.length c3) 3 hm276 rfl rfl kr_ (litGet kr_)), ?_⟩
 exact ⟨_, _, rfl, hm276.row 5 rfl, fun p => hBI.fin hv p, hBI.cnt, hm276.bel⟩
end LD
end Go.Proofs.YtbpihalphhoiaaaGreatDoor
namespace Go.Proofs.YtbpihalphhoiaaaGreatDoor
theorem cnt_or {p q r : Qd → Bool} : ∀ {l : List Qd}, (∀ x ∈ l, p x = (q x || r x) ∧ (q x && r x) = false) → l.countP p = l.countP q + l.countP r
 | [], _ => rfl
 | x :: l, h => by
  obtain ⟨h1, h2⟩ := h x List.mem_cons_self
  have ih := cnt_or (l := l) fun y hy => h y (List.mem_cons_of_mem _ hy)
  have e : ∀ a b : Bool, (a && b) = false → (if (a || b) = true then 1 else 0) = (if a = true then 1 else 0) + (if b = true then 1 else 0) := by decide
  have e1 := e _ _ h2
  rw [List.countP_cons, List.countP_cons, List.countP_cons, ih, h1]
  omega
theorem quads_fact {f : Pt → Bool} {n : Nat} {x : Qd} (h : x ∈ quadsU f n) : f (solidP x) = true ∧ f (emptyP x) = false := by
 unfold quadsU at h
 obtain ⟨k, _, h⟩ := List.mem_flatMap.1 h
 unfold quadK at h
 obtain ⟨i, _, h⟩ := List.mem_flatMap.1 h
 unfold quadI at h
 obtain ⟨d, hd, h⟩ := List.mem_flatMap.1 h
 obtain ⟨e1, e2⟩ := quad_sides hd h
 unfold quadD at h
 split at h
 ·rename_i hf
  rw [e1, e2]
  exact hf
 ·cases h
theorem cnt_hit {f : Pt → Bool} {n : Nat} (hn : n = 1 ∨ n = 8) (hf : ∀ p, f p = true → inC (sideN n) p) {q u : Pt} (h1 : (q.x - u.x) * (q.x - u.x) + (q.y - u.y) * (q.y - u.y) + (q.z - u.z) * (q.z - u.z) = 1) : (quadsU f n).countP (hitB q u) = if f q = true ∧ f u = false then 1 else 0 := by
 by_cases h : f q = true ∧ f u = false
 ·rw [if_pos h]; exact cnt_one hn (hf q h.1) h.1 h.2 h1
 ·rw [if_neg h, List.countP_eq_zero]
  intro x hx hh
  unfold hitB at hh
  rw [Bool.and_eq_true, decide_eq_true_iff, decide_eq_true_iff] at hh
  obtain ⟨e1, e2⟩ := quads_fact hx
  rw [hh.1] at e1
  rw [hh.2] at e2
  exact h ⟨e1, e2⟩
def atX (c : Pt) (x : Qd) : Bool := decide (x.ax = 0 ∧ x.p = c)
theorem atX_hit {x : Qd} (hx : x.Ok) (a b : Int) (y z : Int) (hab : b = a + 1) : atX ⟨b, y, z⟩ x = (hitB ⟨b, y, z⟩ ⟨a, y, z⟩ x || hitB ⟨a, y, z⟩ ⟨b, y, z⟩ x) ∧ (hitB ⟨b, y, z⟩ ⟨a, y, z⟩ x && hitB ⟨a, y, z⟩ ⟨b, y, z⟩ x) = false := by
 obtain ⟨⟨px, py, pz⟩, ax, up, sz⟩ := x
 have h2 := hx.2.1
 simp only at h2
 have e1 : ∀ P Q : Prop, ∀ [Decidable P] [Decidable Q], (P ↔ Q) → decide P = decide Q := fun P Q _ _ h => decide_eq_decide.2 h
 unfold atX hitB solidP emptyP befP stepP
 constructor
 ·rw [Bool.eq_iff_iff]
  simp only [Bool.or_eq_true, Bool.and_eq_true, decide_eq_true_iff, Pt.mk.injEq]
  rcases h2 with rfl | rfl | rfl <;> cases up <;> simp <;> omega
 ·rw [Bool.eq_false_iff]
  simp only [ne_eq, Bool.and_eq_true, decide_eq_true_iff, Pt.mk.injEq]
  rcases h2 with rfl | rfl | rfl <;> cases up <;> simp <;> omega
theorem ins_step {x : Qd} (hx : x.Ok) (a b y z : Int) (hab : b = a + 1) : decide (insP ⟨a, y, z⟩ x) = (decide (insP ⟨b, y, z⟩ x) || atX ⟨b, y, z⟩ x) ∧ (decide (insP ⟨b, y, z⟩ x) && atX ⟨b, y, z⟩ x) = false := by
 obtain ⟨⟨px, py, pz⟩, ax, up, sz⟩ := x
 have h2 := hx.2.2
 simp only at h2
 unfold atX
 constructor
 ·rw [Bool.eq_iff_iff, Bool.or_eq_true, decide_eq_true_iff, decide_eq_true_iff, decide_eq_true_iff]
  unfold insP overP
  simp only [Pt.mk.injEq]
  omega
 ·rw [Bool.eq_false_iff, ne_eq, Bool.and_eq_true, decide_eq_true_iff, decide_eq_true_iff]
  unfold insP overP
  simp only [Pt.mk.injEq]
  omega
theorem quads_x {f : Pt → Bool} {n : Nat} (hn : n = 1 ∨ n = 8) (hf : ∀ p, f p = true → inC (sideN n) p) {x : Qd} (h : x ∈ quadsU f n) (hax : x.ax = 0) : x.p.x ≤ sideN n := by
 obtain ⟨e1, _⟩ := quads_fact h
 have h1 := hf _ e1
 unfold inC solidP befP stepP at h1
 rw [if_pos hax] at h1
 split at h1
 ·simp only at h1; omega
 ·omega
theorem cnt_par {f : Pt → Bool} {n : Nat} (hn : n = 1 ∨ n = 8) (hf : ∀ p, f p = true → inC (sideN n) p) (y z : Int) : ∀ (k : Nat) (a : Int), (sideN n - a).toNat = k → (quadsU f n).countP (fun x => decide (insP ⟨a, y, z⟩ x)) % 2 = if f ⟨a, y, z⟩ = true then 1 else 0
 | 0, a, hk => by
  have h0 : f ⟨a, y, z⟩ = false := by
   rw [Bool.eq_false_iff]
   intro h
   have := hf _ h
   unfold inC at this
   simp only at this
   omega
  rw [h0, if_neg (by decide), List.countP_eq_zero.2]
  intro x hx h
  have h1 := of_decide_eq_true h
  have h2 := quads_x hn hf hx h1.1
  have h3 := h1.2.1
  simp only at h3
  omega
 | k + 1, a, hk => by
  have ih := cnt_par hn hf y z k (a + 1) (by omega)
  have hok : ∀ x ∈ quadsU f n, x.Ok := fun x hx => quadsU_ok hn hx
  rw [cnt_or (fun x hx => ins_step (hok x hx) a (a + 1) y z rfl), cnt_or (l := quadsU f n) (p := atX ⟨a + 1, y, z⟩) (fun x hx => atX_hit (hok x hx) a (a + 1) y z rfl),
   cnt_hit hn hf (by simp only; rw [show a + 1 - a = 1 by omega, Int.sub_self, Int.sub_self]; rfl), cnt_hit hn hf (by simp only; rw [show a - (a + 1) = -1 by omega, Int.sub_self, Int.sub_self]; rfl)]
  generalize (quadsU f n).countP (fun x => decide (insP ⟨a + 1, y, z⟩ x)) = N at *
  generalize f ⟨a, y, z⟩ = fa at *
  generalize f ⟨a + 1, y, z⟩ = fb at *
  cases fa <;> cases fb <;> simp at ih ⊢ <;> omega
theorem odd_cnt (p : Pt) : ∀ (l : List Qd) (b : Bool), l.foldl (fun b q => if insP p q then !b else b) b = (b != decide (l.countP (fun x => decide (insP p x)) % 2 = 1))
 | [], b => by simp
 | q :: l, b => by
  rw [List.foldl_cons, odd_cnt p l, List.countP_cons]
  by_cases h : insP p q
  ·rw [if_pos h, decide_eq_true h, if_pos rfl]
   rcases Nat.mod_two_eq_zero_or_one (l.countP fun x => decide (insP p x)) with e | e
   ·rw [decide_eq_false (by omega), decide_eq_true (by omega)]; cases b <;> rfl
   ·rw [decide_eq_true (by omega), decide_eq_false (by omega)]; cases b <;> rfl
  ·rw [if_neg h, decide_eq_false h, if_neg (by decide), Nat.add_zero]
theorem odd_solid {f : Pt → Bool} {n : Nat} (hn : n = 1 ∨ n = 8) (hf : ∀ p, f p = true → inC (sideN n) p) {dq : List Qd} (hp : dq.Perm (quadsU f n)) (p : Pt) : oddB p dq = f p := by
 obtain ⟨x, y, z⟩ := p
 have h := cnt_par hn hf y z _ x rfl
 unfold oddB
 rw [odd_cnt, hp.countP_eq, h]
 cases f ⟨x, y, z⟩ <;> rfl
def undB (p : Pt) (q : Qd) : Bool := decide (q.ax = 2 ∧ q.up = true ∧ q.p = p)
theorem und_iff {f : Pt → Bool} {n : Nat} (hn : n = 1 ∨ n = 8) (hf : ∀ p, f p = true → inC (sideN n) p) {dq : List Qd} (hp : dq.Perm (quadsU f n)) (p : Pt) : (dq.any (undB p)) = (!f p && f ⟨p.x, p.y, p.z - 1⟩) := by
 rw [Bool.eq_iff_iff, List.any_eq_true, Bool.and_eq_true, Bool.not_eq_true']
 constructor
 ·rintro ⟨q, hq, h⟩
  obtain ⟨h1, h2, h3⟩ := of_decide_eq_true h
  obtain ⟨e1, e2⟩ := quads_fact (hp.mem_iff.1 hq)
  unfold solidP emptyP befP stepP at *
  rw [h2, if_pos rfl] at e1 e2
  rw [h1, h3] at e1
  rw [h3] at e2
  exact ⟨e2, e1⟩
 ·rintro ⟨h1, h2⟩
  have hc := cnt_hit hn hf (q := ⟨p.x, p.y, p.z - 1⟩) (u := p) (by simp only; rw [show p.z - 1 - p.z = -1 by omega, Int.sub_self, Int.sub_self]; rfl)
  rw [if_pos ⟨h2, h1⟩] at hc
  obtain ⟨x, hx, hh⟩ := List.countP_pos_iff.1 (show 0 < (quadsU f n).countP (hitB ⟨p.x, p.y, p.z - 1⟩ p) by omega)
  refine ⟨x, hp.mem_iff.2 hx, decide_eq_true ?_⟩
  have hok := (quadsU_ok hn hx).2.1
  obtain ⟨⟨px, py, pz⟩, ax, up, sz⟩ := x
  obtain ⟨x0, y0, z0⟩ := p
  unfold hitB solidP emptyP befP stepP at hh
  simp only [Bool.and_eq_true, decide_eq_true_iff, Pt.mk.injEq] at hh hok ⊢
  rcases hok with rfl | rfl | rfl <;> cases up <;> simp at hh ⊢ <;> omega
theorem any_take {p : Qd → Bool} {l : List Qd} {k : Nat} {x : Qd} (h : l[k]? = some x) : (l.take (k + 1)).any p = ((l.take k).any p || p x) := by
 rw [List.take_add_one, h, List.any_append]
 simp
end Go.Proofs.YtbpihalphhoiaaaGreatDoor
