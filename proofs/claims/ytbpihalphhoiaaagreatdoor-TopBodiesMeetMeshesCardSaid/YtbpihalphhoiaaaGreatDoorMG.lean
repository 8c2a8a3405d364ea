/-
 MG: several texts in one. No statement is proved here.
-/
import Derived.Test.YtbpihalphhoiaaaGreatDoorMZ
import Derived.Test.YtbpihalphhoiaaaGreatDoorMF
import Derived.Test.YtbpihalphhoiaaaGreatDoorMB
import Derived.Test.YtbpihalphhoiaaaGreatDoorME
import Derived.DeepKeys5
set_option maxRecDepth 100000
set_option maxHeartbeats 4000000
set_option linter.unusedVariables false
set_option linter.unusedSimpArgs false
namespace Go.Proofs.YtbpihalphhoiaaaGreatDoor
open Go.RowKit
def brdV (q : Qd) : List (List Value) := (brd q).map fun x => [.agg (pcs x.1).toArray, .agg (sgc x.2).toArray]
theorem brdV_get {q : Qd} {i : Nat} {x : Pt × Sg} (h : (brd q)[i]? = some x) : (brdV q)[i]? = some [.agg (pcs x.1).toArray, .agg (sgc x.2).toArray] := by unfold brdV; rw [List.getElem?_map, h]; rfl
theorem border_any {w0 w : World} {M : List Res} (q : Qd) (hm : Mem w0 w M) : Calls Tryz.prog 78 #[.agg (qdc q).toArray] w (fun e w' => ∃ g, e = .returned (.func (.func 102) #[] #[.pointer (some ⟨g, 0, none⟩)]) ∧ Mem w0 w' (.arr g 45 (qdc q) :: M)) := by
 have hm0 := hm
 go_enter Tryz.func78, Tryz.ntmps78
 refine litStart 4 [(0, .agg (qdc q).toArray)] kr_ (fun X0 => ?_)
 refine sp_ fun _ hK1 => ?_
 refine plBox hm0 (cs := qdc q) (i := 0) rfl (wn rfl) rfl le_ ?_
 intro g2 w4 hm3
 clear hm0
 try simp only [lc_] at hm3
 replace hm3 := hm3.i0
 refine qP rfl ?_
 refine lk_ (Value.nilFunc) ?_
 refine pt_ hK1 ?_
 refine sp_ fun _ hK5 => ?_
 refine lk_ (.func (.func 102) #[] #[.pointer (some ⟨g2, 0, none⟩)]) ?_
 refine lk_ (.func (.func 102) #[] #[.pointer (some ⟨g2, 0, none⟩)]) ?_
 refine pt_ hK5 ?_
 refine wp_ret ?_
 refine br_ 2 (.func (.func 102) #[] #[.pointer (some ⟨g2, 0, none⟩)]) ?_
 exact ⟨_, rfl, hm3⟩
theorem border_word (g : Nat) (q : Qd) (h : q.Ok) : ItWord Tryz.prog 102 [.pointer (some ⟨g, 0, none⟩)] (brdV q) ([.arr g 45 (qdc q)]) := by
 intro w0 w lp J Jx V M hJ hm hY
 have hm0 : Mem w0 w ((.arr g 45 (qdc q)) :: (V ++ M)) := hm.permL (permY [.arr g 45 (qdc q)] V M).symm
 clear hm
 go_enter Tryz.func102, Tryz.ntmps102
 refine litStart 53 [(0, .func (.yield lp) #[] #[]), (1, .pointer (some ⟨g, 0, none⟩))] kr_ (fun X0 => ?_)
 refine sp_ fun _ hK1 => ?_
 refine lp_ g 3 ?_
 refine lv_ rfl (.int .i64 q.ax) (ld_ 3 0 hm0) ?_
 refine plCall (i := 2) 103 [.int .i64 q.ax] [] [] rfl kr_ (wn rfl) rfl le_ (litArgs kr_) (turn_any q.ax h.2.1 _) ?_
 rintro e w2 ⟨rfl, hbz⟩
 have hm3 := hm0.below hbz
 clear hbz hm0
 refine ⟨_, rfl, ?_⟩
 refine qP rfl ?_
 refine lk_ (.tuple #[.int .i64 (axB q.ax), .int .i64 (axC q.ax)]) ?_
 refine li_ (axB q.ax) ?_
 refine li_ (axC q.ax) ?_
 refine li_ (axB q.ax) ?_
 refine li_ (axC q.ax) ?_
 refine pt_ hK1 ?_
 refine gwCut (fun a_ w_ => (True) ∧ Fr a_ 53 [(0, .func (.yield lp) #[] #[]), (1, .pointer (some ⟨g, 0, none⟩)), (3, .int .i64 (bdB q)), (4, .int .i64 (bdC q))] ∧ Mem w0 w_ ((.arr g 45 (qdc q)) :: (V ++ M))) ?_ ?_
 ·refine sp_ fun _ hK4 => ?_
  refine lp_ g 4 ?_
  rcases bool_or (q.up) with h5 | h5
  ·refine lv_ rfl (.bool false) (boolTo h5 (gLoad (v := .bool q.up) (k := 4) 0 hm3 rfl kr_ (.tmp 15) kr_ rfl le_)) ?_
   refine lT_ ?_
   refine pt_ hK4 ?_
   refine wp_cond_true le_ ?_
   refine plStart ?_
   refine li_ (axC q.ax) ?_
   refine li_ (axB q.ax) ?_
   refine li_ (axC q.ax) ?_
   refine li_ (axB q.ax) ?_
   refine plD ?_
   refine then_normal ?_
   rw [show bdB q = axC q.ax by unfold bdB; rw [h5]; rfl, show bdC q = axB q.ax by unfold bdC; rw [h5]; rfl]
   exact ⟨trivial, ⟨litSize, rfl, fo_⟩, hm3⟩
  refine lv_ rfl (.bool true) (boolTo h5 (gLoad (v := .bool q.up) (k := 4) 0 hm3 rfl kr_ (.tmp 15) kr_ rfl le_)) ?_
  refine lF_ ?_
  refine pt_ hK4 ?_
  refine wp_cond_false le_ ?_
  refine wp_skip ?_
  refine then_normal ?_
  rw [show bdB q = axB q.ax by unfold bdB; rw [h5]; rfl, show bdC q = axC q.ax by unfold bdC; rw [h5]; rfl]
  exact ⟨trivial, ⟨litSize, rfl, fo_⟩, hm3⟩
 clear hm3
 intro a8 w6 hI_
 obtain ⟨ht_, hF_, hm7⟩ := hI_
 obtain ⟨X9, rfl⟩ := frLit hF_
 clear hF_
 refine sp_ fun _ hK10 => ?_
 refine lp_ g 0 ?_
 refine lv_ rfl (.agg (pcs q.p).toArray) (la_ 0 0 hm7 Ty.ag_voxel_api_Point) ?_
 refine plAlloc (z := [.int .i64 0, .int .i64 0, .int .i64 0]) Ty.ag_voxel_api_Point hm7 (i := 2) rfl (wn rfl) rfl ?_
 intro g11 w13 hm12
 clear hm7
 try simp only [lc_] at hm12
 replace hm12 := hm12.i1
 refine qP rfl ?_
 refine plStore 1 Ty.ag_voxel_api_Point hm12 rfl (i := 3) (cs := pcs q.p) rfl (wn rfl) rfl le_ le_ rfl rfl kr_ ?_
 intro w15 hm14
 clear hm12
 try simp only [lc_] at hm14
 refine qNone rfl ?_
 refine pt_ hK10 ?_
 refine sp_ fun _ hK16 => ?_
 refine li_ 0 ?_
 refine pt_ hK16 ?_
 refine wp_block ?_
 refine roundsStart 5 ?_
 refine sp_ fun _ hK17 => ?_
 refine lT_ ?_
 refine pt_ hK17 ?_
 refine sk_ fun _ hK18 => ?_
 refine wp_cond_true le_ ?_
 refine wp_skip ?_
 refine tn_ hK18 ?_
 refine sk_ fun _ hK19 => ?_
 refine wp_block ?_
 refine sp_ fun _ hK20 => ?_
 refine li_ 0 ?_
 refine li_ 0 ?_
 refine pt_ hK20 ?_
 refine sp_ fun _ hK21 => ?_
 refine li_ (bdB q) ?_
 refine li_ (bdB q) ?_
 refine li_ 1 ?_
 refine pt_ hK21 ?_
 refine sk_ fun _ hK22 => ?_
 refine sp_ fun _ hK23 => ?_
 refine li_ 0 ?_
 refine li_ 0 ?_
 refine lF_ ?_
 refine pt_ hK23 ?_
 refine wp_cond_false le_ ?_
 refine wp_skip ?_
 refine tn_ hK22 ?_
 refine sk_ fun _ hK24 => ?_
 refine sp_ fun _ hK25 => ?_
 refine li_ 0 ?_
 refine lF_ ?_
 refine pt_ hK25 ?_
 refine wp_cond_false le_ ?_
 refine wp_skip ?_
 refine tn_ hK24 ?_
 refine sp_ fun _ hK26 => ?_
 refine lp_ g 5 ?_
 refine lv_ rfl (.int .i64 q.sz) (ld_ 5 0 hm14) ?_
 refine li_ 0 ?_
 refine pt_ hK26 ?_
 refine wp_block ?_
 refine roundsStart 2 ?_
 refine sp_ fun _ hK27 => ?_
 refine lv_ rfl _ (lsT_ (show (0 : Int) < q.sz by have := h.2.2; omega)) ?_
 refine pt_ hK27 ?_
 refine sk_ fun _ hK28 => ?_
 refine wp_cond_true le_ ?_
 refine wp_skip ?_
 refine tn_ hK28 ?_
 refine sk_ fun _ hK29 => ?_
 refine wp_block ?_
 refine sk_ fun _ hK30 => ?_
 refine gwCut (fun a_ w_ => ∃ (t_ : Bool) (V_ : List Res), Fr a_ 53 [(0, .func (.yield lp) #[] #[]), (1, .pointer (some ⟨g, 0, none⟩)), (3, .int .i64 (bdB q)), (4, .int .i64 (bdC q)), (5, .pointer (some ⟨g11, 0, none⟩)), (6, .int .i64 0), (7, .int .i64 (bdB q)), (8, .int .i64 1), (22, .int .i64 0), (23, .bool true), (24, .int .i64 0), (25, .int .i64 (bdB q)), (26, .int .i64 0), (27, .int .i64 0), (28, .bool false), (30, .int .i64 0), (31, .bool false), (32, .pointer (some ⟨g, 5, none⟩)), (33, .int .i64 q.sz), (34, .int .i64 0), (35, .bool true), (46, .bool (!t_))] ∧ Mem w0 w_ ((.arr g 45 (qdc q)) :: (.arr g11 23 (pcs q.p)) :: (V_ ++ M)) ∧ (t_ = true → J (1) V_) ∧ (t_ = false → Jx V_)) ?_ ?_
 ·refine yStart hm14 kr_ ?_
  intro w31 hm32
  clear hm14
  refine yTake (i := 0) (v := .func (.yield lp) #[] #[]) rfl kr_ rfl (fun _ _ _ h_ => h_) rfl (fun _ => by kernel_rfl) (fun _ => rfl) (by decide) ?_
  refine yTake (i := 3) (v := .int .i64 (bdB q)) rfl kr_ rfl (fun _ _ _ h_ => h_) rfl (fun _ => by kernel_rfl) (fun _ => rfl) (by decide) ?_
  refine yTake (i := 4) (v := .int .i64 1) rfl kr_ rfl (fun _ _ _ h_ => h_) rfl (fun _ => by kernel_rfl) (fun _ => rfl) (by decide) ?_
  refine yTake (i := 5) (v := .int .i64 0) rfl kr_ rfl (fun _ _ _ h_ => h_) rfl (fun _ => by kernel_rfl) (fun _ => rfl) (by decide) ?_
  refine yTake (i := 7) (v := .int .i64 (bdB q)) rfl kr_ rfl (fun _ _ _ h_ => h_) rfl (fun _ => by kernel_rfl) (fun _ => rfl) (by decide) ?_
  refine yTwo (i := 1) (j := 2) kr_ ?_ ?_
  ·refine yVal (i := 1) (v := .agg (pcs q.p).toArray) rfl rfl (gLoadAg (vs := pcs q.p) (k := 0) 1 hm32 rfl kr_ kr_ (.tmp 5) Ty.ag_voxel_api_Point rfl le_) rfl (by decide) ?_
   refine yOne (i := 2) kr_ ?_
   refine yVal (i := 2) (v := .agg (pcs q.p).toArray) rfl rfl (gLoadAg (vs := pcs q.p) (k := 0) 1 hm32 rfl kr_ kr_ (.tmp 5) Ty.ag_voxel_api_Point rfl le_) rfl (by decide) ?_
   refine yOne (i := 6) kr_ ?_
   refine yCall (i := 6) 104 [.agg (pcs q.p).toArray, .int .i64 (bdB q), .int .i64 0] kr_ (fun _ _ h_ => by obtain ⟨⟨_, h_⟩, _⟩ := h_; cases h_) rfl kr_ rfl rfl le_ (litArgs kr_) (step_any q.p (bdB q) (0) (by have h_ := bd_ax h; simp only [h_]) (by have h_ := bdP_w h 0; simp only [bdP] at h_; unfold Pt.w at *; omega) (by omega) _) rfl (by decide) ?_
   rintro e w33 ⟨rfl, hbz⟩
   have hm34 := hm32.below hbz
   clear hbz hm32
   refine ⟨_, rfl, ?_⟩
   refine yTake (i := 8) (v := .agg ([.int .i64 ((stepP q.p (bdB q) (0)).x), .int .i64 ((stepP q.p (bdB q) (0)).y), .int .i64 ((stepP q.p (bdB q) (0)).z), .int .i64 (bdB q)]).toArray) rfl kr_ rfl (fun _ _ _ h_ => h_) rfl (fun _ => by kernel_rfl) (fun _ => rfl) (by decide) ?_
   refine yOne (i := 9) kr_ ?_
   refine yYield (i := 9) lp [.agg (pcs q.p).toArray, .agg ([.int .i64 ((stepP q.p (bdB q) (0)).x), .int .i64 ((stepP q.p (bdB q) (0)).y), .int .i64 ((stepP q.p (bdB q) (0)).z), .int .i64 (bdB q)]).toArray] rfl rfl rfl le_ (litArgs kr_) (hY 0 [.agg (pcs q.p).toArray, .agg ([.int .i64 ((stepP q.p (bdB q) (0)).x), .int .i64 ((stepP q.p (bdB q) (0)).y), .int .i64 ((stepP q.p (bdB q) (0)).z), .int .i64 (bdB q)]).toArray] _ V ([.arr g 45 (qdc q), .arr g11 23 (pcs q.p)] ++ M) (brdV_get (x := (brd q).getD 0 (p0, ⟨p0, 0⟩)) (by rfl)) hJ (hm34.permL (permY [.arr g 45 (qdc q), .arr g11 23 (pcs q.p)] V M))) rfl (by decide) ?_
   rintro e w37 ⟨t35, V36, rfl, hq_, hT39, hF40⟩
   have hm38 : Mem w0 w37 ((.arr g 45 (qdc q)) :: (.arr g11 23 (pcs q.p)) :: (V36 ++ M)) := hq_.permL (permY [.arr g 45 (qdc q), .arr g11 23 (pcs q.p)] V36 M).symm
   clear hq_ hm34
   refine ⟨_, rfl, ?_⟩
   refine yOne (i := 10) kr_ ?_
   refine yVal (i := 10) (v := .bool (!t35)) rfl rfl (litRun kr_) rfl (by decide) ?_
   refine wpAnyIn_done kr_ ?_ _
   exact ⟨t35, V36, ⟨litSize, rfl, fo_⟩, hm38, hT39, hF40⟩
  refine yVal (i := 2) (v := .agg (pcs q.p).toArray) rfl rfl (gLoadAg (vs := pcs q.p) (k := 0) 1 hm32 rfl kr_ kr_ (.tmp 5) Ty.ag_voxel_api_Point rfl le_) rfl (by decide) ?_
  refine yTwo (i := 1) (j := 6) kr_ ?_ ?_
  ·refine yVal (i := 1) (v := .agg (pcs q.p).toArray) rfl rfl (gLoadAg (vs := pcs q.p) (k := 0) 1 hm32 rfl kr_ kr_ (.tmp 5) Ty.ag_voxel_api_Point rfl le_) rfl (by decide) ?_
   refine yOne (i := 6) kr_ ?_
   refine yCall (i := 6) 104 [.agg (pcs q.p).toArray, .int .i64 (bdB q), .int .i64 0] kr_ (fun _ _ h_ => by obtain ⟨⟨_, h_⟩, _⟩ := h_; cases h_) rfl kr_ rfl rfl le_ (litArgs kr_) (step_any q.p (bdB q) (0) (by have h_ := bd_ax h; simp only [h_]) (by have h_ := bdP_w h 0; simp only [bdP] at h_; unfold Pt.w at *; omega) (by omega) _) rfl (by decide) ?_
   rintro e w41 ⟨rfl, hbz⟩
   have hm42 := hm32.below hbz
   clear hbz hm32
   refine ⟨_, rfl, ?_⟩
   refine yTake (i := 8) (v := .agg ([.int .i64 ((stepP q.p (bdB q) (0)).x), .int .i64 ((stepP q.p (bdB q) (0)).y), .int .i64 ((stepP q.p (bdB q) (0)).z), .int .i64 (bdB q)]).toArray) rfl kr_ rfl (fun _ _ _ h_ => h_) rfl (fun _ => by kernel_rfl) (fun _ => rfl) (by decide) ?_
   refine yOne (i := 9) kr_ ?_
   refine yYield (i := 9) lp [.agg (pcs q.p).toArray, .agg ([.int .i64 ((stepP q.p (bdB q) (0)).x), .int .i64 ((stepP q.p (bdB q) (0)).y), .int .i64 ((stepP q.p (bdB q) (0)).z), .int .i64 (bdB q)]).toArray] rfl rfl rfl le_ (litArgs kr_) (hY 0 [.agg (pcs q.p).toArray, .agg ([.int .i64 ((stepP q.p (bdB q) (0)).x), .int .i64 ((stepP q.p (bdB q) (0)).y), .int .i64 ((stepP q.p (bdB q) (0)).z), .int .i64 (bdB q)]).toArray] _ V ([.arr g 45 (qdc q), .arr g11 23 (pcs q.p)] ++ M) (brdV_get (x := (brd q).getD 0 (p0, ⟨p0, 0⟩)) (by rfl)) hJ (hm42.permL (permY [.arr g 45 (qdc q), .arr g11 23 (pcs q.p)] V M))) rfl (by decide) ?_
   rintro e w45 ⟨t43, V44, rfl, hq_, hT47, hF48⟩
   have hm46 : Mem w0 w45 ((.arr g 45 (qdc q)) :: (.arr g11 23 (pcs q.p)) :: (V44 ++ M)) := hq_.permL (permY [.arr g 45 (qdc q), .arr g11 23 (pcs q.p)] V44 M).symm
   clear hq_ hm42
   refine ⟨_, rfl, ?_⟩
   refine yOne (i := 10) kr_ ?_
   refine yVal (i := 10) (v := .bool (!t43)) rfl rfl (litRun kr_) rfl (by decide) ?_
   refine wpAnyIn_done kr_ ?_ _
   exact ⟨t43, V44, ⟨litSize, rfl, fo_⟩, hm46, hT47, hF48⟩
  refine yCall (i := 6) 104 [.agg (pcs q.p).toArray, .int .i64 (bdB q), .int .i64 0] kr_ (fun _ _ h_ => by obtain ⟨⟨_, h_⟩, _⟩ := h_; cases h_) rfl kr_ rfl rfl le_ (litArgs kr_) (step_any q.p (bdB q) (0) (by have h_ := bd_ax h; simp only [h_]) (by have h_ := bdP_w h 0; simp only [bdP] at h_; unfold Pt.w at *; omega) (by omega) _) rfl (by decide) ?_
  rintro e w49 ⟨rfl, hbz⟩
  have hm50 := hm32.below hbz
  clear hbz hm32
  refine ⟨_, rfl, ?_⟩
  refine yTake (i := 8) (v := .agg ([.int .i64 ((stepP q.p (bdB q) (0)).x), .int .i64 ((stepP q.p (bdB q) (0)).y), .int .i64 ((stepP q.p (bdB q) (0)).z), .int .i64 (bdB q)]).toArray) rfl kr_ rfl (fun _ _ _ h_ => h_) rfl (fun _ => by kernel_rfl) (fun _ => rfl) (by decide) ?_
  refine yOne (i := 1) kr_ ?_
  refine yVal (i := 1) (v := .agg (pcs q.p).toArray) rfl rfl (gLoadAg (vs := pcs q.p) (k := 0) 1 hm50 rfl kr_ kr_ (.tmp 5) Ty.ag_voxel_api_Point rfl le_) rfl (by decide) ?_
  refine yOne (i := 9) kr_ ?_
  refine yYield (i := 9) lp [.agg (pcs q.p).toArray, .agg ([.int .i64 ((stepP q.p (bdB q) (0)).x), .int .i64 ((stepP q.p (bdB q) (0)).y), .int .i64 ((stepP q.p (bdB q) (0)).z), .int .i64 (bdB q)]).toArray] rfl rfl rfl le_ (litArgs kr_) (hY 0 [.agg (pcs q.p).toArray, .agg ([.int .i64 ((stepP q.p (bdB q) (0)).x), .int .i64 ((stepP q.p (bdB q) (0)).y), .int .i64 ((stepP q.p (bdB q) (0)).z), .int .i64 (bdB q)]).toArray] _ V ([.arr g 45 (qdc q), .arr g11 23 (pcs q.p)] ++ M) (brdV_get (x := (brd q).getD 0 (p0, ⟨p0, 0⟩)) (by rfl)) hJ (hm50.permL (permY [.arr g 45 (qdc q), .arr g11 23 (pcs q.p)] V M))) rfl (by decide) ?_
  rintro e w53 ⟨t51, V52, rfl, hq_, hT55, hF56⟩
  have hm54 : Mem w0 w53 ((.arr g 45 (qdc q)) :: (.arr g11 23 (pcs q.p)) :: (V52 ++ M)) := hq_.permL (permY [.arr g 45 (qdc q), .arr g11 23 (pcs q.p)] V52 M).symm
  clear hq_ hm50
  refine ⟨_, rfl, ?_⟩
  refine yOne (i := 10) kr_ ?_
  refine yVal (i := 10) (v := .bool (!t51)) rfl rfl (litRun kr_) rfl (by decide) ?_
  refine wpAnyIn_done kr_ ?_ _
  exact ⟨t51, V52, ⟨litSize, rfl, fo_⟩, hm54, hT55, hF56⟩
 clear hm14
 intro a59 w57 hI_
 obtain ⟨t61, V62, hF_, hm58, hT63, hF64⟩ := hI_
 obtain ⟨X60, rfl⟩ := frLit hF_
 clear hF_
 rcases bool_or t61 with hb_ | hb_ <;> subst hb_
 ·have hX65 := hF64 rfl
  refine wp_cond_true le_ ?_
  refine wp_ret ?_
  refine then_ret ?_
  refine inBlock_ret ?_
  refine then_ret ?_
  refine then_ret ?_
  refine inBlock_ret ?_
  refine inBlock_ret ?_
  refine then_ret ?_
  refine then_ret ?_
  refine inBlock_ret ?_
  refine bodyPost_ret (v := .tuple #[]) (gRes0 rfl) rfl ?_
  have hm66 : Mem w0 w57 ((.arr g 45 (qdc q)) :: (V62 ++ M)) := (hm58.sub (.cons_cons _ (.cons _ (List.Sublist.refl _))))
  clear hm58
  exact ⟨⟨_, rfl⟩, V62, hm66.permL (permY [.arr g 45 (qdc q)] V62 M), Or.inr hX65⟩
 have hJ67 := hT63 rfl
 refine wp_cond_false le_ ?_
 refine wp_skip ?_
 refine tn_ hK30 ?_
 refine plStart ?_
 refine lv_ rfl (.agg (pcs q.p).toArray) (la_ 0 1 hm58 Ty.ag_voxel_api_Point) ?_
 refine li_ (bdB q) ?_
 refine li_ 1 ?_
 refine plCall (i := 3) 104 [.agg (pcs q.p).toArray, .int .i64 (bdB q), .int .i64 1] [] [] rfl kr_ (wn rfl) rfl le_ (litArgs kr_) (step_any q.p (bdB q) (1) (by have h_ := bd_ax h; simp only [h_]) (by have h_ := bdP_w h 0; simp only [bdP] at h_; unfold Pt.w at *; omega) (by omega) _) ?_
 rintro e w68 ⟨rfl, hbz⟩
 have hm69 := hm58.below hbz
 clear hbz hm58
 refine ⟨_, rfl, ?_⟩
 refine qP rfl ?_
 refine plStore 1 Ty.ag_voxel_api_Point hm69 rfl (i := 4) (cs := pcs (stepP q.p (bdB q) (1))) rfl (wn rfl) rfl le_ le_ rfl rfl kr_ ?_
 intro w71 hm70
 clear hm69
 try simp only [lc_] at hm70
 refine qNone rfl ?_
 refine plD ?_
 refine inBlock_normal ?_
 refine tn_ hK29 ?_
 refine plStart ?_
 refine li_ 1 ?_
 refine li_ 1 ?_
 refine plD ?_
 refine then_normal (roundsNext ?_)
 refine sp_ fun _ hK72 => ?_
 refine lv_ rfl _ (lsF_ (show ¬ (1 : Int) < q.sz by have := h.2.2; omega)) ?_
 refine pt_ hK72 ?_
 refine sk_ fun _ hK73 => ?_
 refine wp_cond_false le_ ?_
 refine wp_exit ?_
 refine then_exit ?_
 refine then_exit ?_
 refine inBlock_exit ?_
 refine inBlock_normal ?_
 refine tn_ hK19 ?_
 refine plStart ?_
 refine li_ 1 ?_
 refine li_ 1 ?_
 refine plD ?_
 refine then_normal (roundsNext ?_)
 refine sp_ fun _ hK74 => ?_
 refine lT_ ?_
 refine pt_ hK74 ?_
 refine sk_ fun _ hK75 => ?_
 refine wp_cond_true le_ ?_
 refine wp_skip ?_
 refine tn_ hK75 ?_
 refine sk_ fun _ hK76 => ?_
 refine wp_block ?_
 refine sp_ fun _ hK77 => ?_
 refine li_ 1 ?_
 refine li_ 1 ?_
 refine pt_ hK77 ?_
 refine sp_ fun _ hK78 => ?_
 refine li_ (bdB q) ?_
 refine li_ (bdB q) ?_
 refine li_ 1 ?_
 refine pt_ hK78 ?_
 refine sk_ fun _ hK79 => ?_
 refine sp_ fun _ hK80 => ?_
 refine li_ 1 ?_
 refine li_ 1 ?_
 refine lT_ ?_
 refine pt_ hK80 ?_
 refine wp_cond_true le_ ?_
 refine plStart ?_
 refine li_ (bdC q) ?_
 refine li_ (bdC q) ?_
 refine pt_ hK79 ?_
 refine wpPrune [(0, .func (.yield lp) #[] #[]), (1, .pointer (some ⟨g, 0, none⟩)), (3, .int .i64 (bdB q)), (4, .int .i64 (bdC q)), (5, .pointer (some ⟨g11, 0, none⟩)), (6, .int .i64 1), (7, .int .i64 (bdC q)), (8, .int .i64 1), (22, .int .i64 1), (23, .bool true), (24, .int .i64 1), (25, .int .i64 (bdB q)), (26, .int .i64 1), (27, .int .i64 1), (28, .bool true), (29, .int .i64 (bdC q)), (30, .int .i64 0), (31, .bool false), (32, .pointer (some ⟨g, 5, none⟩)), (33, .int .i64 q.sz), (34, .int .i64 1), (35, .bool false), (46, .bool false), (47, .agg (pcs q.p).toArray), (48, .int .i64 (bdB q)), (49, .int .i64 1), (50, .agg (pcs (stepP q.p (bdB q) (1))).toArray), (51, .int .i64 1), (52, .int .i64 1)] fo_ (fun X81 => ?_)
 refine sk_ fun _ hK82 => ?_
 refine sp_ fun _ hK83 => ?_
 refine li_ 1 ?_
 refine lF_ ?_
 refine pt_ hK83 ?_
 refine wp_cond_false le_ ?_
 refine wp_skip ?_
 refine tn_ hK82 ?_
 refine sp_ fun _ hK84 => ?_
 refine lp_ g 5 ?_
 refine lv_ rfl (.int .i64 q.sz) (ld_ 5 0 hm70) ?_
 refine li_ 0 ?_
 refine pt_ hK84 ?_
 refine wp_block ?_
 refine roundsStart 2 ?_
 refine sp_ fun _ hK85 => ?_
 refine lv_ rfl _ (lsT_ (show (0 : Int) < q.sz by have := h.2.2; omega)) ?_
 refine pt_ hK85 ?_
 refine sk_ fun _ hK86 => ?_
 refine wp_cond_true le_ ?_
 refine wp_skip ?_
 refine tn_ hK86 ?_
 refine sk_ fun _ hK87 => ?_
 refine wp_block ?_
 refine sk_ fun _ hK88 => ?_
 refine gwCut (fun a_ w_ => ∃ (t_ : Bool) (V_ : List Res), Fr a_ 53 [(0, .func (.yield lp) #[] #[]), (1, .pointer (some ⟨g, 0, none⟩)), (3, .int .i64 (bdB q)), (4, .int .i64 (bdC q)), (5, .pointer (some ⟨g11, 0, none⟩)), (6, .int .i64 1), (7, .int .i64 (bdC q)), (8, .int .i64 1), (22, .int .i64 1), (23, .bool true), (24, .int .i64 1), (25, .int .i64 (bdB q)), (26, .int .i64 1), (27, .int .i64 1), (28, .bool true), (29, .int .i64 (bdC q)), (30, .int .i64 1), (31, .bool false), (32, .pointer (some ⟨g, 5, none⟩)), (33, .int .i64 q.sz), (34, .int .i64 0), (35, .bool true), (47, .agg (pcs q.p).toArray), (48, .int .i64 (bdB q)), (49, .int .i64 1), (50, .agg (pcs (stepP q.p (bdB q) (1))).toArray), (51, .int .i64 1), (52, .int .i64 1), (46, .bool (!t_))] ∧ Mem w0 w_ ((.arr g 45 (qdc q)) :: (.arr g11 23 (pcs (stepP q.p (bdB q) (1)))) :: (V_ ++ M)) ∧ (t_ = true → J (2) V_) ∧ (t_ = false → Jx V_)) ?_ ?_
 ·refine yStart hm70 kr_ ?_
  intro w89 hm90
  clear hm70
  refine yTake (i := 0) (v := .func (.yield lp) #[] #[]) rfl kr_ rfl (fun _ _ _ h_ => h_) rfl (fun _ => by kernel_rfl) (fun _ => rfl) (by decide) ?_
  refine yTake (i := 3) (v := .int .i64 (bdC q)) rfl kr_ rfl (fun _ _ _ h_ => h_) rfl (fun _ => by kernel_rfl) (fun _ => rfl) (by decide) ?_
  refine yTake (i := 4) (v := .int .i64 1) rfl kr_ rfl (fun _ _ _ h_ => h_) rfl (fun _ => by kernel_rfl) (fun _ => rfl) (by decide) ?_
  refine yTake (i := 5) (v := .int .i64 0) rfl kr_ rfl (fun _ _ _ h_ => h_) rfl (fun _ => by kernel_rfl) (fun _ => rfl) (by decide) ?_
  refine yTake (i := 7) (v := .int .i64 (bdC q)) rfl kr_ rfl (fun _ _ _ h_ => h_) rfl (fun _ => by kernel_rfl) (fun _ => rfl) (by decide) ?_
  refine yTwo (i := 1) (j := 2) kr_ ?_ ?_
  ·refine yVal (i := 1) (v := .agg (pcs (stepP q.p (bdB q) (1))).toArray) rfl rfl (gLoadAg (vs := pcs (stepP q.p (bdB q) (1))) (k := 0) 1 hm90 rfl kr_ kr_ (.tmp 5) Ty.ag_voxel_api_Point rfl le_) rfl (by decide) ?_
   refine yOne (i := 2) kr_ ?_
   refine yVal (i := 2) (v := .agg (pcs (stepP q.p (bdB q) (1))).toArray) rfl rfl (gLoadAg (vs := pcs (stepP q.p (bdB q) (1))) (k := 0) 1 hm90 rfl kr_ kr_ (.tmp 5) Ty.ag_voxel_api_Point rfl le_) rfl (by decide) ?_
   refine yOne (i := 6) kr_ ?_
   refine yCall (i := 6) 104 [.agg (pcs (stepP q.p (bdB q) (1))).toArray, .int .i64 (bdC q), .int .i64 0] kr_ (fun _ _ h_ => by obtain ⟨⟨_, h_⟩, _⟩ := h_; cases h_) rfl kr_ rfl rfl le_ (litArgs kr_) (step_any (stepP q.p (bdB q) (1)) (bdC q) (0) (by have h_ := bd_ax h; simp only [h_]) (by have h_ := bdP_w h 1; simp only [bdP] at h_; unfold Pt.w at *; omega) (by omega) _) rfl (by decide) ?_
   rintro e w91 ⟨rfl, hbz⟩
   have hm92 := hm90.below hbz
   clear hbz hm90
   refine ⟨_, rfl, ?_⟩
   refine yTake (i := 8) (v := .agg ([.int .i64 ((stepP (stepP q.p (bdB q) (1)) (bdC q) (0)).x), .int .i64 ((stepP (stepP q.p (bdB q) (1)) (bdC q) (0)).y), .int .i64 ((stepP (stepP q.p (bdB q) (1)) (bdC q) (0)).z), .int .i64 (bdC q)]).toArray) rfl kr_ rfl (fun _ _ _ h_ => h_) rfl (fun _ => by kernel_rfl) (fun _ => rfl) (by decide) ?_
   refine yOne (i := 9) kr_ ?_
   refine yYield (i := 9) lp [.agg (pcs (stepP q.p (bdB q) (1))).toArray, .agg ([.int .i64 ((stepP (stepP q.p (bdB q) (1)) (bdC q) (0)).x), .int .i64 ((stepP (stepP q.p (bdB q) (1)) (bdC q) (0)).y), .int .i64 ((stepP (stepP q.p (bdB q) (1)) (bdC q) (0)).z), .int .i64 (bdC q)]).toArray] rfl rfl rfl le_ (litArgs kr_) (hY 1 [.agg (pcs (stepP q.p (bdB q) (1))).toArray, .agg ([.int .i64 ((stepP (stepP q.p (bdB q) (1)) (bdC q) (0)).x), .int .i64 ((stepP (stepP q.p (bdB q) (1)) (bdC q) (0)).y), .int .i64 ((stepP (stepP q.p (bdB q) (1)) (bdC q) (0)).z), .int .i64 (bdC q)]).toArray] _ V62 ([.arr g 45 (qdc q), .arr g11 23 (pcs (stepP q.p (bdB q) (1)))] ++ M) (brdV_get (x := (brd q).getD 1 (p0, ⟨p0, 0⟩)) (by rfl)) hJ67 (hm92.permL (permY [.arr g 45 (qdc q), .arr g11 23 (pcs (stepP q.p (bdB q) (1)))] V62 M))) rfl (by decide) ?_
   rintro e w95 ⟨t93, V94, rfl, hq_, hT97, hF98⟩
   have hm96 : Mem w0 w95 ((.arr g 45 (qdc q)) :: (.arr g11 23 (pcs (stepP q.p (bdB q) (1)))) :: (V94 ++ M)) := hq_.permL (permY [.arr g 45 (qdc q), .arr g11 23 (pcs (stepP q.p (bdB q) (1)))] V94 M).symm
   clear hq_ hm92
   refine ⟨_, rfl, ?_⟩
   refine yOne (i := 10) kr_ ?_
   refine yVal (i := 10) (v := .bool (!t93)) rfl rfl (litRun kr_) rfl (by decide) ?_
   refine wpAnyIn_done kr_ ?_ _
   exact ⟨t93, V94, ⟨litSize, rfl, fo_⟩, hm96, hT97, hF98⟩
  refine yVal (i := 2) (v := .agg (pcs (stepP q.p (bdB q) (1))).toArray) rfl rfl (gLoadAg (vs := pcs (stepP q.p (bdB q) (1))) (k := 0) 1 hm90 rfl kr_ kr_ (.tmp 5) Ty.ag_voxel_api_Point rfl le_) rfl (by decide) ?_
  refine yTwo (i := 1) (j := 6) kr_ ?_ ?_
  ·refine yVal (i := 1) (v := .agg (pcs (stepP q.p (bdB q) (1))).toArray) rfl rfl (gLoadAg (vs := pcs (stepP q.p (bdB q) (1))) (k := 0) 1 hm90 rfl kr_ kr_ (.tmp 5) Ty.ag_voxel_api_Point rfl le_) rfl (by decide) ?_
   refine yOne (i := 6) kr_ ?_
   refine yCall (i := 6) 104 [.agg (pcs (stepP q.p (bdB q) (1))).toArray, .int .i64 (bdC q), .int .i64 0] kr_ (fun _ _ h_ => by obtain ⟨⟨_, h_⟩, _⟩ := h_; cases h_) rfl kr_ rfl rfl le_ (litArgs kr_) (step_any (stepP q.p (bdB q) (1)) (bdC q) (0) (by have h_ := bd_ax h; simp only [h_]) (by have h_ := bdP_w h 1; simp only [bdP] at h_; unfold Pt.w at *; omega) (by omega) _) rfl (by decide) ?_
   rintro e w99 ⟨rfl, hbz⟩
   have hm100 := hm90.below hbz
   clear hbz hm90
   refine ⟨_, rfl, ?_⟩
   refine yTake (i := 8) (v := .agg ([.int .i64 ((stepP (stepP q.p (bdB q) (1)) (bdC q) (0)).x), .int .i64 ((stepP (stepP q.p (bdB q) (1)) (bdC q) (0)).y), .int .i64 ((stepP (stepP q.p (bdB q) (1)) (bdC q) (0)).z), .int .i64 (bdC q)]).toArray) rfl kr_ rfl (fun _ _ _ h_ => h_) rfl (fun _ => by kernel_rfl) (fun _ => rfl) (by decide) ?_
   refine yOne (i := 9) kr_ ?_
   refine yYield (i := 9) lp [.agg (pcs (stepP q.p (bdB q) (1))).toArray, .agg ([.int .i64 ((stepP (stepP q.p (bdB q) (1)) (bdC q) (0)).x), .int .i64 ((stepP (stepP q.p (bdB q) (1)) (bdC q) (0)).y), .int .i64 ((stepP (stepP q.p (bdB q) (1)) (bdC q) (0)).z), .int .i64 (bdC q)]).toArray] rfl rfl rfl le_ (litArgs kr_) (hY 1 [.agg (pcs (stepP q.p (bdB q) (1))).toArray, .agg ([.int .i64 ((stepP (stepP q.p (bdB q) (1)) (bdC q) (0)).x), .int .i64 ((stepP (stepP q.p (bdB q) (1)) (bdC q) (0)).y), .int .i64 ((stepP (stepP q.p (bdB q) (1)) (bdC q) (0)).z), .int .i64 (bdC q)]).toArray] _ V62 ([.arr g 45 (qdc q), .arr g11 23 (pcs (stepP q.p (bdB q) (1)))] ++ M) (brdV_get (x := (brd q).getD 1 (p0, ⟨p0, 0⟩)) (by rfl)) hJ67 (hm100.permL (permY [.arr g 45 (qdc q), .arr g11 23 (pcs (stepP q.p (bdB q) (1)))] V62 M))) rfl (by decide) ?_
   rintro e w103 ⟨t101, V102, rfl, hq_, hT105, hF106⟩
   have hm104 : Mem w0 w103 ((.arr g 45 (qdc q)) :: (.arr g11 23 (pcs (stepP q.p (bdB q) (1)))) :: (V102 ++ M)) := hq_.permL (permY [.arr g 45 (qdc q), .arr g11 23 (pcs (stepP q.p (bdB q) (1)))] V102 M).symm
   clear hq_ hm100
   refine ⟨_, rfl, ?_⟩
   refine yOne (i := 10) kr_ ?_
   refine yVal (i := 10) (v := .bool (!t101)) rfl rfl (litRun kr_) rfl (by decide) ?_
   refine wpAnyIn_done kr_ ?_ _
   exact ⟨t101, V102, ⟨litSize, rfl, fo_⟩, hm104, hT105, hF106⟩
  refine yCall (i := 6) 104 [.agg (pcs (stepP q.p (bdB q) (1))).toArray, .int .i64 (bdC q), .int .i64 0] kr_ (fun _ _ h_ => by obtain ⟨⟨_, h_⟩, _⟩ := h_; cases h_) rfl kr_ rfl rfl le_ (litArgs kr_) (step_any (stepP q.p (bdB q) (1)) (bdC q) (0) (by have h_ := bd_ax h; simp only [h_]) (by have h_ := bdP_w h 1; simp only [bdP] at h_; unfold Pt.w at *; omega) (by omega) _) rfl (by decide) ?_
  rintro e w107 ⟨rfl, hbz⟩
  have hm108 := hm90.below hbz
  clear hbz hm90
  refine ⟨_, rfl, ?_⟩
  refine yTake (i := 8) (v := .agg ([.int .i64 ((stepP (stepP q.p (bdB q) (1)) (bdC q) (0)).x), .int .i64 ((stepP (stepP q.p (bdB q) (1)) (bdC q) (0)).y), .int .i64 ((stepP (stepP q.p (bdB q) (1)) (bdC q) (0)).z), .int .i64 (bdC q)]).toArray) rfl kr_ rfl (fun _ _ _ h_ => h_) rfl (fun _ => by kernel_rfl) (fun _ => rfl) (by decide) ?_
  refine yOne (i := 1) kr_ ?_
  refine yVal (i := 1) (v := .agg (pcs (stepP q.p (bdB q) (1))).toArray) rfl rfl (gLoadAg (vs := pcs (stepP q.p (bdB q) (1))) (k := 0) 1 hm108 rfl kr_ kr_ (.tmp 5) Ty.ag_voxel_api_Point rfl le_) rfl (by decide) ?_
  refine yOne (i := 9) kr_ ?_
  refine yYield (i := 9) lp [.agg (pcs (stepP q.p (bdB q) (1))).toArray, .agg ([.int .i64 ((stepP (stepP q.p (bdB q) (1)) (bdC q) (0)).x), .int .i64 ((stepP (stepP q.p (bdB q) (1)) (bdC q) (0)).y), .int .i64 ((stepP (stepP q.p (bdB q) (1)) (bdC q) (0)).z), .int .i64 (bdC q)]).toArray] rfl rfl rfl le_ (litArgs kr_) (hY 1 [.agg (pcs (stepP q.p (bdB q) (1))).toArray, .agg ([.int .i64 ((stepP (stepP q.p (bdB q) (1)) (bdC q) (0)).x), .int .i64 ((stepP (stepP q.p (bdB q) (1)) (bdC q) (0)).y), .int .i64 ((stepP (stepP q.p (bdB q) (1)) (bdC q) (0)).z), .int .i64 (bdC q)]).toArray] _ V62 ([.arr g 45 (qdc q), .arr g11 23 (pcs (stepP q.p (bdB q) (1)))] ++ M) (brdV_get (x := (brd q).getD 1 (p0, ⟨p0, 0⟩)) (by rfl)) hJ67 (hm108.permL (permY [.arr g 45 (qdc q), .arr g11 23 (pcs (stepP q.p (bdB q) (1)))] V62 M))) rfl (by decide) ?_
  rintro e w111 ⟨t109, V110, rfl, hq_, hT113, hF114⟩
  have hm112 : Mem w0 w111 ((.arr g 45 (qdc q)) :: (.arr g11 23 (pcs (stepP q.p (bdB q) (1)))) :: (V110 ++ M)) := hq_.permL (permY [.arr g 45 (qdc q), .arr g11 23 (pcs (stepP q.p (bdB q) (1)))] V110 M).symm
  clear hq_ hm108
  refine ⟨_, rfl, ?_⟩
  refine yOne (i := 10) kr_ ?_
  refine yVal (i := 10) (v := .bool (!t109)) rfl rfl (litRun kr_) rfl (by decide) ?_
  refine wpAnyIn_done kr_ ?_ _
  exact ⟨t109, V110, ⟨litSize, rfl, fo_⟩, hm112, hT113, hF114⟩
 clear hm70
 intro a117 w115 hI_
 obtain ⟨t119, V120, hF_, hm116, hT121, hF122⟩ := hI_
 obtain ⟨X118, rfl⟩ := frLit hF_
 clear hF_
 rcases bool_or t119 with hb_ | hb_ <;> subst hb_
 ·have hX123 := hF122 rfl
  refine wp_cond_true le_ ?_
  refine wp_ret ?_
  refine then_ret ?_
  refine inBlock_ret ?_
  refine then_ret ?_
  refine then_ret ?_
  refine inBlock_ret ?_
  refine inBlock_ret ?_
  refine then_ret ?_
  refine then_ret ?_
  refine inBlock_ret ?_
  refine bodyPost_ret (v := .tuple #[]) (gRes0 rfl) rfl ?_
  have hm124 : Mem w0 w115 ((.arr g 45 (qdc q)) :: (V120 ++ M)) := (hm116.sub (.cons_cons _ (.cons _ (List.Sublist.refl _))))
  clear hm116
  exact ⟨⟨_, rfl⟩, V120, hm124.permL (permY [.arr g 45 (qdc q)] V120 M), Or.inr hX123⟩
 have hJ125 := hT121 rfl
 refine wp_cond_false le_ ?_
 refine wp_skip ?_
 refine tn_ hK88 ?_
 refine plStart ?_
 refine lv_ rfl (.agg (pcs (stepP q.p (bdB q) (1))).toArray) (la_ 0 1 hm116 Ty.ag_voxel_api_Point) ?_
 refine li_ (bdC q) ?_
 refine li_ 1 ?_
 refine plCall (i := 3) 104 [.agg (pcs (stepP q.p (bdB q) (1))).toArray, .int .i64 (bdC q), .int .i64 1] [] [] rfl kr_ (wn rfl) rfl le_ (litArgs kr_) (step_any (stepP q.p (bdB q) (1)) (bdC q) (1) (by have h_ := bd_ax h; simp only [h_]) (by have h_ := bdP_w h 1; simp only [bdP] at h_; unfold Pt.w at *; omega) (by omega) _) ?_
 rintro e w126 ⟨rfl, hbz⟩
 have hm127 := hm116.below hbz
 clear hbz hm116
 refine ⟨_, rfl, ?_⟩
 refine qP rfl ?_
 refine plStore 1 Ty.ag_voxel_api_Point hm127 rfl (i := 4) (cs := pcs (stepP (stepP q.p (bdB q) (1)) (bdC q) (1))) rfl (wn rfl) rfl le_ le_ rfl rfl kr_ ?_
 intro w129 hm128
 clear hm127
 try simp only [lc_] at hm128
 refine qNone rfl ?_
 refine plD ?_
 refine inBlock_normal ?_
 refine tn_ hK87 ?_
 refine plStart ?_
 refine li_ 1 ?_
 refine li_ 1 ?_
 refine plD ?_
 refine then_normal (roundsNext ?_)
 refine sp_ fun _ hK130 => ?_
 refine lv_ rfl _ (lsF_ (show ¬ (1 : Int) < q.sz by have := h.2.2; omega)) ?_
 refine pt_ hK130 ?_
 refine sk_ fun _ hK131 => ?_
 refine wp_cond_false le_ ?_
 refine wp_exit ?_
 refine then_exit ?_
 refine then_exit ?_
 refine inBlock_exit ?_
 refine inBlock_normal ?_
 refine tn_ hK76 ?_
 refine plStart ?_
 refine li_ 2 ?_
 refine li_ 2 ?_
 refine plD ?_
 refine then_normal (roundsNext ?_)
 refine sp_ fun _ hK132 => ?_
 refine lT_ ?_
 refine pt_ hK132 ?_
 refine sk_ fun _ hK133 => ?_
 refine wp_cond_true le_ ?_
 refine wp_skip ?_
 refine tn_ hK133 ?_
 refine sk_ fun _ hK134 => ?_
 refine wp_block ?_
 refine sp_ fun _ hK135 => ?_
 refine li_ 2 ?_
 refine li_ 2 ?_
 refine pt_ hK135 ?_
 refine sp_ fun _ hK136 => ?_
 refine li_ (bdB q) ?_
 refine li_ (bdB q) ?_
 refine li_ 1 ?_
 refine pt_ hK136 ?_
 refine wpPrune [(0, .func (.yield lp) #[] #[]), (1, .pointer (some ⟨g, 0, none⟩)), (3, .int .i64 (bdB q)), (4, .int .i64 (bdC q)), (5, .pointer (some ⟨g11, 0, none⟩)), (6, .int .i64 2), (7, .int .i64 (bdB q)), (8, .int .i64 1), (22, .int .i64 2), (23, .bool true), (24, .int .i64 2), (25, .int .i64 (bdB q)), (26, .int .i64 1), (27, .int .i64 1), (28, .bool true), (29, .int .i64 (bdC q)), (30, .int .i64 1), (31, .bool false), (32, .pointer (some ⟨g, 5, none⟩)), (33, .int .i64 q.sz), (34, .int .i64 1), (35, .bool false), (46, .bool false), (47, .agg (pcs (stepP q.p (bdB q) (1))).toArray), (48, .int .i64 (bdC q)), (49, .int .i64 1), (50, .agg (pcs (stepP (stepP q.p (bdB q) (1)) (bdC q) (1))).toArray), (51, .int .i64 1), (52, .int .i64 2)] fo_ (fun X137 => ?_)
 refine sk_ fun _ hK138 => ?_
 refine sp_ fun _ hK139 => ?_
 refine li_ 2 ?_
 refine li_ 0 ?_
 refine lF_ ?_
 refine pt_ hK139 ?_
 refine wp_cond_false le_ ?_
 refine wp_skip ?_
 refine tn_ hK138 ?_
 refine sk_ fun _ hK140 => ?_
 refine sp_ fun _ hK141 => ?_
 refine li_ 2 ?_
 refine lT_ ?_
 refine pt_ hK141 ?_
 refine wp_cond_true le_ ?_
 refine plStart ?_
 refine li_ (-1) ?_
 refine pt_ hK140 ?_
 refine sp_ fun _ hK142 => ?_
 refine lp_ g 5 ?_
 refine lv_ rfl (.int .i64 q.sz) (ld_ 5 0 hm128) ?_
 refine li_ 0 ?_
 refine pt_ hK142 ?_
 refine wp_block ?_
 refine roundsStart 2 ?_
 refine sp_ fun _ hK143 => ?_
 refine lv_ rfl _ (lsT_ (show (0 : Int) < q.sz by have := h.2.2; omega)) ?_
 refine pt_ hK143 ?_
 refine sk_ fun _ hK144 => ?_
 refine wp_cond_true le_ ?_
 refine wp_skip ?_
 refine tn_ hK144 ?_
 refine sk_ fun _ hK145 => ?_
 refine wp_block ?_
 refine sk_ fun _ hK146 => ?_
 refine gwCut (fun a_ w_ => ∃ (t_ : Bool) (V_ : List Res), Fr a_ 53 [(0, .func (.yield lp) #[] #[]), (1, .pointer (some ⟨g, 0, none⟩)), (3, .int .i64 (bdB q)), (4, .int .i64 (bdC q)), (5, .pointer (some ⟨g11, 0, none⟩)), (6, .int .i64 2), (7, .int .i64 (bdB q)), (8, .int .i64 (-1)), (22, .int .i64 2), (23, .bool true), (24, .int .i64 2), (25, .int .i64 (bdB q)), (26, .int .i64 2), (27, .int .i64 0), (28, .bool false), (29, .int .i64 (bdC q)), (30, .int .i64 2), (31, .bool true), (32, .pointer (some ⟨g, 5, none⟩)), (33, .int .i64 q.sz), (34, .int .i64 0), (35, .bool true), (47, .agg (pcs (stepP q.p (bdB q) (1))).toArray), (48, .int .i64 (bdC q)), (49, .int .i64 1), (50, .agg (pcs (stepP (stepP q.p (bdB q) (1)) (bdC q) (1))).toArray), (51, .int .i64 1), (52, .int .i64 2), (46, .bool (!t_))] ∧ Mem w0 w_ ((.arr g 45 (qdc q)) :: (.arr g11 23 (pcs (stepP (stepP q.p (bdB q) (1)) (bdC q) (1)))) :: (V_ ++ M)) ∧ (t_ = true → J (3) V_) ∧ (t_ = false → Jx V_)) ?_ ?_
 ·refine yStart hm128 kr_ ?_
  intro w147 hm148
  clear hm128
  refine yTake (i := 0) (v := .func (.yield lp) #[] #[]) rfl kr_ rfl (fun _ _ _ h_ => h_) rfl (fun _ => by kernel_rfl) (fun _ => rfl) (by decide) ?_
  refine yTake (i := 3) (v := .int .i64 (bdB q)) rfl kr_ rfl (fun _ _ _ h_ => h_) rfl (fun _ => by kernel_rfl) (fun _ => rfl) (by decide) ?_
  refine yTake (i := 4) (v := .int .i64 (-1)) rfl kr_ rfl (fun _ _ _ h_ => h_) rfl (fun _ => by kernel_rfl) (fun _ => rfl) (by decide) ?_
  refine yTake (i := 5) (v := .int .i64 (-1)) rfl kr_ rfl (fun _ _ _ h_ => h_) rfl (fun _ => by kernel_rfl) (fun _ => rfl) (by decide) ?_
  refine yTake (i := 7) (v := .int .i64 (bdB q)) rfl kr_ rfl (fun _ _ _ h_ => h_) rfl (fun _ => by kernel_rfl) (fun _ => rfl) (by decide) ?_
  refine yTwo (i := 1) (j := 2) kr_ ?_ ?_
  ·refine yVal (i := 1) (v := .agg (pcs (stepP (stepP q.p (bdB q) (1)) (bdC q) (1))).toArray) rfl rfl (gLoadAg (vs := pcs (stepP (stepP q.p (bdB q) (1)) (bdC q) (1))) (k := 0) 1 hm148 rfl kr_ kr_ (.tmp 5) Ty.ag_voxel_api_Point rfl le_) rfl (by decide) ?_
   refine yOne (i := 2) kr_ ?_
   refine yVal (i := 2) (v := .agg (pcs (stepP (stepP q.p (bdB q) (1)) (bdC q) (1))).toArray) rfl rfl (gLoadAg (vs := pcs (stepP (stepP q.p (bdB q) (1)) (bdC q) (1))) (k := 0) 1 hm148 rfl kr_ kr_ (.tmp 5) Ty.ag_voxel_api_Point rfl le_) rfl (by decide) ?_
   refine yOne (i := 6) kr_ ?_
   refine yCall (i := 6) 104 [.agg (pcs (stepP (stepP q.p (bdB q) (1)) (bdC q) (1))).toArray, .int .i64 (bdB q), .int .i64 (-1)] kr_ (fun _ _ h_ => by obtain ⟨⟨_, h_⟩, _⟩ := h_; cases h_) rfl kr_ rfl rfl le_ (litArgs kr_) (step_any (stepP (stepP q.p (bdB q) (1)) (bdC q) (1)) (bdB q) (-1) (by have h_ := bd_ax h; simp only [h_]) (by have h_ := bdP_w h 2; simp only [bdP] at h_; unfold Pt.w at *; omega) (by omega) _) rfl (by decide) ?_
   rintro e w149 ⟨rfl, hbz⟩
   have hm150 := hm148.below hbz
   clear hbz hm148
   refine ⟨_, rfl, ?_⟩
   refine yTake (i := 8) (v := .agg ([.int .i64 ((stepP (stepP (stepP q.p (bdB q) (1)) (bdC q) (1)) (bdB q) (-1)).x), .int .i64 ((stepP (stepP (stepP q.p (bdB q) (1)) (bdC q) (1)) (bdB q) (-1)).y), .int .i64 ((stepP (stepP (stepP q.p (bdB q) (1)) (bdC q) (1)) (bdB q) (-1)).z), .int .i64 (bdB q)]).toArray) rfl kr_ rfl (fun _ _ _ h_ => h_) rfl (fun _ => by kernel_rfl) (fun _ => rfl) (by decide) ?_
   refine yOne (i := 9) kr_ ?_
   refine yYield (i := 9) lp [.agg (pcs (stepP (stepP q.p (bdB q) (1)) (bdC q) (1))).toArray, .agg ([.int .i64 ((stepP (stepP (stepP q.p (bdB q) (1)) (bdC q) (1)) (bdB q) (-1)).x), .int .i64 ((stepP (stepP (stepP q.p (bdB q) (1)) (bdC q) (1)) (bdB q) (-1)).y), .int .i64 ((stepP (stepP (stepP q.p (bdB q) (1)) (bdC q) (1)) (bdB q) (-1)).z), .int .i64 (bdB q)]).toArray] rfl rfl rfl le_ (litArgs kr_) (hY 2 [.agg (pcs (stepP (stepP q.p (bdB q) (1)) (bdC q) (1))).toArray, .agg ([.int .i64 ((stepP (stepP (stepP q.p (bdB q) (1)) (bdC q) (1)) (bdB q) (-1)).x), .int .i64 ((stepP (stepP (stepP q.p (bdB q) (1)) (bdC q) (1)) (bdB q) (-1)).y), .int .i64 ((stepP (stepP (stepP q.p (bdB q) (1)) (bdC q) (1)) (bdB q) (-1)).z), .int .i64 (bdB q)]).toArray] _ V120 ([.arr g 45 (qdc q), .arr g11 23 (pcs (stepP (stepP q.p (bdB q) (1)) (bdC q) (1)))] ++ M) (brdV_get (x := (brd q).getD 2 (p0, ⟨p0, 0⟩)) (by rfl)) hJ125 (hm150.permL (permY [.arr g 45 (qdc q), .arr g11 23 (pcs (stepP (stepP q.p (bdB q) (1)) (bdC q) (1)))] V120 M))) rfl (by decide) ?_
   rintro e w153 ⟨t151, V152, rfl, hq_, hT155, hF156⟩
   have hm154 : Mem w0 w153 ((.arr g 45 (qdc q)) :: (.arr g11 23 (pcs (stepP (stepP q.p (bdB q) (1)) (bdC q) (1)))) :: (V152 ++ M)) := hq_.permL (permY [.arr g 45 (qdc q), .arr g11 23 (pcs (stepP (stepP q.p (bdB q) (1)) (bdC q) (1)))] V152 M).symm
   clear hq_ hm150
   refine ⟨_, rfl, ?_⟩
   refine yOne (i := 10) kr_ ?_
   refine yVal (i := 10) (v := .bool (!t151)) rfl rfl (litRun kr_) rfl (by decide) ?_
   refine wpAnyIn_done kr_ ?_ _
   exact ⟨t151, V152, ⟨litSize, rfl, fo_⟩, hm154, hT155, hF156⟩
  refine yVal (i := 2) (v := .agg (pcs (stepP (stepP q.p (bdB q) (1)) (bdC q) (1))).toArray) rfl rfl (gLoadAg (vs := pcs (stepP (stepP q.p (bdB q) (1)) (bdC q) (1))) (k := 0) 1 hm148 rfl kr_ kr_ (.tmp 5) Ty.ag_voxel_api_Point rfl le_) rfl (by decide) ?_
  refine yTwo (i := 1) (j := 6) kr_ ?_ ?_
  ·refine yVal (i := 1) (v := .agg (pcs (stepP (stepP q.p (bdB q) (1)) (bdC q) (1))).toArray) rfl rfl (gLoadAg (vs := pcs (stepP (stepP q.p (bdB q) (1)) (bdC q) (1))) (k := 0) 1 hm148 rfl kr_ kr_ (.tmp 5) Ty.ag_voxel_api_Point rfl le_) rfl (by decide) ?_
   refine yOne (i := 6) kr_ ?_
   refine yCall (i := 6) 104 [.agg (pcs (stepP (stepP q.p (bdB q) (1)) (bdC q) (1))).toArray, .int .i64 (bdB q), .int .i64 (-1)] kr_ (fun _ _ h_ => by obtain ⟨⟨_, h_⟩, _⟩ := h_; cases h_) rfl kr_ rfl rfl le_ (litArgs kr_) (step_any (stepP (stepP q.p (bdB q) (1)) (bdC q) (1)) (bdB q) (-1) (by have h_ := bd_ax h; simp only [h_]) (by have h_ := bdP_w h 2; simp only [bdP] at h_; unfold Pt.w at *; omega) (by omega) _) rfl (by decide) ?_
   rintro e w157 ⟨rfl, hbz⟩
   have hm158 := hm148.below hbz
   clear hbz hm148
   refine ⟨_, rfl, ?_⟩
   refine yTake (i := 8) (v := .agg ([.int .i64 ((stepP (stepP (stepP q.p (bdB q) (1)) (bdC q) (1)) (bdB q) (-1)).x), .int .i64 ((stepP (stepP (stepP q.p (bdB q) (1)) (bdC q) (1)) (bdB q) (-1)).y), .int .i64 ((stepP (stepP (stepP q.p (bdB q) (1)) (bdC q) (1)) (bdB q) (-1)).z), .int .i64 (bdB q)]).toArray) rfl kr_ rfl (fun _ _ _ h_ => h_) rfl (fun _ => by kernel_rfl) (fun _ => rfl) (by decide) ?_
   refine yOne (i := 9) kr_ ?_
   refine yYield (i := 9) lp [.agg (pcs (stepP (stepP q.p (bdB q) (1)) (bdC q) (1))).toArray, .agg ([.int .i64 ((stepP (stepP (stepP q.p (bdB q) (1)) (bdC q) (1)) (bdB q) (-1)).x), .int .i64 ((stepP (stepP (stepP q.p (bdB q) (1)) (bdC q) (1)) (bdB q) (-1)).y), .int .i64 ((stepP (stepP (stepP q.p (bdB q) (1)) (bdC q) (1)) (bdB q) (-1)).z), .int .i64 (bdB q)]).toArray] rfl rfl rfl le_ (litArgs kr_) (hY 2 [.agg (pcs (stepP (stepP q.p (bdB q) (1)) (bdC q) (1))).toArray, .agg ([.int .i64 ((stepP (stepP (stepP q.p (bdB q) (1)) (bdC q) (1)) (bdB q) (-1)).x), .int .i64 ((stepP (stepP (stepP q.p (bdB q) (1)) (bdC q) (1)) (bdB q) (-1)).y), .int .i64 ((stepP (stepP (stepP q.p (bdB q) (1)) (bdC q) (1)) (bdB q) (-1)).z), .int .i64 (bdB q)]).toArray] _ V120 ([.arr g 45 (qdc q), .arr g11 23 (pcs (stepP (stepP q.p (bdB q) (1)) (bdC q) (1)))] ++ M) (brdV_get (x := (brd q).getD 2 (p0, ⟨p0, 0⟩)) (by rfl)) hJ125 (hm158.permL (permY [.arr g 45 (qdc q), .arr g11 23 (pcs (stepP (stepP q.p (bdB q) (1)) (bdC q) (1)))] V120 M))) rfl (by decide) ?_
   rintro e w161 ⟨t159, V160, rfl, hq_, hT163, hF164⟩
   have hm162 : Mem w0 w161 ((.arr g 45 (qdc q)) :: (.arr g11 23 (pcs (stepP (stepP q.p (bdB q) (1)) (bdC q) (1)))) :: (V160 ++ M)) := hq_.permL (permY [.arr g 45 (qdc q), .arr g11 23 (pcs (stepP (stepP q.p (bdB q) (1)) (bdC q) (1)))] V160 M).symm
   clear hq_ hm158
   refine ⟨_, rfl, ?_⟩
   refine yOne (i := 10) kr_ ?_
   refine yVal (i := 10) (v := .bool (!t159)) rfl rfl (litRun kr_) rfl (by decide) ?_
   refine wpAnyIn_done kr_ ?_ _
   exact ⟨t159, V160, ⟨litSize, rfl, fo_⟩, hm162, hT163, hF164⟩
  refine yCall (i := 6) 104 [.agg (pcs (stepP (stepP q.p (bdB q) (1)) (bdC q) (1))).toArray, .int .i64 (bdB q), .int .i64 (-1)] kr_ (fun _ _ h_ => by obtain ⟨⟨_, h_⟩, _⟩ := h_; cases h_) rfl kr_ rfl rfl le_ (litArgs kr_) (step_any (stepP (stepP q.p (bdB q) (1)) (bdC q) (1)) (bdB q) (-1) (by have h_ := bd_ax h; simp only [h_]) (by have h_ := bdP_w h 2; simp only [bdP] at h_; unfold Pt.w at *; omega) (by omega) _) rfl (by decide) ?_
  rintro e w165 ⟨rfl, hbz⟩
  have hm166 := hm148.below hbz
  clear hbz hm148
  refine ⟨_, rfl, ?_⟩
  refine yTake (i := 8) (v := .agg ([.int .i64 ((stepP (stepP (stepP q.p (bdB q) (1)) (bdC q) (1)) (bdB q) (-1)).x), .int .i64 ((stepP (stepP (stepP q.p (bdB q) (1)) (bdC q) (1)) (bdB q) (-1)).y), .int .i64 ((stepP (stepP (stepP q.p (bdB q) (1)) (bdC q) (1)) (bdB q) (-1)).z), .int .i64 (bdB q)]).toArray) rfl kr_ rfl (fun _ _ _ h_ => h_) rfl (fun _ => by kernel_rfl) (fun _ => rfl) (by decide) ?_
  refine yOne (i := 1) kr_ ?_
  refine yVal (i := 1) (v := .agg (pcs (stepP (stepP q.p (bdB q) (1)) (bdC q) (1))).toArray) rfl rfl (gLoadAg (vs := pcs (stepP (stepP q.p (bdB q) (1)) (bdC q) (1))) (k := 0) 1 hm166 rfl kr_ kr_ (.tmp 5) Ty.ag_voxel_api_Point rfl le_) rfl (by decide) ?_
  refine yOne (i := 9) kr_ ?_
  refine yYield (i := 9) lp [.agg (pcs (stepP (stepP q.p (bdB q) (1)) (bdC q) (1))).toArray, .agg ([.int .i64 ((stepP (stepP (stepP q.p (bdB q) (1)) (bdC q) (1)) (bdB q) (-1)).x), .int .i64 ((stepP (stepP (stepP q.p (bdB q) (1)) (bdC q) (1)) (bdB q) (-1)).y), .int .i64 ((stepP (stepP (stepP q.p (bdB q) (1)) (bdC q) (1)) (bdB q) (-1)).z), .int .i64 (bdB q)]).toArray] rfl rfl rfl le_ (litArgs kr_) (hY 2 [.agg (pcs (stepP (stepP q.p (bdB q) (1)) (bdC q) (1))).toArray, .agg ([.int .i64 ((stepP (stepP (stepP q.p (bdB q) (1)) (bdC q) (1)) (bdB q) (-1)).x), .int .i64 ((stepP (stepP (stepP q.p (bdB q) (1)) (bdC q) (1)) (bdB q) (-1)).y), .int .i64 ((stepP (stepP (stepP q.p (bdB q) (1)) (bdC q) (1)) (bdB q) (-1)).z), .int .i64 (bdB q)]).toArray] _ V120 ([.arr g 45 (qdc q), .arr g11 23 (pcs (stepP (stepP q.p (bdB q) (1)) (bdC q) (1)))] ++ M) (brdV_get (x := (brd q).getD 2 (p0, ⟨p0, 0⟩)) (by rfl)) hJ125 (hm166.permL (permY [.arr g 45 (qdc q), .arr g11 23 (pcs (stepP (stepP q.p (bdB q) (1)) (bdC q) (1)))] V120 M))) rfl (by decide) ?_
  rintro e w169 ⟨t167, V168, rfl, hq_, hT171, hF172⟩
  have hm170 : Mem w0 w169 ((.arr g 45 (qdc q)) :: (.arr g11 23 (pcs (stepP (stepP q.p (bdB q) (1)) (bdC q) (1)))) :: (V168 ++ M)) := hq_.permL (permY [.arr g 45 (qdc q), .arr g11 23 (pcs (stepP (stepP q.p (bdB q) (1)) (bdC q) (1)))] V168 M).symm
  clear hq_ hm166
  refine ⟨_, rfl, ?_⟩
  refine yOne (i := 10) kr_ ?_
  refine yVal (i := 10) (v := .bool (!t167)) rfl rfl (litRun kr_) rfl (by decide) ?_
  refine wpAnyIn_done kr_ ?_ _
  exact ⟨t167, V168, ⟨litSize, rfl, fo_⟩, hm170, hT171, hF172⟩
 clear hm128
 intro a175 w173 hI_
 obtain ⟨t177, V178, hF_, hm174, hT179, hF180⟩ := hI_
 obtain ⟨X176, rfl⟩ := frLit hF_
 clear hF_
 rcases bool_or t177 with hb_ | hb_ <;> subst hb_
 ·have hX181 := hF180 rfl
  refine wp_cond_true le_ ?_
  refine wp_ret ?_
  refine then_ret ?_
  refine inBlock_ret ?_
  refine then_ret ?_
  refine then_ret ?_
  refine inBlock_ret ?_
  refine inBlock_ret ?_
  refine then_ret ?_
  refine then_ret ?_
  refine inBlock_ret ?_
  refine bodyPost_ret (v := .tuple #[]) (gRes0 rfl) rfl ?_
  have hm182 : Mem w0 w173 ((.arr g 45 (qdc q)) :: (V178 ++ M)) := (hm174.sub (.cons_cons _ (.cons _ (List.Sublist.refl _))))
  clear hm174
  exact ⟨⟨_, rfl⟩, V178, hm182.permL (permY [.arr g 45 (qdc q)] V178 M), Or.inr hX181⟩
 have hJ183 := hT179 rfl
 refine wp_cond_false le_ ?_
 refine wp_skip ?_
 refine tn_ hK146 ?_
 refine plStart ?_
 refine lv_ rfl (.agg (pcs (stepP (stepP q.p (bdB q) (1)) (bdC q) (1))).toArray) (la_ 0 1 hm174 Ty.ag_voxel_api_Point) ?_
 refine li_ (bdB q) ?_
 refine li_ (-1) ?_
 refine plCall (i := 3) 104 [.agg (pcs (stepP (stepP q.p (bdB q) (1)) (bdC q) (1))).toArray, .int .i64 (bdB q), .int .i64 (-1)] [] [] rfl kr_ (wn rfl) rfl le_ (litArgs kr_) (step_any (stepP (stepP q.p (bdB q) (1)) (bdC q) (1)) (bdB q) (-1) (by have h_ := bd_ax h; simp only [h_]) (by have h_ := bdP_w h 2; simp only [bdP] at h_; unfold Pt.w at *; omega) (by omega) _) ?_
 rintro e w184 ⟨rfl, hbz⟩
 have hm185 := hm174.below hbz
 clear hbz hm174
 refine ⟨_, rfl, ?_⟩
 refine qP rfl ?_
 refine plStore 1 Ty.ag_voxel_api_Point hm185 rfl (i := 4) (cs := pcs (stepP (stepP (stepP q.p (bdB q) (1)) (bdC q) (1)) (bdB q) (-1))) rfl (wn rfl) rfl le_ le_ rfl rfl kr_ ?_
 intro w187 hm186
 clear hm185
 try simp only [lc_] at hm186
 refine qNone rfl ?_
 refine plD ?_
 refine inBlock_normal ?_
 refine tn_ hK145 ?_
 refine plStart ?_
 refine li_ 1 ?_
 refine li_ 1 ?_
 refine plD ?_
 refine then_normal (roundsNext ?_)
 refine sp_ fun _ hK188 => ?_
 refine lv_ rfl _ (lsF_ (show ¬ (1 : Int) < q.sz by have := h.2.2; omega)) ?_
 refine pt_ hK188 ?_
 refine sk_ fun _ hK189 => ?_
 refine wp_cond_false le_ ?_
 refine wp_exit ?_
 refine then_exit ?_
 refine then_exit ?_
 refine inBlock_exit ?_
 refine inBlock_normal ?_
 refine tn_ hK134 ?_
 refine plStart ?_
 refine li_ 3 ?_
 refine li_ 3 ?_
 refine plD ?_
 refine then_normal (roundsNext ?_)
 refine sp_ fun _ hK190 => ?_
 refine lT_ ?_
 refine pt_ hK190 ?_
 refine sk_ fun _ hK191 => ?_
 refine wp_cond_true le_ ?_
 refine wp_skip ?_
 refine tn_ hK191 ?_
 refine sk_ fun _ hK192 => ?_
 refine wp_block ?_
 refine sp_ fun _ hK193 => ?_
 refine li_ 3 ?_
 refine li_ 3 ?_
 refine pt_ hK193 ?_
 refine sp_ fun _ hK194 => ?_
 refine li_ (bdB q) ?_
 refine li_ (bdB q) ?_
 refine li_ 1 ?_
 refine pt_ hK194 ?_
 refine wpPrune [(0, .func (.yield lp) #[] #[]), (1, .pointer (some ⟨g, 0, none⟩)), (3, .int .i64 (bdB q)), (4, .int .i64 (bdC q)), (5, .pointer (some ⟨g11, 0, none⟩)), (6, .int .i64 3), (7, .int .i64 (bdB q)), (8, .int .i64 1), (22, .int .i64 3), (23, .bool true), (24, .int .i64 3), (25, .int .i64 (bdB q)), (26, .int .i64 2), (27, .int .i64 0), (28, .bool false), (29, .int .i64 (bdC q)), (30, .int .i64 2), (31, .bool true), (32, .pointer (some ⟨g, 5, none⟩)), (33, .int .i64 q.sz), (34, .int .i64 1), (35, .bool false), (46, .bool false), (47, .agg (pcs (stepP (stepP q.p (bdB q) (1)) (bdC q) (1))).toArray), (48, .int .i64 (bdB q)), (49, .int .i64 (-1)), (50, .agg (pcs (stepP (stepP (stepP q.p (bdB q) (1)) (bdC q) (1)) (bdB q) (-1))).toArray), (51, .int .i64 1), (52, .int .i64 3)] fo_ (fun X195 => ?_)
 refine sk_ fun _ hK196 => ?_
 refine sp_ fun _ hK197 => ?_
 refine li_ 3 ?_
 refine li_ 1 ?_
 refine lT_ ?_
 refine pt_ hK197 ?_
 refine wp_cond_true le_ ?_
 refine plStart ?_
 refine li_ (bdC q) ?_
 refine li_ (bdC q) ?_
 refine pt_ hK196 ?_
 refine sk_ fun _ hK198 => ?_
 refine sp_ fun _ hK199 => ?_
 refine li_ 3 ?_
 refine lT_ ?_
 refine pt_ hK199 ?_
 refine wp_cond_true le_ ?_
 refine plStart ?_
 refine li_ (-1) ?_
 refine pt_ hK198 ?_
 refine sp_ fun _ hK200 => ?_
 refine lp_ g 5 ?_
 refine lv_ rfl (.int .i64 q.sz) (ld_ 5 0 hm186) ?_
 refine li_ 0 ?_
 refine pt_ hK200 ?_
 refine wp_block ?_
 refine roundsStart 2 ?_
 refine sp_ fun _ hK201 => ?_
 refine lv_ rfl _ (lsT_ (show (0 : Int) < q.sz by have := h.2.2; omega)) ?_
 refine pt_ hK201 ?_
 refine sk_ fun _ hK202 => ?_
 refine wp_cond_true le_ ?_
 refine wp_skip ?_
 refine tn_ hK202 ?_
 refine sk_ fun _ hK203 => ?_
 refine wp_block ?_
 refine sk_ fun _ hK204 => ?_
 refine gwCut (fun a_ w_ => ∃ (t_ : Bool) (V_ : List Res), Fr a_ 53 [(0, .func (.yield lp) #[] #[]), (1, .pointer (some ⟨g, 0, none⟩)), (3, .int .i64 (bdB q)), (4, .int .i64 (bdC q)), (5, .pointer (some ⟨g11, 0, none⟩)), (6, .int .i64 3), (7, .int .i64 (bdC q)), (8, .int .i64 (-1)), (22, .int .i64 3), (23, .bool true), (24, .int .i64 3), (25, .int .i64 (bdB q)), (26, .int .i64 3), (27, .int .i64 1), (28, .bool true), (29, .int .i64 (bdC q)), (30, .int .i64 3), (31, .bool true), (32, .pointer (some ⟨g, 5, none⟩)), (33, .int .i64 q.sz), (34, .int .i64 0), (35, .bool true), (47, .agg (pcs (stepP (stepP q.p (bdB q) (1)) (bdC q) (1))).toArray), (48, .int .i64 (bdB q)), (49, .int .i64 (-1)), (50, .agg (pcs (stepP (stepP (stepP q.p (bdB q) (1)) (bdC q) (1)) (bdB q) (-1))).toArray), (51, .int .i64 1), (52, .int .i64 3), (46, .bool (!t_))] ∧ Mem w0 w_ ((.arr g 45 (qdc q)) :: (.arr g11 23 (pcs (stepP (stepP (stepP q.p (bdB q) (1)) (bdC q) (1)) (bdB q) (-1)))) :: (V_ ++ M)) ∧ (t_ = true → J (4) V_) ∧ (t_ = false → Jx V_)) ?_ ?_
 ·refine yStart hm186 kr_ ?_
  intro w205 hm206
  clear hm186
  refine yTake (i := 0) (v := .func (.yield lp) #[] #[]) rfl kr_ rfl (fun _ _ _ h_ => h_) rfl (fun _ => by kernel_rfl) (fun _ => rfl) (by decide) ?_
  refine yTake (i := 3) (v := .int .i64 (bdC q)) rfl kr_ rfl (fun _ _ _ h_ => h_) rfl (fun _ => by kernel_rfl) (fun _ => rfl) (by decide) ?_
  refine yTake (i := 4) (v := .int .i64 (-1)) rfl kr_ rfl (fun _ _ _ h_ => h_) rfl (fun _ => by kernel_rfl) (fun _ => rfl) (by decide) ?_
  refine yTake (i := 5) (v := .int .i64 (-1)) rfl kr_ rfl (fun _ _ _ h_ => h_) rfl (fun _ => by kernel_rfl) (fun _ => rfl) (by decide) ?_
  refine yTake (i := 7) (v := .int .i64 (bdC q)) rfl kr_ rfl (fun _ _ _ h_ => h_) rfl (fun _ => by kernel_rfl) (fun _ => rfl) (by decide) ?_
  refine yTwo (i := 1) (j := 2) kr_ ?_ ?_
  ·refine yVal (i := 1) (v := .agg (pcs (stepP (stepP (stepP q.p (bdB q) (1)) (bdC q) (1)) (bdB q) (-1))).toArray) rfl rfl (gLoadAg (vs := pcs (stepP (stepP (stepP q.p (bdB q) (1)) (bdC q) (1)) (bdB q) (-1))) (k := 0) 1 hm206 rfl kr_ kr_ (.tmp 5) Ty.ag_voxel_api_Point rfl le_) rfl (by decide) ?_
   refine yOne (i := 2) kr_ ?_
   refine yVal (i := 2) (v := .agg (pcs (stepP (stepP (stepP q.p (bdB q) (1)) (bdC q) (1)) (bdB q) (-1))).toArray) rfl rfl (gLoadAg (vs := pcs (stepP (stepP (stepP q.p (bdB q) (1)) (bdC q) (1)) (bdB q) (-1))) (k := 0) 1 hm206 rfl kr_ kr_ (.tmp 5) Ty.ag_voxel_api_Point rfl le_) rfl (by decide) ?_
   refine yOne (i := 6) kr_ ?_
   refine yCall (i := 6) 104 [.agg (pcs (stepP (stepP (stepP q.p (bdB q) (1)) (bdC q) (1)) (bdB q) (-1))).toArray, .int .i64 (bdC q), .int .i64 (-1)] kr_ (fun _ _ h_ => by obtain ⟨⟨_, h_⟩, _⟩ := h_; cases h_) rfl kr_ rfl rfl le_ (litArgs kr_) (step_any (stepP (stepP (stepP q.p (bdB q) (1)) (bdC q) (1)) (bdB q) (-1)) (bdC q) (-1) (by have h_ := bd_ax h; simp only [h_]) (by have h_ := bdP_w h 3; simp only [bdP] at h_; unfold Pt.w at *; omega) (by omega) _) rfl (by decide) ?_
   rintro e w207 ⟨rfl, hbz⟩
   have hm208 := hm206.below hbz
   clear hbz hm206
   refine ⟨_, rfl, ?_⟩
   refine yTake (i := 8) (v := .agg ([.int .i64 ((stepP (stepP (stepP (stepP q.p (bdB q) (1)) (bdC q) (1)) (bdB q) (-1)) (bdC q) (-1)).x), .int .i64 ((stepP (stepP (stepP (stepP q.p (bdB q) (1)) (bdC q) (1)) (bdB q) (-1)) (bdC q) (-1)).y), .int .i64 ((stepP (stepP (stepP (stepP q.p (bdB q) (1)) (bdC q) (1)) (bdB q) (-1)) (bdC q) (-1)).z), .int .i64 (bdC q)]).toArray) rfl kr_ rfl (fun _ _ _ h_ => h_) rfl (fun _ => by kernel_rfl) (fun _ => rfl) (by decide) ?_
   refine yOne (i := 9) kr_ ?_
   refine yYield (i := 9) lp [.agg (pcs (stepP (stepP (stepP q.p (bdB q) (1)) (bdC q) (1)) (bdB q) (-1))).toArray, .agg ([.int .i64 ((stepP (stepP (stepP (stepP q.p (bdB q) (1)) (bdC q) (1)) (bdB q) (-1)) (bdC q) (-1)).x), .int .i64 ((stepP (stepP (stepP (stepP q.p (bdB q) (1)) (bdC q) (1)) (bdB q) (-1)) (bdC q) (-1)).y), .int .i64 ((stepP (stepP (stepP (stepP q.p (bdB q) (1)) (bdC q) (1)) (bdB q) (-1)) (bdC q) (-1)).z), .int .i64 (bdC q)]).toArray] rfl rfl rfl le_ (litArgs kr_) (hY 3 [.agg (pcs (stepP (stepP (stepP q.p (bdB q) (1)) (bdC q) (1)) (bdB q) (-1))).toArray, .agg ([.int .i64 ((stepP (stepP (stepP (stepP q.p (bdB q) (1)) (bdC q) (1)) (bdB q) (-1)) (bdC q) (-1)).x), .int .i64 ((stepP (stepP (stepP (stepP q.p (bdB q) (1)) (bdC q) (1)) (bdB q) (-1)) (bdC q) (-1)).y), .int .i64 ((stepP (stepP (stepP (stepP q.p (bdB q) (1)) (bdC q) (1)) (bdB q) (-1)) (bdC q) (-1)).z), .int .i64 (bdC q)]).toArray] _ V178 ([.arr g 45 (qdc q), .arr g11 23 (pcs (stepP (stepP (stepP q.p (bdB q) (1)) (bdC q) (1)) (bdB q) (-1)))] ++ M) (brdV_get (x := (brd q).getD 3 (p0, ⟨p0, 0⟩)) (by rfl)) hJ183 (hm208.permL (permY [.arr g 45 (qdc q), .arr g11 23 (pcs (stepP (stepP (stepP q.p (bdB q) (1)) (bdC q) (1)) (bdB q) (-1)))] V178 M))) rfl (by decide) ?_
   rintro e w211 ⟨t209, V210, rfl, hq_, hT213, hF214⟩
   have hm212 : Mem w0 w211 ((.arr g 45 (qdc q)) :: (.arr g11 23 (pcs (stepP (stepP (stepP q.p (bdB q) (1)) (bdC q) (1)) (bdB q) (-1)))) :: (V210 ++ M)) := hq_.permL (permY [.arr g 45 (qdc q), .arr g11 23 (pcs (stepP (stepP (stepP q.p (bdB q) (1)) (bdC q) (1)) (bdB q) (-1)))] V210 M).symm
   clear hq_ hm208
   refine ⟨_, rfl, ?_⟩
   refine yOne (i := 10) kr_ ?_
   refine yVal (i := 10) (v := .bool (!t209)) rfl rfl (litRun kr_) rfl (by decide) ?_
   refine wpAnyIn_done kr_ ?_ _
   exact ⟨t209, V210, ⟨litSize, rfl, fo_⟩, hm212, hT213, hF214⟩
  refine yVal (i := 2) (v := .agg (pcs (stepP (stepP (stepP q.p (bdB q) (1)) (bdC q) (1)) (bdB q) (-1))).toArray) rfl rfl (gLoadAg (vs := pcs (stepP (stepP (stepP q.p (bdB q) (1)) (bdC q) (1)) (bdB q) (-1))) (k := 0) 1 hm206 rfl kr_ kr_ (.tmp 5) Ty.ag_voxel_api_Point rfl le_) rfl (by decide) ?_
  refine yTwo (i := 1) (j := 6) kr_ ?_ ?_
  ·refine yVal (i := 1) (v := .agg (pcs (stepP (stepP (stepP q.p (bdB q) (1)) (bdC q) (1)) (bdB q) (-1))).toArray) rfl rfl (gLoadAg (vs := pcs (stepP (stepP (stepP q.p (bdB q) (1)) (bdC q) (1)) (bdB q) (-1))) (k := 0) 1 hm206 rfl kr_ kr_ (.tmp 5) Ty.ag_voxel_api_Point rfl le_) rfl (by decide) ?_
   refine yOne (i := 6) kr_ ?_
   refine yCall (i := 6) 104 [.agg (pcs (stepP (stepP (stepP q.p (bdB q) (1)) (bdC q) (1)) (bdB q) (-1))).toArray, .int .i64 (bdC q), .int .i64 (-1)] kr_ (fun _ _ h_ => by obtain ⟨⟨_, h_⟩, _⟩ := h_; cases h_) rfl kr_ rfl rfl le_ (litArgs kr_) (step_any (stepP (stepP (stepP q.p (bdB q) (1)) (bdC q) (1)) (bdB q) (-1)) (bdC q) (-1) (by have h_ := bd_ax h; simp only [h_]) (by have h_ := bdP_w h 3; simp only [bdP] at h_; unfold Pt.w at *; omega) (by omega) _) rfl (by decide) ?_
   rintro e w215 ⟨rfl, hbz⟩
   have hm216 := hm206.below hbz
   clear hbz hm206
   refine ⟨_, rfl, ?_⟩
   refine yTake (i := 8) (v := .agg ([.int .i64 ((stepP (stepP (stepP (stepP q.p (bdB q) (1)) (bdC q) (1)) (bdB q) (-1)) (bdC q) (-1)).x), .int .i64 ((stepP (stepP (stepP (stepP q.p (bdB q) (1)) (bdC q) (1)) (bdB q) (-1)) (bdC q) (-1)).y), .int .i64 ((stepP (stepP (stepP (stepP q.p (bdB q) (1)) (bdC q) (1)) (bdB q) (-1)) (bdC q) (-1)).z), .int .i64 (bdC q)]).toArray) rfl kr_ rfl (fun _ _ _ h_ => h_) rfl (fun _ => by kernel_rfl) (fun _ => rfl) (by decide) ?_
   refine yOne (i := 9) kr_ ?_
   refine yYield (i := 9) lp [.agg (pcs (stepP (stepP (stepP q.p (bdB q) (1)) (bdC q) (1)) (bdB q) (-1))).toArray, .agg ([.int .i64 ((stepP (stepP (stepP (stepP q.p (bdB q) (1)) (bdC q) (1)) (bdB q) (-1)) (bdC q) (-1)).x), .int .i64 ((stepP (stepP (stepP (stepP q.p (bdB q) (1)) (bdC q) (1)) (bdB q) (-1)) (bdC q) (-1)).y), .int .i64 ((stepP (stepP (stepP (stepP q.p (bdB q) (1)) (bdC q) (1)) (bdB q) (-1)) (bdC q) (-1)).z), .int .i64 (bdC q)]).toArray] rfl rfl rfl le_ (litArgs kr_) (hY 3 [.agg (pcs (stepP (stepP (stepP q.p (bdB q) (1)) (bdC q) (1)) (bdB q) (-1))).toArray, .agg ([.int .i64 ((stepP (stepP (stepP (stepP q.p (bdB q) (1)) (bdC q) (1)) (bdB q) (-1)) (bdC q) (-1)).x), .int .i64 ((stepP (stepP (stepP (stepP q.p (bdB q) (1)) (bdC q) (1)) (bdB q) (-1)) (bdC q) (-1)).y), .int .i64 ((stepP (stepP (stepP (stepP q.p (bdB q) (1)) (bdC q) (1)) (bdB q) (-1)) (bdC q) (-1)).z), .int .i64 (bdC q)]).toArray] _ V178 ([.arr g 45 (qdc q), .arr g11 23 (pcs (stepP (stepP (stepP q.p (bdB q) (1)) (bdC q) (1)) (bdB q) (-1)))] ++ M) (brdV_get (x := (brd q).getD 3 (p0, ⟨p0, 0⟩)) (by rfl)) hJ183 (hm216.permL (permY [.arr g 45 (qdc q), .arr g11 23 (pcs (stepP (stepP (stepP q.p (bdB q) (1)) (bdC q) (1)) (bdB q) (-1)))] V178 M))) rfl (by decide) ?_
   rintro e w219 ⟨t217, V218, rfl, hq_, hT221, hF222⟩
   have hm220 : Mem w0 w219 ((.arr g 45 (qdc q)) :: (.arr g11 23 (pcs (stepP (stepP (stepP q.p (bdB q) (1)) (bdC q) (1)) (bdB q) (-1)))) :: (V218 ++ M)) := hq_.permL (permY [.arr g 45 (qdc q), .arr g11 23 (pcs (stepP (stepP (stepP q.p (bdB q) (1)) (bdC q) (1)) (bdB q) (-1)))] V218 M).symm
   clear hq_ hm216
   refine ⟨_, rfl, ?_⟩
   refine yOne (i := 10) kr_ ?_
   refine yVal (i := 10) (v := .bool (!t217)) rfl rfl (litRun kr_) rfl (by decide) ?_
   refine wpAnyIn_done kr_ ?_ _
   exact ⟨t217, V218, ⟨litSize, rfl, fo_⟩, hm220, hT221, hF222⟩
  refine yCall (i := 6) 104 [.agg (pcs (stepP (stepP (stepP q.p (bdB q) (1)) (bdC q) (1)) (bdB q) (-1))).toArray, .int .i64 (bdC q), .int .i64 (-1)] kr_ (fun _ _ h_ => by obtain ⟨⟨_, h_⟩, _⟩ := h_; cases h_) rfl kr_ rfl rfl le_ (litArgs kr_) (step_any (stepP (stepP (stepP q.p (bdB q) (1)) (bdC q) (1)) (bdB q) (-1)) (bdC q) (-1) (by have h_ := bd_ax h; simp only [h_]) (by have h_ := bdP_w h 3; simp only [bdP] at h_; unfold Pt.w at *; omega) (by omega) _) rfl (by decide) ?_
  rintro e w223 ⟨rfl, hbz⟩
  have hm224 := hm206.below hbz
  clear hbz hm206
  refine ⟨_, rfl, ?_⟩
  refine yTake (i := 8) (v := .agg ([.int .i64 ((stepP (stepP (stepP (stepP q.p (bdB q) (1)) (bdC q) (1)) (bdB q) (-1)) (bdC q) (-1)).x), .int .i64 ((stepP (stepP (stepP (stepP q.p (bdB q) (1)) (bdC q) (1)) (bdB q) (-1)) (bdC q) (-1)).y), .int .i64 ((stepP (stepP (stepP (stepP q.p (bdB q) (1)) (bdC q) (1)) (bdB q) (-1)) (bdC q) (-1)).z), .int .i64 (bdC q)]).toArray) rfl kr_ rfl (fun _ _ _ h_ => h_) rfl (fun _ => by kernel_rfl) (fun _ => rfl) (by decide) ?_
  refine yOne (i := 1) kr_ ?_
  refine yVal (i := 1) (v := .agg (pcs (stepP (stepP (stepP q.p (bdB q) (1)) (bdC q) (1)) (bdB q) (-1))).toArray) rfl rfl (gLoadAg (vs := pcs (stepP (stepP (stepP q.p (bdB q) (1)) (bdC q) (1)) (bdB q) (-1))) (k := 0) 1 hm224 rfl kr_ kr_ (.tmp 5) Ty.ag_voxel_api_Point rfl le_) rfl (by decide) ?_
  refine yOne (i := 9) kr_ ?_
  refine yYield (i := 9) lp [.agg (pcs (stepP (stepP (stepP q.p (bdB q) (1)) (bdC q) (1)) (bdB q) (-1))).toArray, .agg ([.int .i64 ((stepP (stepP (stepP (stepP q.p (bdB q) (1)) (bdC q) (1)) (bdB q) (-1)) (bdC q) (-1)).x), .int .i64 ((stepP (stepP (stepP (stepP q.p (bdB q) (1)) (bdC q) (1)) (bdB q) (-1)) (bdC q) (-1)).y), .int .i64 ((stepP (stepP (stepP (stepP q.p (bdB q) (1)) (bdC q) (1)) (bdB q) (-1)) (bdC q) (-1)).z), .int .i64 (bdC q)]).toArray] rfl rfl rfl le_ (litArgs kr_) (hY 3 [.agg (pcs (stepP (stepP (stepP q.p (bdB q) (1)) (bdC q) (1)) (bdB q) (-1))).toArray, .agg ([.int .i64 ((stepP (stepP (stepP (stepP q.p (bdB q) (1)) (bdC q) (1)) (bdB q) (-1)) (bdC q) (-1)).x), .int .i64 ((stepP (stepP (stepP (stepP q.p (bdB q) (1)) (bdC q) (1)) (bdB q) (-1)) (bdC q) (-1)).y), .int .i64 ((stepP (stepP (stepP (stepP q.p (bdB q) (1)) (bdC q) (1)) (bdB q) (-1)) (bdC q) (-1)).z), .int .i64 (bdC q)]).toArray] _ V178 ([.arr g 45 (qdc q), .arr g11 23 (pcs (stepP (stepP (stepP q.p (bdB q) (1)) (bdC q) (1)) (bdB q) (-1)))] ++ M) (brdV_get (x := (brd q).getD 3 (p0, ⟨p0, 0⟩)) (by rfl)) hJ183 (hm224.permL (permY [.arr g 45 (qdc q), .arr g11 23 (pcs (stepP (stepP (stepP q.p (bdB q) (1)) (bdC q) (1)) (bdB q) (-1)))] V178 M))) rfl (by decide) ?_
  rintro e w227 ⟨t225, V226, rfl, hq_, hT229, hF230⟩
  have hm228 : Mem w0 w227 ((.arr g 45 (qdc q)) :: (.arr g11 23 (pcs (stepP (stepP (stepP q.p (bdB q) (1)) (bdC q) (1)) (bdB q) (-1)))) :: (V226 ++ M)) := hq_.permL (permY [.arr g 45 (qdc q), .arr g11 23 (pcs (stepP (stepP (stepP q.p (bdB q) (1)) (bdC q) (1)) (bdB q) (-1)))] V226 M).symm
  clear hq_ hm224
  refine ⟨_, rfl, ?_⟩
  refine yOne (i := 10) kr_ ?_
  refine yVal (i := 10) (v := .bool (!t225)) rfl rfl (litRun kr_) rfl (by decide) ?_
  refine wpAnyIn_done kr_ ?_ _
  exact ⟨t225, V226, ⟨litSize, rfl, fo_⟩, hm228, hT229, hF230⟩
 clear hm186
 intro a233 w231 hI_
 obtain ⟨t235, V236, hF_, hm232, hT237, hF238⟩ := hI_
 obtain ⟨X234, rfl⟩ := frLit hF_
 clear hF_
 rcases bool_or t235 with hb_ | hb_ <;> subst hb_
 ·have hX239 := hF238 rfl
  refine wp_cond_true le_ ?_
  refine wp_ret ?_
  refine then_ret ?_
  refine inBlock_ret ?_
  refine then_ret ?_
  refine then_ret ?_
  refine inBlock_ret ?_
  refine inBlock_ret ?_
  refine then_ret ?_
  refine then_ret ?_
  refine inBlock_ret ?_
  refine bodyPost_ret (v := .tuple #[]) (gRes0 rfl) rfl ?_
  have hm240 : Mem w0 w231 ((.arr g 45 (qdc q)) :: (V236 ++ M)) := (hm232.sub (.cons_cons _ (.cons _ (List.Sublist.refl _))))
  clear hm232
  exact ⟨⟨_, rfl⟩, V236, hm240.permL (permY [.arr g 45 (qdc q)] V236 M), Or.inr hX239⟩
 have hJ241 := hT237 rfl
 refine wp_cond_false le_ ?_
 refine wp_skip ?_
 refine tn_ hK204 ?_
 refine plStart ?_
 refine lv_ rfl (.agg (pcs (stepP (stepP (stepP q.p (bdB q) (1)) (bdC q) (1)) (bdB q) (-1))).toArray) (la_ 0 1 hm232 Ty.ag_voxel_api_Point) ?_
 refine li_ (bdC q) ?_
 refine li_ (-1) ?_
 refine plCall (i := 3) 104 [.agg (pcs (stepP (stepP (stepP q.p (bdB q) (1)) (bdC q) (1)) (bdB q) (-1))).toArray, .int .i64 (bdC q), .int .i64 (-1)] [] [] rfl kr_ (wn rfl) rfl le_ (litArgs kr_) (step_any (stepP (stepP (stepP q.p (bdB q) (1)) (bdC q) (1)) (bdB q) (-1)) (bdC q) (-1) (by have h_ := bd_ax h; simp only [h_]) (by have h_ := bdP_w h 3; simp only [bdP] at h_; unfold Pt.w at *; omega) (by omega) _) ?_
 rintro e w242 ⟨rfl, hbz⟩
 have hm243 := hm232.below hbz
 clear hbz hm232
 refine ⟨_, rfl, ?_⟩
 refine qP rfl ?_
 refine plStore 1 Ty.ag_voxel_api_Point hm243 rfl (i := 4) (cs := pcs (stepP (stepP (stepP (stepP q.p (bdB q) (1)) (bdC q) (1)) (bdB q) (-1)) (bdC q) (-1))) rfl (wn rfl) rfl le_ le_ rfl rfl kr_ ?_
 intro w245 hm244
 clear hm243
 try simp only [lc_] at hm244
 refine qNone rfl ?_
 refine plD ?_
 refine inBlock_normal ?_
 refine tn_ hK203 ?_
 refine plStart ?_
 refine li_ 1 ?_
 refine li_ 1 ?_
 refine plD ?_
 refine then_normal (roundsNext ?_)
 refine sp_ fun _ hK246 => ?_
 refine lv_ rfl _ (lsF_ (show ¬ (1 : Int) < q.sz by have := h.2.2; omega)) ?_
 refine pt_ hK246 ?_
 refine sk_ fun _ hK247 => ?_
 refine wp_cond_false le_ ?_
 refine wp_exit ?_
 refine then_exit ?_
 refine then_exit ?_
 refine inBlock_exit ?_
 refine inBlock_normal ?_
 refine tn_ hK192 ?_
 refine plStart ?_
 refine li_ 4 ?_
 refine li_ 4 ?_
 refine plD ?_
 refine then_normal (roundsNext ?_)
 refine sp_ fun _ hK248 => ?_
 refine lF_ ?_
 refine pt_ hK248 ?_
 refine sk_ fun _ hK249 => ?_
 refine wp_cond_false le_ ?_
 refine wp_exit ?_
 refine then_exit ?_
 refine then_exit ?_
 refine inBlock_exit ?_
 refine bodyPost_end (v := .tuple #[]) (gRes0 rfl) rfl ?_
 have hm250 : Mem w0 w245 ((.arr g 45 (qdc q)) :: (V236 ++ M)) := (hm244.sub (.cons_cons _ (.cons _ (List.Sublist.refl _))))
 clear hm244
 exact ⟨⟨_, rfl⟩, V236, hm250.permL (permY [.arr g 45 (qdc q)] V236 M), Or.inl hJ241⟩
theorem brdV_inv {q : Qd} {i : Nat} {x : List Value} (h : (brdV q)[i]? = some x) : ∃ y, (brd q)[i]? = some y ∧ x = [.agg (pcs y.1).toArray, .agg (sgc y.2).toArray] := by
 unfold brdV at h
 rw [List.getElem?_map] at h
 obtain ⟨y, hy, rfl⟩ := Option.map_eq_some_iff.1 h
 exact ⟨y, hy, rfl⟩
theorem gRem1 {P : Program} {w : World} {o : Oper} {a : Act} {t ty : TypeId} {A B : Int} (x y : Operand) (ho : o.op = .binOp .rem t x y ty) (hx : a.eval x = .int .i64 A) (hy : a.eval y = .int .i64 B) (hB : B = 1) : (execOp a.eval o).run P w = .ok (.value (.int .i64 0)) w := by
 subst hB
 unfold execOp
 simp [ho, hx, hy, eqGuard, binOp_rem, Op.intDiv]
theorem idxPt {p : Pt} {ax : Int} (h : ax = 0 ∨ ax = 1 ∨ ax = 2) (w : World) : (Instr.index 142 (.agg (pcs p).toArray) (.int .i64 ax)).run Tryz.prog w = .ok (.int .i64 (coP p ax)) w := by
 rcases h with rfl | rfl | rfl <;> (show Sem.run _ _ _ = _; kernel_rfl)
theorem gIdxPt {w : World} {o : Oper} {a : Act} {p : Pt} {ax : Int} (x y : Operand) (ha : ax = 0 ∨ ax = 1 ∨ ax = 2) (ho : o.op = .index 142 x y) (hx : a.eval x = .agg (pcs p).toArray) (hy : a.eval y = .int .i64 ax) :
 (execOp a.eval o).run Tryz.prog w = .ok (.value (.int .i64 (coP p ax))) w := by
 unfold execOp
 simp only [ho, hx, hy, Sem.run_bind, idxPt ha w, Result.andThen_ok, Sem.run_pure]
namespace LD
theorem loop_any (n : Nat) (hn : n = 1 ∨ n = 8) (q : Qd) (h : q.Ok) (A0 : Option Addr) (cap : Nat) (w : World) (hrd : Rd w w.heap.size 4 A0 n cap (tlsC (planL n))) : Calls Tryz.prog 37 #[.slice A0 n cap, .agg (qdc q).toArray] w (fun e w' => ∃ v, e = .returned v ∧ w'.ownsRow w.heap.size 23 3 v (loopP n q).length (ptsC (loopP n q)) ∧ Below w.heap.size w w') := by
 have hm0 := Mem.nil w
 refine callsOfMarks Tryz.func37 rfl ?_
 refine litStart (ds := (([] : List Nat).map mark)) 35 [(0, .slice A0 n cap), (1, .agg (qdc q).toArray)] kr_ (fun X0 => ?_)
 refine sp_ fun _ hK1 => ?_
 refine plBox1 (v := .slice A0 n cap) hm0 (i := 0) rfl (wn rfl) rfl (litEv kr_) rfl ?_
 intro g2 w4 hm3
 clear hm0
 try simp only [lc_] at hm3
 refine qP rfl ?_
 refine plBox hm3 (cs := qdc q) (i := 1) rfl (wn rfl) rfl (litEv kr_) ?_
 intro g5 w7 hm6
 clear hm3
 try simp only [lc_] at hm6
 refine qP rfl ?_
 refine plAlloc1 (v := .slice none 0 0) kr_ hm6 (i := 2) rfl (wn rfl) rfl ?_
 intro g8 w10 hm9
 clear hm6
 try simp only [lc_] at hm9
 refine qP rfl ?_
 refine pt_ hK1 ?_
 refine sk_ fun _ hK11 => ?_
 refine sp_ fun _ hK12 => ?_
 refine lv_ rfl (.agg (qdc q).toArray) (la_ 0 1 hm9 Ty.ag_voxel_api_Quad) ?_
 refine plCall (i := 1) 78 [.agg (qdc q).toArray] [] [] rfl kr_ (wn rfl) rfl (litEv kr_) (litArgs kr_) (border_any (M := ((.arr g2 31 ([.slice A0 n cap])) :: (.arr g5 45 (qdc q)) :: (.arr g8 89 ([.slice none 0 0])) :: (([] : List Nat).map defR))) q hm9) ?_
 rintro e w13 ⟨g15, rfl, hm14⟩
 clear hm9
 refine ⟨_, rfl, ?_⟩
 refine qP rfl ?_
 refine pt_ hK12 ?_
 refine wp_block ?_
 have hm16 := Mem.nilFront hm14 23 3
 clear hm14
 have hm17 : Mem w w13 ((.row (.slice none 0 0) 23 3 0 ([])) :: (.arr g15 45 (qdc q)) :: (.arr g2 31 ([.slice A0 n cap])) :: (.arr g8 89 ([.slice none 0 0])) :: (([] : List Nat).map defR)) := (hm16.sub (.cons_cons _ (.cons_cons _ (.cons_cons _ (.cons _ (.cons_cons _ (List.Sublist.refl _)))))))
 clear hm16
 have hm18 := hm17.f1
 clear hm17
 have hm19 := hm18.f1
 clear hm18
 have hm20 := hm19.f3
 clear hm19
 have hm21 := hm20.f3
 clear hm20
 refine gwRange (gf := 102) (lb := [.pointer (some ⟨g15, 0, none⟩)]) (brdV q) ([.arr g15 45 (qdc q)]) (litEv kr_) kr_ (border_word g15 q h) (by intro x_ hx_; obtain ⟨y_, _, rfl⟩ := List.mem_map.1 hx_; rfl) (fun i_ V_ => ∃ (A : Option Addr) (c : Nat), V_ = [.arr g2 31 ([.slice A0 n cap]), .arr g8 89 ([.slice A ((loopI n q i_).length) c]), .row (.slice A ((loopI n q i_).length) c) 23 3 ((loopI n q i_).length) (ptsC (loopI n q i_))]) (fun _ _ => False) ([.arr g2 31 ([.slice A0 n cap]), .arr g8 89 ([.slice none 0 0]), .row (.slice none 0 0) 23 3 0 ([])]) (([] : List Nat).map defR) ⟨none, 0, rfl⟩ hm21 ?_ ?_ (fun _ _ _ _ h => h.elim)
 ·clear hm21
  intro lp22 i23 x24 w25 V26 N27 hx28 hJ_ hm29
  obtain ⟨A, c, rfl⟩ := hJ_
  try simp only [lc_] at hm29
  obtain ⟨y, hy, rfl⟩ := brdV_inv hx28
  clear hx28
  have hyw_ := brd_w h hy
  have hll_ := loopI_len n q i23
  refine rgFrame2 ?_
  refine wpIn_seq_k fun K30 hK30 => ?_
  refine plStartR kr_ (fun _ _ h => h) ?_
  refine plAlloc (z := [.int .i64 0, .int .i64 0, .int .i64 0]) Ty.ag_voxel_api_Point hm29 (i := 0) rfl (wn rfl) rfl ?_
  intro g31 w33 hm32
  clear hm29
  try simp only [lc_] at hm32
  replace hm32 := hm32.i3
  refine qP rfl ?_
  refine plStore 3 Ty.ag_voxel_api_Point hm32 rfl (i := 1) (cs := pcs y.1) rfl (wn rfl) rfl (litEv kr_) (litEv kr_) rfl rfl kr_ ?_
  intro w35 hm34
  clear hm32
  try simp only [lc_] at hm34
  refine qNone rfl ?_
  refine pt_ hK30 ?_
  refine plStartR kr_ (fun _ _ h => h) ?_
  refine plAlloc (z := [.int .i64 0, .int .i64 0, .int .i64 0, .int .i64 0]) Ty.ag_voxel_seam_segment hm34 (i := 0) rfl (wn rfl) rfl ?_
  intro g36 w38 hm37
  clear hm34
  try simp only [lc_] at hm37
  replace hm37 := hm37.i4
  refine qP rfl ?_
  refine plStore 4 Ty.ag_voxel_seam_segment hm37 rfl (i := 1) (cs := sgc y.2) rfl (wn rfl) rfl (litEv kr_) (litEv kr_) rfl rfl kr_ ?_
  intro w40 hm39
  clear hm37
  try simp only [lc_] at hm39
  refine qNone rfl ?_
  refine plD ?_
  refine ⟨[.arr g2 31 ([.slice A0 n cap]), .arr g8 89 ([.slice A ((loopI n q i23).length) c]), .row (.slice A ((loopI n q i23).length) c) 23 3 ((loopI n q i23).length) (ptsC (loopI n q i23)), .arr g31 23 (pcs y.1), .arr g36 140 (sgc y.2)], hm39, ?_⟩
  clear hm39
  intro w41 N42 hm43
  try simp only [lc_] at hm43
  refine wpIn_block ?_
  refine wpIn_seq_k fun K44 hK44 => ?_
  refine plStartR kr_ (fun _ _ h => h) ?_
  refine lv_ rfl (.slice A0 n cap) (ld_ 0 0 hm43) ?_
  refine lk (v := .pointer (some ⟨g36, 0, none⟩)) rfl rfl rfl ?_
  refine lv_ rfl (.agg (pcs y.2.p).toArray) (la_ 0 4 hm43 Ty.ag_voxel_api_Point) ?_
  refine lk (v := .pointer (some ⟨g36, 3, none⟩)) rfl rfl rfl ?_
  refine lv_ rfl (.int .i64 y.2.ax) (ld_ 3 4 hm43) ?_
  refine plCall (i := 5) 79 [.slice A0 n cap, .agg (pcs y.2.p).toArray, .int .i64 y.2.ax] [] [] rfl kr_ (wn rfl) rfl (litEv kr_) (litArgs kr_) (cut_any n hn y.2.p y.2.ax hyw_.2.2 (by have h_ := hyw_.2.1; unfold Pt.w at *; omega) A0 cap _ ((Rd.below hrd hm43.bel).more hm43.bel.size)) ?_
  rintro e w45 ⟨rfl, hbz⟩
  have hm46 := hm43.below hbz
  clear hbz hm43
  refine ⟨_, rfl, ?_⟩
  refine qP rfl ?_
  refine lk (v := .int .i64 (cutP n y.2.p y.2.ax)) rfl rfl rfl ?_
  refine pt_ hK44 ?_
  refine wpPruneR [(4, .pointer (some ⟨g8, 0, none⟩)), (5, .pointer (some ⟨g31, 0, none⟩)), (6, .pointer (some ⟨g36, 0, none⟩)), (7, .int .i64 (cutP n y.2.p y.2.ax))] fo_ (fun X47 => ?_)
  refine wpIn_seq_k fun K48 hK48 => ?_
  refine mgStartR kr_ (fun _ _ h => h) hm46 kr_ ?_
  intro w50 hm49
  clear hm46
  refine mk_ (i := 0) (v := .int .i64 (cutP n y.2.p y.2.ax)) rfl rfl (fun _ _ _ h => h) hm49 rfl ?_
  by_cases h51 : 0 < (cutP n y.2.p y.2.ax)
  ·refine mt_ 1 rfl (.bool true) hm49 (fun w_ h_ => gtT_ h51) ?_
   refine mk_ (i := 2) (v := .bool true) rfl rfl (fun _ _ _ h => h) hm49 rfl ?_
   refine mgTake (i := 3) (v := .agg (pcs y.1).toArray) rfl kr_ (wgY rfl rfl rfl (by decide) kr_) (fun _ _ _ h => h) hm49 (fun w_ h_ => gLoadAg (vs := pcs y.1) (k := 0) 3 h_ rfl kr_ kr_ (.tmp 5) Ty.ag_voxel_api_Point rfl (litEv kr_)) ?_
   refine mP rfl ?_
   refine mgTake (i := 5) (v := .pointer (some ⟨g36, 3, none⟩)) rfl kr_ (wgY rfl rfl rfl (by decide) kr_) (fun _ _ _ h => h) hm49 (fun w_ h_ => litRun kr_) ?_
   refine mP rfl ?_
   refine mgTake (i := 6) (v := .int .i64 y.2.ax) rfl kr_ (wgY rfl rfl rfl (by decide) kr_) (fun _ _ _ h => h) hm49 (fun w_ h_ => gLoad (v := .int .i64 y.2.ax) (k := 3) 4 h_ rfl kr_ (.tmp 23) kr_ rfl (litEv kr_)) ?_
   refine mP rfl ?_
   refine mgTake (i := 8) (v := .int .i64 (cutP n y.2.p y.2.ax)) rfl kr_ (wgY rfl rfl rfl (by decide) kr_) (fun _ _ _ h => h) hm49 (fun w_ h_ => litRun kr_) ?_
   refine mP rfl ?_
   refine mgCall (i := 4) 80 [.agg (pcs y.1).toArray] [] [] kr_ rfl kr_ (wgY rfl rfl rfl (by decide) kr_) rfl (litEv kr_) (litArgs kr_) (of_any y.1 _) ?_
   rintro e w52 ⟨rfl, hbz⟩
   have hm53 := hm49.below hbz
   clear hbz hm49
   refine ⟨_, rfl, hm53, ?_⟩
   refine mP rfl ?_
   refine mgTake (i := 7) (v := .int .i64 (coP y.1 y.2.ax)) rfl kr_ (wgY rfl rfl rfl (by decide) kr_) (fun _ _ _ h => h) hm53 (fun w_ h_ => gIdxPt (.tmp 22) (.tmp 24) hyw_.2.2 rfl (litEv kr_) (litEv kr_)) ?_
   refine mP rfl ?_
   refine mgTake (i := 9) (v := .int .i64 0) rfl kr_ (wgY rfl rfl rfl (by decide) kr_) (fun _ _ _ h => h) hm53 (fun w_ h_ => gRem1 (A := coP y.1 y.2.ax) (B := cutP n y.2.p y.2.ax) (.tmp 25) (.tmp 26) rfl (litEv kr_) (litEv kr_) (by have h_ := cutP_01 n y.2.p y.2.ax; have h2_ := h51; omega)) ?_
   refine mP rfl ?_
   refine mgTake (i := 10) (v := .bool true) rfl kr_ (wgY rfl rfl rfl (by decide) kr_) (fun _ _ _ h => h) hm53 (fun w_ h_ => litRun kr_) ?_
   refine mP rfl ?_
   refine mk_ (i := 11) (v := .bool true) rfl rfl (fun _ _ _ h => h) hm53 rfl ?_
   refine mgDone kr_ ?_
   refine tn_ hK48 ?_
   refine wpPruneR [(4, .pointer (some ⟨g8, 0, none⟩)), (5, .pointer (some ⟨g31, 0, none⟩)), (29, .bool true)] fo_ (fun X54 => ?_)
   refine wpIn_cond_true (litEv kr_) ?_
   refine plStartR kr_ (fun _ _ h => h) ?_
   refine lv_ rfl (.slice A ((loopI n q i23).length) c) (ld_ 0 1 hm53) ?_
   refine lv_ rfl (.agg (pcs y.1).toArray) (la_ 0 3 hm53 Ty.ag_voxel_api_Point) ?_
   refine plLit (cs := [.int .i64 y.1.x, .int .i64 y.1.y, .int .i64 y.1.z]) (n := 1) Ty.sl_L_api_Point hm53 (i := 2) rfl (wn rfl) rfl (by decide) (by decide) (by rw [lit_eval]; kernel_rfl) ?_
   intro g55 w57 hm56
   clear hm53
   try simp only [lc_] at hm56
   replace hm56 := hm56.i5
   refine qP rfl ?_
   refine plApp1 (v := .slice A ((loopI n q i23).length) c) (n := (loopI n q i23).length) (xs := ptsC (loopI n q i23)) (ys := [.int .i64 y.1.x, .int .i64 y.1.y, .int .i64 y.1.z]) 2 5 Ty.sl_L_api_Point hm56 rfl rfl (i := 3) rfl (wn rfl) rfl (litEv kr_) (litEv kr_) kr_ kr_ (by omega) (by omega) ?_
   intro v62 w59 hm58
   clear hm56
   try simp only [lc_] at hm58
   replace hm58 := Mem.rowEq (v := v62) (e := 23) (size := 3) (n := ((loopI n q i23).length) + 1) (n' := (loopI n q (i23 + 1)).length) (xs := (ptsC (loopI n q i23)) ++ ([.int .i64 y.1.x, .int .i64 y.1.y, .int .i64 y.1.z])) (xs' := ptsC (loopI n q (i23 + 1))) 2 hm58 rfl (by rw [loopI_yes hy h51]; simp) (by rw [loopI_yes hy h51, ptsC_app]; rfl)
   try simp only [lc_] at hm58
   obtain ⟨A60, c61, rfl⟩ := Mem.rowSl (v := v62) (e := 23) (size := 3) (n := (loopI n q (i23 + 1)).length) (xs := ptsC (loopI n q (i23 + 1))) 2 hm58 rfl
   refine qP rfl ?_
   refine plStore1 (v := .slice A60 ((loopI n q (i23 + 1)).length) c61) (k := 0) 1 kr_ hm58 rfl (i := 4) rfl (wn rfl) rfl (litEv kr_) (litEv kr_) rfl rfl rfl ?_
   intro w64 hm63
   clear hm58
   try simp only [lc_] at hm63
   refine qNone rfl ?_
   refine plD ?_
   refine inBlock_normal ?_
   exact ⟨_, ⟨A60, c61, rfl⟩, (hm63.sub (.cons_cons _ (.cons_cons _ (.cons_cons _ (.cons _ (.cons _ (.cons _ (List.Sublist.refl _))))))))⟩
  refine mt_ 1 rfl (.bool false) hm49 (fun w_ h_ => gtF_ h51) ?_
  refine mk_ (i := 2) (v := .bool false) rfl rfl (fun _ _ _ h => h) hm49 rfl ?_
  refine mgSkip (i := 3) rfl kr_ (wgN rfl rfl rfl (by decide) kr_) (fun _ _ _ h => h) hm49 ?_
  refine mP rfl ?_
  refine mgSkip (i := 4) rfl kr_ (wgN rfl rfl rfl (by decide) kr_) (fun _ _ _ h => h) hm49 ?_
  refine mP rfl ?_
  refine mgSkip (i := 5) rfl kr_ (wgN rfl rfl rfl (by decide) kr_) (fun _ _ _ h => h) hm49 ?_
  refine mP rfl ?_
  refine mgSkip (i := 6) rfl kr_ (wgN rfl rfl rfl (by decide) kr_) (fun _ _ _ h => h) hm49 ?_
  refine mP rfl ?_
  refine mgSkip (i := 7) rfl kr_ (wgN rfl rfl rfl (by decide) kr_) (fun _ _ _ h => h) hm49 ?_
  refine mP rfl ?_
  refine mgSkip (i := 8) rfl kr_ (wgN rfl rfl rfl (by decide) kr_) (fun _ _ _ h => h) hm49 ?_
  refine mP rfl ?_
  refine mgSkip (i := 9) rfl kr_ (wgN rfl rfl rfl (by decide) kr_) (fun _ _ _ h => h) hm49 ?_
  refine mP rfl ?_
  refine mgSkip (i := 10) rfl kr_ (wgN rfl rfl rfl (by decide) kr_) (fun _ _ _ h => h) hm49 ?_
  refine mP rfl ?_
  refine mk_ (i := 11) (v := .bool false) rfl rfl (fun _ _ _ h => h) hm49 rfl ?_
  refine mgDone kr_ ?_
  refine tn_ hK48 ?_
  refine wpPruneR [(4, .pointer (some ⟨g8, 0, none⟩)), (5, .pointer (some ⟨g31, 0, none⟩)), (29, .bool false)] fo_ (fun X65 => ?_)
  refine wpIn_cond_false (litEv kr_) ?_
  refine wpIn_skip ?_
  refine inBlock_normal ?_
  have hm66 := (hm49.sub (.cons_cons _ (.cons_cons _ (.cons_cons _ (.cons _ (.cons _ (List.Sublist.refl _)))))))
  rw [← loopI_no hy h51] at hm66
  exact ⟨_, ⟨A, c, rfl⟩, hm66⟩
 clear hm21
 intro D67 w68 V69 hJ_ hm70
 obtain ⟨A, c, rfl⟩ := hJ_
 refine rgDone ?_
 have hm71 : Mem w w68 ((.arr g2 31 ([.slice A0 n cap])) :: (.arr g8 89 ([.slice A ((loopI n q (brdV q).length).length) c])) :: (.row (.slice A ((loopI n q (brdV q).length).length) c) 23 3 ((loopI n q (brdV q).length).length) (ptsC (loopI n q (brdV q).length))) :: (.arr g15 45 (qdc q)) :: (((D67 :: []) : List Nat).map defR)) := hm70
 clear hm70
 refine inBlock_normal ?_
 refine tn_ hK11 ?_
 refine sp_ fun _ hK72 => ?_
 refine lv_ rfl (.slice A ((loopI n q (brdV q).length).length) c) (ld_ 0 1 hm71) ?_
 refine plStore1 (v := .slice A ((loopI n q (brdV q).length).length) c) (k := 0) 1 kr_ hm71 rfl (i := 1) rfl (wn rfl) rfl (litEv kr_) (litEv kr_) rfl rfl rfl ?_
 intro w74 hm73
 clear hm71
 try simp only [lc_] at hm73
 refine qNone rfl ?_
 refine pt_ hK72 ?_
 refine wp_ret ?_
 refine bodyPostM_ret (leaveMarksT (M := [.arr g2 31 ([.slice A0 n cap]), .arr g8 89 ([.slice A ((loopI n q (brdV q).length).length) c]), .row (.slice A ((loopI n q (brdV q).length).length) c) 23 3 ((loopI n q (brdV q).length).length) (ptsC (loopI n q (brdV q).length)), .arr g15 45 (qdc q)]) ((D67 :: []) : List Nat) hm73 ?_)
 clear hm73
 intro w75 hm76
 refine ⟨.slice A ((loopI n q (brdV q).length).length) c, gRes1 rfl (gResCell (v := .slice A ((loopI n q (brdV q).length).length) c) 1 hm76 rfl rfl kr_ (litGet kr_)), ?_⟩
 exact ⟨_, rfl, hm76.row 2 rfl, hm76.bel⟩
end LD
end Go.Proofs.YtbpihalphhoiaaaGreatDoor
namespace Go.Proofs.YtbpihalphhoiaaaGreatDoor
open Go.RowKit
open Go.Maps (Keyed)
open Go.WideElems (Fit rd rg pl rd_key rd_val rg_of)
open Go.ChangeMaps (putKey notKey setBlock mem_insert_iff)
def RdA (P : Program) (e : TypeId) (_ : Value) : Option (DataW Unit × List MemPlace) := some (.lit (.int .i64 0), [])
def MapW (P : Program) (k e : TypeId) (g n : Nat) (F : Value → Option Value) (w : World) : Prop :=
 ∃ es clock, w.heap[g]? = some (.map es clock) ∧ Fit P k (RdA P e) es clock ∧ es.size ≤ n ∧ (∀ x ∈ es.toList, F x.key = some x.val) ∧ ∀ key v, F key = some v → ∃ x ∈ es.toList, x.key = key ∧ x.val = v
section
variable {P : Program} {k e t : TypeId} {g n : Nat} {F : Value → Option Value} {w : World}
theorem MapW.of_block {u u' : World} (h : MapW P k e g n F u) (hg : u'.heap[g]? = u.heap[g]?) : MapW P k e g n F u' := by
 obtain ⟨es, clock, hb, h⟩ := h
 exact ⟨es, clock, hg.trans hb, h⟩
theorem MapW.look (h : MapW P k e g n F w) (c : Bool) (K : Keyed P k) (ht : P.underlying t = some (.map k e)) {z : Value} (hz : (zeroValue e).run P w = .ok z w) {key : Value} (hk : (keyOf P k key).isSome = true) :
 (Instr.lookup t (.map (some g)) key c).run P w = .ok (if c then .tuple #[(F key).getD z, .bool (F key).isSome] else (F key).getD z) w := by
 obtain ⟨es, clock, hb, Ft, _, h1, h2⟩ := h
 obtain ⟨kl, hkl⟩ := Option.isSome_iff_exists.1 hk
 rcases Maps.fit_look c K ht hz hb Ft hkl with ⟨hr, hno, _⟩ | ⟨e0, y, he, hek, hr, _⟩
 ·have hF : F key = none := by
   cases hF : F key with
   | none => rfl
   | some v => obtain ⟨x, hx, hxk, _⟩ := h2 key v hF; exact absurd hxk (hno x hx)
  rw [hr, hF]; rfl
 ·have hF := h1 e0 he
  rw [hek] at hF
  rw [hr, hF]; rfl
theorem MapW.up (h : MapW P k e g n F w) (K : Keyed P k) (ht : P.underlying t = some (.map k e)) (hn : n < maxLen) {key val : Value} (hk : (keyOf P k key).isSome = true) (hv : (RdA P e val).isSome = true) :
 ∃ w', (Instr.mapUpdate t (.map (some g)) key val).run P w = .ok () w' ∧ MapW P k e g (n + 1) (updF F key val) w' ∧ w.grownBy w' (some g) := by
 obtain ⟨es, clock, hb, Ft, hs, h1, h2⟩ := h
 obtain ⟨kl, hkl⟩ := Option.isSome_iff_exists.1 hk
 obtain ⟨yv, hyv⟩ := Option.isSome_iff_exists.1 hv
 obtain ⟨es', clock', hrun, F', hput, _, _, who⟩ := Maps.fit_store (R' := RdA P e) K ht hb Ft (Nat.lt_of_le_of_lt hs hn) (fun _ _ _ _ hz => hz) hkl hyv
 have hmem : ∀ p, p ∈ (es'.toList.map (rg P k (RdA P e))) ↔ p = (kl, yv.1) ∨ (p ∈ es.toList.map (rg P k (RdA P e)) ∧ notKey kl p = true) := by
  intro p
  have e1 : p ∈ (es'.toList.map (rg P k (RdA P e))).foldr DataW.insert [] ↔ p ∈ putKey kl yv.1 ((es.toList.map (rg P k (RdA P e))).foldr DataW.insert []) := by rw [hput]
  rw [(WideShapes.sorted_perm _).mem_iff] at e1
  rw [e1]
  unfold putKey
  rw [mem_insert_iff, List.mem_filter, (WideShapes.sorted_perm _).mem_iff]
 have keyAt : ∀ x' ∈ es'.toList, ∀ key' kl', keyOf P k key' = some kl' → (rg P k (RdA P e) x').1 = kl' → x'.key = key' := by
  intro x' hx' key' kl' hk' he
  obtain ⟨y, hy⟩ := F'.reads x' hx'
  rw [rg_of hy] at he
  have hh := rd_key hy
  rw [he] at hh
  exact K.inj hh hk'
 refine ⟨_, hrun, ⟨es', clock', ChangeMaps.heap_setBlock_same hb _, F', ?_, ?_, ?_⟩, ⟨rfl, rfl, rfl, by simp [setBlock], fun i _ hi => ChangeMaps.heap_setBlock_other hb _ (fun e => hi (by rw [e]))⟩⟩
 ·have e1 : es'.size = ((es'.toList.map (rg P k (RdA P e))).foldr DataW.insert []).length := by rw [length_sorted]; simp
  rw [e1, hput]
  unfold putKey
  rw [length_insert]
  have e2 := List.length_filter_le (notKey kl) ((es.toList.map (rg P k (RdA P e))).foldr DataW.insert [])
  rw [length_sorted] at e2
  simp at e2
  omega
 ·intro x hx
  rcases who x hx with ⟨ho, hne⟩ | ⟨hk2, hv2⟩
  ·rw [updF_other hne]; exact h1 x ho
  ·rw [hk2, updF_self, hv2]
 ·intro key' v hF
  by_cases hkk : key' = key
  ·subst hkk
   rw [updF_self] at hF
   cases hF
   obtain ⟨x', hx', hxe⟩ := List.mem_map.1 ((hmem (kl, yv.1)).2 (Or.inl rfl))
   have hxk := keyAt x' hx' key' kl hkl (by rw [hxe])
   rcases who x' hx' with ⟨_, hne⟩ | ⟨_, hv2⟩
   ·exact absurd hxk hne
   ·exact ⟨x', hx', hxk, hv2⟩
  ·rw [updF_other hkk] at hF
   obtain ⟨x, hx, hxk, hxv⟩ := h2 key' v hF
   obtain ⟨y, hy⟩ := Ft.reads x hx
   have hky := rd_key hy
   have hnk : notKey kl (rg P k (RdA P e) x) = true := by
    refine (Maps.notKey_iff (K.key hkl)).2 (fun e1 => hkk ?_)
    rw [rg_of hy] at e1
    rw [e1] at hky
    rw [← hxk]
    exact K.inj hky hkl
   obtain ⟨x', hx', hxe⟩ := List.mem_map.1 ((hmem _).2 (Or.inr ⟨List.mem_map_of_mem hx, hnk⟩))
   have hxk' : x'.key = key' := by
    rw [hxk] at hky
    exact keyAt x' hx' key' y.1 hky (by rw [hxe, rg_of hy])
   rcases who x' hx' with ⟨ho, _⟩ | ⟨hk2, _⟩
   ·have h3 := h1 x' ho
    rw [hxk', hF] at h3
    exact ⟨x', hx', hxk', (Option.some.inj h3).symm⟩
   ·exact absurd (hxk'.symm.trans hk2) hkk
theorem MapW.made (w : World) (P : Program) (k e : TypeId) : MapW P k e w.heap.size 0 (fun _ => none) (w.alloc (.map #[] 0)) :=
 ⟨#[], 0, (MapKept.heap_alloc w _).1, ⟨by simp, MapKept.stamped_empty 0, by simp⟩, Nat.le_refl _, by simp, fun _ _ h => (by cases h)⟩
end
section
variable {P : Program} {ops : Array Oper} {Q : Exit → Act → World → Prop} {a : Act} {w w0 : World} {o : Oper} {L : List Res} {i : Nat} {k e t : TypeId} {g n : Nat} {F : Value → Option Value} {rest : List Oper}
abbrev mapW (P : Program) (k e : TypeId) (g n : Nat) (F : Value → Option Value) : Res := .any g (MapW P k e g n F)
theorem gLookW {m x : Operand} {key z : Value} (j : Nat) (c : Bool) (hm : Mem w0 w L) (hj : L[j]? = some (mapW P k e g n F)) (K : Keyed P k) (ht : P.underlying t = some (.map k e)) (hz : ∀ w : World, (zeroValue e).run P w = .ok z w) (hk : (keyOf P k key).isSome = true)
 (ho : o.op = .lookup t m x c) (hmv : a.eval m = .map (some g)) (hx : a.eval x = key) : (execOp a.eval o).run P w = .ok (.value (if c then .tuple #[(F key).getD z, .bool (F key).isSome] else (F key).getD z)) w := by
 have hr := (hm.any j hj).look c K ht (hz w) hk
 unfold execOp
 simp only [ho, hmv, hx, Sem.run_bind, hr, Result.andThen_ok, Sem.run_pure]
theorem mapOpW {m x y : Operand} {key val : Value} (j : Nat) (hm : Mem w0 w L) (hj : L[j]? = some (mapW P k e g n F)) (K : Keyed P k) (ht : P.underlying t = some (.map k e)) (hn : n < maxLen) (hk : (keyOf P k key).isSome = true) (hv : (RdA P e val).isSome = true) (hw : Region.wanted o (yielded ops a.tmps) = true)
 (ho : o.op = .mapUpdate t m x y) (hmv : a.eval m = .map (some g)) (hx : a.eval x = key) (hy : a.eval y = val) (h : ∀ w', Mem w0 w' (L.set j (mapW P k e g (n + 1) (updF F key val))) → wpList P ops Q rest (a.put o.dst undef) w') : wpList P ops Q (o :: rest) a w := by
 obtain ⟨w', hrun, hI, hgr⟩ := (hm.any j hj).up K ht hn hk hv
 refine wpList_want hw fun K' hK' => ?_
 unfold Oper.wp
 simp [execOp, ho, hmv, hx, hy, hrun, Result.andThen]
 exact hK' _ _ (h w' (hm.setAny j hj hI (fun _ _ h1 h2 => h1.of_block h2) hgr))
theorem plMakeMapW (k e : TypeId) (hm : Mem w0 w L) (hi : ops.toList[i]? = some o) (hw : Region.wanted o (yielded ops a.tmps) = true) (ho : o.op = .makeMap t none)
 (h : ∀ g w', Mem w0 w' (L ++ [mapW P k e g 0 (fun _ => none)]) → PL P ops Q (i + 1) (a.put o.dst (.map (some g))) w') : PL P ops Q i a w := by
 refine plOf hi (wpList_want hw fun K' hK' => ?_)
 unfold Oper.wp
 simp [execOp, ho, run_makeMap, Result.andThen]
 exact hK' _ _ (h w.heap.size _ (hm.newAny ((Below.refl _ _).alloc (Nat.le_refl _) _) (Nat.le_refl _) (by have e : (w.alloc (.map #[] 0)).heap = w.heap.push (.map #[] 0) := rfl; rw [e]; simp) (MapW.made w P k e) (fun _ _ h1 h2 => h1.of_block h2))).out
variable {fuel : Nat} {listed : Array Bool} {M : List Res}
end
theorem own_upd {w : World} {base size n g : Nat} {e : TypeId} {off c : Nat} {xs : List Value} (h : w.ownsRow base e size (.slice (some ⟨g, off, none⟩) n c) n xs) {j : Nat} (hj : j < n * size) (u : Value) :
 off = 0 ∧ ∃ cur, Arr w g e cur ∧ cur[j]? = xs[j]? ∧ ∀ w', Arr w' g e (cur.set j u) → w'.ownsRow base e size (.slice (some ⟨g, off, none⟩) n c) n (xs.set j u) := by
 obtain ⟨hl, h2⟩ := h
 rcases h2 with ⟨h3, _⟩ | ⟨g', cap, cur, hv, hb, hg, hnc, hcm, hcs, htake⟩
 ·cases h3
 ·injection hv with e1 e2 e3
  injection e1 with e1
  injection e1 with e1 e4 _
  subst e1
  subst e4
  subst e3
  refine ⟨rfl, cur.toList, hg, ?_, fun w' hA => ?_⟩
  ·rw [← htake, List.getElem?_take, if_pos hj]
  ·refine ⟨by rw [List.length_set]; exact hl, Or.inr ⟨g, c, (cur.toList.set j u).toArray, rfl, hb, hA, hnc, hcm, by simp [hcs], ?_⟩⟩
   rw [← htake, List.take_set]
theorem Mem.setRowAt {w0 w w' : World} {L : List Res} {e : TypeId} (h : Mem w0 w L) (i : Nat) {v : Value} {size n g : Nat} {xs xs' : List Value} (hi : L[i]? = some (.row v e size n xs)) (hg : v.ownBlock = some g) (hA : w'.ownsRow w0.heap.size e size v n xs') (k : w.grownBy w' (some g)) : Mem w0 w' (L.set i (.row v e size n xs')) := by
 have hrow := h.row i hi
 refine ⟨h.bel.grown k h.bel.size (fun k' hk' => by cases hk'; exact (World.ownsRow.lt hrow g hg).1), fun s hs => ?_, resApart_set h.apart fun j s hji hj => ?_⟩
 ·rcases resMem_set_ne hs with rfl | ⟨j, hji, hj⟩
  ·exact hA
  ·refine (h.each s (List.mem_of_getElem? hj)).grown k ?_
   rcases resApart_at h.apart hji hj hi with ⟨_, h2⟩ | h2 | h2
   ·cases h2
   ·exact Or.inl h2
   ·refine Or.inr fun e => h2 (e.trans hg.symm)
 ·have h1 := resApart_at h.apart (Ne.symm hji) hi hj
  exact h1
section
variable {P : Program} {ops : Array Oper} {Q : Exit → Act → World → Prop} {a : Act} {w w0 : World} {o : Oper} {L M : List Res} {i : Nat} {x y : Operand} {ty e : TypeId} {g k n c size : Nat} {xs : List Value} {v v0 : Value} {cc fuel : Nat} {listed : Array Bool}
theorem plStoreRow (j : Nat) (hsz : (P.info? ty).map (·.size) = some 1) (hm : Mem w0 w L) (hj : L[j]? = some (.row (.slice (some ⟨g, 0, none⟩) n c) e size n xs)) (hi : ops.toList[i]? = some o) (hw : Region.wanted o (yielded ops a.tmps) = true) (ho : o.op = .store ty x y)
 (hx : a.eval x = .pointer (some ⟨g, k, none⟩)) (hy : a.eval y = v) (hk : xs[k]? = some v0) (hn : k < n * size) (hv : v.cells = #[v]) (h1 : v.oneCell' = true)
 (h : ∀ w', Mem w0 w' (L.set j (.row (.slice (some ⟨g, 0, none⟩) n c) e size n (xs.set k v))) → PL P ops Q (i + 1) (a.put o.dst undef) w') : PL P ops Q i a w := by
 obtain ⟨_, cur, hA, hci, hset⟩ := own_upd (hm.row j hj) hn v
 refine plOf hi (stCellG x y hsz hw ho hx hy hA (hci.trans hk) hv h1 fun w' hA' hg => (h w' ?_).out)
 exact hm.setRowAt j hj rfl (hset w' hA') hg
theorem glStoreRow (j : Nat) (hsz : (P.info? ty).map (·.size) = some 1) (hm : Mem w0 w L) (hj : L[j]? = some (.row (.slice (some ⟨g, 0, none⟩) n c) e size n xs)) (hr : Region.ready .any ops listed = [i]) (hi : ops.toList[i]? = some o) (hc : (listed.setIfInBounds i true).getD cc true = true) (hw : Region.wanted o (yielded ops a.tmps) = true) (ho : o.op = .store ty x y)
 (hx : a.eval x = .pointer (some ⟨g, k, none⟩)) (hy : a.eval y = v) (hk : xs[k]? = some v0) (hn : k < n * size) (hv : v.cells = #[v]) (h1 : v.oneCell' = true)
 (h : ∀ w', Mem w0 w' (L.set j (.row (.slice (some ⟨g, 0, none⟩) n c) e size n (xs.set k v))) → MGL P ops Q w0 M cc fuel (listed.setIfInBounds i true) (a.put o.dst undef) w') : MGL P ops Q w0 M cc (fuel + 1) listed a w := by
 obtain ⟨_, cur, hA, hci, hset⟩ := own_upd (hm.row j hj) hn v
 refine ⟨lgNext hr hi hc (stCellG x y hsz hw ho hx hy hA (hci.trans hk) hv h1 fun w' hA' hg => (h w' ?_).out)⟩
 exact hm.setRowAt j hj rfl (hset w' hA') hg
theorem glLit {t e : TypeId} {z : Value} {size bytes n : Nat} {parts : Array (Nat × Operand)} {cs : List Value} (T : SlTy P t e z size bytes) (hm : Mem w0 w L) (hM : ∀ w', Mem w0 w' L → Mem w0 w' M) (hr : Region.ready .any ops listed = [i]) (hi : ops.toList[i]? = some o) (hw : Region.wanted o (yielded ops a.tmps) = true) (ho : o.op = .buildSlice t n parts) (hn : n * size ≤ 65536) (hn0 : ¬ n * size = 0)
 (hf : Instr.fill (fun i => some (i * size, size)) ((Array.range (n * size)).map (z.cells[· % z.cells.size]!)) (parts.map fun (i, x) => (i, a.eval x)).toList = some cs.toArray)
 (h : ∀ g w', Mem w0 w' (L ++ [.arr g e cs]) → MGL P ops Q w0 M cc fuel (listed.setIfInBounds i true) (a.put o.dst (.slice (some ⟨g, 0, none⟩) n n)) w') : MGL P ops Q w0 M cc (fuel + 1) listed a w := by
 obtain ⟨ti, hti, hz0, hz1, hz2⟩ := info_parts T.inf
 refine ⟨lgNextS hr hi (wpList_want hw fun K hK => wp_buildSlice t e n _ ho cs.toArray ti z T.und hti hz0 (by rw [hz1]; omega) (by rw [hz1]; exact hn0) (by rw [hz1]; exact hf) (hK _ _ ?_))⟩
 have hmn := hm.new ((Below.refl w.heap.size w).alloc (Nat.le_refl _) _) (Arr.new w e cs)
 exact ⟨hM _ (hmn.sub (List.sublist_append_left _ _)), (h _ _ hmn).out⟩
theorem glApp1 {s x : Operand} {t e : TypeId} {z : Value} {size bytes n g : Nat} {v : Value} {xs ys : List Value} (j j2 : Nat) (T : SlTy P t e z size bytes) (hm : Mem w0 w L) (hM : ∀ v' w', Mem w0 w' (L.set j (.row v' e size (n + 1) (xs ++ ys))) → Mem w0 w' M) (hj : L[j]? = some (.row v e size n xs)) (hj2 : L[j2]? = some (.arr g e ys)) (hr : Region.ready .any ops listed = [i]) (hi : ops.toList[i]? = some o) (hw : Region.wanted o (yielded ops a.tmps) = true)
 (ho : o.op = .call { callee := .builtin .append, args := #[s, x], argTypes := #[t, t] }) (hs : a.eval s = v) (hx : a.eval x = .slice (some ⟨g, 0, none⟩) 1 1) (hl : ys.length = size) (hu : (ys.all fun u => u.oneCell') = true)
 (hn : n + 1 ≤ 70368744177664) (hby : (n + 1) * bytes ≤ 140737488355328)
 (h : ∀ v' w', Mem w0 w' (L.set j (.row v' e size (n + 1) (xs ++ ys))) → MGL P ops Q w0 M cc fuel (listed.setIfInBounds i true) (a.put o.dst v') w') : MGL P ops Q w0 M cc (fuel + 1) listed a w :=
 ⟨lgNextS hr hi (appNB s x T hw ho hs hx (hm.row j hj) (hm.arr j2 hj2) hl hm.bel (Nat.le_refl _) (fun u h => List.all_eq_true.1 hu u h) hn hby fun v' w' h1 _ h3 h4 => by
  have hmn := hm.app j hj h1 h3 h4
  exact ⟨hM v' w' hmn, (h v' w' hmn).out⟩)⟩
theorem glMapUpW {k e t : TypeId} {g n : Nat} {F : Value → Option Value} {m x y : Operand} {key val : Value} (j : Nat) (hm : Mem w0 w L) (hj : L[j]? = some (mapW P k e g n F)) (K : Keyed P k) (ht : P.underlying t = some (.map k e)) (hn : n < maxLen) (hk : (keyOf P k key).isSome = true) (hr : Region.ready .any ops listed = [i]) (hi : ops.toList[i]? = some o) (hc : (listed.setIfInBounds i true).getD cc true = true) (hw : Region.wanted o (yielded ops a.tmps) = true)
 (ho : o.op = .mapUpdate t m x y) (hmv : a.eval m = .map (some g)) (hx : a.eval x = key) (hy : a.eval y = val)
 (h : ∀ w', Mem w0 w' (L.set j (mapW P k e g (n + 1) (updF F key val))) → MGL P ops Q w0 M cc fuel (listed.setIfInBounds i true) (a.put o.dst undef) w') : MGL P ops Q w0 M cc (fuel + 1) listed a w :=
 ⟨lgNext hr hi hc (mapOpW j hm hj K ht hn hk rfl hw ho hmv hx hy fun w' hm' => (h w' hm').out)⟩
end
end Go.Proofs.YtbpihalphhoiaaaGreatDoor
namespace Go.Proofs.YtbpihalphhoiaaaGreatDoor
def q0 : Qd := ⟨p0, 0, false, 1⟩
def halfAt (first fc : Nat) (l : List Pt) (i : Nat) : Hf := ⟨l.getD i p0, ((first + (i + 1) % l.length : Nat) : Int), 0, (fc : Int)⟩
def spanAt (l : List Pt) (i : Nat) : Bx := ⟨l.getD i p0, l.getD ((i + 1) % l.length) p0⟩
def halfsI (first fc : Nat) (l : List Pt) (i : Nat) : List Hf := (List.range i).map (halfAt first fc l)
def spansI (l : List Pt) (i : Nat) : List Bx := (List.range i).map (spanAt l)
theorem halfsI_succ (first fc : Nat) (l : List Pt) (i : Nat) : halfsI first fc l (i + 1) = halfsI first fc l i ++ [halfAt first fc l i] := by unfold halfsI; rw [List.range_succ, List.map_append]; rfl
theorem spansI_succ (l : List Pt) (i : Nat) : spansI l (i + 1) = spansI l i ++ [spanAt l i] := by unfold spansI; rw [List.range_succ, List.map_append]; rfl
theorem halfsI_len (first fc : Nat) (l : List Pt) (i : Nat) : (halfsI first fc l i).length = i := by simp [halfsI]
theorem spansI_len (l : List Pt) (i : Nat) : (spansI l i).length = i := by simp [spansI]
def loopD (n : Nat) (d : List Qd) (f : Nat) : List Pt := loopP n (d.getD f q0)
def halfsU (n : Nat) (d : List Qd) : Nat → List Hf
 | 0 => []
 | f + 1 => halfsU n d f ++ halfsI (halfsU n d f).length f (loopD n d f) (loopD n d f).length
def spansU (n : Nat) (d : List Qd) : Nat → List Bx
 | 0 => []
 | f + 1 => spansU n d f ++ spansI (loopD n d f) (loopD n d f).length
theorem loopI_all (n : Nat) (q : Qd) : loopI n q 4 = loopP n q := rfl
theorem loopP_len (n : Nat) (q : Qd) : (loopP n q).length ≤ 4 := by rw [← loopI_all]; exact loopI_len n q 4
theorem halfsU_len (n : Nat) (d : List Qd) : ∀ f, (halfsU n d f).length ≤ 4 * f ∧ (spansU n d f).length = (halfsU n d f).length
 | 0 => by simp [halfsU, spansU]
 | f + 1 => by
  have h := halfsU_len n d f
  have h2 := loopP_len n (d.getD f q0)
  simp only [halfsU, spansU, List.length_append, halfsI_len, spansI_len]
  unfold loopD
  omega
theorem loopP_w {n : Nat} {q : Qd} (h : q.Ok) {p : Pt} (hp : p ∈ loopP n q) : p.w 1003 := by
 unfold loopP at hp
 obtain ⟨x, hx, rfl⟩ := List.mem_map.1 hp
 obtain ⟨hx, _⟩ := List.mem_filter.1 hx
 obtain ⟨i, hi⟩ := List.getElem?_of_mem hx
 exact (brd_w h hi).1
theorem getD_of {α : Type} {l : List α} {i : Nat} (z : α) (h : i < l.length) : l[i]? = some (l.getD i z) := by
 rw [List.getD_eq_getElem?_getD, List.getElem?_eq_getElem h]; rfl
theorem app_get {α : Type} {l m : List α} {k : Nat} {x : α} (h : l[k]? = some x) : (l ++ m)[k]? = some x := by
 rw [List.getElem?_append_left (List.getElem?_eq_some_iff.1 h).1]; exact h
structure HOk (H : List Hf) (S : List Bx) (nf : Nat) (m : Nat) (x : Hf) : Prop where
 out : ∃ k f y, x.nx = ((k : Nat) : Int) ∧ H[k]? = some y ∧ x.fc = ((f : Nat) : Int) ∧ f < nf ∧ S[m]? = some ⟨x.p, y.p⟩ ∧ x.p.w 1003 ∧ y.p.w 1003
theorem halfsU_ok {n : Nat} {d : List Qd} (hd : ∀ q ∈ d, q.Ok) : ∀ f, f ≤ d.length → ∀ m x, (halfsU n d f)[m]? = some x → HOk (halfsU n d f) (spansU n d f) f m x
 | 0, _, m, x, h => by simp [halfsU] at h
 | f + 1, hf, m, x, h => by
  have ih := halfsU_ok (n := n) hd f (by omega)
  have hl := halfsU_len n d f
  have hq : (d.getD f q0).Ok := hd _ (List.mem_of_getElem? (getD_of q0 (by omega)))
  by_cases hm : m < (halfsU n d f).length
  ·have h2 : (halfsU n d f)[m]? = some x := by
    simp only [halfsU] at h
    rwa [List.getElem?_append_left hm] at h
   obtain ⟨k, g, y, h3, h4, h5, h6, h7, h8, h9⟩ := (ih m x h2).out
   exact ⟨k, g, y, h3, app_get h4, h5, by omega, app_get h7, h8, h9⟩
  ·simp only [halfsU] at h
   rw [List.getElem?_append_right (by omega)] at h
   unfold halfsI at h
   rw [List.getElem?_map] at h
   obtain ⟨i, hi, rfl⟩ := Option.map_eq_some_iff.1 h
   obtain ⟨hi1, hi2⟩ := List.getElem?_eq_some_iff.1 hi
   rw [List.length_range] at hi1
   rw [List.getElem_range] at hi2
   have him : m - (halfsU n d f).length = i := hi2
   clear hi2
   have hL0 : 0 < (loopD n d f).length := by omega
   have hk := Nat.mod_lt (i + 1) hL0
   have hw : ∀ j, j < (loopD n d f).length → ((loopD n d f).getD j p0).w 1003 := fun j hj => loopP_w hq (List.mem_of_getElem? (getD_of p0 hj))
   refine ⟨(halfsU n d f).length + (i + 1) % (loopD n d f).length, f, halfAt (halfsU n d f).length f (loopD n d f) ((i + 1) % (loopD n d f).length), rfl, ?_, rfl, by omega, ?_, hw i (by omega), hw _ hk⟩
   ·simp only [halfsU]
    rw [List.getElem?_append_right (by omega)]
    unfold halfsI
    rw [List.getElem?_map, List.getElem?_range (by omega)]
    simp
   ·simp only [spansU]
    rw [List.getElem?_append_right (by omega)]
    unfold spansI
    rw [List.getElem?_map, hl.2, him, List.getElem?_range (by omega)]
    rfl
def idsS (S : List Bx) (s : Bx) : List Int := ((List.range S.length).filter fun m => decide (S[m]? = some s)).map fun m => ((m : Nat) : Int)
theorem idsS_app (S : List Bx) (u s : Bx) : idsS (S ++ [u]) s = idsS S s ++ (if u = s then [((S.length : Nat) : Int)] else []) := by
 unfold idsS
 rw [List.length_append, List.length_singleton, List.range_succ, List.filter_append, List.map_append]
 congr 1
 ·congr 1
  refine List.filter_congr fun m hm => ?_
  rw [List.mem_range] at hm
  rw [List.getElem?_append_left hm]
 ·simp only [List.filter_cons, List.filter_nil]
  by_cases h : u = s <;> simp [h]
theorem idsS_mem {S : List Bx} {s : Bx} {t : Int} (h : t ∈ idsS S s) : ∃ m : Nat, m < S.length ∧ t = (m : Int) ∧ S[m]? = some s := by
 unfold idsS at h
 obtain ⟨m, hm, rfl⟩ := List.mem_map.1 h
 obtain ⟨h1, h2⟩ := List.mem_filter.1 hm
 exact ⟨m, List.mem_range.1 h1, rfl, of_decide_eq_true h2⟩
theorem idsS_len (S : List Bx) (s : Bx) : (idsS S s).length ≤ S.length := by
 unfold idsS
 rw [List.length_map]
 refine Nat.le_trans (List.length_filter_le _ _) ?_
 rw [List.length_range]; exact Nat.le_refl _
def TwOk (H H' : List Hf) (S : List Bx) (h : Nat) : Prop :=
 H'.length = H.length ∧ ∀ m x, H'[m]? = some x → ∃ y, H[m]? = some y ∧ x.p = y.p ∧ x.nx = y.nx ∧ x.fc = y.fc ∧ (m < h → ∀ t s, S[m]? = some s → idsS S ⟨s.mx, s.mn⟩ = [t] → x.tw = t)
theorem TwOk.start (H : List Hf) (S : List Bx) : TwOk H H S 0 := ⟨rfl, fun _ x hx => ⟨x, hx, rfl, rfl, rfl, fun h => absurd h (Nat.not_lt_zero _)⟩⟩
theorem TwOk.none {H H' : List Hf} {S : List Bx} {h : Nat} (T : TwOk H H' S h) {s : Bx} (hs : S[h]? = some s) (he : (idsS S ⟨s.mx, s.mn⟩).length = 0) : TwOk H H' S (h + 1) := by
 refine ⟨T.1, fun m x hx => ?_⟩
 obtain ⟨y, h1, h2, h3, h4, h5⟩ := T.2 m x hx
 refine ⟨y, h1, h2, h3, h4, fun hm t s' hs' ht => ?_⟩
 by_cases hmh : m < h
 ·exact h5 hmh t s' hs' ht
 ·obtain rfl : m = h := by omega
  rw [hs] at hs'
  cases hs'
  rw [ht] at he
  simp at he
theorem TwOk.set {H H' : List Hf} {S : List Bx} {h : Nat} (T : TwOk H H' S h) {s : Bx} (hs : S[h]? = some s) {x : Hf} (hx : H'[h]? = some x) {k : Nat} {t : Int} (ht : (idsS S ⟨s.mx, s.mn⟩)[k]? = some t) : TwOk H (H'.set h { x with tw := t }) S (h + 1) := by
 have hlt := (List.getElem?_eq_some_iff.1 hx).1
 refine ⟨by rw [List.length_set]; exact T.1, fun m z hz => ?_⟩
 by_cases hmh : m = h
 ·subst hmh
  rw [List.getElem?_set_self hlt] at hz
  cases hz
  obtain ⟨y, h1, h2, h3, h4, h5⟩ := T.2 m x hx
  refine ⟨y, h1, h2, h3, h4, fun _ t' s' hs' ht' => ?_⟩
  rw [hs] at hs'
  cases hs'
  rw [ht'] at ht
  cases k with
  | zero => simpa using ht.symm
  | succ k => simp at ht
 ·rw [List.getElem?_set_ne (Ne.symm hmh)] at hz
  obtain ⟨y, h1, h2, h3, h4, h5⟩ := T.2 m z hz
  exact ⟨y, h1, h2, h3, h4, fun hm => h5 (by omega)⟩
theorem TwOk.at {H H' : List Hf} {S : List Bx} {nf h m : Nat} (T : TwOk H H' S h) (hH : ∀ m x, H[m]? = some x → HOk H S nf m x) {x : Hf} (hx : H'[m]? = some x) :
 ∃ k f y, x.nx = ((k : Nat) : Int) ∧ H'[k]? = some y ∧ x.fc = ((f : Nat) : Int) ∧ f < nf ∧ S[m]? = some ⟨x.p, y.p⟩ ∧ x.p.w 1003 ∧ y.p.w 1003 := by
 obtain ⟨y, h1, h2, h3, h4, _⟩ := T.2 m x hx
 obtain ⟨k, f, z, e1, e2, e3, e4, e5, e6, e7⟩ := (hH m y h1).out
 have hk : k < H'.length := by rw [T.1]; exact (List.getElem?_eq_some_iff.1 e2).1
 obtain ⟨z', f1, f2, _⟩ := T.2 k _ (List.getElem?_eq_getElem hk)
 rw [e2] at f1
 cases f1
 refine ⟨k, f, _, h3.trans e1, List.getElem?_eq_getElem hk, h4.trans e3, e4, ?_, h2 ▸ e6, by rw [f2]; exact e7⟩
 rw [e5, h2, f2]
theorem quadD_ok {f : Pt → Bool} {s : Int} {p : Pt} (hs : 0 ≤ s ∧ s ≤ 8) (hp : inC s p) {d : Dr} (hd : d ∈ drL) {q : Qd} (h : q ∈ quadD f p d) : q.Ok := by
 unfold quadD at h
 split at h
 ·simp only [List.mem_singleton] at h
  subst h
  unfold inC at hp
  unfold drL at hd
  simp only [List.mem_cons, List.not_mem_nil, or_false] at hd
  unfold Qd.Ok Pt.w
  rcases hd with rfl | rfl | rfl | rfl | rfl | rfl <;> simp [Pt.add] <;> omega
 ·cases h
theorem quadsU_ok {f : Pt → Bool} {n : Nat} (hn : n = 1 ∨ n = 8) {q : Qd} (h : q ∈ quadsU f n) : q.Ok := by
 unfold quadsU quadK quadI at h
 obtain ⟨k, hk, h⟩ := List.mem_flatMap.1 h
 obtain ⟨i, hi, h⟩ := List.mem_flatMap.1 h
 obtain ⟨d, hd, h⟩ := List.mem_flatMap.1 h
 exact quadD_ok (s := sideN n) (by rcases hn with rfl | rfl <;> decide) (posP_in hn (List.mem_range.1 hk) (List.mem_range.1 hi)) hd h
theorem quadI_len (f : Pt → Bool) (p : Pt) : (quadI f p).length ≤ 6 := by
 have h1 : ∀ d, (quadD f p d).length ≤ 1 := fun d => by unfold quadD; split <;> simp
 have a := h1 ⟨0, false, ⟨-1, 0, 0⟩⟩; have b := h1 ⟨0, true, ⟨1, 0, 0⟩⟩; have c := h1 ⟨1, false, ⟨0, -1, 0⟩⟩; have d := h1 ⟨1, true, ⟨0, 1, 0⟩⟩; have e := h1 ⟨2, false, ⟨0, 0, -1⟩⟩; have g := h1 ⟨2, true, ⟨0, 0, 1⟩⟩
 simp only [quadI, drL, List.flatMap_cons, List.flatMap_nil, List.length_append, List.length_nil]
 omega
theorem flat_le {α : Type} (g : Nat → List α) (c : Nat) (h : ∀ i, (g i).length ≤ c) : ∀ n, ((List.range n).flatMap g).length ≤ c * n
 | 0 => by simp
 | n + 1 => by
  have := flat_le g c h n
  have := h n
  rw [flat_succ, List.length_append, Nat.mul_succ]
  omega
theorem quadsU_len {f : Pt → Bool} {n : Nat} (hn : n = 1 ∨ n = 8) : (quadsU f n).length ≤ 3072 := by
 have h := flat_le (quadK f) 384 (fun k => by unfold quadK; exact flat_le _ 6 (fun i => quadI_len f _) 64) n
 unfold quadsU
 omega
end Go.Proofs.YtbpihalphhoiaaaGreatDoor
namespace Go.Proofs.YtbpihalphhoiaaaGreatDoor
open Go.RowKit
open Go.Maps (Keyed)
open Go.WideMaps
def I64 (n : Int) : Prop := -9223372036854775808 ≤ n ∧ n ≤ 9223372036854775807
section
variable {P : Program} {t : TypeId} {d : Nat}
theorem wf64 {n : Int} (h : I64 n) : (Lit.int .i64 n).wf = true := by
 unfold I64 at h
 simp [Lit.wf, IntKind.min, IntKind.max, IntKind.signed, IntKind.bits]
 omega
theorem keyLits_int (hu : P.underlying t = some (.int .i64)) {n : Int} (h : I64 n) : P.keyLits (d + 1) t [.int .i64 n] = some [.int .i64 n] := by
 unfold Program.keyLits
 simp only [hu]
 rw [if_pos ⟨trivial, wf64 h⟩]
theorem keyLits_struct {cs : List Value} {l : List (TypeId × Nat × Nat)} (hl : ((P.underlying t).map fun d => match d with | .struct fs => some (fs.toList.map fun f => (f.type, f.offset, P.cellsOf f.type), fs.all (·.name != "_")) | _ => none) = some (some (l, true))) (hc : cs.length = P.cellsOf t) :
 P.keyLits (d + 1) t cs = (l.mapM fun f => P.keyLits d f.1 ((cs.drop f.2.1).take f.2.2)).map List.flatten := by
 cases hu : P.underlying t with
 | none => rw [hu] at hl; cases hl
 | some ds =>
  rw [hu] at hl
  cases ds with
  | struct fs =>
   simp only [Option.map_some, Option.some.injEq, Prod.mk.injEq] at hl
   obtain ⟨rfl, hn⟩ := hl
   have e : P.keyLits (d + 1) t cs = if cs.length = P.cellsOf t ∧ fs.all (·.name != "_") = true then (fs.toList.mapM fun f => P.keyLits d f.type ((cs.drop f.offset).take (P.cellsOf f.type))).map List.flatten else none := by
    conv => lhs; unfold Program.keyLits
    simp only [hu]
   rw [e, if_pos ⟨hc, hn⟩, List.mapM_map]
   rfl
  | _ => cases hl
end
theorem Tryz.lits_pt {p : Pt} {d : Nat} (hx : I64 p.x) (hy : I64 p.y) (hz : I64 p.z) : Tryz.prog.keyLits (d + 2) 23 (pcs p) = some [.int .i64 p.x, .int .i64 p.y, .int .i64 p.z] := by
 rw [keyLits_struct (d := d + 1) (l := [(3, 0, 1), (3, 1, 1), (3, 2, 1)]) kr_ kr_]
 have hu : Tryz.prog.underlying 3 = some (.int .i64) := by kernel_rfl
 simp [pcs, keyLits_int hu hx, keyLits_int hu hy, keyLits_int hu hz]
def Bx.w (s : Bx) : Prop := s.mn.w 2000 ∧ s.mx.w 2000
theorem Pt.w.i64 {p : Pt} (h : p.w 2000) : I64 p.x ∧ I64 p.y ∧ I64 p.z := by unfold Pt.w at h; unfold I64; omega
theorem Tryz.lits_sp {s : Bx} {d : Nat} (h : s.w) : Tryz.prog.keyLits (d + 3) 92 (bxs s) = some [.int .i64 s.mn.x, .int .i64 s.mn.y, .int .i64 s.mn.z, .int .i64 s.mx.x, .int .i64 s.mx.y, .int .i64 s.mx.z] := by
 rw [keyLits_struct (d := d + 2) (l := [(23, 0, 3), (23, 3, 3)]) kr_ kr_]
 obtain ⟨hx, hy, hz⟩ := h.1.i64
 obtain ⟨hx', hy', hz'⟩ := h.2.i64
 have h1 := Tryz.lits_pt (d := d) hx hy hz
 have h2 := Tryz.lits_pt (d := d) hx' hy' hz'
 unfold pcs at h1 h2
 simp [bxs, pcs, h1, h2]
theorem Tryz.key_sp {s : Bx} (h : s.w) : (keyOf Tryz.prog 92 (.agg (bxs s).toArray)).isSome = true := by
 obtain ⟨fs, hu⟩ : ∃ fs, Tryz.prog.underlying 92 = some (.struct fs) := by
  have h1 : ((Tryz.prog.underlying 92).map fun d => match d with | .struct _ => true | _ => false) = some true := by kernel_rfl
  cases hd : Tryz.prog.underlying 92 with
  | none => rw [hd] at h1; cases h1
  | some ds =>
   rw [hd] at h1
   cases ds with
   | struct fs => exact ⟨fs, rfl⟩
   | _ => cases h1
 have hk : Tryz.prog.keyType 92 = true := by kernel_rfl
 have hc : Tryz.prog.cellsOf 92 = 6 := by kernel_rfl
 obtain ⟨m, hm⟩ : ∃ m, Tryz.prog.types.size + 1 = m + 3 := by
  have h2 : decide (2 ≤ Tryz.prog.types.size) = true := by kernel_rfl
  have := of_decide_eq_true h2
  exact ⟨Tryz.prog.types.size - 2, by omega⟩
 have hlit := Tryz.lits_sp (d := m) h
 unfold keyOf
 simp only [hu]
 rw [if_pos (by simp [hk, Value.formed, hu, hc, bxs, pcs]), hm]
 show ((Tryz.prog.keyLits (m + 3) 92 (bxs s)).map _).isSome = true
 rw [hlit]; rfl
theorem Tryz.law_sp : Keyed Tryz.prog 92 := Keyed.of_law (deep_law_laid kr_ (m := 4) (by omega) (of_decide_eq_true kr_) kr_ kr_)
theorem Tryz.map_sp : Tryz.prog.underlying 88 = some (.map 92 26) := by kernel_rfl
theorem Tryz.zero_ints (w : World) : (zeroValue 26).run Tryz.prog w = .ok (.slice none 0 0) w := by kernel_rfl
structure Ent where
 k : Bx
 A : Option Addr
 c : Nat
 ids : List Int
def entV (e : Ent) : Value := .slice e.A e.ids.length e.c
def rowE (e : Ent) : Res := .row (entV e) 3 1 e.ids.length (ics e.ids)
def spV (s : Bx) : Value := .agg (bxs s).toArray
def nilS : Value := .slice none 0 0
theorem spV_inj {s u : Bx} (h : spV s = spV u) : s = u := by
 obtain ⟨⟨a, b, c⟩, ⟨d, e, f⟩⟩ := s
 obtain ⟨⟨a', b', c'⟩, ⟨d', e', f'⟩⟩ := u
 simp [spV, bxs, pcs] at h
 simp [h]
def lookE (E : List Ent) (s : Bx) : Option Ent := E.find? fun e => decide (e.k = s)
structure FOK (F : Value → Option Value) (E : List Ent) (S : List Bx) : Prop where
 val : ∀ s, (F (spV s)).getD nilS = (match lookE E s with | some e => entV e | none => nilS)
 ids : ∀ s, (match lookE E s with | some e => e.ids | none => []) = idsS S s
theorem FOK.start : FOK (fun _ => none) [] [] := ⟨fun _ => rfl, fun _ => rfl⟩
theorem lookE_cons (e : Ent) (E : List Ent) (s : Bx) : lookE (e :: E) s = if e.k = s then some e else lookE E s := by
 unfold lookE
 rw [List.find?_cons]
 by_cases h : e.k = s <;> simp [h]
theorem lookE_filter (E : List Ent) {s u : Bx} (h : u ≠ s) : lookE (E.filter fun e => decide (e.k ≠ s)) u = lookE E u := by
 induction E with
 | nil => rfl
 | cons e E ih =>
  rw [lookE_cons]
  by_cases he : e.k = s
  ·rw [List.filter_cons, if_neg (by simp [he]), if_neg (by rw [he]; exact Ne.symm h)]; exact ih
  ·rw [List.filter_cons, if_pos (by simp [he]), lookE_cons, ih]
theorem FOK.out {F : Value → Option Value} {E : List Ent} {S : List Bx} {w0 w : World} {L : List Res} (h : FOK F E S) (hm : Mem w0 w (L ++ E.map rowE)) (s : Bx) :
 ∃ e0 E0, e0.k = s ∧ FOK F (e0 :: E0) S ∧ (F (spV s)).getD nilS = entV e0 ∧ e0.ids = idsS S s ∧ (∀ e ∈ E0, e.k ≠ s) ∧ Mem w0 w (rowE e0 :: (L ++ E0.map rowE)) := by
 cases hl : lookE E s with
 | none =>
  have hv := h.val s
  have hi := h.ids s
  rw [hl] at hv hi
  have hne : ∀ e ∈ E, e.k ≠ s := fun e he hk => by
   unfold lookE at hl
   rw [List.find?_eq_none] at hl
   exact hl e he (by simp [hk])
  refine ⟨⟨s, none, 0, []⟩, E, rfl, ⟨fun u => ?_, fun u => ?_⟩, hv, hi, hne, ?_⟩
  ·rw [lookE_cons]
   by_cases hu : s = u
   ·subst hu; rw [if_pos rfl, hv]; rfl
   ·rw [if_neg hu]; exact h.val u
  ·rw [lookE_cons]
   by_cases hu : s = u
   ·subst hu; rw [if_pos rfl, ← hi]
   ·rw [if_neg hu]; exact h.ids u
  ·exact hm.nilFront 3 1
 | some e =>
  have hv := h.val s
  have hi := h.ids s
  rw [hl] at hv hi
  obtain ⟨hk, l1, l2, hE, has⟩ := List.find?_eq_some_iff_append.1 hl
  have hk : e.k = s := of_decide_eq_true hk
  refine ⟨e, E.filter (fun e => decide (e.k ≠ s)), hk, ⟨fun u => ?_, fun u => ?_⟩, hv, hi, fun x hx => by simpa using (List.mem_filter.1 hx).2, ?_⟩
  ·rw [lookE_cons]
   by_cases hu : e.k = u
   ·rw [if_pos hu]; rw [hk] at hu; subst hu; exact hv
   ·rw [if_neg hu, lookE_filter E (by rw [← hk]; exact Ne.symm hu)]; exact h.val u
  ·rw [lookE_cons]
   by_cases hu : e.k = u
   ·rw [if_pos hu]; rw [hk] at hu; subst hu; exact hi
   ·rw [if_neg hu, lookE_filter E (by rw [← hk]; exact Ne.symm hu)]; exact h.ids u
  ·have hp : (rowE e :: (L ++ (l1 ++ l2).map rowE)).Perm (L ++ E.map rowE) := by
    rw [hE, List.map_append, List.map_append, List.map_cons, ← List.append_assoc, ← List.append_assoc]
    exact List.perm_middle.symm
   refine (hm.permL hp).sub (List.Sublist.cons_cons _ (List.Sublist.append (List.Sublist.refl _) (List.Sublist.map _ ?_)))
   rw [hE, List.filter_append, List.filter_cons, if_neg (by simp [hk])]
   exact List.Sublist.append List.filter_sublist List.filter_sublist
theorem FOK.up {F : Value → Option Value} {E0 : List Ent} {e0 e' : Ent} {S : List Bx} {s : Bx} (h : FOK F (e0 :: E0) S) (h0 : e0.k = s) (hE : ∀ e ∈ E0, e.k ≠ s) (hk : e'.k = s) (hi : e'.ids = e0.ids ++ [((S.length : Nat) : Int)]) :
 FOK (updF F (spV s) (entV e')) (e' :: E0) (S ++ [s]) := by
 refine ⟨fun u => ?_, fun u => ?_⟩
 ·rw [lookE_cons, hk]
  by_cases hu : s = u
  ·subst hu; rw [if_pos rfl, updF_self]; rfl
  ·rw [if_neg hu, updF_other (fun e => hu (spV_inj e).symm), h.val u, lookE_cons, h0, if_neg hu]
 ·rw [lookE_cons, hk, idsS_app]
  have h2 := h.ids u
  rw [lookE_cons, h0] at h2
  by_cases hu : s = u
  ·subst hu; rw [if_pos rfl] at h2; simp only [if_true]; rw [← h2, hi]
  ·rw [if_neg hu] at h2; simp only [if_neg hu, List.append_nil]; exact h2
theorem Mem.rowBack {w0 w : World} {L : List Res} {e : Ent} {E : List Ent} (h : Mem w0 w (rowE e :: (L ++ E.map rowE))) : Mem w0 w (L ++ (e :: E).map rowE) :=
 h.permL (by rw [List.map_cons]; exact List.perm_middle)
theorem flatSet {α : Type} (f : α → List Value) (s : Nat) (hs : ∀ x, (f x).length = s) {x y : α} {i : Nat} {u : Value} (hy : f y = (f x).set i u) (hi : i < s) : ∀ {l : List α} {k : Nat}, l[k]? = some x → (l.flatMap f).set (k * s + i) u = (l.set k y).flatMap f
 | [], k, h => by simp at h
 | q :: l, 0, h => by
  simp at h; subst h
  show (f q ++ l.flatMap f).set _ u = f y ++ l.flatMap f
  rw [Nat.zero_mul, Nat.zero_add, List.set_append_left _ _ (by rw [hs]; exact hi), hy]
 | q :: l, k + 1, h => by
  show (f q ++ l.flatMap f).set _ u = f q ++ (l.set k y).flatMap f
  have e : (k + 1) * s + i - (f q).length = k * s + i := by rw [hs, Nat.add_mul]; omega
  rw [List.set_append_right _ _ (by rw [hs, Nat.add_mul]; omega), e, flatSet f s hs hy hi (l := l) (by simpa using h)]
theorem hfsC_tw {l : List Hf} {k : Nat} {x : Hf} (h : l[k]? = some x) (t : Int) : (hfsC l).set (k * 6 + 4) (.int .i64 t) = hfsC (l.set k { x with tw := t }) := flatSet hfc 6 (fun _ => rfl) (x := x) (y := { x with tw := t }) rfl (by omega) h
theorem hfsP_get {l : List Hf} {k : Nat} {t : Hf} (h : l[k]? = some t) : ∀ (i : Nat) (u : Value), (pcs t.p)[i]? = some u → (hfsC l)[k * 6 + i]? = some u := fun i u hu => hfsC_get h i u (by
 unfold hfc
 rw [List.getElem?_append_left (List.getElem?_eq_some_iff.1 hu).1]; exact hu)
end Go.Proofs.YtbpihalphhoiaaaGreatDoor
namespace Go.Proofs.YtbpihalphhoiaaaGreatDoor
open Go.RowKit
theorem to_any (qv : Value) (H : List Hf) (h k : Nat) (x y : Hf) (hx : H[h]? = some x) (hk : x.nx = (k : Int)) (hy : H[k]? = some y) (A : Option Addr) (c : Nat) (w : World) (hh : Rd w w.heap.size 6 A H.length c (hfsC H)) : Calls Tryz.prog 38 #[.agg ([qv, .slice A H.length c]).toArray, .int .i64 (h : Int)] w (RetV w (.agg (pcs y.p).toArray)) := by
 have hlt_ := (List.getElem?_eq_some_iff.1 hx).1
 obtain ⟨bh_, oh_, rfl, _, _⟩ := hh.cells (by omega)
 have hm0 := Mem.nil w
 go_enter Tryz.func38, Tryz.ntmps38
 refine litStart 16 [(0, .agg ([qv, .slice (some ⟨bh_, oh_, none⟩) H.length c]).toArray), (1, .int .i64 (h : Int))] kr_ (fun X0 => ?_)
 refine sp_ fun _ hK1 => ?_
 refine plBox hm0 (cs := [qv, .slice (some ⟨bh_, oh_, none⟩) H.length c]) (i := 0) rfl (wn rfl) rfl le_ ?_
 intro g2 w4 hm3
 clear hm0
 try simp only [lc_] at hm3
 refine qP rfl ?_
 refine plAlloc (z := [.int .i64 0, .int .i64 0, .int .i64 0]) Ty.ag_voxel_api_Point hm3 (i := 1) rfl (wn rfl) rfl ?_
 intro g5 w7 hm6
 clear hm3
 try simp only [lc_] at hm6
 refine qP rfl ?_
 refine pt_ hK1 ?_
 refine sk_ fun _ hK8 => ?_
 refine aoStart (aoV [fun _ => .pointer (some ⟨g2, 1, none⟩), fun _ => .slice (some ⟨bh_, oh_, none⟩) H.length c, fun _ => .pointer (some ⟨g2, 1, none⟩), fun _ => .slice (some ⟨bh_, oh_, none⟩) H.length c, fun _ => .int .i64 (h : Int), fun _ => .pointer (some ⟨bh_, oh_ + h * 6, none⟩), fun _ => .pointer (some ⟨bh_, oh_ + h * 6 + 3, none⟩), fun _ => .int .i64 x.nx, fun _ => .pointer (some ⟨bh_, oh_ + k * 6, none⟩), fun _ => .pointer (some ⟨bh_, oh_ + k * 6, none⟩), fun _ => .agg (pcs y.p).toArray, fun _ => undef]) (aoA [[], [], [], [], [], [], [], [], [], [], [], []]) (fun b_ g_ => ((.arr g2 41 ([qv, .slice (some ⟨bh_, oh_, none⟩) H.length c])) :: (.arr g5 23 (bsel (b_ 11) [.int .i64 y.p.x, .int .i64 y.p.y, .int .i64 y.p.z] [.int .i64 0, .int .i64 0, .int .i64 0])) :: [])) hm6 kr_ kr_ (fun w_ h_ => h_) (fun b_ g_ h_ => by show (fun (x11_ : Bool) => (((.arr g2 41 ([qv, .slice (some ⟨bh_, oh_, none⟩) H.length c])) :: (.arr g5 23 (bsel x11_ [.int .i64 y.p.x, .int .i64 y.p.y, .int .i64 y.p.z] [.int .i64 0, .int .i64 0, .int .i64 0])) :: []) : List Res)) (b_ 11) = _; rw [h_ 11 (by decide)]) ?_ ?_
 ·refine aoNext rfl aoK_ ?_
  refine aoNext rfl (aoV_ (fun b_ g_ X_ w_ h_b h_ => valTo (b := .slice (some ⟨bh_, oh_, none⟩) H.length c) kr_ ((fun (h_ : Mem _ w_ ((.arr g2 41 ([qv, .slice (some ⟨bh_, oh_, none⟩) H.length c])) :: (.arr g5 23 ([.int .i64 0, .int .i64 0, .int .i64 0])) :: [])) => gLoad (v := .slice (some ⟨bh_, oh_, none⟩) H.length c) (k := 1) 0 h_ rfl kr_ (.tmp 5) kr_ rfl le_) (by have h2_ : Mem w w_ ((.arr g2 41 ([qv, .slice (some ⟨bh_, oh_, none⟩) H.length c])) :: (.arr g5 23 (bsel (b_ 11) [.int .i64 y.p.x, .int .i64 y.p.y, .int .i64 y.p.z] [.int .i64 0, .int .i64 0, .int .i64 0])) :: []) := h_; rw [bselF (h_b.post 11 kr_)] at h2_; exact h2_)))) ?_
  refine aoNext rfl aoK_ ?_
  refine aoNext rfl (aoV_ (fun b_ g_ X_ w_ h_b h_ => valTo (b := .slice (some ⟨bh_, oh_, none⟩) H.length c) kr_ ((fun (h_ : Mem _ w_ ((.arr g2 41 ([qv, .slice (some ⟨bh_, oh_, none⟩) H.length c])) :: (.arr g5 23 ([.int .i64 0, .int .i64 0, .int .i64 0])) :: [])) => gLoad (v := .slice (some ⟨bh_, oh_, none⟩) H.length c) (k := 1) 0 h_ rfl kr_ (.tmp 7) kr_ rfl le_) (by have h2_ : Mem w w_ ((.arr g2 41 ([qv, .slice (some ⟨bh_, oh_, none⟩) H.length c])) :: (.arr g5 23 (bsel (b_ 11) [.int .i64 y.p.x, .int .i64 y.p.y, .int .i64 y.p.z] [.int .i64 0, .int .i64 0, .int .i64 0])) :: []) := h_; rw [bselF (h_b.post 11 kr_)] at h2_; exact h2_)))) ?_
  refine aoNext rfl aoK_ ?_
  refine aoNext rfl (aoV_ (fun b_ g_ X_ w_ h_b h_ => valTo (b := .pointer (some ⟨bh_, oh_ + h * 6, none⟩)) kr_ (ia_ c h Ty.sl_L_api_Half rfl ((List.getElem?_eq_some_iff.1 hx).1)))) ?_
  refine aoNext rfl aoK_ ?_
  refine aoNext rfl (aoV_ (fun b_ g_ X_ w_ h_b h_ => valTo (b := .int .i64 x.nx) kr_ ((fun (h_ : Mem _ w_ ((.arr g2 41 ([qv, .slice (some ⟨bh_, oh_, none⟩) H.length c])) :: (.arr g5 23 ([.int .i64 0, .int .i64 0, .int .i64 0])) :: [])) => gLoadRd (v := .int .i64 x.nx) (m := h * 6 + 3) ((Rd.below hh h_.bel).more h_.bel.size) rfl (hfsC_get hx 3 _ rfl) (by omega) (.tmp 11) kr_ rfl le_) (by have h2_ : Mem w w_ ((.arr g2 41 ([qv, .slice (some ⟨bh_, oh_, none⟩) H.length c])) :: (.arr g5 23 (bsel (b_ 11) [.int .i64 y.p.x, .int .i64 y.p.y, .int .i64 y.p.z] [.int .i64 0, .int .i64 0, .int .i64 0])) :: []) := h_; rw [bselF (h_b.post 11 kr_)] at h2_; exact h2_)))) ?_
  refine aoNext rfl (aoV_ (fun b_ g_ X_ w_ h_b h_ => valTo (b := .pointer (some ⟨bh_, oh_ + k * 6, none⟩)) kr_ (ia_ c k Ty.sl_L_api_Half hk ((List.getElem?_eq_some_iff.1 hy).1)))) ?_
  refine aoNext rfl aoK_ ?_
  refine aoNext rfl (aoV_ (fun b_ g_ X_ w_ h_b h_ => valTo (b := .agg (pcs y.p).toArray) kr_ ((fun (h_ : Mem _ w_ ((.arr g2 41 ([qv, .slice (some ⟨bh_, oh_, none⟩) H.length c])) :: (.arr g5 23 ([.int .i64 0, .int .i64 0, .int .i64 0])) :: [])) => gLoadAgRd (vs := pcs y.p) (m := k * 6) ((Rd.below hh h_.bel).more h_.bel.size) rfl (hfsP_get hy) kr_ (by omega) (.tmp 14) Ty.ag_voxel_api_Point rfl le_) (by have h2_ : Mem w w_ ((.arr g2 41 ([qv, .slice (some ⟨bh_, oh_, none⟩) H.length c])) :: (.arr g5 23 (bsel (b_ 11) [.int .i64 y.p.x, .int .i64 y.p.y, .int .i64 y.p.z] [.int .i64 0, .int .i64 0, .int .i64 0])) :: []) := h_; rw [bselF (h_b.post 11 kr_)] at h2_; exact h2_)))) ?_
  refine aoNext rfl (aoStore (gb := fun g_ => g5) (k := 0) (cur := fun g_ => [.int .i64 0, .int .i64 0, .int .i64 0]) (vs := fun g_ => pcs y.p) 1 (fun g_ => [(4, .pointer (some ⟨g5, 0, none⟩)), (15, .agg (pcs y.p).toArray)]) (fun g_ a_ h_k => ⟨(h_k.out 4 kr_).trans (lg_), (h_k.inn 10 _ _ kr_ rfl rfl).trans kr_, trivial⟩) Ty.ag_voxel_api_Point (fun b_ g_ h_b => by show some (Res.arr g5 23 (bsel (b_ 11) [.int .i64 y.p.x, .int .i64 y.p.y, .int .i64 y.p.z] [.int .i64 0, .int .i64 0, .int .i64 0])) = some (Res.arr g5 23 ([.int .i64 0, .int .i64 0, .int .i64 0])); rw [bselF h_b.no]) (fun g_ X_ => (wn rfl)) rfl (fun g_ X_ => litEv kr_) (fun g_ X_ => litEv kr_) (fun _ => by kernel_rfl) (fun _ => by kernel_rfl) (fun _ => by kernel_rfl) (fun b_ g_ h_b => by kernel_rfl) rfl) ?_
  exact aoDone (by decide)
 intro g_ a_ w10 hF_ hm9
 obtain ⟨X11, rfl⟩ := frLit (⟨hF_.size, hF_.defers, ⟨hF_.o_ 4, hF_.i_ 0, hF_.i_ 1, hF_.i_ 2, hF_.i_ 3, hF_.i_ 4, hF_.i_ 5, hF_.i_ 6, hF_.i_ 7, hF_.i_ 8, hF_.i_ 9, hF_.i_ 10, trivial⟩⟩ : Fr _ 16 [(4, .pointer (some ⟨g5, 0, none⟩)), (5, .pointer (some ⟨g2, 1, none⟩)), (6, .slice (some ⟨bh_, oh_, none⟩) H.length c), (7, .pointer (some ⟨g2, 1, none⟩)), (8, .slice (some ⟨bh_, oh_, none⟩) H.length c), (9, .int .i64 (h : Int)), (10, .pointer (some ⟨bh_, oh_ + h * 6, none⟩)), (11, .pointer (some ⟨bh_, oh_ + h * 6 + 3, none⟩)), (12, .int .i64 x.nx), (13, .pointer (some ⟨bh_, oh_ + k * 6, none⟩)), (14, .pointer (some ⟨bh_, oh_ + k * 6, none⟩)), (15, .agg (pcs y.p).toArray)])
 clear hF_
 have hm12 : Mem w w10 [.arr g2 41 ([qv, .slice (some ⟨bh_, oh_, none⟩) H.length c]), .arr g5 23 (pcs y.p)] := hm9
 clear hm9 hm6
 refine tn_ hK8 ?_
 refine wp_ret ?_
 refine bodyPost_ret (v := .agg (pcs y.p).toArray) (gRes1 rfl (gResAg (cs := pcs y.p) 1 hm12 rfl Ty.ag_voxel_api_Point rfl (lg_))) rfl ?_
 exact ⟨by rfl, hm12.bel⟩
theorem touch_any (q : Qd) (s : Bx) (hq : q.Ok) (hs : s.w) (w : World) : Calls Tryz.prog 39 #[.agg (qdc q).toArray, .agg (bxs s).toArray] w (fun e w' => ∃ p : Pt, e = .returned (.agg (pcs p).toArray) ∧ Below w.heap.size w w') := by
 have hq1_ := hq.1
 have hs1_ := hs.1
 have hs2_ := hs.2
 unfold Pt.w at hq1_ hs1_ hs2_
 have hm0 := Mem.nil w
 go_enter Tryz.func39, Tryz.ntmps39
 refine litStart 107 [(0, .agg (qdc q).toArray), (1, .agg (bxs s).toArray)] kr_ (fun X0 => ?_)
 refine sp_ fun _ hK1 => ?_
 refine plBox hm0 (cs := qdc q) (i := 0) rfl (wn rfl) rfl le_ ?_
 intro g2 w4 hm3
 clear hm0
 try simp only [lc_] at hm3
 refine qP rfl ?_
 refine plBox hm3 (cs := bxs s) (i := 1) rfl (wn rfl) rfl le_ ?_
 intro g5 w7 hm6
 clear hm3
 try simp only [lc_] at hm6
 refine qP rfl ?_
 refine plAlloc (z := [.int .i64 0, .int .i64 0, .int .i64 0]) Ty.ag_voxel_api_Point hm6 (i := 2) rfl (wn rfl) rfl ?_
 intro g8 w10 hm9
 clear hm6
 try simp only [lc_] at hm9
 refine qP rfl ?_
 refine pt_ hK1 ?_
 refine sp_ fun _ hK11 => ?_
 refine lp_ g5 0 ?_
 refine lp_ g5 0 ?_
 refine lv_ rfl (.int .i64 s.mn.x) (ld_ 0 1 hm9) ?_
 refine lp_ g5 3 ?_
 refine lp_ g5 3 ?_
 refine lv_ rfl (.int .i64 s.mx.x) (ld_ 3 1 hm9) ?_
 refine lv_ rfl (.int .i64 (min s.mn.x s.mx.x)) (gMin (.tmp 11) (.tmp 14) rfl le_ le_) ?_
 refine lp_ g5 0 ?_
 refine lp_ g5 1 ?_
 refine lv_ rfl (.int .i64 s.mn.y) (ld_ 1 1 hm9) ?_
 refine lp_ g5 3 ?_
 refine lp_ g5 4 ?_
 refine lv_ rfl (.int .i64 s.mx.y) (ld_ 4 1 hm9) ?_
 refine lv_ rfl (.int .i64 (min s.mn.y s.mx.y)) (gMin (.tmp 18) (.tmp 21) rfl le_ le_) ?_
 refine lp_ g5 0 ?_
 refine lp_ g5 2 ?_
 refine lv_ rfl (.int .i64 s.mn.z) (ld_ 2 1 hm9) ?_
 refine lp_ g5 3 ?_
 refine lp_ g5 5 ?_
 refine lv_ rfl (.int .i64 s.mx.z) (ld_ 5 1 hm9) ?_
 refine lv_ rfl (.int .i64 (min s.mn.z s.mx.z)) (gMin (.tmp 25) (.tmp 28) rfl le_ le_) ?_
 refine lk_ (.agg (pcs ⟨min s.mn.x s.mx.x, min s.mn.y s.mx.y, min s.mn.z s.mx.z⟩).toArray) ?_
 refine plAlloc (z := [.int .i64 0, .int .i64 0, .int .i64 0]) Ty.ag_voxel_api_Point hm9 (i := 22) rfl (wn rfl) rfl ?_
 intro g12 w14 hm13
 clear hm9
 try simp only [lc_] at hm13
 refine qP rfl ?_
 refine plStore 3 Ty.ag_voxel_api_Point hm13 rfl (i := 23) (cs := pcs ⟨min s.mn.x s.mx.x, min s.mn.y s.mx.y, min s.mn.z s.mx.z⟩) rfl (wn rfl) rfl le_ le_ rfl rfl kr_ ?_
 intro w16 hm15
 clear hm13
 try simp only [lc_] at hm15
 refine qNone rfl ?_
 refine pt_ hK11 ?_
 refine wpPrune [(2, .pointer (some ⟨g2, 0, none⟩)), (3, .pointer (some ⟨g5, 0, none⟩)), (4, .pointer (some ⟨g8, 0, none⟩)), (5, .pointer (some ⟨g12, 0, none⟩))] fo_ (fun X17 => ?_)
 refine sp_ fun _ hK18 => ?_
 refine lk_ (.agg (pcs ⟨0, 0, 0⟩).toArray) ?_
 refine plAlloc (z := [.int .i64 0, .int .i64 0, .int .i64 0]) Ty.ag_3_int hm15 (i := 1) rfl (wn rfl) rfl ?_
 intro g19 w21 hm20
 clear hm15
 try simp only [lc_] at hm20
 refine qP rfl ?_
 refine plStore 4 Ty.ag_3_int hm20 rfl (i := 2) (cs := pcs ⟨0, 0, 0⟩) rfl (wn rfl) rfl le_ le_ rfl rfl kr_ ?_
 intro w23 hm22
 clear hm20
 try simp only [lc_] at hm22
 refine qNone rfl ?_
 refine pt_ hK18 ?_
 refine gwCut (fun a_ w_ => ∃ (b0 b1 b2 : Int), ((0 ≤ b0 ∧ b0 ≤ 1) ∧ (0 ≤ b1 ∧ b1 ≤ 1) ∧ (0 ≤ b2 ∧ b2 ≤ 1)) ∧ Fr a_ 107 [(2, .pointer (some ⟨g2, 0, none⟩)), (3, .pointer (some ⟨g5, 0, none⟩)), (4, .pointer (some ⟨g8, 0, none⟩)), (5, .pointer (some ⟨g12, 0, none⟩)), (6, .pointer (some ⟨g19, 0, none⟩))] ∧ Mem w w_ [.arr g2 45 (qdc q), .arr g5 92 (bxs s), .arr g8 23 ([.int .i64 0, .int .i64 0, .int .i64 0]), .arr g12 23 (pcs ⟨min s.mn.x s.mx.x, min s.mn.y s.mx.y, min s.mn.z s.mx.z⟩), .arr g19 120 ([.int .i64 b0, .int .i64 b1, .int .i64 b2])]) ?_ ?_
 ·refine sp_ fun _ hK24 => ?_
  refine lp_ g2 4 ?_
  rcases bool_or (q.up) with h25 | h25
  ·refine lv_ rfl (.bool false) (boolTo h25 (gLoad (v := .bool q.up) (k := 4) 0 hm22 rfl kr_ (.tmp 32) kr_ rfl le_)) ?_
   refine pt_ hK24 ?_
   refine wp_cond_false le_ ?_
   refine wp_skip ?_
   refine then_normal ?_
   exact ⟨0, 0, 0, (by omega), ⟨litSize, rfl, fo_⟩, hm22⟩
  refine lv_ rfl (.bool true) (boolTo h25 (gLoad (v := .bool q.up) (k := 4) 0 hm22 rfl kr_ (.tmp 32) kr_ rfl le_)) ?_
  refine pt_ hK24 ?_
  refine wp_cond_true le_ ?_
  refine plStart ?_
  refine lp_ g2 3 ?_
  refine lv_ rfl (.int .i64 q.ax) (ld_ 3 0 hm22) ?_
  rcases hq.2.1 with hax_ | hax_ | hax_
  ·refine lv_ rfl (.pointer (some ⟨g19, 0, none⟩)) (iaRun (b := g19) (off := 0) (s := 1) (n := 3) (kk := .i64) (K := q.ax) (.tmp 6) (.tmp 35) 0 Ty.und_3_int kr_ rfl le_ le_ hax_ (by decide)) ?_
   refine plStore1 (v := .int .i64 1) (k := 0) 4 kr_ hm22 rfl (i := 3) rfl (wn rfl) rfl le_ le_ rfl rfl rfl ?_
   intro w27 hm26
   clear hm22
   try simp only [lc_] at hm26
   refine qNone rfl ?_
   refine plD ?_
   refine then_normal ?_
   exact ⟨1, 0, 0, (by omega), ⟨litSize, rfl, fo_⟩, hm26⟩
  ·refine lv_ rfl (.pointer (some ⟨g19, 1, none⟩)) (iaRun (b := g19) (off := 0) (s := 1) (n := 3) (kk := .i64) (K := q.ax) (.tmp 6) (.tmp 35) 1 Ty.und_3_int kr_ rfl le_ le_ hax_ (by decide)) ?_
   refine plStore1 (v := .int .i64 1) (k := 1) 4 kr_ hm22 rfl (i := 3) rfl (wn rfl) rfl le_ le_ rfl rfl rfl ?_
   intro w29 hm28
   clear hm22
   try simp only [lc_] at hm28
   refine qNone rfl ?_
   refine plD ?_
   refine then_normal ?_
   exact ⟨0, 1, 0, (by omega), ⟨litSize, rfl, fo_⟩, hm28⟩
  refine lv_ rfl (.pointer (some ⟨g19, 2, none⟩)) (iaRun (b := g19) (off := 0) (s := 1) (n := 3) (kk := .i64) (K := q.ax) (.tmp 6) (.tmp 35) 2 Ty.und_3_int kr_ rfl le_ le_ hax_ (by decide)) ?_
  refine plStore1 (v := .int .i64 1) (k := 2) 4 kr_ hm22 rfl (i := 3) rfl (wn rfl) rfl le_ le_ rfl rfl rfl ?_
  intro w31 hm30
  clear hm22
  try simp only [lc_] at hm30
  refine qNone rfl ?_
  refine plD ?_
  refine then_normal ?_
  exact ⟨0, 0, 1, (by omega), ⟨litSize, rfl, fo_⟩, hm30⟩
 clear hm22
 intro a34 w32 hI_
 obtain ⟨b0, b1, b2, hb_, hF_, hm33⟩ := hI_
 obtain ⟨X35, rfl⟩ := frLit hF_
 clear hF_
 refine gwCut (fun a_ w_ => ∃ (g7 : Nat) (f0 f1 f2 : Bool), Fr a_ 107 [(2, .pointer (some ⟨g2, 0, none⟩)), (4, .pointer (some ⟨g8, 0, none⟩)), (5, .pointer (some ⟨g12, 0, none⟩)), (6, .pointer (some ⟨g19, 0, none⟩)), (7, .pointer (some ⟨g7, 0, none⟩))] ∧ Mem w w_ [.arr g2 45 (qdc q), .arr g5 92 (bxs s), .arr g8 23 ([.int .i64 0, .int .i64 0, .int .i64 0]), .arr g12 23 (pcs ⟨min s.mn.x s.mx.x, min s.mn.y s.mx.y, min s.mn.z s.mx.z⟩), .arr g19 120 ([.int .i64 b0, .int .i64 b1, .int .i64 b2]), .arr g7 144 ([.bool f0, .bool f1, .bool f2])]) ?_ ?_
 ·refine plStart ?_
  refine lp_ g5 0 ?_
  refine lp_ g5 0 ?_
  refine lv_ rfl (.int .i64 s.mn.x) (ld_ 0 1 hm33) ?_
  refine lp_ g5 3 ?_
  refine lp_ g5 3 ?_
  refine lv_ rfl (.int .i64 s.mx.x) (ld_ 3 1 hm33) ?_
  by_cases h36 : s.mn.x = s.mx.x
  ·refine lv_ rfl _ (eqT_ h36) ?_
   refine lT_ ?_
   refine lw_ rfl (.pointer (some ⟨g12, 0, none⟩)) (litRun kr_) ?_
   refine lw_ rfl (.int .i64 (min s.mn.x s.mx.x)) (ld_ 0 3 hm33) ?_
   refine lw_ rfl (.pointer (some ⟨g2, 0, none⟩)) (litRun kr_) ?_
   refine lw_ rfl (.pointer (some ⟨g2, 0, none⟩)) (litRun kr_) ?_
   refine lw_ rfl (.int .i64 q.p.x) (ld_ 0 0 hm33) ?_
   by_cases h37 : q.p.x < (min s.mn.x s.mx.x)
   ·refine lw_ rfl _ (gtT_ h37) ?_
    refine lT_ ?_
    refine lp_ g5 0 ?_
    refine lp_ g5 1 ?_
    refine lv_ rfl (.int .i64 s.mn.y) (ld_ 1 1 hm33) ?_
    refine lp_ g5 3 ?_
    refine lp_ g5 4 ?_
    refine lv_ rfl (.int .i64 s.mx.y) (ld_ 4 1 hm33) ?_
    by_cases h38 : s.mn.y = s.mx.y
    ·refine lv_ rfl _ (eqT_ h38) ?_
     refine lT_ ?_
     refine lw_ rfl (.pointer (some ⟨g12, 1, none⟩)) (litRun kr_) ?_
     refine lw_ rfl (.int .i64 (min s.mn.y s.mx.y)) (ld_ 1 3 hm33) ?_
     refine lw_ rfl (.pointer (some ⟨g2, 0, none⟩)) (litRun kr_) ?_
     refine lw_ rfl (.pointer (some ⟨g2, 1, none⟩)) (litRun kr_) ?_
     refine lw_ rfl (.int .i64 q.p.y) (ld_ 1 0 hm33) ?_
     by_cases h39 : q.p.y < (min s.mn.y s.mx.y)
     ·refine lw_ rfl _ (gtT_ h39) ?_
      refine lT_ ?_
      refine lp_ g5 0 ?_
      refine lp_ g5 2 ?_
      refine lv_ rfl (.int .i64 s.mn.z) (ld_ 2 1 hm33) ?_
      refine lp_ g5 3 ?_
      refine lp_ g5 5 ?_
      refine lv_ rfl (.int .i64 s.mx.z) (ld_ 5 1 hm33) ?_
      by_cases h40 : s.mn.z = s.mx.z
      ·refine lv_ rfl _ (eqT_ h40) ?_
       refine lT_ ?_
       refine lw_ rfl (.pointer (some ⟨g12, 2, none⟩)) (litRun kr_) ?_
       refine lw_ rfl (.int .i64 (min s.mn.z s.mx.z)) (ld_ 2 3 hm33) ?_
       refine lw_ rfl (.pointer (some ⟨g2, 0, none⟩)) (litRun kr_) ?_
       refine lw_ rfl (.pointer (some ⟨g2, 2, none⟩)) (litRun kr_) ?_
       refine lw_ rfl (.int .i64 q.p.z) (ld_ 2 0 hm33) ?_
       by_cases h41 : q.p.z < (min s.mn.z s.mx.z)
       ·refine lw_ rfl _ (gtT_ h41) ?_
        refine lT_ ?_
        refine lk_ (.agg ([.bool true, .bool true, .bool true]).toArray) ?_
        refine plAlloc (z := [.bool false, .bool false, .bool false]) Ty.ag_3_bool hm33 (i := 46) rfl (wn rfl) rfl ?_
        intro g42 w44 hm43
        clear hm33
        try simp only [lc_] at hm43
        refine qP rfl ?_
        refine plStore 5 Ty.ag_3_bool hm43 rfl (i := 47) (cs := [.bool true, .bool true, .bool true]) rfl (wn rfl) rfl le_ le_ rfl rfl kr_ ?_
        intro w46 hm45
        clear hm43
        try simp only [lc_] at hm45
        refine qNone rfl ?_
        refine plD ?_
        refine then_normal ?_
        exact ⟨g42, true, true, true, ⟨litSize, rfl, fo_⟩, hm45⟩
       refine lw_ rfl _ (gtF_ h41) ?_
       refine lF_ ?_
       refine lk_ (.agg ([.bool true, .bool true, .bool false]).toArray) ?_
       refine plAlloc (z := [.bool false, .bool false, .bool false]) Ty.ag_3_bool hm33 (i := 46) rfl (wn rfl) rfl ?_
       intro g47 w49 hm48
       clear hm33
       try simp only [lc_] at hm48
       refine qP rfl ?_
       refine plStore 5 Ty.ag_3_bool hm48 rfl (i := 47) (cs := [.bool true, .bool true, .bool false]) rfl (wn rfl) rfl le_ le_ rfl rfl kr_ ?_
       intro w51 hm50
       clear hm48
       try simp only [lc_] at hm50
       refine qNone rfl ?_
       refine plD ?_
       refine then_normal ?_
       exact ⟨g47, true, true, false, ⟨litSize, rfl, fo_⟩, hm50⟩
      refine lv_ rfl _ (eqF_ h40) ?_
      refine lF_ ?_
      refine ps_ (i := 38) ?_
      refine ps_ (i := 39) ?_
      refine ps_ (i := 40) ?_
      refine ps_ (i := 41) ?_
      refine ps_ (i := 42) ?_
      refine ps_ (i := 43) ?_
      refine lF_ ?_
      refine lk_ (.agg ([.bool true, .bool true, .bool false]).toArray) ?_
      refine plAlloc (z := [.bool false, .bool false, .bool false]) Ty.ag_3_bool hm33 (i := 46) rfl (wn rfl) rfl ?_
      intro g52 w54 hm53
      clear hm33
      try simp only [lc_] at hm53
      refine qP rfl ?_
      refine plStore 5 Ty.ag_3_bool hm53 rfl (i := 47) (cs := [.bool true, .bool true, .bool false]) rfl (wn rfl) rfl le_ le_ rfl rfl kr_ ?_
      intro w56 hm55
      clear hm53
      try simp only [lc_] at hm55
      refine qNone rfl ?_
      refine plD ?_
      refine then_normal ?_
      exact ⟨g52, true, true, false, ⟨litSize, rfl, fo_⟩, hm55⟩
     refine lw_ rfl _ (gtF_ h39) ?_
     refine lF_ ?_
     refine lp_ g5 0 ?_
     refine lp_ g5 2 ?_
     refine lv_ rfl (.int .i64 s.mn.z) (ld_ 2 1 hm33) ?_
     refine lp_ g5 3 ?_
     refine lp_ g5 5 ?_
     refine lv_ rfl (.int .i64 s.mx.z) (ld_ 5 1 hm33) ?_
     by_cases h57 : s.mn.z = s.mx.z
     ·refine lv_ rfl _ (eqT_ h57) ?_
      refine lT_ ?_
      refine lw_ rfl (.pointer (some ⟨g12, 2, none⟩)) (litRun kr_) ?_
      refine lw_ rfl (.int .i64 (min s.mn.z s.mx.z)) (ld_ 2 3 hm33) ?_
      refine lw_ rfl (.pointer (some ⟨g2, 0, none⟩)) (litRun kr_) ?_
      refine lw_ rfl (.pointer (some ⟨g2, 2, none⟩)) (litRun kr_) ?_
      refine lw_ rfl (.int .i64 q.p.z) (ld_ 2 0 hm33) ?_
      by_cases h58 : q.p.z < (min s.mn.z s.mx.z)
      ·refine lw_ rfl _ (gtT_ h58) ?_
       refine lT_ ?_
       refine lk_ (.agg ([.bool true, .bool false, .bool true]).toArray) ?_
       refine plAlloc (z := [.bool false, .bool false, .bool false]) Ty.ag_3_bool hm33 (i := 46) rfl (wn rfl) rfl ?_
       intro g59 w61 hm60
       clear hm33
       try simp only [lc_] at hm60
       refine qP rfl ?_
       refine plStore 5 Ty.ag_3_bool hm60 rfl (i := 47) (cs := [.bool true, .bool false, .bool true]) rfl (wn rfl) rfl le_ le_ rfl rfl kr_ ?_
       intro w63 hm62
       clear hm60
       try simp only [lc_] at hm62
       refine qNone rfl ?_
       refine plD ?_
       refine then_normal ?_
       exact ⟨g59, true, false, true, ⟨litSize, rfl, fo_⟩, hm62⟩
      refine lw_ rfl _ (gtF_ h58) ?_
      refine lF_ ?_
      refine lk_ (.agg ([.bool true, .bool false, .bool false]).toArray) ?_
      refine plAlloc (z := [.bool false, .bool false, .bool false]) Ty.ag_3_bool hm33 (i := 46) rfl (wn rfl) rfl ?_
      intro g64 w66 hm65
      clear hm33
      try simp only [lc_] at hm65
      refine qP rfl ?_
      refine plStore 5 Ty.ag_3_bool hm65 rfl (i := 47) (cs := [.bool true, .bool false, .bool false]) rfl (wn rfl) rfl le_ le_ rfl rfl kr_ ?_
      intro w68 hm67
      clear hm65
      try simp only [lc_] at hm67
      refine qNone rfl ?_
      refine plD ?_
      refine then_normal ?_
      exact ⟨g64, true, false, false, ⟨litSize, rfl, fo_⟩, hm67⟩
     refine lv_ rfl _ (eqF_ h57) ?_
     refine lF_ ?_
     refine ps_ (i := 38) ?_
     refine ps_ (i := 39) ?_
     refine ps_ (i := 40) ?_
     refine ps_ (i := 41) ?_
     refine ps_ (i := 42) ?_
     refine ps_ (i := 43) ?_
     refine lF_ ?_
     refine lk_ (.agg ([.bool true, .bool false, .bool false]).toArray) ?_
     refine plAlloc (z := [.bool false, .bool false, .bool false]) Ty.ag_3_bool hm33 (i := 46) rfl (wn rfl) rfl ?_
     intro g69 w71 hm70
     clear hm33
     try simp only [lc_] at hm70
     refine qP rfl ?_
     refine plStore 5 Ty.ag_3_bool hm70 rfl (i := 47) (cs := [.bool true, .bool false, .bool false]) rfl (wn rfl) rfl le_ le_ rfl rfl kr_ ?_
     intro w73 hm72
     clear hm70
     try simp only [lc_] at hm72
     refine qNone rfl ?_
     refine plD ?_
     refine then_normal ?_
     exact ⟨g69, true, false, false, ⟨litSize, rfl, fo_⟩, hm72⟩
    refine lv_ rfl _ (eqF_ h38) ?_
    refine lF_ ?_
    refine ps_ (i := 23) ?_
    refine ps_ (i := 24) ?_
    refine ps_ (i := 25) ?_
    refine ps_ (i := 26) ?_
    refine ps_ (i := 27) ?_
    refine ps_ (i := 28) ?_
    refine lF_ ?_
    refine lp_ g5 0 ?_
    refine lp_ g5 2 ?_
    refine lv_ rfl (.int .i64 s.mn.z) (ld_ 2 1 hm33) ?_
    refine lp_ g5 3 ?_
    refine lp_ g5 5 ?_
    refine lv_ rfl (.int .i64 s.mx.z) (ld_ 5 1 hm33) ?_
    by_cases h74 : s.mn.z = s.mx.z
    ·refine lv_ rfl _ (eqT_ h74) ?_
     refine lT_ ?_
     refine lw_ rfl (.pointer (some ⟨g12, 2, none⟩)) (litRun kr_) ?_
     refine lw_ rfl (.int .i64 (min s.mn.z s.mx.z)) (ld_ 2 3 hm33) ?_
     refine lw_ rfl (.pointer (some ⟨g2, 0, none⟩)) (litRun kr_) ?_
     refine lw_ rfl (.pointer (some ⟨g2, 2, none⟩)) (litRun kr_) ?_
     refine lw_ rfl (.int .i64 q.p.z) (ld_ 2 0 hm33) ?_
     by_cases h75 : q.p.z < (min s.mn.z s.mx.z)
     ·refine lw_ rfl _ (gtT_ h75) ?_
      refine lT_ ?_
      refine lk_ (.agg ([.bool true, .bool false, .bool true]).toArray) ?_
      refine plAlloc (z := [.bool false, .bool false, .bool false]) Ty.ag_3_bool hm33 (i := 46) rfl (wn rfl) rfl ?_
      intro g76 w78 hm77
      clear hm33
      try simp only [lc_] at hm77
      refine qP rfl ?_
      refine plStore 5 Ty.ag_3_bool hm77 rfl (i := 47) (cs := [.bool true, .bool false, .bool true]) rfl (wn rfl) rfl le_ le_ rfl rfl kr_ ?_
      intro w80 hm79
      clear hm77
      try simp only [lc_] at hm79
      refine qNone rfl ?_
      refine plD ?_
      refine then_normal ?_
      exact ⟨g76, true, false, true, ⟨litSize, rfl, fo_⟩, hm79⟩
     refine lw_ rfl _ (gtF_ h75) ?_
     refine lF_ ?_
     refine lk_ (.agg ([.bool true, .bool false, .bool false]).toArray) ?_
     refine plAlloc (z := [.bool false, .bool false, .bool false]) Ty.ag_3_bool hm33 (i := 46) rfl (wn rfl) rfl ?_
     intro g81 w83 hm82
     clear hm33
     try simp only [lc_] at hm82
     refine qP rfl ?_
     refine plStore 5 Ty.ag_3_bool hm82 rfl (i := 47) (cs := [.bool true, .bool false, .bool false]) rfl (wn rfl) rfl le_ le_ rfl rfl kr_ ?_
     intro w85 hm84
     clear hm82
     try simp only [lc_] at hm84
     refine qNone rfl ?_
     refine plD ?_
     refine then_normal ?_
     exact ⟨g81, true, false, false, ⟨litSize, rfl, fo_⟩, hm84⟩
    refine lv_ rfl _ (eqF_ h74) ?_
    refine lF_ ?_
    refine ps_ (i := 38) ?_
    refine ps_ (i := 39) ?_
    refine ps_ (i := 40) ?_
    refine ps_ (i := 41) ?_
    refine ps_ (i := 42) ?_
    refine ps_ (i := 43) ?_
    refine lF_ ?_
    refine lk_ (.agg ([.bool true, .bool false, .bool false]).toArray) ?_
    refine plAlloc (z := [.bool false, .bool false, .bool false]) Ty.ag_3_bool hm33 (i := 46) rfl (wn rfl) rfl ?_
    intro g86 w88 hm87
    clear hm33
    try simp only [lc_] at hm87
    refine qP rfl ?_
    refine plStore 5 Ty.ag_3_bool hm87 rfl (i := 47) (cs := [.bool true, .bool false, .bool false]) rfl (wn rfl) rfl le_ le_ rfl rfl kr_ ?_
    intro w90 hm89
    clear hm87
    try simp only [lc_] at hm89
    refine qNone rfl ?_
    refine plD ?_
    refine then_normal ?_
    exact ⟨g86, true, false, false, ⟨litSize, rfl, fo_⟩, hm89⟩
   refine lw_ rfl _ (gtF_ h37) ?_
   refine lF_ ?_
   refine lp_ g5 0 ?_
   refine lp_ g5 1 ?_
   refine lv_ rfl (.int .i64 s.mn.y) (ld_ 1 1 hm33) ?_
   refine lp_ g5 3 ?_
   refine lp_ g5 4 ?_
   refine lv_ rfl (.int .i64 s.mx.y) (ld_ 4 1 hm33) ?_
   by_cases h91 : s.mn.y = s.mx.y
   ·refine lv_ rfl _ (eqT_ h91) ?_
    refine lT_ ?_
    refine lw_ rfl (.pointer (some ⟨g12, 1, none⟩)) (litRun kr_) ?_
    refine lw_ rfl (.int .i64 (min s.mn.y s.mx.y)) (ld_ 1 3 hm33) ?_
    refine lw_ rfl (.pointer (some ⟨g2, 0, none⟩)) (litRun kr_) ?_
    refine lw_ rfl (.pointer (some ⟨g2, 1, none⟩)) (litRun kr_) ?_
    refine lw_ rfl (.int .i64 q.p.y) (ld_ 1 0 hm33) ?_
    by_cases h92 : q.p.y < (min s.mn.y s.mx.y)
    ·refine lw_ rfl _ (gtT_ h92) ?_
     refine lT_ ?_
     refine lp_ g5 0 ?_
     refine lp_ g5 2 ?_
     refine lv_ rfl (.int .i64 s.mn.z) (ld_ 2 1 hm33) ?_
     refine lp_ g5 3 ?_
     refine lp_ g5 5 ?_
     refine lv_ rfl (.int .i64 s.mx.z) (ld_ 5 1 hm33) ?_
     by_cases h93 : s.mn.z = s.mx.z
     ·refine lv_ rfl _ (eqT_ h93) ?_
      refine lT_ ?_
      refine lw_ rfl (.pointer (some ⟨g12, 2, none⟩)) (litRun kr_) ?_
      refine lw_ rfl (.int .i64 (min s.mn.z s.mx.z)) (ld_ 2 3 hm33) ?_
      refine lw_ rfl (.pointer (some ⟨g2, 0, none⟩)) (litRun kr_) ?_
      refine lw_ rfl (.pointer (some ⟨g2, 2, none⟩)) (litRun kr_) ?_
      refine lw_ rfl (.int .i64 q.p.z) (ld_ 2 0 hm33) ?_
      by_cases h94 : q.p.z < (min s.mn.z s.mx.z)
      ·refine lw_ rfl _ (gtT_ h94) ?_
       refine lT_ ?_
       refine lk_ (.agg ([.bool false, .bool true, .bool true]).toArray) ?_
       refine plAlloc (z := [.bool false, .bool false, .bool false]) Ty.ag_3_bool hm33 (i := 46) rfl (wn rfl) rfl ?_
       intro g95 w97 hm96
       clear hm33
       try simp only [lc_] at hm96
       refine qP rfl ?_
       refine plStore 5 Ty.ag_3_bool hm96 rfl (i := 47) (cs := [.bool false, .bool true, .bool true]) rfl (wn rfl) rfl le_ le_ rfl rfl kr_ ?_
       intro w99 hm98
       clear hm96
       try simp only [lc_] at hm98
       refine qNone rfl ?_
       refine plD ?_
       refine then_normal ?_
       exact ⟨g95, false, true, true, ⟨litSize, rfl, fo_⟩, hm98⟩
      refine lw_ rfl _ (gtF_ h94) ?_
      refine lF_ ?_
      refine lk_ (.agg ([.bool false, .bool true, .bool false]).toArray) ?_
      refine plAlloc (z := [.bool false, .bool false, .bool false]) Ty.ag_3_bool hm33 (i := 46) rfl (wn rfl) rfl ?_
      intro g100 w102 hm101
      clear hm33
      try simp only [lc_] at hm101
      refine qP rfl ?_
      refine plStore 5 Ty.ag_3_bool hm101 rfl (i := 47) (cs := [.bool false, .bool true, .bool false]) rfl (wn rfl) rfl le_ le_ rfl rfl kr_ ?_
      intro w104 hm103
      clear hm101
      try simp only [lc_] at hm103
      refine qNone rfl ?_
      refine plD ?_
      refine then_normal ?_
      exact ⟨g100, false, true, false, ⟨litSize, rfl, fo_⟩, hm103⟩
     refine lv_ rfl _ (eqF_ h93) ?_
     refine lF_ ?_
     refine ps_ (i := 38) ?_
     refine ps_ (i := 39) ?_
     refine ps_ (i := 40) ?_
     refine ps_ (i := 41) ?_
     refine ps_ (i := 42) ?_
     refine ps_ (i := 43) ?_
     refine lF_ ?_
     refine lk_ (.agg ([.bool false, .bool true, .bool false]).toArray) ?_
     refine plAlloc (z := [.bool false, .bool false, .bool false]) Ty.ag_3_bool hm33 (i := 46) rfl (wn rfl) rfl ?_
     intro g105 w107 hm106
     clear hm33
     try simp only [lc_] at hm106
     refine qP rfl ?_
     refine plStore 5 Ty.ag_3_bool hm106 rfl (i := 47) (cs := [.bool false, .bool true, .bool false]) rfl (wn rfl) rfl le_ le_ rfl rfl kr_ ?_
     intro w109 hm108
     clear hm106
     try simp only [lc_] at hm108
     refine qNone rfl ?_
     refine plD ?_
     refine then_normal ?_
     exact ⟨g105, false, true, false, ⟨litSize, rfl, fo_⟩, hm108⟩
    refine lw_ rfl _ (gtF_ h92) ?_
    refine lF_ ?_
    refine lp_ g5 0 ?_
    refine lp_ g5 2 ?_
    refine lv_ rfl (.int .i64 s.mn.z) (ld_ 2 1 hm33) ?_
    refine lp_ g5 3 ?_
    refine lp_ g5 5 ?_
    refine lv_ rfl (.int .i64 s.mx.z) (ld_ 5 1 hm33) ?_
    by_cases h110 : s.mn.z = s.mx.z
    ·refine lv_ rfl _ (eqT_ h110) ?_
     refine lT_ ?_
     refine lw_ rfl (.pointer (some ⟨g12, 2, none⟩)) (litRun kr_) ?_
     refine lw_ rfl (.int .i64 (min s.mn.z s.mx.z)) (ld_ 2 3 hm33) ?_
     refine lw_ rfl (.pointer (some ⟨g2, 0, none⟩)) (litRun kr_) ?_
     refine lw_ rfl (.pointer (some ⟨g2, 2, none⟩)) (litRun kr_) ?_
     refine lw_ rfl (.int .i64 q.p.z) (ld_ 2 0 hm33) ?_
     by_cases h111 : q.p.z < (min s.mn.z s.mx.z)
     ·refine lw_ rfl _ (gtT_ h111) ?_
      refine lT_ ?_
      refine lk_ (.agg ([.bool false, .bool false, .bool true]).toArray) ?_
      refine plAlloc (z := [.bool false, .bool false, .bool false]) Ty.ag_3_bool hm33 (i := 46) rfl (wn rfl) rfl ?_
      intro g112 w114 hm113
      clear hm33
      try simp only [lc_] at hm113
      refine qP rfl ?_
      refine plStore 5 Ty.ag_3_bool hm113 rfl (i := 47) (cs := [.bool false, .bool false, .bool true]) rfl (wn rfl) rfl le_ le_ rfl rfl kr_ ?_
      intro w116 hm115
      clear hm113
      try simp only [lc_] at hm115
      refine qNone rfl ?_
      refine plD ?_
      refine then_normal ?_
      exact ⟨g112, false, false, true, ⟨litSize, rfl, fo_⟩, hm115⟩
     refine lw_ rfl _ (gtF_ h111) ?_
     refine lF_ ?_
     refine lk_ (.agg ([.bool false, .bool false, .bool false]).toArray) ?_
     refine plAlloc (z := [.bool false, .bool false, .bool false]) Ty.ag_3_bool hm33 (i := 46) rfl (wn rfl) rfl ?_
     intro g117 w119 hm118
     clear hm33
     try simp only [lc_] at hm118
     refine qP rfl ?_
     refine plStore 5 Ty.ag_3_bool hm118 rfl (i := 47) (cs := [.bool false, .bool false, .bool false]) rfl (wn rfl) rfl le_ le_ rfl rfl kr_ ?_
     intro w121 hm120
     clear hm118
     try simp only [lc_] at hm120
     refine qNone rfl ?_
     refine plD ?_
     refine then_normal ?_
     exact ⟨g117, false, false, false, ⟨litSize, rfl, fo_⟩, hm120⟩
    refine lv_ rfl _ (eqF_ h110) ?_
    refine lF_ ?_
    refine ps_ (i := 38) ?_
    refine ps_ (i := 39) ?_
    refine ps_ (i := 40) ?_
    refine ps_ (i := 41) ?_
    refine ps_ (i := 42) ?_
    refine ps_ (i := 43) ?_
    refine lF_ ?_
    refine lk_ (.agg ([.bool false, .bool false, .bool false]).toArray) ?_
    refine plAlloc (z := [.bool false, .bool false, .bool false]) Ty.ag_3_bool hm33 (i := 46) rfl (wn rfl) rfl ?_
    intro g122 w124 hm123
    clear hm33
    try simp only [lc_] at hm123
    refine qP rfl ?_
    refine plStore 5 Ty.ag_3_bool hm123 rfl (i := 47) (cs := [.bool false, .bool false, .bool false]) rfl (wn rfl) rfl le_ le_ rfl rfl kr_ ?_
    intro w126 hm125
    clear hm123
    try simp only [lc_] at hm125
    refine qNone rfl ?_
    refine plD ?_
    refine then_normal ?_
    exact ⟨g122, false, false, false, ⟨litSize, rfl, fo_⟩, hm125⟩
   refine lv_ rfl _ (eqF_ h91) ?_
   refine lF_ ?_
   refine ps_ (i := 23) ?_
   refine ps_ (i := 24) ?_
   refine ps_ (i := 25) ?_
   refine ps_ (i := 26) ?_
   refine ps_ (i := 27) ?_
   refine ps_ (i := 28) ?_
   refine lF_ ?_
   refine lp_ g5 0 ?_
   refine lp_ g5 2 ?_
   refine lv_ rfl (.int .i64 s.mn.z) (ld_ 2 1 hm33) ?_
   refine lp_ g5 3 ?_
   refine lp_ g5 5 ?_
   refine lv_ rfl (.int .i64 s.mx.z) (ld_ 5 1 hm33) ?_
   by_cases h127 : s.mn.z = s.mx.z
   ·refine lv_ rfl _ (eqT_ h127) ?_
    refine lT_ ?_
    refine lw_ rfl (.pointer (some ⟨g12, 2, none⟩)) (litRun kr_) ?_
    refine lw_ rfl (.int .i64 (min s.mn.z s.mx.z)) (ld_ 2 3 hm33) ?_
    refine lw_ rfl (.pointer (some ⟨g2, 0, none⟩)) (litRun kr_) ?_
    refine lw_ rfl (.pointer (some ⟨g2, 2, none⟩)) (litRun kr_) ?_
    refine lw_ rfl (.int .i64 q.p.z) (ld_ 2 0 hm33) ?_
    by_cases h128 : q.p.z < (min s.mn.z s.mx.z)
    ·refine lw_ rfl _ (gtT_ h128) ?_
     refine lT_ ?_
     refine lk_ (.agg ([.bool false, .bool false, .bool true]).toArray) ?_
     refine plAlloc (z := [.bool false, .bool false, .bool false]) Ty.ag_3_bool hm33 (i := 46) rfl (wn rfl) rfl ?_
     intro g129 w131 hm130
     clear hm33
     try simp only [lc_] at hm130
     refine qP rfl ?_
     refine plStore 5 Ty.ag_3_bool hm130 rfl (i := 47) (cs := [.bool false, .bool false, .bool true]) rfl (wn rfl) rfl le_ le_ rfl rfl kr_ ?_
     intro w133 hm132
     clear hm130
     try simp only [lc_] at hm132
     refine qNone rfl ?_
     refine plD ?_
     refine then_normal ?_
     exact ⟨g129, false, false, true, ⟨litSize, rfl, fo_⟩, hm132⟩
    refine lw_ rfl _ (gtF_ h128) ?_
    refine lF_ ?_
    refine lk_ (.agg ([.bool false, .bool false, .bool false]).toArray) ?_
    refine plAlloc (z := [.bool false, .bool false, .bool false]) Ty.ag_3_bool hm33 (i := 46) rfl (wn rfl) rfl ?_
    intro g134 w136 hm135
    clear hm33
    try simp only [lc_] at hm135
    refine qP rfl ?_
    refine plStore 5 Ty.ag_3_bool hm135 rfl (i := 47) (cs := [.bool false, .bool false, .bool false]) rfl (wn rfl) rfl le_ le_ rfl rfl kr_ ?_
    intro w138 hm137
    clear hm135
    try simp only [lc_] at hm137
    refine qNone rfl ?_
    refine plD ?_
    refine then_normal ?_
    exact ⟨g134, false, false, false, ⟨litSize, rfl, fo_⟩, hm137⟩
   refine lv_ rfl _ (eqF_ h127) ?_
   refine lF_ ?_
   refine ps_ (i := 38) ?_
   refine ps_ (i := 39) ?_
   refine ps_ (i := 40) ?_
   refine ps_ (i := 41) ?_
   refine ps_ (i := 42) ?_
   refine ps_ (i := 43) ?_
   refine lF_ ?_
   refine lk_ (.agg ([.bool false, .bool false, .bool false]).toArray) ?_
   refine plAlloc (z := [.bool false, .bool false, .bool false]) Ty.ag_3_bool hm33 (i := 46) rfl (wn rfl) rfl ?_
   intro g139 w141 hm140
   clear hm33
   try simp only [lc_] at hm140
   refine qP rfl ?_
   refine plStore 5 Ty.ag_3_bool hm140 rfl (i := 47) (cs := [.bool false, .bool false, .bool false]) rfl (wn rfl) rfl le_ le_ rfl rfl kr_ ?_
   intro w143 hm142
   clear hm140
   try simp only [lc_] at hm142
   refine qNone rfl ?_
   refine plD ?_
   refine then_normal ?_
   exact ⟨g139, false, false, false, ⟨litSize, rfl, fo_⟩, hm142⟩
  refine lv_ rfl _ (eqF_ h36) ?_
  refine lF_ ?_
  refine ps_ (i := 8) ?_
  refine ps_ (i := 9) ?_
  refine ps_ (i := 10) ?_
  refine ps_ (i := 11) ?_
  refine ps_ (i := 12) ?_
  refine ps_ (i := 13) ?_
  refine lF_ ?_
  refine lp_ g5 0 ?_
  refine lp_ g5 1 ?_
  refine lv_ rfl (.int .i64 s.mn.y) (ld_ 1 1 hm33) ?_
  refine lp_ g5 3 ?_
  refine lp_ g5 4 ?_
  refine lv_ rfl (.int .i64 s.mx.y) (ld_ 4 1 hm33) ?_
  by_cases h144 : s.mn.y = s.mx.y
  ·refine lv_ rfl _ (eqT_ h144) ?_
   refine lT_ ?_
   refine lw_ rfl (.pointer (some ⟨g12, 1, none⟩)) (litRun kr_) ?_
   refine lw_ rfl (.int .i64 (min s.mn.y s.mx.y)) (ld_ 1 3 hm33) ?_
   refine lw_ rfl (.pointer (some ⟨g2, 0, none⟩)) (litRun kr_) ?_
   refine lw_ rfl (.pointer (some ⟨g2, 1, none⟩)) (litRun kr_) ?_
   refine lw_ rfl (.int .i64 q.p.y) (ld_ 1 0 hm33) ?_
   by_cases h145 : q.p.y < (min s.mn.y s.mx.y)
   ·refine lw_ rfl _ (gtT_ h145) ?_
    refine lT_ ?_
    refine lp_ g5 0 ?_
    refine lp_ g5 2 ?_
    refine lv_ rfl (.int .i64 s.mn.z) (ld_ 2 1 hm33) ?_
    refine lp_ g5 3 ?_
    refine lp_ g5 5 ?_
    refine lv_ rfl (.int .i64 s.mx.z) (ld_ 5 1 hm33) ?_
    by_cases h146 : s.mn.z = s.mx.z
    ·refine lv_ rfl _ (eqT_ h146) ?_
     refine lT_ ?_
     refine lw_ rfl (.pointer (some ⟨g12, 2, none⟩)) (litRun kr_) ?_
     refine lw_ rfl (.int .i64 (min s.mn.z s.mx.z)) (ld_ 2 3 hm33) ?_
     refine lw_ rfl (.pointer (some ⟨g2, 0, none⟩)) (litRun kr_) ?_
     refine lw_ rfl (.pointer (some ⟨g2, 2, none⟩)) (litRun kr_) ?_
     refine lw_ rfl (.int .i64 q.p.z) (ld_ 2 0 hm33) ?_
     by_cases h147 : q.p.z < (min s.mn.z s.mx.z)
     ·refine lw_ rfl _ (gtT_ h147) ?_
      refine lT_ ?_
      refine lk_ (.agg ([.bool false, .bool true, .bool true]).toArray) ?_
      refine plAlloc (z := [.bool false, .bool false, .bool false]) Ty.ag_3_bool hm33 (i := 46) rfl (wn rfl) rfl ?_
      intro g148 w150 hm149
      clear hm33
      try simp only [lc_] at hm149
      refine qP rfl ?_
      refine plStore 5 Ty.ag_3_bool hm149 rfl (i := 47) (cs := [.bool false, .bool true, .bool true]) rfl (wn rfl) rfl le_ le_ rfl rfl kr_ ?_
      intro w152 hm151
      clear hm149
      try simp only [lc_] at hm151
      refine qNone rfl ?_
      refine plD ?_
      refine then_normal ?_
      exact ⟨g148, false, true, true, ⟨litSize, rfl, fo_⟩, hm151⟩
     refine lw_ rfl _ (gtF_ h147) ?_
     refine lF_ ?_
     refine lk_ (.agg ([.bool false, .bool true, .bool false]).toArray) ?_
     refine plAlloc (z := [.bool false, .bool false, .bool false]) Ty.ag_3_bool hm33 (i := 46) rfl (wn rfl) rfl ?_
     intro g153 w155 hm154
     clear hm33
     try simp only [lc_] at hm154
     refine qP rfl ?_
     refine plStore 5 Ty.ag_3_bool hm154 rfl (i := 47) (cs := [.bool false, .bool true, .bool false]) rfl (wn rfl) rfl le_ le_ rfl rfl kr_ ?_
     intro w157 hm156
     clear hm154
     try simp only [lc_] at hm156
     refine qNone rfl ?_
     refine plD ?_
     refine then_normal ?_
     exact ⟨g153, false, true, false, ⟨litSize, rfl, fo_⟩, hm156⟩
    refine lv_ rfl _ (eqF_ h146) ?_
    refine lF_ ?_
    refine ps_ (i := 38) ?_
    refine ps_ (i := 39) ?_
    refine ps_ (i := 40) ?_
    refine ps_ (i := 41) ?_
    refine ps_ (i := 42) ?_
    refine ps_ (i := 43) ?_
    refine lF_ ?_
    refine lk_ (.agg ([.bool false, .bool true, .bool false]).toArray) ?_
    refine plAlloc (z := [.bool false, .bool false, .bool false]) Ty.ag_3_bool hm33 (i := 46) rfl (wn rfl) rfl ?_
    intro g158 w160 hm159
    clear hm33
    try simp only [lc_] at hm159
    refine qP rfl ?_
    refine plStore 5 Ty.ag_3_bool hm159 rfl (i := 47) (cs := [.bool false, .bool true, .bool false]) rfl (wn rfl) rfl le_ le_ rfl rfl kr_ ?_
    intro w162 hm161
    clear hm159
    try simp only [lc_] at hm161
    refine qNone rfl ?_
    refine plD ?_
    refine then_normal ?_
    exact ⟨g158, false, true, false, ⟨litSize, rfl, fo_⟩, hm161⟩
   refine lw_ rfl _ (gtF_ h145) ?_
   refine lF_ ?_
   refine lp_ g5 0 ?_
   refine lp_ g5 2 ?_
   refine lv_ rfl (.int .i64 s.mn.z) (ld_ 2 1 hm33) ?_
   refine lp_ g5 3 ?_
   refine lp_ g5 5 ?_
   refine lv_ rfl (.int .i64 s.mx.z) (ld_ 5 1 hm33) ?_
   by_cases h163 : s.mn.z = s.mx.z
   ·refine lv_ rfl _ (eqT_ h163) ?_
    refine lT_ ?_
    refine lw_ rfl (.pointer (some ⟨g12, 2, none⟩)) (litRun kr_) ?_
    refine lw_ rfl (.int .i64 (min s.mn.z s.mx.z)) (ld_ 2 3 hm33) ?_
    refine lw_ rfl (.pointer (some ⟨g2, 0, none⟩)) (litRun kr_) ?_
    refine lw_ rfl (.pointer (some ⟨g2, 2, none⟩)) (litRun kr_) ?_
    refine lw_ rfl (.int .i64 q.p.z) (ld_ 2 0 hm33) ?_
    by_cases h164 : q.p.z < (min s.mn.z s.mx.z)
    ·refine lw_ rfl _ (gtT_ h164) ?_
     refine lT_ ?_
     refine lk_ (.agg ([.bool false, .bool false, .bool true]).toArray) ?_
     refine plAlloc (z := [.bool false, .bool false, .bool false]) Ty.ag_3_bool hm33 (i := 46) rfl (wn rfl) rfl ?_
     intro g165 w167 hm166
     clear hm33
     try simp only [lc_] at hm166
     refine qP rfl ?_
     refine plStore 5 Ty.ag_3_bool hm166 rfl (i := 47) (cs := [.bool false, .bool false, .bool true]) rfl (wn rfl) rfl le_ le_ rfl rfl kr_ ?_
     intro w169 hm168
     clear hm166
     try simp only [lc_] at hm168
     refine qNone rfl ?_
     refine plD ?_
     refine then_normal ?_
     exact ⟨g165, false, false, true, ⟨litSize, rfl, fo_⟩, hm168⟩
    refine lw_ rfl _ (gtF_ h164) ?_
    refine lF_ ?_
    refine lk_ (.agg ([.bool false, .bool false, .bool false]).toArray) ?_
    refine plAlloc (z := [.bool false, .bool false, .bool false]) Ty.ag_3_bool hm33 (i := 46) rfl (wn rfl) rfl ?_
    intro g170 w172 hm171
    clear hm33
    try simp only [lc_] at hm171
    refine qP rfl ?_
    refine plStore 5 Ty.ag_3_bool hm171 rfl (i := 47) (cs := [.bool false, .bool false, .bool false]) rfl (wn rfl) rfl le_ le_ rfl rfl kr_ ?_
    intro w174 hm173
    clear hm171
    try simp only [lc_] at hm173
    refine qNone rfl ?_
    refine plD ?_
    refine then_normal ?_
    exact ⟨g170, false, false, false, ⟨litSize, rfl, fo_⟩, hm173⟩
   refine lv_ rfl _ (eqF_ h163) ?_
   refine lF_ ?_
   refine ps_ (i := 38) ?_
   refine ps_ (i := 39) ?_
   refine ps_ (i := 40) ?_
   refine ps_ (i := 41) ?_
   refine ps_ (i := 42) ?_
   refine ps_ (i := 43) ?_
   refine lF_ ?_
   refine lk_ (.agg ([.bool false, .bool false, .bool false]).toArray) ?_
   refine plAlloc (z := [.bool false, .bool false, .bool false]) Ty.ag_3_bool hm33 (i := 46) rfl (wn rfl) rfl ?_
   intro g175 w177 hm176
   clear hm33
   try simp only [lc_] at hm176
   refine qP rfl ?_
   refine plStore 5 Ty.ag_3_bool hm176 rfl (i := 47) (cs := [.bool false, .bool false, .bool false]) rfl (wn rfl) rfl le_ le_ rfl rfl kr_ ?_
   intro w179 hm178
   clear hm176
   try simp only [lc_] at hm178
   refine qNone rfl ?_
   refine plD ?_
   refine then_normal ?_
   exact ⟨g175, false, false, false, ⟨litSize, rfl, fo_⟩, hm178⟩
  refine lv_ rfl _ (eqF_ h144) ?_
  refine lF_ ?_
  refine ps_ (i := 23) ?_
  refine ps_ (i := 24) ?_
  refine ps_ (i := 25) ?_
  refine ps_ (i := 26) ?_
  refine ps_ (i := 27) ?_
  refine ps_ (i := 28) ?_
  refine lF_ ?_
  refine lp_ g5 0 ?_
  refine lp_ g5 2 ?_
  refine lv_ rfl (.int .i64 s.mn.z) (ld_ 2 1 hm33) ?_
  refine lp_ g5 3 ?_
  refine lp_ g5 5 ?_
  refine lv_ rfl (.int .i64 s.mx.z) (ld_ 5 1 hm33) ?_
  by_cases h180 : s.mn.z = s.mx.z
  ·refine lv_ rfl _ (eqT_ h180) ?_
   refine lT_ ?_
   refine lw_ rfl (.pointer (some ⟨g12, 2, none⟩)) (litRun kr_) ?_
   refine lw_ rfl (.int .i64 (min s.mn.z s.mx.z)) (ld_ 2 3 hm33) ?_
   refine lw_ rfl (.pointer (some ⟨g2, 0, none⟩)) (litRun kr_) ?_
   refine lw_ rfl (.pointer (some ⟨g2, 2, none⟩)) (litRun kr_) ?_
   refine lw_ rfl (.int .i64 q.p.z) (ld_ 2 0 hm33) ?_
   by_cases h181 : q.p.z < (min s.mn.z s.mx.z)
   ·refine lw_ rfl _ (gtT_ h181) ?_
    refine lT_ ?_
    refine lk_ (.agg ([.bool false, .bool false, .bool true]).toArray) ?_
    refine plAlloc (z := [.bool false, .bool false, .bool false]) Ty.ag_3_bool hm33 (i := 46) rfl (wn rfl) rfl ?_
    intro g182 w184 hm183
    clear hm33
    try simp only [lc_] at hm183
    refine qP rfl ?_
    refine plStore 5 Ty.ag_3_bool hm183 rfl (i := 47) (cs := [.bool false, .bool false, .bool true]) rfl (wn rfl) rfl le_ le_ rfl rfl kr_ ?_
    intro w186 hm185
    clear hm183
    try simp only [lc_] at hm185
    refine qNone rfl ?_
    refine plD ?_
    refine then_normal ?_
    exact ⟨g182, false, false, true, ⟨litSize, rfl, fo_⟩, hm185⟩
   refine lw_ rfl _ (gtF_ h181) ?_
   refine lF_ ?_
   refine lk_ (.agg ([.bool false, .bool false, .bool false]).toArray) ?_
   refine plAlloc (z := [.bool false, .bool false, .bool false]) Ty.ag_3_bool hm33 (i := 46) rfl (wn rfl) rfl ?_
   intro g187 w189 hm188
   clear hm33
   try simp only [lc_] at hm188
   refine qP rfl ?_
   refine plStore 5 Ty.ag_3_bool hm188 rfl (i := 47) (cs := [.bool false, .bool false, .bool false]) rfl (wn rfl) rfl le_ le_ rfl rfl kr_ ?_
   intro w191 hm190
   clear hm188
   try simp only [lc_] at hm190
   refine qNone rfl ?_
   refine plD ?_
   refine then_normal ?_
   exact ⟨g187, false, false, false, ⟨litSize, rfl, fo_⟩, hm190⟩
  refine lv_ rfl _ (eqF_ h180) ?_
  refine lF_ ?_
  refine ps_ (i := 38) ?_
  refine ps_ (i := 39) ?_
  refine ps_ (i := 40) ?_
  refine ps_ (i := 41) ?_
  refine ps_ (i := 42) ?_
  refine ps_ (i := 43) ?_
  refine lF_ ?_
  refine lk_ (.agg ([.bool false, .bool false, .bool false]).toArray) ?_
  refine plAlloc (z := [.bool false, .bool false, .bool false]) Ty.ag_3_bool hm33 (i := 46) rfl (wn rfl) rfl ?_
  intro g192 w194 hm193
  clear hm33
  try simp only [lc_] at hm193
  refine qP rfl ?_
  refine plStore 5 Ty.ag_3_bool hm193 rfl (i := 47) (cs := [.bool false, .bool false, .bool false]) rfl (wn rfl) rfl le_ le_ rfl rfl kr_ ?_
  intro w196 hm195
  clear hm193
  try simp only [lc_] at hm195
  refine qNone rfl ?_
  refine plD ?_
  refine then_normal ?_
  exact ⟨g192, false, false, false, ⟨litSize, rfl, fo_⟩, hm195⟩
 clear hm33
 intro a199 w197 hI_
 obtain ⟨g7, f0, f1, f2, hF_, hm198⟩ := hI_
 obtain ⟨X200, rfl⟩ := frLit hF_
 clear hF_
 refine sk_ fun _ hK201 => ?_
 refine sp_ fun _ hK202 => ?_
 refine li_ 0 ?_
 refine pt_ hK202 ?_
 refine wp_block ?_
 refine roundsStart 4 ?_
 refine sp_ fun _ hK203 => ?_
 refine lT_ ?_
 refine pt_ hK203 ?_
 refine sk_ fun _ hK204 => ?_
 refine wp_cond_true le_ ?_
 refine wp_skip ?_
 refine tn_ hK204 ?_
 refine gwCut (fun a_ w_ => ∃ (b0 b1 b2 : Int), ((0 ≤ b0 ∧ b0 ≤ 1) ∧ (0 ≤ b1 ∧ b1 ≤ 1) ∧ (0 ≤ b2 ∧ b2 ≤ 1)) ∧ Fr a_ 107 [(2, .pointer (some ⟨g2, 0, none⟩)), (4, .pointer (some ⟨g8, 0, none⟩)), (5, .pointer (some ⟨g12, 0, none⟩)), (6, .pointer (some ⟨g19, 0, none⟩)), (7, .pointer (some ⟨g7, 0, none⟩)), (83, .int .i64 0), (84, .bool true)] ∧ Mem w w_ [.arr g2 45 (qdc q), .arr g5 92 (bxs s), .arr g8 23 ([.int .i64 0, .int .i64 0, .int .i64 0]), .arr g12 23 (pcs ⟨min s.mn.x s.mx.x, min s.mn.y s.mx.y, min s.mn.z s.mx.z⟩), .arr g19 120 ([.int .i64 b0, .int .i64 b1, .int .i64 b2]), .arr g7 144 ([.bool f0, .bool f1, .bool f2])]) ?_ ?_
 ·refine wp_block ?_
  refine sp_ fun _ hK205 => ?_
  refine li_ 0 ?_
  refine li_ 0 ?_
  refine pt_ hK205 ?_
  refine sp_ fun _ hK206 => ?_
  refine li_ 0 ?_
  refine lp_ g2 3 ?_
  refine lv_ rfl (.int .i64 q.ax) (ld_ 3 0 hm198) ?_
  by_cases h207 : 0 = q.ax
  ·refine lv_ rfl _ (neT_ h207) ?_
   refine lF_ ?_
   refine ps_ (i := 5) ?_
   refine ps_ (i := 6) ?_
   refine ps_ (i := 7) ?_
   refine lF_ ?_
   refine pt_ hK206 ?_
   refine wp_cond_false le_ ?_
   refine wp_skip ?_
   refine inBlock_normal ?_
   refine then_normal ?_
   exact ⟨b0, b1, b2, (by omega), ⟨litSize, rfl, fo_⟩, hm198⟩
  refine lv_ rfl _ (neF_ h207) ?_
  refine lT_ ?_
  refine lw_ rfl (.int .i64 0) (litRun kr_) ?_
  refine lw_ rfl (.pointer (some ⟨g7, 0, none⟩)) (iaRun (b := g7) (off := 0) (s := 1) (n := 3) (kk := .i64) (.tmp 7) (.tmp 91) 0 Ty.und_3_bool kr_ rfl le_ le_ rfl (by decide)) ?_
  rcases bool_or (f0) with h208 | h208
  ·refine lw_ rfl (.bool false) (boolTo h208 (gLoad (v := .bool f0) (k := 0) 5 hm198 rfl kr_ (.tmp 92) kr_ rfl le_)) ?_
   refine lF_ ?_
   refine pt_ hK206 ?_
   refine wp_cond_false le_ ?_
   refine wp_skip ?_
   refine inBlock_normal ?_
   refine then_normal ?_
   exact ⟨b0, b1, b2, (by omega), ⟨litSize, rfl, fo_⟩, hm198⟩
  refine lw_ rfl (.bool true) (boolTo h208 (gLoad (v := .bool f0) (k := 0) 5 hm198 rfl kr_ (.tmp 92) kr_ rfl le_)) ?_
  refine lT_ ?_
  refine pt_ hK206 ?_
  refine wp_cond_true le_ ?_
  refine plStart ?_
  refine li_ 0 ?_
  refine lv_ rfl (.pointer (some ⟨g19, 0, none⟩)) (iaRun (b := g19) (off := 0) (s := 1) (n := 3) (kk := .i64) (.tmp 6) (.tmp 95) 0 Ty.und_3_int kr_ rfl le_ le_ rfl (by decide)) ?_
  refine plStore1 (v := .int .i64 1) (k := 0) 4 kr_ hm198 rfl (i := 2) rfl (wn rfl) rfl le_ le_ rfl rfl rfl ?_
  intro w210 hm209
  clear hm198
  try simp only [lc_] at hm209
  refine qNone rfl ?_
  refine plD ?_
  refine inBlock_normal ?_
  refine then_normal ?_
  exact ⟨1, b1, b2, (by omega), ⟨litSize, rfl, fo_⟩, hm209⟩
 clear hm198
 intro a213 w211 hI_
 obtain ⟨b0, b1, b2, hb_, hF_, hm212⟩ := hI_
 obtain ⟨X214, rfl⟩ := frLit hF_
 clear hF_
 refine plStart ?_
 refine li_ 1 ?_
 refine li_ 1 ?_
 refine plD ?_
 refine then_normal (roundsNext ?_)
 refine sp_ fun _ hK215 => ?_
 refine lT_ ?_
 refine pt_ hK215 ?_
 refine sk_ fun _ hK216 => ?_
 refine wp_cond_true le_ ?_
 refine wp_skip ?_
 refine tn_ hK216 ?_
 refine gwCut (fun a_ w_ => ∃ (b0 b1 b2 : Int), ((0 ≤ b0 ∧ b0 ≤ 1) ∧ (0 ≤ b1 ∧ b1 ≤ 1) ∧ (0 ≤ b2 ∧ b2 ≤ 1)) ∧ Fr a_ 107 [(2, .pointer (some ⟨g2, 0, none⟩)), (4, .pointer (some ⟨g8, 0, none⟩)), (5, .pointer (some ⟨g12, 0, none⟩)), (6, .pointer (some ⟨g19, 0, none⟩)), (7, .pointer (some ⟨g7, 0, none⟩)), (83, .int .i64 1), (84, .bool true), (97, .int .i64 1)] ∧ Mem w w_ [.arr g2 45 (qdc q), .arr g5 92 (bxs s), .arr g8 23 ([.int .i64 0, .int .i64 0, .int .i64 0]), .arr g12 23 (pcs ⟨min s.mn.x s.mx.x, min s.mn.y s.mx.y, min s.mn.z s.mx.z⟩), .arr g19 120 ([.int .i64 b0, .int .i64 b1, .int .i64 b2]), .arr g7 144 ([.bool f0, .bool f1, .bool f2])]) ?_ ?_
 ·refine wp_block ?_
  refine sp_ fun _ hK217 => ?_
  refine li_ 1 ?_
  refine li_ 1 ?_
  refine pt_ hK217 ?_
  refine sp_ fun _ hK218 => ?_
  refine li_ 1 ?_
  refine lp_ g2 3 ?_
  refine lv_ rfl (.int .i64 q.ax) (ld_ 3 0 hm212) ?_
  by_cases h219 : 1 = q.ax
  ·refine lv_ rfl _ (neT_ h219) ?_
   refine lF_ ?_
   refine ps_ (i := 5) ?_
   refine ps_ (i := 6) ?_
   refine ps_ (i := 7) ?_
   refine lF_ ?_
   refine pt_ hK218 ?_
   refine wp_cond_false le_ ?_
   refine wp_skip ?_
   refine inBlock_normal ?_
   refine then_normal ?_
   exact ⟨b0, b1, b2, (by omega), ⟨litSize, rfl, fo_⟩, hm212⟩
  refine lv_ rfl _ (neF_ h219) ?_
  refine lT_ ?_
  refine lw_ rfl (.int .i64 1) (litRun kr_) ?_
  refine lw_ rfl (.pointer (some ⟨g7, 1, none⟩)) (iaRun (b := g7) (off := 0) (s := 1) (n := 3) (kk := .i64) (.tmp 7) (.tmp 91) 1 Ty.und_3_bool kr_ rfl le_ le_ rfl (by decide)) ?_
  rcases bool_or (f1) with h220 | h220
  ·refine lw_ rfl (.bool false) (boolTo h220 (gLoad (v := .bool f1) (k := 1) 5 hm212 rfl kr_ (.tmp 92) kr_ rfl le_)) ?_
   refine lF_ ?_
   refine pt_ hK218 ?_
   refine wp_cond_false le_ ?_
   refine wp_skip ?_
   refine inBlock_normal ?_
   refine then_normal ?_
   exact ⟨b0, b1, b2, (by omega), ⟨litSize, rfl, fo_⟩, hm212⟩
  refine lw_ rfl (.bool true) (boolTo h220 (gLoad (v := .bool f1) (k := 1) 5 hm212 rfl kr_ (.tmp 92) kr_ rfl le_)) ?_
  refine lT_ ?_
  refine pt_ hK218 ?_
  refine wp_cond_true le_ ?_
  refine plStart ?_
  refine li_ 1 ?_
  refine lv_ rfl (.pointer (some ⟨g19, 1, none⟩)) (iaRun (b := g19) (off := 0) (s := 1) (n := 3) (kk := .i64) (.tmp 6) (.tmp 95) 1 Ty.und_3_int kr_ rfl le_ le_ rfl (by decide)) ?_
  refine plStore1 (v := .int .i64 1) (k := 1) 4 kr_ hm212 rfl (i := 2) rfl (wn rfl) rfl le_ le_ rfl rfl rfl ?_
  intro w222 hm221
  clear hm212
  try simp only [lc_] at hm221
  refine qNone rfl ?_
  refine plD ?_
  refine inBlock_normal ?_
  refine then_normal ?_
  exact ⟨b0, 1, b2, (by omega), ⟨litSize, rfl, fo_⟩, hm221⟩
 clear hm212
 intro a225 w223 hI_
 obtain ⟨b0, b1, b2, hb_, hF_, hm224⟩ := hI_
 obtain ⟨X226, rfl⟩ := frLit hF_
 clear hF_
 refine plStart ?_
 refine li_ 2 ?_
 refine li_ 2 ?_
 refine plD ?_
 refine then_normal (roundsNext ?_)
 refine sp_ fun _ hK227 => ?_
 refine lT_ ?_
 refine pt_ hK227 ?_
 refine sk_ fun _ hK228 => ?_
 refine wp_cond_true le_ ?_
 refine wp_skip ?_
 refine tn_ hK228 ?_
 refine gwCut (fun a_ w_ => ∃ (b0 b1 b2 : Int), ((0 ≤ b0 ∧ b0 ≤ 1) ∧ (0 ≤ b1 ∧ b1 ≤ 1) ∧ (0 ≤ b2 ∧ b2 ≤ 1)) ∧ Fr a_ 107 [(2, .pointer (some ⟨g2, 0, none⟩)), (4, .pointer (some ⟨g8, 0, none⟩)), (5, .pointer (some ⟨g12, 0, none⟩)), (6, .pointer (some ⟨g19, 0, none⟩)), (7, .pointer (some ⟨g7, 0, none⟩)), (83, .int .i64 2), (84, .bool true), (97, .int .i64 2)] ∧ Mem w w_ [.arr g2 45 (qdc q), .arr g5 92 (bxs s), .arr g8 23 ([.int .i64 0, .int .i64 0, .int .i64 0]), .arr g12 23 (pcs ⟨min s.mn.x s.mx.x, min s.mn.y s.mx.y, min s.mn.z s.mx.z⟩), .arr g19 120 ([.int .i64 b0, .int .i64 b1, .int .i64 b2]), .arr g7 144 ([.bool f0, .bool f1, .bool f2])]) ?_ ?_
 ·refine wp_block ?_
  refine sp_ fun _ hK229 => ?_
  refine li_ 2 ?_
  refine li_ 2 ?_
  refine pt_ hK229 ?_
  refine sp_ fun _ hK230 => ?_
  refine li_ 2 ?_
  refine lp_ g2 3 ?_
  refine lv_ rfl (.int .i64 q.ax) (ld_ 3 0 hm224) ?_
  by_cases h231 : 2 = q.ax
  ·refine lv_ rfl _ (neT_ h231) ?_
   refine lF_ ?_
   refine ps_ (i := 5) ?_
   refine ps_ (i := 6) ?_
   refine ps_ (i := 7) ?_
   refine lF_ ?_
   refine pt_ hK230 ?_
   refine wp_cond_false le_ ?_
   refine wp_skip ?_
   refine inBlock_normal ?_
   refine then_normal ?_
   exact ⟨b0, b1, b2, (by omega), ⟨litSize, rfl, fo_⟩, hm224⟩
  refine lv_ rfl _ (neF_ h231) ?_
  refine lT_ ?_
  refine lw_ rfl (.int .i64 2) (litRun kr_) ?_
  refine lw_ rfl (.pointer (some ⟨g7, 2, none⟩)) (iaRun (b := g7) (off := 0) (s := 1) (n := 3) (kk := .i64) (.tmp 7) (.tmp 91) 2 Ty.und_3_bool kr_ rfl le_ le_ rfl (by decide)) ?_
  rcases bool_or (f2) with h232 | h232
  ·refine lw_ rfl (.bool false) (boolTo h232 (gLoad (v := .bool f2) (k := 2) 5 hm224 rfl kr_ (.tmp 92) kr_ rfl le_)) ?_
   refine lF_ ?_
   refine pt_ hK230 ?_
   refine wp_cond_false le_ ?_
   refine wp_skip ?_
   refine inBlock_normal ?_
   refine then_normal ?_
   exact ⟨b0, b1, b2, (by omega), ⟨litSize, rfl, fo_⟩, hm224⟩
  refine lw_ rfl (.bool true) (boolTo h232 (gLoad (v := .bool f2) (k := 2) 5 hm224 rfl kr_ (.tmp 92) kr_ rfl le_)) ?_
  refine lT_ ?_
  refine pt_ hK230 ?_
  refine wp_cond_true le_ ?_
  refine plStart ?_
  refine li_ 2 ?_
  refine lv_ rfl (.pointer (some ⟨g19, 2, none⟩)) (iaRun (b := g19) (off := 0) (s := 1) (n := 3) (kk := .i64) (.tmp 6) (.tmp 95) 2 Ty.und_3_int kr_ rfl le_ le_ rfl (by decide)) ?_
  refine plStore1 (v := .int .i64 1) (k := 2) 4 kr_ hm224 rfl (i := 2) rfl (wn rfl) rfl le_ le_ rfl rfl rfl ?_
  intro w234 hm233
  clear hm224
  try simp only [lc_] at hm233
  refine qNone rfl ?_
  refine plD ?_
  refine inBlock_normal ?_
  refine then_normal ?_
  exact ⟨b0, b1, 1, (by omega), ⟨litSize, rfl, fo_⟩, hm233⟩
 clear hm224
 intro a237 w235 hI_
 obtain ⟨b0, b1, b2, hb_, hF_, hm236⟩ := hI_
 obtain ⟨X238, rfl⟩ := frLit hF_
 clear hF_
 refine plStart ?_
 refine li_ 3 ?_
 refine li_ 3 ?_
 refine plD ?_
 refine then_normal (roundsNext ?_)
 refine sp_ fun _ hK239 => ?_
 refine lF_ ?_
 refine pt_ hK239 ?_
 refine sk_ fun _ hK240 => ?_
 refine wp_cond_false le_ ?_
 refine wp_exit ?_
 refine then_exit ?_
 refine then_exit ?_
 refine inBlock_exit ?_
 refine tn_ hK201 ?_
 refine sp_ fun _ hK241 => ?_
 refine lv_ rfl (.agg (pcs ⟨min s.mn.x s.mx.x, min s.mn.y s.mx.y, min s.mn.z s.mx.z⟩).toArray) (la_ 0 3 hm236 Ty.ag_voxel_api_Point) ?_
 refine lv_ rfl (.pointer (some ⟨g19, 0, none⟩)) (iaRun (b := g19) (off := 0) (s := 1) (n := 3) (kk := .i64) (.tmp 6) (.const (.int .i64 0)) 0 Ty.und_3_int kr_ rfl le_ le_ rfl (by decide)) ?_
 refine lv_ rfl (.int .i64 b0) (ld_ 0 4 hm236) ?_
 refine lv_ rfl (.pointer (some ⟨g19, 1, none⟩)) (iaRun (b := g19) (off := 0) (s := 1) (n := 3) (kk := .i64) (.tmp 6) (.const (.int .i64 1)) 1 Ty.und_3_int kr_ rfl le_ le_ rfl (by decide)) ?_
 refine lv_ rfl (.int .i64 b1) (ld_ 1 4 hm236) ?_
 refine lv_ rfl (.pointer (some ⟨g19, 2, none⟩)) (iaRun (b := g19) (off := 0) (s := 1) (n := 3) (kk := .i64) (.tmp 6) (.const (.int .i64 2)) 2 Ty.und_3_int kr_ rfl le_ le_ rfl (by decide)) ?_
 refine lv_ rfl (.int .i64 b2) (ld_ 2 4 hm236) ?_
 refine lk_ (.agg (pcs ⟨b0, b1, b2⟩).toArray) ?_
 refine plCall (i := 8) 76 [.agg (pcs ⟨min s.mn.x s.mx.x, min s.mn.y s.mx.y, min s.mn.z s.mx.z⟩).toArray, .agg (pcs ⟨b0, b1, b2⟩).toArray] [] [] rfl kr_ (wn rfl) rfl le_ (litArgs kr_) (psub_any (⟨min s.mn.x s.mx.x, min s.mn.y s.mx.y, min s.mn.z s.mx.z⟩) (⟨b0, b1, b2⟩) (by simp only []; omega) (by simp only []; omega) _) ?_
 rintro e w242 ⟨rfl, hbz⟩
 have hm243 := hm236.below hbz
 clear hbz hm236
 refine ⟨_, rfl, ?_⟩
 refine qP rfl ?_
 refine plStore 2 Ty.ag_voxel_api_Point hm243 rfl (i := 9) (cs := pcs (((⟨min s.mn.x s.mx.x, min s.mn.y s.mx.y, min s.mn.z s.mx.z⟩) : Pt).sub (⟨b0, b1, b2⟩))) rfl (wn rfl) rfl le_ le_ rfl rfl kr_ ?_
 intro w245 hm244
 clear hm243
 try simp only [lc_] at hm244
 refine qNone rfl ?_
 refine pt_ hK241 ?_
 refine wpPrune [(4, .pointer (some ⟨g8, 0, none⟩))] fo_ (fun X246 => ?_)
 refine wp_ret ?_
 refine bodyPost_ret (v := .agg (pcs (((⟨min s.mn.x s.mx.x, min s.mn.y s.mx.y, min s.mn.z s.mx.z⟩) : Pt).sub (⟨b0, b1, b2⟩))).toArray) (gRes1 rfl (gResAg (cs := pcs (((⟨min s.mn.x s.mx.x, min s.mn.y s.mx.y, min s.mn.z s.mx.z⟩) : Pt).sub (⟨b0, b1, b2⟩))) 2 hm244 rfl Ty.ag_voxel_api_Point rfl (lg_))) rfl ?_
 exact ⟨_, rfl, hm244.bel⟩
theorem bclo_any {w0 w : World} {M : List Res} (d : List Qd) (H : List Hf) (s : Bx) (hs : s.w) (p : Pt) (bq_ bh_ qc hc g1 g2 g3 : Nat) (t f : Nat) (x : Hf) (q : Qd) (hx : H[t]? = some x) (hf : x.fc = (f : Int)) (hq : d[f]? = some q) (hqo : q.Ok) (hm : Mem w0 w ((.arr g1 41 ([.slice (some ⟨bq_, 0, none⟩) d.length qc, .slice (some ⟨bh_, 0, none⟩) H.length hc])) :: (.arr g2 92 (bxs s)) :: (.arr g3 23 (pcs p)) :: (.row (.slice (some ⟨bq_, 0, none⟩) d.length qc) 45 6 d.length (qdsC d)) :: (.row (.slice (some ⟨bh_, 0, none⟩) H.length hc) 94 6 H.length (hfsC H)) :: M)) : Calls Tryz.prog 41 #[.int .i64 (t : Int), .pointer (some ⟨g1, 0, none⟩), .pointer (some ⟨g2, 0, none⟩), .pointer (some ⟨g3, 0, none⟩)] w (fun e w' => ∃ b : Bool, e = .returned (.bool b) ∧ Mem w0 w' ((.arr g1 41 ([.slice (some ⟨bq_, 0, none⟩) d.length qc, .slice (some ⟨bh_, 0, none⟩) H.length hc])) :: (.arr g2 92 (bxs s)) :: (.arr g3 23 (pcs p)) :: (.row (.slice (some ⟨bq_, 0, none⟩) d.length qc) 45 6 d.length (qdsC d)) :: (.row (.slice (some ⟨bh_, 0, none⟩) H.length hc) 94 6 H.length (hfsC H)) :: M)) := by
 have h1_ := (List.getElem?_eq_some_iff.1 hx).1
 have h2_ := (List.getElem?_eq_some_iff.1 hq).1
 have hm0 := hm
 go_enter Tryz.func41, Tryz.ntmps41
 refine litStart 20 [(0, .int .i64 (t : Int)), (1, .pointer (some ⟨g1, 0, none⟩)), (2, .pointer (some ⟨g2, 0, none⟩)), (3, .pointer (some ⟨g3, 0, none⟩))] kr_ (fun X0 => ?_)
 refine sp_ fun _ hK1 => ?_
 refine lF_ ?_
 refine pt_ hK1 ?_
 refine sk_ fun _ hK2 => ?_
 refine mgStart hm0 kr_ ?_
 intro w4 hm3
 clear hm0
 refine mk_ (i := 0) (v := .pointer (some ⟨g1, 0, none⟩)) rfl rfl (fun _ _ _ h => h) hm3 rfl ?_
 refine mt_ 1 rfl (.slice (some ⟨bq_, 0, none⟩) d.length qc) hm3 (fun w_ h_ => ld_ 0 0 h_) ?_
 refine mk_ (i := 2) (v := .pointer (some ⟨g1, 1, none⟩)) rfl rfl (fun _ _ _ h => h) hm3 rfl ?_
 refine mt_ 3 rfl (.slice (some ⟨bh_, 0, none⟩) H.length hc) hm3 (fun w_ h_ => ld_ 1 0 h_) ?_
 refine mk_ (i := 4) (v := .int .i64 (t : Int)) rfl rfl (fun _ _ _ h => h) hm3 rfl ?_
 refine mt_ 5 rfl (.pointer (some ⟨bh_, 0 + t * 6, none⟩)) hm3 (fun w_ h_ => ia_ hc t Ty.sl_L_api_Half rfl ((List.getElem?_eq_some_iff.1 hx).1)) ?_
 refine mk_ (i := 6) (v := .pointer (some ⟨bh_, 0 + t * 6 + 5, none⟩)) rfl rfl (fun _ _ _ h => h) hm3 rfl ?_
 refine mt_ 7 rfl (.int .i64 x.fc) hm3 (fun w_ h_ => lr_ (m := t * 6 + 5) (h_.rdRow 4 rfl) (hfsC_get hx 5 _ rfl) (by omega)) ?_
 refine mt_ 8 rfl (.pointer (some ⟨bq_, 0 + f * 6, none⟩)) hm3 (fun w_ h_ => ia_ qc f Ty.sl_L_api_Quad hf ((List.getElem?_eq_some_iff.1 hq).1)) ?_
 refine mt_ 9 rfl (.agg (qdc q).toArray) hm3 (fun w_ h_ => lar_ (m := f * 6) (h_.rdRow 3 rfl) (qdsC_get hq) (by omega) Ty.ag_voxel_api_Quad) ?_
 refine mt_ 10 rfl (.agg (bxs s).toArray) hm3 (fun w_ h_ => la_ 0 1 h_ Ty.ag_voxel_mesh_span) ?_
 refine mt_ 12 rfl (.agg (pcs p).toArray) hm3 (fun w_ h_ => la_ 0 2 h_ Ty.ag_voxel_api_Point) ?_
 refine mgCall (i := 11) 39 [.agg (qdc q).toArray, .agg (bxs s).toArray] [] [] kr_ rfl kr_ (wn rfl) rfl le_ (litArgs kr_) (touch_any q s hqo hs _) ?_
 rintro e w5 ⟨p7, rfl, hbz⟩
 have hm6 := hm3.below hbz
 clear hbz hm3
 refine ⟨_, rfl, hm6, ?_⟩
 refine mP rfl ?_
 by_cases h8 : p7 = p
 ·refine mt_ 13 rfl (.bool true) hm6 (fun w_ h_ => boolTo (decide_eq_true h8) (eqPtRun (.tmp 17) (.tmp 18) p7 p kr_ kr_ kr_ kr_ rfl le_ le_)) ?_
  refine mk_ (i := 14) (v := .bool true) rfl rfl (fun _ _ _ h => h) hm6 rfl ?_
  refine mgDone kr_ ?_
  refine tn_ hK2 ?_
  refine wpPrune [(5, .bool true)] fo_ (fun X9 => ?_)
  refine wp_ret ?_
  refine br_ 5 (.bool true) ?_
  exact ⟨_, rfl, hm6⟩
 refine mt_ 13 rfl (.bool false) hm6 (fun w_ h_ => boolTo (decide_eq_false h8) (eqPtRun (.tmp 17) (.tmp 18) p7 p kr_ kr_ kr_ kr_ rfl le_ le_)) ?_
 refine mk_ (i := 14) (v := .bool false) rfl rfl (fun _ _ _ h => h) hm6 rfl ?_
 refine mgDone kr_ ?_
 refine tn_ hK2 ?_
 refine wpPrune [(5, .bool false)] fo_ (fun X10 => ?_)
 refine wp_ret ?_
 refine br_ 5 (.bool false) ?_
 exact ⟨_, rfl, hm6⟩
theorem index_any {w0 w : World} {M : List Res} (d : List Qd) (H : List Hf) (s : Bx) (hs : s.w) (p : Pt) (bq_ bh_ qc hc g1 g2 g3 : Nat) (ids : List Int) (bb_ bc : Nat) (hb : ∀ t0 ∈ ids, ∃ (t : Nat) (x : Hf) (f : Nat) (q : Qd), t0 = (t : Int) ∧ H[t]? = some x ∧ x.fc = (f : Int) ∧ d[f]? = some q ∧ q.Ok) (hl : ids.length ≤ 1000000) (hm : Mem w0 w ((.arr g1 41 ([.slice (some ⟨bq_, 0, none⟩) d.length qc, .slice (some ⟨bh_, 0, none⟩) H.length hc])) :: (.arr g2 92 (bxs s)) :: (.arr g3 23 (pcs p)) :: (.row (.slice (some ⟨bq_, 0, none⟩) d.length qc) 45 6 d.length (qdsC d)) :: (.row (.slice (some ⟨bh_, 0, none⟩) H.length hc) 94 6 H.length (hfsC H)) :: (.row (.slice (some ⟨bb_, 0, none⟩) ids.length bc) 3 1 ids.length (ics ids)) :: M)) : Calls Tryz.prog 40 #[.slice (some ⟨bb_, 0, none⟩) ids.length bc, .func (.func 41) #[] #[.pointer (some ⟨g1, 0, none⟩), .pointer (some ⟨g2, 0, none⟩), .pointer (some ⟨g3, 0, none⟩)]] w (fun e w' => ∃ r : Int, -1 ≤ r ∧ r < ids.length ∧ e = .returned (.int .i64 r) ∧ Mem w0 w' ((.arr g1 41 ([.slice (some ⟨bq_, 0, none⟩) d.length qc, .slice (some ⟨bh_, 0, none⟩) H.length hc])) :: (.arr g2 92 (bxs s)) :: (.arr g3 23 (pcs p)) :: (.row (.slice (some ⟨bq_, 0, none⟩) d.length qc) 45 6 d.length (qdsC d)) :: (.row (.slice (some ⟨bh_, 0, none⟩) H.length hc) 94 6 H.length (hfsC H)) :: (.row (.slice (some ⟨bb_, 0, none⟩) ids.length bc) 3 1 ids.length (ics ids)) :: M)) := by
 have hm0 := hm
 go_enter Tryz.func40, Tryz.ntmps40
 refine litStart 19 [(0, .slice (some ⟨bb_, 0, none⟩) ids.length bc), (1, .func (.func 41) #[] #[.pointer (some ⟨g1, 0, none⟩), .pointer (some ⟨g2, 0, none⟩), .pointer (some ⟨g3, 0, none⟩)])] kr_ (fun X0 => ?_)
 refine sp_ fun _ hK1 => ?_
 refine li_ 0 ?_
 refine pt_ hK1 ?_
 refine sk_ fun _ hK2 => ?_
 refine sp_ fun _ hK3 => ?_
 refine lk_ (.slice (some ⟨bb_, 0, none⟩) ids.length bc) ?_
 refine lv_ rfl (.int .i64 (ids.length : Int)) (ln_ (some ⟨bb_, 0, none⟩) ids.length bc Ty.und_L_int) ?_
 refine li_ 0 ?_
 refine pt_ hK3 ?_
 refine wp_block ?_
 refine gwLoop (fun n_ a_ w_ => ∃ (k : Nat), n_ = ids.length - k ∧ (k ≤ ids.length) ∧ Fr a_ 19 [(0, .slice (some ⟨bb_, 0, none⟩) ids.length bc), (1, .func (.func 41) #[] #[.pointer (some ⟨g1, 0, none⟩), .pointer (some ⟨g2, 0, none⟩), .pointer (some ⟨g3, 0, none⟩)]), (7, .int .i64 (ids.length : Int)), (8, .int .i64 (k : Int))] ∧ Mem w0 w_ ((.arr g1 41 ([.slice (some ⟨bq_, 0, none⟩) d.length qc, .slice (some ⟨bh_, 0, none⟩) H.length hc])) :: (.arr g2 92 (bxs s)) :: (.arr g3 23 (pcs p)) :: (.row (.slice (some ⟨bq_, 0, none⟩) d.length qc) 45 6 d.length (qdsC d)) :: (.row (.slice (some ⟨bh_, 0, none⟩) H.length hc) 94 6 H.length (hfsC H)) :: (.row (.slice (some ⟨bb_, 0, none⟩) ids.length bc) 3 1 ids.length (ics ids)) :: M)) (ids.length - 0) ⟨0, rfl, (Nat.zero_le _), ⟨litSize, rfl, fo_⟩, hm0⟩ ?_
 clear hm0
 intro n_ a6 w4 hI_
 obtain ⟨k, rfl, hk, hF_, hm5⟩ := hI_
 obtain ⟨X7, rfl⟩ := frLit hF_
 clear hF_
 refine sp_ fun _ hK8 => ?_
 by_cases h9 : (k : Int) < (ids.length : Int)
 ·have hk2_ : k < ids.length := by omega
  obtain ⟨t, x, f, q, ht_, hx, hf, hq, hqo⟩ := hb _ (List.getElem_mem hk2_)
  have hg_ : ids[k]? = some (t : Int) := by rw [List.getElem?_eq_getElem hk2_, ht_]
  refine lv_ rfl _ (lsT_ h9) ?_
  refine pt_ hK8 ?_
  refine sk_ fun _ hK10 => ?_
  refine wp_cond_true le_ ?_
  refine wp_skip ?_
  refine tn_ hK10 ?_
  refine sk_ fun _ hK11 => ?_
  refine wp_block ?_
  refine sp_ fun _ hK12 => ?_
  refine li_ k ?_
  refine li_ k ?_
  refine pt_ hK12 ?_
  refine sp_ fun _ hK13 => ?_
  refine lk_ (.func (.func 41) #[] #[.pointer (some ⟨g1, 0, none⟩), .pointer (some ⟨g2, 0, none⟩), .pointer (some ⟨g3, 0, none⟩)]) ?_
  refine lk_ (.slice (some ⟨bb_, 0, none⟩) ids.length bc) ?_
  refine li_ k ?_
  refine lv_ rfl (.pointer (some ⟨bb_, 0 + k * 1, none⟩)) (ia_ bc k Ty.sl_L_int rfl hk2_) ?_
  refine lv_ rfl (.int .i64 (t : Int)) (lr_ (m := k * 1) (hm5.rdRow 5 rfl) (icsGet hg_) (by omega)) ?_
  refine plCall (i := 5) 41 [.int .i64 (t : Int)] [] [.pointer (some ⟨g1, 0, none⟩), .pointer (some ⟨g2, 0, none⟩), .pointer (some ⟨g3, 0, none⟩)] rfl kr_ (wn rfl) rfl le_ (litArgs kr_) (bclo_any (M := ((.row (.slice (some ⟨bb_, 0, none⟩) ids.length bc) 3 1 ids.length (ics ids)) :: M)) d H s hs p bq_ bh_ qc hc g1 g2 g3 t f x q hx hf hq hqo hm5) ?_
  rintro e w14 ⟨b16, rfl, hm15⟩
  clear hm5
  refine ⟨_, rfl, ?_⟩
  refine qP rfl ?_
  rcases bool_or (b16) with h17 | h17
  ·rw [h17]
   refine pt_ hK13 ?_
   refine wp_cond_false le_ ?_
   refine wp_skip ?_
   refine inBlock_normal ?_
   refine tn_ hK11 ?_
   refine plStart ?_
   refine lv_ rfl _ (ad_ (k : Int) 1) ?_
   refine li_ ((k : Int) + 1) ?_
   refine plD ?_
   refine then_normal ?_
   exact ⟨_, by omega, (k + 1), rfl, (by omega), ⟨litSize, rfl, fo_⟩, hm15⟩
  rw [h17]
  refine pt_ hK13 ?_
  refine wp_cond_true le_ ?_
  refine sp_ fun _ hK18 => ?_
  refine li_ k ?_
  refine li_ k ?_
  refine pt_ hK18 ?_
  refine wp_ret ?_
  refine inBlock_ret ?_
  refine then_ret ?_
  refine then_ret ?_
  refine inBlock_ret ?_
  refine then_ret ?_
  refine br_ 4 (.int .i64 (k : Int)) ?_
  exact ⟨_, by omega, by omega, rfl, hm15⟩
 refine lv_ rfl _ (lsF_ h9) ?_
 refine pt_ hK8 ?_
 refine sk_ fun _ hK19 => ?_
 refine wp_cond_false le_ ?_
 refine wp_exit ?_
 refine then_exit ?_
 refine then_exit ?_
 refine inBlock_exit ?_
 refine tn_ hK2 ?_
 refine sp_ fun _ hK20 => ?_
 refine li_ (-1) ?_
 refine pt_ hK20 ?_
 refine wp_ret ?_
 refine br_ 4 (.int .i64 (-1)) ?_
 exact ⟨_, by omega, by omega, rfl, hm5⟩
end Go.Proofs.YtbpihalphhoiaaaGreatDoor
