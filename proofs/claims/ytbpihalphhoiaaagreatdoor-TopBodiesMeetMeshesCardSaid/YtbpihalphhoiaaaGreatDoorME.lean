/-
 ME: several texts in one. No statement is proved here.
-/
import Derived.Test.YtbpihalphhoiaaaGreatDoorMZ
import Derived.Test.YtbpihalphhoiaaaGreatDoorMD
import Derived.Test.YtbpihalphhoiaaaGreatDoorMB
set_option maxRecDepth 100000
set_option maxHeartbeats 4000000
set_option linter.unusedVariables false
set_option linter.unusedSimpArgs false
namespace Go.Proofs.YtbpihalphhoiaaaGreatDoor
open Go.RowKit
theorem icsGet {l : List Int} {k : Nat} {n : Int} (h : l[k]? = some n) : (ics l)[k * 1]? = some (.int .i64 n) := by
 rw [Nat.mul_one]; unfold ics; rw [List.getElem?_map, h]; rfl
def mcs (m : Mat) : List Value := [.string ⟨m.nm.toArray⟩, .bool m.solid, .bool m.liquid, .bool m.falling, .int .i64 m.fade, .int .i64 m.e1, .int .i64 m.e2, .int .i64 m.e3]
def mts (l : List Mat) : List Value := l.flatMap mcs
theorem mts_get {m : Mat} : ∀ {l : List Mat} {k : Nat}, l[k]? = some m → ∀ (i : Nat) (u : Value), (mcs m)[i]? = some u → (mts l)[k * 8 + i]? = some u
 | [], k, h, _, _, _ => by simp at h
 | q :: l, 0, h, i, u, hu => by
  simp at h; subst h
  have hi : i < 8 := (List.getElem?_eq_some_iff.1 hu).1
  show (mcs q ++ mts l)[_]? = _
  rw [List.getElem?_append_left (by show _ < 8; omega), Nat.zero_mul, Nat.zero_add]
  exact hu
 | q :: l, k + 1, h, i, u, hu => by
  show (mcs q ++ mts l)[_]? = _
  rw [List.getElem?_append_right (by show 8 ≤ _; omega)]
  have e : (k + 1) * 8 + i - (mcs q).length = k * 8 + i := by show (k + 1) * 8 + i - 8 = _; omega
  rw [e]
  exact mts_get (l := l) (by simpa using h) i u hu
def gcs (g : Gr) (A : Option Addr) (c : Nat) : List Value := bxs g.box ++ [.slice A g.cells.length c]
theorem size_any (b : Bx) (hb : b.rng) (w : World) : Calls Tryz.prog 97 #[.agg (bxs b).toArray] w (RetV w (.agg (pcs b.size).toArray)) := by
 have hb_ := hb
 unfold Bx.rng Pt.rng at hb_
 have hm0 := Mem.nil w
 go_enter Tryz.func97, Tryz.ntmps97
 refine litStart 13 [(0, .agg (bxs b).toArray)] kr_ (fun X0 => ?_)
 refine sp_ fun _ hK1 => ?_
 refine plBox hm0 (cs := bxs b) (i := 0) rfl (wn rfl) rfl le_ ?_
 intro g2 w4 hm3
 clear hm0
 try simp only [lc_] at hm3
 refine qP rfl ?_
 refine plAlloc (z := [.int .i64 0, .int .i64 0, .int .i64 0]) Ty.ag_voxel_api_Point hm3 (i := 1) rfl (wn rfl) rfl ?_
 intro g5 w7 hm6
 clear hm3
 try simp only [lc_] at hm6
 refine qP rfl ?_
 refine pt_ hK1 ?_
 refine sp_ fun _ hK8 => ?_
 refine lv_ rfl (.agg (bxs b).toArray) (la_ 0 0 hm6 Ty.ag_voxel_api_Box) ?_
 refine plCall (i := 1) 123 [.agg (bxs b).toArray] [] [] rfl kr_ (wn rfl) rfl le_ (litArgs kr_) (empty_any b _) ?_
 rintro e w9 ⟨rfl, hbz⟩
 have hm10 := hm6.below hbz
 clear hbz hm6
 refine ⟨_, rfl, ?_⟩
 refine qP rfl ?_
 rcases bool_or (decide b.none) with h11 | h11
 ·rw [h11]
  refine lF_ ?_
  refine pt_ hK8 ?_
  refine sk_ fun _ hK12 => ?_
  refine sp_ fun _ hK13 => ?_
  refine lF_ ?_
  refine pt_ hK13 ?_
  refine wp_cond_false le_ ?_
  refine wp_skip ?_
  refine tn_ hK12 ?_
  refine sp_ fun _ hK14 => ?_
  refine lp_ g2 3 ?_
  refine lv_ rfl (.agg (pcs b.mx).toArray) (la_ 3 0 hm10 Ty.ag_voxel_api_Point) ?_
  refine lp_ g2 0 ?_
  refine lv_ rfl (.agg (pcs b.mn).toArray) (la_ 0 0 hm10 Ty.ag_voxel_api_Point) ?_
  refine plCall (i := 4) 16 [.agg (pcs b.mx).toArray, .agg (pcs b.mn).toArray] [] [] rfl kr_ (wn rfl) rfl le_ (litArgs kr_) (sub_any b.mx b.mn (by omega) (by omega) _) ?_
  rintro e w15 ⟨rfl, hbz⟩
  have hm16 := hm10.below hbz
  clear hbz hm10
  refine ⟨_, rfl, ?_⟩
  refine qP rfl ?_
  refine plStore 1 Ty.ag_voxel_api_Point hm16 rfl (i := 5) (cs := pcs (b.mx.sub b.mn)) rfl (wn rfl) rfl le_ le_ rfl rfl kr_ ?_
  intro w18 hm17
  clear hm16
  try simp only [lc_] at hm17
  refine qNone rfl ?_
  refine pt_ hK14 ?_
  refine wp_ret ?_
  refine bodyPost_ret (v := .agg (pcs (b.mx.sub b.mn)).toArray) (gRes1 rfl (gResAg (cs := pcs (b.mx.sub b.mn)) 1 hm17 rfl Ty.ag_voxel_api_Point rfl (lg_))) rfl ?_
  exact ⟨congrArg (fun p_ => Ending.returned (.agg (pcs p_).toArray)) (show b.mx.sub b.mn = b.size by unfold Bx.size; rw [if_neg (of_decide_eq_false h11)]), hm17.bel⟩
 rw [h11]
 refine lT_ ?_
 refine pt_ hK8 ?_
 refine sk_ fun _ hK19 => ?_
 refine sp_ fun _ hK20 => ?_
 refine lT_ ?_
 refine pt_ hK20 ?_
 refine wp_cond_true le_ ?_
 refine sp_ fun _ hK21 => ?_
 refine lk_ (.agg (pcs ⟨0, 0, 0⟩).toArray) ?_
 refine plStore 1 Ty.ag_voxel_api_Point hm10 rfl (i := 1) (cs := pcs ⟨0, 0, 0⟩) rfl (wn rfl) rfl le_ le_ rfl rfl kr_ ?_
 intro w23 hm22
 clear hm10
 try simp only [lc_] at hm22
 refine qNone rfl ?_
 refine pt_ hK21 ?_
 refine wp_ret ?_
 refine then_ret ?_
 refine bodyPost_ret (v := .agg (pcs ⟨0, 0, 0⟩).toArray) (gRes1 rfl (gResAg (cs := pcs ⟨0, 0, 0⟩) 1 hm22 rfl Ty.ag_voxel_api_Point rfl (lg_))) rfl ?_
 exact ⟨congrArg (fun p_ => Ending.returned (.agg (pcs p_).toArray)) (show p0 = b.size by unfold Bx.size; rw [if_pos (of_decide_eq_true h11)]), hm22.bel⟩
theorem vol_any (b : Bx) (hb : b.rng) (w : World) : Calls Tryz.prog 69 #[.agg (bxs b).toArray] w (RetV w (.int .i64 b.vol)) := by
 obtain ⟨hv1, hv2⟩ := vol_bd hb
 unfold Bx.vol at hv2
 have hm0 := Mem.nil w
 go_enter Tryz.func69, Tryz.ntmps69
 refine litStart 14 [(0, .agg (bxs b).toArray)] kr_ (fun X0 => ?_)
 refine sp_ fun _ hK1 => ?_
 refine plBox hm0 (cs := bxs b) (i := 0) rfl (wn rfl) rfl le_ ?_
 intro g2 w4 hm3
 clear hm0
 try simp only [lc_] at hm3
 refine qP rfl ?_
 refine li_ 0 ?_
 refine pt_ hK1 ?_
 refine sp_ fun _ hK5 => ?_
 refine lv_ rfl (.agg (bxs b).toArray) (la_ 0 0 hm3 Ty.ag_voxel_api_Box) ?_
 refine plCall (i := 1) 97 [.agg (bxs b).toArray] [] [] rfl kr_ (wn rfl) rfl le_ (litArgs kr_) (size_any b hb _) ?_
 rintro e w6 ⟨rfl, hbz⟩
 have hm7 := hm3.below hbz
 clear hbz hm3
 refine ⟨_, rfl, ?_⟩
 refine qP rfl ?_
 refine plAlloc (z := [.int .i64 0, .int .i64 0, .int .i64 0]) Ty.ag_voxel_api_Point hm7 (i := 2) rfl (wn rfl) rfl ?_
 intro g8 w10 hm9
 clear hm7
 try simp only [lc_] at hm9
 refine qP rfl ?_
 refine plStore 1 Ty.ag_voxel_api_Point hm9 rfl (i := 3) (cs := pcs (b.size)) rfl (wn rfl) rfl le_ le_ rfl rfl kr_ ?_
 intro w12 hm11
 clear hm9
 try simp only [lc_] at hm11
 refine qNone rfl ?_
 refine pt_ hK5 ?_
 refine sp_ fun _ hK13 => ?_
 refine lp_ g8 0 ?_
 refine lv_ rfl (.int .i64 ((b.size).x)) (ld_ 0 1 hm11) ?_
 refine lp_ g8 1 ?_
 refine lv_ rfl (.int .i64 ((b.size).y)) (ld_ 1 1 hm11) ?_
 refine lv_ rfl (.int .i64 (((b.size).x) * ((b.size).y))) (mulRun' (A := ((b.size).x)) (B := ((b.size).y)) (C := ((b.size).x) * ((b.size).y)) (.tmp 7) (.tmp 9) rfl le_ le_ rfl (by omega)) ?_
 refine lp_ g8 2 ?_
 refine lv_ rfl (.int .i64 ((b.size).z)) (ld_ 2 1 hm11) ?_
 refine lv_ rfl (.int .i64 ((((b.size).x) * ((b.size).y)) * ((b.size).z))) (mulRun' (A := (((b.size).x) * ((b.size).y))) (B := ((b.size).z)) (C := (((b.size).x) * ((b.size).y)) * ((b.size).z)) (.tmp 10) (.tmp 12) rfl le_ le_ rfl (by omega)) ?_
 refine li_ ((((b.size).x) * ((b.size).y)) * ((b.size).z)) ?_
 refine pt_ hK13 ?_
 refine wpPrune [(2, .int .i64 ((((b.size).x) * ((b.size).y)) * ((b.size).z)))] fo_ (fun X14 => ?_)
 refine wp_ret ?_
 refine br_ 2 (.int .i64 ((((b.size).x) * ((b.size).y)) * ((b.size).z))) ?_
 exact ⟨by rfl, hm11.bel⟩
theorem idx_any (b : Bx) (p : Pt) (hb : b.rng) (w : World) : Calls Tryz.prog 72 #[.agg (bxs b).toArray, .agg (pcs p).toArray] w (RetV w (.int .i64 (b.idx p))) := by
 have hb_ := hb
 unfold Bx.rng Pt.rng at hb_
 have hm0 := Mem.nil w
 go_enter Tryz.func72, Tryz.ntmps72
 refine litStart 33 [(0, .agg (bxs b).toArray), (1, .agg (pcs p).toArray)] kr_ (fun X0 => ?_)
 refine sp_ fun _ hK1 => ?_
 refine plBox hm0 (cs := bxs b) (i := 0) rfl (wn rfl) rfl le_ ?_
 intro g2 w4 hm3
 clear hm0
 try simp only [lc_] at hm3
 refine qP rfl ?_
 refine plBox hm3 (cs := pcs p) (i := 1) rfl (wn rfl) rfl le_ ?_
 intro g5 w7 hm6
 clear hm3
 try simp only [lc_] at hm6
 refine qP rfl ?_
 refine li_ 0 ?_
 refine pt_ hK1 ?_
 refine sp_ fun _ hK8 => ?_
 refine lv_ rfl (.agg (pcs p).toArray) (la_ 0 1 hm6 Ty.ag_voxel_api_Point) ?_
 refine lv_ rfl (.agg (bxs b).toArray) (la_ 0 0 hm6 Ty.ag_voxel_api_Box) ?_
 refine plCall (i := 2) 28 [.agg (pcs p).toArray, .agg (bxs b).toArray] [] [] rfl kr_ (wn rfl) rfl le_ (litArgs kr_) (in_any p b _) ?_
 rintro e w9 ⟨rfl, hbz⟩
 have hm10 := hm6.below hbz
 clear hbz hm6
 refine ⟨_, rfl, ?_⟩
 refine qP rfl ?_
 rcases bool_or (decide (b.has p)) with h11 | h11
 ·rw [h11]
  refine lF_ ?_
  refine pt_ hK8 ?_
  refine sk_ fun _ hK12 => ?_
  refine sp_ fun _ hK13 => ?_
  refine lF_ ?_
  refine lT_ ?_
  refine pt_ hK13 ?_
  refine wp_cond_true le_ ?_
  refine sp_ fun _ hK14 => ?_
  refine li_ (-1) ?_
  refine pt_ hK14 ?_
  refine wp_ret ?_
  refine then_ret ?_
  refine br_ 4 (.int .i64 (-1)) ?_
  exact ⟨congrArg (fun n_ => Ending.returned (.int .i64 n_)) (show _ = b.idx p by unfold Bx.idx; rw [if_neg (of_decide_eq_false h11)]), hm10.bel⟩
 rw [h11]
 refine lT_ ?_
 refine pt_ hK8 ?_
 refine sk_ fun _ hK15 => ?_
 refine sp_ fun _ hK16 => ?_
 refine lT_ ?_
 refine lF_ ?_
 refine pt_ hK16 ?_
 refine wp_cond_false le_ ?_
 refine wp_skip ?_
 refine tn_ hK15 ?_
 refine sp_ fun _ hK17 => ?_
 have hid := idx_bd hb (of_decide_eq_true h11)
 have hid2 := hid.2.2.2.2.2.2.2
 unfold Bx.idx at hid2
 rw [if_pos (of_decide_eq_true h11)] at hid2
 have hvb := (vol_bd hb).2
 have hpb_ := of_decide_eq_true h11
 unfold Bx.has at hpb_
 refine lv_ rfl (.agg (bxs b).toArray) (la_ 0 0 hm10 Ty.ag_voxel_api_Box) ?_
 refine plCall (i := 1) 97 [.agg (bxs b).toArray] [] [] rfl kr_ (wn rfl) rfl le_ (litArgs kr_) (size_any b hb _) ?_
 rintro e w18 ⟨rfl, hbz⟩
 have hm19 := hm10.below hbz
 clear hbz hm10
 refine ⟨_, rfl, ?_⟩
 refine qP rfl ?_
 refine plAlloc (z := [.int .i64 0, .int .i64 0, .int .i64 0]) Ty.ag_voxel_api_Point hm19 (i := 2) rfl (wn rfl) rfl ?_
 intro g20 w22 hm21
 clear hm19
 try simp only [lc_] at hm21
 refine qP rfl ?_
 refine plStore 2 Ty.ag_voxel_api_Point hm21 rfl (i := 3) (cs := pcs (b.size)) rfl (wn rfl) rfl le_ le_ rfl rfl kr_ ?_
 intro w24 hm23
 clear hm21
 try simp only [lc_] at hm23
 refine qNone rfl ?_
 refine pt_ hK17 ?_
 refine sp_ fun _ hK25 => ?_
 refine lv_ rfl (.agg (pcs p).toArray) (la_ 0 1 hm23 Ty.ag_voxel_api_Point) ?_
 refine lp_ g2 0 ?_
 refine lv_ rfl (.agg (pcs b.mn).toArray) (la_ 0 0 hm23 Ty.ag_voxel_api_Point) ?_
 refine plCall (i := 3) 16 [.agg (pcs p).toArray, .agg (pcs b.mn).toArray] [] [] rfl kr_ (wn rfl) rfl le_ (litArgs kr_) (sub_any p b.mn (by omega) (by omega) _) ?_
 rintro e w26 ⟨rfl, hbz⟩
 have hm27 := hm23.below hbz
 clear hbz hm23
 refine ⟨_, rfl, ?_⟩
 refine qP rfl ?_
 refine plAlloc (z := [.int .i64 0, .int .i64 0, .int .i64 0]) Ty.ag_voxel_api_Point hm27 (i := 4) rfl (wn rfl) rfl ?_
 intro g28 w30 hm29
 clear hm27
 try simp only [lc_] at hm29
 refine qP rfl ?_
 refine plStore 3 Ty.ag_voxel_api_Point hm29 rfl (i := 5) (cs := pcs (p.sub b.mn)) rfl (wn rfl) rfl le_ le_ rfl rfl kr_ ?_
 intro w32 hm31
 clear hm29
 try simp only [lc_] at hm31
 refine qNone rfl ?_
 refine pt_ hK25 ?_
 refine wpPrune [(4, .int .i64 0), (6, .pointer (some ⟨g20, 0, none⟩)), (7, .pointer (some ⟨g28, 0, none⟩))] fo_ (fun X33 => ?_)
 refine sp_ fun _ hK34 => ?_
 refine lp_ g28 0 ?_
 refine lv_ rfl (.int .i64 (p.x - b.mn.x)) (ld_ 0 3 hm31) ?_
 refine lp_ g20 0 ?_
 refine lv_ rfl (.int .i64 ((b.size).x)) (ld_ 0 2 hm31) ?_
 refine lp_ g28 1 ?_
 refine lv_ rfl (.int .i64 (p.y - b.mn.y)) (ld_ 1 3 hm31) ?_
 refine lp_ g20 1 ?_
 refine lv_ rfl (.int .i64 ((b.size).y)) (ld_ 1 2 hm31) ?_
 refine lp_ g28 2 ?_
 refine lv_ rfl (.int .i64 (p.z - b.mn.z)) (ld_ 2 3 hm31) ?_
 refine lv_ rfl (.int .i64 (((b.size).y) * (p.z - b.mn.z))) (mulRun' (A := ((b.size).y)) (B := (p.z - b.mn.z)) (C := ((b.size).y) * (p.z - b.mn.z)) (.tmp 26) (.tmp 28) rfl le_ le_ rfl (by omega)) ?_
 refine lv_ rfl _ (ad_ (p.y - b.mn.y) (((b.size).y) * (p.z - b.mn.z))) ?_
 refine lv_ rfl (.int .i64 (((b.size).x) * ((p.y - b.mn.y) + (((b.size).y) * (p.z - b.mn.z))))) (mulRun' (A := ((b.size).x)) (B := ((p.y - b.mn.y) + (((b.size).y) * (p.z - b.mn.z)))) (C := ((b.size).x) * ((p.y - b.mn.y) + (((b.size).y) * (p.z - b.mn.z)))) (.tmp 22) (.tmp 30) rfl le_ le_ rfl (by omega)) ?_
 refine lv_ rfl _ (ad_ (p.x - b.mn.x) (((b.size).x) * ((p.y - b.mn.y) + (((b.size).y) * (p.z - b.mn.z))))) ?_
 refine li_ ((p.x - b.mn.x) + (((b.size).x) * ((p.y - b.mn.y) + (((b.size).y) * (p.z - b.mn.z))))) ?_
 refine pt_ hK34 ?_
 refine wpPrune [(4, .int .i64 ((p.x - b.mn.x) + (((b.size).x) * ((p.y - b.mn.y) + (((b.size).y) * (p.z - b.mn.z))))))] fo_ (fun X35 => ?_)
 refine wp_ret ?_
 refine br_ 4 (.int .i64 ((p.x - b.mn.x) + (((b.size).x) * ((p.y - b.mn.y) + (((b.size).y) * (p.z - b.mn.z)))))) ?_
 exact ⟨congrArg (fun n_ => Ending.returned (.int .i64 n_)) (show _ = b.idx p by unfold Bx.idx; rw [if_pos (of_decide_eq_true h11)]), hm31.bel⟩
theorem get_any (g : Gr) (hv : g.Valid) (A : Option Addr) (c : Nat) (p : Pt) (w : World) (hrd : Rd w w.heap.size 1 A g.cells.length c (ics g.cells)) : Calls Tryz.prog 26 #[.agg (gcs g A c).toArray, .agg (pcs p).toArray] w (RetV w (.int .i64 (g.get p))) := by
 have hb := hv.1
 have hm0 := Mem.nil w
 go_enter Tryz.func26, Tryz.ntmps26
 refine litStart 17 [(0, .agg (gcs g A c).toArray), (1, .agg (pcs p).toArray)] kr_ (fun X0 => ?_)
 refine sp_ fun _ hK1 => ?_
 refine plBox hm0 (cs := gcs g A c) (i := 0) rfl (wn rfl) rfl le_ ?_
 intro g2 w4 hm3
 clear hm0
 try simp only [lc_] at hm3
 refine qP rfl ?_
 refine plBox hm3 (cs := pcs p) (i := 1) rfl (wn rfl) rfl le_ ?_
 intro g5 w7 hm6
 clear hm3
 try simp only [lc_] at hm6
 refine qP rfl ?_
 refine li_ 0 ?_
 refine pt_ hK1 ?_
 refine sp_ fun _ hK8 => ?_
 refine lp_ g2 0 ?_
 refine lv_ rfl (.agg (bxs g.box).toArray) (la_ 0 0 hm6 Ty.ag_voxel_api_Box) ?_
 refine lv_ rfl (.agg (pcs p).toArray) (la_ 0 1 hm6 Ty.ag_voxel_api_Point) ?_
 refine plCall (i := 3) 72 [.agg (bxs g.box).toArray, .agg (pcs p).toArray] [] [] rfl kr_ (wn rfl) rfl le_ (litArgs kr_) (idx_any g.box p hb _) ?_
 rintro e w9 ⟨rfl, hbz⟩
 have hm10 := hm6.below hbz
 clear hbz hm6
 refine ⟨_, rfl, ?_⟩
 refine qP rfl ?_
 refine li_ (g.box.idx p) ?_
 refine pt_ hK8 ?_
 refine sk_ fun _ hK11 => ?_
 refine sp_ fun _ hK12 => ?_
 refine li_ (g.box.idx p) ?_
 by_cases h13 : (g.box.idx p) < 0
 ·refine lv_ rfl _ (lsT_ h13) ?_
  refine pt_ hK12 ?_
  refine wp_cond_true le_ ?_
  refine sp_ fun _ hK14 => ?_
  refine li_ 0 ?_
  refine pt_ hK14 ?_
  refine wp_ret ?_
  refine then_ret ?_
  refine br_ 4 (.int .i64 0) ?_
  exact ⟨congrArg (fun n_ => Ending.returned (.int .i64 n_)) (show _ = g.get p from by unfold Gr.get; rw [if_pos h13]), hm10.bel⟩
 have hin : g.box.has p := Decidable.byContradiction (fun h_ => h13 (by rw [idx_neg h_]; decide))
 have hix := hv.idx hin
 obtain ⟨b_, off_, rfl, _, _⟩ := hrd.cells (by omega)
 obtain ⟨K, hK⟩ : ∃ K : Nat, g.box.idx p = (K : Int) := ⟨(g.box.idx p).toNat, by omega⟩
 obtain ⟨n, hn⟩ : ∃ n, g.cells[K]? = some n := ⟨_, List.getElem?_eq_getElem (by omega)⟩
 refine lv_ rfl _ (lsF_ h13) ?_
 refine pt_ hK12 ?_
 refine wp_cond_false le_ ?_
 refine wp_skip ?_
 refine tn_ hK11 ?_
 refine sp_ fun _ hK15 => ?_
 refine lp_ g2 6 ?_
 refine lv_ rfl (.slice (some ⟨b_, off_, none⟩) g.cells.length c) (ld_ 6 0 hm10) ?_
 refine li_ (g.box.idx p) ?_
 refine lv_ rfl (.pointer (some ⟨b_, off_ + K * 1, none⟩)) (gIaSl (b := b_) (off := off_) (n := g.cells.length) (c := c) (kk := .i64) (K := (g.box.idx p)) (.tmp 13) (.tmp 14) K Ty.sl_L_int rfl le_ le_ (hK) ((by omega))) ?_
 refine lv_ rfl (.int .i64 n) (lr_ (m := K * 1) ((Rd.below hrd hm10.bel).more hm10.bel.size) (icsGet hn) (by omega)) ?_
 refine li_ n ?_
 refine pt_ hK15 ?_
 refine wpPrune [(4, .int .i64 n)] fo_ (fun X16 => ?_)
 refine wp_ret ?_
 refine br_ 4 (.int .i64 n) ?_
 exact ⟨congrArg (fun n_ => Ending.returned (.int .i64 n_)) (show _ = g.get p from by unfold Gr.get; rw [if_neg h13, hK, Int.toNat_natCast, List.getD_eq_getElem?_getD, hn]; rfl), hm10.bel⟩
theorem mat_any (T : List Mat) (n : Int) (A : Option Addr) (c : Nat) (w : World) (hrd : Rd w w.heap.size 8 A T.length c (mts T)) : Calls Tryz.prog 73 #[.slice A T.length c, .int .i64 n] w (RetV w (.agg (mcs (matAt T n)).toArray)) := by
 have hm0 := Mem.nil w
 go_enter Tryz.func73, Tryz.ntmps73
 refine litStart 18 [(0, .slice A T.length c), (1, .int .i64 n)] kr_ (fun X0 => ?_)
 refine sp_ fun _ hK1 => ?_
 refine plAlloc (z := [.string ⟨([]).toArray⟩, .bool false, .bool false, .bool false, .int .i64 0, .int .i64 0, .int .i64 0, .int .i64 0]) Ty.ag_voxel_api_Material hm0 (i := 0) rfl (wn rfl) rfl ?_
 intro g2 w4 hm3
 clear hm0
 try simp only [lc_] at hm3
 refine qP rfl ?_
 refine pt_ hK1 ?_
 refine sk_ fun _ hK5 => ?_
 refine sp_ fun _ hK6 => ?_
 refine li_ n ?_
 by_cases h7 : n < 0
 ·refine lv_ rfl _ (lsT_ h7) ?_
  refine lT_ ?_
  refine ps_ (i := 3) ?_
  refine ps_ (i := 4) ?_
  refine ps_ (i := 5) ?_
  refine ps_ (i := 6) ?_
  refine lT_ ?_
  refine pt_ hK6 ?_
  refine wp_cond_true le_ ?_
  refine sp_ fun _ hK8 => ?_
  refine lk_ (.agg ([.string ⟨([]).toArray⟩, .bool false, .bool false, .bool false, .int .i64 16, .int .i64 0, .int .i64 0, .int .i64 0]).toArray) ?_
  refine plStore 0 Ty.ag_voxel_api_Material hm3 rfl (i := 1) (cs := [.string ⟨([]).toArray⟩, .bool false, .bool false, .bool false, .int .i64 16, .int .i64 0, .int .i64 0, .int .i64 0]) rfl (wn rfl) rfl le_ le_ rfl rfl kr_ ?_
  intro w10 hm9
  clear hm3
  try simp only [lc_] at hm9
  refine qNone rfl ?_
  refine pt_ hK8 ?_
  refine wp_ret ?_
  refine then_ret ?_
  refine bodyPost_ret (v := .agg ([.string ⟨([]).toArray⟩, .bool false, .bool false, .bool false, .int .i64 16, .int .i64 0, .int .i64 0, .int .i64 0]).toArray) (gRes1 rfl (gResAg (cs := [.string ⟨([]).toArray⟩, .bool false, .bool false, .bool false, .int .i64 16, .int .i64 0, .int .i64 0, .int .i64 0]) 0 hm9 rfl Ty.ag_voxel_api_Material rfl (lg_))) rfl ?_
  exact ⟨congrArg Ending.returned (show _ = Value.agg (mcs (matAt T n)).toArray from by unfold matAt; rw [if_pos (Or.inl h7)]; rfl), hm9.bel⟩
 refine lv_ rfl _ (lsF_ h7) ?_
 refine lF_ ?_
 refine lw_ rfl (.int .i64 n) (litRun kr_) ?_
 refine lw_ rfl (.slice A T.length c) (litRun kr_) ?_
 refine lw_ rfl (.int .i64 (T.length : Int)) (ln_ A T.length c Ty.und_L_api_Material) ?_
 by_cases h11 : (T.length : Int) ≤ n
 ·refine lw_ rfl _ (geT_ h11) ?_
  refine lT_ ?_
  refine pt_ hK6 ?_
  refine wp_cond_true le_ ?_
  refine sp_ fun _ hK12 => ?_
  refine lk_ (.agg ([.string ⟨([]).toArray⟩, .bool false, .bool false, .bool false, .int .i64 16, .int .i64 0, .int .i64 0, .int .i64 0]).toArray) ?_
  refine plStore 0 Ty.ag_voxel_api_Material hm3 rfl (i := 1) (cs := [.string ⟨([]).toArray⟩, .bool false, .bool false, .bool false, .int .i64 16, .int .i64 0, .int .i64 0, .int .i64 0]) rfl (wn rfl) rfl le_ le_ rfl rfl kr_ ?_
  intro w14 hm13
  clear hm3
  try simp only [lc_] at hm13
  refine qNone rfl ?_
  refine pt_ hK12 ?_
  refine wp_ret ?_
  refine then_ret ?_
  refine bodyPost_ret (v := .agg ([.string ⟨([]).toArray⟩, .bool false, .bool false, .bool false, .int .i64 16, .int .i64 0, .int .i64 0, .int .i64 0]).toArray) (gRes1 rfl (gResAg (cs := [.string ⟨([]).toArray⟩, .bool false, .bool false, .bool false, .int .i64 16, .int .i64 0, .int .i64 0, .int .i64 0]) 0 hm13 rfl Ty.ag_voxel_api_Material rfl (lg_))) rfl ?_
  exact ⟨congrArg Ending.returned (show _ = Value.agg (mcs (matAt T n)).toArray from by unfold matAt; rw [if_pos (Or.inr h11)]; rfl), hm13.bel⟩
 obtain ⟨b_, off_, rfl, _, _⟩ := hrd.cells (by omega)
 obtain ⟨K, hK⟩ : ∃ K : Nat, n = (K : Int) := ⟨n.toNat, by omega⟩
 obtain ⟨m, hm⟩ : ∃ m, T[K]? = some m := ⟨_, List.getElem?_eq_getElem (by omega)⟩
 refine lw_ rfl _ (geF_ h11) ?_
 refine lF_ ?_
 refine pt_ hK6 ?_
 refine wp_cond_false le_ ?_
 refine wp_skip ?_
 refine tn_ hK5 ?_
 refine sp_ fun _ hK15 => ?_
 refine lk_ (.slice (some ⟨b_, off_, none⟩) T.length c) ?_
 refine li_ n ?_
 refine lv_ rfl (.pointer (some ⟨b_, off_ + K * 8, none⟩)) (gIaSl (b := b_) (off := off_) (n := T.length) (c := c) (kk := .i64) (K := n) (.tmp 14) (.tmp 15) K Ty.sl_L_api_Material rfl le_ le_ (hK) ((by omega))) ?_
 refine lv_ rfl (.agg (mcs m).toArray) (lar_ (m := K * 8) ((Rd.below hrd hm3.bel).more hm3.bel.size) (mts_get hm) (by omega) Ty.ag_voxel_api_Material) ?_
 refine plStore 0 Ty.ag_voxel_api_Material hm3 rfl (i := 4) (cs := mcs m) rfl (wn rfl) rfl le_ le_ rfl rfl kr_ ?_
 intro w17 hm16
 clear hm3
 try simp only [lc_] at hm16
 refine qNone rfl ?_
 refine pt_ hK15 ?_
 refine wpPrune [(4, .pointer (some ⟨g2, 0, none⟩))] fo_ (fun X18 => ?_)
 refine wp_ret ?_
 refine bodyPost_ret (v := .agg (mcs m).toArray) (gRes1 rfl (gResAg (cs := mcs m) 0 hm16 rfl Ty.ag_voxel_api_Material rfl (lg_))) rfl ?_
 exact ⟨congrArg Ending.returned (show _ = Value.agg (mcs (matAt T n)).toArray from by unfold matAt; rw [if_neg (by omega), hK, Int.toNat_natCast, List.getD_eq_getElem?_getD, hm]; rfl), hm16.bel⟩
theorem solidM_any (T : List Mat) (n : Int) (A : Option Addr) (c : Nat) (w : World) (hrd : Rd w w.heap.size 8 A T.length c (mts T)) : Calls Tryz.prog 29 #[.slice A T.length c, .int .i64 n] w (RetV w (.bool (matAt T n).solid)) := by
 have hm0 := Mem.nil w
 go_enter Tryz.func29, Tryz.ntmps29
 refine litStart 9 [(0, .slice A T.length c), (1, .int .i64 n)] kr_ (fun X0 => ?_)
 refine sp_ fun _ hK1 => ?_
 refine lF_ ?_
 refine pt_ hK1 ?_
 refine sp_ fun _ hK2 => ?_
 refine lk_ (.slice A T.length c) ?_
 refine li_ n ?_
 refine plCall (i := 2) 73 [.slice A T.length c, .int .i64 n] [] [] rfl kr_ (wn rfl) rfl le_ (litArgs kr_) (mat_any T n A c _ ((Rd.below hrd hm0.bel).more hm0.bel.size)) ?_
 rintro e w3 ⟨rfl, hbz⟩
 have hm4 := hm0.below hbz
 clear hbz hm0
 refine ⟨_, rfl, ?_⟩
 refine qP rfl ?_
 refine lk_ (.bool ((matAt T n).solid)) ?_
 refine lk_ (.bool ((matAt T n).solid)) ?_
 refine pt_ hK2 ?_
 refine wp_ret ?_
 refine br_ 4 (.bool ((matAt T n).solid)) ?_
 exact ⟨by rfl, hm4.bel⟩
end Go.Proofs.YtbpihalphhoiaaaGreatDoor
namespace Go.Proofs.YtbpihalphhoiaaaGreatDoor
end Go.Proofs.YtbpihalphhoiaaaGreatDoor
namespace Go.Proofs.YtbpihalphhoiaaaGreatDoor
open Go.RowKit
theorem pow_pair : ∀ (x x' y y' : Nat), 2 ^ x * (2 * y + 1) = 2 ^ x' * (2 * y' + 1) → x = x' ∧ y = y'
 | 0, 0, y, y', h => ⟨rfl, by simp at h; omega⟩
 | 0, x' + 1, y, y', h => by
  exfalso
  rw [Nat.pow_succ, Nat.mul_comm (2 ^ x') 2, Nat.mul_assoc] at h
  generalize 2 ^ x' * (2 * y' + 1) = t at h
  simp at h
  omega
 | x + 1, 0, y, y', h => by
  exfalso
  rw [Nat.pow_succ, Nat.mul_comm (2 ^ x) 2, Nat.mul_assoc] at h
  generalize 2 ^ x * (2 * y + 1) = t at h
  simp at h
  omega
 | x + 1, x' + 1, y, y', h => by
  rw [Nat.pow_succ, Nat.mul_comm (2 ^ x) 2, Nat.mul_assoc, Nat.pow_succ, Nat.mul_comm (2 ^ x') 2, Nat.mul_assoc] at h
  have h2 := pow_pair x x' y y' (by omega)
  omega
open Classical in
noncomputable def unpair (k : Nat) : Nat × Nat := if h : ∃ p : Nat × Nat, k = 2 ^ p.1 * (2 * p.2 + 1) then Classical.choose h else (0, 0)
theorem unpair_eq (x y : Nat) : unpair (2 ^ x * (2 * y + 1)) = (x, y) := by
 have h : ∃ p : Nat × Nat, 2 ^ x * (2 * y + 1) = 2 ^ p.1 * (2 * p.2 + 1) := ⟨(x, y), rfl⟩
 unfold unpair
 rw [dif_pos h]
 have h2 := Classical.choose_spec h
 have h3 := pow_pair _ _ _ _ h2
 exact Prod.ext h3.1.symm h3.2.symm
noncomputable def rA (k : Nat) : Option Addr := match (unpair k).1 with
 | 0 => none
 | g + 1 => some ⟨g, 0, none⟩
noncomputable def rC (k : Nat) : Nat := (unpair k).2
theorem r_none (c : Nat) : ∃ k, rA k = none ∧ rC k = c := ⟨2 ^ 0 * (2 * c + 1), by unfold rA; rw [unpair_eq], by unfold rC; rw [unpair_eq]⟩
theorem r_some (g c : Nat) : ∃ k, rA k = some ⟨g, 0, none⟩ ∧ rC k = c := ⟨2 ^ (g + 1) * (2 * c + 1), by unfold rA; rw [unpair_eq], by unfold rC; rw [unpair_eq]⟩
theorem own_code {w : World} {base size n : Nat} {e : TypeId} {v : Value} {xs : List Value} (h : w.ownsRow base e size v n xs) : ∃ k, v = .slice (rA k) n (rC k) := by
 rcases h.2 with ⟨rfl, rfl⟩ | ⟨g, cap, cur, rfl, _⟩
 ·obtain ⟨k, h1, h2⟩ := r_none 0
  exact ⟨k, by rw [h1, h2]⟩
 ·obtain ⟨k, h1, h2⟩ := r_some g cap
  exact ⟨k, by rw [h1, h2]⟩
section
variable {P : Program} {ops : Array Oper} {Q : Exit → Act → World → Prop} {w0 : World} {a0 : Act} {N : Nat} {val : Nat → List Nat → Value} {adr : Nat → List Nat} {L : (Nat → Bool) → (Nat → Nat) → List Res} {i : Nat} {o : Oper}
theorem aoApp1 {s x : Operand} {t e : TypeId} {z : Value} {size bytes n : Nat} {v : (Nat → Nat) → Value} {gb : (Nat → Nat) → Nat} {xs ys : List Value} (j j2 : Nat) (li : (Nat → Nat) → List (Nat × Value)) (hfr : ∀ g a, AoKn ops a0 N val adr i g a → FrIs a (li g)) (T : SlTy P t e z size bytes)
 (hj : ∀ b g, AoB ops i b → (L b g)[j]? = some (.row (v g) e size n xs)) (hj2 : ∀ b g, AoB ops i b → (L b g)[j2]? = some (.arr (gb g) e ys)) (hw : ∀ g X, Region.wanted o (yielded ops (lit N X (li g)).tmps) = true)
 (ho : o.op = .call { callee := .builtin .append, args := #[s, x], argTypes := #[t, t] }) (hs : ∀ g X, (lit N X (li g)).eval s = v g) (hx : ∀ g X, (lit N X (li g)).eval x = .slice (some ⟨gb g, 0, none⟩) 1 1) (hl : ys.length = size) (hu : (ys.all fun u => u.oneCell') = true)
 (hn : n + 1 ≤ 70368744177664) (hby : (n + 1) * bytes ≤ 140737488355328)
 (hL : ∀ b g γ, AoB ops i b → L (upd b i true) (upd g i γ) = (L b g).set j (.row (.slice (rA γ) (n + 1) (rC γ)) e size (n + 1) (xs ++ ys)))
 (hv : ∀ γ, val i [γ] = .slice (rA γ) (n + 1) (rC γ)) (ha : adr i = [i]) : AoStep P ops Q w0 a0 N val adr L i o := by
 intro b g a w hb hp hp2 hk hm
 obtain ⟨X, rfl⟩ := frLit (⟨hk.size, hk.defers, hfr g a hk⟩ : Fr a N (li g))
 have hj' := hj b g ⟨hb, hp, hp2⟩
 refine appNB s x T (hw g X) ho (hs g X) (hx g X) (hm.row j hj') (hm.arr j2 (hj2 b g ⟨hb, hp, hp2⟩)) hl hm.bel (Nat.le_refl _) (fun u h => List.all_eq_true.1 hu u h) hn hby fun v' w' h1 _ h3 h4 => ?_
 obtain ⟨k, rfl⟩ := own_code h1
 refine ⟨k, ?_, ?_⟩
 ·rw [ha]; simp [upd, hv]
 ·rw [hL b g _ ⟨hb, hp, hp2⟩]; exact hm.app j hj' h1 h3 h4
end
end Go.Proofs.YtbpihalphhoiaaaGreatDoor
namespace Go.Proofs.YtbpihalphhoiaaaGreatDoor
def Pt.mul (p : Pt) (n : Int) : Pt := ⟨n * p.x, n * p.y, n * p.z⟩
def cubeB (n : Int) : Bx := ⟨p0, ⟨n, n, n⟩⟩
def Bx.shift (b : Bx) (p : Pt) : Bx := ⟨b.mn.add p, b.mx.add p⟩
structure Tl where
 lv : Int
 p : Pt
deriving DecidableEq
structure Qd where
 p : Pt
 ax : Int
 up : Bool
 sz : Int
deriving DecidableEq
structure Hf where
 p : Pt
 nx : Int
 tw : Int
 fc : Int
deriving DecidableEq
def tlP (k : Nat) : Pt := ⟨((4 * (k % 2) : Nat) : Int), ((4 * (k / 2 % 2) : Nat) : Int), ((4 * (k / 4 % 2) : Nat) : Int)⟩
def tlK (k : Nat) : Tl := ⟨0, tlP k⟩
def planL (n : Nat) : List Tl := (List.range n).map tlK
def sideN (n : Nat) : Int := if n = 1 then 4 else 8
def inC (s : Int) (p : Pt) : Prop := (0 ≤ p.x ∧ p.x < s) ∧ (0 ≤ p.y ∧ p.y < s) ∧ (0 ≤ p.z ∧ p.z < s)
instance (s : Int) (p : Pt) : Decidable (inC s p) := by unfold inC; infer_instance
def brk (i : Nat) : Pt := ⟨((i % 4 : Nat) : Int), ((i / 4 % 4 : Nat) : Int), ((i / 16 : Nat) : Int)⟩
def posP (k i : Nat) : Pt := (tlP k).add (brk i)
def tNo (p : Pt) : Nat := (p.x / 4 + 2 * (p.y / 4) + 4 * (p.z / 4)).toNat
def bNo (p : Pt) : Nat := (p.x % 4 + 4 * (p.y % 4) + 16 * (p.z % 4)).toNat
def cellF (ls : List (List Int)) (p : Pt) : Int := (ls.getD (tNo p) []).getD (bNo p) 0
def solF (ls : List (List Int)) (T : List Mat) (n : Nat) (p : Pt) : Bool := decide (inC (sideN n) p) && (matAt T (cellF ls p)).solid
structure Dr where
 ax : Int
 up : Bool
 st : Pt
deriving DecidableEq
def drL : List Dr := [⟨0, false, ⟨-1, 0, 0⟩⟩, ⟨0, true, ⟨1, 0, 0⟩⟩, ⟨1, false, ⟨0, -1, 0⟩⟩, ⟨1, true, ⟨0, 1, 0⟩⟩, ⟨2, false, ⟨0, 0, -1⟩⟩, ⟨2, true, ⟨0, 0, 1⟩⟩]
def quadD (f : Pt → Bool) (p : Pt) (d : Dr) : List Qd := if f p = true ∧ f (p.add d.st) = false then [⟨if d.up then p.add d.st else p, d.ax, d.up, 1⟩] else []
def quadI (f : Pt → Bool) (p : Pt) : List Qd := drL.flatMap (quadD f p)
def quadK (f : Pt → Bool) (k : Nat) : List Qd := (List.range 64).flatMap fun i => quadI f (posP k i)
def quadsU (f : Pt → Bool) (n : Nat) : List Qd := (List.range n).flatMap (quadK f)
def cmpI (a b : Int) : Int := if a < b then -1 else if b < a then 1 else 0
def orI : List Int → Int
 | [] => 0
 | x :: l => if x = 0 then orI l else x
def cmpQ (a b : Qd) : Int := orI [cmpI a.ax b.ax, cmpI a.p.z b.p.z, cmpI a.p.y b.p.y, cmpI a.p.x b.p.x]
theorem sideN_or (n : Nat) (h : n = 1 ∨ n = 8) : sideN n = 4 ∨ sideN n = 8 := by rcases h with rfl | rfl <;> simp [sideN]
theorem tlP_bd (k : Nat) : (0 ≤ (tlP k).x ∧ (tlP k).x ≤ 4) ∧ (0 ≤ (tlP k).y ∧ (tlP k).y ≤ 4) ∧ (0 ≤ (tlP k).z ∧ (tlP k).z ≤ 4) := by unfold tlP; simp only; omega
theorem brk_bd {i : Nat} (h : i < 64) : (0 ≤ (brk i).x ∧ (brk i).x ≤ 3) ∧ (0 ≤ (brk i).y ∧ (brk i).y ≤ 3) ∧ (0 ≤ (brk i).z ∧ (brk i).z ≤ 3) := by unfold brk; simp only; omega
theorem posP_in {n k i : Nat} (hn : n = 1 ∨ n = 8) (hk : k < n) (hi : i < 64) : inC (sideN n) (posP k i) := by
 have h2 := brk_bd hi
 unfold inC posP Pt.add tlP
 simp only
 rcases hn with rfl | rfl
 ·obtain rfl : k = 0 := by omega
  simp [sideN]
  omega
 ·simp only [sideN]
  simp only [show ¬ (8 : Nat) = 1 by omega, if_false]
  omega
theorem tNo_pos {k i : Nat} (hk : k < 8) (hi : i < 64) : tNo (posP k i) = k ∧ bNo (posP k i) = i := by
 unfold tNo bNo posP Pt.add tlP brk
 simp only
 omega
theorem posP_no {n : Nat} {p : Pt} (hn : n = 1 ∨ n = 8) (h : inC (sideN n) p) : tNo p < n ∧ bNo p < 64 ∧ posP (tNo p) (bNo p) = p := by
 unfold inC at h
 have hs : sideN n = 4 ∧ n = 1 ∨ sideN n = 8 ∧ n = 8 := by rcases hn with rfl | rfl <;> simp [sideN]
 obtain ⟨x, y, z⟩ := p
 unfold tNo bNo posP Pt.add tlP brk
 simp only [Pt.mk.injEq] at *
 omega
theorem planL_get {n k : Nat} (h : k < n) : (planL n)[k]? = some (tlK k) := by
 unfold planL
 rw [List.getElem?_map, List.getElem?_range h]; rfl
theorem flat_succ {β : Type} (f : Nat → List β) (k : Nat) : (List.range (k + 1)).flatMap f = (List.range k).flatMap f ++ f k := by
 rw [List.range_succ, List.flatMap_append]; simp
def Bx.cell (b : Bx) (i : Int) : Pt := ⟨b.mn.x + i % b.size.x, b.mn.y + i / b.size.x % b.size.y, b.mn.z + i / b.size.x / b.size.y⟩
theorem vol_pos {b : Bx} (h : b.rng) {i : Int} (h0 : 0 ≤ i) (h1 : i < b.vol) : 1 ≤ b.size.x ∧ 1 ≤ b.size.y ∧ 1 ≤ b.size.z := by
 have hs := size_bd h
 unfold Bx.vol at h1
 generalize b.size.x = x at *
 generalize b.size.y = y at *
 generalize b.size.z = z at *
 have hx : x ≠ 0 := fun e => by subst e; simp at h1; omega
 have hy : y ≠ 0 := fun e => by subst e; simp at h1; omega
 have hz : z ≠ 0 := fun e => by subst e; simp at h1; omega
 omega
theorem cell_bd {b : Bx} (h : b.rng) {i : Int} (h0 : 0 ≤ i) (h1 : i < b.vol) : (0 ≤ i % b.size.x ∧ i % b.size.x < b.size.x) ∧ (0 ≤ i / b.size.x % b.size.y ∧ i / b.size.x % b.size.y < b.size.y) ∧ (0 ≤ i / b.size.x / b.size.y ∧ i / b.size.x / b.size.y < b.size.z) ∧ (0 ≤ i / b.size.x ∧ i / b.size.x ≤ i) := by
 obtain ⟨hx, hy, hz⟩ := vol_pos h h0 h1
 unfold Bx.vol at h1
 generalize b.size.x = x at *
 generalize b.size.y = y at *
 generalize b.size.z = z at *
 have e1 : i / x / y < z := by
  rw [Int.ediv_ediv_of_nonneg (by omega)]
  refine Int.ediv_lt_of_lt_mul (Int.mul_pos (by omega) (by omega)) ?_
  rw [Int.mul_comm]; exact h1
 have e2 : 0 ≤ i / x := Int.ediv_nonneg h0 (by omega)
 exact ⟨⟨Int.emod_nonneg _ (by omega), Int.emod_lt_of_pos _ (by omega)⟩, ⟨Int.emod_nonneg _ (by omega), Int.emod_lt_of_pos _ (by omega)⟩, ⟨Int.ediv_nonneg e2 (by omega), e1⟩, e2, Int.ediv_le_self _ h0⟩
theorem cube4 : (cubeB 4).rng ∧ (cubeB 4).vol = 64 ∧ (cubeB 4).size = ⟨4, 4, 4⟩ := by decide
theorem cube4_cell {i : Nat} (h : i < 64) : (cubeB 4).cell (i : Int) = brk i := by
 unfold Bx.cell brk
 rw [cube4.2.2]
 show Pt.mk (0 + (i : Int) % 4) (0 + (i : Int) / 4 % 4) (0 + (i : Int) / 4 / 4) = _
 simp only [Pt.mk.injEq]
 omega
theorem posE (k i : Nat) : (tlP k).add ((brk i).mul 1) = posP k i := by unfold posP Pt.mul; simp only [Int.one_mul]
theorem cmpI_lt {a b : Int} : cmpI a b < 0 ↔ a < b := by unfold cmpI; split <;> (try split) <;> omega
theorem cmpI_eq {a b : Int} : cmpI a b = 0 ↔ a = b := by unfold cmpI; split <;> (try split) <;> omega
theorem enc_tlP {k : Nat} (h : k < 8) : mEnc (tlP k) = 64 * (k : Int) := by
 rcases (by omega : k = 0 ∨ k = 1 ∨ k = 2 ∨ k = 3 ∨ k = 4 ∨ k = 5 ∨ k = 6 ∨ k = 7) with rfl | rfl | rfl | rfl | rfl | rfl | rfl | rfl <;> decide
def bsN (n : Nat) (c : Int) : Nat := min n ((c + 63) / 64).toNat
theorem bsN_eq {n i : Nat} {c : Int} (hc : 0 ≤ c) (hi : i ≤ n) (hlo : i = 0 ∨ 64 * ((i : Int) - 1) < c) (hhi : i = n ∨ c ≤ 64 * (i : Int)) : i = bsN n c := by unfold bsN; omega
def findN (n : Nat) (p : Pt) : Int := if inC (sideN n) p then (tNo p : Int) else -1
theorem enc12 (l x y z : Nat) : encL (l + 2) x y z = 64 * encL l (x / 4) (y / 4) (z / 4) + encL 2 x y z := by
 have e : ∀ a : Nat, a / 2 / 2 = a / 4 := fun a => by omega
 simp only [encL, e]
 omega
theorem enc_small (l : Nat) {x y z : Nat} (hx : x < 2) (hy : y < 2) (hz : z < 2) : encL (l + 1) x y z = x + 2 * y + 4 * z := by
 have h0 : ∀ l, encL l 0 0 0 = 0 := fun l => by
  induction l with
  | zero => rfl
  | succ l ih => simp [encL, ih]
 show 8 * encL l (x / 2) (y / 2) (z / 2) + (x % 2 + 2 * (y % 2) + 4 * (z % 2)) = _
 rw [show x / 2 = 0 by omega, show y / 2 = 0 by omega, show z / 2 = 0 by omega, h0]
 omega
theorem enc_in {n : Nat} {p : Pt} (hn : n = 1 ∨ n = 8) (h : inC (sideN n) p) : p.In ∧ 64 * (tNo p : Int) ≤ mEnc p ∧ mEnc p < 64 * (tNo p : Int) + 64 := by
 have hs := sideN_or n hn
 unfold inC at h
 have hin : p.In := by unfold Pt.In; omega
 refine ⟨hin, ?_⟩
 unfold mEnc tNo
 rw [if_pos hin, show (14 : Nat) = 12 + 2 by rfl, enc12, show (12 : Nat) = 11 + 1 by rfl, enc_small 11 (x := p.x.toNat / 4) (y := p.y.toNat / 4) (z := p.z.toNat / 4) (by omega) (by omega) (by omega)]
 have := encL_lt 2 p.x.toNat p.y.toNat p.z.toNat
 omega
theorem mEnc_neg {p : Pt} (h : mEnc p < 0) : ¬ p.In := fun hin => by unfold mEnc at h; rw [if_pos hin] at h; omega
theorem find_eq {n : Nat} (hn : n = 1 ∨ n = 8) {p : Pt} {k : Nat} (hk : k < n) (hlo : 64 * (k : Int) ≤ mEnc p) (hhi : k + 1 = n ∨ mEnc p < 64 * ((k : Int) + 1)) : (if ((cubeB 4).shift (tlP k)).has p then (k : Int) else -1) = findN n p := by
 have hb : ((cubeB 4).shift (tlP k)).has p ↔ ((tlP k).x ≤ p.x ∧ p.x < (tlP k).x + 4) ∧ ((tlP k).y ≤ p.y ∧ p.y < (tlP k).y + 4) ∧ ((tlP k).z ≤ p.z ∧ p.z < (tlP k).z + 4) := by
  unfold Bx.shift Bx.has cubeB p0 Pt.add
  simp only
  omega
 have hs : sideN n = 4 ∧ n = 1 ∨ sideN n = 8 ∧ n = 8 := by rcases hn with rfl | rfl <;> simp [sideN]
 unfold findN
 by_cases hin : inC (sideN n) p
 ·obtain ⟨_, h2, h3⟩ := enc_in hn hin
  have ht := (posP_no hn hin).1
  have hkt : k = tNo p := by omega
  rw [if_pos hin, if_pos]
  ·rw [hkt]
  ·rw [hb, hkt]
   unfold inC at hin
   unfold tNo tlP
   simp only
   omega
 ·rw [if_neg hin, if_neg]
  rw [hb]
  intro h
  apply hin
  unfold inC
  unfold tlP at h
  simp only at h
  omega
end Go.Proofs.YtbpihalphhoiaaaGreatDoor
namespace Go.Proofs.YtbpihalphhoiaaaGreatDoor
open Go.RowKit
def tlc (t : Tl) : List Value := .int .i64 t.lv :: pcs t.p
def tlsC (l : List Tl) : List Value := l.flatMap tlc
def qdc (q : Qd) : List Value := pcs q.p ++ [.int .i64 q.ax, .bool q.up, .int .i64 q.sz]
def qdsC (l : List Qd) : List Value := l.flatMap qdc
def hfc (h : Hf) : List Value := pcs h.p ++ [.int .i64 h.nx, .int .i64 h.tw, .int .i64 h.fc]
def hfsC (l : List Hf) : List Value := l.flatMap hfc
def drc (d : Dr) : List Value := [.int .i64 d.ax, .bool d.up] ++ pcs d.st
def drsC (l : List Dr) : List Value := l.flatMap drc
def bxsC (l : List Bx) : List Value := l.flatMap bxs
structure Sl3 where
 A : Option Addr
 c : Nat
 l : List Int
def slV (x : Sl3) : Value := .slice x.A 64 x.c
def slsC (l : List Sl3) : List Value := l.map slV
theorem flatG {α : Type} (f : α → List Value) (s : Nat) (hs : ∀ x, (f x).length = s) {x : α} : ∀ {l : List α} {k : Nat}, l[k]? = some x → ∀ (i : Nat) (u : Value), (f x)[i]? = some u → (l.flatMap f)[k * s + i]? = some u
 | [], k, h, _, _, _ => by simp at h
 | q :: l, 0, h, i, u, hu => by
  simp at h; subst h
  have hi := (List.getElem?_eq_some_iff.1 hu).1
  show (f q ++ l.flatMap f)[_]? = _
  rw [Nat.zero_mul, Nat.zero_add, List.getElem?_append_left hi]
  exact hu
 | q :: l, k + 1, h, i, u, hu => by
  show (f q ++ l.flatMap f)[_]? = _
  have e : (k + 1) * s + i - (f q).length = k * s + i := by rw [hs, Nat.add_mul]; omega
  rw [List.getElem?_append_right (by rw [hs, Nat.add_mul]; omega), e]
  exact flatG f s hs (l := l) (by simpa using h) i u hu
theorem flatLen {α : Type} (f : α → List Value) (s : Nat) (hs : ∀ x, (f x).length = s) : ∀ (l : List α), (l.flatMap f).length = l.length * s
 | [] => by simp
 | q :: l => by rw [List.flatMap_cons, List.length_append, hs, flatLen f s hs l, List.length_cons, Nat.add_mul]; omega
theorem tlsC_get {l : List Tl} {k : Nat} {t : Tl} (h : l[k]? = some t) : ∀ (i : Nat) (u : Value), (tlc t)[i]? = some u → (tlsC l)[k * 4 + i]? = some u := flatG tlc 4 (fun _ => rfl) h
theorem qdsC_get {l : List Qd} {k : Nat} {t : Qd} (h : l[k]? = some t) : ∀ (i : Nat) (u : Value), (qdc t)[i]? = some u → (qdsC l)[k * 6 + i]? = some u := flatG qdc 6 (fun _ => rfl) h
theorem hfsC_get {l : List Hf} {k : Nat} {t : Hf} (h : l[k]? = some t) : ∀ (i : Nat) (u : Value), (hfc t)[i]? = some u → (hfsC l)[k * 6 + i]? = some u := flatG hfc 6 (fun _ => rfl) h
theorem bxsC_get {l : List Bx} {k : Nat} {t : Bx} (h : l[k]? = some t) : ∀ (i : Nat) (u : Value), (bxs t)[i]? = some u → (bxsC l)[k * 6 + i]? = some u := flatG bxs 6 (fun _ => rfl) h
theorem slsC_get {l : List Sl3} {k : Nat} {t : Sl3} (h : l[k]? = some t) : (slsC l)[k * 1]? = some (slV t) := by rw [Nat.mul_one]; unfold slsC; rw [List.getElem?_map, h]; rfl
theorem qdsC_app (l m : List Qd) : qdsC (l ++ m) = qdsC l ++ qdsC m := List.flatMap_append
theorem hfsC_app (l m : List Hf) : hfsC (l ++ m) = hfsC l ++ hfsC m := List.flatMap_append
theorem tlsC_app (l m : List Tl) : tlsC (l ++ m) = tlsC l ++ tlsC m := List.flatMap_append
theorem bxsC_app (l m : List Bx) : bxsC (l ++ m) = bxsC l ++ bxsC m := List.flatMap_append
def CellsIn (w : World) (A : Option Addr) (c : Nat) (cs : List Sl3) : Prop :=
 Rd w w.heap.size 1 A cs.length c (slsC cs) ∧ ∀ x ∈ cs, x.l.length = 64 ∧ Rd w w.heap.size 1 x.A 64 x.c (ics x.l)
theorem CellsIn.below {w w' : World} {A : Option Addr} {c : Nat} {cs : List Sl3} (h : CellsIn w A c cs) (b : Below w.heap.size w w') : CellsIn w' A c cs :=
 ⟨(Rd.below h.1 b).more b.size, fun x hx => ⟨(h.2 x hx).1, (Rd.below (h.2 x hx).2 b).more b.size⟩⟩
def lsOf (cs : List Sl3) : List (List Int) := cs.map (·.l)
theorem cellF_get {cs : List Sl3} {p : Pt} {x : Sl3} (h : cs[tNo p]? = some x) : cellF (lsOf cs) p = x.l.getD (bNo p) 0 := by
 unfold cellF lsOf
 have e : (cs.map (·.l)).getD (tNo p) [] = x.l := by rw [List.getD_eq_getElem?_getD, List.getElem?_map, h]; rfl
 rw [e]
section
variable {P : Program} {w : World} {o : Oper} {a : Act} {t ty : TypeId}
theorem gQuo {A B C : Int} (x y : Operand) (ho : o.op = .binOp .quo t x y ty) (hx : a.eval x = .int .i64 A) (hy : a.eval y = .int .i64 B) (hC : A / B = C) (hB : 1 ≤ B) (hA : 0 ≤ A ∧ A ≤ 9223372036854775807) : (execOp a.eval o).run P w = .ok (.value (.int .i64 C)) w := by
 have h0 : ¬ B = 0 := by omega
 have h1 : A.tdiv B = A / B := Int.tdiv_eq_ediv_of_nonneg hA.1
 have h2 : A / B ≤ A := Int.ediv_le_self _ hA.1
 have h3 : 0 ≤ A / B := Int.ediv_nonneg hA.1 (by omega)
 have hw := IntWalk.i64_in C (by omega)
 unfold execOp
 simp [ho, hx, hy, eqGuard, binOp_quo, Op.intDiv, h0, h1, hC, hw]
theorem gRem {A B C : Int} (x y : Operand) (ho : o.op = .binOp .rem t x y ty) (hx : a.eval x = .int .i64 A) (hy : a.eval y = .int .i64 B) (hC : A % B = C) (hB : 1 ≤ B) (hA : 0 ≤ A) : (execOp a.eval o).run P w = .ok (.value (.int .i64 C)) w := remRun x y ho hx hy hA hB hC
theorem gConvU {src dst : TypeId} {A : Int} (x : Operand) (hs : (P.underlying src).isSome = true) (hd : P.underlying dst = some (.int .u64)) (ho : o.op = .convert src dst x) (hx : a.eval x = .int .i64 A) (h : 0 ≤ A) (h2 : A ≤ 9223372036854775807) : (execOp a.eval o).run P w = .ok (.value (.int .u64 A)) w := by
 have hk : P.intKind dst = .u64 := by simp [Program.intKind, hd]
 have hr := run_convert_int (P := P) w src dst .i64 A hs (by rw [hk]; exact hd)
 rw [hk] at hr
 have hw : IntKind.u64.wrap A = A := by
  simp [IntKind.wrap, IntKind.bits, IntKind.signed]
  omega
 rw [hw] at hr
 unfold execOp
 simp only [ho, hx, Sem.run_bind, Sem.run_pure, hr, Result.andThen_ok]
theorem gConvI {src dst : TypeId} {A : Int} (x : Operand) (hs : (P.underlying src).isSome = true) (hd : P.underlying dst = some (.int .i64)) (ho : o.op = .convert src dst x) (hx : a.eval x = .int .u64 A) (h : 0 ≤ A) (h2 : A ≤ 9223372036854775807) : (execOp a.eval o).run P w = .ok (.value (.int .i64 A)) w := by
 have hk : P.intKind dst = .i64 := by simp [Program.intKind, hd]
 have hr := run_convert_int (P := P) w src dst .u64 A hs (by rw [hk]; exact hd)
 rw [hk] at hr
 have hw : IntKind.i64.wrap A = A := IntWalk.i64_in A (by omega)
 rw [hw] at hr
 unfold execOp
 simp only [ho, hx, Sem.run_bind, Sem.run_pure, hr, Result.andThen_ok]
theorem gShrU1 {n : Nat} (x y : Operand) (ho : o.op = .binOp .shr t x y ty) (hx : a.eval x = .int .u64 (n : Int)) (hy : a.eval y = .int .u64 1) : (execOp a.eval o).run P w = .ok (.value (.int .u64 ((n / 2 : Nat) : Int))) w := by
 have hs : (Op.shift .shr .u64 (n : Int) .u64 ((1 : Nat) : Int)).run P w = .ok (.int .u64 ((n / 2 : Nat) : Int)) w := by
  rw [shift_shr _ _ _ _ (by decide) (by decide)]
  rfl
 unfold execOp
 simp [ho, hx, hy, eqGuard, binOp_shr]
 exact (congrArg (fun r => Result.andThen r _) hs).trans rfl
theorem gShr0 {A : Int} (x y : Operand) (ho : o.op = .binOp .shr t x y ty) (hx : a.eval x = .int .i64 A) (hy : a.eval y = .int .i64 0) : (execOp a.eval o).run P w = .ok (.value (.int .i64 A)) w := by
 have h := shrRun (P := P) (w := w) (n := 0) x y ho hx hy (by omega)
 simpa using h
end
theorem add_any (p q : Pt) (hx : -9223372036854775808 ≤ p.x + q.x ∧ p.x + q.x ≤ 9223372036854775807) (hy : -9223372036854775808 ≤ p.y + q.y ∧ p.y + q.y ≤ 9223372036854775807) (hz : -9223372036854775808 ≤ p.z + q.z ∧ p.z + q.z ≤ 9223372036854775807) (w : World) : Calls Tryz.prog 27 #[.agg (pcs p).toArray, .agg (pcs q).toArray] w (RetV w (.agg (pcs (p.add q)).toArray)) := by
 have hm0 := Mem.nil w
 go_enter Tryz.func27, Tryz.ntmps27
 refine litStart 21 [(0, .agg (pcs p).toArray), (1, .agg (pcs q).toArray)] kr_ (fun X0 => ?_)
 refine sp_ fun _ hK1 => ?_
 refine plBox hm0 (cs := pcs p) (i := 0) rfl (wn rfl) rfl le_ ?_
 intro g2 w4 hm3
 clear hm0
 try simp only [lc_] at hm3
 refine qP rfl ?_
 refine plBox hm3 (cs := pcs q) (i := 1) rfl (wn rfl) rfl le_ ?_
 intro g5 w7 hm6
 clear hm3
 try simp only [lc_] at hm6
 refine qP rfl ?_
 refine plAlloc (z := [.int .i64 0, .int .i64 0, .int .i64 0]) Ty.ag_voxel_api_Point hm6 (i := 2) rfl (wn rfl) rfl ?_
 intro g8 w10 hm9
 clear hm6
 try simp only [lc_] at hm9
 refine qP rfl ?_
 refine pt_ hK1 ?_
 refine sp_ fun _ hK11 => ?_
 refine lp_ g2 0 ?_
 refine lv_ rfl (.int .i64 p.x) (ld_ 0 0 hm9) ?_
 refine lp_ g5 0 ?_
 refine lv_ rfl (.int .i64 q.x) (ld_ 0 1 hm9) ?_
 refine lv_ rfl _ (ad_ p.x q.x) ?_
 refine lp_ g2 1 ?_
 refine lv_ rfl (.int .i64 p.y) (ld_ 1 0 hm9) ?_
 refine lp_ g5 1 ?_
 refine lv_ rfl (.int .i64 q.y) (ld_ 1 1 hm9) ?_
 refine lv_ rfl _ (ad_ p.y q.y) ?_
 refine lp_ g2 2 ?_
 refine lv_ rfl (.int .i64 p.z) (ld_ 2 0 hm9) ?_
 refine lp_ g5 2 ?_
 refine lv_ rfl (.int .i64 q.z) (ld_ 2 1 hm9) ?_
 refine lv_ rfl _ (ad_ p.z q.z) ?_
 refine lk_ (.agg (pcs ⟨p.x + q.x, p.y + q.y, p.z + q.z⟩).toArray) ?_
 refine plStore 2 Ty.ag_voxel_api_Point hm9 rfl (i := 16) (cs := pcs ⟨p.x + q.x, p.y + q.y, p.z + q.z⟩) rfl (wn rfl) rfl le_ le_ rfl rfl kr_ ?_
 intro w13 hm12
 clear hm9
 try simp only [lc_] at hm12
 refine qNone rfl ?_
 refine pt_ hK11 ?_
 refine wpPrune [(4, .pointer (some ⟨g8, 0, none⟩))] fo_ (fun X14 => ?_)
 refine wp_ret ?_
 refine bodyPost_ret (v := .agg (pcs ⟨p.x + q.x, p.y + q.y, p.z + q.z⟩).toArray) (gRes1 rfl (gResAg (cs := pcs ⟨p.x + q.x, p.y + q.y, p.z + q.z⟩) 2 hm12 rfl Ty.ag_voxel_api_Point rfl (lg_))) rfl ?_
 exact ⟨by rfl, hm12.bel⟩
theorem scale_any (p : Pt) (n : Int) (hx : -9223372036854775808 ≤ n * p.x ∧ n * p.x ≤ 9223372036854775807) (hy : -9223372036854775808 ≤ n * p.y ∧ n * p.y ≤ 9223372036854775807) (hz : -9223372036854775808 ≤ n * p.z ∧ n * p.z ≤ 9223372036854775807) (w : World) : Calls Tryz.prog 52 #[.agg (pcs p).toArray, .int .i64 n] w (RetV w (.agg (pcs (p.mul n)).toArray)) := by
 have hm0 := Mem.nil w
 go_enter Tryz.func52, Tryz.ntmps52
 refine litStart 18 [(0, .agg (pcs p).toArray), (1, .int .i64 n)] kr_ (fun X0 => ?_)
 refine sp_ fun _ hK1 => ?_
 refine plBox hm0 (cs := pcs p) (i := 0) rfl (wn rfl) rfl le_ ?_
 intro g2 w4 hm3
 clear hm0
 try simp only [lc_] at hm3
 refine qP rfl ?_
 refine plAlloc (z := [.int .i64 0, .int .i64 0, .int .i64 0]) Ty.ag_voxel_api_Point hm3 (i := 1) rfl (wn rfl) rfl ?_
 intro g5 w7 hm6
 clear hm3
 try simp only [lc_] at hm6
 refine qP rfl ?_
 refine pt_ hK1 ?_
 refine sp_ fun _ hK8 => ?_
 refine li_ n ?_
 refine lp_ g2 0 ?_
 refine lv_ rfl (.int .i64 p.x) (ld_ 0 0 hm6) ?_
 refine lv_ rfl (.int .i64 (n * p.x)) (mulRun' (A := n) (B := p.x) (C := n * p.x) (.tmp 5) (.tmp 7) rfl le_ le_ rfl (by omega)) ?_
 refine li_ n ?_
 refine lp_ g2 1 ?_
 refine lv_ rfl (.int .i64 p.y) (ld_ 1 0 hm6) ?_
 refine lv_ rfl (.int .i64 (n * p.y)) (mulRun' (A := n) (B := p.y) (C := n * p.y) (.tmp 9) (.tmp 11) rfl le_ le_ rfl (by omega)) ?_
 refine li_ n ?_
 refine lp_ g2 2 ?_
 refine lv_ rfl (.int .i64 p.z) (ld_ 2 0 hm6) ?_
 refine lv_ rfl (.int .i64 (n * p.z)) (mulRun' (A := n) (B := p.z) (C := n * p.z) (.tmp 13) (.tmp 15) rfl le_ le_ rfl (by omega)) ?_
 refine lk_ (.agg (pcs ⟨n * p.x, n * p.y, n * p.z⟩).toArray) ?_
 refine plStore 1 Ty.ag_voxel_api_Point hm6 rfl (i := 13) (cs := pcs ⟨n * p.x, n * p.y, n * p.z⟩) rfl (wn rfl) rfl le_ le_ rfl rfl kr_ ?_
 intro w10 hm9
 clear hm6
 try simp only [lc_] at hm9
 refine qNone rfl ?_
 refine pt_ hK8 ?_
 refine wpPrune [(4, .pointer (some ⟨g5, 0, none⟩))] fo_ (fun X11 => ?_)
 refine wp_ret ?_
 refine bodyPost_ret (v := .agg (pcs ⟨n * p.x, n * p.y, n * p.z⟩).toArray) (gRes1 rfl (gResAg (cs := pcs ⟨n * p.x, n * p.y, n * p.z⟩) 1 hm9 rfl Ty.ag_voxel_api_Point rfl (lg_))) rfl ?_
 exact ⟨by rfl, hm9.bel⟩
theorem psub_any (p q : Pt) (hp : (-1073741824 ≤ p.x ∧ p.x ≤ 1073741824) ∧ (-1073741824 ≤ p.y ∧ p.y ≤ 1073741824) ∧ (-1073741824 ≤ p.z ∧ p.z ≤ 1073741824)) (hq : (-1073741824 ≤ q.x ∧ q.x ≤ 1073741824) ∧ (-1073741824 ≤ q.y ∧ q.y ≤ 1073741824) ∧ (-1073741824 ≤ q.z ∧ q.z ≤ 1073741824)) (w : World) : Calls Tryz.prog 76 #[.agg (pcs p).toArray, .agg (pcs q).toArray] w (RetV w (.agg (pcs (p.sub q)).toArray)) := by
 have subE_ : p.add (q.mul (-1)) = p.sub q := by unfold Pt.add Pt.mul Pt.sub; simp only [Pt.mk.injEq]; omega
 have hm0 := Mem.nil w
 go_enter Tryz.func76, Tryz.ntmps76
 refine litStart 9 [(0, .agg (pcs p).toArray), (1, .agg (pcs q).toArray)] kr_ (fun X0 => ?_)
 refine sp_ fun _ hK1 => ?_
 refine plBox hm0 (cs := pcs p) (i := 0) rfl (wn rfl) rfl le_ ?_
 intro g2 w4 hm3
 clear hm0
 try simp only [lc_] at hm3
 refine qP rfl ?_
 refine plBox hm3 (cs := pcs q) (i := 1) rfl (wn rfl) rfl le_ ?_
 intro g5 w7 hm6
 clear hm3
 try simp only [lc_] at hm6
 refine qP rfl ?_
 refine plAlloc (z := [.int .i64 0, .int .i64 0, .int .i64 0]) Ty.ag_voxel_api_Point hm6 (i := 2) rfl (wn rfl) rfl ?_
 intro g8 w10 hm9
 clear hm6
 try simp only [lc_] at hm9
 refine qP rfl ?_
 refine pt_ hK1 ?_
 refine sk_ fun _ hK11 => ?_
 refine aoStart (aoV [fun _ => .agg (pcs p).toArray, fun _ => .agg (pcs q).toArray, fun _ => .agg (pcs (q.mul (-1))).toArray, fun _ => .agg (pcs (p.add (q.mul (-1)))).toArray, fun _ => undef]) (aoA [[], [], [], [], []]) (fun b_ g_ => ((.arr g2 23 (pcs p)) :: (.arr g5 23 (pcs q)) :: (.arr g8 23 (bsel (b_ 4) [.int .i64 ((p.add (q.mul (-1))).x), .int .i64 ((p.add (q.mul (-1))).y), .int .i64 ((p.add (q.mul (-1))).z)] [.int .i64 0, .int .i64 0, .int .i64 0])) :: [])) hm9 kr_ kr_ (fun w_ h_ => h_) (fun b_ g_ h_ => by show (fun (x4_ : Bool) => (((.arr g2 23 (pcs p)) :: (.arr g5 23 (pcs q)) :: (.arr g8 23 (bsel x4_ [.int .i64 ((p.add (q.mul (-1))).x), .int .i64 ((p.add (q.mul (-1))).y), .int .i64 ((p.add (q.mul (-1))).z)] [.int .i64 0, .int .i64 0, .int .i64 0])) :: []) : List Res)) (b_ 4) = _; rw [h_ 4 (by decide)]) ?_ ?_
 ·refine aoNext rfl (aoV_ (fun b_ g_ X_ w_ h_b h_ => valTo (b := .agg (pcs p).toArray) kr_ ((fun (h_ : Mem _ w_ ((.arr g2 23 (pcs p)) :: (.arr g5 23 (pcs q)) :: (.arr g8 23 ([.int .i64 0, .int .i64 0, .int .i64 0])) :: [])) => gLoadAg (vs := pcs p) (k := 0) 0 h_ rfl kr_ kr_ (.tmp 2) Ty.ag_voxel_api_Point rfl le_) (by have h2_ : Mem w w_ ((.arr g2 23 (pcs p)) :: (.arr g5 23 (pcs q)) :: (.arr g8 23 (bsel (b_ 4) [.int .i64 ((p.add (q.mul (-1))).x), .int .i64 ((p.add (q.mul (-1))).y), .int .i64 ((p.add (q.mul (-1))).z)] [.int .i64 0, .int .i64 0, .int .i64 0])) :: []) := h_; rw [bselF (h_b.post 4 kr_)] at h2_; exact h2_)))) ?_
  refine aoNext rfl (aoV_ (fun b_ g_ X_ w_ h_b h_ => valTo (b := .agg (pcs q).toArray) kr_ ((fun (h_ : Mem _ w_ ((.arr g2 23 (pcs p)) :: (.arr g5 23 (pcs q)) :: (.arr g8 23 ([.int .i64 0, .int .i64 0, .int .i64 0])) :: [])) => gLoadAg (vs := pcs q) (k := 0) 1 h_ rfl kr_ kr_ (.tmp 3) Ty.ag_voxel_api_Point rfl le_) (by have h2_ : Mem w w_ ((.arr g2 23 (pcs p)) :: (.arr g5 23 (pcs q)) :: (.arr g8 23 (bsel (b_ 4) [.int .i64 ((p.add (q.mul (-1))).x), .int .i64 ((p.add (q.mul (-1))).y), .int .i64 ((p.add (q.mul (-1))).z)] [.int .i64 0, .int .i64 0, .int .i64 0])) :: []) := h_; rw [bselF (h_b.post 4 kr_)] at h2_; exact h2_)))) ?_
  refine aoNext rfl (aoC_ 52 (fun g_ => [.agg (pcs q).toArray, .int .i64 (-1)]) [] [] (fun b_ g_ w_ h_b h_ => (scale_any q (-1) (by omega) (by omega) (by omega) _).mono (fun _ _ h_r => ⟨h_r.1.trans kr_, h_r.2⟩))) ?_
  refine aoNext rfl (aoC_ 27 (fun g_ => [.agg (pcs p).toArray, .agg (pcs (q.mul (-1))).toArray]) [] [] (fun b_ g_ w_ h_b h_ => (add_any p (q.mul (-1)) (by show _ ≤ _ + (-1) * _ ∧ _ + (-1) * _ ≤ _; omega) (by show _ ≤ _ + (-1) * _ ∧ _ + (-1) * _ ≤ _; omega) (by show _ ≤ _ + (-1) * _ ∧ _ + (-1) * _ ≤ _; omega) _).mono (fun _ _ h_r => ⟨h_r.1.trans kr_, h_r.2⟩))) ?_
  refine aoNext rfl (aoStore (gb := fun g_ => g8) (k := 0) (cur := fun g_ => [.int .i64 0, .int .i64 0, .int .i64 0]) (vs := fun g_ => pcs (p.add (q.mul (-1)))) 2 (fun g_ => [(4, .pointer (some ⟨g8, 0, none⟩)), (8, .agg (pcs (p.add (q.mul (-1)))).toArray)]) (fun g_ a_ h_k => ⟨(h_k.out 4 kr_).trans (lg_), (h_k.inn 3 _ _ kr_ rfl rfl).trans kr_, trivial⟩) Ty.ag_voxel_api_Point (fun b_ g_ h_b => by show some (Res.arr g8 23 (bsel (b_ 4) [.int .i64 ((p.add (q.mul (-1))).x), .int .i64 ((p.add (q.mul (-1))).y), .int .i64 ((p.add (q.mul (-1))).z)] [.int .i64 0, .int .i64 0, .int .i64 0])) = some (Res.arr g8 23 ([.int .i64 0, .int .i64 0, .int .i64 0])); rw [bselF h_b.no]) (fun g_ X_ => (wn rfl)) rfl (fun g_ X_ => litEv kr_) (fun g_ X_ => litEv kr_) (fun _ => by kernel_rfl) (fun _ => by kernel_rfl) (fun _ => by kernel_rfl) (fun b_ g_ h_b => by kernel_rfl) rfl) ?_
  exact aoDone (by decide)
 intro g_ a_ w13 hF_ hm12
 obtain ⟨X14, rfl⟩ := frLit (⟨hF_.size, hF_.defers, ⟨hF_.o_ 4, hF_.i_ 0, hF_.i_ 1, hF_.i_ 2, hF_.i_ 3, trivial⟩⟩ : Fr _ 9 [(4, .pointer (some ⟨g8, 0, none⟩)), (5, .agg (pcs p).toArray), (6, .agg (pcs q).toArray), (7, .agg (pcs (q.mul (-1))).toArray), (8, .agg (pcs (p.add (q.mul (-1)))).toArray)])
 clear hF_
 have hm15 : Mem w w13 [.arr g2 23 (pcs p), .arr g5 23 (pcs q), .arr g8 23 (pcs (p.add (q.mul (-1))))] := hm12
 clear hm12 hm9
 refine tn_ hK11 ?_
 refine wp_ret ?_
 refine bodyPost_ret (v := .agg (pcs (p.add (q.mul (-1)))).toArray) (gRes1 rfl (gResAg (cs := pcs (p.add (q.mul (-1)))) 2 hm15 rfl Ty.ag_voxel_api_Point rfl (lg_))) rfl ?_
 exact ⟨by show _ = Ending.returned (.agg (pcs (p.sub q)).toArray); rw [← subE_], hm15.bel⟩
theorem pin_any (p : Pt) (b : Bx) (w : World) : Calls Tryz.prog 75 #[.agg (pcs p).toArray, .agg (bxs b).toArray] w (RetV w (.bool (decide (b.has p)))) := by
 have hm0 := Mem.nil w
 go_enter Tryz.func75, Tryz.ntmps75
 refine litStart 51 [(0, .agg (pcs p).toArray), (1, .agg (bxs b).toArray)] kr_ (fun X0 => ?_)
 refine sp_ fun _ hK1 => ?_
 refine plBox hm0 (cs := pcs p) (i := 0) rfl (wn rfl) rfl le_ ?_
 intro g2 w4 hm3
 clear hm0
 try simp only [lc_] at hm3
 refine qP rfl ?_
 refine plBox hm3 (cs := bxs b) (i := 1) rfl (wn rfl) rfl le_ ?_
 intro g5 w7 hm6
 clear hm3
 try simp only [lc_] at hm6
 refine qP rfl ?_
 refine lF_ ?_
 refine pt_ hK1 ?_
 refine sp_ fun _ hK8 => ?_
 refine lp_ g2 0 ?_
 refine lv_ rfl (.int .i64 p.x) (ld_ 0 0 hm6) ?_
 refine lp_ g5 0 ?_
 refine lp_ g5 0 ?_
 refine lv_ rfl (.int .i64 b.mn.x) (ld_ 0 1 hm6) ?_
 by_cases h9 : b.mn.x ≤ p.x
 ·refine lv_ rfl _ (geT_ h9) ?_
  refine lT_ ?_
  refine lw_ rfl (.pointer (some ⟨g2, 0, none⟩)) (litRun kr_) ?_
  refine lw_ rfl (.int .i64 p.x) (ld_ 0 0 hm6) ?_
  refine lw_ rfl (.pointer (some ⟨g5, 3, none⟩)) (litRun kr_) ?_
  refine lw_ rfl (.pointer (some ⟨g5, 3, none⟩)) (litRun kr_) ?_
  refine lw_ rfl (.int .i64 b.mx.x) (ld_ 3 1 hm6) ?_
  by_cases h10 : p.x < b.mx.x
  ·refine lw_ rfl _ (lsT_ h10) ?_
   refine lT_ ?_
   refine lT_ ?_
   refine lw_ rfl (.pointer (some ⟨g2, 1, none⟩)) (litRun kr_) ?_
   refine lw_ rfl (.int .i64 p.y) (ld_ 1 0 hm6) ?_
   refine lw_ rfl (.pointer (some ⟨g5, 0, none⟩)) (litRun kr_) ?_
   refine lw_ rfl (.pointer (some ⟨g5, 1, none⟩)) (litRun kr_) ?_
   refine lw_ rfl (.int .i64 b.mn.y) (ld_ 1 1 hm6) ?_
   by_cases h11 : b.mn.y ≤ p.y
   ·refine lw_ rfl _ (geT_ h11) ?_
    refine lT_ ?_
    refine lT_ ?_
    refine lw_ rfl (.pointer (some ⟨g2, 1, none⟩)) (litRun kr_) ?_
    refine lw_ rfl (.int .i64 p.y) (ld_ 1 0 hm6) ?_
    refine lw_ rfl (.pointer (some ⟨g5, 3, none⟩)) (litRun kr_) ?_
    refine lw_ rfl (.pointer (some ⟨g5, 4, none⟩)) (litRun kr_) ?_
    refine lw_ rfl (.int .i64 b.mx.y) (ld_ 4 1 hm6) ?_
    by_cases h12 : p.y < b.mx.y
    ·refine lw_ rfl _ (lsT_ h12) ?_
     refine lT_ ?_
     refine lT_ ?_
     refine lw_ rfl (.pointer (some ⟨g2, 2, none⟩)) (litRun kr_) ?_
     refine lw_ rfl (.int .i64 p.z) (ld_ 2 0 hm6) ?_
     refine lw_ rfl (.pointer (some ⟨g5, 0, none⟩)) (litRun kr_) ?_
     refine lw_ rfl (.pointer (some ⟨g5, 2, none⟩)) (litRun kr_) ?_
     refine lw_ rfl (.int .i64 b.mn.z) (ld_ 2 1 hm6) ?_
     by_cases h13 : b.mn.z ≤ p.z
     ·refine lw_ rfl _ (geT_ h13) ?_
      refine lT_ ?_
      refine lT_ ?_
      refine lw_ rfl (.pointer (some ⟨g2, 2, none⟩)) (litRun kr_) ?_
      refine lw_ rfl (.int .i64 p.z) (ld_ 2 0 hm6) ?_
      refine lw_ rfl (.pointer (some ⟨g5, 3, none⟩)) (litRun kr_) ?_
      refine lw_ rfl (.pointer (some ⟨g5, 5, none⟩)) (litRun kr_) ?_
      refine lw_ rfl (.int .i64 b.mx.z) (ld_ 5 1 hm6) ?_
      by_cases h14 : p.z < b.mx.z
      ·refine lw_ rfl _ (lsT_ h14) ?_
       refine lT_ ?_
       refine lT_ ?_
       refine pt_ hK8 ?_
       refine wpPrune [(4, .bool true)] fo_ (fun X15 => ?_)
       refine wp_ret ?_
       refine br_ 4 (.bool true) ?_
       exact ⟨congrArg (fun b_ => Ending.returned (.bool b_)) (decide_eq_true (by unfold Bx.has; omega)).symm, hm6.bel⟩
      refine lw_ rfl _ (lsF_ h14) ?_
      refine lF_ ?_
      refine lF_ ?_
      refine pt_ hK8 ?_
      refine wpPrune [(4, .bool false)] fo_ (fun X16 => ?_)
      refine wp_ret ?_
      refine br_ 4 (.bool false) ?_
      exact ⟨congrArg (fun b_ => Ending.returned (.bool b_)) (decide_eq_false (by unfold Bx.has; omega)).symm, hm6.bel⟩
     refine lw_ rfl _ (geF_ h13) ?_
     refine lF_ ?_
     refine lF_ ?_
     refine ps_ (i := 39) ?_
     refine ps_ (i := 40) ?_
     refine ps_ (i := 41) ?_
     refine ps_ (i := 42) ?_
     refine ps_ (i := 43) ?_
     refine ps_ (i := 44) ?_
     refine lF_ ?_
     refine lF_ ?_
     refine pt_ hK8 ?_
     refine wpPrune [(4, .bool false)] fo_ (fun X17 => ?_)
     refine wp_ret ?_
     refine br_ 4 (.bool false) ?_
     exact ⟨congrArg (fun b_ => Ending.returned (.bool b_)) (decide_eq_false (by unfold Bx.has; omega)).symm, hm6.bel⟩
    refine lw_ rfl _ (lsF_ h12) ?_
    refine lF_ ?_
    refine lF_ ?_
    refine ps_ (i := 31) ?_
    refine ps_ (i := 32) ?_
    refine ps_ (i := 33) ?_
    refine ps_ (i := 34) ?_
    refine ps_ (i := 35) ?_
    refine ps_ (i := 36) ?_
    refine lF_ ?_
    refine lF_ ?_
    refine ps_ (i := 39) ?_
    refine ps_ (i := 40) ?_
    refine ps_ (i := 41) ?_
    refine ps_ (i := 42) ?_
    refine ps_ (i := 43) ?_
    refine ps_ (i := 44) ?_
    refine lF_ ?_
    refine lF_ ?_
    refine pt_ hK8 ?_
    refine wpPrune [(4, .bool false)] fo_ (fun X18 => ?_)
    refine wp_ret ?_
    refine br_ 4 (.bool false) ?_
    exact ⟨congrArg (fun b_ => Ending.returned (.bool b_)) (decide_eq_false (by unfold Bx.has; omega)).symm, hm6.bel⟩
   refine lw_ rfl _ (geF_ h11) ?_
   refine lF_ ?_
   refine lF_ ?_
   refine ps_ (i := 23) ?_
   refine ps_ (i := 24) ?_
   refine ps_ (i := 25) ?_
   refine ps_ (i := 26) ?_
   refine ps_ (i := 27) ?_
   refine ps_ (i := 28) ?_
   refine lF_ ?_
   refine lF_ ?_
   refine ps_ (i := 31) ?_
   refine ps_ (i := 32) ?_
   refine ps_ (i := 33) ?_
   refine ps_ (i := 34) ?_
   refine ps_ (i := 35) ?_
   refine ps_ (i := 36) ?_
   refine lF_ ?_
   refine lF_ ?_
   refine ps_ (i := 39) ?_
   refine ps_ (i := 40) ?_
   refine ps_ (i := 41) ?_
   refine ps_ (i := 42) ?_
   refine ps_ (i := 43) ?_
   refine ps_ (i := 44) ?_
   refine lF_ ?_
   refine lF_ ?_
   refine pt_ hK8 ?_
   refine wpPrune [(4, .bool false)] fo_ (fun X19 => ?_)
   refine wp_ret ?_
   refine br_ 4 (.bool false) ?_
   exact ⟨congrArg (fun b_ => Ending.returned (.bool b_)) (decide_eq_false (by unfold Bx.has; omega)).symm, hm6.bel⟩
  refine lw_ rfl _ (lsF_ h10) ?_
  refine lF_ ?_
  refine lF_ ?_
  refine ps_ (i := 15) ?_
  refine ps_ (i := 16) ?_
  refine ps_ (i := 17) ?_
  refine ps_ (i := 18) ?_
  refine ps_ (i := 19) ?_
  refine ps_ (i := 20) ?_
  refine lF_ ?_
  refine lF_ ?_
  refine ps_ (i := 23) ?_
  refine ps_ (i := 24) ?_
  refine ps_ (i := 25) ?_
  refine ps_ (i := 26) ?_
  refine ps_ (i := 27) ?_
  refine ps_ (i := 28) ?_
  refine lF_ ?_
  refine lF_ ?_
  refine ps_ (i := 31) ?_
  refine ps_ (i := 32) ?_
  refine ps_ (i := 33) ?_
  refine ps_ (i := 34) ?_
  refine ps_ (i := 35) ?_
  refine ps_ (i := 36) ?_
  refine lF_ ?_
  refine lF_ ?_
  refine ps_ (i := 39) ?_
  refine ps_ (i := 40) ?_
  refine ps_ (i := 41) ?_
  refine ps_ (i := 42) ?_
  refine ps_ (i := 43) ?_
  refine ps_ (i := 44) ?_
  refine lF_ ?_
  refine lF_ ?_
  refine pt_ hK8 ?_
  refine wpPrune [(4, .bool false)] fo_ (fun X20 => ?_)
  refine wp_ret ?_
  refine br_ 4 (.bool false) ?_
  exact ⟨congrArg (fun b_ => Ending.returned (.bool b_)) (decide_eq_false (by unfold Bx.has; omega)).symm, hm6.bel⟩
 refine lv_ rfl _ (geF_ h9) ?_
 refine lF_ ?_
 refine ps_ (i := 7) ?_
 refine ps_ (i := 8) ?_
 refine ps_ (i := 9) ?_
 refine ps_ (i := 10) ?_
 refine ps_ (i := 11) ?_
 refine ps_ (i := 12) ?_
 refine lF_ ?_
 refine lF_ ?_
 refine ps_ (i := 15) ?_
 refine ps_ (i := 16) ?_
 refine ps_ (i := 17) ?_
 refine ps_ (i := 18) ?_
 refine ps_ (i := 19) ?_
 refine ps_ (i := 20) ?_
 refine lF_ ?_
 refine lF_ ?_
 refine ps_ (i := 23) ?_
 refine ps_ (i := 24) ?_
 refine ps_ (i := 25) ?_
 refine ps_ (i := 26) ?_
 refine ps_ (i := 27) ?_
 refine ps_ (i := 28) ?_
 refine lF_ ?_
 refine lF_ ?_
 refine ps_ (i := 31) ?_
 refine ps_ (i := 32) ?_
 refine ps_ (i := 33) ?_
 refine ps_ (i := 34) ?_
 refine ps_ (i := 35) ?_
 refine ps_ (i := 36) ?_
 refine lF_ ?_
 refine lF_ ?_
 refine ps_ (i := 39) ?_
 refine ps_ (i := 40) ?_
 refine ps_ (i := 41) ?_
 refine ps_ (i := 42) ?_
 refine ps_ (i := 43) ?_
 refine ps_ (i := 44) ?_
 refine lF_ ?_
 refine lF_ ?_
 refine pt_ hK8 ?_
 refine wpPrune [(4, .bool false)] fo_ (fun X21 => ?_)
 refine wp_ret ?_
 refine br_ 4 (.bool false) ?_
 exact ⟨congrArg (fun b_ => Ending.returned (.bool b_)) (decide_eq_false (by unfold Bx.has; omega)).symm, hm6.bel⟩
theorem pempty_any (b : Bx) (w : World) : Calls Tryz.prog 101 #[.agg (bxs b).toArray] w (RetV w (.bool (decide b.none))) := by
 have hm0 := Mem.nil w
 go_enter Tryz.func101, Tryz.ntmps101
 refine litStart 8 [(0, .agg (bxs b).toArray)] kr_ (fun X0 => ?_)
 refine sp_ fun _ hK1 => ?_
 refine plBox hm0 (cs := bxs b) (i := 0) rfl (wn rfl) rfl le_ ?_
 intro g2 w4 hm3
 clear hm0
 try simp only [lc_] at hm3
 refine qP rfl ?_
 refine lF_ ?_
 refine pt_ hK1 ?_
 refine sp_ fun _ hK5 => ?_
 refine lp_ g2 0 ?_
 refine lv_ rfl (.agg (pcs b.mn).toArray) (la_ 0 0 hm3 Ty.ag_voxel_api_Point) ?_
 refine lv_ rfl (.agg (bxs b).toArray) (la_ 0 0 hm3 Ty.ag_voxel_api_Box) ?_
 refine plCall (i := 3) 75 [.agg (pcs b.mn).toArray, .agg (bxs b).toArray] [] [] rfl kr_ (wn rfl) rfl le_ (litArgs kr_) (pin_any b.mn b _) ?_
 rintro e w6 ⟨rfl, hbz⟩
 have hm7 := hm3.below hbz
 clear hbz hm3
 refine ⟨_, rfl, ?_⟩
 refine qP rfl ?_
 rcases bool_or (decide (b.has b.mn)) with h8 | h8
 ·rw [h8]
  refine lT_ ?_
  refine lT_ ?_
  refine pt_ hK5 ?_
  refine wp_ret ?_
  refine br_ 2 (.bool true) ?_
  exact ⟨congrArg (fun b_ => Ending.returned (.bool b_)) (decide_eq_true (by have h_ := of_decide_eq_false h8; unfold Bx.has at h_; unfold Bx.none; omega)).symm, hm7.bel⟩
 rw [h8]
 refine lF_ ?_
 refine lF_ ?_
 refine pt_ hK5 ?_
 refine wp_ret ?_
 refine br_ 2 (.bool false) ?_
 exact ⟨congrArg (fun b_ => Ending.returned (.bool b_)) (decide_eq_false (by have h_ := of_decide_eq_true h8; unfold Bx.has at h_; unfold Bx.none; omega)).symm, hm7.bel⟩
theorem psize_any (b : Bx) (hb : b.rng) (w : World) : Calls Tryz.prog 74 #[.agg (bxs b).toArray] w (RetV w (.agg (pcs b.size).toArray)) := by
 have hb_ := hb
 unfold Bx.rng Pt.rng at hb_
 have hm0 := Mem.nil w
 go_enter Tryz.func74, Tryz.ntmps74
 refine litStart 11 [(0, .agg (bxs b).toArray)] kr_ (fun X0 => ?_)
 refine sp_ fun _ hK1 => ?_
 refine plBox hm0 (cs := bxs b) (i := 0) rfl (wn rfl) rfl le_ ?_
 intro g2 w4 hm3
 clear hm0
 try simp only [lc_] at hm3
 refine qP rfl ?_
 refine plAlloc (z := [.int .i64 0, .int .i64 0, .int .i64 0]) Ty.ag_voxel_api_Point hm3 (i := 1) rfl (wn rfl) rfl ?_
 intro g5 w7 hm6
 clear hm3
 try simp only [lc_] at hm6
 refine qP rfl ?_
 refine pt_ hK1 ?_
 refine sk_ fun _ hK8 => ?_
 refine sp_ fun _ hK9 => ?_
 refine lv_ rfl (.agg (bxs b).toArray) (la_ 0 0 hm6 Ty.ag_voxel_api_Box) ?_
 refine plCall (i := 1) 101 [.agg (bxs b).toArray] [] [] rfl kr_ (wn rfl) rfl le_ (litArgs kr_) (pempty_any b _) ?_
 rintro e w10 ⟨rfl, hbz⟩
 have hm11 := hm6.below hbz
 clear hbz hm6
 refine ⟨_, rfl, ?_⟩
 refine qP rfl ?_
 rcases bool_or (decide b.none) with h12 | h12
 ·rw [h12]
  refine pt_ hK9 ?_
  refine wp_cond_false le_ ?_
  refine wp_skip ?_
  refine tn_ hK8 ?_
  refine sp_ fun _ hK13 => ?_
  refine lp_ g2 3 ?_
  refine lv_ rfl (.agg (pcs b.mx).toArray) (la_ 3 0 hm11 Ty.ag_voxel_api_Point) ?_
  refine lp_ g2 0 ?_
  refine lv_ rfl (.agg (pcs b.mn).toArray) (la_ 0 0 hm11 Ty.ag_voxel_api_Point) ?_
  refine plCall (i := 4) 76 [.agg (pcs b.mx).toArray, .agg (pcs b.mn).toArray] [] [] rfl kr_ (wn rfl) rfl le_ (litArgs kr_) (psub_any b.mx b.mn (by omega) (by omega) _) ?_
  rintro e w14 ⟨rfl, hbz⟩
  have hm15 := hm11.below hbz
  clear hbz hm11
  refine ⟨_, rfl, ?_⟩
  refine qP rfl ?_
  refine plStore 1 Ty.ag_voxel_api_Point hm15 rfl (i := 5) (cs := pcs (b.mx.sub b.mn)) rfl (wn rfl) rfl le_ le_ rfl rfl kr_ ?_
  intro w17 hm16
  clear hm15
  try simp only [lc_] at hm16
  refine qNone rfl ?_
  refine pt_ hK13 ?_
  refine wp_ret ?_
  refine bodyPost_ret (v := .agg (pcs (b.mx.sub b.mn)).toArray) (gRes1 rfl (gResAg (cs := pcs (b.mx.sub b.mn)) 1 hm16 rfl Ty.ag_voxel_api_Point rfl (lg_))) rfl ?_
  exact ⟨congrArg (fun p_ => Ending.returned (.agg (pcs p_).toArray)) (show b.mx.sub b.mn = b.size by unfold Bx.size; rw [if_neg (of_decide_eq_false h12)]), hm16.bel⟩
 rw [h12]
 refine pt_ hK9 ?_
 refine wp_cond_true le_ ?_
 refine sp_ fun _ hK18 => ?_
 refine lk_ (.agg (pcs ⟨0, 0, 0⟩).toArray) ?_
 refine plStore 1 Ty.ag_voxel_api_Point hm11 rfl (i := 1) (cs := pcs ⟨0, 0, 0⟩) rfl (wn rfl) rfl le_ le_ rfl rfl kr_ ?_
 intro w20 hm19
 clear hm11
 try simp only [lc_] at hm19
 refine qNone rfl ?_
 refine pt_ hK18 ?_
 refine wp_ret ?_
 refine then_ret ?_
 refine bodyPost_ret (v := .agg (pcs ⟨0, 0, 0⟩).toArray) (gRes1 rfl (gResAg (cs := pcs ⟨0, 0, 0⟩) 1 hm19 rfl Ty.ag_voxel_api_Point rfl (lg_))) rfl ?_
 exact ⟨congrArg (fun p_ => Ending.returned (.agg (pcs p_).toArray)) (show p0 = b.size by unfold Bx.size; rw [if_pos (of_decide_eq_true h12)]), hm19.bel⟩
theorem pvol_any (b : Bx) (hb : b.rng) (w : World) : Calls Tryz.prog 31 #[.agg (bxs b).toArray] w (RetV w (.int .i64 b.vol)) := by
 obtain ⟨hv1, hv2⟩ := vol_bd hb
 unfold Bx.vol at hv2
 have hm0 := Mem.nil w
 go_enter Tryz.func31, Tryz.ntmps31
 refine litStart 14 [(0, .agg (bxs b).toArray)] kr_ (fun X0 => ?_)
 refine sp_ fun _ hK1 => ?_
 refine plBox hm0 (cs := bxs b) (i := 0) rfl (wn rfl) rfl le_ ?_
 intro g2 w4 hm3
 clear hm0
 try simp only [lc_] at hm3
 refine qP rfl ?_
 refine li_ 0 ?_
 refine pt_ hK1 ?_
 refine sp_ fun _ hK5 => ?_
 refine lv_ rfl (.agg (bxs b).toArray) (la_ 0 0 hm3 Ty.ag_voxel_api_Box) ?_
 refine plCall (i := 1) 74 [.agg (bxs b).toArray] [] [] rfl kr_ (wn rfl) rfl le_ (litArgs kr_) (psize_any b hb _) ?_
 rintro e w6 ⟨rfl, hbz⟩
 have hm7 := hm3.below hbz
 clear hbz hm3
 refine ⟨_, rfl, ?_⟩
 refine qP rfl ?_
 refine plAlloc (z := [.int .i64 0, .int .i64 0, .int .i64 0]) Ty.ag_voxel_api_Point hm7 (i := 2) rfl (wn rfl) rfl ?_
 intro g8 w10 hm9
 clear hm7
 try simp only [lc_] at hm9
 refine qP rfl ?_
 refine plStore 1 Ty.ag_voxel_api_Point hm9 rfl (i := 3) (cs := pcs (b.size)) rfl (wn rfl) rfl le_ le_ rfl rfl kr_ ?_
 intro w12 hm11
 clear hm9
 try simp only [lc_] at hm11
 refine qNone rfl ?_
 refine pt_ hK5 ?_
 refine sp_ fun _ hK13 => ?_
 refine lp_ g8 0 ?_
 refine lv_ rfl (.int .i64 ((b.size).x)) (ld_ 0 1 hm11) ?_
 refine lp_ g8 1 ?_
 refine lv_ rfl (.int .i64 ((b.size).y)) (ld_ 1 1 hm11) ?_
 refine lv_ rfl (.int .i64 (((b.size).x) * ((b.size).y))) (mulRun' (A := ((b.size).x)) (B := ((b.size).y)) (C := ((b.size).x) * ((b.size).y)) (.tmp 7) (.tmp 9) rfl le_ le_ rfl (by omega)) ?_
 refine lp_ g8 2 ?_
 refine lv_ rfl (.int .i64 ((b.size).z)) (ld_ 2 1 hm11) ?_
 refine lv_ rfl (.int .i64 ((((b.size).x) * ((b.size).y)) * ((b.size).z))) (mulRun' (A := (((b.size).x) * ((b.size).y))) (B := ((b.size).z)) (C := (((b.size).x) * ((b.size).y)) * ((b.size).z)) (.tmp 10) (.tmp 12) rfl le_ le_ rfl (by omega)) ?_
 refine li_ ((((b.size).x) * ((b.size).y)) * ((b.size).z)) ?_
 refine pt_ hK13 ?_
 refine wpPrune [(2, .int .i64 ((((b.size).x) * ((b.size).y)) * ((b.size).z)))] fo_ (fun X14 => ?_)
 refine wp_ret ?_
 refine br_ 2 (.int .i64 ((((b.size).x) * ((b.size).y)) * ((b.size).z))) ?_
 exact ⟨by rfl, hm11.bel⟩
theorem cube_any (n : Int) (w : World) : Calls Tryz.prog 87 #[.int .i64 n] w (RetV w (.agg (bxs (cubeB n)).toArray)) := by
 have hm0 := Mem.nil w
 go_enter Tryz.func87, Tryz.ntmps87
 refine litStart 8 [(0, .int .i64 n)] kr_ (fun X0 => ?_)
 refine sp_ fun _ hK1 => ?_
 refine plAlloc (z := [.int .i64 0, .int .i64 0, .int .i64 0, .int .i64 0, .int .i64 0, .int .i64 0]) Ty.ag_voxel_api_Box hm0 (i := 0) rfl (wn rfl) rfl ?_
 intro g2 w4 hm3
 clear hm0
 try simp only [lc_] at hm3
 refine qP rfl ?_
 refine pt_ hK1 ?_
 refine sp_ fun _ hK5 => ?_
 refine li_ n ?_
 refine li_ n ?_
 refine li_ n ?_
 refine lk_ (.agg (pcs ⟨n, n, n⟩).toArray) ?_
 refine lk_ (.agg (bxs ⟨⟨0, 0, 0⟩, ⟨n, n, n⟩⟩).toArray) ?_
 refine plStore 0 Ty.ag_voxel_api_Box hm3 rfl (i := 5) (cs := bxs ⟨⟨0, 0, 0⟩, ⟨n, n, n⟩⟩) rfl (wn rfl) rfl le_ le_ rfl rfl kr_ ?_
 intro w7 hm6
 clear hm3
 try simp only [lc_] at hm6
 refine qNone rfl ?_
 refine pt_ hK5 ?_
 refine wp_ret ?_
 refine bodyPost_ret (v := .agg (bxs ⟨⟨0, 0, 0⟩, ⟨n, n, n⟩⟩).toArray) (gRes1 rfl (gResAg (cs := bxs ⟨⟨0, 0, 0⟩, ⟨n, n, n⟩⟩) 0 hm6 rfl Ty.ag_voxel_api_Box rfl (lg_))) rfl ?_
 exact ⟨by rfl, hm6.bel⟩
theorem shift_any (b : Bx) (p : Pt) (hb : b.rng) (hp : (-1073741824 ≤ p.x ∧ p.x ≤ 1073741824) ∧ (-1073741824 ≤ p.y ∧ p.y ≤ 1073741824) ∧ (-1073741824 ≤ p.z ∧ p.z ≤ 1073741824)) (w : World) : Calls Tryz.prog 128 #[.agg (bxs b).toArray, .agg (pcs p).toArray] w (RetV w (.agg (bxs (b.shift p)).toArray)) := by
 have hb_ := hb
 unfold Bx.rng Pt.rng at hb_
 have hm0 := Mem.nil w
 go_enter Tryz.func128, Tryz.ntmps128
 refine litStart 14 [(0, .agg (bxs b).toArray), (1, .agg (pcs p).toArray)] kr_ (fun X0 => ?_)
 refine sp_ fun _ hK1 => ?_
 refine plBox hm0 (cs := bxs b) (i := 0) rfl (wn rfl) rfl le_ ?_
 intro g2 w4 hm3
 clear hm0
 try simp only [lc_] at hm3
 refine qP rfl ?_
 refine plBox hm3 (cs := pcs p) (i := 1) rfl (wn rfl) rfl le_ ?_
 intro g5 w7 hm6
 clear hm3
 try simp only [lc_] at hm6
 refine qP rfl ?_
 refine plAlloc (z := [.int .i64 0, .int .i64 0, .int .i64 0, .int .i64 0, .int .i64 0, .int .i64 0]) Ty.ag_voxel_api_Box hm6 (i := 2) rfl (wn rfl) rfl ?_
 intro g8 w10 hm9
 clear hm6
 try simp only [lc_] at hm9
 refine qP rfl ?_
 refine pt_ hK1 ?_
 refine sk_ fun _ hK11 => ?_
 refine aoStart (aoV [fun _ => .pointer (some ⟨g2, 0, none⟩), fun _ => .agg (pcs b.mn).toArray, fun _ => .agg (pcs p).toArray, fun _ => .agg (pcs (b.mn.add p)).toArray, fun _ => .pointer (some ⟨g2, 3, none⟩), fun _ => .agg (pcs b.mx).toArray, fun _ => .agg (pcs p).toArray, fun _ => .agg (pcs (b.mx.add p)).toArray, fun _ => .agg (bxs ⟨(b.mn.add p), (b.mx.add p)⟩).toArray, fun _ => undef]) (aoA [[], [], [], [], [], [], [], [], [], []]) (fun b_ g_ => ((.arr g2 25 (bxs b)) :: (.arr g5 23 (pcs p)) :: (.arr g8 25 (bsel (b_ 9) [.int .i64 ((b.mn.add p).x), .int .i64 ((b.mn.add p).y), .int .i64 ((b.mn.add p).z), .int .i64 ((b.mx.add p).x), .int .i64 ((b.mx.add p).y), .int .i64 ((b.mx.add p).z)] [.int .i64 0, .int .i64 0, .int .i64 0, .int .i64 0, .int .i64 0, .int .i64 0])) :: [])) hm9 kr_ kr_ (fun w_ h_ => h_) (fun b_ g_ h_ => by show (fun (x9_ : Bool) => (((.arr g2 25 (bxs b)) :: (.arr g5 23 (pcs p)) :: (.arr g8 25 (bsel x9_ [.int .i64 ((b.mn.add p).x), .int .i64 ((b.mn.add p).y), .int .i64 ((b.mn.add p).z), .int .i64 ((b.mx.add p).x), .int .i64 ((b.mx.add p).y), .int .i64 ((b.mx.add p).z)] [.int .i64 0, .int .i64 0, .int .i64 0, .int .i64 0, .int .i64 0, .int .i64 0])) :: []) : List Res)) (b_ 9) = _; rw [h_ 9 (by decide)]) ?_ ?_
 ·refine aoNext rfl aoK_ ?_
  refine aoNext rfl (aoV_ (fun b_ g_ X_ w_ h_b h_ => valTo (b := .agg (pcs b.mn).toArray) kr_ ((fun (h_ : Mem _ w_ ((.arr g2 25 (bxs b)) :: (.arr g5 23 (pcs p)) :: (.arr g8 25 ([.int .i64 0, .int .i64 0, .int .i64 0, .int .i64 0, .int .i64 0, .int .i64 0])) :: [])) => gLoadAg (vs := pcs b.mn) (k := 0) 0 h_ rfl kr_ kr_ (.tmp 5) Ty.ag_voxel_api_Point rfl le_) (by have h2_ : Mem w w_ ((.arr g2 25 (bxs b)) :: (.arr g5 23 (pcs p)) :: (.arr g8 25 (bsel (b_ 9) [.int .i64 ((b.mn.add p).x), .int .i64 ((b.mn.add p).y), .int .i64 ((b.mn.add p).z), .int .i64 ((b.mx.add p).x), .int .i64 ((b.mx.add p).y), .int .i64 ((b.mx.add p).z)] [.int .i64 0, .int .i64 0, .int .i64 0, .int .i64 0, .int .i64 0, .int .i64 0])) :: []) := h_; rw [bselF (h_b.post 9 kr_)] at h2_; exact h2_)))) ?_
  refine aoNext rfl (aoV_ (fun b_ g_ X_ w_ h_b h_ => valTo (b := .agg (pcs p).toArray) kr_ ((fun (h_ : Mem _ w_ ((.arr g2 25 (bxs b)) :: (.arr g5 23 (pcs p)) :: (.arr g8 25 ([.int .i64 0, .int .i64 0, .int .i64 0, .int .i64 0, .int .i64 0, .int .i64 0])) :: [])) => gLoadAg (vs := pcs p) (k := 0) 1 h_ rfl kr_ kr_ (.tmp 3) Ty.ag_voxel_api_Point rfl le_) (by have h2_ : Mem w w_ ((.arr g2 25 (bxs b)) :: (.arr g5 23 (pcs p)) :: (.arr g8 25 (bsel (b_ 9) [.int .i64 ((b.mn.add p).x), .int .i64 ((b.mn.add p).y), .int .i64 ((b.mn.add p).z), .int .i64 ((b.mx.add p).x), .int .i64 ((b.mx.add p).y), .int .i64 ((b.mx.add p).z)] [.int .i64 0, .int .i64 0, .int .i64 0, .int .i64 0, .int .i64 0, .int .i64 0])) :: []) := h_; rw [bselF (h_b.post 9 kr_)] at h2_; exact h2_)))) ?_
  refine aoNext rfl (aoC_ 27 (fun g_ => [.agg (pcs b.mn).toArray, .agg (pcs p).toArray]) [] [] (fun b_ g_ w_ h_b h_ => (add_any b.mn p (by omega) (by omega) (by omega) _).mono (fun _ _ h_r => ⟨h_r.1.trans kr_, h_r.2⟩))) ?_
  refine aoNext rfl aoK_ ?_
  refine aoNext rfl (aoV_ (fun b_ g_ X_ w_ h_b h_ => valTo (b := .agg (pcs b.mx).toArray) kr_ ((fun (h_ : Mem _ w_ ((.arr g2 25 (bxs b)) :: (.arr g5 23 (pcs p)) :: (.arr g8 25 ([.int .i64 0, .int .i64 0, .int .i64 0, .int .i64 0, .int .i64 0, .int .i64 0])) :: [])) => gLoadAg (vs := pcs b.mx) (k := 3) 0 h_ rfl kr_ kr_ (.tmp 9) Ty.ag_voxel_api_Point rfl le_) (by have h2_ : Mem w w_ ((.arr g2 25 (bxs b)) :: (.arr g5 23 (pcs p)) :: (.arr g8 25 (bsel (b_ 9) [.int .i64 ((b.mn.add p).x), .int .i64 ((b.mn.add p).y), .int .i64 ((b.mn.add p).z), .int .i64 ((b.mx.add p).x), .int .i64 ((b.mx.add p).y), .int .i64 ((b.mx.add p).z)] [.int .i64 0, .int .i64 0, .int .i64 0, .int .i64 0, .int .i64 0, .int .i64 0])) :: []) := h_; rw [bselF (h_b.post 9 kr_)] at h2_; exact h2_)))) ?_
  refine aoNext rfl (aoV_ (fun b_ g_ X_ w_ h_b h_ => valTo (b := .agg (pcs p).toArray) kr_ ((fun (h_ : Mem _ w_ ((.arr g2 25 (bxs b)) :: (.arr g5 23 (pcs p)) :: (.arr g8 25 ([.int .i64 0, .int .i64 0, .int .i64 0, .int .i64 0, .int .i64 0, .int .i64 0])) :: [])) => gLoadAg (vs := pcs p) (k := 0) 1 h_ rfl kr_ kr_ (.tmp 3) Ty.ag_voxel_api_Point rfl le_) (by have h2_ : Mem w w_ ((.arr g2 25 (bxs b)) :: (.arr g5 23 (pcs p)) :: (.arr g8 25 (bsel (b_ 9) [.int .i64 ((b.mn.add p).x), .int .i64 ((b.mn.add p).y), .int .i64 ((b.mn.add p).z), .int .i64 ((b.mx.add p).x), .int .i64 ((b.mx.add p).y), .int .i64 ((b.mx.add p).z)] [.int .i64 0, .int .i64 0, .int .i64 0, .int .i64 0, .int .i64 0, .int .i64 0])) :: []) := h_; rw [bselF (h_b.post 9 kr_)] at h2_; exact h2_)))) ?_
  refine aoNext rfl (aoC_ 27 (fun g_ => [.agg (pcs b.mx).toArray, .agg (pcs p).toArray]) [] [] (fun b_ g_ w_ h_b h_ => (add_any b.mx p (by omega) (by omega) (by omega) _).mono (fun _ _ h_r => ⟨h_r.1.trans kr_, h_r.2⟩))) ?_
  refine aoNext rfl aoK_ ?_
  refine aoNext rfl (aoStore (gb := fun g_ => g8) (k := 0) (cur := fun g_ => [.int .i64 0, .int .i64 0, .int .i64 0, .int .i64 0, .int .i64 0, .int .i64 0]) (vs := fun g_ => bxs ⟨(b.mn.add p), (b.mx.add p)⟩) 2 (fun g_ => [(4, .pointer (some ⟨g8, 0, none⟩)), (13, .agg (bxs ⟨(b.mn.add p), (b.mx.add p)⟩).toArray)]) (fun g_ a_ h_k => ⟨(h_k.out 4 kr_).trans (lg_), (h_k.inn 8 _ _ kr_ rfl rfl).trans kr_, trivial⟩) Ty.ag_voxel_api_Box (fun b_ g_ h_b => by show some (Res.arr g8 25 (bsel (b_ 9) [.int .i64 ((b.mn.add p).x), .int .i64 ((b.mn.add p).y), .int .i64 ((b.mn.add p).z), .int .i64 ((b.mx.add p).x), .int .i64 ((b.mx.add p).y), .int .i64 ((b.mx.add p).z)] [.int .i64 0, .int .i64 0, .int .i64 0, .int .i64 0, .int .i64 0, .int .i64 0])) = some (Res.arr g8 25 ([.int .i64 0, .int .i64 0, .int .i64 0, .int .i64 0, .int .i64 0, .int .i64 0])); rw [bselF h_b.no]) (fun g_ X_ => (wn rfl)) rfl (fun g_ X_ => litEv kr_) (fun g_ X_ => litEv kr_) (fun _ => by kernel_rfl) (fun _ => by kernel_rfl) (fun _ => by kernel_rfl) (fun b_ g_ h_b => by kernel_rfl) rfl) ?_
  exact aoDone (by decide)
 intro g_ a_ w13 hF_ hm12
 obtain ⟨X14, rfl⟩ := frLit (⟨hF_.size, hF_.defers, ⟨hF_.o_ 4, hF_.i_ 0, hF_.i_ 1, hF_.i_ 2, hF_.i_ 3, hF_.i_ 4, hF_.i_ 5, hF_.i_ 6, hF_.i_ 7, hF_.i_ 8, trivial⟩⟩ : Fr _ 14 [(4, .pointer (some ⟨g8, 0, none⟩)), (5, .pointer (some ⟨g2, 0, none⟩)), (6, .agg (pcs b.mn).toArray), (7, .agg (pcs p).toArray), (8, .agg (pcs (b.mn.add p)).toArray), (9, .pointer (some ⟨g2, 3, none⟩)), (10, .agg (pcs b.mx).toArray), (11, .agg (pcs p).toArray), (12, .agg (pcs (b.mx.add p)).toArray), (13, .agg (bxs ⟨(b.mn.add p), (b.mx.add p)⟩).toArray)])
 clear hF_
 have hm15 : Mem w w13 [.arr g2 25 (bxs b), .arr g5 23 (pcs p), .arr g8 25 (bxs ⟨(b.mn.add p), (b.mx.add p)⟩)] := hm12
 clear hm12 hm9
 refine tn_ hK11 ?_
 refine wp_ret ?_
 refine bodyPost_ret (v := .agg (bxs ⟨(b.mn.add p), (b.mx.add p)⟩).toArray) (gRes1 rfl (gResAg (cs := bxs ⟨(b.mn.add p), (b.mx.add p)⟩) 2 hm15 rfl Ty.ag_voxel_api_Box rfl (lg_))) rfl ?_
 exact ⟨by rfl, hm15.bel⟩
theorem bidx_swap (b : Bx) (p : Pt) (h : b.has p) (hs : b.size = b.mx.sub b.mn) : ((p.z - b.mn.z) * b.size.y + (p.y - b.mn.y)) * b.size.x + (p.x - b.mn.x) = b.idx p := by
 unfold Bx.idx
 rw [if_pos h, Int.mul_comm (p.z - b.mn.z) b.size.y, Int.add_comm (b.size.y * (p.z - b.mn.z)), Int.mul_comm _ b.size.x, Int.add_comm]
theorem idx_bd2 {b : Bx} {p : Pt} (h : b.rng) (hp : b.has p) : (0 ≤ (p.z - b.mn.z) * b.size.y ∧ (p.z - b.mn.z) * b.size.y ≤ 4398038122500) ∧ (0 ≤ ((p.z - b.mn.z) * b.size.y + (p.y - b.mn.y)) * b.size.x ∧ ((p.z - b.mn.z) * b.size.y + (p.y - b.mn.y)) * b.size.x ≤ 9223345648600875000) ∧
 (((p.z - b.mn.z) * b.size.y + (p.y - b.mn.y)) * b.size.x + (p.x - b.mn.x) ≤ 9223372036854775807) ∧ (0 ≤ p.x - b.mn.x ∧ 0 ≤ p.y - b.mn.y ∧ p.y - b.mn.y ≤ 2097150) := by
 obtain ⟨h1, h2, h3, h4, h5, h6, h7, h8⟩ := idx_bd h hp
 have h9 := bidx_swap b p hp h1
 have h10 := (vol_bd h).2
 have e1 : (p.z - b.mn.z) * b.size.y = b.size.y * (p.z - b.mn.z) := Int.mul_comm _ _
 have e2 : ((p.z - b.mn.z) * b.size.y + (p.y - b.mn.y)) * b.size.x = b.size.x * ((p.y - b.mn.y) + b.size.y * (p.z - b.mn.z)) := by rw [e1, Int.mul_comm, Int.add_comm]
 have h11 := (size_bd h).2.1
 omega
theorem pidx_any (b : Bx) (p : Pt) (hb : b.rng) (hp : (-1073741824 ≤ p.x ∧ p.x ≤ 1073741824) ∧ (-1073741824 ≤ p.y ∧ p.y ≤ 1073741824) ∧ (-1073741824 ≤ p.z ∧ p.z ≤ 1073741824)) (w : World) : Calls Tryz.prog 33 #[.agg (bxs b).toArray, .agg (pcs p).toArray] w (RetV w (.int .i64 (b.idx p))) := by
 have hb_ := hb
 unfold Bx.rng Pt.rng at hb_
 have hm0 := Mem.nil w
 go_enter Tryz.func33, Tryz.ntmps33
 refine litStart 31 [(0, .agg (bxs b).toArray), (1, .agg (pcs p).toArray)] kr_ (fun X0 => ?_)
 refine sp_ fun _ hK1 => ?_
 refine plBox hm0 (cs := bxs b) (i := 0) rfl (wn rfl) rfl le_ ?_
 intro g2 w4 hm3
 clear hm0
 try simp only [lc_] at hm3
 refine qP rfl ?_
 refine plBox hm3 (cs := pcs p) (i := 1) rfl (wn rfl) rfl le_ ?_
 intro g5 w7 hm6
 clear hm3
 try simp only [lc_] at hm6
 refine qP rfl ?_
 refine li_ 0 ?_
 refine pt_ hK1 ?_
 refine sk_ fun _ hK8 => ?_
 refine sp_ fun _ hK9 => ?_
 refine lv_ rfl (.agg (pcs p).toArray) (la_ 0 1 hm6 Ty.ag_voxel_api_Point) ?_
 refine lv_ rfl (.agg (bxs b).toArray) (la_ 0 0 hm6 Ty.ag_voxel_api_Box) ?_
 refine plCall (i := 2) 75 [.agg (pcs p).toArray, .agg (bxs b).toArray] [] [] rfl kr_ (wn rfl) rfl le_ (litArgs kr_) (pin_any p b _) ?_
 rintro e w10 ⟨rfl, hbz⟩
 have hm11 := hm6.below hbz
 clear hbz hm6
 refine ⟨_, rfl, ?_⟩
 refine qP rfl ?_
 rcases bool_or (decide (b.has p)) with h12 | h12
 ·rw [h12]
  refine lT_ ?_
  refine pt_ hK9 ?_
  refine wp_cond_true le_ ?_
  refine sp_ fun _ hK13 => ?_
  refine li_ (-1) ?_
  refine pt_ hK13 ?_
  refine wp_ret ?_
  refine then_ret ?_
  refine br_ 4 (.int .i64 (-1)) ?_
  exact ⟨congrArg (fun n_ => Ending.returned (.int .i64 n_)) (show _ = b.idx p by unfold Bx.idx; rw [if_neg (of_decide_eq_false h12)]), hm11.bel⟩
 rw [h12]
 refine lF_ ?_
 refine pt_ hK9 ?_
 refine wp_cond_false le_ ?_
 refine wp_skip ?_
 refine tn_ hK8 ?_
 refine sk_ fun _ hK14 => ?_
 refine aoStart (aoV [fun _ => .agg (bxs b).toArray, fun _ => .agg (pcs (b.size)).toArray, fun _ => .agg (pcs p).toArray, fun _ => .pointer (some ⟨g2, 0, none⟩), fun _ => .agg (pcs b.mn).toArray, fun _ => .agg (pcs (p.sub b.mn)).toArray, fun γ_ => .pointer (some ⟨(γ_.getD 0 0), 0, none⟩), fun γ_ => .pointer (some ⟨(γ_.getD 0 0), 0, none⟩), fun _ => undef, fun _ => undef]) (aoA [[], [], [], [], [], [], [6], [7], [], []]) (fun b_ g_ => ((.arr g2 25 (bxs b)) :: (.arr g5 23 (pcs p)) :: (bsel (b_ 6) (.arr (g_ 6) 23 (bsel (b_ 8) [.int .i64 ((b.size).x), .int .i64 ((b.size).y), .int .i64 ((b.size).z)] [.int .i64 0, .int .i64 0, .int .i64 0])) .free) :: (bsel (b_ 7) (.arr (g_ 7) 23 (bsel (b_ 9) [.int .i64 (p.x - b.mn.x), .int .i64 (p.y - b.mn.y), .int .i64 (p.z - b.mn.z)] [.int .i64 0, .int .i64 0, .int .i64 0])) .free) :: [])) hm11 kr_ kr_ (fun w_ h_ => h_.pushFree.pushFree) (fun b_ g_ h_ => by show (fun (x6_ x7_ x8_ x9_ : Bool) => (((.arr g2 25 (bxs b)) :: (.arr g5 23 (pcs p)) :: (bsel x6_ (.arr (g_ 6) 23 (bsel x8_ [.int .i64 ((b.size).x), .int .i64 ((b.size).y), .int .i64 ((b.size).z)] [.int .i64 0, .int .i64 0, .int .i64 0])) .free) :: (bsel x7_ (.arr (g_ 7) 23 (bsel x9_ [.int .i64 (p.x - b.mn.x), .int .i64 (p.y - b.mn.y), .int .i64 (p.z - b.mn.z)] [.int .i64 0, .int .i64 0, .int .i64 0])) .free) :: []) : List Res)) (b_ 6) (b_ 7) (b_ 8) (b_ 9) = _; rw [h_ 6 (by decide), h_ 7 (by decide), h_ 8 (by decide), h_ 9 (by decide)]) ?_ ?_
 ·refine aoNext rfl (aoV_ (fun b_ g_ X_ w_ h_b h_ => valTo (b := .agg (bxs b).toArray) kr_ (la_ 0 0 h_ Ty.ag_voxel_api_Box))) ?_
  refine aoNext rfl (aoC_ 74 (fun g_ => [.agg (bxs b).toArray]) [] [] (fun b_ g_ w_ h_b h_ => (psize_any b hb _).mono (fun _ _ h_r => ⟨h_r.1.trans kr_, h_r.2⟩))) ?_
  refine aoNext rfl (aoV_ (fun b_ g_ X_ w_ h_b h_ => valTo (b := .agg (pcs p).toArray) kr_ (la_ 0 1 h_ Ty.ag_voxel_api_Point))) ?_
  refine aoNext rfl aoK_ ?_
  refine aoNext rfl (aoV_ (fun b_ g_ X_ w_ h_b h_ => valTo (b := .agg (pcs b.mn).toArray) kr_ (la_ 0 0 h_ Ty.ag_voxel_api_Point))) ?_
  refine aoNext rfl (aoC_ 76 (fun g_ => [.agg (pcs p).toArray, .agg (pcs b.mn).toArray]) [] [] (fun b_ g_ w_ h_b h_ => (psub_any p b.mn hp (by omega) _).mono (fun _ _ h_r => ⟨h_r.1.trans kr_, h_r.2⟩))) ?_
  refine aoNext rfl (aoNewAg (z := [.int .i64 0, .int .i64 0, .int .i64 0]) 2 Ty.ag_voxel_api_Point rfl rfl (fun _ _ _ => ⟨_, rfl⟩) (fun b_ g_ γ_ h_b => Eq.trans kr_ (congrArg (fun x_ => List.set _ 2 (Res.arr γ_ 23 x_)) (bselF (α := List Value) (h_b.post 8 kr_) [.int .i64 ((b.size).x), .int .i64 ((b.size).y), .int .i64 ((b.size).z)] [.int .i64 0, .int .i64 0, .int .i64 0]))) (fun _ => by kernel_rfl) kr_) ?_
  refine aoNext rfl (aoNewAg (z := [.int .i64 0, .int .i64 0, .int .i64 0]) 3 Ty.ag_voxel_api_Point rfl rfl (fun _ _ _ => ⟨_, rfl⟩) (fun b_ g_ γ_ h_b => Eq.trans kr_ (congrArg (fun x_ => List.set _ 3 (Res.arr γ_ 23 x_)) (bselF (α := List Value) (h_b.post 9 kr_) [.int .i64 (p.x - b.mn.x), .int .i64 (p.y - b.mn.y), .int .i64 (p.z - b.mn.z)] [.int .i64 0, .int .i64 0, .int .i64 0]))) (fun _ => by kernel_rfl) kr_) ?_
  refine aoNext rfl (aoStore (gb := fun g_ => (g_ 6)) (k := 0) (cur := fun g_ => [.int .i64 0, .int .i64 0, .int .i64 0]) (vs := fun g_ => pcs (b.size)) 2 (fun g_ => [(5, .pointer (some ⟨(g_ 6), 0, none⟩)), (12, .agg (pcs (b.size)).toArray)]) (fun g_ a_ h_k => ⟨(h_k.inn 6 _ _ kr_ rfl rfl).trans kr_, (h_k.inn 1 _ _ kr_ rfl rfl).trans kr_, trivial⟩) Ty.ag_voxel_api_Point (fun b_ g_ h_b => by show some (bsel (b_ 6) (Res.arr (g_ 6) 23 (bsel (b_ 8) [.int .i64 ((b.size).x), .int .i64 ((b.size).y), .int .i64 ((b.size).z)] [.int .i64 0, .int .i64 0, .int .i64 0])) Res.free) = some (Res.arr (g_ 6) 23 ([.int .i64 0, .int .i64 0, .int .i64 0])); rw [bselT (h_b.pre 6 kr_), bselF h_b.no]) (fun g_ X_ => (wn rfl)) rfl (fun g_ X_ => litEv kr_) (fun g_ X_ => litEv kr_) (fun _ => by kernel_rfl) (fun _ => by kernel_rfl) (fun _ => by kernel_rfl) (fun b_ g_ h_b => Eq.trans (b := List.set (((.arr g2 25 (bxs b)) :: (.arr g5 23 (pcs p)) :: (bsel (b_ 6) (.arr (g_ 6) 23 (bsel (b_ 8) [.int .i64 ((b.size).x), .int .i64 ((b.size).y), .int .i64 ((b.size).z)] [.int .i64 0, .int .i64 0, .int .i64 0])) .free) :: (bsel (b_ 7) (.arr (g_ 7) 23 (bsel (b_ 9) [.int .i64 (p.x - b.mn.x), .int .i64 (p.y - b.mn.y), .int .i64 (p.z - b.mn.z)] [.int .i64 0, .int .i64 0, .int .i64 0])) .free) :: [])) 2 (bsel (b_ 6) (Res.arr (g_ 6) 23 ([.int .i64 ((b.size).x), .int .i64 ((b.size).y), .int .i64 ((b.size).z)])) Res.free)) kr_ (congrArg (fun x_ => List.set _ 2 x_) (bselT (h_b.pre 6 kr_) _ _))) rfl) ?_
  refine aoNext rfl (aoStore (gb := fun g_ => (g_ 7)) (k := 0) (cur := fun g_ => [.int .i64 0, .int .i64 0, .int .i64 0]) (vs := fun g_ => pcs (p.sub b.mn)) 3 (fun g_ => [(6, .pointer (some ⟨(g_ 7), 0, none⟩)), (16, .agg (pcs (p.sub b.mn)).toArray)]) (fun g_ a_ h_k => ⟨(h_k.inn 7 _ _ kr_ rfl rfl).trans kr_, (h_k.inn 5 _ _ kr_ rfl rfl).trans kr_, trivial⟩) Ty.ag_voxel_api_Point (fun b_ g_ h_b => by show some (bsel (b_ 7) (Res.arr (g_ 7) 23 (bsel (b_ 9) [.int .i64 (p.x - b.mn.x), .int .i64 (p.y - b.mn.y), .int .i64 (p.z - b.mn.z)] [.int .i64 0, .int .i64 0, .int .i64 0])) Res.free) = some (Res.arr (g_ 7) 23 ([.int .i64 0, .int .i64 0, .int .i64 0])); rw [bselT (h_b.pre 7 kr_), bselF h_b.no]) (fun g_ X_ => (wn rfl)) rfl (fun g_ X_ => litEv kr_) (fun g_ X_ => litEv kr_) (fun _ => by kernel_rfl) (fun _ => by kernel_rfl) (fun _ => by kernel_rfl) (fun b_ g_ h_b => Eq.trans (b := List.set (((.arr g2 25 (bxs b)) :: (.arr g5 23 (pcs p)) :: (bsel (b_ 6) (.arr (g_ 6) 23 (bsel (b_ 8) [.int .i64 ((b.size).x), .int .i64 ((b.size).y), .int .i64 ((b.size).z)] [.int .i64 0, .int .i64 0, .int .i64 0])) .free) :: (bsel (b_ 7) (.arr (g_ 7) 23 (bsel (b_ 9) [.int .i64 (p.x - b.mn.x), .int .i64 (p.y - b.mn.y), .int .i64 (p.z - b.mn.z)] [.int .i64 0, .int .i64 0, .int .i64 0])) .free) :: [])) 3 (bsel (b_ 7) (Res.arr (g_ 7) 23 ([.int .i64 (p.x - b.mn.x), .int .i64 (p.y - b.mn.y), .int .i64 (p.z - b.mn.z)])) Res.free)) kr_ (congrArg (fun x_ => List.set _ 3 x_) (bselT (h_b.pre 7 kr_) _ _))) rfl) ?_
  exact aoDone (by decide)
 intro g_ a_ w16 hF_ hm15
 obtain ⟨X17, rfl⟩ := frLit (⟨hF_.size, hF_.defers, ⟨hF_.o_ 4, hF_.i_ 6, hF_.i_ 7, hF_.i_ 0, hF_.i_ 1, hF_.i_ 2, hF_.i_ 3, hF_.i_ 4, hF_.i_ 5, trivial⟩⟩ : Fr _ 31 [(4, .int .i64 0), (5, .pointer (some ⟨(g_ 6), 0, none⟩)), (6, .pointer (some ⟨(g_ 7), 0, none⟩)), (11, .agg (bxs b).toArray), (12, .agg (pcs (b.size)).toArray), (13, .agg (pcs p).toArray), (14, .pointer (some ⟨g2, 0, none⟩)), (15, .agg (pcs b.mn).toArray), (16, .agg (pcs (p.sub b.mn)).toArray)])
 clear hF_
 have hm18 : Mem w w16 [.arr g2 25 (bxs b), .arr g5 23 (pcs p), .arr (g_ 6) 23 (pcs (b.size)), .arr (g_ 7) 23 (pcs (p.sub b.mn))] := hm15
 clear hm15 hm11
 generalize g_ 6 = g19 at hm18 ⊢
 generalize g_ 7 = g20 at hm18 ⊢
 clear g_
 refine tn_ hK14 ?_
 refine sp_ fun _ hK21 => ?_
 obtain ⟨hi1, hi2, hi3, hi4, hi5, hi6⟩ := idx_bd2 hb (of_decide_eq_true h12)
 refine lp_ g20 2 ?_
 refine lv_ rfl (.int .i64 (p.z - b.mn.z)) (ld_ 2 3 hm18) ?_
 refine lp_ g19 1 ?_
 refine lv_ rfl (.int .i64 ((b.size).y)) (ld_ 1 2 hm18) ?_
 refine lv_ rfl (.int .i64 ((p.z - b.mn.z) * ((b.size).y))) (mulRun' (A := (p.z - b.mn.z)) (B := ((b.size).y)) (C := (p.z - b.mn.z) * ((b.size).y)) (.tmp 18) (.tmp 20) rfl le_ le_ rfl (by omega)) ?_
 refine lp_ g20 1 ?_
 refine lv_ rfl (.int .i64 (p.y - b.mn.y)) (ld_ 1 3 hm18) ?_
 refine lv_ rfl _ (ad_ ((p.z - b.mn.z) * ((b.size).y)) (p.y - b.mn.y)) ?_
 refine lp_ g19 0 ?_
 refine lv_ rfl (.int .i64 ((b.size).x)) (ld_ 0 2 hm18) ?_
 refine lv_ rfl (.int .i64 ((((p.z - b.mn.z) * ((b.size).y)) + (p.y - b.mn.y)) * ((b.size).x))) (mulRun' (A := (((p.z - b.mn.z) * ((b.size).y)) + (p.y - b.mn.y))) (B := ((b.size).x)) (C := (((p.z - b.mn.z) * ((b.size).y)) + (p.y - b.mn.y)) * ((b.size).x)) (.tmp 24) (.tmp 26) rfl le_ le_ rfl (by omega)) ?_
 refine lp_ g20 0 ?_
 refine lv_ rfl (.int .i64 (p.x - b.mn.x)) (ld_ 0 3 hm18) ?_
 refine lv_ rfl _ (ad_ ((((p.z - b.mn.z) * ((b.size).y)) + (p.y - b.mn.y)) * ((b.size).x)) (p.x - b.mn.x)) ?_
 refine li_ (((((p.z - b.mn.z) * ((b.size).y)) + (p.y - b.mn.y)) * ((b.size).x)) + (p.x - b.mn.x)) ?_
 refine pt_ hK21 ?_
 refine wpPrune [(4, .int .i64 (((((p.z - b.mn.z) * ((b.size).y)) + (p.y - b.mn.y)) * ((b.size).x)) + (p.x - b.mn.x)))] fo_ (fun X22 => ?_)
 refine wp_ret ?_
 refine br_ 4 (.int .i64 (((((p.z - b.mn.z) * ((b.size).y)) + (p.y - b.mn.y)) * ((b.size).x)) + (p.x - b.mn.x))) ?_
 exact ⟨congrArg (fun n_ => Ending.returned (.int .i64 n_)) (bidx_swap b p (of_decide_eq_true h12) (idx_bd hb (of_decide_eq_true h12)).1), hm18.bel⟩
theorem isNaN_any (n : Int) (w : World) : Calls Tryz.prog 91 #[.int .i64 n] w (RetV w (.bool false)) := by
 have hm0 := Mem.nil w
 go_enter Tryz.func91, Tryz.ntmps91
 refine litStart 6 [(0, .int .i64 n)] kr_ (fun X0 => ?_)
 refine sp_ fun _ hK1 => ?_
 refine lF_ ?_
 refine pt_ hK1 ?_
 refine sp_ fun _ hK2 => ?_
 refine li_ n ?_
 refine li_ n ?_
 refine lv_ rfl (.bool false) (boolTo (by simp) (neqRun (A := n) (B := n) (.tmp 3) (.tmp 4) rfl le_ le_)) ?_
 refine lF_ ?_
 refine pt_ hK2 ?_
 refine wp_ret ?_
 refine br_ 2 (.bool false) ?_
 exact ⟨by rfl, hm0.bel⟩
theorem cmp_any (x y : Int) (w : World) : Calls Tryz.prog 57 #[.int .i64 x, .int .i64 y] w (RetV w (.int .i64 (cmpI x y))) := by
 have hm0 := Mem.nil w
 go_enter Tryz.func57, Tryz.ntmps57
 refine litStart 20 [(0, .int .i64 x), (1, .int .i64 y)] kr_ (fun X0 => ?_)
 refine sp_ fun _ hK1 => ?_
 refine li_ 0 ?_
 refine pt_ hK1 ?_
 refine sp_ fun _ hK2 => ?_
 refine li_ x ?_
 refine plCall (i := 1) 91 [.int .i64 x] [] [] rfl kr_ (wn rfl) rfl le_ (litArgs kr_) (isNaN_any x _) ?_
 rintro e w3 ⟨rfl, hbz⟩
 have hm4 := hm0.below hbz
 clear hbz hm0
 refine ⟨_, rfl, ?_⟩
 refine qP rfl ?_
 refine lF_ ?_
 refine pt_ hK2 ?_
 refine sp_ fun _ hK5 => ?_
 refine li_ y ?_
 refine plCall (i := 1) 91 [.int .i64 y] [] [] rfl kr_ (wn rfl) rfl le_ (litArgs kr_) (isNaN_any y _) ?_
 rintro e w6 ⟨rfl, hbz⟩
 have hm7 := hm4.below hbz
 clear hbz hm4
 refine ⟨_, rfl, ?_⟩
 refine qP rfl ?_
 refine lF_ ?_
 refine pt_ hK5 ?_
 refine sk_ fun _ hK8 => ?_
 refine sp_ fun _ hK9 => ?_
 refine lF_ ?_
 refine pt_ hK9 ?_
 refine wp_cond_false le_ ?_
 refine wp_skip ?_
 refine tn_ hK8 ?_
 refine sk_ fun _ hK10 => ?_
 refine sp_ fun _ hK11 => ?_
 refine lF_ ?_
 refine pt_ hK11 ?_
 refine wp_cond_false le_ ?_
 refine wp_skip ?_
 refine tn_ hK10 ?_
 refine sk_ fun _ hK12 => ?_
 refine sp_ fun _ hK13 => ?_
 refine li_ x ?_
 refine li_ y ?_
 by_cases h14 : x < y
 ·refine lv_ rfl _ (lsT_ h14) ?_
  refine pt_ hK13 ?_
  refine wp_cond_true le_ ?_
  refine sp_ fun _ hK15 => ?_
  refine li_ (-1) ?_
  refine pt_ hK15 ?_
  refine wp_ret ?_
  refine then_ret ?_
  refine br_ 4 (.int .i64 (-1)) ?_
  exact ⟨congrArg (fun n_ => Ending.returned (.int .i64 n_)) (show (-1 : Int) = cmpI x y by unfold cmpI; rw [if_pos h14]), hm7.bel⟩
 refine lv_ rfl _ (lsF_ h14) ?_
 refine pt_ hK13 ?_
 refine wp_cond_false le_ ?_
 refine wp_skip ?_
 refine tn_ hK12 ?_
 refine sk_ fun _ hK16 => ?_
 refine sp_ fun _ hK17 => ?_
 refine li_ x ?_
 refine li_ y ?_
 by_cases h18 : y < x
 ·refine lv_ rfl _ (gtT_ h18) ?_
  refine pt_ hK17 ?_
  refine wpPrune [(4, .int .i64 0), (19, .bool true)] fo_ (fun X19 => ?_)
  refine wp_cond_true le_ ?_
  refine sp_ fun _ hK20 => ?_
  refine li_ 1 ?_
  refine pt_ hK20 ?_
  refine wp_ret ?_
  refine then_ret ?_
  refine br_ 4 (.int .i64 1) ?_
  exact ⟨congrArg (fun n_ => Ending.returned (.int .i64 n_)) (show 1 = cmpI x y by unfold cmpI; rw [if_neg h14, if_pos h18]), hm7.bel⟩
 refine lv_ rfl _ (gtF_ h18) ?_
 refine pt_ hK17 ?_
 refine wpPrune [(4, .int .i64 0), (19, .bool false)] fo_ (fun X21 => ?_)
 refine wp_cond_false le_ ?_
 refine wp_skip ?_
 refine tn_ hK16 ?_
 refine sp_ fun _ hK22 => ?_
 refine li_ 0 ?_
 refine pt_ hK22 ?_
 refine wp_ret ?_
 refine br_ 4 (.int .i64 0) ?_
 exact ⟨congrArg (fun n_ => Ending.returned (.int .i64 n_)) (show 0 = cmpI x y by unfold cmpI; rw [if_neg h14, if_neg h18]), hm7.bel⟩
theorem side_any (w : World) : Calls Tryz.prog 129 #[.int .i64 0] w (RetV w (.int .i64 4)) := by
 have hm0 := Mem.nil w
 go_enter Tryz.func129, Tryz.ntmps129
 refine litStart 5 [(0, .int .i64 0)] kr_ (fun X0 => ?_)
 refine sp_ fun _ hK1 => ?_
 refine li_ 0 ?_
 refine pt_ hK1 ?_
 refine sp_ fun _ hK2 => ?_
 refine li_ 0 ?_
 refine li_ 4 ?_
 refine li_ 4 ?_
 refine pt_ hK2 ?_
 refine wp_ret ?_
 refine br_ 2 (.int .i64 4) ?_
 exact ⟨by rfl, hm0.bel⟩
theorem box_any (k : Nat) (w : World) : Calls Tryz.prog 110 #[.agg (tlc (tlK k)).toArray] w (RetV w (.agg (bxs ((cubeB 4).shift (tlP k))).toArray)) := by
 have ht_ := tlP_bd k
 have hm0 := Mem.nil w
 go_enter Tryz.func110, Tryz.ntmps110
 refine litStart 10 [(0, .agg (tlc (tlK k)).toArray)] kr_ (fun X0 => ?_)
 refine sp_ fun _ hK1 => ?_
 refine plBox hm0 (cs := tlc (tlK k)) (i := 0) rfl (wn rfl) rfl le_ ?_
 intro g2 w4 hm3
 clear hm0
 try simp only [lc_] at hm3
 refine qP rfl ?_
 refine plAlloc (z := [.int .i64 0, .int .i64 0, .int .i64 0, .int .i64 0, .int .i64 0, .int .i64 0]) Ty.ag_voxel_api_Box hm3 (i := 1) rfl (wn rfl) rfl ?_
 intro g5 w7 hm6
 clear hm3
 try simp only [lc_] at hm6
 refine qP rfl ?_
 refine pt_ hK1 ?_
 refine sk_ fun _ hK8 => ?_
 refine aoStart (aoV [fun _ => .pointer (some ⟨g2, 0, none⟩), fun _ => .int .i64 0, fun _ => .int .i64 4, fun _ => .agg (bxs (cubeB 4)).toArray, fun _ => .pointer (some ⟨g2, 1, none⟩), fun _ => .agg (pcs (tlP k)).toArray, fun _ => .agg (bxs ((cubeB 4).shift (tlP k))).toArray, fun _ => undef]) (aoA [[], [], [], [], [], [], [], []]) (fun b_ g_ => ((.arr g2 63 (tlc (tlK k))) :: (.arr g5 25 (bsel (b_ 7) [.int .i64 (((cubeB 4).shift (tlP k)).mn.x), .int .i64 (((cubeB 4).shift (tlP k)).mn.y), .int .i64 (((cubeB 4).shift (tlP k)).mn.z), .int .i64 (((cubeB 4).shift (tlP k)).mx.x), .int .i64 (((cubeB 4).shift (tlP k)).mx.y), .int .i64 (((cubeB 4).shift (tlP k)).mx.z)] [.int .i64 0, .int .i64 0, .int .i64 0, .int .i64 0, .int .i64 0, .int .i64 0])) :: [])) hm6 kr_ kr_ (fun w_ h_ => h_) (fun b_ g_ h_ => by show (fun (x7_ : Bool) => (((.arr g2 63 (tlc (tlK k))) :: (.arr g5 25 (bsel x7_ [.int .i64 (((cubeB 4).shift (tlP k)).mn.x), .int .i64 (((cubeB 4).shift (tlP k)).mn.y), .int .i64 (((cubeB 4).shift (tlP k)).mn.z), .int .i64 (((cubeB 4).shift (tlP k)).mx.x), .int .i64 (((cubeB 4).shift (tlP k)).mx.y), .int .i64 (((cubeB 4).shift (tlP k)).mx.z)] [.int .i64 0, .int .i64 0, .int .i64 0, .int .i64 0, .int .i64 0, .int .i64 0])) :: []) : List Res)) (b_ 7) = _; rw [h_ 7 (by decide)]) ?_ ?_
 ·refine aoNext rfl aoK_ ?_
  refine aoNext rfl (aoV_ (fun b_ g_ X_ w_ h_b h_ => valTo (b := .int .i64 0) kr_ ((fun (h_ : Mem _ w_ ((.arr g2 63 (tlc (tlK k))) :: (.arr g5 25 ([.int .i64 0, .int .i64 0, .int .i64 0, .int .i64 0, .int .i64 0, .int .i64 0])) :: [])) => gLoad (v := .int .i64 0) (k := 0) 0 h_ rfl kr_ (.tmp 3) kr_ rfl le_) (by have h2_ : Mem w w_ ((.arr g2 63 (tlc (tlK k))) :: (.arr g5 25 (bsel (b_ 7) [.int .i64 (((cubeB 4).shift (tlP k)).mn.x), .int .i64 (((cubeB 4).shift (tlP k)).mn.y), .int .i64 (((cubeB 4).shift (tlP k)).mn.z), .int .i64 (((cubeB 4).shift (tlP k)).mx.x), .int .i64 (((cubeB 4).shift (tlP k)).mx.y), .int .i64 (((cubeB 4).shift (tlP k)).mx.z)] [.int .i64 0, .int .i64 0, .int .i64 0, .int .i64 0, .int .i64 0, .int .i64 0])) :: []) := h_; rw [bselF (h_b.post 7 kr_)] at h2_; exact h2_)))) ?_
  refine aoNext rfl (aoC_ 129 (fun g_ => [.int .i64 0]) [] [] (fun b_ g_ w_ h_b h_ => (side_any _).mono (fun _ _ h_r => ⟨h_r.1.trans kr_, h_r.2⟩))) ?_
  refine aoNext rfl (aoC_ 87 (fun g_ => [.int .i64 4]) [] [] (fun b_ g_ w_ h_b h_ => (cube_any 4 _).mono (fun _ _ h_r => ⟨h_r.1.trans kr_, h_r.2⟩))) ?_
  refine aoNext rfl aoK_ ?_
  refine aoNext rfl (aoV_ (fun b_ g_ X_ w_ h_b h_ => valTo (b := .agg (pcs (tlP k)).toArray) kr_ ((fun (h_ : Mem _ w_ ((.arr g2 63 (tlc (tlK k))) :: (.arr g5 25 ([.int .i64 0, .int .i64 0, .int .i64 0, .int .i64 0, .int .i64 0, .int .i64 0])) :: [])) => gLoadAg (vs := pcs (tlP k)) (k := 1) 0 h_ rfl kr_ kr_ (.tmp 7) Ty.ag_voxel_api_Point rfl le_) (by have h2_ : Mem w w_ ((.arr g2 63 (tlc (tlK k))) :: (.arr g5 25 (bsel (b_ 7) [.int .i64 (((cubeB 4).shift (tlP k)).mn.x), .int .i64 (((cubeB 4).shift (tlP k)).mn.y), .int .i64 (((cubeB 4).shift (tlP k)).mn.z), .int .i64 (((cubeB 4).shift (tlP k)).mx.x), .int .i64 (((cubeB 4).shift (tlP k)).mx.y), .int .i64 (((cubeB 4).shift (tlP k)).mx.z)] [.int .i64 0, .int .i64 0, .int .i64 0, .int .i64 0, .int .i64 0, .int .i64 0])) :: []) := h_; rw [bselF (h_b.post 7 kr_)] at h2_; exact h2_)))) ?_
  refine aoNext rfl (aoC_ 128 (fun g_ => [.agg (bxs (cubeB 4)).toArray, .agg (pcs (tlP k)).toArray]) [] [] (fun b_ g_ w_ h_b h_ => (shift_any (cubeB 4) (tlP k) (by decide) (by omega) _).mono (fun _ _ h_r => ⟨h_r.1.trans kr_, h_r.2⟩))) ?_
  refine aoNext rfl (aoStore (gb := fun g_ => g5) (k := 0) (cur := fun g_ => [.int .i64 0, .int .i64 0, .int .i64 0, .int .i64 0, .int .i64 0, .int .i64 0]) (vs := fun g_ => bxs ((cubeB 4).shift (tlP k))) 1 (fun g_ => [(2, .pointer (some ⟨g5, 0, none⟩)), (9, .agg (bxs ((cubeB 4).shift (tlP k))).toArray)]) (fun g_ a_ h_k => ⟨(h_k.out 2 kr_).trans (lg_), (h_k.inn 6 _ _ kr_ rfl rfl).trans kr_, trivial⟩) Ty.ag_voxel_api_Box (fun b_ g_ h_b => by show some (Res.arr g5 25 (bsel (b_ 7) [.int .i64 (((cubeB 4).shift (tlP k)).mn.x), .int .i64 (((cubeB 4).shift (tlP k)).mn.y), .int .i64 (((cubeB 4).shift (tlP k)).mn.z), .int .i64 (((cubeB 4).shift (tlP k)).mx.x), .int .i64 (((cubeB 4).shift (tlP k)).mx.y), .int .i64 (((cubeB 4).shift (tlP k)).mx.z)] [.int .i64 0, .int .i64 0, .int .i64 0, .int .i64 0, .int .i64 0, .int .i64 0])) = some (Res.arr g5 25 ([.int .i64 0, .int .i64 0, .int .i64 0, .int .i64 0, .int .i64 0, .int .i64 0])); rw [bselF h_b.no]) (fun g_ X_ => (wn rfl)) rfl (fun g_ X_ => litEv kr_) (fun g_ X_ => litEv kr_) (fun _ => by kernel_rfl) (fun _ => by kernel_rfl) (fun _ => by kernel_rfl) (fun b_ g_ h_b => by kernel_rfl) rfl) ?_
  exact aoDone (by decide)
 intro g_ a_ w10 hF_ hm9
 obtain ⟨X11, rfl⟩ := frLit (⟨hF_.size, hF_.defers, ⟨hF_.o_ 2, hF_.i_ 0, hF_.i_ 1, hF_.i_ 2, hF_.i_ 3, hF_.i_ 4, hF_.i_ 5, hF_.i_ 6, trivial⟩⟩ : Fr _ 10 [(2, .pointer (some ⟨g5, 0, none⟩)), (3, .pointer (some ⟨g2, 0, none⟩)), (4, .int .i64 0), (5, .int .i64 4), (6, .agg (bxs (cubeB 4)).toArray), (7, .pointer (some ⟨g2, 1, none⟩)), (8, .agg (pcs (tlP k)).toArray), (9, .agg (bxs ((cubeB 4).shift (tlP k))).toArray)])
 clear hF_
 have hm12 : Mem w w10 [.arr g2 63 (tlc (tlK k)), .arr g5 25 (bxs ((cubeB 4).shift (tlP k)))] := hm9
 clear hm9 hm6
 refine tn_ hK8 ?_
 refine wp_ret ?_
 refine bodyPost_ret (v := .agg (bxs ((cubeB 4).shift (tlP k))).toArray) (gRes1 rfl (gResAg (cs := bxs ((cubeB 4).shift (tlP k))) 1 hm12 rfl Ty.ag_voxel_api_Box rfl (lg_))) rfl ?_
 exact ⟨by rfl, hm12.bel⟩
theorem at_any (b : Bx) (i : Int) (hb : b.rng) (hi : 0 ≤ i ∧ i < b.vol) (w : World) : Calls Tryz.prog 32 #[.agg (bxs b).toArray, .int .i64 i] w (RetV w (.tuple #[.agg (pcs (b.cell i)).toArray, .bool true])) := by
 have hb_ := hb
 unfold Bx.rng Pt.rng at hb_
 have hs_ := size_bd hb
 obtain ⟨hp1, hp2, hp3⟩ := vol_pos hb hi.1 hi.2
 obtain ⟨hc1, hc2, hc3, hc4⟩ := cell_bd hb hi.1 hi.2
 have hvb := (vol_bd hb).2
 have hx1 : -9223372036854775808 ≤ b.mn.x + i % b.size.x ∧ b.mn.x + i % b.size.x ≤ 9223372036854775807 := by omega
 have hy1 : -9223372036854775808 ≤ b.mn.y + i / b.size.x % b.size.y ∧ b.mn.y + i / b.size.x % b.size.y ≤ 9223372036854775807 := by omega
 have hz1 : -9223372036854775808 ≤ b.mn.z + i / b.size.x / b.size.y ∧ b.mn.z + i / b.size.x / b.size.y ≤ 9223372036854775807 := by omega
 have hm0 := Mem.nil w
 go_enter Tryz.func32, Tryz.ntmps32
 refine litStart 39 [(0, .agg (bxs b).toArray), (1, .int .i64 i)] kr_ (fun X0 => ?_)
 refine sp_ fun _ hK1 => ?_
 refine plBox hm0 (cs := bxs b) (i := 0) rfl (wn rfl) rfl le_ ?_
 intro g2 w4 hm3
 clear hm0
 try simp only [lc_] at hm3
 refine qP rfl ?_
 refine plAlloc (z := [.int .i64 0, .int .i64 0, .int .i64 0]) Ty.ag_voxel_api_Point hm3 (i := 1) rfl (wn rfl) rfl ?_
 intro g5 w7 hm6
 clear hm3
 try simp only [lc_] at hm6
 refine qP rfl ?_
 refine lF_ ?_
 refine pt_ hK1 ?_
 refine sk_ fun _ hK8 => ?_
 refine sp_ fun _ hK9 => ?_
 refine li_ i ?_
 refine lv_ rfl _ (lsF_ (show ¬ i < 0 by omega)) ?_
 refine lF_ ?_
 refine lw_ rfl (.int .i64 i) (litRun kr_) ?_
 refine lw_ rfl (.agg (bxs b).toArray) (la_ 0 0 hm6 Ty.ag_voxel_api_Box) ?_
 refine plCall (i := 5) 31 [.agg (bxs b).toArray] [] [] rfl kr_ (wgY rfl rfl rfl (by decide) kr_) rfl le_ (litArgs kr_) (pvol_any b hb _) ?_
 rintro e w10 ⟨rfl, hbz⟩
 have hm11 := hm6.below hbz
 clear hbz hm6
 refine ⟨_, rfl, ?_⟩
 refine qP rfl ?_
 refine lw_ rfl _ (geF_ (show ¬ b.vol ≤ i by omega)) ?_
 refine lF_ ?_
 refine pt_ hK9 ?_
 refine wp_cond_false le_ ?_
 refine wp_skip ?_
 refine tn_ hK8 ?_
 refine sp_ fun _ hK12 => ?_
 refine lv_ rfl (.agg (bxs b).toArray) (la_ 0 0 hm11 Ty.ag_voxel_api_Box) ?_
 refine plCall (i := 1) 74 [.agg (bxs b).toArray] [] [] rfl kr_ (wn rfl) rfl le_ (litArgs kr_) (psize_any b hb _) ?_
 rintro e w13 ⟨rfl, hbz⟩
 have hm14 := hm11.below hbz
 clear hbz hm11
 refine ⟨_, rfl, ?_⟩
 refine qP rfl ?_
 refine plAlloc (z := [.int .i64 0, .int .i64 0, .int .i64 0]) Ty.ag_voxel_api_Point hm14 (i := 2) rfl (wn rfl) rfl ?_
 intro g15 w17 hm16
 clear hm14
 try simp only [lc_] at hm16
 refine qP rfl ?_
 refine plStore 2 Ty.ag_voxel_api_Point hm16 rfl (i := 3) (cs := pcs (b.size)) rfl (wn rfl) rfl le_ le_ rfl rfl kr_ ?_
 intro w19 hm18
 clear hm16
 try simp only [lc_] at hm18
 refine qNone rfl ?_
 refine pt_ hK12 ?_
 refine sp_ fun _ hK20 => ?_
 refine li_ i ?_
 refine lp_ g15 0 ?_
 refine lv_ rfl (.int .i64 ((b.size).x)) (ld_ 0 2 hm18) ?_
 refine lv_ rfl (.int .i64 (i / ((b.size).x))) (gQuo (A := i) (B := ((b.size).x)) (C := i / ((b.size).x)) (.tmp 19) (.tmp 21) rfl le_ le_ rfl (by omega) (by omega)) ?_
 refine li_ (i / ((b.size).x)) ?_
 refine pt_ hK20 ?_
 refine wpPrune [(1, .int .i64 i), (2, .pointer (some ⟨g2, 0, none⟩)), (4, .pointer (some ⟨g5, 0, none⟩)), (5, .bool false), (6, .pointer (some ⟨g15, 0, none⟩)), (7, .int .i64 (i / ((b.size).x)))] fo_ (fun X21 => ?_)
 refine sk_ fun _ hK22 => ?_
 refine aoStart (aoV [fun _ => .pointer (some ⟨g2, 0, none⟩), fun _ => .agg (pcs b.mn).toArray, fun _ => .int .i64 i, fun _ => .pointer (some ⟨g15, 0, none⟩), fun _ => .int .i64 ((b.size).x), fun _ => .int .i64 (i % ((b.size).x)), fun _ => .int .i64 (i / ((b.size).x)), fun _ => .pointer (some ⟨g15, 1, none⟩), fun _ => .int .i64 ((b.size).y), fun _ => .int .i64 ((i / ((b.size).x)) % ((b.size).y)), fun _ => .int .i64 (i / ((b.size).x)), fun _ => .pointer (some ⟨g15, 1, none⟩), fun _ => .int .i64 ((b.size).y), fun _ => .int .i64 ((i / ((b.size).x)) / ((b.size).y)), fun _ => .agg (pcs ⟨i % ((b.size).x), (i / ((b.size).x)) % ((b.size).y), (i / ((b.size).x)) / ((b.size).y)⟩).toArray, fun _ => .agg (pcs (b.cell i)).toArray, fun _ => undef, fun _ => .bool true]) (aoA [[], [], [], [], [], [], [], [], [], [], [], [], [], [], [], [], [], []]) (fun b_ g_ => ((.arr g2 25 (bxs b)) :: (.arr g5 23 (bsel (b_ 16) [.int .i64 ((b.cell i).x), .int .i64 ((b.cell i).y), .int .i64 ((b.cell i).z)] [.int .i64 0, .int .i64 0, .int .i64 0])) :: (.arr g15 23 (pcs (b.size))) :: [])) hm18 kr_ kr_ (fun w_ h_ => h_) (fun b_ g_ h_ => by show (fun (x16_ : Bool) => (((.arr g2 25 (bxs b)) :: (.arr g5 23 (bsel x16_ [.int .i64 ((b.cell i).x), .int .i64 ((b.cell i).y), .int .i64 ((b.cell i).z)] [.int .i64 0, .int .i64 0, .int .i64 0])) :: (.arr g15 23 (pcs (b.size))) :: []) : List Res)) (b_ 16) = _; rw [h_ 16 (by decide)]) ?_ ?_
 ·refine aoNext rfl aoK_ ?_
  refine aoNext rfl (aoV_ (fun b_ g_ X_ w_ h_b h_ => valTo (b := .agg (pcs b.mn).toArray) kr_ ((fun (h_ : Mem _ w_ ((.arr g2 25 (bxs b)) :: (.arr g5 23 ([.int .i64 0, .int .i64 0, .int .i64 0])) :: (.arr g15 23 (pcs (b.size))) :: [])) => gLoadAg (vs := pcs b.mn) (k := 0) 0 h_ rfl kr_ kr_ (.tmp 23) Ty.ag_voxel_api_Point rfl le_) (by have h2_ : Mem w w_ ((.arr g2 25 (bxs b)) :: (.arr g5 23 (bsel (b_ 16) [.int .i64 ((b.cell i).x), .int .i64 ((b.cell i).y), .int .i64 ((b.cell i).z)] [.int .i64 0, .int .i64 0, .int .i64 0])) :: (.arr g15 23 (pcs (b.size))) :: []) := h_; rw [bselF (h_b.post 16 kr_)] at h2_; exact h2_)))) ?_
  refine aoNext rfl aoK_ ?_
  refine aoNext rfl aoK_ ?_
  refine aoNext rfl (aoV_ (fun b_ g_ X_ w_ h_b h_ => valTo (b := .int .i64 ((b.size).x)) kr_ ((fun (h_ : Mem _ w_ ((.arr g2 25 (bxs b)) :: (.arr g5 23 ([.int .i64 0, .int .i64 0, .int .i64 0])) :: (.arr g15 23 (pcs (b.size))) :: [])) => gLoad (v := .int .i64 ((b.size).x)) (k := 0) 2 h_ rfl kr_ (.tmp 26) kr_ rfl le_) (by have h2_ : Mem w w_ ((.arr g2 25 (bxs b)) :: (.arr g5 23 (bsel (b_ 16) [.int .i64 ((b.cell i).x), .int .i64 ((b.cell i).y), .int .i64 ((b.cell i).z)] [.int .i64 0, .int .i64 0, .int .i64 0])) :: (.arr g15 23 (pcs (b.size))) :: []) := h_; rw [bselF (h_b.post 16 kr_)] at h2_; exact h2_)))) ?_
  refine aoNext rfl (aoV_ (fun b_ g_ X_ w_ h_b h_ => valTo (b := .int .i64 (i % ((b.size).x))) kr_ (gRem (A := i) (B := ((b.size).x)) (C := i % ((b.size).x)) (.tmp 25) (.tmp 27) rfl le_ le_ rfl (by omega) (by omega)))) ?_
  refine aoNext rfl aoK_ ?_
  refine aoNext rfl aoK_ ?_
  refine aoNext rfl (aoV_ (fun b_ g_ X_ w_ h_b h_ => valTo (b := .int .i64 ((b.size).y)) kr_ ((fun (h_ : Mem _ w_ ((.arr g2 25 (bxs b)) :: (.arr g5 23 ([.int .i64 0, .int .i64 0, .int .i64 0])) :: (.arr g15 23 (pcs (b.size))) :: [])) => gLoad (v := .int .i64 ((b.size).y)) (k := 1) 2 h_ rfl kr_ (.tmp 30) kr_ rfl le_) (by have h2_ : Mem w w_ ((.arr g2 25 (bxs b)) :: (.arr g5 23 (bsel (b_ 16) [.int .i64 ((b.cell i).x), .int .i64 ((b.cell i).y), .int .i64 ((b.cell i).z)] [.int .i64 0, .int .i64 0, .int .i64 0])) :: (.arr g15 23 (pcs (b.size))) :: []) := h_; rw [bselF (h_b.post 16 kr_)] at h2_; exact h2_)))) ?_
  refine aoNext rfl (aoV_ (fun b_ g_ X_ w_ h_b h_ => valTo (b := .int .i64 ((i / ((b.size).x)) % ((b.size).y))) kr_ (gRem (A := (i / ((b.size).x))) (B := ((b.size).y)) (C := (i / ((b.size).x)) % ((b.size).y)) (.tmp 29) (.tmp 31) rfl le_ le_ rfl (by omega) (by omega)))) ?_
  refine aoNext rfl aoK_ ?_
  refine aoNext rfl aoK_ ?_
  refine aoNext rfl (aoV_ (fun b_ g_ X_ w_ h_b h_ => valTo (b := .int .i64 ((b.size).y)) kr_ ((fun (h_ : Mem _ w_ ((.arr g2 25 (bxs b)) :: (.arr g5 23 ([.int .i64 0, .int .i64 0, .int .i64 0])) :: (.arr g15 23 (pcs (b.size))) :: [])) => gLoad (v := .int .i64 ((b.size).y)) (k := 1) 2 h_ rfl kr_ (.tmp 34) kr_ rfl le_) (by have h2_ : Mem w w_ ((.arr g2 25 (bxs b)) :: (.arr g5 23 (bsel (b_ 16) [.int .i64 ((b.cell i).x), .int .i64 ((b.cell i).y), .int .i64 ((b.cell i).z)] [.int .i64 0, .int .i64 0, .int .i64 0])) :: (.arr g15 23 (pcs (b.size))) :: []) := h_; rw [bselF (h_b.post 16 kr_)] at h2_; exact h2_)))) ?_
  refine aoNext rfl (aoV_ (fun b_ g_ X_ w_ h_b h_ => valTo (b := .int .i64 ((i / ((b.size).x)) / ((b.size).y))) kr_ (gQuo (A := (i / ((b.size).x))) (B := ((b.size).y)) (C := (i / ((b.size).x)) / ((b.size).y)) (.tmp 33) (.tmp 35) rfl le_ le_ rfl (by omega) (by omega)))) ?_
  refine aoNext rfl aoK_ ?_
  refine aoNext rfl (aoC_ 27 (fun g_ => [.agg (pcs b.mn).toArray, .agg (pcs ⟨i % ((b.size).x), (i / ((b.size).x)) % ((b.size).y), (i / ((b.size).x)) / ((b.size).y)⟩).toArray]) [] [] (fun b_ g_ w_ h_b h_ => (add_any b.mn ⟨i % b.size.x, i / b.size.x % b.size.y, i / b.size.x / b.size.y⟩ hx1 hy1 hz1 _).mono (fun _ _ h_r => ⟨h_r.1.trans kr_, h_r.2⟩))) ?_
  refine aoNext rfl (aoStore (gb := fun g_ => g5) (k := 0) (cur := fun g_ => [.int .i64 0, .int .i64 0, .int .i64 0]) (vs := fun g_ => pcs (b.cell i)) 1 (fun g_ => [(4, .pointer (some ⟨g5, 0, none⟩)), (38, .agg (pcs (b.cell i)).toArray)]) (fun g_ a_ h_k => ⟨(h_k.out 4 kr_).trans (lg_), (h_k.inn 15 _ _ kr_ rfl rfl).trans kr_, trivial⟩) Ty.ag_voxel_api_Point (fun b_ g_ h_b => by show some (Res.arr g5 23 (bsel (b_ 16) [.int .i64 ((b.cell i).x), .int .i64 ((b.cell i).y), .int .i64 ((b.cell i).z)] [.int .i64 0, .int .i64 0, .int .i64 0])) = some (Res.arr g5 23 ([.int .i64 0, .int .i64 0, .int .i64 0])); rw [bselF h_b.no]) (fun g_ X_ => (wn rfl)) rfl (fun g_ X_ => litEv kr_) (fun g_ X_ => litEv kr_) (fun _ => by kernel_rfl) (fun _ => by kernel_rfl) (fun _ => by kernel_rfl) (fun b_ g_ h_b => by kernel_rfl) rfl) ?_
  refine aoNext rfl aoK_ ?_
  exact aoDone (by decide)
 intro g_ a_ w24 hF_ hm23
 obtain ⟨X25, rfl⟩ := frLit (⟨hF_.size, hF_.defers, ⟨hF_.o_ 4, hF_.i_ 17, hF_.i_ 0, hF_.i_ 1, hF_.i_ 2, hF_.i_ 3, hF_.i_ 4, hF_.i_ 5, hF_.i_ 6, hF_.i_ 7, hF_.i_ 8, hF_.i_ 9, hF_.i_ 10, hF_.i_ 11, hF_.i_ 12, hF_.i_ 13, hF_.i_ 14, hF_.i_ 15, trivial⟩⟩ : Fr _ 39 [(4, .pointer (some ⟨g5, 0, none⟩)), (5, .bool true), (23, .pointer (some ⟨g2, 0, none⟩)), (24, .agg (pcs b.mn).toArray), (25, .int .i64 i), (26, .pointer (some ⟨g15, 0, none⟩)), (27, .int .i64 ((b.size).x)), (28, .int .i64 (i % ((b.size).x))), (29, .int .i64 (i / ((b.size).x))), (30, .pointer (some ⟨g15, 1, none⟩)), (31, .int .i64 ((b.size).y)), (32, .int .i64 ((i / ((b.size).x)) % ((b.size).y))), (33, .int .i64 (i / ((b.size).x))), (34, .pointer (some ⟨g15, 1, none⟩)), (35, .int .i64 ((b.size).y)), (36, .int .i64 ((i / ((b.size).x)) / ((b.size).y))), (37, .agg (pcs ⟨i % ((b.size).x), (i / ((b.size).x)) % ((b.size).y), (i / ((b.size).x)) / ((b.size).y)⟩).toArray), (38, .agg (pcs (b.cell i)).toArray)])
 clear hF_
 have hm26 : Mem w w24 [.arr g2 25 (bxs b), .arr g5 23 (pcs (b.cell i)), .arr g15 23 (pcs (b.size))] := hm23
 clear hm23 hm18
 refine tn_ hK22 ?_
 refine wpPrune [(4, .pointer (some ⟨g5, 0, none⟩)), (5, .bool true)] fo_ (fun X27 => ?_)
 refine wp_ret ?_
 refine bodyPost_ret (v := .tuple #[.agg (pcs (b.cell i)).toArray, .bool true]) (gRes2 rfl (gResAg (cs := pcs (b.cell i)) 1 hm26 rfl Ty.ag_voxel_api_Point rfl (lg_)) (gResTmp (t := 5) (v := .bool true) (lg_))) rfl ?_
 exact ⟨by rfl, hm26.bel⟩
def cho (p : Pt) (c : Int) : List Value := pcs p ++ [.int .i64 1, .int .i64 c]
theorem at4_any (i : Nat) (h : i < 64) (w : World) : Calls Tryz.prog 32 #[.agg (bxs (cubeB 4)).toArray, .int .i64 (i : Int)] w (RetV w (.tuple #[.agg (pcs (brk i)).toArray, .bool true])) := by
 rw [← cube4_cell h]
 exact at_any (cubeB 4) i cube4.1 (by rw [cube4.2.1]; omega) w
theorem idx4 {p : Pt} (h : inC 4 p) : (cubeB 4).idx p = p.x + 4 * p.y + 16 * p.z := by
 unfold inC at h
 unfold Bx.idx
 rw [if_pos (by unfold Bx.has cubeB p0; simp only; omega), cube4.2.2]
 unfold cubeB p0
 simp only
 omega
theorem chosen_any (k i : Nat) (hi : i < 64) (x : Sl3) (c : Int) (hc : x.l[i]? = some c) (w : World) (hrd : Rd w w.heap.size 1 x.A 64 x.c (ics x.l)) : Calls Tryz.prog 51 #[.agg (tlc (tlK k)).toArray, .slice x.A 64 x.c, .int .i64 (i : Int)] w (RetV w (.agg (cho (posP k i) c).toArray)) := by
 have ht_ := tlP_bd k
 have hb_ := brk_bd hi
 have hx1 : -9223372036854775808 ≤ (tlP k).x + ((brk i).mul 1).x ∧ (tlP k).x + ((brk i).mul 1).x ≤ 9223372036854775807 := by unfold Pt.mul; simp only; omega
 have hy1 : -9223372036854775808 ≤ (tlP k).y + ((brk i).mul 1).y ∧ (tlP k).y + ((brk i).mul 1).y ≤ 9223372036854775807 := by unfold Pt.mul; simp only; omega
 have hz1 : -9223372036854775808 ≤ (tlP k).z + ((brk i).mul 1).z ∧ (tlP k).z + ((brk i).mul 1).z ≤ 9223372036854775807 := by unfold Pt.mul; simp only; omega
 obtain ⟨A_, c_, l_⟩ := x
 simp only at hrd hc
 obtain ⟨bk_, of_, rfl, _, _⟩ := hrd.cells (by decide)
 have hm0 := Mem.nil w
 go_enter Tryz.func51, Tryz.ntmps51
 refine litStart 31 [(0, .agg (tlc (tlK k)).toArray), (1, .slice (some ⟨bk_, of_, none⟩) 64 c_), (2, .int .i64 (i : Int))] kr_ (fun X0 => ?_)
 refine sp_ fun _ hK1 => ?_
 refine plBox hm0 (cs := tlc (tlK k)) (i := 0) rfl (wn rfl) rfl le_ ?_
 intro g2 w4 hm3
 clear hm0
 try simp only [lc_] at hm3
 refine qP rfl ?_
 refine plAlloc (z := [.int .i64 0, .int .i64 0, .int .i64 0, .int .i64 0, .int .i64 0]) Ty.ag_voxel_api_Chosen hm3 (i := 1) rfl (wn rfl) rfl ?_
 intro g5 w7 hm6
 clear hm3
 try simp only [lc_] at hm6
 refine qP rfl ?_
 refine pt_ hK1 ?_
 refine sp_ fun _ hK8 => ?_
 refine plCall (i := 0) 87 [.int .i64 4] [] [] rfl kr_ (wn rfl) rfl le_ (litArgs kr_) (cube_any 4 _) ?_
 rintro e w9 ⟨rfl, hbz⟩
 have hm10 := hm6.below hbz
 clear hbz hm6
 refine ⟨_, rfl, ?_⟩
 refine qP rfl ?_
 refine li_ i ?_
 refine plCall (i := 2) 32 [.agg (bxs (cubeB 4)).toArray, .int .i64 (i : Int)] [] [] rfl kr_ (wn rfl) rfl le_ (litArgs kr_) (at4_any i hi _) ?_
 rintro e w11 ⟨rfl, hbz⟩
 have hm12 := hm10.below hbz
 clear hbz hm10
 refine ⟨_, rfl, ?_⟩
 refine qP rfl ?_
 refine lk_ (.tuple #[.agg (pcs (brk i)).toArray, .bool true]) ?_
 refine lk_ (.agg (pcs (brk i)).toArray) ?_
 refine lT_ ?_
 refine plAlloc (z := [.int .i64 0, .int .i64 0, .int .i64 0]) Ty.ag_voxel_api_Point hm12 (i := 6) rfl (wn rfl) rfl ?_
 intro g13 w15 hm14
 clear hm12
 try simp only [lc_] at hm14
 refine qP rfl ?_
 refine plStore 2 Ty.ag_voxel_api_Point hm14 rfl (i := 7) (cs := pcs (brk i)) rfl (wn rfl) rfl le_ le_ rfl rfl kr_ ?_
 intro w17 hm16
 clear hm14
 try simp only [lc_] at hm16
 refine qNone rfl ?_
 refine lT_ ?_
 refine pt_ hK8 ?_
 refine sk_ fun _ hK18 => ?_
 refine aoStart (aoV [fun _ => .pointer (some ⟨g2, 1, none⟩), fun _ => .agg (pcs (tlP k)).toArray, fun _ => .agg (pcs (brk i)).toArray, fun _ => .pointer (some ⟨g2, 0, none⟩), fun _ => .int .i64 0, fun _ => .int .i64 1, fun _ => .agg (pcs ((brk i).mul 1)).toArray, fun _ => .agg (pcs ((tlP k).add ((brk i).mul 1))).toArray, fun _ => .pointer (some ⟨g2, 0, none⟩), fun _ => .int .i64 0, fun _ => .int .i64 1, fun _ => .slice (some ⟨bk_, of_, none⟩) 64 c_, fun _ => .int .i64 (i : Int), fun _ => .pointer (some ⟨bk_, of_ + i * 1, none⟩), fun _ => .int .i64 c, fun _ => .agg ([.int .i64 (((tlP k).add ((brk i).mul 1)).x), .int .i64 (((tlP k).add ((brk i).mul 1)).y), .int .i64 (((tlP k).add ((brk i).mul 1)).z), .int .i64 1, .int .i64 c]).toArray, fun _ => undef]) (aoA [[], [], [], [], [], [], [], [], [], [], [], [], [], [], [], [], []]) (fun b_ g_ => ((.arr g2 63 (tlc (tlK k))) :: (.arr g5 108 (bsel (b_ 16) [.int .i64 (((tlP k).add ((brk i).mul 1)).x), .int .i64 (((tlP k).add ((brk i).mul 1)).y), .int .i64 (((tlP k).add ((brk i).mul 1)).z), .int .i64 1, .int .i64 c] [.int .i64 0, .int .i64 0, .int .i64 0, .int .i64 0, .int .i64 0])) :: (.arr g13 23 (pcs (brk i))) :: [])) hm16 kr_ kr_ (fun w_ h_ => h_) (fun b_ g_ h_ => by show (fun (x16_ : Bool) => (((.arr g2 63 (tlc (tlK k))) :: (.arr g5 108 (bsel x16_ [.int .i64 (((tlP k).add ((brk i).mul 1)).x), .int .i64 (((tlP k).add ((brk i).mul 1)).y), .int .i64 (((tlP k).add ((brk i).mul 1)).z), .int .i64 1, .int .i64 c] [.int .i64 0, .int .i64 0, .int .i64 0, .int .i64 0, .int .i64 0])) :: (.arr g13 23 (pcs (brk i))) :: []) : List Res)) (b_ 16) = _; rw [h_ 16 (by decide)]) ?_ ?_
 ·refine aoNext rfl aoK_ ?_
  refine aoNext rfl (aoV_ (fun b_ g_ X_ w_ h_b h_ => valTo (b := .agg (pcs (tlP k)).toArray) kr_ ((fun (h_ : Mem _ w_ ((.arr g2 63 (tlc (tlK k))) :: (.arr g5 108 ([.int .i64 0, .int .i64 0, .int .i64 0, .int .i64 0, .int .i64 0])) :: (.arr g13 23 (pcs (brk i))) :: [])) => gLoadAg (vs := pcs (tlP k)) (k := 1) 0 h_ rfl kr_ kr_ (.tmp 15) Ty.ag_voxel_api_Point rfl le_) (by have h2_ : Mem w w_ ((.arr g2 63 (tlc (tlK k))) :: (.arr g5 108 (bsel (b_ 16) [.int .i64 (((tlP k).add ((brk i).mul 1)).x), .int .i64 (((tlP k).add ((brk i).mul 1)).y), .int .i64 (((tlP k).add ((brk i).mul 1)).z), .int .i64 1, .int .i64 c] [.int .i64 0, .int .i64 0, .int .i64 0, .int .i64 0, .int .i64 0])) :: (.arr g13 23 (pcs (brk i))) :: []) := h_; rw [bselF (h_b.post 16 kr_)] at h2_; exact h2_)))) ?_
  refine aoNext rfl (aoV_ (fun b_ g_ X_ w_ h_b h_ => valTo (b := .agg (pcs (brk i)).toArray) kr_ ((fun (h_ : Mem _ w_ ((.arr g2 63 (tlc (tlK k))) :: (.arr g5 108 ([.int .i64 0, .int .i64 0, .int .i64 0, .int .i64 0, .int .i64 0])) :: (.arr g13 23 (pcs (brk i))) :: [])) => gLoadAg (vs := pcs (brk i)) (k := 0) 2 h_ rfl kr_ kr_ (.tmp 7) Ty.ag_voxel_api_Point rfl le_) (by have h2_ : Mem w w_ ((.arr g2 63 (tlc (tlK k))) :: (.arr g5 108 (bsel (b_ 16) [.int .i64 (((tlP k).add ((brk i).mul 1)).x), .int .i64 (((tlP k).add ((brk i).mul 1)).y), .int .i64 (((tlP k).add ((brk i).mul 1)).z), .int .i64 1, .int .i64 c] [.int .i64 0, .int .i64 0, .int .i64 0, .int .i64 0, .int .i64 0])) :: (.arr g13 23 (pcs (brk i))) :: []) := h_; rw [bselF (h_b.post 16 kr_)] at h2_; exact h2_)))) ?_
  refine aoNext rfl aoK_ ?_
  refine aoNext rfl (aoV_ (fun b_ g_ X_ w_ h_b h_ => valTo (b := .int .i64 0) kr_ ((fun (h_ : Mem _ w_ ((.arr g2 63 (tlc (tlK k))) :: (.arr g5 108 ([.int .i64 0, .int .i64 0, .int .i64 0, .int .i64 0, .int .i64 0])) :: (.arr g13 23 (pcs (brk i))) :: [])) => gLoad (v := .int .i64 0) (k := 0) 0 h_ rfl kr_ (.tmp 18) kr_ rfl le_) (by have h2_ : Mem w w_ ((.arr g2 63 (tlc (tlK k))) :: (.arr g5 108 (bsel (b_ 16) [.int .i64 (((tlP k).add ((brk i).mul 1)).x), .int .i64 (((tlP k).add ((brk i).mul 1)).y), .int .i64 (((tlP k).add ((brk i).mul 1)).z), .int .i64 1, .int .i64 c] [.int .i64 0, .int .i64 0, .int .i64 0, .int .i64 0, .int .i64 0])) :: (.arr g13 23 (pcs (brk i))) :: []) := h_; rw [bselF (h_b.post 16 kr_)] at h2_; exact h2_)))) ?_
  refine aoNext rfl aoK_ ?_
  refine aoNext rfl (aoC_ 52 (fun g_ => [.agg (pcs (brk i)).toArray, .int .i64 1]) [] [] (fun b_ g_ w_ h_b h_ => (scale_any (brk i) 1 (by omega) (by omega) (by omega) _).mono (fun _ _ h_r => ⟨h_r.1.trans kr_, h_r.2⟩))) ?_
  refine aoNext rfl (aoC_ 27 (fun g_ => [.agg (pcs (tlP k)).toArray, .agg (pcs ((brk i).mul 1)).toArray]) [] [] (fun b_ g_ w_ h_b h_ => (add_any (tlP k) ((brk i).mul 1) hx1 hy1 hz1 _).mono (fun _ _ h_r => ⟨h_r.1.trans kr_, h_r.2⟩))) ?_
  refine aoNext rfl aoK_ ?_
  refine aoNext rfl (aoV_ (fun b_ g_ X_ w_ h_b h_ => valTo (b := .int .i64 0) kr_ ((fun (h_ : Mem _ w_ ((.arr g2 63 (tlc (tlK k))) :: (.arr g5 108 ([.int .i64 0, .int .i64 0, .int .i64 0, .int .i64 0, .int .i64 0])) :: (.arr g13 23 (pcs (brk i))) :: [])) => gLoad (v := .int .i64 0) (k := 0) 0 h_ rfl kr_ (.tmp 23) kr_ rfl le_) (by have h2_ : Mem w w_ ((.arr g2 63 (tlc (tlK k))) :: (.arr g5 108 (bsel (b_ 16) [.int .i64 (((tlP k).add ((brk i).mul 1)).x), .int .i64 (((tlP k).add ((brk i).mul 1)).y), .int .i64 (((tlP k).add ((brk i).mul 1)).z), .int .i64 1, .int .i64 c] [.int .i64 0, .int .i64 0, .int .i64 0, .int .i64 0, .int .i64 0])) :: (.arr g13 23 (pcs (brk i))) :: []) := h_; rw [bselF (h_b.post 16 kr_)] at h2_; exact h2_)))) ?_
  refine aoNext rfl aoK_ ?_
  refine aoNext rfl aoK_ ?_
  refine aoNext rfl aoK_ ?_
  refine aoNext rfl (aoV_ (fun b_ g_ X_ w_ h_b h_ => valTo (b := .pointer (some ⟨bk_, of_ + i * 1, none⟩)) kr_ (ia_ c_ i Ty.sl_L_int rfl hi))) ?_
  refine aoNext rfl (aoV_ (fun b_ g_ X_ w_ h_b h_ => valTo (b := .int .i64 c) kr_ ((fun (h_ : Mem _ w_ ((.arr g2 63 (tlc (tlK k))) :: (.arr g5 108 ([.int .i64 0, .int .i64 0, .int .i64 0, .int .i64 0, .int .i64 0])) :: (.arr g13 23 (pcs (brk i))) :: [])) => gLoadRd (v := .int .i64 c) (m := i * 1) ((Rd.below hrd h_.bel).more h_.bel.size) rfl (icsGet hc) (by decide) (.tmp 28) kr_ rfl le_) (by have h2_ : Mem w w_ ((.arr g2 63 (tlc (tlK k))) :: (.arr g5 108 (bsel (b_ 16) [.int .i64 (((tlP k).add ((brk i).mul 1)).x), .int .i64 (((tlP k).add ((brk i).mul 1)).y), .int .i64 (((tlP k).add ((brk i).mul 1)).z), .int .i64 1, .int .i64 c] [.int .i64 0, .int .i64 0, .int .i64 0, .int .i64 0, .int .i64 0])) :: (.arr g13 23 (pcs (brk i))) :: []) := h_; rw [bselF (h_b.post 16 kr_)] at h2_; exact h2_)))) ?_
  refine aoNext rfl aoK_ ?_
  refine aoNext rfl (aoStore (gb := fun g_ => g5) (k := 0) (cur := fun g_ => [.int .i64 0, .int .i64 0, .int .i64 0, .int .i64 0, .int .i64 0]) (vs := fun g_ => [.int .i64 (((tlP k).add ((brk i).mul 1)).x), .int .i64 (((tlP k).add ((brk i).mul 1)).y), .int .i64 (((tlP k).add ((brk i).mul 1)).z), .int .i64 1, .int .i64 c]) 1 (fun g_ => [(6, .pointer (some ⟨g5, 0, none⟩)), (30, .agg ([.int .i64 (((tlP k).add ((brk i).mul 1)).x), .int .i64 (((tlP k).add ((brk i).mul 1)).y), .int .i64 (((tlP k).add ((brk i).mul 1)).z), .int .i64 1, .int .i64 c]).toArray)]) (fun g_ a_ h_k => ⟨(h_k.out 6 kr_).trans (lg_), (h_k.inn 15 _ _ kr_ rfl rfl).trans kr_, trivial⟩) Ty.ag_voxel_api_Chosen (fun b_ g_ h_b => by show some (Res.arr g5 108 (bsel (b_ 16) [.int .i64 (((tlP k).add ((brk i).mul 1)).x), .int .i64 (((tlP k).add ((brk i).mul 1)).y), .int .i64 (((tlP k).add ((brk i).mul 1)).z), .int .i64 1, .int .i64 c] [.int .i64 0, .int .i64 0, .int .i64 0, .int .i64 0, .int .i64 0])) = some (Res.arr g5 108 ([.int .i64 0, .int .i64 0, .int .i64 0, .int .i64 0, .int .i64 0])); rw [bselF h_b.no]) (fun g_ X_ => (wn rfl)) rfl (fun g_ X_ => litEv kr_) (fun g_ X_ => litEv kr_) (fun _ => by kernel_rfl) (fun _ => by kernel_rfl) (fun _ => by kernel_rfl) (fun b_ g_ h_b => by kernel_rfl) rfl) ?_
  exact aoDone (by decide)
 intro g_ a_ w20 hF_ hm19
 obtain ⟨X21, rfl⟩ := frLit (⟨hF_.size, hF_.defers, ⟨hF_.o_ 6, hF_.i_ 0, hF_.i_ 1, hF_.i_ 2, hF_.i_ 3, hF_.i_ 4, hF_.i_ 5, hF_.i_ 6, hF_.i_ 7, hF_.i_ 8, hF_.i_ 9, hF_.i_ 10, hF_.i_ 11, hF_.i_ 12, hF_.i_ 13, hF_.i_ 14, hF_.i_ 15, trivial⟩⟩ : Fr _ 31 [(6, .pointer (some ⟨g5, 0, none⟩)), (15, .pointer (some ⟨g2, 1, none⟩)), (16, .agg (pcs (tlP k)).toArray), (17, .agg (pcs (brk i)).toArray), (18, .pointer (some ⟨g2, 0, none⟩)), (19, .int .i64 0), (20, .int .i64 1), (21, .agg (pcs ((brk i).mul 1)).toArray), (22, .agg (pcs ((tlP k).add ((brk i).mul 1))).toArray), (23, .pointer (some ⟨g2, 0, none⟩)), (24, .int .i64 0), (25, .int .i64 1), (26, .slice (some ⟨bk_, of_, none⟩) 64 c_), (27, .int .i64 (i : Int)), (28, .pointer (some ⟨bk_, of_ + i * 1, none⟩)), (29, .int .i64 c), (30, .agg ([.int .i64 (((tlP k).add ((brk i).mul 1)).x), .int .i64 (((tlP k).add ((brk i).mul 1)).y), .int .i64 (((tlP k).add ((brk i).mul 1)).z), .int .i64 1, .int .i64 c]).toArray)])
 clear hF_
 have hm22 : Mem w w20 [.arr g2 63 (tlc (tlK k)), .arr g5 108 ([.int .i64 (((tlP k).add ((brk i).mul 1)).x), .int .i64 (((tlP k).add ((brk i).mul 1)).y), .int .i64 (((tlP k).add ((brk i).mul 1)).z), .int .i64 1, .int .i64 c]), .arr g13 23 (pcs (brk i))] := hm19
 clear hm19 hm16
 refine tn_ hK18 ?_
 refine wpPrune [(6, .pointer (some ⟨g5, 0, none⟩))] fo_ (fun X23 => ?_)
 refine wp_ret ?_
 refine bodyPost_ret (v := .agg ([.int .i64 (((tlP k).add ((brk i).mul 1)).x), .int .i64 (((tlP k).add ((brk i).mul 1)).y), .int .i64 (((tlP k).add ((brk i).mul 1)).z), .int .i64 1, .int .i64 c]).toArray) (gRes1 rfl (gResAg (cs := [.int .i64 (((tlP k).add ((brk i).mul 1)).x), .int .i64 (((tlP k).add ((brk i).mul 1)).y), .int .i64 (((tlP k).add ((brk i).mul 1)).z), .int .i64 1, .int .i64 c]) 1 hm22 rfl Ty.ag_voxel_api_Chosen rfl (lg_))) rfl ?_
 exact ⟨by show _ = Ending.returned (.agg (cho (posP k i) c).toArray); unfold cho; rw [← posE]; rfl, hm22.bel⟩
theorem find1_any (k : Nat) (c : Int) (w : World) : Calls Tryz.prog 109 #[.agg (tlc (tlK k)).toArray, .int .i64 c] w (RetV w (.int .i64 (cmpI (mEnc (tlP k)) c))) := by
 have hm0 := Mem.nil w
 go_enter Tryz.func109, Tryz.ntmps109
 refine litStart 10 [(0, .agg (tlc (tlK k)).toArray), (1, .int .i64 c)] kr_ (fun X0 => ?_)
 refine sp_ fun _ hK1 => ?_
 refine plBox hm0 (cs := tlc (tlK k)) (i := 0) rfl (wn rfl) rfl le_ ?_
 intro g2 w4 hm3
 clear hm0
 try simp only [lc_] at hm3
 refine qP rfl ?_
 refine li_ 0 ?_
 refine pt_ hK1 ?_
 refine sp_ fun _ hK5 => ?_
 refine lp_ g2 1 ?_
 refine lv_ rfl (.agg (pcs (tlP k)).toArray) (la_ 1 0 hm3 Ty.ag_voxel_api_Point) ?_
 refine plCall (i := 2) 98 [.agg (pcs (tlP k)).toArray] [] [] rfl kr_ (wn rfl) rfl le_ (litArgs kr_) (encode_any (tlP k) _) ?_
 rintro e w6 ⟨rfl, hbz⟩
 have hm7 := hm3.below hbz
 clear hbz hm3
 refine ⟨_, rfl, ?_⟩
 refine qP rfl ?_
 refine li_ c ?_
 refine plCall (i := 4) 57 [.int .i64 (mEnc (tlP k)), .int .i64 c] [] [] rfl kr_ (wn rfl) rfl le_ (litArgs kr_) (cmp_any (mEnc (tlP k)) c _) ?_
 rintro e w8 ⟨rfl, hbz⟩
 have hm9 := hm7.below hbz
 clear hbz hm7
 refine ⟨_, rfl, ?_⟩
 refine qP rfl ?_
 refine li_ (cmpI (mEnc (tlP k)) c) ?_
 refine pt_ hK5 ?_
 refine wp_ret ?_
 refine br_ 4 (.int .i64 (cmpI (mEnc (tlP k)) c)) ?_
 exact ⟨by rfl, hm9.bel⟩
theorem search_any (n : Nat) (hn : n = 1 ∨ n = 8) (c : Int) (hc : 0 ≤ c) (A : Option Addr) (cap : Nat) (w : World) (hrd : Rd w w.heap.size 4 A n cap (tlsC (planL n))) : Calls Tryz.prog 108 #[.slice A n cap, .int .i64 c, .func (.func 109) #[] #[]] w (RetV w (.tuple #[.int .i64 (bsN n c : Int), .bool (decide (bsN n c < n ∧ 64 * (bsN n c : Int) = c))])) := by
 obtain ⟨bk_, of_, rfl, _, _⟩ := hrd.cells (by omega)
 have hm0 := Mem.nil w
 go_enter Tryz.func108, Tryz.ntmps108
 refine litStart 49 [(0, .slice (some ⟨bk_, of_, none⟩) n cap), (1, .int .i64 c), (2, .func (.func 109) #[] #[])] kr_ (fun X0 => ?_)
 refine sp_ fun _ hK1 => ?_
 refine li_ 0 ?_
 refine lF_ ?_
 refine pt_ hK1 ?_
 refine sp_ fun _ hK2 => ?_
 refine lk_ (.slice (some ⟨bk_, of_, none⟩) n cap) ?_
 refine lv_ rfl (.int .i64 (n : Int)) (ln_ (some ⟨bk_, of_, none⟩) n cap Ty.und_L_api_Tile) ?_
 refine li_ n ?_
 refine pt_ hK2 ?_
 refine sp_ fun _ hK3 => ?_
 refine li_ n ?_
 refine li_ 0 ?_
 refine li_ n ?_
 refine pt_ hK3 ?_
 refine sk_ fun _ hK4 => ?_
 refine wp_block ?_
 refine gwLoop (fun n_ a_ w_ => ∃ (i j : Nat), n_ = j - i ∧ (i ≤ j ∧ j ≤ n) ∧ (i = 0 ∨ 64 * ((i : Int) - 1) < c) ∧ (j = n ∨ c ≤ 64 * (j : Int)) ∧ Fr a_ 49 [(0, .slice (some ⟨bk_, of_, none⟩) n cap), (1, .int .i64 c), (2, .func (.func 109) #[] #[]), (6, .int .i64 0), (7, .bool false), (8, .int .i64 (n : Int)), (9, .int .i64 (i : Int)), (10, .int .i64 (j : Int))] ∧ Mem w w_ []) (n - 0) ⟨0, n, rfl, ⟨by omega, by omega⟩, (Or.inl rfl), (Or.inl rfl), ⟨litSize, rfl, fo_⟩, hm0⟩ ?_
 clear hm0
 intro n_ a7 w5 hI_
 obtain ⟨i, j, rfl, hij, hlo, hhi, hF_, hm6⟩ := hI_
 obtain ⟨X8, rfl⟩ := frLit hF_
 clear hF_
 refine sk_ fun _ hK9 => ?_
 refine sp_ fun _ hK10 => ?_
 refine li_ i ?_
 refine li_ j ?_
 by_cases h11 : (i : Int) < (j : Int)
 ·refine lv_ rfl _ (lsT_ h11) ?_
  refine pt_ hK10 ?_
  refine wp_cond_true le_ ?_
  refine wp_skip ?_
  refine tn_ hK9 ?_
  refine wp_block ?_
  refine sp_ fun _ hK12 => ?_
  refine li_ i ?_
  refine li_ j ?_
  refine lv_ rfl (.int .i64 ((i + j : Nat) : Int)) (addRun (A := (i : Int)) (B := (j : Int)) (C := ((i + j : Nat) : Int)) (.tmp 18) (.tmp 19) rfl le_ le_ (by omega) (by omega)) ?_
  refine litVal (i := 3) (v := .int .u64 ((i + j : Nat) : Int)) rfl (wn rfl) (gConvU (A := ((i + j : Nat) : Int)) (.tmp 20) rfl kr_ rfl le_ (by omega) (by omega)) rfl (by decide) ?_
  refine litVal (i := 4) (v := .int .u64 (((i + j) / 2 : Nat) : Int)) rfl (wn rfl) (gShrU1 (n := i + j) (.tmp 21) (.const (.int .u64 1)) rfl le_ le_) rfl (by decide) ?_
  refine litVal (i := 5) (v := .int .i64 (((i + j) / 2 : Nat) : Int)) rfl (wn rfl) (gConvI (A := (((i + j) / 2 : Nat) : Int)) (.tmp 22) kr_ kr_ rfl le_ (by omega) (by omega)) rfl (by decide) ?_
  refine li_ (((i + j) / 2 : Nat) : Int) ?_
  refine pt_ hK12 ?_
  refine sp_ fun _ hK13 => ?_
  refine lk_ (.func (.func 109) #[] #[]) ?_
  refine lk_ (.slice (some ⟨bk_, of_, none⟩) n cap) ?_
  refine li_ (((i + j) / 2 : Nat) : Int) ?_
  refine lv_ rfl (.pointer (some ⟨bk_, of_ + ((i + j) / 2) * 4, none⟩)) (gIaSl (b := bk_) (off := of_) (n := n) (c := cap) (kk := .i64) (K := (((i + j) / 2 : Nat) : Int)) (.tmp 25) (.tmp 26) ((i + j) / 2) Ty.sl_L_api_Tile rfl le_ le_ (rfl) ((by omega))) ?_
  refine lv_ rfl (.agg (tlc (tlK ((i + j) / 2))).toArray) (lar_ (m := ((i + j) / 2) * 4) ((Rd.below hrd hm6.bel).more hm6.bel.size) (tlsC_get (planL_get (show (i + j) / 2 < n by omega))) (by omega) Ty.ag_voxel_api_Tile) ?_
  refine li_ c ?_
  refine plCall (i := 6) 109 [.agg (tlc (tlK ((i + j) / 2))).toArray, .int .i64 c] [] [] rfl kr_ (wn rfl) rfl le_ (litArgs kr_) (find1_any ((i + j) / 2) c _) ?_
  rintro e w14 ⟨rfl, hbz⟩
  have hm15 := hm6.below hbz
  clear hbz hm6
  refine ⟨_, rfl, ?_⟩
  refine qP rfl ?_
  by_cases h16 : (cmpI (mEnc (tlP ((i + j) / 2))) c) < 0
  ·refine lv_ rfl _ (lsT_ h16) ?_
   refine pt_ hK13 ?_
   refine wp_cond_true le_ ?_
   refine plStart ?_
   refine li_ (((i + j) / 2 : Nat) : Int) ?_
   refine lv_ rfl (.int .i64 (((i + j) / 2 + 1 : Nat) : Int)) (addRun (A := (((i + j) / 2 : Nat) : Int)) (B := 1) (C := (((i + j) / 2 + 1 : Nat) : Int)) (.tmp 32) (.const (.int .i64 1)) rfl le_ le_ (by omega) (by omega)) ?_
   refine li_ (((i + j) / 2 + 1 : Nat) : Int) ?_
   refine plD ?_
   refine inBlock_normal ?_
   refine then_normal ?_
   have hcm := cmpI_lt.1 h16
   rw [enc_tlP (by omega)] at hcm
   exact ⟨_, by omega, ((i + j) / 2 + 1), j, rfl, ⟨by omega, by omega⟩, (Or.inr (by omega)), hhi, ⟨litSize, rfl, fo_⟩, hm15⟩
  refine lv_ rfl _ (lsF_ h16) ?_
  refine pt_ hK13 ?_
  refine wp_cond_false le_ ?_
  refine plStart ?_
  refine li_ (((i + j) / 2 : Nat) : Int) ?_
  refine li_ (((i + j) / 2 : Nat) : Int) ?_
  refine plD ?_
  refine inBlock_normal ?_
  refine then_normal ?_
  have hcm : ¬ (mEnc (tlP ((i + j) / 2)) < c) := fun h_ => h16 (cmpI_lt.2 h_)
  rw [enc_tlP (by omega)] at hcm
  exact ⟨_, by omega, i, ((i + j) / 2), rfl, ⟨by omega, by omega⟩, hlo, (Or.inr (by omega)), ⟨litSize, rfl, fo_⟩, hm15⟩
 refine lv_ rfl _ (lsF_ h11) ?_
 refine pt_ hK10 ?_
 refine wp_cond_false le_ ?_
 refine wp_exit ?_
 refine then_exit ?_
 refine then_exit ?_
 refine inBlock_exit ?_
 refine tn_ hK4 ?_
 refine sp_ fun _ hK17 => ?_
 refine li_ i ?_
 refine li_ i ?_
 refine li_ n ?_
 by_cases h18 : (i : Int) < (n : Int)
 ·refine lv_ rfl _ (lsT_ h18) ?_
  refine lT_ ?_
  refine lw_ rfl (.func (.func 109) #[] #[]) (litRun kr_) ?_
  refine lw_ rfl (.slice (some ⟨bk_, of_, none⟩) n cap) (litRun kr_) ?_
  refine lw_ rfl (.int .i64 (i : Int)) (litRun kr_) ?_
  refine lw_ rfl (.pointer (some ⟨bk_, of_ + i * 4, none⟩)) (gIaSl (b := bk_) (off := of_) (n := n) (c := cap) (kk := .i64) (K := (i : Int)) (.tmp 41) (.tmp 42) i Ty.sl_L_api_Tile rfl le_ le_ (rfl) ((by omega))) ?_
  refine lw_ rfl (.agg (tlc (tlK i)).toArray) (lar_ (m := i * 4) ((Rd.below hrd hm6.bel).more hm6.bel.size) (tlsC_get (planL_get (show i < n by omega))) (by omega) Ty.ag_voxel_api_Tile) ?_
  refine lw_ rfl (.int .i64 c) (litRun kr_) ?_
  refine plCall (i := 11) 109 [.agg (tlc (tlK i)).toArray, .int .i64 c] [] [] rfl kr_ (wgY rfl rfl rfl (by decide) kr_) rfl le_ (litArgs kr_) (find1_any i c _) ?_
  rintro e w19 ⟨rfl, hbz⟩
  have hm20 := hm6.below hbz
  clear hbz hm6
  refine ⟨_, rfl, ?_⟩
  refine qP rfl ?_
  by_cases h21 : (cmpI (mEnc (tlP i)) c) = 0
  ·refine lw_ rfl _ (eqT_ h21) ?_
   refine lT_ ?_
   refine li_ i ?_
   refine lT_ ?_
   refine pt_ hK17 ?_
   refine wpPrune [(6, .int .i64 (i : Int)), (7, .bool true)] fo_ (fun X22 => ?_)
   refine wp_ret ?_
   refine bodyPost_ret (v := .tuple #[.int .i64 (i : Int), .bool true]) (gRes2 rfl (gResTmp (t := 6) (v := .int .i64 (i : Int)) (lg_)) (gResTmp (t := 7) (v := .bool true) (lg_))) rfl ?_
   have hib : i = bsN n c := bsN_eq hc (by omega) hlo (by omega)
   have hce : (cmpI (mEnc (tlP i)) c = 0) ↔ 64 * (i : Int) = c := by rw [cmpI_eq, enc_tlP (by omega)]
   exact ⟨by rw [decide_eq_true (show (bsN n c < n ∧ 64 * (bsN n c : Int) = c) from by subst hib; exact ⟨by omega, hce.1 h21⟩), ← hib], hm20.bel⟩
  refine lw_ rfl _ (eqF_ h21) ?_
  refine lF_ ?_
  refine li_ i ?_
  refine lF_ ?_
  refine pt_ hK17 ?_
  refine wpPrune [(6, .int .i64 (i : Int)), (7, .bool false)] fo_ (fun X23 => ?_)
  refine wp_ret ?_
  refine bodyPost_ret (v := .tuple #[.int .i64 (i : Int), .bool false]) (gRes2 rfl (gResTmp (t := 6) (v := .int .i64 (i : Int)) (lg_)) (gResTmp (t := 7) (v := .bool false) (lg_))) rfl ?_
  have hib : i = bsN n c := bsN_eq hc (by omega) hlo (by omega)
  have hce : (cmpI (mEnc (tlP i)) c = 0) ↔ 64 * (i : Int) = c := by rw [cmpI_eq, enc_tlP (by omega)]
  exact ⟨by rw [decide_eq_false (show ¬ (bsN n c < n ∧ 64 * (bsN n c : Int) = c) from by subst hib; exact fun h_ => h21 (hce.2 h_.2)), ← hib], hm20.bel⟩
 refine lv_ rfl _ (lsF_ h18) ?_
 refine lF_ ?_
 refine ps_ (i := 5) ?_
 refine ps_ (i := 6) ?_
 refine ps_ (i := 7) ?_
 refine ps_ (i := 8) ?_
 refine ps_ (i := 9) ?_
 refine ps_ (i := 10) ?_
 refine ps_ (i := 11) ?_
 refine ps_ (i := 12) ?_
 refine lF_ ?_
 refine li_ i ?_
 refine lF_ ?_
 refine pt_ hK17 ?_
 refine wpPrune [(6, .int .i64 (i : Int)), (7, .bool false)] fo_ (fun X24 => ?_)
 refine wp_ret ?_
 refine bodyPost_ret (v := .tuple #[.int .i64 (i : Int), .bool false]) (gRes2 rfl (gResTmp (t := 6) (v := .int .i64 (i : Int)) (lg_)) (gResTmp (t := 7) (v := .bool false) (lg_))) rfl ?_
 have hib : i = bsN n c := bsN_eq hc (by omega) hlo (by omega)
 exact ⟨by rw [decide_eq_false (show ¬ (bsN n c < n ∧ 64 * (bsN n c : Int) = c) from by subst hib; omega), ← hib], hm6.bel⟩
theorem find_any (n : Nat) (hn : n = 1 ∨ n = 8) (p : Pt) (A : Option Addr) (cap : Nat) (w : World) (hrd : Rd w w.heap.size 4 A n cap (tlsC (planL n))) : Calls Tryz.prog 88 #[.slice A n cap, .agg (pcs p).toArray] w (RetV w (.int .i64 (findN n p))) := by
 obtain ⟨bk_, of_, rfl, _, _⟩ := hrd.cells (by omega)
 have hm0 := Mem.nil w
 go_enter Tryz.func88, Tryz.ntmps88
 refine litStart 35 [(0, .slice (some ⟨bk_, of_, none⟩) n cap), (1, .agg (pcs p).toArray)] kr_ (fun X0 => ?_)
 refine sp_ fun _ hK1 => ?_
 refine plBox hm0 (cs := pcs p) (i := 0) rfl (wn rfl) rfl le_ ?_
 intro g2 w4 hm3
 clear hm0
 try simp only [lc_] at hm3
 refine qP rfl ?_
 refine li_ 0 ?_
 refine pt_ hK1 ?_
 refine sp_ fun _ hK5 => ?_
 refine lv_ rfl (.agg (pcs p).toArray) (la_ 0 0 hm3 Ty.ag_voxel_api_Point) ?_
 refine plCall (i := 1) 98 [.agg (pcs p).toArray] [] [] rfl kr_ (wn rfl) rfl le_ (litArgs kr_) (encode_any p _) ?_
 rintro e w6 ⟨rfl, hbz⟩
 have hm7 := hm3.below hbz
 clear hbz hm3
 refine ⟨_, rfl, ?_⟩
 refine qP rfl ?_
 refine li_ (mEnc p) ?_
 refine pt_ hK5 ?_
 refine sk_ fun _ hK8 => ?_
 refine sp_ fun _ hK9 => ?_
 refine li_ (mEnc p) ?_
 by_cases h10 : (mEnc p) < 0
 ·refine lv_ rfl _ (lsT_ h10) ?_
  refine pt_ hK9 ?_
  refine wp_cond_true le_ ?_
  refine sp_ fun _ hK11 => ?_
  refine li_ (-1) ?_
  refine pt_ hK11 ?_
  refine wp_ret ?_
  refine then_ret ?_
  refine br_ 4 (.int .i64 (-1)) ?_
  exact ⟨by unfold findN; rw [if_neg (fun h_ => mEnc_neg h10 (enc_in hn h_).1)], hm7.bel⟩
 refine lv_ rfl _ (lsF_ h10) ?_
 refine pt_ hK9 ?_
 refine wp_cond_false le_ ?_
 refine wp_skip ?_
 refine tn_ hK8 ?_
 refine sp_ fun _ hK12 => ?_
 refine lk_ (.slice (some ⟨bk_, of_, none⟩) n cap) ?_
 refine li_ (mEnc p) ?_
 refine plCall (i := 2) 108 [.slice (some ⟨bk_, of_, none⟩) n cap, .int .i64 (mEnc p), .func (.func 109) #[] #[]] [] [] rfl kr_ (wn rfl) rfl le_ (litArgs kr_) (search_any n hn (mEnc p) (by omega) _ cap _ ((Rd.below hrd hm7.bel).more hm7.bel.size)) ?_
 rintro e w13 ⟨rfl, hbz⟩
 have hm14 := hm7.below hbz
 clear hbz hm7
 refine ⟨_, rfl, ?_⟩
 refine qP rfl ?_
 rcases bool_or (decide (bsN n (mEnc p) < n ∧ 64 * (bsN n (mEnc p) : Int) = mEnc p)) with h15 | h15
 ·rw [h15]
  refine lk_ (.tuple #[.int .i64 (bsN n (mEnc p) : Int), .bool false]) ?_
  refine li_ (bsN n (mEnc p) : Int) ?_
  refine lF_ ?_
  refine li_ (bsN n (mEnc p) : Int) ?_
  refine lF_ ?_
  refine pt_ hK12 ?_
  refine sk_ fun _ hK16 => ?_
  refine sp_ fun _ hK17 => ?_
  have hf_ := of_decide_eq_false h15
  obtain ⟨K, hK⟩ : ∃ K : Nat, bsN n (mEnc p) = K + 1 := ⟨bsN n (mEnc p) - 1, by unfold bsN at *; omega⟩
  have hkn : K < n := by unfold bsN at *; omega
  have hlo_ : 64 * (K : Int) ≤ mEnc p := by unfold bsN at *; omega
  have hhi_ : K + 1 = n ∨ mEnc p < 64 * ((K : Int) + 1) := by unfold bsN at *; omega
  refine lF_ ?_
  refine lT_ ?_
  refine pt_ hK17 ?_
  refine wpPrune [(0, .slice (some ⟨bk_, of_, none⟩) n cap), (3, .pointer (some ⟨g2, 0, none⟩)), (4, .int .i64 0), (6, .int .i64 (bsN n (mEnc p) : Int)), (19, .bool true)] fo_ (fun X18 => ?_)
  refine wp_cond_true le_ ?_
  refine plStart ?_
  refine li_ (bsN n (mEnc p) : Int) ?_
  refine lv_ rfl (.int .i64 (K : Int)) (subRun (A := (bsN n (mEnc p) : Int)) (B := 1) (C := (K : Int)) (.tmp 20) (.const (.int .i64 1)) rfl le_ le_ (by omega) (by omega)) ?_
  refine li_ K ?_
  refine pt_ hK16 ?_
  refine sk_ fun _ hK19 => ?_
  refine sk_ fun _ hK20 => ?_
  refine mgStart hm14 kr_ ?_
  intro w22 hm21
  clear hm14
  refine mk_ (i := 0) (v := .int .i64 (K : Int)) rfl rfl (fun _ _ _ h => h) hm21 rfl ?_
  refine mt_ 1 rfl (.bool false) hm21 (fun w_ h_ => lsF_ (show ¬ (K : Int) < 0 by omega)) ?_
  refine mk_ (i := 2) (v := .bool false) rfl rfl (fun _ _ _ h => h) hm21 rfl ?_
  refine mgTake (i := 3) (v := .agg (pcs p).toArray) rfl kr_ (wgY rfl rfl rfl (by decide) kr_) (fun _ _ _ h => h) hm21 (fun w_ h_ => gLoadAg (vs := pcs p) (k := 0) 0 h_ rfl kr_ kr_ (.tmp 3) Ty.ag_voxel_api_Point rfl le_) ?_
  refine mP rfl ?_
  refine mgTake (i := 4) (v := .slice (some ⟨bk_, of_, none⟩) n cap) rfl kr_ (wgY rfl rfl rfl (by decide) kr_) (fun _ _ _ h => h) hm21 (fun w_ h_ => litRun kr_) ?_
  refine mP rfl ?_
  refine mgTake (i := 5) (v := .int .i64 (K : Int)) rfl kr_ (wgY rfl rfl rfl (by decide) kr_) (fun _ _ _ h => h) hm21 (fun w_ h_ => litRun kr_) ?_
  refine mP rfl ?_
  refine mgTake (i := 6) (v := .pointer (some ⟨bk_, of_ + K * 4, none⟩)) rfl kr_ (wgY rfl rfl rfl (by decide) kr_) (fun _ _ _ h => h) hm21 (fun w_ h_ => gIaSl (b := bk_) (off := of_) (n := n) (c := cap) (kk := .i64) (K := (K : Int)) (.tmp 26) (.tmp 27) K Ty.sl_L_api_Tile rfl le_ le_ (rfl) (hkn)) ?_
  refine mP rfl ?_
  refine mgTake (i := 7) (v := .agg (tlc (tlK K)).toArray) rfl kr_ (wgY rfl rfl rfl (by decide) kr_) (fun _ _ _ h => h) hm21 (fun w_ h_ => gLoadAgRd (vs := tlc (tlK K)) (m := K * 4) ((Rd.below hrd h_.bel).more h_.bel.size) rfl (tlsC_get (planL_get (show K < n by omega))) kr_ (by omega) (.tmp 28) Ty.ag_voxel_api_Tile rfl le_) ?_
  refine mP rfl ?_
  refine mgCall (i := 8) 110 [.agg (tlc (tlK K)).toArray] [] [] kr_ rfl kr_ (wgY rfl rfl rfl (by decide) kr_) rfl le_ (litArgs kr_) (box_any K _) ?_
  rintro e w23 ⟨rfl, hbz⟩
  have hm24 := hm21.below hbz
  clear hbz hm21
  refine ⟨_, rfl, hm24, ?_⟩
  refine mP rfl ?_
  refine mgCall (i := 9) 75 [.agg (pcs p).toArray, .agg (bxs ((cubeB 4).shift (tlP K))).toArray] [] [] kr_ rfl kr_ (wgY rfl rfl rfl (by decide) kr_) rfl le_ (litArgs kr_) (pin_any p ((cubeB 4).shift (tlP K)) _) ?_
  rintro e w25 ⟨rfl, hbz⟩
  have hm26 := hm24.below hbz
  clear hbz hm24
  refine ⟨_, rfl, hm26, ?_⟩
  refine mP rfl ?_
  rcases bool_or (decide (((cubeB 4).shift (tlP K)).has p)) with h27 | h27
  ·rw [h27]
   refine mgTake (i := 10) (v := .bool true) rfl kr_ (wgY rfl rfl rfl (by decide) kr_) (fun _ _ _ h => h) hm26 (fun w_ h_ => litRun kr_) ?_
   refine mP rfl ?_
   refine mk_ (i := 11) (v := .bool true) rfl rfl (fun _ _ _ h => h) hm26 rfl ?_
   refine mgDone kr_ ?_
   refine tn_ hK20 ?_
   refine wpPrune [(4, .int .i64 0), (6, .int .i64 (K : Int)), (33, .bool true)] fo_ (fun X28 => ?_)
   refine wp_cond_true le_ ?_
   refine sp_ fun _ hK29 => ?_
   refine li_ (-1) ?_
   refine pt_ hK29 ?_
   refine wp_ret ?_
   refine then_ret ?_
   refine br_ 4 (.int .i64 (-1)) ?_
   exact ⟨by rw [← find_eq hn hkn hlo_ hhi_, if_neg (of_decide_eq_false h27)], hm26.bel⟩
  rw [h27]
  refine mgTake (i := 10) (v := .bool false) rfl kr_ (wgY rfl rfl rfl (by decide) kr_) (fun _ _ _ h => h) hm26 (fun w_ h_ => litRun kr_) ?_
  refine mP rfl ?_
  refine mk_ (i := 11) (v := .bool false) rfl rfl (fun _ _ _ h => h) hm26 rfl ?_
  refine mgDone kr_ ?_
  refine tn_ hK20 ?_
  refine wpPrune [(4, .int .i64 0), (6, .int .i64 (K : Int)), (33, .bool false)] fo_ (fun X30 => ?_)
  refine wp_cond_false le_ ?_
  refine wp_skip ?_
  refine tn_ hK19 ?_
  refine sp_ fun _ hK31 => ?_
  refine li_ K ?_
  refine li_ K ?_
  refine pt_ hK31 ?_
  refine wp_ret ?_
  refine br_ 4 (.int .i64 (K : Int)) ?_
  exact ⟨by rw [← find_eq hn hkn hlo_ hhi_, if_pos (of_decide_eq_true h27)], hm26.bel⟩
 rw [h15]
 refine lk_ (.tuple #[.int .i64 (bsN n (mEnc p) : Int), .bool true]) ?_
 refine li_ (bsN n (mEnc p) : Int) ?_
 refine lT_ ?_
 refine li_ (bsN n (mEnc p) : Int) ?_
 refine lT_ ?_
 refine pt_ hK12 ?_
 refine sk_ fun _ hK32 => ?_
 refine sp_ fun _ hK33 => ?_
 obtain ⟨hf1, hf2⟩ := of_decide_eq_true h15
 obtain ⟨K, hK⟩ : ∃ K : Nat, bsN n (mEnc p) = K := ⟨_, rfl⟩
 rw [hK] at hf1 hf2
 have hkn : K < n := hf1
 have hlo_ : 64 * (K : Int) ≤ mEnc p := by omega
 have hhi_ : K + 1 = n ∨ mEnc p < 64 * ((K : Int) + 1) := Or.inr (by omega)
 refine lT_ ?_
 refine lF_ ?_
 refine pt_ hK33 ?_
 refine wpPrune [(0, .slice (some ⟨bk_, of_, none⟩) n cap), (3, .pointer (some ⟨g2, 0, none⟩)), (4, .int .i64 0), (6, .int .i64 (bsN n (mEnc p) : Int)), (19, .bool false)] fo_ (fun X34 => ?_)
 refine wp_cond_false le_ ?_
 refine wp_skip ?_
 refine tn_ hK32 ?_
 refine sk_ fun _ hK35 => ?_
 refine sk_ fun _ hK36 => ?_
 refine mgStart hm14 kr_ ?_
 intro w38 hm37
 clear hm14
 refine mk_ (i := 0) (v := .int .i64 (bsN n (mEnc p) : Int)) rfl rfl (fun _ _ _ h => h) hm37 rfl ?_
 refine mt_ 1 rfl (.bool false) hm37 (fun w_ h_ => lsF_ (show ¬ (bsN n (mEnc p) : Int) < 0 by omega)) ?_
 refine mk_ (i := 2) (v := .bool false) rfl rfl (fun _ _ _ h => h) hm37 rfl ?_
 refine mgTake (i := 3) (v := .agg (pcs p).toArray) rfl kr_ (wgY rfl rfl rfl (by decide) kr_) (fun _ _ _ h => h) hm37 (fun w_ h_ => gLoadAg (vs := pcs p) (k := 0) 0 h_ rfl kr_ kr_ (.tmp 3) Ty.ag_voxel_api_Point rfl le_) ?_
 refine mP rfl ?_
 refine mgTake (i := 4) (v := .slice (some ⟨bk_, of_, none⟩) n cap) rfl kr_ (wgY rfl rfl rfl (by decide) kr_) (fun _ _ _ h => h) hm37 (fun w_ h_ => litRun kr_) ?_
 refine mP rfl ?_
 refine mgTake (i := 5) (v := .int .i64 (bsN n (mEnc p) : Int)) rfl kr_ (wgY rfl rfl rfl (by decide) kr_) (fun _ _ _ h => h) hm37 (fun w_ h_ => litRun kr_) ?_
 refine mP rfl ?_
 refine mgTake (i := 6) (v := .pointer (some ⟨bk_, of_ + K * 4, none⟩)) rfl kr_ (wgY rfl rfl rfl (by decide) kr_) (fun _ _ _ h => h) hm37 (fun w_ h_ => gIaSl (b := bk_) (off := of_) (n := n) (c := cap) (kk := .i64) (K := (bsN n (mEnc p) : Int)) (.tmp 26) (.tmp 27) K Ty.sl_L_api_Tile rfl le_ le_ ((by omega)) (hkn)) ?_
 refine mP rfl ?_
 refine mgTake (i := 7) (v := .agg (tlc (tlK K)).toArray) rfl kr_ (wgY rfl rfl rfl (by decide) kr_) (fun _ _ _ h => h) hm37 (fun w_ h_ => gLoadAgRd (vs := tlc (tlK K)) (m := K * 4) ((Rd.below hrd h_.bel).more h_.bel.size) rfl (tlsC_get (planL_get (show K < n by omega))) kr_ (by omega) (.tmp 28) Ty.ag_voxel_api_Tile rfl le_) ?_
 refine mP rfl ?_
 refine mgCall (i := 8) 110 [.agg (tlc (tlK K)).toArray] [] [] kr_ rfl kr_ (wgY rfl rfl rfl (by decide) kr_) rfl le_ (litArgs kr_) (box_any K _) ?_
 rintro e w39 ⟨rfl, hbz⟩
 have hm40 := hm37.below hbz
 clear hbz hm37
 refine ⟨_, rfl, hm40, ?_⟩
 refine mP rfl ?_
 refine mgCall (i := 9) 75 [.agg (pcs p).toArray, .agg (bxs ((cubeB 4).shift (tlP K))).toArray] [] [] kr_ rfl kr_ (wgY rfl rfl rfl (by decide) kr_) rfl le_ (litArgs kr_) (pin_any p ((cubeB 4).shift (tlP K)) _) ?_
 rintro e w41 ⟨rfl, hbz⟩
 have hm42 := hm40.below hbz
 clear hbz hm40
 refine ⟨_, rfl, hm42, ?_⟩
 refine mP rfl ?_
 rcases bool_or (decide (((cubeB 4).shift (tlP K)).has p)) with h43 | h43
 ·rw [h43]
  refine mgTake (i := 10) (v := .bool true) rfl kr_ (wgY rfl rfl rfl (by decide) kr_) (fun _ _ _ h => h) hm42 (fun w_ h_ => litRun kr_) ?_
  refine mP rfl ?_
  refine mk_ (i := 11) (v := .bool true) rfl rfl (fun _ _ _ h => h) hm42 rfl ?_
  refine mgDone kr_ ?_
  refine tn_ hK36 ?_
  refine wpPrune [(4, .int .i64 0), (6, .int .i64 (bsN n (mEnc p) : Int)), (33, .bool true)] fo_ (fun X44 => ?_)
  refine wp_cond_true le_ ?_
  refine sp_ fun _ hK45 => ?_
  refine li_ (-1) ?_
  refine pt_ hK45 ?_
  refine wp_ret ?_
  refine then_ret ?_
  refine br_ 4 (.int .i64 (-1)) ?_
  exact ⟨by rw [← find_eq hn hkn hlo_ hhi_, if_neg (of_decide_eq_false h43)], hm42.bel⟩
 rw [h43]
 refine mgTake (i := 10) (v := .bool false) rfl kr_ (wgY rfl rfl rfl (by decide) kr_) (fun _ _ _ h => h) hm42 (fun w_ h_ => litRun kr_) ?_
 refine mP rfl ?_
 refine mk_ (i := 11) (v := .bool false) rfl rfl (fun _ _ _ h => h) hm42 rfl ?_
 refine mgDone kr_ ?_
 refine tn_ hK36 ?_
 refine wpPrune [(4, .int .i64 0), (6, .int .i64 (bsN n (mEnc p) : Int)), (33, .bool false)] fo_ (fun X46 => ?_)
 refine wp_cond_false le_ ?_
 refine wp_skip ?_
 refine tn_ hK35 ?_
 refine sp_ fun _ hK47 => ?_
 refine li_ (bsN n (mEnc p) : Int) ?_
 refine li_ (bsN n (mEnc p) : Int) ?_
 refine pt_ hK47 ?_
 refine wp_ret ?_
 refine br_ 4 (.int .i64 (bsN n (mEnc p) : Int)) ?_
 exact ⟨by rw [← find_eq hn hkn hlo_ hhi_, if_pos (of_decide_eq_true h43)]; rw [hK], hm42.bel⟩
end Go.Proofs.YtbpihalphhoiaaaGreatDoor
