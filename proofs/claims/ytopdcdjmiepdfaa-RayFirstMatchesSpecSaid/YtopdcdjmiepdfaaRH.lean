/-
  RH: several texts in one. No statement is proved here.
-/
import Derived.Test.YtopdcdjmiepdfaaRE
import Derived.Test.YtopdcdjmiepdfaaRC
import Derived.Test.YtopdcdjmiepdfaaRG
import Derived.Test.YtopdcdjmiepdfaaRB
import Derived.Test.YtopdcdjmiepdfaaRD
set_option linter.unusedVariables false
set_option linter.unusedSimpArgs false
namespace Go.Proofs.Ytopdcdjmiepdfaa
open Go.RowKit
set_option linter.unusedVariables false
set_option linter.unusedSimpArgs false
theorem icsGet {l : List Int} {k : Nat} {n : Int} (h : l[k]? = some n) : (ics l)[k * 1]? = some (.int .i64 n) := by
  rw [Nat.mul_one]; unfold ics; rw [List.getElem?_map, h]; rfl
def mcs (m : Mat) : List Value := [.string ⟨m.nm.toArray⟩, .bool m.solid, .bool m.liquid, .bool m.falling, .int .i64 m.fade, .int .i64 m.e1, .int .i64 m.e2, .int .i64 m.e3]
def mts (l : List Mat) : List Value := l.flatMap mcs
theorem mts_get {m : Mat} : ∀ {l : List Mat} {k : Nat}, l[k]? = some m → ∀ (i : Nat) (u : Value), (mcs m)[i]? = some u → (mts l)[k * 8 + i]? = some u
  | [], k, h, _, _, _ => by simp at h
  | q :: l, 0, h, i, u, hu => by
    simp at h; subst h
    have hi : i < 8 := (List.getElem?_eq_some_iff.1 hu).1
    show (mcs q ++ mts l)[_]? = _
    rw [List.getElem?_append_left (by show _ < 8; omega), Nat.zero_mul, Nat.zero_add]
    exact hu
  | q :: l, k + 1, h, i, u, hu => by
    show (mcs q ++ mts l)[_]? = _
    rw [List.getElem?_append_right (by show 8 ≤ _; omega)]
    have e : (k + 1) * 8 + i - (mcs q).length = k * 8 + i := by show (k + 1) * 8 + i - 8 = _; omega
    rw [e]
    exact mts_get (l := l) (by simpa using h) i u hu
def gcs (g : Gr) (A : Option Addr) (c : Nat) : List Value := bxs g.box ++ [.slice A g.cells.length c]
set_option maxRecDepth 100000 in
set_option maxHeartbeats 4000000 in
theorem size_any (b : Bx) (hb : b.rng) (w : World) : Calls Try.prog 51 #[.agg (bxs b).toArray] w (RetV w (.agg (pcs b.size).toArray)) := by
  have hb_ := hb
  unfold Bx.rng Pt.rng at hb_
  have hm0 := Mem.nil w
  go_enter Try.func51, Try.ntmps51
  refine litStart 13 [(0, .agg (bxs b).toArray)] (by kernel_rfl) (fun X0 => ?_)
  refine wp_seq_k fun K1 hK1 => ?_
  refine plStart ?_
  refine plBox hm0 (cs := bxs b) (i := 0) rfl (wn rfl) rfl (litEv (by kernel_rfl)) ?_
  intro g2 w4 hm3
  clear hm0
  try simp only [List.cons_append, List.nil_append, List.set_cons_succ, List.set_cons_zero] at hm3
  refine qP rfl ?_
  refine plAlloc (z := [.int .i64 0, .int .i64 0, .int .i64 0]) Ty.ag_voxel_api_Point hm3 (i := 1) rfl (wn rfl) rfl ?_
  intro g5 w7 hm6
  clear hm3
  try simp only [List.cons_append, List.nil_append, List.set_cons_succ, List.set_cons_zero] at hm6
  refine qP rfl ?_
  refine plD ?_
  refine then_normal (hK1 _ _ ?_)
  refine wp_seq_k fun K8 hK8 => ?_
  refine plStart ?_
  refine litVal (v := .agg (bxs b).toArray) rfl (wn rfl) (gLoadAg (vs := bxs b) (k := 0) 0 hm6 rfl (by kernel_rfl) (by kernel_rfl) (.tmp 1) Ty.ag_voxel_api_Box rfl (litEv (by kernel_rfl))) rfl (by decide) ?_
  refine plCall (i := 1) 55 [.agg (bxs b).toArray] [] [] rfl (by kernel_rfl) (wn rfl) rfl (litEv (by kernel_rfl)) (litArgs (by kernel_rfl)) (empty_any b _) ?_
  rintro e w9 ⟨rfl, hbz⟩
  have hm10 := hm6.below hbz
  clear hbz hm6
  refine ⟨_, rfl, ?_⟩
  refine qP rfl ?_
  rcases bool_or (decide b.none) with h11 | h11
  · rw [h11]
    refine lk (v := .bool false) rfl rfl rfl ?_
    refine plD ?_
    refine then_normal (hK8 _ _ ?_)
    refine wp_seq_k fun K12 hK12 => ?_
    refine wp_seq_k fun K13 hK13 => ?_
    refine plStart ?_
    refine lk (v := .bool false) rfl rfl rfl ?_
    refine plD ?_
    refine then_normal (hK13 _ _ ?_)
    refine wp_cond_false (litEv (by kernel_rfl)) ?_
    refine wp_skip ?_
    refine then_normal (hK12 _ _ ?_)
    refine wp_seq_k fun K14 hK14 => ?_
    refine plStart ?_
    refine lk (v := .pointer (some ⟨g2, 3, none⟩)) rfl rfl rfl ?_
    refine litVal (v := .agg (pcs b.mx).toArray) rfl (wn rfl) (gLoadAg (vs := pcs b.mx) (k := 3) 0 hm10 rfl (by kernel_rfl) (by kernel_rfl) (.tmp 8) Ty.ag_voxel_api_Point rfl (litEv (by kernel_rfl))) rfl (by decide) ?_
    refine lk (v := .pointer (some ⟨g2, 0, none⟩)) rfl rfl rfl ?_
    refine litVal (v := .agg (pcs b.mn).toArray) rfl (wn rfl) (gLoadAg (vs := pcs b.mn) (k := 0) 0 hm10 rfl (by kernel_rfl) (by kernel_rfl) (.tmp 10) Ty.ag_voxel_api_Point rfl (litEv (by kernel_rfl))) rfl (by decide) ?_
    refine plCall (i := 4) 24 [.agg (pcs b.mx).toArray, .agg (pcs b.mn).toArray] [] [] rfl (by kernel_rfl) (wn rfl) rfl (litEv (by kernel_rfl)) (litArgs (by kernel_rfl)) (sub_any b.mx b.mn (by omega) (by omega) _) ?_
    rintro e w15 ⟨rfl, hbz⟩
    have hm16 := hm10.below hbz
    clear hbz hm10
    refine ⟨_, rfl, ?_⟩
    refine qP rfl ?_
    refine plStore 1 Ty.ag_voxel_api_Point hm16 rfl (i := 5) (cs := pcs (b.mx.sub b.mn)) rfl (wn rfl) rfl (litEv (by kernel_rfl)) (litEv (by kernel_rfl)) rfl rfl (by kernel_rfl) ?_
    intro w18 hm17
    clear hm16
    try simp only [List.cons_append, List.nil_append, List.set_cons_succ, List.set_cons_zero] at hm17
    refine qNone rfl ?_
    refine plD ?_
    refine then_normal (hK14 _ _ ?_)
    refine wp_ret ?_
    refine bodyPost_ret (v := .agg (pcs (b.mx.sub b.mn)).toArray) (gRes1 rfl (gResAg (cs := pcs (b.mx.sub b.mn)) 1 hm17 rfl Ty.ag_voxel_api_Point rfl (litGet (by kernel_rfl)))) rfl ?_
    exact ⟨congrArg (fun p_ => Ending.returned (.agg (pcs p_).toArray)) (show b.mx.sub b.mn = b.size by unfold Bx.size; rw [if_neg (of_decide_eq_false h11)]), hm17.bel⟩
  rw [h11]
  refine lk (v := .bool true) rfl rfl rfl ?_
  refine plD ?_
  refine then_normal (hK8 _ _ ?_)
  refine wp_seq_k fun K19 hK19 => ?_
  refine wp_seq_k fun K20 hK20 => ?_
  refine plStart ?_
  refine lk (v := .bool true) rfl rfl rfl ?_
  refine plD ?_
  refine then_normal (hK20 _ _ ?_)
  refine wp_cond_true (litEv (by kernel_rfl)) ?_
  refine wp_seq_k fun K21 hK21 => ?_
  refine plStart ?_
  refine lk (v := .agg (pcs ⟨0, 0, 0⟩).toArray) rfl rfl rfl ?_
  refine plStore 1 Ty.ag_voxel_api_Point hm10 rfl (i := 1) (cs := pcs ⟨0, 0, 0⟩) rfl (wn rfl) rfl (litEv (by kernel_rfl)) (litEv (by kernel_rfl)) rfl rfl (by kernel_rfl) ?_
  intro w23 hm22
  clear hm10
  try simp only [List.cons_append, List.nil_append, List.set_cons_succ, List.set_cons_zero] at hm22
  refine qNone rfl ?_
  refine plD ?_
  refine then_normal (hK21 _ _ ?_)
  refine wp_ret ?_
  refine then_ret ?_
  refine bodyPost_ret (v := .agg (pcs ⟨0, 0, 0⟩).toArray) (gRes1 rfl (gResAg (cs := pcs ⟨0, 0, 0⟩) 1 hm22 rfl Ty.ag_voxel_api_Point rfl (litGet (by kernel_rfl)))) rfl ?_
  exact ⟨congrArg (fun p_ => Ending.returned (.agg (pcs p_).toArray)) (show p0 = b.size by unfold Bx.size; rw [if_pos (of_decide_eq_true h11)]), hm22.bel⟩
set_option maxRecDepth 100000 in
set_option maxHeartbeats 4000000 in
theorem vol_any (b : Bx) (hb : b.rng) (w : World) : Calls Try.prog 39 #[.agg (bxs b).toArray] w (RetV w (.int .i64 b.vol)) := by
  obtain ⟨hv1, hv2⟩ := vol_bd hb
  unfold Bx.vol at hv2
  have hm0 := Mem.nil w
  go_enter Try.func39, Try.ntmps39
  refine litStart 14 [(0, .agg (bxs b).toArray)] (by kernel_rfl) (fun X0 => ?_)
  refine wp_seq_k fun K1 hK1 => ?_
  refine plStart ?_
  refine plBox hm0 (cs := bxs b) (i := 0) rfl (wn rfl) rfl (litEv (by kernel_rfl)) ?_
  intro g2 w4 hm3
  clear hm0
  try simp only [List.cons_append, List.nil_append, List.set_cons_succ, List.set_cons_zero] at hm3
  refine qP rfl ?_
  refine lk (v := .int .i64 0) rfl rfl rfl ?_
  refine plD ?_
  refine then_normal (hK1 _ _ ?_)
  refine wp_seq_k fun K5 hK5 => ?_
  refine plStart ?_
  refine litVal (v := .agg (bxs b).toArray) rfl (wn rfl) (gLoadAg (vs := bxs b) (k := 0) 0 hm3 rfl (by kernel_rfl) (by kernel_rfl) (.tmp 1) Ty.ag_voxel_api_Box rfl (litEv (by kernel_rfl))) rfl (by decide) ?_
  refine plCall (i := 1) 51 [.agg (bxs b).toArray] [] [] rfl (by kernel_rfl) (wn rfl) rfl (litEv (by kernel_rfl)) (litArgs (by kernel_rfl)) (size_any b hb _) ?_
  rintro e w6 ⟨rfl, hbz⟩
  have hm7 := hm3.below hbz
  clear hbz hm3
  refine ⟨_, rfl, ?_⟩
  refine qP rfl ?_
  refine plAlloc (z := [.int .i64 0, .int .i64 0, .int .i64 0]) Ty.ag_voxel_api_Point hm7 (i := 2) rfl (wn rfl) rfl ?_
  intro g8 w10 hm9
  clear hm7
  try simp only [List.cons_append, List.nil_append, List.set_cons_succ, List.set_cons_zero] at hm9
  refine qP rfl ?_
  refine plStore 1 Ty.ag_voxel_api_Point hm9 rfl (i := 3) (cs := pcs (b.size)) rfl (wn rfl) rfl (litEv (by kernel_rfl)) (litEv (by kernel_rfl)) rfl rfl (by kernel_rfl) ?_
  intro w12 hm11
  clear hm9
  try simp only [List.cons_append, List.nil_append, List.set_cons_succ, List.set_cons_zero] at hm11
  refine qNone rfl ?_
  refine plD ?_
  refine then_normal (hK5 _ _ ?_)
  refine wp_seq_k fun K13 hK13 => ?_
  refine plStart ?_
  refine lk (v := .pointer (some ⟨g8, 0, none⟩)) rfl rfl rfl ?_
  refine litVal (v := .int .i64 ((b.size).x)) rfl (wn rfl) (gLoad (v := .int .i64 ((b.size).x)) (k := 0) 1 hm11 rfl (by kernel_rfl) (.tmp 6) (by kernel_rfl) rfl (litEv (by kernel_rfl))) rfl (by decide) ?_
  refine lk (v := .pointer (some ⟨g8, 1, none⟩)) rfl rfl rfl ?_
  refine litVal (v := .int .i64 ((b.size).y)) rfl (wn rfl) (gLoad (v := .int .i64 ((b.size).y)) (k := 1) 1 hm11 rfl (by kernel_rfl) (.tmp 8) (by kernel_rfl) rfl (litEv (by kernel_rfl))) rfl (by decide) ?_
  refine litVal (v := .int .i64 (((b.size).x) * ((b.size).y))) rfl (wn rfl) (mulRun' (A := ((b.size).x)) (B := ((b.size).y)) (C := ((b.size).x) * ((b.size).y)) (.tmp 7) (.tmp 9) rfl (litEv (by kernel_rfl)) (litEv (by kernel_rfl)) rfl (by omega)) rfl (by decide) ?_
  refine lk (v := .pointer (some ⟨g8, 2, none⟩)) rfl rfl rfl ?_
  refine litVal (v := .int .i64 ((b.size).z)) rfl (wn rfl) (gLoad (v := .int .i64 ((b.size).z)) (k := 2) 1 hm11 rfl (by kernel_rfl) (.tmp 11) (by kernel_rfl) rfl (litEv (by kernel_rfl))) rfl (by decide) ?_
  refine litVal (v := .int .i64 ((((b.size).x) * ((b.size).y)) * ((b.size).z))) rfl (wn rfl) (mulRun' (A := (((b.size).x) * ((b.size).y))) (B := ((b.size).z)) (C := (((b.size).x) * ((b.size).y)) * ((b.size).z)) (.tmp 10) (.tmp 12) rfl (litEv (by kernel_rfl)) (litEv (by kernel_rfl)) rfl (by omega)) rfl (by decide) ?_
  refine lk (v := .int .i64 ((((b.size).x) * ((b.size).y)) * ((b.size).z))) rfl rfl rfl ?_
  refine plD ?_
  refine then_normal (hK13 _ _ ?_)
  refine wpPrune [(2, .int .i64 ((((b.size).x) * ((b.size).y)) * ((b.size).z)))] ⟨litGet (by kernel_rfl), trivial⟩ (fun X14 => ?_)
  refine wp_ret ?_
  refine bodyPost_ret (v := .int .i64 ((((b.size).x) * ((b.size).y)) * ((b.size).z))) (gRes1 rfl (gResTmp (t := 2) (v := .int .i64 ((((b.size).x) * ((b.size).y)) * ((b.size).z))) (litGet (by kernel_rfl)))) rfl ?_
  exact ⟨by rfl, hm11.bel⟩
set_option maxRecDepth 100000 in
set_option maxHeartbeats 4000000 in
theorem idx_any (b : Bx) (p : Pt) (hb : b.rng) (w : World) : Calls Try.prog 58 #[.agg (bxs b).toArray, .agg (pcs p).toArray] w (RetV w (.int .i64 (b.idx p))) := by
  have hb_ := hb
  unfold Bx.rng Pt.rng at hb_
  have hm0 := Mem.nil w
  go_enter Try.func58, Try.ntmps58
  refine litStart 33 [(0, .agg (bxs b).toArray), (1, .agg (pcs p).toArray)] (by kernel_rfl) (fun X0 => ?_)
  refine wp_seq_k fun K1 hK1 => ?_
  refine plStart ?_
  refine plBox hm0 (cs := bxs b) (i := 0) rfl (wn rfl) rfl (litEv (by kernel_rfl)) ?_
  intro g2 w4 hm3
  clear hm0
  try simp only [List.cons_append, List.nil_append, List.set_cons_succ, List.set_cons_zero] at hm3
  refine qP rfl ?_
  refine plBox hm3 (cs := pcs p) (i := 1) rfl (wn rfl) rfl (litEv (by kernel_rfl)) ?_
  intro g5 w7 hm6
  clear hm3
  try simp only [List.cons_append, List.nil_append, List.set_cons_succ, List.set_cons_zero] at hm6
  refine qP rfl ?_
  refine lk (v := .int .i64 0) rfl rfl rfl ?_
  refine plD ?_
  refine then_normal (hK1 _ _ ?_)
  refine wp_seq_k fun K8 hK8 => ?_
  refine plStart ?_
  refine litVal (v := .agg (pcs p).toArray) rfl (wn rfl) (gLoadAg (vs := pcs p) (k := 0) 1 hm6 rfl (by kernel_rfl) (by kernel_rfl) (.tmp 3) Ty.ag_voxel_api_Point rfl (litEv (by kernel_rfl))) rfl (by decide) ?_
  refine litVal (v := .agg (bxs b).toArray) rfl (wn rfl) (gLoadAg (vs := bxs b) (k := 0) 0 hm6 rfl (by kernel_rfl) (by kernel_rfl) (.tmp 2) Ty.ag_voxel_api_Box rfl (litEv (by kernel_rfl))) rfl (by decide) ?_
  refine plCall (i := 2) 27 [.agg (pcs p).toArray, .agg (bxs b).toArray] [] [] rfl (by kernel_rfl) (wn rfl) rfl (litEv (by kernel_rfl)) (litArgs (by kernel_rfl)) (in_any p b _) ?_
  rintro e w9 ⟨rfl, hbz⟩
  have hm10 := hm6.below hbz
  clear hbz hm6
  refine ⟨_, rfl, ?_⟩
  refine qP rfl ?_
  rcases bool_or (decide (b.has p)) with h11 | h11
  · rw [h11]
    refine lk (v := .bool false) rfl rfl rfl ?_
    refine plD ?_
    refine then_normal (hK8 _ _ ?_)
    refine wp_seq_k fun K12 hK12 => ?_
    refine wp_seq_k fun K13 hK13 => ?_
    refine plStart ?_
    refine lk (v := .bool false) rfl rfl rfl ?_
    refine lk (v := .bool true) rfl rfl rfl ?_
    refine plD ?_
    refine then_normal (hK13 _ _ ?_)
    refine wp_cond_true (litEv (by kernel_rfl)) ?_
    refine wp_seq_k fun K14 hK14 => ?_
    refine plStart ?_
    refine lk (v := .int .i64 (-1)) rfl rfl rfl ?_
    refine plD ?_
    refine then_normal (hK14 _ _ ?_)
    refine wp_ret ?_
    refine then_ret ?_
    refine bodyPost_ret (v := .int .i64 (-1)) (gRes1 rfl (gResTmp (t := 4) (v := .int .i64 (-1)) (litGet (by kernel_rfl)))) rfl ?_
    exact ⟨congrArg (fun n_ => Ending.returned (.int .i64 n_)) (show _ = b.idx p by unfold Bx.idx; rw [if_neg (of_decide_eq_false h11)]), hm10.bel⟩
  rw [h11]
  refine lk (v := .bool true) rfl rfl rfl ?_
  refine plD ?_
  refine then_normal (hK8 _ _ ?_)
  refine wp_seq_k fun K15 hK15 => ?_
  refine wp_seq_k fun K16 hK16 => ?_
  refine plStart ?_
  refine lk (v := .bool true) rfl rfl rfl ?_
  refine lk (v := .bool false) rfl rfl rfl ?_
  refine plD ?_
  refine then_normal (hK16 _ _ ?_)
  refine wp_cond_false (litEv (by kernel_rfl)) ?_
  refine wp_skip ?_
  refine then_normal (hK15 _ _ ?_)
  refine wp_seq_k fun K17 hK17 => ?_
  refine plStart ?_
  have hid := idx_bd hb (of_decide_eq_true h11)
  have hid2 := hid.2.2.2.2.2.2.2
  unfold Bx.idx at hid2
  rw [if_pos (of_decide_eq_true h11)] at hid2
  have hvb := (vol_bd hb).2
  have hpb_ := of_decide_eq_true h11
  unfold Bx.has at hpb_
  refine litVal (v := .agg (bxs b).toArray) rfl (wn rfl) (gLoadAg (vs := bxs b) (k := 0) 0 hm10 rfl (by kernel_rfl) (by kernel_rfl) (.tmp 2) Ty.ag_voxel_api_Box rfl (litEv (by kernel_rfl))) rfl (by decide) ?_
  refine plCall (i := 1) 51 [.agg (bxs b).toArray] [] [] rfl (by kernel_rfl) (wn rfl) rfl (litEv (by kernel_rfl)) (litArgs (by kernel_rfl)) (size_any b hb _) ?_
  rintro e w18 ⟨rfl, hbz⟩
  have hm19 := hm10.below hbz
  clear hbz hm10
  refine ⟨_, rfl, ?_⟩
  refine qP rfl ?_
  refine plAlloc (z := [.int .i64 0, .int .i64 0, .int .i64 0]) Ty.ag_voxel_api_Point hm19 (i := 2) rfl (wn rfl) rfl ?_
  intro g20 w22 hm21
  clear hm19
  try simp only [List.cons_append, List.nil_append, List.set_cons_succ, List.set_cons_zero] at hm21
  refine qP rfl ?_
  refine plStore 2 Ty.ag_voxel_api_Point hm21 rfl (i := 3) (cs := pcs (b.size)) rfl (wn rfl) rfl (litEv (by kernel_rfl)) (litEv (by kernel_rfl)) rfl rfl (by kernel_rfl) ?_
  intro w24 hm23
  clear hm21
  try simp only [List.cons_append, List.nil_append, List.set_cons_succ, List.set_cons_zero] at hm23
  refine qNone rfl ?_
  refine plD ?_
  refine then_normal (hK17 _ _ ?_)
  refine wp_seq_k fun K25 hK25 => ?_
  refine plStart ?_
  refine litVal (v := .agg (pcs p).toArray) rfl (wn rfl) (gLoadAg (vs := pcs p) (k := 0) 1 hm23 rfl (by kernel_rfl) (by kernel_rfl) (.tmp 3) Ty.ag_voxel_api_Point rfl (litEv (by kernel_rfl))) rfl (by decide) ?_
  refine lk (v := .pointer (some ⟨g2, 0, none⟩)) rfl rfl rfl ?_
  refine litVal (v := .agg (pcs b.mn).toArray) rfl (wn rfl) (gLoadAg (vs := pcs b.mn) (k := 0) 0 hm23 rfl (by kernel_rfl) (by kernel_rfl) (.tmp 16) Ty.ag_voxel_api_Point rfl (litEv (by kernel_rfl))) rfl (by decide) ?_
  refine plCall (i := 3) 24 [.agg (pcs p).toArray, .agg (pcs b.mn).toArray] [] [] rfl (by kernel_rfl) (wn rfl) rfl (litEv (by kernel_rfl)) (litArgs (by kernel_rfl)) (sub_any p b.mn (by omega) (by omega) _) ?_
  rintro e w26 ⟨rfl, hbz⟩
  have hm27 := hm23.below hbz
  clear hbz hm23
  refine ⟨_, rfl, ?_⟩
  refine qP rfl ?_
  refine plAlloc (z := [.int .i64 0, .int .i64 0, .int .i64 0]) Ty.ag_voxel_api_Point hm27 (i := 4) rfl (wn rfl) rfl ?_
  intro g28 w30 hm29
  clear hm27
  try simp only [List.cons_append, List.nil_append, List.set_cons_succ, List.set_cons_zero] at hm29
  refine qP rfl ?_
  refine plStore 3 Ty.ag_voxel_api_Point hm29 rfl (i := 5) (cs := pcs (p.sub b.mn)) rfl (wn rfl) rfl (litEv (by kernel_rfl)) (litEv (by kernel_rfl)) rfl rfl (by kernel_rfl) ?_
  intro w32 hm31
  clear hm29
  try simp only [List.cons_append, List.nil_append, List.set_cons_succ, List.set_cons_zero] at hm31
  refine qNone rfl ?_
  refine plD ?_
  refine then_normal (hK25 _ _ ?_)
  refine wpPrune [(4, .int .i64 0), (6, .pointer (some ⟨g20, 0, none⟩)), (7, .pointer (some ⟨g28, 0, none⟩))] ⟨litGet (by kernel_rfl), ⟨litGet (by kernel_rfl), ⟨litGet (by kernel_rfl), trivial⟩⟩⟩ (fun X33 => ?_)
  refine wp_seq_k fun K34 hK34 => ?_
  refine plStart ?_
  refine lk (v := .pointer (some ⟨g28, 0, none⟩)) rfl rfl rfl ?_
  refine litVal (v := .int .i64 (p.x - b.mn.x)) rfl (wn rfl) (gLoad (v := .int .i64 (p.x - b.mn.x)) (k := 0) 3 hm31 rfl (by kernel_rfl) (.tmp 19) (by kernel_rfl) rfl (litEv (by kernel_rfl))) rfl (by decide) ?_
  refine lk (v := .pointer (some ⟨g20, 0, none⟩)) rfl rfl rfl ?_
  refine litVal (v := .int .i64 ((b.size).x)) rfl (wn rfl) (gLoad (v := .int .i64 ((b.size).x)) (k := 0) 2 hm31 rfl (by kernel_rfl) (.tmp 21) (by kernel_rfl) rfl (litEv (by kernel_rfl))) rfl (by decide) ?_
  refine lk (v := .pointer (some ⟨g28, 1, none⟩)) rfl rfl rfl ?_
  refine litVal (v := .int .i64 (p.y - b.mn.y)) rfl (wn rfl) (gLoad (v := .int .i64 (p.y - b.mn.y)) (k := 1) 3 hm31 rfl (by kernel_rfl) (.tmp 23) (by kernel_rfl) rfl (litEv (by kernel_rfl))) rfl (by decide) ?_
  refine lk (v := .pointer (some ⟨g20, 1, none⟩)) rfl rfl rfl ?_
  refine litVal (v := .int .i64 ((b.size).y)) rfl (wn rfl) (gLoad (v := .int .i64 ((b.size).y)) (k := 1) 2 hm31 rfl (by kernel_rfl) (.tmp 25) (by kernel_rfl) rfl (litEv (by kernel_rfl))) rfl (by decide) ?_
  refine lk (v := .pointer (some ⟨g28, 2, none⟩)) rfl rfl rfl ?_
  refine litVal (v := .int .i64 (p.z - b.mn.z)) rfl (wn rfl) (gLoad (v := .int .i64 (p.z - b.mn.z)) (k := 2) 3 hm31 rfl (by kernel_rfl) (.tmp 27) (by kernel_rfl) rfl (litEv (by kernel_rfl))) rfl (by decide) ?_
  refine litVal (v := .int .i64 (((b.size).y) * (p.z - b.mn.z))) rfl (wn rfl) (mulRun' (A := ((b.size).y)) (B := (p.z - b.mn.z)) (C := ((b.size).y) * (p.z - b.mn.z)) (.tmp 26) (.tmp 28) rfl (litEv (by kernel_rfl)) (litEv (by kernel_rfl)) rfl (by omega)) rfl (by decide) ?_
  refine litVal (v := .int .i64 ((p.y - b.mn.y) + (((b.size).y) * (p.z - b.mn.z)))) rfl (wn rfl) (addRun (A := (p.y - b.mn.y)) (B := (((b.size).y) * (p.z - b.mn.z))) (C := (p.y - b.mn.y) + (((b.size).y) * (p.z - b.mn.z))) (.tmp 24) (.tmp 29) rfl (litEv (by kernel_rfl)) (litEv (by kernel_rfl)) rfl (by omega)) rfl (by decide) ?_
  refine litVal (v := .int .i64 (((b.size).x) * ((p.y - b.mn.y) + (((b.size).y) * (p.z - b.mn.z))))) rfl (wn rfl) (mulRun' (A := ((b.size).x)) (B := ((p.y - b.mn.y) + (((b.size).y) * (p.z - b.mn.z)))) (C := ((b.size).x) * ((p.y - b.mn.y) + (((b.size).y) * (p.z - b.mn.z)))) (.tmp 22) (.tmp 30) rfl (litEv (by kernel_rfl)) (litEv (by kernel_rfl)) rfl (by omega)) rfl (by decide) ?_
  refine litVal (v := .int .i64 ((p.x - b.mn.x) + (((b.size).x) * ((p.y - b.mn.y) + (((b.size).y) * (p.z - b.mn.z)))))) rfl (wn rfl) (addRun (A := (p.x - b.mn.x)) (B := (((b.size).x) * ((p.y - b.mn.y) + (((b.size).y) * (p.z - b.mn.z))))) (C := (p.x - b.mn.x) + (((b.size).x) * ((p.y - b.mn.y) + (((b.size).y) * (p.z - b.mn.z))))) (.tmp 20) (.tmp 31) rfl (litEv (by kernel_rfl)) (litEv (by kernel_rfl)) rfl (by omega)) rfl (by decide) ?_
  refine lk (v := .int .i64 ((p.x - b.mn.x) + (((b.size).x) * ((p.y - b.mn.y) + (((b.size).y) * (p.z - b.mn.z)))))) rfl rfl rfl ?_
  refine plD ?_
  refine then_normal (hK34 _ _ ?_)
  refine wpPrune [(4, .int .i64 ((p.x - b.mn.x) + (((b.size).x) * ((p.y - b.mn.y) + (((b.size).y) * (p.z - b.mn.z))))))] ⟨litGet (by kernel_rfl), trivial⟩ (fun X35 => ?_)
  refine wp_ret ?_
  refine bodyPost_ret (v := .int .i64 ((p.x - b.mn.x) + (((b.size).x) * ((p.y - b.mn.y) + (((b.size).y) * (p.z - b.mn.z)))))) (gRes1 rfl (gResTmp (t := 4) (v := .int .i64 ((p.x - b.mn.x) + (((b.size).x) * ((p.y - b.mn.y) + (((b.size).y) * (p.z - b.mn.z)))))) (litGet (by kernel_rfl)))) rfl ?_
  exact ⟨congrArg (fun n_ => Ending.returned (.int .i64 n_)) (show _ = b.idx p by unfold Bx.idx; rw [if_pos (of_decide_eq_true h11)]), hm31.bel⟩
set_option maxRecDepth 100000 in
set_option maxHeartbeats 4000000 in
theorem get_any (g : Gr) (hv : g.Valid) (A : Option Addr) (c : Nat) (p : Pt) (w : World) (hrd : Rd w w.heap.size 1 A g.cells.length c (ics g.cells)) : Calls Try.prog 54 #[.agg (gcs g A c).toArray, .agg (pcs p).toArray] w (RetV w (.int .i64 (g.get p))) := by
  have hb := hv.1
  have hm0 := Mem.nil w
  go_enter Try.func54, Try.ntmps54
  refine litStart 17 [(0, .agg (gcs g A c).toArray), (1, .agg (pcs p).toArray)] (by kernel_rfl) (fun X0 => ?_)
  refine wp_seq_k fun K1 hK1 => ?_
  refine plStart ?_
  refine plBox hm0 (cs := gcs g A c) (i := 0) rfl (wn rfl) rfl (litEv (by kernel_rfl)) ?_
  intro g2 w4 hm3
  clear hm0
  try simp only [List.cons_append, List.nil_append, List.set_cons_succ, List.set_cons_zero] at hm3
  refine qP rfl ?_
  refine plBox hm3 (cs := pcs p) (i := 1) rfl (wn rfl) rfl (litEv (by kernel_rfl)) ?_
  intro g5 w7 hm6
  clear hm3
  try simp only [List.cons_append, List.nil_append, List.set_cons_succ, List.set_cons_zero] at hm6
  refine qP rfl ?_
  refine lk (v := .int .i64 0) rfl rfl rfl ?_
  refine plD ?_
  refine then_normal (hK1 _ _ ?_)
  refine wp_seq_k fun K8 hK8 => ?_
  refine plStart ?_
  refine lk (v := .pointer (some ⟨g2, 0, none⟩)) rfl rfl rfl ?_
  refine litVal (v := .agg (bxs g.box).toArray) rfl (wn rfl) (gLoadAg (vs := bxs g.box) (k := 0) 0 hm6 rfl (by kernel_rfl) (by kernel_rfl) (.tmp 6) Ty.ag_voxel_api_Box rfl (litEv (by kernel_rfl))) rfl (by decide) ?_
  refine litVal (v := .agg (pcs p).toArray) rfl (wn rfl) (gLoadAg (vs := pcs p) (k := 0) 1 hm6 rfl (by kernel_rfl) (by kernel_rfl) (.tmp 3) Ty.ag_voxel_api_Point rfl (litEv (by kernel_rfl))) rfl (by decide) ?_
  refine plCall (i := 3) 58 [.agg (bxs g.box).toArray, .agg (pcs p).toArray] [] [] rfl (by kernel_rfl) (wn rfl) rfl (litEv (by kernel_rfl)) (litArgs (by kernel_rfl)) (idx_any g.box p hb _) ?_
  rintro e w9 ⟨rfl, hbz⟩
  have hm10 := hm6.below hbz
  clear hbz hm6
  refine ⟨_, rfl, ?_⟩
  refine qP rfl ?_
  refine lk (v := .int .i64 (g.box.idx p)) rfl rfl rfl ?_
  refine plD ?_
  refine then_normal (hK8 _ _ ?_)
  refine wp_seq_k fun K11 hK11 => ?_
  refine wp_seq_k fun K12 hK12 => ?_
  refine plStart ?_
  refine lk (v := .int .i64 (g.box.idx p)) rfl rfl rfl ?_
  by_cases h13 : (g.box.idx p) < 0
  · refine litVal (v := .bool true) rfl (wn rfl) (boolTo (decide_eq_true h13) (lssRun (A := (g.box.idx p)) (B := 0) (.tmp 10) (.const (.int .i64 0)) rfl (litEv (by kernel_rfl)) (litEv (by kernel_rfl)))) rfl (by decide) ?_
    refine plD ?_
    refine then_normal (hK12 _ _ ?_)
    refine wp_cond_true (litEv (by kernel_rfl)) ?_
    refine wp_seq_k fun K14 hK14 => ?_
    refine plStart ?_
    refine lk (v := .int .i64 0) rfl rfl rfl ?_
    refine plD ?_
    refine then_normal (hK14 _ _ ?_)
    refine wp_ret ?_
    refine then_ret ?_
    refine bodyPost_ret (v := .int .i64 0) (gRes1 rfl (gResTmp (t := 4) (v := .int .i64 0) (litGet (by kernel_rfl)))) rfl ?_
    exact ⟨congrArg (fun n_ => Ending.returned (.int .i64 n_)) (show _ = g.get p from by unfold Gr.get; rw [if_pos h13]), hm10.bel⟩
  have hin : g.box.has p := Decidable.byContradiction (fun h_ => h13 (by rw [idx_neg h_]; decide))
  have hix := hv.idx hin
  obtain ⟨b_, off_, rfl, _, _⟩ := hrd.cells (by omega)
  obtain ⟨K, hK⟩ : ∃ K : Nat, g.box.idx p = (K : Int) := ⟨(g.box.idx p).toNat, by omega⟩
  obtain ⟨n, hn⟩ : ∃ n, g.cells[K]? = some n := ⟨_, List.getElem?_eq_getElem (by omega)⟩
  refine litVal (v := .bool false) rfl (wn rfl) (boolTo (decide_eq_false h13) (lssRun (A := (g.box.idx p)) (B := 0) (.tmp 10) (.const (.int .i64 0)) rfl (litEv (by kernel_rfl)) (litEv (by kernel_rfl)))) rfl (by decide) ?_
  refine plD ?_
  refine then_normal (hK12 _ _ ?_)
  refine wp_cond_false (litEv (by kernel_rfl)) ?_
  refine wp_skip ?_
  refine then_normal (hK11 _ _ ?_)
  refine wp_seq_k fun K15 hK15 => ?_
  refine plStart ?_
  refine lk (v := .pointer (some ⟨g2, 6, none⟩)) rfl rfl rfl ?_
  refine litVal (v := .slice (some ⟨b_, off_, none⟩) g.cells.length c) rfl (wn rfl) (gLoad (v := .slice (some ⟨b_, off_, none⟩) g.cells.length c) (k := 6) 0 hm10 rfl (by kernel_rfl) (.tmp 12) (by kernel_rfl) rfl (litEv (by kernel_rfl))) rfl (by decide) ?_
  refine lk (v := .int .i64 (g.box.idx p)) rfl rfl rfl ?_
  refine litVal (v := .pointer (some ⟨b_, off_ + K * 1, none⟩)) rfl (wn rfl) (gIaSl (b := b_) (off := off_) (n := g.cells.length) (c := c) (kk := .i64) (K := (g.box.idx p)) (.tmp 13) (.tmp 14) K Ty.sl_L_int rfl (litEv (by kernel_rfl)) (litEv (by kernel_rfl)) (hK) ((by omega))) rfl (by decide) ?_
  refine litVal (v := .int .i64 n) rfl (wn rfl) (gLoadRd (v := .int .i64 n) (m := K * 1) ((Rd.below hrd hm10.bel).more hm10.bel.size) rfl (icsGet hn) (by omega) (.tmp 15) (by kernel_rfl) rfl (litEv (by kernel_rfl))) rfl (by decide) ?_
  refine lk (v := .int .i64 n) rfl rfl rfl ?_
  refine plD ?_
  refine then_normal (hK15 _ _ ?_)
  refine wpPrune [(4, .int .i64 n)] ⟨litGet (by kernel_rfl), trivial⟩ (fun X16 => ?_)
  refine wp_ret ?_
  refine bodyPost_ret (v := .int .i64 n) (gRes1 rfl (gResTmp (t := 4) (v := .int .i64 n) (litGet (by kernel_rfl)))) rfl ?_
  exact ⟨congrArg (fun n_ => Ending.returned (.int .i64 n_)) (show _ = g.get p from by unfold Gr.get; rw [if_neg h13, hK, Int.toNat_natCast, List.getD_eq_getElem?_getD, hn]; rfl), hm10.bel⟩
set_option maxRecDepth 100000 in
set_option maxHeartbeats 4000000 in
theorem mat_any (T : List Mat) (n : Int) (A : Option Addr) (c : Nat) (w : World) (hrd : Rd w w.heap.size 8 A T.length c (mts T)) : Calls Try.prog 56 #[.slice A T.length c, .int .i64 n] w (RetV w (.agg (mcs (matAt T n)).toArray)) := by
  have hm0 := Mem.nil w
  go_enter Try.func56, Try.ntmps56
  refine litStart 18 [(0, .slice A T.length c), (1, .int .i64 n)] (by kernel_rfl) (fun X0 => ?_)
  refine wp_seq_k fun K1 hK1 => ?_
  refine plStart ?_
  refine plAlloc (z := [.string ⟨([]).toArray⟩, .bool false, .bool false, .bool false, .int .i64 0, .int .i64 0, .int .i64 0, .int .i64 0]) Ty.ag_voxel_api_Material hm0 (i := 0) rfl (wn rfl) rfl ?_
  intro g2 w4 hm3
  clear hm0
  try simp only [List.cons_append, List.nil_append, List.set_cons_succ, List.set_cons_zero] at hm3
  refine qP rfl ?_
  refine plD ?_
  refine then_normal (hK1 _ _ ?_)
  refine wp_seq_k fun K5 hK5 => ?_
  refine wp_seq_k fun K6 hK6 => ?_
  refine plStart ?_
  refine lk (v := .int .i64 n) rfl rfl rfl ?_
  by_cases h7 : n < 0
  · refine litVal (v := .bool true) rfl (wn rfl) (boolTo (decide_eq_true h7) (lssRun (A := n) (B := 0) (.tmp 5) (.const (.int .i64 0)) rfl (litEv (by kernel_rfl)) (litEv (by kernel_rfl)))) rfl (by decide) ?_
    refine lk (v := .bool true) rfl rfl rfl ?_
    refine plSkip (i := 3) rfl (wgN rfl rfl rfl (by decide) (by kernel_rfl)) ?_
    refine qP rfl ?_
    refine plSkip (i := 4) rfl (wgN rfl rfl rfl (by decide) (by kernel_rfl)) ?_
    refine qP rfl ?_
    refine plSkip (i := 5) rfl (wgN rfl rfl rfl (by decide) (by kernel_rfl)) ?_
    refine qP rfl ?_
    refine plSkip (i := 6) rfl (wgN rfl rfl rfl (by decide) (by kernel_rfl)) ?_
    refine qP rfl ?_
    refine lk (v := .bool true) rfl rfl rfl ?_
    refine plD ?_
    refine then_normal (hK6 _ _ ?_)
    refine wp_cond_true (litEv (by kernel_rfl)) ?_
    refine wp_seq_k fun K8 hK8 => ?_
    refine plStart ?_
    refine lk (v := .agg ([.string ⟨([]).toArray⟩, .bool false, .bool false, .bool false, .int .i64 16, .int .i64 0, .int .i64 0, .int .i64 0]).toArray) rfl rfl rfl ?_
    refine plStore 0 Ty.ag_voxel_api_Material hm3 rfl (i := 1) (cs := [.string ⟨([]).toArray⟩, .bool false, .bool false, .bool false, .int .i64 16, .int .i64 0, .int .i64 0, .int .i64 0]) rfl (wn rfl) rfl (litEv (by kernel_rfl)) (litEv (by kernel_rfl)) rfl rfl (by kernel_rfl) ?_
    intro w10 hm9
    clear hm3
    try simp only [List.cons_append, List.nil_append, List.set_cons_succ, List.set_cons_zero] at hm9
    refine qNone rfl ?_
    refine plD ?_
    refine then_normal (hK8 _ _ ?_)
    refine wp_ret ?_
    refine then_ret ?_
    refine bodyPost_ret (v := .agg ([.string ⟨([]).toArray⟩, .bool false, .bool false, .bool false, .int .i64 16, .int .i64 0, .int .i64 0, .int .i64 0]).toArray) (gRes1 rfl (gResAg (cs := [.string ⟨([]).toArray⟩, .bool false, .bool false, .bool false, .int .i64 16, .int .i64 0, .int .i64 0, .int .i64 0]) 0 hm9 rfl Ty.ag_voxel_api_Material rfl (litGet (by kernel_rfl)))) rfl ?_
    exact ⟨congrArg Ending.returned (show _ = Value.agg (mcs (matAt T n)).toArray from by unfold matAt; rw [if_pos (Or.inl h7)]; rfl), hm9.bel⟩
  refine litVal (v := .bool false) rfl (wn rfl) (boolTo (decide_eq_false h7) (lssRun (A := n) (B := 0) (.tmp 5) (.const (.int .i64 0)) rfl (litEv (by kernel_rfl)) (litEv (by kernel_rfl)))) rfl (by decide) ?_
  refine lk (v := .bool false) rfl rfl rfl ?_
  refine litVal (v := .int .i64 n) rfl (wgY rfl rfl rfl (by decide) (by kernel_rfl)) (litRun (by kernel_rfl)) rfl (by decide) ?_
  refine litVal (v := .slice A T.length c) rfl (wgY rfl rfl rfl (by decide) (by kernel_rfl)) (litRun (by kernel_rfl)) rfl (by decide) ?_
  refine litVal (v := .int .i64 (T.length : Int)) rfl (wgY rfl rfl rfl (by decide) (by kernel_rfl)) (lenSlRun (A := A) (n := T.length) (c := c) (.tmp 9) Ty.und_L_api_Material rfl (litEv (by kernel_rfl))) rfl (by decide) ?_
  by_cases h11 : (T.length : Int) ≤ n
  · refine litVal (v := .bool true) rfl (wgY rfl rfl rfl (by decide) (by kernel_rfl)) (boolTo (decide_eq_true h11) (gGeq (A := n) (B := (T.length : Int)) (.tmp 8) (.tmp 10) rfl (litEv (by kernel_rfl)) (litEv (by kernel_rfl)))) rfl (by decide) ?_
    refine lk (v := .bool true) rfl rfl rfl ?_
    refine plD ?_
    refine then_normal (hK6 _ _ ?_)
    refine wp_cond_true (litEv (by kernel_rfl)) ?_
    refine wp_seq_k fun K12 hK12 => ?_
    refine plStart ?_
    refine lk (v := .agg ([.string ⟨([]).toArray⟩, .bool false, .bool false, .bool false, .int .i64 16, .int .i64 0, .int .i64 0, .int .i64 0]).toArray) rfl rfl rfl ?_
    refine plStore 0 Ty.ag_voxel_api_Material hm3 rfl (i := 1) (cs := [.string ⟨([]).toArray⟩, .bool false, .bool false, .bool false, .int .i64 16, .int .i64 0, .int .i64 0, .int .i64 0]) rfl (wn rfl) rfl (litEv (by kernel_rfl)) (litEv (by kernel_rfl)) rfl rfl (by kernel_rfl) ?_
    intro w14 hm13
    clear hm3
    try simp only [List.cons_append, List.nil_append, List.set_cons_succ, List.set_cons_zero] at hm13
    refine qNone rfl ?_
    refine plD ?_
    refine then_normal (hK12 _ _ ?_)
    refine wp_ret ?_
    refine then_ret ?_
    refine bodyPost_ret (v := .agg ([.string ⟨([]).toArray⟩, .bool false, .bool false, .bool false, .int .i64 16, .int .i64 0, .int .i64 0, .int .i64 0]).toArray) (gRes1 rfl (gResAg (cs := [.string ⟨([]).toArray⟩, .bool false, .bool false, .bool false, .int .i64 16, .int .i64 0, .int .i64 0, .int .i64 0]) 0 hm13 rfl Ty.ag_voxel_api_Material rfl (litGet (by kernel_rfl)))) rfl ?_
    exact ⟨congrArg Ending.returned (show _ = Value.agg (mcs (matAt T n)).toArray from by unfold matAt; rw [if_pos (Or.inr h11)]; rfl), hm13.bel⟩
  obtain ⟨b_, off_, rfl, _, _⟩ := hrd.cells (by omega)
  obtain ⟨K, hK⟩ : ∃ K : Nat, n = (K : Int) := ⟨n.toNat, by omega⟩
  obtain ⟨m, hm⟩ : ∃ m, T[K]? = some m := ⟨_, List.getElem?_eq_getElem (by omega)⟩
  refine litVal (v := .bool false) rfl (wgY rfl rfl rfl (by decide) (by kernel_rfl)) (boolTo (decide_eq_false h11) (gGeq (A := n) (B := (T.length : Int)) (.tmp 8) (.tmp 10) rfl (litEv (by kernel_rfl)) (litEv (by kernel_rfl)))) rfl (by decide) ?_
  refine lk (v := .bool false) rfl rfl rfl ?_
  refine plD ?_
  refine then_normal (hK6 _ _ ?_)
  refine wp_cond_false (litEv (by kernel_rfl)) ?_
  refine wp_skip ?_
  refine then_normal (hK5 _ _ ?_)
  refine wp_seq_k fun K15 hK15 => ?_
  refine plStart ?_
  refine lk (v := .slice (some ⟨b_, off_, none⟩) T.length c) rfl rfl rfl ?_
  refine lk (v := .int .i64 n) rfl rfl rfl ?_
  refine litVal (v := .pointer (some ⟨b_, off_ + K * 8, none⟩)) rfl (wn rfl) (gIaSl (b := b_) (off := off_) (n := T.length) (c := c) (kk := .i64) (K := n) (.tmp 14) (.tmp 15) K Ty.sl_L_api_Material rfl (litEv (by kernel_rfl)) (litEv (by kernel_rfl)) (hK) ((by omega))) rfl (by decide) ?_
  refine litVal (v := .agg (mcs m).toArray) rfl (wn rfl) (gLoadAgRd (vs := mcs m) (m := K * 8) ((Rd.below hrd hm3.bel).more hm3.bel.size) rfl (mts_get hm) (by kernel_rfl) (by omega) (.tmp 16) Ty.ag_voxel_api_Material rfl (litEv (by kernel_rfl))) rfl (by decide) ?_
  refine plStore 0 Ty.ag_voxel_api_Material hm3 rfl (i := 4) (cs := mcs m) rfl (wn rfl) rfl (litEv (by kernel_rfl)) (litEv (by kernel_rfl)) rfl rfl (by kernel_rfl) ?_
  intro w17 hm16
  clear hm3
  try simp only [List.cons_append, List.nil_append, List.set_cons_succ, List.set_cons_zero] at hm16
  refine qNone rfl ?_
  refine plD ?_
  refine then_normal (hK15 _ _ ?_)
  refine wpPrune [(4, .pointer (some ⟨g2, 0, none⟩))] ⟨litGet (by kernel_rfl), trivial⟩ (fun X18 => ?_)
  refine wp_ret ?_
  refine bodyPost_ret (v := .agg (mcs m).toArray) (gRes1 rfl (gResAg (cs := mcs m) 0 hm16 rfl Ty.ag_voxel_api_Material rfl (litGet (by kernel_rfl)))) rfl ?_
  exact ⟨congrArg Ending.returned (show _ = Value.agg (mcs (matAt T n)).toArray from by unfold matAt; rw [if_neg (by omega), hK, Int.toNat_natCast, List.getD_eq_getElem?_getD, hm]; rfl), hm16.bel⟩
set_option maxRecDepth 100000 in
set_option maxHeartbeats 4000000 in
theorem refMat_any (T : List Mat) (n : Int) (A : Option Addr) (c : Nat) (w : World) (hrd : Rd w w.heap.size 8 A T.length c (mts T)) : Calls Try.prog 57 #[.slice A T.length c, .int .i64 n] w (RetV w (.agg (mcs (matAt T n)).toArray)) := by
  have hm0 := Mem.nil w
  go_enter Try.func57, Try.ntmps57
  refine litStart 18 [(0, .slice A T.length c), (1, .int .i64 n)] (by kernel_rfl) (fun X0 => ?_)
  refine wp_seq_k fun K1 hK1 => ?_
  refine plStart ?_
  refine plAlloc (z := [.string ⟨([]).toArray⟩, .bool false, .bool false, .bool false, .int .i64 0, .int .i64 0, .int .i64 0, .int .i64 0]) Ty.ag_voxel_api_Material hm0 (i := 0) rfl (wn rfl) rfl ?_
  intro g2 w4 hm3
  clear hm0
  try simp only [List.cons_append, List.nil_append, List.set_cons_succ, List.set_cons_zero] at hm3
  refine qP rfl ?_
  refine plD ?_
  refine then_normal (hK1 _ _ ?_)
  refine wp_seq_k fun K5 hK5 => ?_
  refine wp_seq_k fun K6 hK6 => ?_
  refine plStart ?_
  refine lk (v := .int .i64 n) rfl rfl rfl ?_
  by_cases h7 : n < 0
  · refine litVal (v := .bool true) rfl (wn rfl) (boolTo (decide_eq_true h7) (lssRun (A := n) (B := 0) (.tmp 5) (.const (.int .i64 0)) rfl (litEv (by kernel_rfl)) (litEv (by kernel_rfl)))) rfl (by decide) ?_
    refine lk (v := .bool true) rfl rfl rfl ?_
    refine plSkip (i := 3) rfl (wgN rfl rfl rfl (by decide) (by kernel_rfl)) ?_
    refine qP rfl ?_
    refine plSkip (i := 4) rfl (wgN rfl rfl rfl (by decide) (by kernel_rfl)) ?_
    refine qP rfl ?_
    refine plSkip (i := 5) rfl (wgN rfl rfl rfl (by decide) (by kernel_rfl)) ?_
    refine qP rfl ?_
    refine plSkip (i := 6) rfl (wgN rfl rfl rfl (by decide) (by kernel_rfl)) ?_
    refine qP rfl ?_
    refine lk (v := .bool true) rfl rfl rfl ?_
    refine plD ?_
    refine then_normal (hK6 _ _ ?_)
    refine wp_cond_true (litEv (by kernel_rfl)) ?_
    refine wp_seq_k fun K8 hK8 => ?_
    refine plStart ?_
    refine lk (v := .agg ([.string ⟨([]).toArray⟩, .bool false, .bool false, .bool false, .int .i64 16, .int .i64 0, .int .i64 0, .int .i64 0]).toArray) rfl rfl rfl ?_
    refine plStore 0 Ty.ag_voxel_api_Material hm3 rfl (i := 1) (cs := [.string ⟨([]).toArray⟩, .bool false, .bool false, .bool false, .int .i64 16, .int .i64 0, .int .i64 0, .int .i64 0]) rfl (wn rfl) rfl (litEv (by kernel_rfl)) (litEv (by kernel_rfl)) rfl rfl (by kernel_rfl) ?_
    intro w10 hm9
    clear hm3
    try simp only [List.cons_append, List.nil_append, List.set_cons_succ, List.set_cons_zero] at hm9
    refine qNone rfl ?_
    refine plD ?_
    refine then_normal (hK8 _ _ ?_)
    refine wp_ret ?_
    refine then_ret ?_
    refine bodyPost_ret (v := .agg ([.string ⟨([]).toArray⟩, .bool false, .bool false, .bool false, .int .i64 16, .int .i64 0, .int .i64 0, .int .i64 0]).toArray) (gRes1 rfl (gResAg (cs := [.string ⟨([]).toArray⟩, .bool false, .bool false, .bool false, .int .i64 16, .int .i64 0, .int .i64 0, .int .i64 0]) 0 hm9 rfl Ty.ag_voxel_api_Material rfl (litGet (by kernel_rfl)))) rfl ?_
    exact ⟨congrArg Ending.returned (show _ = Value.agg (mcs (matAt T n)).toArray from by unfold matAt; rw [if_pos (Or.inl h7)]; rfl), hm9.bel⟩
  refine litVal (v := .bool false) rfl (wn rfl) (boolTo (decide_eq_false h7) (lssRun (A := n) (B := 0) (.tmp 5) (.const (.int .i64 0)) rfl (litEv (by kernel_rfl)) (litEv (by kernel_rfl)))) rfl (by decide) ?_
  refine lk (v := .bool false) rfl rfl rfl ?_
  refine litVal (v := .int .i64 n) rfl (wgY rfl rfl rfl (by decide) (by kernel_rfl)) (litRun (by kernel_rfl)) rfl (by decide) ?_
  refine litVal (v := .slice A T.length c) rfl (wgY rfl rfl rfl (by decide) (by kernel_rfl)) (litRun (by kernel_rfl)) rfl (by decide) ?_
  refine litVal (v := .int .i64 (T.length : Int)) rfl (wgY rfl rfl rfl (by decide) (by kernel_rfl)) (lenSlRun (A := A) (n := T.length) (c := c) (.tmp 9) Ty.und_L_api_Material rfl (litEv (by kernel_rfl))) rfl (by decide) ?_
  by_cases h11 : (T.length : Int) ≤ n
  · refine litVal (v := .bool true) rfl (wgY rfl rfl rfl (by decide) (by kernel_rfl)) (boolTo (decide_eq_true h11) (gGeq (A := n) (B := (T.length : Int)) (.tmp 8) (.tmp 10) rfl (litEv (by kernel_rfl)) (litEv (by kernel_rfl)))) rfl (by decide) ?_
    refine lk (v := .bool true) rfl rfl rfl ?_
    refine plD ?_
    refine then_normal (hK6 _ _ ?_)
    refine wp_cond_true (litEv (by kernel_rfl)) ?_
    refine wp_seq_k fun K12 hK12 => ?_
    refine plStart ?_
    refine lk (v := .agg ([.string ⟨([]).toArray⟩, .bool false, .bool false, .bool false, .int .i64 16, .int .i64 0, .int .i64 0, .int .i64 0]).toArray) rfl rfl rfl ?_
    refine plStore 0 Ty.ag_voxel_api_Material hm3 rfl (i := 1) (cs := [.string ⟨([]).toArray⟩, .bool false, .bool false, .bool false, .int .i64 16, .int .i64 0, .int .i64 0, .int .i64 0]) rfl (wn rfl) rfl (litEv (by kernel_rfl)) (litEv (by kernel_rfl)) rfl rfl (by kernel_rfl) ?_
    intro w14 hm13
    clear hm3
    try simp only [List.cons_append, List.nil_append, List.set_cons_succ, List.set_cons_zero] at hm13
    refine qNone rfl ?_
    refine plD ?_
    refine then_normal (hK12 _ _ ?_)
    refine wp_ret ?_
    refine then_ret ?_
    refine bodyPost_ret (v := .agg ([.string ⟨([]).toArray⟩, .bool false, .bool false, .bool false, .int .i64 16, .int .i64 0, .int .i64 0, .int .i64 0]).toArray) (gRes1 rfl (gResAg (cs := [.string ⟨([]).toArray⟩, .bool false, .bool false, .bool false, .int .i64 16, .int .i64 0, .int .i64 0, .int .i64 0]) 0 hm13 rfl Ty.ag_voxel_api_Material rfl (litGet (by kernel_rfl)))) rfl ?_
    exact ⟨congrArg Ending.returned (show _ = Value.agg (mcs (matAt T n)).toArray from by unfold matAt; rw [if_pos (Or.inr h11)]; rfl), hm13.bel⟩
  obtain ⟨b_, off_, rfl, _, _⟩ := hrd.cells (by omega)
  obtain ⟨K, hK⟩ : ∃ K : Nat, n = (K : Int) := ⟨n.toNat, by omega⟩
  obtain ⟨m, hm⟩ : ∃ m, T[K]? = some m := ⟨_, List.getElem?_eq_getElem (by omega)⟩
  refine litVal (v := .bool false) rfl (wgY rfl rfl rfl (by decide) (by kernel_rfl)) (boolTo (decide_eq_false h11) (gGeq (A := n) (B := (T.length : Int)) (.tmp 8) (.tmp 10) rfl (litEv (by kernel_rfl)) (litEv (by kernel_rfl)))) rfl (by decide) ?_
  refine lk (v := .bool false) rfl rfl rfl ?_
  refine plD ?_
  refine then_normal (hK6 _ _ ?_)
  refine wp_cond_false (litEv (by kernel_rfl)) ?_
  refine wp_skip ?_
  refine then_normal (hK5 _ _ ?_)
  refine wp_seq_k fun K15 hK15 => ?_
  refine plStart ?_
  refine lk (v := .slice (some ⟨b_, off_, none⟩) T.length c) rfl rfl rfl ?_
  refine lk (v := .int .i64 n) rfl rfl rfl ?_
  refine litVal (v := .pointer (some ⟨b_, off_ + K * 8, none⟩)) rfl (wn rfl) (gIaSl (b := b_) (off := off_) (n := T.length) (c := c) (kk := .i64) (K := n) (.tmp 14) (.tmp 15) K Ty.sl_L_api_Material rfl (litEv (by kernel_rfl)) (litEv (by kernel_rfl)) (hK) ((by omega))) rfl (by decide) ?_
  refine litVal (v := .agg (mcs m).toArray) rfl (wn rfl) (gLoadAgRd (vs := mcs m) (m := K * 8) ((Rd.below hrd hm3.bel).more hm3.bel.size) rfl (mts_get hm) (by kernel_rfl) (by omega) (.tmp 16) Ty.ag_voxel_api_Material rfl (litEv (by kernel_rfl))) rfl (by decide) ?_
  refine plStore 0 Ty.ag_voxel_api_Material hm3 rfl (i := 4) (cs := mcs m) rfl (wn rfl) rfl (litEv (by kernel_rfl)) (litEv (by kernel_rfl)) rfl rfl (by kernel_rfl) ?_
  intro w17 hm16
  clear hm3
  try simp only [List.cons_append, List.nil_append, List.set_cons_succ, List.set_cons_zero] at hm16
  refine qNone rfl ?_
  refine plD ?_
  refine then_normal (hK15 _ _ ?_)
  refine wpPrune [(4, .pointer (some ⟨g2, 0, none⟩))] ⟨litGet (by kernel_rfl), trivial⟩ (fun X18 => ?_)
  refine wp_ret ?_
  refine bodyPost_ret (v := .agg (mcs m).toArray) (gRes1 rfl (gResAg (cs := mcs m) 0 hm16 rfl Ty.ag_voxel_api_Material rfl (litGet (by kernel_rfl)))) rfl ?_
  exact ⟨congrArg Ending.returned (show _ = Value.agg (mcs (matAt T n)).toArray from by unfold matAt; rw [if_neg (by omega), hK, Int.toNat_natCast, List.getD_eq_getElem?_getD, hm]; rfl), hm16.bel⟩
set_option maxRecDepth 100000 in
set_option maxHeartbeats 4000000 in
theorem solidM_any (T : List Mat) (n : Int) (A : Option Addr) (c : Nat) (w : World) (hrd : Rd w w.heap.size 8 A T.length c (mts T)) : Calls Try.prog 52 #[.slice A T.length c, .int .i64 n] w (RetV w (.bool (matAt T n).solid)) := by
  have hm0 := Mem.nil w
  go_enter Try.func52, Try.ntmps52
  refine litStart 9 [(0, .slice A T.length c), (1, .int .i64 n)] (by kernel_rfl) (fun X0 => ?_)
  refine wp_seq_k fun K1 hK1 => ?_
  refine plStart ?_
  refine lk (v := .bool false) rfl rfl rfl ?_
  refine plD ?_
  refine then_normal (hK1 _ _ ?_)
  refine wp_seq_k fun K2 hK2 => ?_
  refine plStart ?_
  refine lk (v := .slice A T.length c) rfl rfl rfl ?_
  refine lk (v := .int .i64 n) rfl rfl rfl ?_
  refine plCall (i := 2) 56 [.slice A T.length c, .int .i64 n] [] [] rfl (by kernel_rfl) (wn rfl) rfl (litEv (by kernel_rfl)) (litArgs (by kernel_rfl)) (mat_any T n A c _ ((Rd.below hrd hm0.bel).more hm0.bel.size)) ?_
  rintro e w3 ⟨rfl, hbz⟩
  have hm4 := hm0.below hbz
  clear hbz hm0
  refine ⟨_, rfl, ?_⟩
  refine qP rfl ?_
  refine lk (v := .bool ((matAt T n).solid)) rfl rfl rfl ?_
  refine lk (v := .bool ((matAt T n).solid)) rfl rfl rfl ?_
  refine plD ?_
  refine then_normal (hK2 _ _ ?_)
  refine wp_ret ?_
  refine bodyPost_ret (v := .bool ((matAt T n).solid)) (gRes1 rfl (gResTmp (t := 4) (v := .bool ((matAt T n).solid)) (litGet (by kernel_rfl)))) rfl ?_
  exact ⟨by rfl, hm4.bel⟩
set_option maxRecDepth 100000 in
set_option maxHeartbeats 4000000 in
theorem refSolidM_any (T : List Mat) (n : Int) (A : Option Addr) (c : Nat) (w : World) (hrd : Rd w w.heap.size 8 A T.length c (mts T)) : Calls Try.prog 53 #[.slice A T.length c, .int .i64 n] w (RetV w (.bool (matAt T n).solid)) := by
  have hm0 := Mem.nil w
  go_enter Try.func53, Try.ntmps53
  refine litStart 9 [(0, .slice A T.length c), (1, .int .i64 n)] (by kernel_rfl) (fun X0 => ?_)
  refine wp_seq_k fun K1 hK1 => ?_
  refine plStart ?_
  refine lk (v := .bool false) rfl rfl rfl ?_
  refine plD ?_
  refine then_normal (hK1 _ _ ?_)
  refine wp_seq_k fun K2 hK2 => ?_
  refine plStart ?_
  refine lk (v := .slice A T.length c) rfl rfl rfl ?_
  refine lk (v := .int .i64 n) rfl rfl rfl ?_
  refine plCall (i := 2) 57 [.slice A T.length c, .int .i64 n] [] [] rfl (by kernel_rfl) (wn rfl) rfl (litEv (by kernel_rfl)) (litArgs (by kernel_rfl)) (refMat_any T n A c _ ((Rd.below hrd hm0.bel).more hm0.bel.size)) ?_
  rintro e w3 ⟨rfl, hbz⟩
  have hm4 := hm0.below hbz
  clear hbz hm0
  refine ⟨_, rfl, ?_⟩
  refine qP rfl ?_
  refine lk (v := .bool ((matAt T n).solid)) rfl rfl rfl ?_
  refine lk (v := .bool ((matAt T n).solid)) rfl rfl rfl ?_
  refine plD ?_
  refine then_normal (hK2 _ _ ?_)
  refine wp_ret ?_
  refine bodyPost_ret (v := .bool ((matAt T n).solid)) (gRes1 rfl (gResTmp (t := 4) (v := .bool ((matAt T n).solid)) (litGet (by kernel_rfl)))) rfl ?_
  exact ⟨by rfl, hm4.bel⟩
set_option maxRecDepth 100000 in
set_option maxHeartbeats 4000000 in
theorem refSol_any (g : Gr) (hv : g.Valid) (T : List Mat) (A : Option Addr) (c : Nat) (A2 : Option Addr) (c2 : Nat) (p : Pt) (w : World) (hrd : Rd w w.heap.size 1 A g.cells.length c (ics g.cells)) (htb : Rd w w.heap.size 8 A2 T.length c2 (mts T)) : Calls Try.prog 43 #[.agg (gcs g A c).toArray, .slice A2 T.length c2, .agg (pcs p).toArray] w (RetV w (.bool (solidAt g T p))) := by
  have hm0 := Mem.nil w
  go_enter Try.func43, Try.ntmps43
  refine litStart 20 [(0, .agg (gcs g A c).toArray), (1, .slice A2 T.length c2), (2, .agg (pcs p).toArray)] (by kernel_rfl) (fun X0 => ?_)
  refine wp_seq_k fun K1 hK1 => ?_
  refine plStart ?_
  refine plBox hm0 (cs := gcs g A c) (i := 0) rfl (wn rfl) rfl (litEv (by kernel_rfl)) ?_
  intro g2 w4 hm3
  clear hm0
  try simp only [List.cons_append, List.nil_append, List.set_cons_succ, List.set_cons_zero] at hm3
  refine qP rfl ?_
  refine plBox hm3 (cs := pcs p) (i := 1) rfl (wn rfl) rfl (litEv (by kernel_rfl)) ?_
  intro g5 w7 hm6
  clear hm3
  try simp only [List.cons_append, List.nil_append, List.set_cons_succ, List.set_cons_zero] at hm6
  refine qP rfl ?_
  refine lk (v := .bool false) rfl rfl rfl ?_
  refine plD ?_
  refine then_normal (hK1 _ _ ?_)
  refine wp_seq_k fun K8 hK8 => ?_
  refine plStart ?_
  refine litVal (v := .agg (pcs p).toArray) rfl (wn rfl) (gLoadAg (vs := pcs p) (k := 0) 1 hm6 rfl (by kernel_rfl) (by kernel_rfl) (.tmp 5) Ty.ag_voxel_api_Point rfl (litEv (by kernel_rfl))) rfl (by decide) ?_
  refine lk (v := .pointer (some ⟨g2, 0, none⟩)) rfl rfl rfl ?_
  refine litVal (v := .agg (bxs g.box).toArray) rfl (wn rfl) (gLoadAg (vs := bxs g.box) (k := 0) 0 hm6 rfl (by kernel_rfl) (by kernel_rfl) (.tmp 9) Ty.ag_voxel_api_Box rfl (litEv (by kernel_rfl))) rfl (by decide) ?_
  refine plCall (i := 3) 27 [.agg (pcs p).toArray, .agg (bxs g.box).toArray] [] [] rfl (by kernel_rfl) (wn rfl) rfl (litEv (by kernel_rfl)) (litArgs (by kernel_rfl)) (in_any p g.box _) ?_
  rintro e w9 ⟨rfl, hbz⟩
  have hm10 := hm6.below hbz
  clear hbz hm6
  refine ⟨_, rfl, ?_⟩
  refine qP rfl ?_
  rcases bool_or (decide (g.box.has p)) with h11 | h11
  · rw [h11]
    refine lk (v := .bool false) rfl rfl rfl ?_
    refine plD ?_
    refine then_normal (hK8 _ _ ?_)
    refine wp_seq_k fun K12 hK12 => ?_
    refine plStart ?_
    refine lk (v := .bool false) rfl rfl rfl ?_
    refine lk (v := .bool false) rfl rfl rfl ?_
    refine plSkip (i := 2) rfl (wgN rfl rfl rfl (by decide) (by kernel_rfl)) ?_
    refine qP rfl ?_
    refine plSkip (i := 3) rfl (wgN rfl rfl rfl (by decide) (by kernel_rfl)) ?_
    refine qP rfl ?_
    refine plSkip (i := 4) rfl (wgN rfl rfl rfl (by decide) (by kernel_rfl)) ?_
    refine qP rfl ?_
    refine plSkip (i := 5) rfl (wgN rfl rfl rfl (by decide) (by kernel_rfl)) ?_
    refine qP rfl ?_
    refine plSkip (i := 6) rfl (wgN rfl rfl rfl (by decide) (by kernel_rfl)) ?_
    refine qP rfl ?_
    refine lk (v := .bool false) rfl rfl rfl ?_
    refine lk (v := .bool false) rfl rfl rfl ?_
    refine plD ?_
    refine then_normal (hK12 _ _ ?_)
    refine wpPrune [(6, .bool false)] ⟨litGet (by kernel_rfl), trivial⟩ (fun X13 => ?_)
    refine wp_ret ?_
    refine bodyPost_ret (v := .bool false) (gRes1 rfl (gResTmp (t := 6) (v := .bool false) (litGet (by kernel_rfl)))) rfl ?_
    exact ⟨congrArg (fun b_ => Ending.returned (.bool b_)) (show _ = solidAt g T p from by unfold solidAt; rw [h11]; rfl), hm10.bel⟩
  rw [h11]
  refine lk (v := .bool true) rfl rfl rfl ?_
  refine plD ?_
  refine then_normal (hK8 _ _ ?_)
  refine wp_seq_k fun K14 hK14 => ?_
  refine plStart ?_
  refine lk (v := .bool true) rfl rfl rfl ?_
  refine lk (v := .bool true) rfl rfl rfl ?_
  refine litVal (v := .slice A2 T.length c2) rfl (wgY rfl rfl rfl (by decide) (by kernel_rfl)) (litRun (by kernel_rfl)) rfl (by decide) ?_
  refine litVal (v := .agg (gcs g A c).toArray) rfl (wgY rfl rfl rfl (by decide) (by kernel_rfl)) (gLoadAg (vs := gcs g A c) (k := 0) 0 hm10 rfl (by kernel_rfl) (by kernel_rfl) (.tmp 3) Ty.ag_voxel_api_Grid rfl (litEv (by kernel_rfl))) rfl (by decide) ?_
  refine litVal (v := .agg (pcs p).toArray) rfl (wgY rfl rfl rfl (by decide) (by kernel_rfl)) (gLoadAg (vs := pcs p) (k := 0) 1 hm10 rfl (by kernel_rfl) (by kernel_rfl) (.tmp 5) Ty.ag_voxel_api_Point rfl (litEv (by kernel_rfl))) rfl (by decide) ?_
  refine plCall (i := 5) 54 [.agg (gcs g A c).toArray, .agg (pcs p).toArray] [] [] rfl (by kernel_rfl) (wgY rfl rfl rfl (by decide) (by kernel_rfl)) rfl (litEv (by kernel_rfl)) (litArgs (by kernel_rfl)) (get_any g hv A c p _ ((Rd.below hrd hm10.bel).more hm10.bel.size)) ?_
  rintro e w15 ⟨rfl, hbz⟩
  have hm16 := hm10.below hbz
  clear hbz hm10
  refine ⟨_, rfl, ?_⟩
  refine qP rfl ?_
  refine plCall (i := 6) 53 [.slice A2 T.length c2, .int .i64 (g.get p)] [] [] rfl (by kernel_rfl) (wgY rfl rfl rfl (by decide) (by kernel_rfl)) rfl (litEv (by kernel_rfl)) (litArgs (by kernel_rfl)) (refSolidM_any T (g.get p) A2 c2 _ ((Rd.below htb hm16.bel).more hm16.bel.size)) ?_
  rintro e w17 ⟨rfl, hbz⟩
  have hm18 := hm16.below hbz
  clear hbz hm16
  refine ⟨_, rfl, ?_⟩
  refine qP rfl ?_
  rcases bool_or ((matAt T (g.get p)).solid) with h19 | h19
  · rw [h19]
    refine lk (v := .bool false) rfl rfl rfl ?_
    refine lk (v := .bool false) rfl rfl rfl ?_
    refine plD ?_
    refine then_normal (hK14 _ _ ?_)
    refine wpPrune [(6, .bool false)] ⟨litGet (by kernel_rfl), trivial⟩ (fun X20 => ?_)
    refine wp_ret ?_
    refine bodyPost_ret (v := .bool false) (gRes1 rfl (gResTmp (t := 6) (v := .bool false) (litGet (by kernel_rfl)))) rfl ?_
    exact ⟨congrArg (fun b_ => Ending.returned (.bool b_)) (show _ = solidAt g T p from by unfold solidAt; rw [h11, h19]; rfl), hm18.bel⟩
  rw [h19]
  refine lk (v := .bool true) rfl rfl rfl ?_
  refine lk (v := .bool true) rfl rfl rfl ?_
  refine plD ?_
  refine then_normal (hK14 _ _ ?_)
  refine wpPrune [(6, .bool true)] ⟨litGet (by kernel_rfl), trivial⟩ (fun X21 => ?_)
  refine wp_ret ?_
  refine bodyPost_ret (v := .bool true) (gRes1 rfl (gResTmp (t := 6) (v := .bool true) (litGet (by kernel_rfl)))) rfl ?_
  exact ⟨congrArg (fun b_ => Ending.returned (.bool b_)) (show _ = solidAt g T p from by unfold solidAt; rw [h11, h19]; rfl), hm18.bel⟩
end Go.Proofs.Ytopdcdjmiepdfaa
namespace Go.Proofs.Ytopdcdjmiepdfaa
open Go.RowKit
set_option linter.unusedVariables false
set_option linter.unusedSimpArgs false
theorem each_fr {w0 w : World} (a b : Pt) (ha : a.rng) (hb : b.rng) (vf : FuncId) (first caps : List Value) (hvf : callable Try.prog vf = true) (Vp : Nat → List Res → Prop) (Rp : List Res → Prop) (hvis : ∀ (i : Nat) (c : Pt) (w : World) (V M : List Res), (walk a b)[i]? = some c → Vp i V → Mem w0 w (V ++ M) → Calls Try.prog vf (first ++ [Value.agg (pcs c).toArray] ++ caps).toArray w (fun e w' => ∃ t V', e = .returned (.bool t) ∧ Mem w0 w' (V' ++ M) ∧ (t = true → Vp (i + 1) V') ∧ (t = false → Rp V'))) (hend : ∀ V, Vp (walk a b).length V → Rp V) (V0 : List Res) (h0 : Vp 0 V0) (R : List Res) (hm : Mem w0 w (V0 ++ R)) :
    Calls Try.prog 32 #[.agg (pcs a).toArray, .agg (pcs b).toArray, .func (.func vf) first.toArray caps.toArray] w (fun e w' => e = .returned (.tuple #[]) ∧ ∃ V, Mem w0 w' (V ++ R) ∧ Rp V) := by
  refine (each_any a b ha hb vf first caps hvf (fun i V => ∃ V', V = V' ++ R ∧ Vp i V') (fun V => ∃ V', V = V' ++ R ∧ Rp V') ?_ (fun V ⟨V', h1, h2⟩ => ⟨V', h1, hend V' h2⟩) (V0 ++ R) ⟨V0, rfl, h0⟩ hm).mono ?_
  · rintro i c w V M hc ⟨V', rfl, hV⟩ hm
    refine (hvis i c w V' (R ++ M) hc hV (by rw [← List.append_assoc]; exact hm)).mono ?_
    rintro e w' ⟨t, V2, h1, h2, h3, h4⟩
    exact ⟨t, V2 ++ R, h1, by rw [List.append_assoc]; exact h2, fun ht => ⟨V2, rfl, h3 ht⟩, fun ht => ⟨V2, rfl, h4 ht⟩⟩
  · rintro e w' ⟨h1, V, h2, V', rfl, h3⟩
    exact ⟨h1, V', h2, h3⟩
def fcs (g : Gr) (A : Option Addr) (c : Nat) (last : Pt) : List Value := gcs g A c ++ pcs last
/-- What Cell returns. -/
def cellR (g : Gr) (p : Pt) : Value := if g.box.has p then .tuple #[.int .i64 (g.get p), .bool true] else .tuple #[.int .i64 0, .bool false]
theorem cellR_in {g : Gr} {p : Pt} (h : g.box.has p) : cellR g p = .tuple #[.int .i64 (g.get p), .bool true] := if_pos h
theorem cellR_out {g : Gr} {p : Pt} (h : ¬ g.box.has p) : cellR g p = .tuple #[.int .i64 0, .bool false] := if_neg h
def hcs (at_ bef : Pt) (i : Int) : List Value := pcs at_ ++ pcs bef ++ [.int .i64 i]
def fV (g : Gr) (A : Option Addr) (c : Nat) (A2 : Option Addr) (c2 : Nat) (T : List Mat) (gf gif gtb gn gh gfo : Nat) (last : Pt) (n : Int) (h : List Value) (fo : Bool) : List Res :=
  [.arr gf 41 (fcs g A c last), .rd A 1 g.cells.length c (ics g.cells), .rd A2 8 T.length c2 (mts T), .arr gif 77 [.iface 39 (.pointer (some ⟨gf, 0, none⟩))], .arr gtb 37 [.slice A2 T.length c2], .arr gn 3 [.int .i64 n], .arr gh 43 h, .arr gfo 4 [.bool fo]]
def firstH (g : Gr) (T : List Mat) (a b : Pt) : List Value := if ckE a b = 0 then (match firstSol (solidAt g T) (walk a b) 0 with
  | some (k, p) => hcs p (befOf (walk a b) a k) (k : Int)
  | .none => hcs p0 p0 0) else hcs p0 p0 0
def firstE (g : Gr) (T : List Mat) (a b : Pt) : Int := if ckE a b = 0 then (match firstSol (solidAt g T) (walk a b) 0 with
  | some _ => 0
  | .none => 9) else ckE a b
section
variable {g : Gr} {T : List Mat} {a b p : Pt} {k : Nat}
theorem firstH_err (h : ¬ ckE a b = 0) : firstH g T a b = hcs p0 p0 0 := if_neg h
theorem firstE_err (h : ¬ ckE a b = 0) : firstE g T a b = ckE a b := if_neg h
theorem firstH_some (h : ckE a b = 0) (hf : firstSol (solidAt g T) (walk a b) 0 = some (k, p)) : firstH g T a b = hcs p (befOf (walk a b) a k) (k : Int) := by unfold firstH; rw [if_pos h, hf]
theorem firstE_some (h : ckE a b = 0) (hf : firstSol (solidAt g T) (walk a b) 0 = some (k, p)) : firstE g T a b = 0 := by unfold firstE; rw [if_pos h, hf]
theorem firstH_none (h : ckE a b = 0) (hf : firstSol (solidAt g T) (walk a b) 0 = .none) : firstH g T a b = hcs p0 p0 0 := by unfold firstH; rw [if_pos h, hf]
theorem firstE_none (h : ckE a b = 0) (hf : firstSol (solidAt g T) (walk a b) 0 = .none) : firstE g T a b = 9 := by unfold firstE; rw [if_pos h, hf]
end
def visB (g : Gr) (T : List Mat) (a b p : Pt) : Bool := decide (p = a) || decide (p = b) || !solidAt g T p
def vV (g : Gr) (A : Option Addr) (c : Nat) (A2 : Option Addr) (c2 : Nat) (T : List Mat) (gf gif gtb ga gb gfo : Nat) (a b last : Pt) (fo : Bool) : List Res :=
  [.arr gf 41 (fcs g A c last), .rd A 1 g.cells.length c (ics g.cells), .rd A2 8 T.length c2 (mts T), .arr gif 77 [.iface 39 (.pointer (some ⟨gf, 0, none⟩))], .arr gtb 37 [.slice A2 T.length c2], .arr ga 23 (pcs a), .arr gb 23 (pcs b), .arr gfo 4 [.bool fo]]
def visR (g : Gr) (T : List Mat) (a b : Pt) : Bool := if ckE a b = 0 then (walk a b).all (visB g T a b) else false
theorem visAll_no {l : List Pt} {f : Pt → Bool} {i : Nat} {p : Pt} (hc : l[i]? = some p) (h : f p = false) : l.all f = false := by
  rw [Bool.eq_false_iff]
  intro h2
  have := List.all_eq_true.1 h2 p (List.mem_of_getElem? hc)
  rw [h] at this; cases this
theorem visAll_end {g : Gr} {A : Option Addr} {c : Nat} {A2 : Option Addr} {c2 : Nat} {T : List Mat} {gf gif gtb ga gb gfo : Nat} {a b : Pt} {l : List Pt} {V : List Res} (h : (∃ last, V = vV g A c A2 c2 T gf gif gtb ga gb gfo a b last true) ∧ ∀ q ∈ l.take l.length, visB g T a b q = true) : ∃ last, V = vV g A c A2 c2 T gf gif gtb ga gb gfo a b last (l.all (visB g T a b)) := by
  obtain ⟨⟨last, rfl⟩, h2⟩ := h
  refine ⟨last, ?_⟩
  rw [List.take_length] at h2
  rw [List.all_eq_true.2 h2]
def FRp (g : Gr) (A : Option Addr) (c : Nat) (A2 : Option Addr) (c2 : Nat) (T : List Mat) (gf gif gtb gn gh gfo : Nat) (l : List Pt) (a : Pt) (V : List Res) : Prop :=
  match firstSol (solidAt g T) l 0 with
  | some (k, p) => V = fV g A c A2 c2 T gf gif gtb gn gh gfo p (k : Int) (hcs p (befOf l a k) (k : Int)) true
  | .none => ∃ last, V = fV g A c A2 c2 T gf gif gtb gn gh gfo last (l.length : Int) (hcs p0 (befOf l a l.length) 0) false
theorem FRp_end {g : Gr} {A : Option Addr} {c : Nat} {A2 : Option Addr} {c2 : Nat} {T : List Mat} {gf gif gtb gn gh gfo : Nat} {a : Pt} {l : List Pt} {V : List Res} (h : (∃ last, V = fV g A c A2 c2 T gf gif gtb gn gh gfo last (l.length : Int) (hcs p0 (befOf l a l.length) 0) false) ∧ ∀ q ∈ l.take l.length, solidAt g T q = false) : FRp g A c A2 c2 T gf gif gtb gn gh gfo l a V := by
  obtain ⟨⟨last, rfl⟩, h2⟩ := h
  rw [List.take_length] at h2
  unfold FRp
  rw [firstSol_none h2]
  exact ⟨last, rfl⟩
set_option maxRecDepth 100000 in
set_option maxHeartbeats 4000000 in
theorem cell_any {w0 w : World} {M : List Res} (g : Gr) (hv : g.Valid) (A : Option Addr) (c : Nat) (gf : Nat) (last p : Pt) (hm : Mem w0 w (.arr gf 41 (fcs g A c last) :: .rd A 1 g.cells.length c (ics g.cells) :: M)) : Calls Try.prog 74 #[.pointer (some ⟨gf, 0, none⟩), .agg (pcs p).toArray] w (fun e w' => e = .returned (cellR g p) ∧ Mem w0 w' (.arr gf 41 (fcs g A c p) :: .rd A 1 g.cells.length c (ics g.cells) :: M)) := by
  have hm0 := hm
  go_enter Try.func74, Try.ntmps74
  refine litStart 26 [(0, .pointer (some ⟨gf, 0, none⟩)), (1, .agg (pcs p).toArray)] (by kernel_rfl) (fun X0 => ?_)
  refine wp_seq_k fun K1 hK1 => ?_
  refine plStart ?_
  refine plBox hm0 (cs := pcs p) (i := 0) rfl (wn rfl) rfl (litEv (by kernel_rfl)) ?_
  intro g2 w4 hm3
  clear hm0
  try simp only [List.cons_append, List.nil_append, List.set_cons_succ, List.set_cons_zero] at hm3
  replace hm3 := Mem.insAt (M := ((.arr gf 41 (fcs g A c last)) :: (.rd A 1 g.cells.length c (ics g.cells)) :: M)) 2 hm3
  simp only [List.insertIdx_succ_cons, List.insertIdx_zero] at hm3
  refine qP rfl ?_
  refine lk (v := .int .i64 0) rfl rfl rfl ?_
  refine lk (v := .bool false) rfl rfl rfl ?_
  refine plD ?_
  refine then_normal (hK1 _ _ ?_)
  refine wp_seq_k fun K5 hK5 => ?_
  refine plStart ?_
  refine lk (v := .pointer (some ⟨gf, 0, none⟩)) rfl rfl rfl ?_
  refine litVal (v := .agg (pcs p).toArray) rfl (wn rfl) (gLoadAg (vs := pcs p) (k := 0) 2 hm3 rfl (by kernel_rfl) (by kernel_rfl) (.tmp 3) Ty.ag_voxel_api_Point rfl (litEv (by kernel_rfl))) rfl (by decide) ?_
  refine lk (v := .pointer (some ⟨gf, 0, none⟩)) rfl rfl rfl ?_
  refine lk (v := .pointer (some ⟨gf, 7, none⟩)) rfl rfl rfl ?_
  refine plStoreAt 0 Ty.ag_voxel_api_Point hm3 rfl (i := 4) (cs := pcs p) (k := 7) rfl (wn rfl) rfl (litEv (by kernel_rfl)) (litEv (by kernel_rfl)) (by kernel_rfl) rfl (by kernel_rfl) ?_
  intro w7 hm6
  clear hm3
  have hm8 : Mem w0 w7 ((.arr gf 41 ([.int .i64 g.box.mn.x, .int .i64 g.box.mn.y, .int .i64 g.box.mn.z, .int .i64 g.box.mx.x, .int .i64 g.box.mx.y, .int .i64 g.box.mx.z, .slice A g.cells.length c, .int .i64 p.x, .int .i64 p.y, .int .i64 p.z])) :: (.rd A 1 g.cells.length c (ics g.cells)) :: (.arr g2 23 (pcs p)) :: M) := hm6
  clear hm6
  refine qNone rfl ?_
  refine plD ?_
  refine then_normal (hK5 _ _ ?_)
  refine wp_seq_k fun K9 hK9 => ?_
  refine mgStart hm8 (by kernel_rfl) ?_
  intro w11 hm10
  clear hm8
  refine mgTake (i := 0) (v := .agg (pcs p).toArray) rfl (by kernel_rfl) (wn rfl) (fun _ _ _ h => h) hm10 (fun w_ h_ => gLoadAg (vs := pcs p) (k := 0) 2 h_ rfl (by kernel_rfl) (by kernel_rfl) (.tmp 3) Ty.ag_voxel_api_Point rfl (litEv (by kernel_rfl))) ?_
  refine mP rfl ?_
  refine mk_ (i := 1) (v := .pointer (some ⟨gf, 0, none⟩)) rfl rfl (fun _ _ _ h => h) hm10 rfl ?_
  refine mk_ (i := 2) (v := .pointer (some ⟨gf, 0, none⟩)) rfl rfl (fun _ _ _ h => h) hm10 rfl ?_
  refine mk_ (i := 3) (v := .pointer (some ⟨gf, 0, none⟩)) rfl rfl (fun _ _ _ h => h) hm10 rfl ?_
  refine mk_ (i := 4) (v := .pointer (some ⟨gf, 0, none⟩)) rfl rfl (fun _ _ _ h => h) hm10 rfl ?_
  refine mgTake (i := 5) (v := .agg (bxs g.box).toArray) rfl (by kernel_rfl) (wn rfl) (fun _ _ _ h => h) hm10 (fun w_ h_ => gLoadAg (vs := bxs g.box) (k := 0) 0 h_ rfl (by kernel_rfl) (by kernel_rfl) (.tmp 15) Ty.ag_voxel_api_Box rfl (litEv (by kernel_rfl))) ?_
  refine mP rfl ?_
  refine mgCall (i := 6) 27 [.agg (pcs p).toArray, .agg (bxs g.box).toArray] [] [] (by kernel_rfl) rfl (by kernel_rfl) (wn rfl) rfl (litEv (by kernel_rfl)) (litArgs (by kernel_rfl)) (in_any p g.box _) ?_
  rintro e w12 ⟨rfl, hbz⟩
  have hm13 := hm10.below hbz
  clear hbz hm10
  refine ⟨_, rfl, hm13, ?_⟩
  refine mP rfl ?_
  rcases bool_or (decide (g.box.has p)) with h14 | h14
  · rw [h14]
    refine mk_ (i := 7) (v := .bool false) rfl rfl (fun _ _ _ h => h) hm13 rfl ?_
    refine mgDone (by kernel_rfl) ?_
    refine then_normal (hK9 _ _ ?_)
    refine wp_seq_k fun K15 hK15 => ?_
    refine wp_seq_k fun K16 hK16 => ?_
    refine plStart ?_
    refine lk (v := .bool false) rfl rfl rfl ?_
    refine lk (v := .bool true) rfl rfl rfl ?_
    refine plD ?_
    refine then_normal (hK16 _ _ ?_)
    refine wpPrune [(0, .pointer (some ⟨gf, 0, none⟩)), (3, .pointer (some ⟨g2, 0, none⟩)), (4, .int .i64 0), (5, .bool false), (19, .bool true)] ⟨litGet (by kernel_rfl), ⟨litGet (by kernel_rfl), ⟨litGet (by kernel_rfl), ⟨litGet (by kernel_rfl), ⟨litGet (by kernel_rfl), trivial⟩⟩⟩⟩⟩ (fun X17 => ?_)
    refine wp_cond_true (litEv (by kernel_rfl)) ?_
    refine wp_seq_k fun K18 hK18 => ?_
    refine plStart ?_
    refine lk (v := .int .i64 0) rfl rfl rfl ?_
    refine lk (v := .bool false) rfl rfl rfl ?_
    refine plD ?_
    refine then_normal (hK18 _ _ ?_)
    refine wp_ret ?_
    refine then_ret ?_
    refine bodyPost_ret (v := .tuple #[.int .i64 0, .bool false]) (gRes2 rfl (gResTmp (t := 4) (v := .int .i64 0) (litGet (by kernel_rfl))) (gResTmp (t := 5) (v := .bool false) (litGet (by kernel_rfl)))) rfl ?_
    exact ⟨congrArg Ending.returned (show _ = cellR g p from by unfold cellR; rw [if_neg (of_decide_eq_false h14)]), (hm13.sub (.cons_cons _ (.cons_cons _ (.cons _ (List.Sublist.refl _)))))⟩
  rw [h14]
  refine mk_ (i := 7) (v := .bool true) rfl rfl (fun _ _ _ h => h) hm13 rfl ?_
  refine mgDone (by kernel_rfl) ?_
  refine then_normal (hK9 _ _ ?_)
  refine wp_seq_k fun K19 hK19 => ?_
  refine wp_seq_k fun K20 hK20 => ?_
  refine plStart ?_
  refine lk (v := .bool true) rfl rfl rfl ?_
  refine lk (v := .bool false) rfl rfl rfl ?_
  refine plD ?_
  refine then_normal (hK20 _ _ ?_)
  refine wpPrune [(0, .pointer (some ⟨gf, 0, none⟩)), (3, .pointer (some ⟨g2, 0, none⟩)), (4, .int .i64 0), (5, .bool false), (19, .bool false)] ⟨litGet (by kernel_rfl), ⟨litGet (by kernel_rfl), ⟨litGet (by kernel_rfl), ⟨litGet (by kernel_rfl), ⟨litGet (by kernel_rfl), trivial⟩⟩⟩⟩⟩ (fun X21 => ?_)
  refine wp_cond_false (litEv (by kernel_rfl)) ?_
  refine wp_skip ?_
  refine then_normal (hK19 _ _ ?_)
  refine wp_seq_k fun K22 hK22 => ?_
  refine mgStart hm13 (by kernel_rfl) ?_
  intro w24 hm23
  clear hm13
  refine mk_ (i := 0) (v := .pointer (some ⟨gf, 0, none⟩)) rfl rfl (fun _ _ _ h => h) hm23 rfl ?_
  refine mk_ (i := 1) (v := .pointer (some ⟨gf, 0, none⟩)) rfl rfl (fun _ _ _ h => h) hm23 rfl ?_
  refine mk_ (i := 2) (v := .pointer (some ⟨gf, 0, none⟩)) rfl rfl (fun _ _ _ h => h) hm23 rfl ?_
  refine mgTake (i := 3) (v := .agg (gcs g A c).toArray) rfl (by kernel_rfl) (wn rfl) (fun _ _ _ h => h) hm23 (fun w_ h_ => gLoadAg (vs := gcs g A c) (k := 0) 0 h_ rfl (by kernel_rfl) (by kernel_rfl) (.tmp 22) Ty.ag_voxel_api_Grid rfl (litEv (by kernel_rfl))) ?_
  refine mP rfl ?_
  refine mgTake (i := 4) (v := .agg (pcs p).toArray) rfl (by kernel_rfl) (wn rfl) (fun _ _ _ h => h) hm23 (fun w_ h_ => gLoadAg (vs := pcs p) (k := 0) 2 h_ rfl (by kernel_rfl) (by kernel_rfl) (.tmp 3) Ty.ag_voxel_api_Point rfl (litEv (by kernel_rfl))) ?_
  refine mP rfl ?_
  refine mgCall (i := 5) 54 [.agg (gcs g A c).toArray, .agg (pcs p).toArray] [] [] (by kernel_rfl) rfl (by kernel_rfl) (wn rfl) rfl (litEv (by kernel_rfl)) (litArgs (by kernel_rfl)) (get_any g hv A c p _ (hm23.rd 1 rfl)) ?_
  rintro e w25 ⟨rfl, hbz⟩
  have hm26 := hm23.below hbz
  clear hbz hm23
  refine ⟨_, rfl, hm26, ?_⟩
  refine mP rfl ?_
  refine mk_ (i := 6) (v := .int .i64 (g.get p)) rfl rfl (fun _ _ _ h => h) hm26 rfl ?_
  refine mk_ (i := 7) (v := .bool true) rfl rfl (fun _ _ _ h => h) hm26 rfl ?_
  refine mgDone (by kernel_rfl) ?_
  refine then_normal (hK22 _ _ ?_)
  refine wp_ret ?_
  refine bodyPost_ret (v := .tuple #[.int .i64 (g.get p), .bool true]) (gRes2 rfl (gResTmp (t := 4) (v := .int .i64 (g.get p)) (litGet (by kernel_rfl))) (gResTmp (t := 5) (v := .bool true) (litGet (by kernel_rfl)))) rfl ?_
  exact ⟨congrArg Ending.returned (show _ = cellR g p from by unfold cellR; rw [if_pos (of_decide_eq_true h14)]), (hm26.sub (.cons_cons _ (.cons_cons _ (.cons _ (List.Sublist.refl _)))))⟩
set_option maxRecDepth 100000 in
set_option maxHeartbeats 4000000 in
theorem solid_any {w0 w : World} {M : List Res} (g : Gr) (hv : g.Valid) (T : List Mat) (A : Option Addr) (c : Nat) (A2 : Option Addr) (c2 : Nat) (gf : Nat) (last p : Pt) (hm : Mem w0 w (.arr gf 41 (fcs g A c last) :: .rd A 1 g.cells.length c (ics g.cells) :: .rd A2 8 T.length c2 (mts T) :: M)) : Calls Try.prog 42 #[.iface 39 (.pointer (some ⟨gf, 0, none⟩)), .slice A2 T.length c2, .agg (pcs p).toArray] w (fun e w' => e = .returned (.bool (solidAt g T p)) ∧ Mem w0 w' (.arr gf 41 (fcs g A c p) :: .rd A 1 g.cells.length c (ics g.cells) :: .rd A2 8 T.length c2 (mts T) :: M)) := by
  have hm0 := hm
  go_enter Try.func42, Try.ntmps42
  refine litStart 21 [(0, .iface 39 (.pointer (some ⟨gf, 0, none⟩))), (1, .slice A2 T.length c2), (2, .agg (pcs p).toArray)] (by kernel_rfl) (fun X0 => ?_)
  refine wp_seq_k fun K1 hK1 => ?_
  refine plStart ?_
  refine plBox hm0 (cs := pcs p) (i := 0) rfl (wn rfl) rfl (litEv (by kernel_rfl)) ?_
  intro g2 w4 hm3
  clear hm0
  try simp only [List.cons_append, List.nil_append, List.set_cons_succ, List.set_cons_zero] at hm3
  replace hm3 := Mem.insAt (M := ((.arr gf 41 (fcs g A c last)) :: (.rd A 1 g.cells.length c (ics g.cells)) :: (.rd A2 8 T.length c2 (mts T)) :: M)) 3 hm3
  simp only [List.insertIdx_succ_cons, List.insertIdx_zero] at hm3
  refine qP rfl ?_
  refine lk (v := .bool false) rfl rfl rfl ?_
  refine plD ?_
  refine then_normal (hK1 _ _ ?_)
  refine wp_seq_k fun K5 hK5 => ?_
  refine plStart ?_
  refine lk (v := .iface 39 (.pointer (some ⟨gf, 0, none⟩))) rfl rfl rfl ?_
  refine litVal (v := .agg (pcs p).toArray) rfl (wn rfl) (gLoadAg (vs := pcs p) (k := 0) 3 hm3 rfl (by kernel_rfl) (by kernel_rfl) (.tmp 5) Ty.ag_voxel_api_Point rfl (litEv (by kernel_rfl))) rfl (by decide) ?_
  rcases bool_or (decide (g.box.has p)) with h6 | h6
  · refine plInv (i := 2) 74 39 (.pointer (some ⟨gf, 0, none⟩)) [.agg (pcs p).toArray] rfl (by kernel_rfl) (wn rfl) rfl (litEv (by kernel_rfl)) (fun _ => by kernel_rfl) (litArgs (by kernel_rfl)) (cell_any g hv A c gf last p hm3) ?_
    rintro e w7 ⟨rfl, hm8⟩
    clear hm3
    refine ⟨_, rfl, ?_⟩
    refine qP rfl ?_
    rw [cellR_out (of_decide_eq_false h6)]
    refine lk (v := .tuple #[.int .i64 0, .bool false]) rfl rfl rfl ?_
    refine lk (v := .int .i64 0) rfl rfl rfl ?_
    refine lk (v := .bool false) rfl rfl rfl ?_
    refine lk (v := .int .i64 0) rfl rfl rfl ?_
    refine lk (v := .bool false) rfl rfl rfl ?_
    refine plD ?_
    refine then_normal (hK5 _ _ ?_)
    refine wp_seq_k fun K10 hK10 => ?_
    refine plStart ?_
    refine lk (v := .bool false) rfl rfl rfl ?_
    refine lk (v := .bool false) rfl rfl rfl ?_
    refine plSkip (i := 2) rfl (wgN rfl rfl rfl (by decide) (by kernel_rfl)) ?_
    refine qP rfl ?_
    refine plSkip (i := 3) rfl (wgN rfl rfl rfl (by decide) (by kernel_rfl)) ?_
    refine qP rfl ?_
    refine plSkip (i := 4) rfl (wgN rfl rfl rfl (by decide) (by kernel_rfl)) ?_
    refine qP rfl ?_
    refine lk (v := .bool false) rfl rfl rfl ?_
    refine lk (v := .bool false) rfl rfl rfl ?_
    refine plD ?_
    refine then_normal (hK10 _ _ ?_)
    refine wpPrune [(6, .bool false)] ⟨litGet (by kernel_rfl), trivial⟩ (fun X11 => ?_)
    refine wp_ret ?_
    refine bodyPost_ret (v := .bool false) (gRes1 rfl (gResTmp (t := 6) (v := .bool false) (litGet (by kernel_rfl)))) rfl ?_
    exact ⟨congrArg (fun b_ => Ending.returned (.bool b_)) (show _ = solidAt g T p from by unfold solidAt; rw [h6]; rfl), (hm8.sub (.cons_cons _ (.cons_cons _ (.cons_cons _ (.cons _ (List.Sublist.refl _))))))⟩
  refine plInv (i := 2) 74 39 (.pointer (some ⟨gf, 0, none⟩)) [.agg (pcs p).toArray] rfl (by kernel_rfl) (wn rfl) rfl (litEv (by kernel_rfl)) (fun _ => by kernel_rfl) (litArgs (by kernel_rfl)) (cell_any g hv A c gf last p hm3) ?_
  rintro e w12 ⟨rfl, hm13⟩
  clear hm3
  refine ⟨_, rfl, ?_⟩
  refine qP rfl ?_
  rw [cellR_in (of_decide_eq_true h6)]
  refine lk (v := .tuple #[.int .i64 (g.get p), .bool true]) rfl rfl rfl ?_
  refine lk (v := .int .i64 (g.get p)) rfl rfl rfl ?_
  refine lk (v := .bool true) rfl rfl rfl ?_
  refine lk (v := .int .i64 (g.get p)) rfl rfl rfl ?_
  refine lk (v := .bool true) rfl rfl rfl ?_
  refine plD ?_
  refine then_normal (hK5 _ _ ?_)
  refine wp_seq_k fun K15 hK15 => ?_
  refine plStart ?_
  refine lk (v := .bool true) rfl rfl rfl ?_
  refine lk (v := .bool true) rfl rfl rfl ?_
  refine litVal (v := .slice A2 T.length c2) rfl (wgY rfl rfl rfl (by decide) (by kernel_rfl)) (litRun (by kernel_rfl)) rfl (by decide) ?_
  refine litVal (v := .int .i64 (g.get p)) rfl (wgY rfl rfl rfl (by decide) (by kernel_rfl)) (litRun (by kernel_rfl)) rfl (by decide) ?_
  refine plCall (i := 4) 52 [.slice A2 T.length c2, .int .i64 (g.get p)] [] [] rfl (by kernel_rfl) (wgY rfl rfl rfl (by decide) (by kernel_rfl)) rfl (litEv (by kernel_rfl)) (litArgs (by kernel_rfl)) (solidM_any T (g.get p) A2 c2 _ (hm13.rd 2 rfl)) ?_
  rintro e w16 ⟨rfl, hbz⟩
  have hm17 := hm13.below hbz
  clear hbz hm13
  refine ⟨_, rfl, ?_⟩
  refine qP rfl ?_
  rcases bool_or ((matAt T (g.get p)).solid) with h18 | h18
  · rw [h18]
    refine lk (v := .bool false) rfl rfl rfl ?_
    refine lk (v := .bool false) rfl rfl rfl ?_
    refine plD ?_
    refine then_normal (hK15 _ _ ?_)
    refine wpPrune [(6, .bool false)] ⟨litGet (by kernel_rfl), trivial⟩ (fun X19 => ?_)
    refine wp_ret ?_
    refine bodyPost_ret (v := .bool false) (gRes1 rfl (gResTmp (t := 6) (v := .bool false) (litGet (by kernel_rfl)))) rfl ?_
    exact ⟨congrArg (fun b_ => Ending.returned (.bool b_)) (show _ = solidAt g T p from by unfold solidAt; rw [h6, h18]; rfl), (hm17.sub (.cons_cons _ (.cons_cons _ (.cons_cons _ (.cons _ (List.Sublist.refl _))))))⟩
  rw [h18]
  refine lk (v := .bool true) rfl rfl rfl ?_
  refine lk (v := .bool true) rfl rfl rfl ?_
  refine plD ?_
  refine then_normal (hK15 _ _ ?_)
  refine wpPrune [(6, .bool true)] ⟨litGet (by kernel_rfl), trivial⟩ (fun X20 => ?_)
  refine wp_ret ?_
  refine bodyPost_ret (v := .bool true) (gRes1 rfl (gResTmp (t := 6) (v := .bool true) (litGet (by kernel_rfl)))) rfl ?_
  exact ⟨congrArg (fun b_ => Ending.returned (.bool b_)) (show _ = solidAt g T p from by unfold solidAt; rw [h6, h18]; rfl), (hm17.sub (.cons_cons _ (.cons_cons _ (.cons_cons _ (.cons _ (List.Sublist.refl _))))))⟩
set_option maxRecDepth 100000 in
set_option maxHeartbeats 4000000 in
theorem visFirst_any {w0 w : World} (g : Gr) (hv : g.Valid) (T : List Mat) (A : Option Addr) (c : Nat) (A2 : Option Addr) (c2 : Nat) (gf : Nat) (gif gtb gn gh gfo : Nat) (l : List Pt) (a : Pt) (hl : l.length ≤ 1000000) (i : Nat) (p : Pt) (V M : List Res) (hc : l[i]? = some p) (hV : (∃ last, V = fV g A c A2 c2 T gf gif gtb gn gh gfo last (i : Int) (hcs p0 (befOf l a i) 0) false) ∧ ∀ q ∈ l.take i, solidAt g T q = false) (hm : Mem w0 w (V ++ M)) : Calls Try.prog 41 #[.agg (pcs p).toArray, .pointer (some ⟨gif, 0, none⟩), .pointer (some ⟨gtb, 0, none⟩), .pointer (some ⟨gn, 0, none⟩), .pointer (some ⟨gh, 0, none⟩), .pointer (some ⟨gfo, 0, none⟩)] w (fun e w' => ∃ t V', e = .returned (.bool t) ∧ Mem w0 w' (V' ++ M) ∧ (t = true → (∃ last, V' = fV g A c A2 c2 T gf gif gtb gn gh gfo last ((i + 1 : Nat) : Int) (hcs p0 (befOf l a (i + 1)) 0) false) ∧ ∀ q ∈ l.take (i + 1), solidAt g T q = false) ∧ (t = false → FRp g A c A2 c2 T gf gif gtb gn gh gfo l a V')) := by
  obtain ⟨⟨last, rfl⟩, hno⟩ := hV
  have hil := (List.getElem?_eq_some_iff.1 hc).1
  have hm0 := hm
  go_enter Try.func41, Try.ntmps41
  refine litStart 20 [(0, .agg (pcs p).toArray), (1, .pointer (some ⟨gif, 0, none⟩)), (2, .pointer (some ⟨gtb, 0, none⟩)), (3, .pointer (some ⟨gn, 0, none⟩)), (4, .pointer (some ⟨gh, 0, none⟩)), (5, .pointer (some ⟨gfo, 0, none⟩))] (by kernel_rfl) (fun X0 => ?_)
  refine wp_seq_k fun K1 hK1 => ?_
  refine plStart ?_
  refine plBox hm0 (cs := pcs p) (i := 0) rfl (wn rfl) rfl (litEv (by kernel_rfl)) ?_
  intro g2 w4 hm3
  clear hm0
  try simp only [List.cons_append, List.nil_append, List.set_cons_succ, List.set_cons_zero] at hm3
  replace hm3 := Mem.insAt (M := ((.arr gf 41 (fcs g A c last)) :: (.rd A 1 g.cells.length c (ics g.cells)) :: (.rd A2 8 T.length c2 (mts T)) :: (.arr gif 77 ([.iface 39 (.pointer (some ⟨gf, 0, none⟩))])) :: (.arr gtb 37 ([.slice A2 T.length c2])) :: (.arr gn 3 ([.int .i64 (i : Int)])) :: (.arr gh 43 (hcs p0 (befOf l a i) 0)) :: (.arr gfo 4 ([.bool false])) :: M)) 8 hm3
  simp only [List.insertIdx_succ_cons, List.insertIdx_zero] at hm3
  refine qP rfl ?_
  refine lk (v := .bool false) rfl rfl rfl ?_
  refine plD ?_
  refine then_normal (hK1 _ _ ?_)
  refine wp_seq_k fun K5 hK5 => ?_
  refine wp_seq_k fun K6 hK6 => ?_
  refine plStart ?_
  refine litVal (v := .iface 39 (.pointer (some ⟨gf, 0, none⟩))) rfl (wn rfl) (gLoad (v := .iface 39 (.pointer (some ⟨gf, 0, none⟩))) (k := 0) 3 hm3 rfl (by kernel_rfl) (.tmp 1) (by kernel_rfl) rfl (litEv (by kernel_rfl))) rfl (by decide) ?_
  refine litVal (v := .slice A2 T.length c2) rfl (wn rfl) (gLoad (v := .slice A2 T.length c2) (k := 0) 4 hm3 rfl (by kernel_rfl) (.tmp 2) (by kernel_rfl) rfl (litEv (by kernel_rfl))) rfl (by decide) ?_
  refine litVal (v := .agg (pcs p).toArray) rfl (wn rfl) (gLoadAg (vs := pcs p) (k := 0) 8 hm3 rfl (by kernel_rfl) (by kernel_rfl) (.tmp 6) Ty.ag_voxel_api_Point rfl (litEv (by kernel_rfl))) rfl (by decide) ?_
  refine plCall (i := 3) 42 [.iface 39 (.pointer (some ⟨gf, 0, none⟩)), .slice A2 T.length c2, .agg (pcs p).toArray] [] [] rfl (by kernel_rfl) (wn rfl) rfl (litEv (by kernel_rfl)) (litArgs (by kernel_rfl)) (solid_any (M := ((.arr gif 77 ([.iface 39 (.pointer (some ⟨gf, 0, none⟩))])) :: (.arr gtb 37 ([.slice A2 T.length c2])) :: (.arr gn 3 ([.int .i64 (i : Int)])) :: (.arr gh 43 (hcs p0 (befOf l a i) 0)) :: (.arr gfo 4 ([.bool false])) :: (.arr g2 23 (pcs p)) :: M)) g hv T A c A2 c2 gf last p hm3) ?_
  rintro e w7 ⟨rfl, hm8⟩
  clear hm3
  refine ⟨_, rfl, ?_⟩
  refine qP rfl ?_
  rcases bool_or (solidAt g T p) with h9 | h9
  · rw [h9]
    refine plD ?_
    refine then_normal (hK6 _ _ ?_)
    refine wp_cond_false (litEv (by kernel_rfl)) ?_
    refine wp_skip ?_
    refine then_normal (hK5 _ _ ?_)
    refine wp_seq_k fun K10 hK10 => ?_
    refine plStart ?_
    refine litVal (v := .agg (pcs p).toArray) rfl (wn rfl) (gLoadAg (vs := pcs p) (k := 0) 8 hm8 rfl (by kernel_rfl) (by kernel_rfl) (.tmp 6) Ty.ag_voxel_api_Point rfl (litEv (by kernel_rfl))) rfl (by decide) ?_
    refine lk (v := .pointer (some ⟨gh, 3, none⟩)) rfl rfl rfl ?_
    refine plStoreAt 6 Ty.ag_voxel_api_Point hm8 rfl (i := 2) (cs := pcs p) (k := 3) rfl (wn rfl) rfl (litEv (by kernel_rfl)) (litEv (by kernel_rfl)) (by kernel_rfl) rfl (by kernel_rfl) ?_
    intro w12 hm11
    clear hm8
    have hm13 : Mem w0 w12 ((.arr gf 41 (fcs g A c p)) :: (.rd A 1 g.cells.length c (ics g.cells)) :: (.rd A2 8 T.length c2 (mts T)) :: (.arr gif 77 ([.iface 39 (.pointer (some ⟨gf, 0, none⟩))])) :: (.arr gtb 37 ([.slice A2 T.length c2])) :: (.arr gn 3 ([.int .i64 (i : Int)])) :: (.arr gh 43 ([.int .i64 0, .int .i64 0, .int .i64 0, .int .i64 p.x, .int .i64 p.y, .int .i64 p.z, .int .i64 0])) :: (.arr gfo 4 ([.bool false])) :: (.arr g2 23 (pcs p)) :: M) := hm11
    clear hm11
    refine qNone rfl ?_
    refine plD ?_
    refine then_normal (hK10 _ _ ?_)
    refine wp_seq_k fun K14 hK14 => ?_
    refine plStart ?_
    refine litVal (v := .int .i64 (i : Int)) rfl (wn rfl) (gLoad (v := .int .i64 (i : Int)) (k := 0) 5 hm13 rfl (by kernel_rfl) (.tmp 3) (by kernel_rfl) rfl (litEv (by kernel_rfl))) rfl (by decide) ?_
    refine litVal (v := .int .i64 ((i + 1 : Nat) : Int)) rfl (wn rfl) (addRun (A := (i : Int)) (B := 1) (C := ((i + 1 : Nat) : Int)) (.tmp 18) (.const (.int .i64 1)) rfl (litEv (by kernel_rfl)) (litEv (by kernel_rfl)) (by omega) (by omega)) rfl (by decide) ?_
    refine plStore1 (v := .int .i64 ((i + 1 : Nat) : Int)) (k := 0) 5 (by kernel_rfl) hm13 rfl (i := 2) rfl (wn rfl) rfl (litEv (by kernel_rfl)) (litEv (by kernel_rfl)) rfl rfl rfl ?_
    intro w16 hm15
    clear hm13
    try simp only [List.cons_append, List.nil_append, List.set_cons_succ, List.set_cons_zero] at hm15
    refine qNone rfl ?_
    refine plD ?_
    refine then_normal (hK14 _ _ ?_)
    refine wpPrune [(7, .bool false)] ⟨litGet (by kernel_rfl), trivial⟩ (fun X17 => ?_)
    refine wp_seq_k fun K18 hK18 => ?_
    refine plStart ?_
    refine lk (v := .bool true) rfl rfl rfl ?_
    refine plD ?_
    refine then_normal (hK18 _ _ ?_)
    refine wp_ret ?_
    refine bodyPost_ret (v := .bool true) (gRes1 rfl (gResTmp (t := 7) (v := .bool true) (litGet (by kernel_rfl)))) rfl ?_
    exact ⟨true, _, rfl, hm15.keep 8 1, fun _ => ⟨⟨p, by rw [befOf_succ hc]; rfl⟩, take_all_succ hc hno h9⟩, (fun h_ => (by cases h_))⟩
  rw [h9]
  refine plD ?_
  refine then_normal (hK6 _ _ ?_)
  refine wp_cond_true (litEv (by kernel_rfl)) ?_
  refine wp_seq_k fun K19 hK19 => ?_
  refine aoStart (aoV [fun _ => .agg (pcs p).toArray, fun _ => .int .i64 (i : Int), fun _ => .pointer (some ⟨gh, 0, none⟩), fun _ => undef, fun _ => .pointer (some ⟨gh, 6, none⟩), fun _ => undef, fun _ => undef]) (aoA [0, 1, 2, 3, 4, 5, 6]) (fun b_ g_ => ((.arr gf 41 (fcs g A c p)) :: (.rd A 1 g.cells.length c (ics g.cells)) :: (.rd A2 8 T.length c2 (mts T)) :: (.arr gif 77 ([.iface 39 (.pointer (some ⟨gf, 0, none⟩))])) :: (.arr gtb 37 ([.slice A2 T.length c2])) :: (.arr gn 3 ([.int .i64 (i : Int)])) :: (.arr gh 43 (bsel (b_ 5) [.int .i64 p.x, .int .i64 p.y, .int .i64 p.z, .int .i64 ((befOf l a i).x), .int .i64 ((befOf l a i).y), .int .i64 ((befOf l a i).z), .int .i64 (i : Int)] (bsel (b_ 3) [.int .i64 p.x, .int .i64 p.y, .int .i64 p.z, .int .i64 ((befOf l a i).x), .int .i64 ((befOf l a i).y), .int .i64 ((befOf l a i).z), .int .i64 0] (hcs p0 (befOf l a i) 0)))) :: (.arr gfo 4 (bsel (b_ 6) [.bool true] [.bool false])) :: (.arr g2 23 (pcs p)) :: M)) hm8 (by kernel_rfl) (by kernel_rfl) (fun w_ h_ => h_) (fun b_ g_ h_ => by show (fun (x3_ x5_ x6_ : Bool) => (((.arr gf 41 (fcs g A c p)) :: (.rd A 1 g.cells.length c (ics g.cells)) :: (.rd A2 8 T.length c2 (mts T)) :: (.arr gif 77 ([.iface 39 (.pointer (some ⟨gf, 0, none⟩))])) :: (.arr gtb 37 ([.slice A2 T.length c2])) :: (.arr gn 3 ([.int .i64 (i : Int)])) :: (.arr gh 43 (bsel x5_ [.int .i64 p.x, .int .i64 p.y, .int .i64 p.z, .int .i64 ((befOf l a i).x), .int .i64 ((befOf l a i).y), .int .i64 ((befOf l a i).z), .int .i64 (i : Int)] (bsel x3_ [.int .i64 p.x, .int .i64 p.y, .int .i64 p.z, .int .i64 ((befOf l a i).x), .int .i64 ((befOf l a i).y), .int .i64 ((befOf l a i).z), .int .i64 0] (hcs p0 (befOf l a i) 0)))) :: (.arr gfo 4 (bsel x6_ [.bool true] [.bool false])) :: (.arr g2 23 (pcs p)) :: M) : List Res)) (b_ 3) (b_ 5) (b_ 6) = _; rw [h_ 3 (by decide), h_ 5 (by decide), h_ 6 (by decide)]) ?_ ?_
  · refine aoNext rfl (aoVal (fun g_ => [(6, .pointer (some ⟨g2, 0, none⟩))]) (fun g_ a_ h_k => ⟨(h_k.out 6 (by kernel_rfl)).trans (litGet (by kernel_rfl)), trivial⟩) (fun g_ X_ => (wn rfl)) (fun b_ g_ => by kernel_rfl) (fun b_ g_ X_ w_ h_b h_ => valTo (b := .agg (pcs p).toArray) (by kernel_rfl) ((fun (h_ : Mem _ w_ ((.arr gf 41 (fcs g A c p)) :: (.rd A 1 g.cells.length c (ics g.cells)) :: (.rd A2 8 T.length c2 (mts T)) :: (.arr gif 77 ([.iface 39 (.pointer (some ⟨gf, 0, none⟩))])) :: (.arr gtb 37 ([.slice A2 T.length c2])) :: (.arr gn 3 ([.int .i64 (i : Int)])) :: (.arr gh 43 (hcs p0 (befOf l a i) 0)) :: (.arr gfo 4 ([.bool false])) :: (.arr g2 23 (pcs p)) :: M)) => gLoadAg (vs := pcs p) (k := 0) 8 h_ rfl (by kernel_rfl) (by kernel_rfl) (.tmp 6) Ty.ag_voxel_api_Point rfl (litEv (by kernel_rfl))) (by have h2_ : Mem w0 w_ ((.arr gf 41 (fcs g A c p)) :: (.rd A 1 g.cells.length c (ics g.cells)) :: (.rd A2 8 T.length c2 (mts T)) :: (.arr gif 77 ([.iface 39 (.pointer (some ⟨gf, 0, none⟩))])) :: (.arr gtb 37 ([.slice A2 T.length c2])) :: (.arr gn 3 ([.int .i64 (i : Int)])) :: (.arr gh 43 (bsel (b_ 5) [.int .i64 p.x, .int .i64 p.y, .int .i64 p.z, .int .i64 ((befOf l a i).x), .int .i64 ((befOf l a i).y), .int .i64 ((befOf l a i).z), .int .i64 (i : Int)] (bsel (b_ 3) [.int .i64 p.x, .int .i64 p.y, .int .i64 p.z, .int .i64 ((befOf l a i).x), .int .i64 ((befOf l a i).y), .int .i64 ((befOf l a i).z), .int .i64 0] (hcs p0 (befOf l a i) 0)))) :: (.arr gfo 4 (bsel (b_ 6) [.bool true] [.bool false])) :: (.arr g2 23 (pcs p)) :: M) := h_; rw [bselF (h_b.post 5 (by kernel_rfl)), bselF (h_b.post 3 (by kernel_rfl)), bselF (h_b.post 6 (by kernel_rfl))] at h2_; exact h2_)))) ?_
    refine aoNext rfl (aoVal (fun g_ => [(3, .pointer (some ⟨gn, 0, none⟩))]) (fun g_ a_ h_k => ⟨(h_k.out 3 (by kernel_rfl)).trans (litGet (by kernel_rfl)), trivial⟩) (fun g_ X_ => (wn rfl)) (fun b_ g_ => by kernel_rfl) (fun b_ g_ X_ w_ h_b h_ => valTo (b := .int .i64 (i : Int)) (by kernel_rfl) ((fun (h_ : Mem _ w_ ((.arr gf 41 (fcs g A c p)) :: (.rd A 1 g.cells.length c (ics g.cells)) :: (.rd A2 8 T.length c2 (mts T)) :: (.arr gif 77 ([.iface 39 (.pointer (some ⟨gf, 0, none⟩))])) :: (.arr gtb 37 ([.slice A2 T.length c2])) :: (.arr gn 3 ([.int .i64 (i : Int)])) :: (.arr gh 43 (bsel (b_ 5) [.int .i64 p.x, .int .i64 p.y, .int .i64 p.z, .int .i64 ((befOf l a i).x), .int .i64 ((befOf l a i).y), .int .i64 ((befOf l a i).z), .int .i64 (i : Int)] (bsel (b_ 3) [.int .i64 p.x, .int .i64 p.y, .int .i64 p.z, .int .i64 ((befOf l a i).x), .int .i64 ((befOf l a i).y), .int .i64 ((befOf l a i).z), .int .i64 0] (hcs p0 (befOf l a i) 0)))) :: (.arr gfo 4 ([.bool false])) :: (.arr g2 23 (pcs p)) :: M)) => gLoad (v := .int .i64 (i : Int)) (k := 0) 5 h_ rfl (by kernel_rfl) (.tmp 3) (by kernel_rfl) rfl (litEv (by kernel_rfl))) (by have h2_ : Mem w0 w_ ((.arr gf 41 (fcs g A c p)) :: (.rd A 1 g.cells.length c (ics g.cells)) :: (.rd A2 8 T.length c2 (mts T)) :: (.arr gif 77 ([.iface 39 (.pointer (some ⟨gf, 0, none⟩))])) :: (.arr gtb 37 ([.slice A2 T.length c2])) :: (.arr gn 3 ([.int .i64 (i : Int)])) :: (.arr gh 43 (bsel (b_ 5) [.int .i64 p.x, .int .i64 p.y, .int .i64 p.z, .int .i64 ((befOf l a i).x), .int .i64 ((befOf l a i).y), .int .i64 ((befOf l a i).z), .int .i64 (i : Int)] (bsel (b_ 3) [.int .i64 p.x, .int .i64 p.y, .int .i64 p.z, .int .i64 ((befOf l a i).x), .int .i64 ((befOf l a i).y), .int .i64 ((befOf l a i).z), .int .i64 0] (hcs p0 (befOf l a i) 0)))) :: (.arr gfo 4 (bsel (b_ 6) [.bool true] [.bool false])) :: (.arr g2 23 (pcs p)) :: M) := h_; rw [bselF (h_b.post 6 (by kernel_rfl))] at h2_; exact h2_)))) ?_
    refine aoNext rfl (aoVal (fun g_ => [(4, .pointer (some ⟨gh, 0, none⟩))]) (fun g_ a_ h_k => ⟨(h_k.out 4 (by kernel_rfl)).trans (litGet (by kernel_rfl)), trivial⟩) (fun g_ X_ => (wn rfl)) (fun b_ g_ => by kernel_rfl) (fun b_ g_ X_ w_ h_b h_ => valTo (b := .pointer (some ⟨gh, 0, none⟩)) (by kernel_rfl) (litRun (by kernel_rfl)))) ?_
    refine aoNext rfl (aoStore (gb := fun g_ => gh) (k := 0) (cur := fun g_ => hcs p0 (befOf l a i) 0) (vs := fun g_ => pcs p) 6 (fun g_ => [(12, .agg (pcs p).toArray), (14, .pointer (some ⟨gh, 0, none⟩))]) (fun g_ a_ h_k => ⟨(h_k.inn 0 _ _ (by kernel_rfl) rfl rfl).trans (by kernel_rfl), (h_k.inn 2 _ _ (by kernel_rfl) rfl rfl).trans (by kernel_rfl), trivial⟩) Ty.ag_voxel_api_Point (fun b_ g_ h_b => by show some (Res.arr gh 43 (bsel (b_ 5) [.int .i64 p.x, .int .i64 p.y, .int .i64 p.z, .int .i64 ((befOf l a i).x), .int .i64 ((befOf l a i).y), .int .i64 ((befOf l a i).z), .int .i64 (i : Int)] (bsel (b_ 3) [.int .i64 p.x, .int .i64 p.y, .int .i64 p.z, .int .i64 ((befOf l a i).x), .int .i64 ((befOf l a i).y), .int .i64 ((befOf l a i).z), .int .i64 0] (hcs p0 (befOf l a i) 0)))) = some (Res.arr gh 43 (hcs p0 (befOf l a i) 0)); rw [bselF (h_b.post 5 (by kernel_rfl)), bselF h_b.no]) (fun g_ X_ => (wn rfl)) rfl (fun g_ X_ => litEv (by kernel_rfl)) (fun g_ X_ => litEv (by kernel_rfl)) (fun _ => by kernel_rfl) (fun _ => by kernel_rfl) (fun _ => by kernel_rfl) (fun b_ g_ h_b => Eq.trans (by kernel_rfl) (congrArg (fun x_ => List.set _ 6 (Res.arr gh 43 x_)) (bselF (α := List Value) (h_b.post 5 (by kernel_rfl)) [.int .i64 p.x, .int .i64 p.y, .int .i64 p.z, .int .i64 ((befOf l a i).x), .int .i64 ((befOf l a i).y), .int .i64 ((befOf l a i).z), .int .i64 (i : Int)] [.int .i64 p.x, .int .i64 p.y, .int .i64 p.z, .int .i64 ((befOf l a i).x), .int .i64 ((befOf l a i).y), .int .i64 ((befOf l a i).z), .int .i64 0]))) rfl) ?_
    refine aoNext rfl (aoVal (fun g_ => [(4, .pointer (some ⟨gh, 0, none⟩))]) (fun g_ a_ h_k => ⟨(h_k.out 4 (by kernel_rfl)).trans (litGet (by kernel_rfl)), trivial⟩) (fun g_ X_ => (wn rfl)) (fun b_ g_ => by kernel_rfl) (fun b_ g_ X_ w_ h_b h_ => valTo (b := .pointer (some ⟨gh, 6, none⟩)) (by kernel_rfl) (litRun (by kernel_rfl)))) ?_
    refine aoNext rfl (aoStore1 (gb := fun g_ => gh) (k := 6) (cur := fun g_ => [.int .i64 p.x, .int .i64 p.y, .int .i64 p.z, .int .i64 ((befOf l a i).x), .int .i64 ((befOf l a i).y), .int .i64 ((befOf l a i).z), .int .i64 0]) (v := fun g_ => .int .i64 (i : Int)) (v0 := fun g_ => .int .i64 0) 6 (fun g_ => [(13, .int .i64 (i : Int)), (15, .pointer (some ⟨gh, 6, none⟩))]) (fun g_ a_ h_k => ⟨(h_k.inn 1 _ _ (by kernel_rfl) rfl rfl).trans (by kernel_rfl), (h_k.inn 4 _ _ (by kernel_rfl) rfl rfl).trans (by kernel_rfl), trivial⟩) (by kernel_rfl) (fun b_ g_ h_b => by show some (Res.arr gh 43 (bsel (b_ 5) [.int .i64 p.x, .int .i64 p.y, .int .i64 p.z, .int .i64 ((befOf l a i).x), .int .i64 ((befOf l a i).y), .int .i64 ((befOf l a i).z), .int .i64 (i : Int)] (bsel (b_ 3) [.int .i64 p.x, .int .i64 p.y, .int .i64 p.z, .int .i64 ((befOf l a i).x), .int .i64 ((befOf l a i).y), .int .i64 ((befOf l a i).z), .int .i64 0] (hcs p0 (befOf l a i) 0)))) = some (Res.arr gh 43 ([.int .i64 p.x, .int .i64 p.y, .int .i64 p.z, .int .i64 ((befOf l a i).x), .int .i64 ((befOf l a i).y), .int .i64 ((befOf l a i).z), .int .i64 0])); rw [bselF h_b.no, bselT (h_b.pre 3 (by kernel_rfl))]) (fun g_ X_ => (wn rfl)) rfl (fun g_ X_ => litEv (by kernel_rfl)) (fun g_ X_ => litEv (by kernel_rfl)) (fun _ => rfl) (fun _ => rfl) (fun _ => rfl) (fun b_ g_ h_b => by kernel_rfl) rfl) ?_
    refine aoNext rfl (aoStore1 (gb := fun g_ => gfo) (k := 0) (cur := fun g_ => [.bool false]) (v := fun g_ => .bool true) (v0 := fun g_ => .bool false) 7 (fun g_ => [(5, .pointer (some ⟨gfo, 0, none⟩))]) (fun g_ a_ h_k => ⟨(h_k.out 5 (by kernel_rfl)).trans (litGet (by kernel_rfl)), trivial⟩) (by kernel_rfl) (fun b_ g_ h_b => by show some (Res.arr gfo 4 (bsel (b_ 6) [.bool true] [.bool false])) = some (Res.arr gfo 4 ([.bool false])); rw [bselF h_b.no]) (fun g_ X_ => (wn rfl)) rfl (fun g_ X_ => litEv (by kernel_rfl)) (fun g_ X_ => litEv (by kernel_rfl)) (fun _ => rfl) (fun _ => rfl) (fun _ => rfl) (fun b_ g_ h_b => by kernel_rfl) rfl) ?_
    exact aoDone (by decide)
  intro g_ a_ w21 hF_ hm20
  obtain ⟨X22, rfl⟩ := frLit (⟨hF_.size, hF_.defers, ⟨(hF_.out 3 (by kernel_rfl)).trans (litGet (by kernel_rfl)), (hF_.out 4 (by kernel_rfl)).trans (litGet (by kernel_rfl)), (hF_.out 6 (by kernel_rfl)).trans (litGet (by kernel_rfl)), (hF_.out 7 (by kernel_rfl)).trans (litGet (by kernel_rfl)), (hF_.inn 0 _ _ rfl rfl).trans (by kernel_rfl), (hF_.inn 1 _ _ rfl rfl).trans (by kernel_rfl), (hF_.inn 2 _ _ rfl rfl).trans (by kernel_rfl), (hF_.inn 4 _ _ rfl rfl).trans (by kernel_rfl), trivial⟩⟩ : Fr _ 20 [(3, .pointer (some ⟨gn, 0, none⟩)), (4, .pointer (some ⟨gh, 0, none⟩)), (6, .pointer (some ⟨g2, 0, none⟩)), (7, .bool false), (12, .agg (pcs p).toArray), (13, .int .i64 (i : Int)), (14, .pointer (some ⟨gh, 0, none⟩)), (15, .pointer (some ⟨gh, 6, none⟩))])
  clear hF_
  have hm23 : Mem w0 w21 ((.arr gf 41 (fcs g A c p)) :: (.rd A 1 g.cells.length c (ics g.cells)) :: (.rd A2 8 T.length c2 (mts T)) :: (.arr gif 77 ([.iface 39 (.pointer (some ⟨gf, 0, none⟩))])) :: (.arr gtb 37 ([.slice A2 T.length c2])) :: (.arr gn 3 ([.int .i64 (i : Int)])) :: (.arr gh 43 ([.int .i64 p.x, .int .i64 p.y, .int .i64 p.z, .int .i64 ((befOf l a i).x), .int .i64 ((befOf l a i).y), .int .i64 ((befOf l a i).z), .int .i64 (i : Int)])) :: (.arr gfo 4 ([.bool true])) :: (.arr g2 23 (pcs p)) :: M) := hm20
  clear hm20 hm8
  refine then_normal (hK19 _ _ ?_)
  refine wp_seq_k fun K24 hK24 => ?_
  refine plStart ?_
  refine lk (v := .bool false) rfl rfl rfl ?_
  refine plD ?_
  refine then_normal (hK24 _ _ ?_)
  refine wp_ret ?_
  refine then_ret ?_
  refine bodyPost_ret (v := .bool false) (gRes1 rfl (gResTmp (t := 7) (v := .bool false) (litGet (by kernel_rfl)))) rfl ?_
  exact ⟨false, _, rfl, hm23.keep 8 1, (fun h_ => (by cases h_)), fun _ => by unfold FRp; rw [firstSol_some hc h9 hno, Nat.zero_add]; rfl⟩
set_option maxRecDepth 100000 in
set_option maxHeartbeats 4000000 in
theorem visVis_any {w0 w : World} (g : Gr) (hv : g.Valid) (T : List Mat) (A : Option Addr) (c : Nat) (A2 : Option Addr) (c2 : Nat) (gf : Nat) (gif gtb ga gb gfo : Nat) (l : List Pt) (a b : Pt) (i : Nat) (p : Pt) (V M : List Res) (hc : l[i]? = some p) (hV : (∃ last, V = vV g A c A2 c2 T gf gif gtb ga gb gfo a b last true) ∧ ∀ q ∈ l.take i, visB g T a b q = true) (hm : Mem w0 w (V ++ M)) : Calls Try.prog 44 #[.agg (pcs p).toArray, .pointer (some ⟨ga, 0, none⟩), .pointer (some ⟨gb, 0, none⟩), .pointer (some ⟨gif, 0, none⟩), .pointer (some ⟨gtb, 0, none⟩), .pointer (some ⟨gfo, 0, none⟩)] w (fun e w' => ∃ t V', e = .returned (.bool t) ∧ Mem w0 w' (V' ++ M) ∧ (t = true → (∃ last, V' = vV g A c A2 c2 T gf gif gtb ga gb gfo a b last true) ∧ ∀ q ∈ l.take (i + 1), visB g T a b q = true) ∧ (t = false → ∃ last, V' = vV g A c A2 c2 T gf gif gtb ga gb gfo a b last (l.all (visB g T a b)))) := by
  obtain ⟨⟨last, rfl⟩, hno⟩ := hV
  have hm0 := hm
  go_enter Try.func44, Try.ntmps44
  refine litStart 24 [(0, .agg (pcs p).toArray), (1, .pointer (some ⟨ga, 0, none⟩)), (2, .pointer (some ⟨gb, 0, none⟩)), (3, .pointer (some ⟨gif, 0, none⟩)), (4, .pointer (some ⟨gtb, 0, none⟩)), (5, .pointer (some ⟨gfo, 0, none⟩))] (by kernel_rfl) (fun X0 => ?_)
  refine wp_seq_k fun K1 hK1 => ?_
  refine plStart ?_
  refine plBox hm0 (cs := pcs p) (i := 0) rfl (wn rfl) rfl (litEv (by kernel_rfl)) ?_
  intro g2 w4 hm3
  clear hm0
  try simp only [List.cons_append, List.nil_append, List.set_cons_succ, List.set_cons_zero] at hm3
  replace hm3 := Mem.insAt (M := ((.arr gf 41 (fcs g A c last)) :: (.rd A 1 g.cells.length c (ics g.cells)) :: (.rd A2 8 T.length c2 (mts T)) :: (.arr gif 77 ([.iface 39 (.pointer (some ⟨gf, 0, none⟩))])) :: (.arr gtb 37 ([.slice A2 T.length c2])) :: (.arr ga 23 (pcs a)) :: (.arr gb 23 (pcs b)) :: (.arr gfo 4 ([.bool true])) :: M)) 8 hm3
  simp only [List.insertIdx_succ_cons, List.insertIdx_zero] at hm3
  refine qP rfl ?_
  refine lk (v := .bool false) rfl rfl rfl ?_
  refine plD ?_
  refine then_normal (hK1 _ _ ?_)
  refine wp_seq_k fun K5 hK5 => ?_
  refine plStart ?_
  refine litVal (v := .agg (pcs p).toArray) rfl (wn rfl) (gLoadAg (vs := pcs p) (k := 0) 8 hm3 rfl (by kernel_rfl) (by kernel_rfl) (.tmp 6) Ty.ag_voxel_api_Point rfl (litEv (by kernel_rfl))) rfl (by decide) ?_
  refine litVal (v := .agg (pcs a).toArray) rfl (wn rfl) (gLoadAg (vs := pcs a) (k := 0) 5 hm3 rfl (by kernel_rfl) (by kernel_rfl) (.tmp 1) Ty.ag_voxel_api_Point rfl (litEv (by kernel_rfl))) rfl (by decide) ?_
  by_cases h6 : p = a
  · refine litVal (v := .bool true) rfl (wn rfl) (boolTo (decide_eq_true h6) (eqPtRun (.tmp 8) (.tmp 9) p a (by kernel_rfl) (by kernel_rfl) (by kernel_rfl) (by kernel_rfl) rfl (litEv (by kernel_rfl)) (litEv (by kernel_rfl)))) rfl (by decide) ?_
    refine lk (v := .bool true) rfl rfl rfl ?_
    refine plSkip (i := 4) rfl (wgN rfl rfl rfl (by decide) (by kernel_rfl)) ?_
    refine qP rfl ?_
    refine plSkip (i := 5) rfl (wgN rfl rfl rfl (by decide) (by kernel_rfl)) ?_
    refine qP rfl ?_
    refine plSkip (i := 6) rfl (wgN rfl rfl rfl (by decide) (by kernel_rfl)) ?_
    refine qP rfl ?_
    refine lk (v := .bool true) rfl rfl rfl ?_
    refine lk (v := .bool true) rfl rfl rfl ?_
    refine plSkip (i := 9) rfl (wgN rfl rfl rfl (by decide) (by kernel_rfl)) ?_
    refine qP rfl ?_
    refine plSkip (i := 10) rfl (wgN rfl rfl rfl (by decide) (by kernel_rfl)) ?_
    refine qP rfl ?_
    refine plSkip (i := 11) rfl (wgN rfl rfl rfl (by decide) (by kernel_rfl)) ?_
    refine qP rfl ?_
    refine plSkip (i := 12) rfl (wgN rfl rfl rfl (by decide) (by kernel_rfl)) ?_
    refine qP rfl ?_
    refine plSkip (i := 13) rfl (wgN rfl rfl rfl (by decide) (by kernel_rfl)) ?_
    refine qP rfl ?_
    refine lk (v := .bool true) rfl rfl rfl ?_
    refine plStore1 (v := .bool true) (k := 0) 7 (by kernel_rfl) hm3 rfl (i := 15) rfl (wn rfl) rfl (litEv (by kernel_rfl)) (litEv (by kernel_rfl)) rfl rfl rfl ?_
    intro w8 hm7
    clear hm3
    try simp only [List.cons_append, List.nil_append, List.set_cons_succ, List.set_cons_zero] at hm7
    refine qNone rfl ?_
    refine plD ?_
    refine then_normal (hK5 _ _ ?_)
    refine wpPrune [(5, .pointer (some ⟨gfo, 0, none⟩)), (7, .bool false)] ⟨litGet (by kernel_rfl), ⟨litGet (by kernel_rfl), trivial⟩⟩ (fun X9 => ?_)
    refine wp_seq_k fun K10 hK10 => ?_
    refine plStart ?_
    refine litVal (v := .bool true) rfl (wn rfl) (gLoad (v := .bool true) (k := 0) 7 hm7 rfl (by kernel_rfl) (.tmp 5) (by kernel_rfl) rfl (litEv (by kernel_rfl))) rfl (by decide) ?_
    refine lk (v := .bool true) rfl rfl rfl ?_
    refine plD ?_
    refine then_normal (hK10 _ _ ?_)
    refine wp_ret ?_
    refine bodyPost_ret (v := .bool true) (gRes1 rfl (gResTmp (t := 7) (v := .bool true) (litGet (by kernel_rfl)))) rfl ?_
    exact ⟨true, _, rfl, hm7.keep 8 1, fun _ => ⟨⟨_, rfl⟩, take_all_succ hc hno (by unfold visB; simp [h6])⟩, (fun h_ => (by cases h_))⟩
  refine litVal (v := .bool false) rfl (wn rfl) (boolTo (decide_eq_false h6) (eqPtRun (.tmp 8) (.tmp 9) p a (by kernel_rfl) (by kernel_rfl) (by kernel_rfl) (by kernel_rfl) rfl (litEv (by kernel_rfl)) (litEv (by kernel_rfl)))) rfl (by decide) ?_
  refine lk (v := .bool false) rfl rfl rfl ?_
  refine litVal (v := .agg (pcs p).toArray) rfl (wgY rfl rfl rfl (by decide) (by kernel_rfl)) (gLoadAg (vs := pcs p) (k := 0) 8 hm3 rfl (by kernel_rfl) (by kernel_rfl) (.tmp 6) Ty.ag_voxel_api_Point rfl (litEv (by kernel_rfl))) rfl (by decide) ?_
  refine litVal (v := .agg (pcs b).toArray) rfl (wgY rfl rfl rfl (by decide) (by kernel_rfl)) (gLoadAg (vs := pcs b) (k := 0) 6 hm3 rfl (by kernel_rfl) (by kernel_rfl) (.tmp 2) Ty.ag_voxel_api_Point rfl (litEv (by kernel_rfl))) rfl (by decide) ?_
  by_cases h11 : p = b
  · refine litVal (v := .bool true) rfl (wgY rfl rfl rfl (by decide) (by kernel_rfl)) (boolTo (decide_eq_true h11) (eqPtRun (.tmp 12) (.tmp 13) p b (by kernel_rfl) (by kernel_rfl) (by kernel_rfl) (by kernel_rfl) rfl (litEv (by kernel_rfl)) (litEv (by kernel_rfl)))) rfl (by decide) ?_
    refine lk (v := .bool true) rfl rfl rfl ?_
    refine lk (v := .bool true) rfl rfl rfl ?_
    refine plSkip (i := 9) rfl (wgN rfl rfl rfl (by decide) (by kernel_rfl)) ?_
    refine qP rfl ?_
    refine plSkip (i := 10) rfl (wgN rfl rfl rfl (by decide) (by kernel_rfl)) ?_
    refine qP rfl ?_
    refine plSkip (i := 11) rfl (wgN rfl rfl rfl (by decide) (by kernel_rfl)) ?_
    refine qP rfl ?_
    refine plSkip (i := 12) rfl (wgN rfl rfl rfl (by decide) (by kernel_rfl)) ?_
    refine qP rfl ?_
    refine plSkip (i := 13) rfl (wgN rfl rfl rfl (by decide) (by kernel_rfl)) ?_
    refine qP rfl ?_
    refine lk (v := .bool true) rfl rfl rfl ?_
    refine plStore1 (v := .bool true) (k := 0) 7 (by kernel_rfl) hm3 rfl (i := 15) rfl (wn rfl) rfl (litEv (by kernel_rfl)) (litEv (by kernel_rfl)) rfl rfl rfl ?_
    intro w13 hm12
    clear hm3
    try simp only [List.cons_append, List.nil_append, List.set_cons_succ, List.set_cons_zero] at hm12
    refine qNone rfl ?_
    refine plD ?_
    refine then_normal (hK5 _ _ ?_)
    refine wpPrune [(5, .pointer (some ⟨gfo, 0, none⟩)), (7, .bool false)] ⟨litGet (by kernel_rfl), ⟨litGet (by kernel_rfl), trivial⟩⟩ (fun X14 => ?_)
    refine wp_seq_k fun K15 hK15 => ?_
    refine plStart ?_
    refine litVal (v := .bool true) rfl (wn rfl) (gLoad (v := .bool true) (k := 0) 7 hm12 rfl (by kernel_rfl) (.tmp 5) (by kernel_rfl) rfl (litEv (by kernel_rfl))) rfl (by decide) ?_
    refine lk (v := .bool true) rfl rfl rfl ?_
    refine plD ?_
    refine then_normal (hK15 _ _ ?_)
    refine wp_ret ?_
    refine bodyPost_ret (v := .bool true) (gRes1 rfl (gResTmp (t := 7) (v := .bool true) (litGet (by kernel_rfl)))) rfl ?_
    exact ⟨true, _, rfl, hm12.keep 8 1, fun _ => ⟨⟨_, rfl⟩, take_all_succ hc hno (by unfold visB; simp [h6, h11])⟩, (fun h_ => (by cases h_))⟩
  refine litVal (v := .bool false) rfl (wgY rfl rfl rfl (by decide) (by kernel_rfl)) (boolTo (decide_eq_false h11) (eqPtRun (.tmp 12) (.tmp 13) p b (by kernel_rfl) (by kernel_rfl) (by kernel_rfl) (by kernel_rfl) rfl (litEv (by kernel_rfl)) (litEv (by kernel_rfl)))) rfl (by decide) ?_
  refine lk (v := .bool false) rfl rfl rfl ?_
  refine lk (v := .bool false) rfl rfl rfl ?_
  refine litVal (v := .iface 39 (.pointer (some ⟨gf, 0, none⟩))) rfl (wgY rfl rfl rfl (by decide) (by kernel_rfl)) (gLoad (v := .iface 39 (.pointer (some ⟨gf, 0, none⟩))) (k := 0) 3 hm3 rfl (by kernel_rfl) (.tmp 3) (by kernel_rfl) rfl (litEv (by kernel_rfl))) rfl (by decide) ?_
  refine litVal (v := .slice A2 T.length c2) rfl (wgY rfl rfl rfl (by decide) (by kernel_rfl)) (gLoad (v := .slice A2 T.length c2) (k := 0) 4 hm3 rfl (by kernel_rfl) (.tmp 4) (by kernel_rfl) rfl (litEv (by kernel_rfl))) rfl (by decide) ?_
  refine litVal (v := .agg (pcs p).toArray) rfl (wgY rfl rfl rfl (by decide) (by kernel_rfl)) (gLoadAg (vs := pcs p) (k := 0) 8 hm3 rfl (by kernel_rfl) (by kernel_rfl) (.tmp 6) Ty.ag_voxel_api_Point rfl (litEv (by kernel_rfl))) rfl (by decide) ?_
  refine plCall (i := 12) 42 [.iface 39 (.pointer (some ⟨gf, 0, none⟩)), .slice A2 T.length c2, .agg (pcs p).toArray] [] [] rfl (by kernel_rfl) (wgY rfl rfl rfl (by decide) (by kernel_rfl)) rfl (litEv (by kernel_rfl)) (litArgs (by kernel_rfl)) (solid_any (M := ((.arr gif 77 ([.iface 39 (.pointer (some ⟨gf, 0, none⟩))])) :: (.arr gtb 37 ([.slice A2 T.length c2])) :: (.arr ga 23 (pcs a)) :: (.arr gb 23 (pcs b)) :: (.arr gfo 4 ([.bool true])) :: (.arr g2 23 (pcs p)) :: M)) g hv T A c A2 c2 gf last p hm3) ?_
  rintro e w16 ⟨rfl, hm17⟩
  clear hm3
  refine ⟨_, rfl, ?_⟩
  refine qP rfl ?_
  rcases bool_or (solidAt g T p) with h18 | h18
  · rw [h18]
    refine litVal (v := .bool true) rfl (wgY rfl rfl rfl (by decide) (by kernel_rfl)) (litRun (by kernel_rfl)) rfl (by decide) ?_
    refine lk (v := .bool true) rfl rfl rfl ?_
    refine plStore1 (v := .bool true) (k := 0) 7 (by kernel_rfl) hm17 rfl (i := 15) rfl (wn rfl) rfl (litEv (by kernel_rfl)) (litEv (by kernel_rfl)) rfl rfl rfl ?_
    intro w20 hm19
    clear hm17
    try simp only [List.cons_append, List.nil_append, List.set_cons_succ, List.set_cons_zero] at hm19
    refine qNone rfl ?_
    refine plD ?_
    refine then_normal (hK5 _ _ ?_)
    refine wpPrune [(5, .pointer (some ⟨gfo, 0, none⟩)), (7, .bool false)] ⟨litGet (by kernel_rfl), ⟨litGet (by kernel_rfl), trivial⟩⟩ (fun X21 => ?_)
    refine wp_seq_k fun K22 hK22 => ?_
    refine plStart ?_
    refine litVal (v := .bool true) rfl (wn rfl) (gLoad (v := .bool true) (k := 0) 7 hm19 rfl (by kernel_rfl) (.tmp 5) (by kernel_rfl) rfl (litEv (by kernel_rfl))) rfl (by decide) ?_
    refine lk (v := .bool true) rfl rfl rfl ?_
    refine plD ?_
    refine then_normal (hK22 _ _ ?_)
    refine wp_ret ?_
    refine bodyPost_ret (v := .bool true) (gRes1 rfl (gResTmp (t := 7) (v := .bool true) (litGet (by kernel_rfl)))) rfl ?_
    exact ⟨true, _, rfl, hm19.keep 8 1, fun _ => ⟨⟨_, rfl⟩, take_all_succ hc hno (by unfold visB; simp [h6, h11, h18])⟩, (fun h_ => (by cases h_))⟩
  rw [h18]
  refine litVal (v := .bool false) rfl (wgY rfl rfl rfl (by decide) (by kernel_rfl)) (litRun (by kernel_rfl)) rfl (by decide) ?_
  refine lk (v := .bool false) rfl rfl rfl ?_
  refine plStore1 (v := .bool false) (k := 0) 7 (by kernel_rfl) hm17 rfl (i := 15) rfl (wn rfl) rfl (litEv (by kernel_rfl)) (litEv (by kernel_rfl)) rfl rfl rfl ?_
  intro w24 hm23
  clear hm17
  try simp only [List.cons_append, List.nil_append, List.set_cons_succ, List.set_cons_zero] at hm23
  refine qNone rfl ?_
  refine plD ?_
  refine then_normal (hK5 _ _ ?_)
  refine wpPrune [(5, .pointer (some ⟨gfo, 0, none⟩)), (7, .bool false)] ⟨litGet (by kernel_rfl), ⟨litGet (by kernel_rfl), trivial⟩⟩ (fun X25 => ?_)
  refine wp_seq_k fun K26 hK26 => ?_
  refine plStart ?_
  refine litVal (v := .bool false) rfl (wn rfl) (gLoad (v := .bool false) (k := 0) 7 hm23 rfl (by kernel_rfl) (.tmp 5) (by kernel_rfl) rfl (litEv (by kernel_rfl))) rfl (by decide) ?_
  refine lk (v := .bool false) rfl rfl rfl ?_
  refine plD ?_
  refine then_normal (hK26 _ _ ?_)
  refine wp_ret ?_
  refine bodyPost_ret (v := .bool false) (gRes1 rfl (gResTmp (t := 7) (v := .bool false) (litGet (by kernel_rfl)))) rfl ?_
  exact ⟨false, _, rfl, hm23.keep 8 1, (fun h_ => (by cases h_)), fun _ => ⟨_, by rw [visAll_no hc (by unfold visB; simp [h6, h11, h18])]; rfl⟩⟩
set_option maxRecDepth 100000 in
set_option maxHeartbeats 4000000 in
theorem first_any {w0 w : World} {M : List Res} (g : Gr) (hv : g.Valid) (T : List Mat) (A : Option Addr) (c : Nat) (A2 : Option Addr) (c2 : Nat) (gf : Nat) (last a b : Pt) (hm : Mem w0 w (.arr gf 41 (fcs g A c last) :: .rd A 1 g.cells.length c (ics g.cells) :: .rd A2 8 T.length c2 (mts T) :: M)) : Calls Try.prog 16 #[.iface 39 (.pointer (some ⟨gf, 0, none⟩)), .slice A2 T.length c2, .agg (pcs a).toArray, .agg (pcs b).toArray] w (fun e w' => ∃ last2, e = .returned (.tuple #[.agg (firstH g T a b).toArray, .int .i64 (firstE g T a b)]) ∧ Mem w0 w' (.arr gf 41 (fcs g A c last2) :: .rd A 1 g.cells.length c (ics g.cells) :: .rd A2 8 T.length c2 (mts T) :: M) ∧ (firstE g T a b = 0 → ∃ k p, firstSol (solidAt g T) (walk a b) 0 = some (k, p) ∧ last2 = p)) := by
  have hwl0 : ckE a b = 0 → (walk a b).length ≤ 1000000 := fun h => by have h1 := walk_len a b; have h2 := (ckE_ok h).2.2; omega
  have hm0 := hm
  go_enter Try.func16, Try.ntmps16
  refine litStart 31 [(0, .iface 39 (.pointer (some ⟨gf, 0, none⟩))), (1, .slice A2 T.length c2), (2, .agg (pcs a).toArray), (3, .agg (pcs b).toArray)] (by kernel_rfl) (fun X0 => ?_)
  refine wp_seq_k fun K1 hK1 => ?_
  refine plStart ?_
  refine plBox1 (v := .iface 39 (.pointer (some ⟨gf, 0, none⟩))) hm0 (i := 0) rfl (wn rfl) rfl (litEv (by kernel_rfl)) rfl ?_
  intro g2 w4 hm3
  clear hm0
  try simp only [List.cons_append, List.nil_append, List.set_cons_succ, List.set_cons_zero] at hm3
  replace hm3 := Mem.insAt (M := ((.arr gf 41 (fcs g A c last)) :: (.rd A 1 g.cells.length c (ics g.cells)) :: (.rd A2 8 T.length c2 (mts T)) :: M)) 3 hm3
  simp only [List.insertIdx_succ_cons, List.insertIdx_zero] at hm3
  refine qP rfl ?_
  refine plBox1 (v := .slice A2 T.length c2) hm3 (i := 1) rfl (wn rfl) rfl (litEv (by kernel_rfl)) rfl ?_
  intro g5 w7 hm6
  clear hm3
  try simp only [List.cons_append, List.nil_append, List.set_cons_succ, List.set_cons_zero] at hm6
  replace hm6 := Mem.insAt (M := ((.arr gf 41 (fcs g A c last)) :: (.rd A 1 g.cells.length c (ics g.cells)) :: (.rd A2 8 T.length c2 (mts T)) :: (.arr g2 77 ([.iface 39 (.pointer (some ⟨gf, 0, none⟩))])) :: M)) 4 hm6
  simp only [List.insertIdx_succ_cons, List.insertIdx_zero] at hm6
  refine qP rfl ?_
  refine plBox hm6 (cs := pcs a) (i := 2) rfl (wn rfl) rfl (litEv (by kernel_rfl)) ?_
  intro g8 w10 hm9
  clear hm6
  try simp only [List.cons_append, List.nil_append, List.set_cons_succ, List.set_cons_zero] at hm9
  replace hm9 := Mem.insAt (M := ((.arr gf 41 (fcs g A c last)) :: (.rd A 1 g.cells.length c (ics g.cells)) :: (.rd A2 8 T.length c2 (mts T)) :: (.arr g2 77 ([.iface 39 (.pointer (some ⟨gf, 0, none⟩))])) :: (.arr g5 37 ([.slice A2 T.length c2])) :: M)) 5 hm9
  simp only [List.insertIdx_succ_cons, List.insertIdx_zero] at hm9
  refine qP rfl ?_
  refine plBox hm9 (cs := pcs b) (i := 3) rfl (wn rfl) rfl (litEv (by kernel_rfl)) ?_
  intro g11 w13 hm12
  clear hm9
  try simp only [List.cons_append, List.nil_append, List.set_cons_succ, List.set_cons_zero] at hm12
  replace hm12 := Mem.insAt (M := ((.arr gf 41 (fcs g A c last)) :: (.rd A 1 g.cells.length c (ics g.cells)) :: (.rd A2 8 T.length c2 (mts T)) :: (.arr g2 77 ([.iface 39 (.pointer (some ⟨gf, 0, none⟩))])) :: (.arr g5 37 ([.slice A2 T.length c2])) :: (.arr g8 23 (pcs a)) :: M)) 6 hm12
  simp only [List.insertIdx_succ_cons, List.insertIdx_zero] at hm12
  refine qP rfl ?_
  refine plAlloc (z := [.int .i64 0, .int .i64 0, .int .i64 0, .int .i64 0, .int .i64 0, .int .i64 0, .int .i64 0]) Ty.ag_voxel_ray_Hit hm12 (i := 4) rfl (wn rfl) rfl ?_
  intro g14 w16 hm15
  clear hm12
  try simp only [List.cons_append, List.nil_append, List.set_cons_succ, List.set_cons_zero] at hm15
  replace hm15 := Mem.insAt (M := ((.arr gf 41 (fcs g A c last)) :: (.rd A 1 g.cells.length c (ics g.cells)) :: (.rd A2 8 T.length c2 (mts T)) :: (.arr g2 77 ([.iface 39 (.pointer (some ⟨gf, 0, none⟩))])) :: (.arr g5 37 ([.slice A2 T.length c2])) :: (.arr g8 23 (pcs a)) :: (.arr g11 23 (pcs b)) :: M)) 7 hm15
  simp only [List.insertIdx_succ_cons, List.insertIdx_zero] at hm15
  refine qP rfl ?_
  refine lk (v := .int .i64 0) rfl rfl rfl ?_
  refine plD ?_
  refine then_normal (hK1 _ _ ?_)
  refine wp_seq_k fun K17 hK17 => ?_
  refine wp_seq_k fun K18 hK18 => ?_
  refine plStart ?_
  refine litVal (v := .agg (pcs a).toArray) rfl (wn rfl) (gLoadAg (vs := pcs a) (k := 0) 5 hm15 rfl (by kernel_rfl) (by kernel_rfl) (.tmp 6) Ty.ag_voxel_api_Point rfl (litEv (by kernel_rfl))) rfl (by decide) ?_
  refine litVal (v := .agg (pcs b).toArray) rfl (wn rfl) (gLoadAg (vs := pcs b) (k := 0) 6 hm15 rfl (by kernel_rfl) (by kernel_rfl) (.tmp 7) Ty.ag_voxel_api_Point rfl (litEv (by kernel_rfl))) rfl (by decide) ?_
  refine plCall (i := 2) 31 [.agg (pcs a).toArray, .agg (pcs b).toArray] [] [] rfl (by kernel_rfl) (wn rfl) rfl (litEv (by kernel_rfl)) (litArgs (by kernel_rfl)) (check_any a b _) ?_
  rintro e w19 ⟨rfl, hbz⟩
  have hm20 := hm15.below hbz
  clear hbz hm15
  refine ⟨_, rfl, ?_⟩
  refine qP rfl ?_
  refine lk (v := .int .i64 (ckE a b)) rfl rfl rfl ?_
  refine plD ?_
  refine then_normal (hK18 _ _ ?_)
  refine wp_seq_k fun K21 hK21 => ?_
  refine plStart ?_
  refine lk (v := .int .i64 (ckE a b)) rfl rfl rfl ?_
  by_cases h22 : (ckE a b) = 0
  · refine litVal (v := .bool false) rfl (wn rfl) (boolTo (by rw [decide_eq_true h22]; rfl) (neqRun (A := (ckE a b)) (B := 0) (.tmp 17) (.const (.int .i64 0)) rfl (litEv (by kernel_rfl)) (litEv (by kernel_rfl)))) rfl (by decide) ?_
    refine plD ?_
    refine then_normal (hK21 _ _ ?_)
    refine wp_cond_false (litEv (by kernel_rfl)) ?_
    refine wp_skip ?_
    refine then_normal (hK17 _ _ ?_)
    refine wp_seq_k fun K23 hK23 => ?_
    refine plStart ?_
    refine litVal (v := .agg (pcs a).toArray) rfl (wn rfl) (gLoadAg (vs := pcs a) (k := 0) 5 hm20 rfl (by kernel_rfl) (by kernel_rfl) (.tmp 6) Ty.ag_voxel_api_Point rfl (litEv (by kernel_rfl))) rfl (by decide) ?_
    refine lk (v := .agg ([.int .i64 0, .int .i64 0, .int .i64 0, .int .i64 a.x, .int .i64 a.y, .int .i64 a.z, .int .i64 0]).toArray) rfl rfl rfl ?_
    refine plAlloc (z := [.int .i64 0, .int .i64 0, .int .i64 0, .int .i64 0, .int .i64 0, .int .i64 0, .int .i64 0]) Ty.ag_voxel_ray_Hit hm20 (i := 2) rfl (wn rfl) rfl ?_
    intro g24 w26 hm25
    clear hm20
    try simp only [List.cons_append, List.nil_append, List.set_cons_succ, List.set_cons_zero] at hm25
    replace hm25 := Mem.insAt (M := ((.arr gf 41 (fcs g A c last)) :: (.rd A 1 g.cells.length c (ics g.cells)) :: (.rd A2 8 T.length c2 (mts T)) :: (.arr g2 77 ([.iface 39 (.pointer (some ⟨gf, 0, none⟩))])) :: (.arr g5 37 ([.slice A2 T.length c2])) :: (.arr g8 23 (pcs a)) :: (.arr g11 23 (pcs b)) :: (.arr g14 43 ([.int .i64 0, .int .i64 0, .int .i64 0, .int .i64 0, .int .i64 0, .int .i64 0, .int .i64 0])) :: M)) 8 hm25
    simp only [List.insertIdx_succ_cons, List.insertIdx_zero] at hm25
    refine qP rfl ?_
    refine plAlloc1 (v := .int .i64 0) (by kernel_rfl) hm25 (i := 3) rfl (wn rfl) rfl ?_
    intro g27 w29 hm28
    clear hm25
    try simp only [List.cons_append, List.nil_append, List.set_cons_succ, List.set_cons_zero] at hm28
    replace hm28 := Mem.insAt (M := ((.arr gf 41 (fcs g A c last)) :: (.rd A 1 g.cells.length c (ics g.cells)) :: (.rd A2 8 T.length c2 (mts T)) :: (.arr g2 77 ([.iface 39 (.pointer (some ⟨gf, 0, none⟩))])) :: (.arr g5 37 ([.slice A2 T.length c2])) :: (.arr g8 23 (pcs a)) :: (.arr g11 23 (pcs b)) :: (.arr g14 43 ([.int .i64 0, .int .i64 0, .int .i64 0, .int .i64 0, .int .i64 0, .int .i64 0, .int .i64 0])) :: (.arr g24 43 ([.int .i64 0, .int .i64 0, .int .i64 0, .int .i64 0, .int .i64 0, .int .i64 0, .int .i64 0])) :: M)) 9 hm28
    simp only [List.insertIdx_succ_cons, List.insertIdx_zero] at hm28
    refine qP rfl ?_
    refine plAlloc1 (v := .bool false) (by kernel_rfl) hm28 (i := 4) rfl (wn rfl) rfl ?_
    intro g30 w32 hm31
    clear hm28
    try simp only [List.cons_append, List.nil_append, List.set_cons_succ, List.set_cons_zero] at hm31
    replace hm31 := Mem.insAt (M := ((.arr gf 41 (fcs g A c last)) :: (.rd A 1 g.cells.length c (ics g.cells)) :: (.rd A2 8 T.length c2 (mts T)) :: (.arr g2 77 ([.iface 39 (.pointer (some ⟨gf, 0, none⟩))])) :: (.arr g5 37 ([.slice A2 T.length c2])) :: (.arr g8 23 (pcs a)) :: (.arr g11 23 (pcs b)) :: (.arr g14 43 ([.int .i64 0, .int .i64 0, .int .i64 0, .int .i64 0, .int .i64 0, .int .i64 0, .int .i64 0])) :: (.arr g24 43 ([.int .i64 0, .int .i64 0, .int .i64 0, .int .i64 0, .int .i64 0, .int .i64 0, .int .i64 0])) :: (.arr g27 3 ([.int .i64 0])) :: M)) 10 hm31
    simp only [List.insertIdx_succ_cons, List.insertIdx_zero] at hm31
    refine qP rfl ?_
    refine plStore 8 Ty.ag_voxel_ray_Hit hm31 rfl (i := 5) (cs := [.int .i64 0, .int .i64 0, .int .i64 0, .int .i64 a.x, .int .i64 a.y, .int .i64 a.z, .int .i64 0]) rfl (wn rfl) rfl (litEv (by kernel_rfl)) (litEv (by kernel_rfl)) rfl rfl (by kernel_rfl) ?_
    intro w34 hm33
    clear hm31
    try simp only [List.cons_append, List.nil_append, List.set_cons_succ, List.set_cons_zero] at hm33
    refine qNone rfl ?_
    refine plStore1 (v := .int .i64 0) (k := 0) 9 (by kernel_rfl) hm33 rfl (i := 6) rfl (wn rfl) rfl (litEv (by kernel_rfl)) (litEv (by kernel_rfl)) rfl rfl rfl ?_
    intro w36 hm35
    clear hm33
    try simp only [List.cons_append, List.nil_append, List.set_cons_succ, List.set_cons_zero] at hm35
    refine qNone rfl ?_
    refine plStore1 (v := .bool false) (k := 0) 10 (by kernel_rfl) hm35 rfl (i := 7) rfl (wn rfl) rfl (litEv (by kernel_rfl)) (litEv (by kernel_rfl)) rfl rfl rfl ?_
    intro w38 hm37
    clear hm35
    try simp only [List.cons_append, List.nil_append, List.set_cons_succ, List.set_cons_zero] at hm37
    refine qNone rfl ?_
    refine plD ?_
    refine then_normal (hK23 _ _ ?_)
    refine wp_seq_k fun K39 hK39 => ?_
    refine plStart ?_
    rcases hfs : firstSol (solidAt g T) (walk a b) 0 with _ | ⟨k, q⟩
    · refine litVal (v := .agg (pcs a).toArray) rfl (wn rfl) (gLoadAg (vs := pcs a) (k := 0) 5 hm37 rfl (by kernel_rfl) (by kernel_rfl) (.tmp 6) Ty.ag_voxel_api_Point rfl (litEv (by kernel_rfl))) rfl (by decide) ?_
      refine litVal (v := .agg (pcs b).toArray) rfl (wn rfl) (gLoadAg (vs := pcs b) (k := 0) 6 hm37 rfl (by kernel_rfl) (by kernel_rfl) (.tmp 7) Ty.ag_voxel_api_Point rfl (litEv (by kernel_rfl))) rfl (by decide) ?_
      refine lk (v := .func (.func 41) #[] #[.pointer (some ⟨g2, 0, none⟩), .pointer (some ⟨g5, 0, none⟩), .pointer (some ⟨g27, 0, none⟩), .pointer (some ⟨g24, 0, none⟩), .pointer (some ⟨g30, 0, none⟩)]) rfl rfl rfl ?_
      have hm40 : Mem w0 w38 ((.arr g30 4 ([.bool false])) :: (.arr gf 41 (fcs g A c last)) :: (.rd A 1 g.cells.length c (ics g.cells)) :: (.rd A2 8 T.length c2 (mts T)) :: (.arr g2 77 ([.iface 39 (.pointer (some ⟨gf, 0, none⟩))])) :: (.arr g5 37 ([.slice A2 T.length c2])) :: (.arr g8 23 (pcs a)) :: (.arr g11 23 (pcs b)) :: (.arr g14 43 ([.int .i64 0, .int .i64 0, .int .i64 0, .int .i64 0, .int .i64 0, .int .i64 0, .int .i64 0])) :: (.arr g24 43 ([.int .i64 0, .int .i64 0, .int .i64 0, .int .i64 a.x, .int .i64 a.y, .int .i64 a.z, .int .i64 0])) :: (.arr g27 3 ([.int .i64 0])) :: M) := Mem.front 10 hm37 rfl
      clear hm37
      have hm41 : Mem w0 w38 ((.arr g24 43 ([.int .i64 0, .int .i64 0, .int .i64 0, .int .i64 a.x, .int .i64 a.y, .int .i64 a.z, .int .i64 0])) :: (.arr g30 4 ([.bool false])) :: (.arr gf 41 (fcs g A c last)) :: (.rd A 1 g.cells.length c (ics g.cells)) :: (.rd A2 8 T.length c2 (mts T)) :: (.arr g2 77 ([.iface 39 (.pointer (some ⟨gf, 0, none⟩))])) :: (.arr g5 37 ([.slice A2 T.length c2])) :: (.arr g8 23 (pcs a)) :: (.arr g11 23 (pcs b)) :: (.arr g14 43 ([.int .i64 0, .int .i64 0, .int .i64 0, .int .i64 0, .int .i64 0, .int .i64 0, .int .i64 0])) :: (.arr g27 3 ([.int .i64 0])) :: M) := Mem.front 9 hm40 rfl
      clear hm40
      have hm42 : Mem w0 w38 ((.arr g27 3 ([.int .i64 0])) :: (.arr g24 43 ([.int .i64 0, .int .i64 0, .int .i64 0, .int .i64 a.x, .int .i64 a.y, .int .i64 a.z, .int .i64 0])) :: (.arr g30 4 ([.bool false])) :: (.arr gf 41 (fcs g A c last)) :: (.rd A 1 g.cells.length c (ics g.cells)) :: (.rd A2 8 T.length c2 (mts T)) :: (.arr g2 77 ([.iface 39 (.pointer (some ⟨gf, 0, none⟩))])) :: (.arr g5 37 ([.slice A2 T.length c2])) :: (.arr g8 23 (pcs a)) :: (.arr g11 23 (pcs b)) :: (.arr g14 43 ([.int .i64 0, .int .i64 0, .int .i64 0, .int .i64 0, .int .i64 0, .int .i64 0, .int .i64 0])) :: M) := Mem.front 10 hm41 rfl
      clear hm41
      have hm43 : Mem w0 w38 ((.arr g5 37 ([.slice A2 T.length c2])) :: (.arr g27 3 ([.int .i64 0])) :: (.arr g24 43 ([.int .i64 0, .int .i64 0, .int .i64 0, .int .i64 a.x, .int .i64 a.y, .int .i64 a.z, .int .i64 0])) :: (.arr g30 4 ([.bool false])) :: (.arr gf 41 (fcs g A c last)) :: (.rd A 1 g.cells.length c (ics g.cells)) :: (.rd A2 8 T.length c2 (mts T)) :: (.arr g2 77 ([.iface 39 (.pointer (some ⟨gf, 0, none⟩))])) :: (.arr g8 23 (pcs a)) :: (.arr g11 23 (pcs b)) :: (.arr g14 43 ([.int .i64 0, .int .i64 0, .int .i64 0, .int .i64 0, .int .i64 0, .int .i64 0, .int .i64 0])) :: M) := Mem.front 7 hm42 rfl
      clear hm42
      have hm44 : Mem w0 w38 ((.arr g2 77 ([.iface 39 (.pointer (some ⟨gf, 0, none⟩))])) :: (.arr g5 37 ([.slice A2 T.length c2])) :: (.arr g27 3 ([.int .i64 0])) :: (.arr g24 43 ([.int .i64 0, .int .i64 0, .int .i64 0, .int .i64 a.x, .int .i64 a.y, .int .i64 a.z, .int .i64 0])) :: (.arr g30 4 ([.bool false])) :: (.arr gf 41 (fcs g A c last)) :: (.rd A 1 g.cells.length c (ics g.cells)) :: (.rd A2 8 T.length c2 (mts T)) :: (.arr g8 23 (pcs a)) :: (.arr g11 23 (pcs b)) :: (.arr g14 43 ([.int .i64 0, .int .i64 0, .int .i64 0, .int .i64 0, .int .i64 0, .int .i64 0, .int .i64 0])) :: M) := Mem.front 7 hm43 rfl
      clear hm43
      have hm45 : Mem w0 w38 ((.rd A2 8 T.length c2 (mts T)) :: (.arr g2 77 ([.iface 39 (.pointer (some ⟨gf, 0, none⟩))])) :: (.arr g5 37 ([.slice A2 T.length c2])) :: (.arr g27 3 ([.int .i64 0])) :: (.arr g24 43 ([.int .i64 0, .int .i64 0, .int .i64 0, .int .i64 a.x, .int .i64 a.y, .int .i64 a.z, .int .i64 0])) :: (.arr g30 4 ([.bool false])) :: (.arr gf 41 (fcs g A c last)) :: (.rd A 1 g.cells.length c (ics g.cells)) :: (.arr g8 23 (pcs a)) :: (.arr g11 23 (pcs b)) :: (.arr g14 43 ([.int .i64 0, .int .i64 0, .int .i64 0, .int .i64 0, .int .i64 0, .int .i64 0, .int .i64 0])) :: M) := Mem.front 7 hm44 rfl
      clear hm44
      have hm46 : Mem w0 w38 ((.rd A 1 g.cells.length c (ics g.cells)) :: (.rd A2 8 T.length c2 (mts T)) :: (.arr g2 77 ([.iface 39 (.pointer (some ⟨gf, 0, none⟩))])) :: (.arr g5 37 ([.slice A2 T.length c2])) :: (.arr g27 3 ([.int .i64 0])) :: (.arr g24 43 ([.int .i64 0, .int .i64 0, .int .i64 0, .int .i64 a.x, .int .i64 a.y, .int .i64 a.z, .int .i64 0])) :: (.arr g30 4 ([.bool false])) :: (.arr gf 41 (fcs g A c last)) :: (.arr g8 23 (pcs a)) :: (.arr g11 23 (pcs b)) :: (.arr g14 43 ([.int .i64 0, .int .i64 0, .int .i64 0, .int .i64 0, .int .i64 0, .int .i64 0, .int .i64 0])) :: M) := Mem.front 7 hm45 rfl
      clear hm45
      have hm47 : Mem w0 w38 ((.arr gf 41 (fcs g A c last)) :: (.rd A 1 g.cells.length c (ics g.cells)) :: (.rd A2 8 T.length c2 (mts T)) :: (.arr g2 77 ([.iface 39 (.pointer (some ⟨gf, 0, none⟩))])) :: (.arr g5 37 ([.slice A2 T.length c2])) :: (.arr g27 3 ([.int .i64 0])) :: (.arr g24 43 ([.int .i64 0, .int .i64 0, .int .i64 0, .int .i64 a.x, .int .i64 a.y, .int .i64 a.z, .int .i64 0])) :: (.arr g30 4 ([.bool false])) :: (.arr g8 23 (pcs a)) :: (.arr g11 23 (pcs b)) :: (.arr g14 43 ([.int .i64 0, .int .i64 0, .int .i64 0, .int .i64 0, .int .i64 0, .int .i64 0, .int .i64 0])) :: M) := Mem.front 7 hm46 rfl
      clear hm46
      refine plCall (i := 3) 32 [.agg (pcs a).toArray, .agg (pcs b).toArray, .func (.func 41) #[] #[.pointer (some ⟨g2, 0, none⟩), .pointer (some ⟨g5, 0, none⟩), .pointer (some ⟨g27, 0, none⟩), .pointer (some ⟨g24, 0, none⟩), .pointer (some ⟨g30, 0, none⟩)]] [] [] rfl (by kernel_rfl) (wn rfl) rfl (litEv (by kernel_rfl)) (litArgs (by kernel_rfl)) (each_fr a b (ckE_ok h22).1 (ckE_ok h22).2.1 41 [] [.pointer (some ⟨g2, 0, none⟩), .pointer (some ⟨g5, 0, none⟩), .pointer (some ⟨g27, 0, none⟩), .pointer (some ⟨g24, 0, none⟩), .pointer (some ⟨g30, 0, none⟩)] (by kernel_rfl) (fun i V => (∃ last, V = fV g A c A2 c2 T gf g2 g5 g27 g24 g30 last (i : Int) (hcs p0 (befOf (walk a b) a i) 0) false) ∧ ∀ q ∈ (walk a b).take i, solidAt g T q = false) (FRp g A c A2 c2 T gf g2 g5 g27 g24 g30 (walk a b) a) (fun i c_ w V M hc hV hm => visFirst_any g hv T A c A2 c2 gf g2 g5 g27 g24 g30 (walk a b) a (hwl0 h22) i c_ V M hc hV hm) (fun V h => FRp_end h) (fV g A c A2 c2 T gf g2 g5 g27 g24 g30 last 0 (hcs p0 a 0) false) ⟨⟨last, rfl⟩, by simp⟩ ((.arr g8 23 (pcs a)) :: (.arr g11 23 (pcs b)) :: (.arr g14 43 ([.int .i64 0, .int .i64 0, .int .i64 0, .int .i64 0, .int .i64 0, .int .i64 0, .int .i64 0])) :: M) hm47) ?_
      rintro e w48 ⟨rfl, V_, hm49, hR_⟩
      clear hm47
      unfold FRp at hR_
      rw [hfs] at hR_
      obtain ⟨last2, hR_⟩ := hR_
      subst hR_
      have hm50 : Mem w0 w48 ((.arr gf 41 (fcs g A c last2)) :: (.rd A 1 g.cells.length c (ics g.cells)) :: (.rd A2 8 T.length c2 (mts T)) :: (.arr g2 77 ([.iface 39 (.pointer (some ⟨gf, 0, none⟩))])) :: (.arr g5 37 ([.slice A2 T.length c2])) :: (.arr g27 3 ([.int .i64 ((walk a b).length : Int)])) :: (.arr g24 43 (hcs p0 (befOf (walk a b) a (walk a b).length) 0)) :: (.arr g30 4 ([.bool false])) :: (.arr g8 23 (pcs a)) :: (.arr g11 23 (pcs b)) :: (.arr g14 43 ([.int .i64 0, .int .i64 0, .int .i64 0, .int .i64 0, .int .i64 0, .int .i64 0, .int .i64 0])) :: M) := hm49
      clear hm49
      refine ⟨_, rfl, ?_⟩
      refine qP rfl ?_
      refine plD ?_
      refine then_normal (hK39 _ _ ?_)
      refine wpPrune [(8, .pointer (some ⟨g14, 0, none⟩)), (9, .int .i64 0), (11, .pointer (some ⟨g24, 0, none⟩)), (13, .pointer (some ⟨g30, 0, none⟩))] ⟨litGet (by kernel_rfl), ⟨litGet (by kernel_rfl), ⟨litGet (by kernel_rfl), ⟨litGet (by kernel_rfl), trivial⟩⟩⟩⟩ (fun X51 => ?_)
      refine wp_seq_k fun K52 hK52 => ?_
      refine wp_seq_k fun K53 hK53 => ?_
      refine plStart ?_
      refine litVal (v := .bool false) rfl (wn rfl) (gLoad (v := .bool false) (k := 0) 7 hm50 rfl (by kernel_rfl) (.tmp 13) (by kernel_rfl) rfl (litEv (by kernel_rfl))) rfl (by decide) ?_
      refine lk (v := .bool true) rfl rfl rfl ?_
      refine plD ?_
      refine then_normal (hK53 _ _ ?_)
      refine wp_cond_true (litEv (by kernel_rfl)) ?_
      refine wp_seq_k fun K54 hK54 => ?_
      refine plStart ?_
      refine lk (v := .agg ([.int .i64 0, .int .i64 0, .int .i64 0, .int .i64 0, .int .i64 0, .int .i64 0, .int .i64 0]).toArray) rfl rfl rfl ?_
      refine plStore 10 Ty.ag_voxel_ray_Hit hm50 rfl (i := 1) (cs := [.int .i64 0, .int .i64 0, .int .i64 0, .int .i64 0, .int .i64 0, .int .i64 0, .int .i64 0]) rfl (wn rfl) rfl (litEv (by kernel_rfl)) (litEv (by kernel_rfl)) rfl rfl (by kernel_rfl) ?_
      intro w56 hm55
      clear hm50
      try simp only [List.cons_append, List.nil_append, List.set_cons_succ, List.set_cons_zero] at hm55
      refine qNone rfl ?_
      refine lk (v := .int .i64 9) rfl rfl rfl ?_
      refine plD ?_
      refine then_normal (hK54 _ _ ?_)
      refine wp_ret ?_
      refine then_ret ?_
      refine bodyPost_ret (v := .tuple #[.agg ([.int .i64 0, .int .i64 0, .int .i64 0, .int .i64 0, .int .i64 0, .int .i64 0, .int .i64 0]).toArray, .int .i64 9]) (gRes2 rfl (gResAg (cs := [.int .i64 0, .int .i64 0, .int .i64 0, .int .i64 0, .int .i64 0, .int .i64 0, .int .i64 0]) 10 hm55 rfl Ty.ag_voxel_ray_Hit rfl (litGet (by kernel_rfl))) (gResTmp (t := 9) (v := .int .i64 9) (litGet (by kernel_rfl)))) rfl ?_
      exact ⟨last2, by rw [firstH_none h22 hfs, firstE_none h22 hfs] <;> rfl, (hm55.sub (.cons_cons _ (.cons_cons _ (.cons_cons _ (.cons _ (.cons _ (.cons _ (.cons _ (.cons _ (.cons _ (.cons _ (.cons _ (List.Sublist.refl _))))))))))))), (fun h_ => absurd ((firstE_none h22 hfs).symm.trans h_) (by decide))⟩
    · refine litVal (v := .agg (pcs a).toArray) rfl (wn rfl) (gLoadAg (vs := pcs a) (k := 0) 5 hm37 rfl (by kernel_rfl) (by kernel_rfl) (.tmp 6) Ty.ag_voxel_api_Point rfl (litEv (by kernel_rfl))) rfl (by decide) ?_
      refine litVal (v := .agg (pcs b).toArray) rfl (wn rfl) (gLoadAg (vs := pcs b) (k := 0) 6 hm37 rfl (by kernel_rfl) (by kernel_rfl) (.tmp 7) Ty.ag_voxel_api_Point rfl (litEv (by kernel_rfl))) rfl (by decide) ?_
      refine lk (v := .func (.func 41) #[] #[.pointer (some ⟨g2, 0, none⟩), .pointer (some ⟨g5, 0, none⟩), .pointer (some ⟨g27, 0, none⟩), .pointer (some ⟨g24, 0, none⟩), .pointer (some ⟨g30, 0, none⟩)]) rfl rfl rfl ?_
      have hm57 : Mem w0 w38 ((.arr g30 4 ([.bool false])) :: (.arr gf 41 (fcs g A c last)) :: (.rd A 1 g.cells.length c (ics g.cells)) :: (.rd A2 8 T.length c2 (mts T)) :: (.arr g2 77 ([.iface 39 (.pointer (some ⟨gf, 0, none⟩))])) :: (.arr g5 37 ([.slice A2 T.length c2])) :: (.arr g8 23 (pcs a)) :: (.arr g11 23 (pcs b)) :: (.arr g14 43 ([.int .i64 0, .int .i64 0, .int .i64 0, .int .i64 0, .int .i64 0, .int .i64 0, .int .i64 0])) :: (.arr g24 43 ([.int .i64 0, .int .i64 0, .int .i64 0, .int .i64 a.x, .int .i64 a.y, .int .i64 a.z, .int .i64 0])) :: (.arr g27 3 ([.int .i64 0])) :: M) := Mem.front 10 hm37 rfl
      clear hm37
      have hm58 : Mem w0 w38 ((.arr g24 43 ([.int .i64 0, .int .i64 0, .int .i64 0, .int .i64 a.x, .int .i64 a.y, .int .i64 a.z, .int .i64 0])) :: (.arr g30 4 ([.bool false])) :: (.arr gf 41 (fcs g A c last)) :: (.rd A 1 g.cells.length c (ics g.cells)) :: (.rd A2 8 T.length c2 (mts T)) :: (.arr g2 77 ([.iface 39 (.pointer (some ⟨gf, 0, none⟩))])) :: (.arr g5 37 ([.slice A2 T.length c2])) :: (.arr g8 23 (pcs a)) :: (.arr g11 23 (pcs b)) :: (.arr g14 43 ([.int .i64 0, .int .i64 0, .int .i64 0, .int .i64 0, .int .i64 0, .int .i64 0, .int .i64 0])) :: (.arr g27 3 ([.int .i64 0])) :: M) := Mem.front 9 hm57 rfl
      clear hm57
      have hm59 : Mem w0 w38 ((.arr g27 3 ([.int .i64 0])) :: (.arr g24 43 ([.int .i64 0, .int .i64 0, .int .i64 0, .int .i64 a.x, .int .i64 a.y, .int .i64 a.z, .int .i64 0])) :: (.arr g30 4 ([.bool false])) :: (.arr gf 41 (fcs g A c last)) :: (.rd A 1 g.cells.length c (ics g.cells)) :: (.rd A2 8 T.length c2 (mts T)) :: (.arr g2 77 ([.iface 39 (.pointer (some ⟨gf, 0, none⟩))])) :: (.arr g5 37 ([.slice A2 T.length c2])) :: (.arr g8 23 (pcs a)) :: (.arr g11 23 (pcs b)) :: (.arr g14 43 ([.int .i64 0, .int .i64 0, .int .i64 0, .int .i64 0, .int .i64 0, .int .i64 0, .int .i64 0])) :: M) := Mem.front 10 hm58 rfl
      clear hm58
      have hm60 : Mem w0 w38 ((.arr g5 37 ([.slice A2 T.length c2])) :: (.arr g27 3 ([.int .i64 0])) :: (.arr g24 43 ([.int .i64 0, .int .i64 0, .int .i64 0, .int .i64 a.x, .int .i64 a.y, .int .i64 a.z, .int .i64 0])) :: (.arr g30 4 ([.bool false])) :: (.arr gf 41 (fcs g A c last)) :: (.rd A 1 g.cells.length c (ics g.cells)) :: (.rd A2 8 T.length c2 (mts T)) :: (.arr g2 77 ([.iface 39 (.pointer (some ⟨gf, 0, none⟩))])) :: (.arr g8 23 (pcs a)) :: (.arr g11 23 (pcs b)) :: (.arr g14 43 ([.int .i64 0, .int .i64 0, .int .i64 0, .int .i64 0, .int .i64 0, .int .i64 0, .int .i64 0])) :: M) := Mem.front 7 hm59 rfl
      clear hm59
      have hm61 : Mem w0 w38 ((.arr g2 77 ([.iface 39 (.pointer (some ⟨gf, 0, none⟩))])) :: (.arr g5 37 ([.slice A2 T.length c2])) :: (.arr g27 3 ([.int .i64 0])) :: (.arr g24 43 ([.int .i64 0, .int .i64 0, .int .i64 0, .int .i64 a.x, .int .i64 a.y, .int .i64 a.z, .int .i64 0])) :: (.arr g30 4 ([.bool false])) :: (.arr gf 41 (fcs g A c last)) :: (.rd A 1 g.cells.length c (ics g.cells)) :: (.rd A2 8 T.length c2 (mts T)) :: (.arr g8 23 (pcs a)) :: (.arr g11 23 (pcs b)) :: (.arr g14 43 ([.int .i64 0, .int .i64 0, .int .i64 0, .int .i64 0, .int .i64 0, .int .i64 0, .int .i64 0])) :: M) := Mem.front 7 hm60 rfl
      clear hm60
      have hm62 : Mem w0 w38 ((.rd A2 8 T.length c2 (mts T)) :: (.arr g2 77 ([.iface 39 (.pointer (some ⟨gf, 0, none⟩))])) :: (.arr g5 37 ([.slice A2 T.length c2])) :: (.arr g27 3 ([.int .i64 0])) :: (.arr g24 43 ([.int .i64 0, .int .i64 0, .int .i64 0, .int .i64 a.x, .int .i64 a.y, .int .i64 a.z, .int .i64 0])) :: (.arr g30 4 ([.bool false])) :: (.arr gf 41 (fcs g A c last)) :: (.rd A 1 g.cells.length c (ics g.cells)) :: (.arr g8 23 (pcs a)) :: (.arr g11 23 (pcs b)) :: (.arr g14 43 ([.int .i64 0, .int .i64 0, .int .i64 0, .int .i64 0, .int .i64 0, .int .i64 0, .int .i64 0])) :: M) := Mem.front 7 hm61 rfl
      clear hm61
      have hm63 : Mem w0 w38 ((.rd A 1 g.cells.length c (ics g.cells)) :: (.rd A2 8 T.length c2 (mts T)) :: (.arr g2 77 ([.iface 39 (.pointer (some ⟨gf, 0, none⟩))])) :: (.arr g5 37 ([.slice A2 T.length c2])) :: (.arr g27 3 ([.int .i64 0])) :: (.arr g24 43 ([.int .i64 0, .int .i64 0, .int .i64 0, .int .i64 a.x, .int .i64 a.y, .int .i64 a.z, .int .i64 0])) :: (.arr g30 4 ([.bool false])) :: (.arr gf 41 (fcs g A c last)) :: (.arr g8 23 (pcs a)) :: (.arr g11 23 (pcs b)) :: (.arr g14 43 ([.int .i64 0, .int .i64 0, .int .i64 0, .int .i64 0, .int .i64 0, .int .i64 0, .int .i64 0])) :: M) := Mem.front 7 hm62 rfl
      clear hm62
      have hm64 : Mem w0 w38 ((.arr gf 41 (fcs g A c last)) :: (.rd A 1 g.cells.length c (ics g.cells)) :: (.rd A2 8 T.length c2 (mts T)) :: (.arr g2 77 ([.iface 39 (.pointer (some ⟨gf, 0, none⟩))])) :: (.arr g5 37 ([.slice A2 T.length c2])) :: (.arr g27 3 ([.int .i64 0])) :: (.arr g24 43 ([.int .i64 0, .int .i64 0, .int .i64 0, .int .i64 a.x, .int .i64 a.y, .int .i64 a.z, .int .i64 0])) :: (.arr g30 4 ([.bool false])) :: (.arr g8 23 (pcs a)) :: (.arr g11 23 (pcs b)) :: (.arr g14 43 ([.int .i64 0, .int .i64 0, .int .i64 0, .int .i64 0, .int .i64 0, .int .i64 0, .int .i64 0])) :: M) := Mem.front 7 hm63 rfl
      clear hm63
      refine plCall (i := 3) 32 [.agg (pcs a).toArray, .agg (pcs b).toArray, .func (.func 41) #[] #[.pointer (some ⟨g2, 0, none⟩), .pointer (some ⟨g5, 0, none⟩), .pointer (some ⟨g27, 0, none⟩), .pointer (some ⟨g24, 0, none⟩), .pointer (some ⟨g30, 0, none⟩)]] [] [] rfl (by kernel_rfl) (wn rfl) rfl (litEv (by kernel_rfl)) (litArgs (by kernel_rfl)) (each_fr a b (ckE_ok h22).1 (ckE_ok h22).2.1 41 [] [.pointer (some ⟨g2, 0, none⟩), .pointer (some ⟨g5, 0, none⟩), .pointer (some ⟨g27, 0, none⟩), .pointer (some ⟨g24, 0, none⟩), .pointer (some ⟨g30, 0, none⟩)] (by kernel_rfl) (fun i V => (∃ last, V = fV g A c A2 c2 T gf g2 g5 g27 g24 g30 last (i : Int) (hcs p0 (befOf (walk a b) a i) 0) false) ∧ ∀ q ∈ (walk a b).take i, solidAt g T q = false) (FRp g A c A2 c2 T gf g2 g5 g27 g24 g30 (walk a b) a) (fun i c_ w V M hc hV hm => visFirst_any g hv T A c A2 c2 gf g2 g5 g27 g24 g30 (walk a b) a (hwl0 h22) i c_ V M hc hV hm) (fun V h => FRp_end h) (fV g A c A2 c2 T gf g2 g5 g27 g24 g30 last 0 (hcs p0 a 0) false) ⟨⟨last, rfl⟩, by simp⟩ ((.arr g8 23 (pcs a)) :: (.arr g11 23 (pcs b)) :: (.arr g14 43 ([.int .i64 0, .int .i64 0, .int .i64 0, .int .i64 0, .int .i64 0, .int .i64 0, .int .i64 0])) :: M) hm64) ?_
      rintro e w65 ⟨rfl, V_, hm66, hR_⟩
      clear hm64
      unfold FRp at hR_
      rw [hfs] at hR_
      replace hR_ : V_ = fV g A c A2 c2 T gf g2 g5 g27 g24 g30 q (k : Int) (hcs q (befOf (walk a b) a k) (k : Int)) true := hR_
      subst hR_
      have hm67 : Mem w0 w65 ((.arr gf 41 (fcs g A c q)) :: (.rd A 1 g.cells.length c (ics g.cells)) :: (.rd A2 8 T.length c2 (mts T)) :: (.arr g2 77 ([.iface 39 (.pointer (some ⟨gf, 0, none⟩))])) :: (.arr g5 37 ([.slice A2 T.length c2])) :: (.arr g27 3 ([.int .i64 (k : Int)])) :: (.arr g24 43 (hcs q (befOf (walk a b) a k) (k : Int))) :: (.arr g30 4 ([.bool true])) :: (.arr g8 23 (pcs a)) :: (.arr g11 23 (pcs b)) :: (.arr g14 43 ([.int .i64 0, .int .i64 0, .int .i64 0, .int .i64 0, .int .i64 0, .int .i64 0, .int .i64 0])) :: M) := hm66
      clear hm66
      refine ⟨_, rfl, ?_⟩
      refine qP rfl ?_
      refine plD ?_
      refine then_normal (hK39 _ _ ?_)
      refine wpPrune [(8, .pointer (some ⟨g14, 0, none⟩)), (9, .int .i64 0), (11, .pointer (some ⟨g24, 0, none⟩)), (13, .pointer (some ⟨g30, 0, none⟩))] ⟨litGet (by kernel_rfl), ⟨litGet (by kernel_rfl), ⟨litGet (by kernel_rfl), ⟨litGet (by kernel_rfl), trivial⟩⟩⟩⟩ (fun X68 => ?_)
      refine wp_seq_k fun K69 hK69 => ?_
      refine wp_seq_k fun K70 hK70 => ?_
      refine plStart ?_
      refine litVal (v := .bool true) rfl (wn rfl) (gLoad (v := .bool true) (k := 0) 7 hm67 rfl (by kernel_rfl) (.tmp 13) (by kernel_rfl) rfl (litEv (by kernel_rfl))) rfl (by decide) ?_
      refine lk (v := .bool false) rfl rfl rfl ?_
      refine plD ?_
      refine then_normal (hK70 _ _ ?_)
      refine wp_cond_false (litEv (by kernel_rfl)) ?_
      refine wp_skip ?_
      refine then_normal (hK69 _ _ ?_)
      refine wp_seq_k fun K71 hK71 => ?_
      refine plStart ?_
      refine litVal (v := .agg (hcs q (befOf (walk a b) a k) (k : Int)).toArray) rfl (wn rfl) (gLoadAg (vs := hcs q (befOf (walk a b) a k) (k : Int)) (k := 0) 6 hm67 rfl (by kernel_rfl) (by kernel_rfl) (.tmp 11) Ty.ag_voxel_ray_Hit rfl (litEv (by kernel_rfl))) rfl (by decide) ?_
      refine plStore 10 Ty.ag_voxel_ray_Hit hm67 rfl (i := 1) (cs := hcs q (befOf (walk a b) a k) (k : Int)) rfl (wn rfl) rfl (litEv (by kernel_rfl)) (litEv (by kernel_rfl)) rfl rfl (by kernel_rfl) ?_
      intro w73 hm72
      clear hm67
      try simp only [List.cons_append, List.nil_append, List.set_cons_succ, List.set_cons_zero] at hm72
      refine qNone rfl ?_
      refine lk (v := .int .i64 0) rfl rfl rfl ?_
      refine plD ?_
      refine then_normal (hK71 _ _ ?_)
      refine wp_ret ?_
      refine bodyPost_ret (v := .tuple #[.agg (hcs q (befOf (walk a b) a k) (k : Int)).toArray, .int .i64 0]) (gRes2 rfl (gResAg (cs := hcs q (befOf (walk a b) a k) (k : Int)) 10 hm72 rfl Ty.ag_voxel_ray_Hit rfl (litGet (by kernel_rfl))) (gResTmp (t := 9) (v := .int .i64 0) (litGet (by kernel_rfl)))) rfl ?_
      exact ⟨q, by rw [firstH_some h22 hfs, firstE_some h22 hfs] <;> rfl, (hm72.sub (.cons_cons _ (.cons_cons _ (.cons_cons _ (.cons _ (.cons _ (.cons _ (.cons _ (.cons _ (.cons _ (.cons _ (.cons _ (List.Sublist.refl _))))))))))))), (fun _ => ⟨k, q, hfs, rfl⟩)⟩
  refine litVal (v := .bool true) rfl (wn rfl) (boolTo (by rw [decide_eq_false h22]; rfl) (neqRun (A := (ckE a b)) (B := 0) (.tmp 17) (.const (.int .i64 0)) rfl (litEv (by kernel_rfl)) (litEv (by kernel_rfl)))) rfl (by decide) ?_
  refine plD ?_
  refine then_normal (hK21 _ _ ?_)
  refine wp_cond_true (litEv (by kernel_rfl)) ?_
  refine wp_seq_k fun K74 hK74 => ?_
  refine plStart ?_
  refine lk (v := .agg ([.int .i64 0, .int .i64 0, .int .i64 0, .int .i64 0, .int .i64 0, .int .i64 0, .int .i64 0]).toArray) rfl rfl rfl ?_
  refine lk (v := .int .i64 (ckE a b)) rfl rfl rfl ?_
  refine plStore 7 Ty.ag_voxel_ray_Hit hm20 rfl (i := 2) (cs := [.int .i64 0, .int .i64 0, .int .i64 0, .int .i64 0, .int .i64 0, .int .i64 0, .int .i64 0]) rfl (wn rfl) rfl (litEv (by kernel_rfl)) (litEv (by kernel_rfl)) rfl rfl (by kernel_rfl) ?_
  intro w76 hm75
  clear hm20
  try simp only [List.cons_append, List.nil_append, List.set_cons_succ, List.set_cons_zero] at hm75
  refine qNone rfl ?_
  refine lk (v := .int .i64 (ckE a b)) rfl rfl rfl ?_
  refine plD ?_
  refine then_normal (hK74 _ _ ?_)
  refine wpPrune [(4, .pointer (some ⟨g2, 0, none⟩)), (5, .pointer (some ⟨g5, 0, none⟩)), (6, .pointer (some ⟨g8, 0, none⟩)), (7, .pointer (some ⟨g11, 0, none⟩)), (8, .pointer (some ⟨g14, 0, none⟩)), (9, .int .i64 (ckE a b))] ⟨litGet (by kernel_rfl), ⟨litGet (by kernel_rfl), ⟨litGet (by kernel_rfl), ⟨litGet (by kernel_rfl), ⟨litGet (by kernel_rfl), ⟨litGet (by kernel_rfl), trivial⟩⟩⟩⟩⟩⟩ (fun X77 => ?_)
  refine wp_ret ?_
  refine then_ret ?_
  refine bodyPost_ret (v := .tuple #[.agg ([.int .i64 0, .int .i64 0, .int .i64 0, .int .i64 0, .int .i64 0, .int .i64 0, .int .i64 0]).toArray, .int .i64 (ckE a b)]) (gRes2 rfl (gResAg (cs := [.int .i64 0, .int .i64 0, .int .i64 0, .int .i64 0, .int .i64 0, .int .i64 0, .int .i64 0]) 7 hm75 rfl Ty.ag_voxel_ray_Hit rfl (litGet (by kernel_rfl))) (gResTmp (t := 9) (v := .int .i64 (ckE a b)) (litGet (by kernel_rfl)))) rfl ?_
  exact ⟨last, by rw [firstH_err h22, firstE_err h22] <;> rfl, (hm75.sub (.cons_cons _ (.cons_cons _ (.cons_cons _ (.cons _ (.cons _ (.cons _ (.cons _ (.cons _ (List.Sublist.refl _)))))))))), (fun h_ => absurd ((firstE_err h22).symm.trans h_) h22)⟩
set_option maxRecDepth 100000 in
set_option maxHeartbeats 4000000 in
theorem visible_any {w0 w : World} {M : List Res} (g : Gr) (hv : g.Valid) (T : List Mat) (A : Option Addr) (c : Nat) (A2 : Option Addr) (c2 : Nat) (gf : Nat) (last a b : Pt) (hm : Mem w0 w (.arr gf 41 (fcs g A c last) :: .rd A 1 g.cells.length c (ics g.cells) :: .rd A2 8 T.length c2 (mts T) :: M)) : Calls Try.prog 18 #[.iface 39 (.pointer (some ⟨gf, 0, none⟩)), .slice A2 T.length c2, .agg (pcs a).toArray, .agg (pcs b).toArray] w (fun e w' => ∃ last2, e = .returned (.tuple #[.bool (visR g T a b), .int .i64 (ckE a b)]) ∧ Mem w0 w' (.arr gf 41 (fcs g A c last2) :: .rd A 1 g.cells.length c (ics g.cells) :: .rd A2 8 T.length c2 (mts T) :: M)) := by
  have hm0 := hm
  go_enter Try.func18, Try.ntmps18
  refine litStart 23 [(0, .iface 39 (.pointer (some ⟨gf, 0, none⟩))), (1, .slice A2 T.length c2), (2, .agg (pcs a).toArray), (3, .agg (pcs b).toArray)] (by kernel_rfl) (fun X0 => ?_)
  refine wp_seq_k fun K1 hK1 => ?_
  refine plStart ?_
  refine plBox1 (v := .iface 39 (.pointer (some ⟨gf, 0, none⟩))) hm0 (i := 0) rfl (wn rfl) rfl (litEv (by kernel_rfl)) rfl ?_
  intro g2 w4 hm3
  clear hm0
  try simp only [List.cons_append, List.nil_append, List.set_cons_succ, List.set_cons_zero] at hm3
  replace hm3 := Mem.insAt (M := ((.arr gf 41 (fcs g A c last)) :: (.rd A 1 g.cells.length c (ics g.cells)) :: (.rd A2 8 T.length c2 (mts T)) :: M)) 3 hm3
  simp only [List.insertIdx_succ_cons, List.insertIdx_zero] at hm3
  refine qP rfl ?_
  refine plBox1 (v := .slice A2 T.length c2) hm3 (i := 1) rfl (wn rfl) rfl (litEv (by kernel_rfl)) rfl ?_
  intro g5 w7 hm6
  clear hm3
  try simp only [List.cons_append, List.nil_append, List.set_cons_succ, List.set_cons_zero] at hm6
  replace hm6 := Mem.insAt (M := ((.arr gf 41 (fcs g A c last)) :: (.rd A 1 g.cells.length c (ics g.cells)) :: (.rd A2 8 T.length c2 (mts T)) :: (.arr g2 77 ([.iface 39 (.pointer (some ⟨gf, 0, none⟩))])) :: M)) 4 hm6
  simp only [List.insertIdx_succ_cons, List.insertIdx_zero] at hm6
  refine qP rfl ?_
  refine plBox hm6 (cs := pcs a) (i := 2) rfl (wn rfl) rfl (litEv (by kernel_rfl)) ?_
  intro g8 w10 hm9
  clear hm6
  try simp only [List.cons_append, List.nil_append, List.set_cons_succ, List.set_cons_zero] at hm9
  replace hm9 := Mem.insAt (M := ((.arr gf 41 (fcs g A c last)) :: (.rd A 1 g.cells.length c (ics g.cells)) :: (.rd A2 8 T.length c2 (mts T)) :: (.arr g2 77 ([.iface 39 (.pointer (some ⟨gf, 0, none⟩))])) :: (.arr g5 37 ([.slice A2 T.length c2])) :: M)) 5 hm9
  simp only [List.insertIdx_succ_cons, List.insertIdx_zero] at hm9
  refine qP rfl ?_
  refine plBox hm9 (cs := pcs b) (i := 3) rfl (wn rfl) rfl (litEv (by kernel_rfl)) ?_
  intro g11 w13 hm12
  clear hm9
  try simp only [List.cons_append, List.nil_append, List.set_cons_succ, List.set_cons_zero] at hm12
  replace hm12 := Mem.insAt (M := ((.arr gf 41 (fcs g A c last)) :: (.rd A 1 g.cells.length c (ics g.cells)) :: (.rd A2 8 T.length c2 (mts T)) :: (.arr g2 77 ([.iface 39 (.pointer (some ⟨gf, 0, none⟩))])) :: (.arr g5 37 ([.slice A2 T.length c2])) :: (.arr g8 23 (pcs a)) :: M)) 6 hm12
  simp only [List.insertIdx_succ_cons, List.insertIdx_zero] at hm12
  refine qP rfl ?_
  refine lk (v := .bool false) rfl rfl rfl ?_
  refine lk (v := .int .i64 0) rfl rfl rfl ?_
  refine plD ?_
  refine then_normal (hK1 _ _ ?_)
  refine wp_seq_k fun K14 hK14 => ?_
  refine wp_seq_k fun K15 hK15 => ?_
  refine plStart ?_
  refine litVal (v := .agg (pcs a).toArray) rfl (wn rfl) (gLoadAg (vs := pcs a) (k := 0) 5 hm12 rfl (by kernel_rfl) (by kernel_rfl) (.tmp 6) Ty.ag_voxel_api_Point rfl (litEv (by kernel_rfl))) rfl (by decide) ?_
  refine litVal (v := .agg (pcs b).toArray) rfl (wn rfl) (gLoadAg (vs := pcs b) (k := 0) 6 hm12 rfl (by kernel_rfl) (by kernel_rfl) (.tmp 7) Ty.ag_voxel_api_Point rfl (litEv (by kernel_rfl))) rfl (by decide) ?_
  refine plCall (i := 2) 31 [.agg (pcs a).toArray, .agg (pcs b).toArray] [] [] rfl (by kernel_rfl) (wn rfl) rfl (litEv (by kernel_rfl)) (litArgs (by kernel_rfl)) (check_any a b _) ?_
  rintro e w16 ⟨rfl, hbz⟩
  have hm17 := hm12.below hbz
  clear hbz hm12
  refine ⟨_, rfl, ?_⟩
  refine qP rfl ?_
  refine lk (v := .int .i64 (ckE a b)) rfl rfl rfl ?_
  refine plD ?_
  refine then_normal (hK15 _ _ ?_)
  refine wp_seq_k fun K18 hK18 => ?_
  refine plStart ?_
  refine lk (v := .int .i64 (ckE a b)) rfl rfl rfl ?_
  by_cases h19 : (ckE a b) = 0
  · refine litVal (v := .bool false) rfl (wn rfl) (boolTo (by rw [decide_eq_true h19]; rfl) (neqRun (A := (ckE a b)) (B := 0) (.tmp 15) (.const (.int .i64 0)) rfl (litEv (by kernel_rfl)) (litEv (by kernel_rfl)))) rfl (by decide) ?_
    refine plD ?_
    refine then_normal (hK18 _ _ ?_)
    refine wp_cond_false (litEv (by kernel_rfl)) ?_
    refine wp_skip ?_
    refine then_normal (hK14 _ _ ?_)
    refine wp_seq_k fun K20 hK20 => ?_
    refine plStart ?_
    refine plAlloc1 (v := .bool false) (by kernel_rfl) hm17 (i := 0) rfl (wn rfl) rfl ?_
    intro g21 w23 hm22
    clear hm17
    try simp only [List.cons_append, List.nil_append, List.set_cons_succ, List.set_cons_zero] at hm22
    replace hm22 := Mem.insAt (M := ((.arr gf 41 (fcs g A c last)) :: (.rd A 1 g.cells.length c (ics g.cells)) :: (.rd A2 8 T.length c2 (mts T)) :: (.arr g2 77 ([.iface 39 (.pointer (some ⟨gf, 0, none⟩))])) :: (.arr g5 37 ([.slice A2 T.length c2])) :: (.arr g8 23 (pcs a)) :: (.arr g11 23 (pcs b)) :: M)) 7 hm22
    simp only [List.insertIdx_succ_cons, List.insertIdx_zero] at hm22
    refine qP rfl ?_
    refine plStore1 (v := .bool true) (k := 0) 7 (by kernel_rfl) hm22 rfl (i := 1) rfl (wn rfl) rfl (litEv (by kernel_rfl)) (litEv (by kernel_rfl)) rfl rfl rfl ?_
    intro w25 hm24
    clear hm22
    try simp only [List.cons_append, List.nil_append, List.set_cons_succ, List.set_cons_zero] at hm24
    refine qNone rfl ?_
    refine plD ?_
    refine then_normal (hK20 _ _ ?_)
    refine wp_seq_k fun K26 hK26 => ?_
    refine plStart ?_
    refine litVal (v := .agg (pcs a).toArray) rfl (wn rfl) (gLoadAg (vs := pcs a) (k := 0) 5 hm24 rfl (by kernel_rfl) (by kernel_rfl) (.tmp 6) Ty.ag_voxel_api_Point rfl (litEv (by kernel_rfl))) rfl (by decide) ?_
    refine litVal (v := .agg (pcs b).toArray) rfl (wn rfl) (gLoadAg (vs := pcs b) (k := 0) 6 hm24 rfl (by kernel_rfl) (by kernel_rfl) (.tmp 7) Ty.ag_voxel_api_Point rfl (litEv (by kernel_rfl))) rfl (by decide) ?_
    refine lk (v := .func (.func 44) #[] #[.pointer (some ⟨g8, 0, none⟩), .pointer (some ⟨g11, 0, none⟩), .pointer (some ⟨g2, 0, none⟩), .pointer (some ⟨g5, 0, none⟩), .pointer (some ⟨g21, 0, none⟩)]) rfl rfl rfl ?_
    have hm27 : Mem w0 w25 ((.arr g21 4 ([.bool true])) :: (.arr gf 41 (fcs g A c last)) :: (.rd A 1 g.cells.length c (ics g.cells)) :: (.rd A2 8 T.length c2 (mts T)) :: (.arr g2 77 ([.iface 39 (.pointer (some ⟨gf, 0, none⟩))])) :: (.arr g5 37 ([.slice A2 T.length c2])) :: (.arr g8 23 (pcs a)) :: (.arr g11 23 (pcs b)) :: M) := Mem.front 7 hm24 rfl
    clear hm24
    have hm28 : Mem w0 w25 ((.arr g11 23 (pcs b)) :: (.arr g21 4 ([.bool true])) :: (.arr gf 41 (fcs g A c last)) :: (.rd A 1 g.cells.length c (ics g.cells)) :: (.rd A2 8 T.length c2 (mts T)) :: (.arr g2 77 ([.iface 39 (.pointer (some ⟨gf, 0, none⟩))])) :: (.arr g5 37 ([.slice A2 T.length c2])) :: (.arr g8 23 (pcs a)) :: M) := Mem.front 7 hm27 rfl
    clear hm27
    have hm29 : Mem w0 w25 ((.arr g8 23 (pcs a)) :: (.arr g11 23 (pcs b)) :: (.arr g21 4 ([.bool true])) :: (.arr gf 41 (fcs g A c last)) :: (.rd A 1 g.cells.length c (ics g.cells)) :: (.rd A2 8 T.length c2 (mts T)) :: (.arr g2 77 ([.iface 39 (.pointer (some ⟨gf, 0, none⟩))])) :: (.arr g5 37 ([.slice A2 T.length c2])) :: M) := Mem.front 7 hm28 rfl
    clear hm28
    have hm30 : Mem w0 w25 ((.arr g5 37 ([.slice A2 T.length c2])) :: (.arr g8 23 (pcs a)) :: (.arr g11 23 (pcs b)) :: (.arr g21 4 ([.bool true])) :: (.arr gf 41 (fcs g A c last)) :: (.rd A 1 g.cells.length c (ics g.cells)) :: (.rd A2 8 T.length c2 (mts T)) :: (.arr g2 77 ([.iface 39 (.pointer (some ⟨gf, 0, none⟩))])) :: M) := Mem.front 7 hm29 rfl
    clear hm29
    have hm31 : Mem w0 w25 ((.arr g2 77 ([.iface 39 (.pointer (some ⟨gf, 0, none⟩))])) :: (.arr g5 37 ([.slice A2 T.length c2])) :: (.arr g8 23 (pcs a)) :: (.arr g11 23 (pcs b)) :: (.arr g21 4 ([.bool true])) :: (.arr gf 41 (fcs g A c last)) :: (.rd A 1 g.cells.length c (ics g.cells)) :: (.rd A2 8 T.length c2 (mts T)) :: M) := Mem.front 7 hm30 rfl
    clear hm30
    have hm32 : Mem w0 w25 ((.rd A2 8 T.length c2 (mts T)) :: (.arr g2 77 ([.iface 39 (.pointer (some ⟨gf, 0, none⟩))])) :: (.arr g5 37 ([.slice A2 T.length c2])) :: (.arr g8 23 (pcs a)) :: (.arr g11 23 (pcs b)) :: (.arr g21 4 ([.bool true])) :: (.arr gf 41 (fcs g A c last)) :: (.rd A 1 g.cells.length c (ics g.cells)) :: M) := Mem.front 7 hm31 rfl
    clear hm31
    have hm33 : Mem w0 w25 ((.rd A 1 g.cells.length c (ics g.cells)) :: (.rd A2 8 T.length c2 (mts T)) :: (.arr g2 77 ([.iface 39 (.pointer (some ⟨gf, 0, none⟩))])) :: (.arr g5 37 ([.slice A2 T.length c2])) :: (.arr g8 23 (pcs a)) :: (.arr g11 23 (pcs b)) :: (.arr g21 4 ([.bool true])) :: (.arr gf 41 (fcs g A c last)) :: M) := Mem.front 7 hm32 rfl
    clear hm32
    have hm34 : Mem w0 w25 ((.arr gf 41 (fcs g A c last)) :: (.rd A 1 g.cells.length c (ics g.cells)) :: (.rd A2 8 T.length c2 (mts T)) :: (.arr g2 77 ([.iface 39 (.pointer (some ⟨gf, 0, none⟩))])) :: (.arr g5 37 ([.slice A2 T.length c2])) :: (.arr g8 23 (pcs a)) :: (.arr g11 23 (pcs b)) :: (.arr g21 4 ([.bool true])) :: M) := Mem.front 7 hm33 rfl
    clear hm33
    refine plCall (i := 3) 32 [.agg (pcs a).toArray, .agg (pcs b).toArray, .func (.func 44) #[] #[.pointer (some ⟨g8, 0, none⟩), .pointer (some ⟨g11, 0, none⟩), .pointer (some ⟨g2, 0, none⟩), .pointer (some ⟨g5, 0, none⟩), .pointer (some ⟨g21, 0, none⟩)]] [] [] rfl (by kernel_rfl) (wn rfl) rfl (litEv (by kernel_rfl)) (litArgs (by kernel_rfl)) (each_fr a b (ckE_ok h19).1 (ckE_ok h19).2.1 44 [] [.pointer (some ⟨g8, 0, none⟩), .pointer (some ⟨g11, 0, none⟩), .pointer (some ⟨g2, 0, none⟩), .pointer (some ⟨g5, 0, none⟩), .pointer (some ⟨g21, 0, none⟩)] (by kernel_rfl) (fun i V => (∃ last, V = vV g A c A2 c2 T gf g2 g5 g8 g11 g21 a b last true) ∧ ∀ q ∈ (walk a b).take i, visB g T a b q = true) (fun V => ∃ last, V = vV g A c A2 c2 T gf g2 g5 g8 g11 g21 a b last ((walk a b).all (visB g T a b))) (fun i c_ w V M hc hV hm => visVis_any g hv T A c A2 c2 gf g2 g5 g8 g11 g21 (walk a b) a b i c_ V M hc hV hm) (fun V h => visAll_end h) (vV g A c A2 c2 T gf g2 g5 g8 g11 g21 a b last true) ⟨⟨last, rfl⟩, by simp⟩ (M) hm34) ?_
    rintro e w35 ⟨rfl, V_, hm36, last2, rfl⟩
    clear hm34
    have hm37 : Mem w0 w35 ((.arr gf 41 (fcs g A c last2)) :: (.rd A 1 g.cells.length c (ics g.cells)) :: (.rd A2 8 T.length c2 (mts T)) :: (.arr g2 77 ([.iface 39 (.pointer (some ⟨gf, 0, none⟩))])) :: (.arr g5 37 ([.slice A2 T.length c2])) :: (.arr g8 23 (pcs a)) :: (.arr g11 23 (pcs b)) :: (.arr g21 4 ([.bool ((walk a b).all (visB g T a b))])) :: M) := hm36
    clear hm36
    refine ⟨_, rfl, ?_⟩
    refine qP rfl ?_
    refine plD ?_
    refine then_normal (hK26 _ _ ?_)
    refine wpPrune [(8, .bool false), (9, .int .i64 0), (11, .pointer (some ⟨g21, 0, none⟩))] ⟨litGet (by kernel_rfl), ⟨litGet (by kernel_rfl), ⟨litGet (by kernel_rfl), trivial⟩⟩⟩ (fun X38 => ?_)
    refine wp_seq_k fun K39 hK39 => ?_
    refine plStart ?_
    rcases bool_or (((walk a b).all (visB g T a b))) with h40 | h40
    · refine litVal (v := .bool false) rfl (wn rfl) (boolTo h40 (gLoad (v := .bool ((walk a b).all (visB g T a b))) (k := 0) 7 hm37 rfl (by kernel_rfl) (.tmp 11) (by kernel_rfl) rfl (litEv (by kernel_rfl)))) rfl (by decide) ?_
      refine lk (v := .bool false) rfl rfl rfl ?_
      refine lk (v := .int .i64 0) rfl rfl rfl ?_
      refine plD ?_
      refine then_normal (hK39 _ _ ?_)
      refine wp_ret ?_
      refine bodyPost_ret (v := .tuple #[.bool false, .int .i64 0]) (gRes2 rfl (gResTmp (t := 8) (v := .bool false) (litGet (by kernel_rfl))) (gResTmp (t := 9) (v := .int .i64 0) (litGet (by kernel_rfl)))) rfl ?_
      exact ⟨last2, by unfold visR; rw [if_pos h19, h40, h19], (hm37.sub (.cons_cons _ (.cons_cons _ (.cons_cons _ (.cons _ (.cons _ (.cons _ (.cons _ (.cons _ (List.Sublist.refl _))))))))))⟩
    refine litVal (v := .bool true) rfl (wn rfl) (boolTo h40 (gLoad (v := .bool ((walk a b).all (visB g T a b))) (k := 0) 7 hm37 rfl (by kernel_rfl) (.tmp 11) (by kernel_rfl) rfl (litEv (by kernel_rfl)))) rfl (by decide) ?_
    refine lk (v := .bool true) rfl rfl rfl ?_
    refine lk (v := .int .i64 0) rfl rfl rfl ?_
    refine plD ?_
    refine then_normal (hK39 _ _ ?_)
    refine wp_ret ?_
    refine bodyPost_ret (v := .tuple #[.bool true, .int .i64 0]) (gRes2 rfl (gResTmp (t := 8) (v := .bool true) (litGet (by kernel_rfl))) (gResTmp (t := 9) (v := .int .i64 0) (litGet (by kernel_rfl)))) rfl ?_
    exact ⟨last2, by unfold visR; rw [if_pos h19, h40, h19], (hm37.sub (.cons_cons _ (.cons_cons _ (.cons_cons _ (.cons _ (.cons _ (.cons _ (.cons _ (.cons _ (List.Sublist.refl _))))))))))⟩
  refine litVal (v := .bool true) rfl (wn rfl) (boolTo (by rw [decide_eq_false h19]; rfl) (neqRun (A := (ckE a b)) (B := 0) (.tmp 15) (.const (.int .i64 0)) rfl (litEv (by kernel_rfl)) (litEv (by kernel_rfl)))) rfl (by decide) ?_
  refine plD ?_
  refine then_normal (hK18 _ _ ?_)
  refine wp_cond_true (litEv (by kernel_rfl)) ?_
  refine wp_seq_k fun K41 hK41 => ?_
  refine plStart ?_
  refine lk (v := .int .i64 (ckE a b)) rfl rfl rfl ?_
  refine lk (v := .bool false) rfl rfl rfl ?_
  refine lk (v := .int .i64 (ckE a b)) rfl rfl rfl ?_
  refine plD ?_
  refine then_normal (hK41 _ _ ?_)
  refine wpPrune [(4, .pointer (some ⟨g2, 0, none⟩)), (5, .pointer (some ⟨g5, 0, none⟩)), (6, .pointer (some ⟨g8, 0, none⟩)), (7, .pointer (some ⟨g11, 0, none⟩)), (8, .bool false), (9, .int .i64 (ckE a b))] ⟨litGet (by kernel_rfl), ⟨litGet (by kernel_rfl), ⟨litGet (by kernel_rfl), ⟨litGet (by kernel_rfl), ⟨litGet (by kernel_rfl), ⟨litGet (by kernel_rfl), trivial⟩⟩⟩⟩⟩⟩ (fun X42 => ?_)
  refine wp_ret ?_
  refine then_ret ?_
  refine bodyPost_ret (v := .tuple #[.bool false, .int .i64 (ckE a b)]) (gRes2 rfl (gResTmp (t := 8) (v := .bool false) (litGet (by kernel_rfl))) (gResTmp (t := 9) (v := .int .i64 (ckE a b)) (litGet (by kernel_rfl)))) rfl ?_
  exact ⟨last, by unfold visR; rw [if_neg h19], (hm17.sub (.cons_cons _ (.cons_cons _ (.cons_cons _ (.cons _ (.cons _ (.cons _ (.cons _ (List.Sublist.refl _)))))))))⟩
end Go.Proofs.Ytopdcdjmiepdfaa
namespace Go.Proofs.Ytopdcdjmiepdfaa
open Go.RowKit
set_option linter.unusedVariables false
set_option linter.unusedSimpArgs false
def T0m : List Mat := [⟨[97, 105, 114], false, false, false, 1, 0, 0, 0⟩, ⟨[115, 116, 111, 110, 101], true, false, false, 16, 0, 0, 0⟩, ⟨[103, 108, 97, 115, 115], true, false, false, 1, 0, 0, 0⟩, ⟨[108, 97, 109, 112], true, false, false, 16, 15, 14, 10⟩, ⟨[115, 97, 110, 100], true, false, true, 16, 0, 0, 0⟩, ⟨[119, 97, 116, 101, 114], false, true, false, 3, 0, 0, 0⟩, ⟨[108, 101, 97, 118, 101, 115], true, false, false, 2, 0, 0, 0⟩, ⟨[101, 109, 98, 101, 114], true, false, false, 16, 9, 3, 0⟩, ⟨[102, 111, 103], false, false, false, 2, 0, 0, 0⟩]
theorem kc1 : ckE ⟨0, 0, 0⟩ ⟨3, 1, 0⟩ = 0 := by decide +kernel
theorem kw1 : walkR ⟨0, 0, 0⟩ ⟨3, 1, 0⟩ = [⟨0, 0, 0⟩, ⟨1, 0, 0⟩, ⟨2, 1, 0⟩, ⟨3, 1, 0⟩] := by decide +kernel
theorem kc2 : ckE ⟨0, 0, 0⟩ ⟨2, 1, 0⟩ = 0 := by decide +kernel
theorem kw2 : walkR ⟨0, 0, 0⟩ ⟨2, 1, 0⟩ = [⟨0, 0, 0⟩, ⟨1, 0, 0⟩, ⟨1, 1, 0⟩, ⟨2, 1, 0⟩] := by decide +kernel
theorem kc3 : ckE ⟨0, 0, 0⟩ ⟨2, 2, 2⟩ = 0 := by decide +kernel
theorem kw3 : walkR ⟨0, 0, 0⟩ ⟨2, 2, 2⟩ = [⟨0, 0, 0⟩, ⟨1, 1, 1⟩, ⟨2, 2, 2⟩] := by decide +kernel
theorem kc4 : ckE ⟨5, 5, 5⟩ ⟨5, 5, 5⟩ = 0 := by decide +kernel
theorem kw4 : walkR ⟨5, 5, 5⟩ ⟨5, 5, 5⟩ = [⟨5, 5, 5⟩] := by decide +kernel
theorem kc5 : ckE ⟨0, 0, 0⟩ ⟨65536, 1, 0⟩ = 2 := by decide +kernel
theorem kw5 : walkR ⟨0, 0, 0⟩ ⟨65536, 1, 0⟩ = [] := by decide +kernel
def G0 : Gr := ⟨⟨⟨2, 1, 0⟩, ⟨3, 2, 1⟩⟩, [1]⟩
theorem G0v : G0.Valid := by decide +kernel
theorem kf1s : firstSol (solidAt G0 T0m) (walk ⟨0, 0, 0⟩ ⟨3, 1, 0⟩) 0 = some (2, ⟨2, 1, 0⟩) := by decide +kernel
theorem kf2s : firstSol (solidAt G0 T0m) (walk ⟨0, 0, 0⟩ ⟨1, 0, 0⟩) 0 = .none := by decide +kernel
theorem kc6 : ckE ⟨0, 0, 0⟩ ⟨1, 0, 0⟩ = 0 := by decide +kernel
theorem kf1b : befOf (walk ⟨0, 0, 0⟩ ⟨3, 1, 0⟩) ⟨0, 0, 0⟩ 2 = ⟨1, 0, 0⟩ := by decide +kernel
theorem kf1h : firstH G0 T0m ⟨0, 0, 0⟩ ⟨3, 1, 0⟩ = hcs ⟨2, 1, 0⟩ ⟨1, 0, 0⟩ 2 := by rw [firstH_some kc1 kf1s, kf1b]; rfl
theorem kf1e : firstE G0 T0m ⟨0, 0, 0⟩ ⟨3, 1, 0⟩ = 0 := firstE_some kc1 kf1s
theorem kf2h : firstH G0 T0m ⟨0, 0, 0⟩ ⟨1, 0, 0⟩ = hcs p0 p0 0 := firstH_none kc6 kf2s
theorem kf2e : firstE G0 T0m ⟨0, 0, 0⟩ ⟨1, 0, 0⟩ = 9 := firstE_none kc6 kf2s
theorem kv1 : visR G0 T0m ⟨0, 0, 0⟩ ⟨2, 1, 0⟩ = true := by decide +kernel
theorem kv2 : visR G0 T0m ⟨0, 0, 0⟩ ⟨3, 1, 0⟩ = false := by decide +kernel
theorem kx1 : (decide ((⟨0, 0, 0⟩ : Pt).rng ∧ (⟨2, 2, 2⟩ : Pt).rng ∧ (⟨1, 0, 0⟩ : Pt).rng) && crossR ⟨0, 0, 0⟩ ⟨2, 2, 2⟩ ⟨1, 0, 0⟩) = false := by decide +kernel
theorem kx2 : (decide ((⟨0, 0, 0⟩ : Pt).rng ∧ (⟨3, 1, 0⟩ : Pt).rng ∧ (⟨2, 1, 0⟩ : Pt).rng) && crossR ⟨0, 0, 0⟩ ⟨3, 1, 0⟩ ⟨2, 1, 0⟩) = true := by decide +kernel
set_option maxRecDepth 100000 in
set_option maxHeartbeats 4000000 in
theorem same_any (l m : List Pt) (A B : Option Addr) (c d : Nat) (w : World) (hA : Rd w w.heap.size 3 A l.length c (ptsC l)) (hB : Rd w w.heap.size 3 B m.length d (ptsC m)) : Calls Try.prog 12 #[.slice A l.length c, .slice B m.length d] w (RetV w (.bool (decide (l = m)))) := by
  have hcap := hA.cap
  have hle := hA.le
  unfold maxLen at hcap
  have hm0 := Mem.nil w
  go_enter Try.func12, Try.ntmps12
  refine litStart 26 [(0, .slice A l.length c), (1, .slice B m.length d)] (by kernel_rfl) (fun X0 => ?_)
  refine wp_seq_k fun K1 hK1 => ?_
  refine plStart ?_
  refine lk (v := .bool false) rfl rfl rfl ?_
  refine plD ?_
  refine then_normal (hK1 _ _ ?_)
  refine wp_seq_k fun K2 hK2 => ?_
  refine wp_seq_k fun K3 hK3 => ?_
  refine plStart ?_
  refine lk (v := .slice A l.length c) rfl rfl rfl ?_
  refine litVal (v := .int .i64 (l.length : Int)) rfl (wn rfl) (lenSlRun (A := A) (n := l.length) (c := c) (.tmp 6) Ty.und_L_api_Point rfl (litEv (by kernel_rfl))) rfl (by decide) ?_
  refine lk (v := .slice B m.length d) rfl rfl rfl ?_
  refine litVal (v := .int .i64 (m.length : Int)) rfl (wn rfl) (lenSlRun (A := B) (n := m.length) (c := d) (.tmp 8) Ty.und_L_api_Point rfl (litEv (by kernel_rfl))) rfl (by decide) ?_
  by_cases h4 : (l.length : Int) = (m.length : Int)
  · refine litVal (v := .bool false) rfl (wn rfl) (boolTo (by rw [decide_eq_true h4]; rfl) (neqRun (A := (l.length : Int)) (B := (m.length : Int)) (.tmp 7) (.tmp 9) rfl (litEv (by kernel_rfl)) (litEv (by kernel_rfl)))) rfl (by decide) ?_
    refine plD ?_
    refine then_normal (hK3 _ _ ?_)
    refine wp_cond_false (litEv (by kernel_rfl)) ?_
    refine wp_skip ?_
    refine then_normal (hK2 _ _ ?_)
    refine wp_seq_k fun K5 hK5 => ?_
    refine wp_seq_k fun K6 hK6 => ?_
    refine plStart ?_
    refine lk (v := .int .i64 0) rfl rfl rfl ?_
    refine plD ?_
    refine then_normal (hK6 _ _ ?_)
    refine wp_block ?_
    refine gwLoop (fun n_ a_ w_ => ∃ (k : Nat), n_ = l.length - k ∧ (k ≤ l.length) ∧ (l.take k = m.take k) ∧ Fr a_ 26 [(0, .slice A l.length c), (1, .slice B m.length d), (5, .int .i64 (k : Int))] ∧ Mem w w_ []) (l.length - 0) ⟨0, rfl, (Nat.zero_le _), rfl, ⟨litSize, rfl, ⟨litGet (by kernel_rfl), ⟨litGet (by kernel_rfl), ⟨litGet (by kernel_rfl), trivial⟩⟩⟩⟩, hm0⟩ ?_
    clear hm0
    intro n_ a9 w7 hI_
    obtain ⟨k, rfl, hk_, hk2_, hF_, hm8⟩ := hI_
    obtain ⟨X10, rfl⟩ := frLit hF_
    clear hF_
    refine wp_seq_k fun K11 hK11 => ?_
    refine wp_seq_k fun K12 hK12 => ?_
    refine plStart ?_
    refine lk (v := .int .i64 (k : Int)) rfl rfl rfl ?_
    refine lk (v := .slice A l.length c) rfl rfl rfl ?_
    refine litVal (v := .int .i64 (l.length : Int)) rfl (wn rfl) (lenSlRun (A := A) (n := l.length) (c := c) (.tmp 12) Ty.und_L_api_Point rfl (litEv (by kernel_rfl))) rfl (by decide) ?_
    by_cases h13 : (k : Int) < (l.length : Int)
    · have hkl_ : k < l.length := by omega
      have hkm_ : k < m.length := by omega
      obtain ⟨p, hp⟩ : ∃ p, l[k]? = some p := ⟨_, List.getElem?_eq_getElem hkl_⟩
      obtain ⟨q, hq⟩ : ∃ q, m[k]? = some q := ⟨_, List.getElem?_eq_getElem hkm_⟩
      obtain ⟨b1_, off1_, rfl, _, _⟩ := hA.cells (by omega)
      obtain ⟨b2_, off2_, rfl, _, _⟩ := hB.cells (by omega)
      refine litVal (v := .bool true) rfl (wn rfl) (boolTo (decide_eq_true h13) (lssRun (A := (k : Int)) (B := (l.length : Int)) (.tmp 11) (.tmp 13) rfl (litEv (by kernel_rfl)) (litEv (by kernel_rfl)))) rfl (by decide) ?_
      refine plD ?_
      refine then_normal (hK12 _ _ ?_)
      refine wp_cond_true (litEv (by kernel_rfl)) ?_
      refine wp_skip ?_
      refine then_normal (hK11 _ _ ?_)
      refine wp_seq_k fun K14 hK14 => ?_
      refine wp_block ?_
      refine wp_seq_k fun K15 hK15 => ?_
      refine mgStart hm8 (by kernel_rfl) ?_
      intro w17 hm16
      clear hm8
      refine mk_ (i := 0) (v := .slice (some ⟨b1_, off1_, none⟩) l.length c) rfl rfl (fun _ _ _ h => h) hm16 rfl ?_
      refine mk_ (i := 1) (v := .int .i64 (k : Int)) rfl rfl (fun _ _ _ h => h) hm16 rfl ?_
      refine mgTake (i := 2) (v := .pointer (some ⟨b1_, off1_ + k * 3, none⟩)) rfl (by kernel_rfl) (wn rfl) (fun _ _ _ h => h) hm16 (fun w_ h_ => gIaSl (b := b1_) (off := off1_) (n := l.length) (c := c) (kk := .i64) (K := (k : Int)) (.tmp 17) (.tmp 18) k Ty.sl_L_api_Point rfl (litEv (by kernel_rfl)) (litEv (by kernel_rfl)) (rfl) (hkl_)) ?_
      refine mP rfl ?_
      refine mgTake (i := 3) (v := .agg (pcs p).toArray) rfl (by kernel_rfl) (wn rfl) (fun _ _ _ h => h) hm16 (fun w_ h_ => gLoadAgRd (vs := pcs p) (m := k * 3) ((Rd.below hA h_.bel).more h_.bel.size) rfl (ptsC_get hp) (by kernel_rfl) (by omega) (.tmp 19) Ty.ag_voxel_api_Point rfl (litEv (by kernel_rfl))) ?_
      refine mP rfl ?_
      refine mk_ (i := 4) (v := .slice (some ⟨b2_, off2_, none⟩) m.length d) rfl rfl (fun _ _ _ h => h) hm16 rfl ?_
      refine mk_ (i := 5) (v := .int .i64 (k : Int)) rfl rfl (fun _ _ _ h => h) hm16 rfl ?_
      refine mgTake (i := 6) (v := .pointer (some ⟨b2_, off2_ + k * 3, none⟩)) rfl (by kernel_rfl) (wn rfl) (fun _ _ _ h => h) hm16 (fun w_ h_ => gIaSl (b := b2_) (off := off2_) (n := m.length) (c := d) (kk := .i64) (K := (k : Int)) (.tmp 21) (.tmp 22) k Ty.sl_L_api_Point rfl (litEv (by kernel_rfl)) (litEv (by kernel_rfl)) (rfl) (hkm_)) ?_
      refine mP rfl ?_
      refine mgTake (i := 7) (v := .agg (pcs q).toArray) rfl (by kernel_rfl) (wn rfl) (fun _ _ _ h => h) hm16 (fun w_ h_ => gLoadAgRd (vs := pcs q) (m := k * 3) ((Rd.below hB h_.bel).more h_.bel.size) rfl (ptsC_get hq) (by kernel_rfl) (by omega) (.tmp 23) Ty.ag_voxel_api_Point rfl (litEv (by kernel_rfl))) ?_
      refine mP rfl ?_
      by_cases h18 : p = q
      · refine mgTake (i := 8) (v := .bool false) rfl (by kernel_rfl) (wn rfl) (fun _ _ _ h => h) hm16 (fun w_ h_ => boolTo (by rw [decide_eq_true h18]; rfl) (neqPtRun (.tmp 20) (.tmp 24) p q (by kernel_rfl) (by kernel_rfl) (by kernel_rfl) (by kernel_rfl) rfl (litEv (by kernel_rfl)) (litEv (by kernel_rfl)))) ?_
        refine mP rfl ?_
        refine mgDone (by kernel_rfl) ?_
        refine then_normal (hK15 _ _ ?_)
        refine wp_cond_false (litEv (by kernel_rfl)) ?_
        refine wp_skip ?_
        refine inBlock_normal ?_
        refine then_normal (hK14 _ _ ?_)
        refine plStart ?_
        refine lk (v := .int .i64 (k : Int)) rfl rfl rfl ?_
        refine litVal (v := .int .i64 ((k : Int) + 1)) rfl (wn rfl) (addRun (A := (k : Int)) (B := 1) (C := (k : Int) + 1) (.tmp 15) (.const (.int .i64 1)) rfl (litEv (by kernel_rfl)) (litEv (by kernel_rfl)) rfl (by omega)) rfl (by decide) ?_
        refine lk (v := .int .i64 ((k : Int) + 1)) rfl rfl rfl ?_
        refine plD ?_
        refine then_normal ?_
        exact ⟨_, by omega, (k + 1), rfl, (by omega), (by rw [List.take_add_one, List.take_add_one, hk2_, hp, hq, h18]), ⟨litSize, rfl, ⟨litGet (by kernel_rfl), ⟨litGet (by kernel_rfl), ⟨litGet (by kernel_rfl), trivial⟩⟩⟩⟩, (hm16.sub (List.nil_sublist _))⟩
      refine mgTake (i := 8) (v := .bool true) rfl (by kernel_rfl) (wn rfl) (fun _ _ _ h => h) hm16 (fun w_ h_ => boolTo (by rw [decide_eq_false h18]; rfl) (neqPtRun (.tmp 20) (.tmp 24) p q (by kernel_rfl) (by kernel_rfl) (by kernel_rfl) (by kernel_rfl) rfl (litEv (by kernel_rfl)) (litEv (by kernel_rfl)))) ?_
      refine mP rfl ?_
      refine mgDone (by kernel_rfl) ?_
      refine then_normal (hK15 _ _ ?_)
      refine wp_cond_true (litEv (by kernel_rfl)) ?_
      refine wp_seq_k fun K19 hK19 => ?_
      refine plStart ?_
      refine lk (v := .bool false) rfl rfl rfl ?_
      refine plD ?_
      refine then_normal (hK19 _ _ ?_)
      refine wp_ret ?_
      refine inBlock_ret ?_
      refine then_ret ?_
      refine then_ret ?_
      refine inBlock_ret ?_
      refine then_ret ?_
      refine bodyPost_ret (v := .bool false) (gRes1 rfl (gResTmp (t := 4) (v := .bool false) (litGet (by kernel_rfl)))) rfl ?_
      exact ⟨congrArg (fun b_ => Ending.returned (.bool b_)) (decide_eq_false (fun e_ => h18 (by subst e_; exact Option.some.inj (hp.symm.trans hq)))).symm, hm16.bel⟩
    refine litVal (v := .bool false) rfl (wn rfl) (boolTo (decide_eq_false h13) (lssRun (A := (k : Int)) (B := (l.length : Int)) (.tmp 11) (.tmp 13) rfl (litEv (by kernel_rfl)) (litEv (by kernel_rfl)))) rfl (by decide) ?_
    refine plD ?_
    refine then_normal (hK12 _ _ ?_)
    refine wp_cond_false (litEv (by kernel_rfl)) ?_
    refine wp_exit ?_
    refine then_exit ?_
    refine then_exit ?_
    refine inBlock_exit ?_
    refine then_normal (hK5 _ _ ?_)
    refine wp_seq_k fun K20 hK20 => ?_
    refine plStart ?_
    refine lk (v := .bool true) rfl rfl rfl ?_
    refine plD ?_
    refine then_normal (hK20 _ _ ?_)
    refine wp_ret ?_
    refine bodyPost_ret (v := .bool true) (gRes1 rfl (gResTmp (t := 4) (v := .bool true) (litGet (by kernel_rfl)))) rfl ?_
    exact ⟨congrArg (fun b_ => Ending.returned (.bool b_)) (decide_eq_true (by rw [List.take_of_length_le (by omega), List.take_of_length_le (by omega)] at hk2_; exact hk2_)).symm, hm8.bel⟩
  refine litVal (v := .bool true) rfl (wn rfl) (boolTo (by rw [decide_eq_false h4]; rfl) (neqRun (A := (l.length : Int)) (B := (m.length : Int)) (.tmp 7) (.tmp 9) rfl (litEv (by kernel_rfl)) (litEv (by kernel_rfl)))) rfl (by decide) ?_
  refine plD ?_
  refine then_normal (hK3 _ _ ?_)
  refine wp_cond_true (litEv (by kernel_rfl)) ?_
  refine wp_seq_k fun K21 hK21 => ?_
  refine plStart ?_
  refine lk (v := .bool false) rfl rfl rfl ?_
  refine plD ?_
  refine then_normal (hK21 _ _ ?_)
  refine wp_ret ?_
  refine then_ret ?_
  refine bodyPost_ret (v := .bool false) (gRes1 rfl (gResTmp (t := 4) (v := .bool false) (litGet (by kernel_rfl)))) rfl ?_
  exact ⟨congrArg (fun b_ => Ending.returned (.bool b_)) (decide_eq_false (fun e_ => h4 (by rw [e_]))).symm, hm0.bel⟩
set_option maxRecDepth 100000 in
set_option maxHeartbeats 4000000 in
theorem air_any (w : World) : Calls Try.prog 47 #[] w (RetV w (.agg (mcs ⟨[97, 105, 114], false, false, false, 1, 0, 0, 0⟩).toArray)) := by
  have hm0 := Mem.nil w
  go_enter Try.func47, Try.ntmps47
  refine litStart 2 [] (by kernel_rfl) (fun X0 => ?_)
  refine wp_seq_k fun K1 hK1 => ?_
  refine plStart ?_
  refine plAlloc (z := [.string ⟨([]).toArray⟩, .bool false, .bool false, .bool false, .int .i64 0, .int .i64 0, .int .i64 0, .int .i64 0]) Ty.ag_voxel_api_Material hm0 (i := 0) rfl (wn rfl) rfl ?_
  intro g2 w4 hm3
  clear hm0
  try simp only [List.cons_append, List.nil_append, List.set_cons_succ, List.set_cons_zero] at hm3
  refine qP rfl ?_
  refine plD ?_
  refine then_normal (hK1 _ _ ?_)
  refine wp_seq_k fun K5 hK5 => ?_
  refine plStart ?_
  refine lk (v := .agg ([.string ⟨([97, 105, 114]).toArray⟩, .bool false, .bool false, .bool false, .int .i64 1, .int .i64 0, .int .i64 0, .int .i64 0]).toArray) rfl rfl rfl ?_
  refine plStore 0 Ty.ag_voxel_api_Material hm3 rfl (i := 1) (cs := [.string ⟨([97, 105, 114]).toArray⟩, .bool false, .bool false, .bool false, .int .i64 1, .int .i64 0, .int .i64 0, .int .i64 0]) rfl (wn rfl) rfl (litEv (by kernel_rfl)) (litEv (by kernel_rfl)) rfl rfl (by kernel_rfl) ?_
  intro w7 hm6
  clear hm3
  try simp only [List.cons_append, List.nil_append, List.set_cons_succ, List.set_cons_zero] at hm6
  refine qNone rfl ?_
  refine plD ?_
  refine then_normal (hK5 _ _ ?_)
  refine wp_ret ?_
  refine bodyPost_ret (v := .agg ([.string ⟨([97, 105, 114]).toArray⟩, .bool false, .bool false, .bool false, .int .i64 1, .int .i64 0, .int .i64 0, .int .i64 0]).toArray) (gRes1 rfl (gResAg (cs := [.string ⟨([97, 105, 114]).toArray⟩, .bool false, .bool false, .bool false, .int .i64 1, .int .i64 0, .int .i64 0, .int .i64 0]) 0 hm6 rfl Ty.ag_voxel_api_Material rfl (litGet (by kernel_rfl)))) rfl ?_
  exact ⟨by rfl, hm6.bel⟩
set_option maxRecDepth 100000 in
set_option maxHeartbeats 4000000 in
theorem default_any (w : World) : Calls Try.prog 29 #[] w (fun e w' => ∃ v, e = .returned v ∧ w'.ownsRow w.heap.size 83 8 v 9 (mts T0m) ∧ Below w.heap.size w w') := by
  have hm0 := Mem.nil w
  go_enter Try.func29, Try.ntmps29
  refine litStart 13 [] (by kernel_rfl) (fun X0 => ?_)
  refine wp_seq_k fun K1 hK1 => ?_
  refine plStart ?_
  refine lk (v := .slice none 0 0) rfl rfl rfl ?_
  refine plD ?_
  refine then_normal (hK1 _ _ ?_)
  refine wp_seq_k fun K2 hK2 => ?_
  refine plStart ?_
  refine plCall (i := 0) 47 [] [] [] rfl (by kernel_rfl) (wn rfl) rfl (litEv (by kernel_rfl)) (litArgs (by kernel_rfl)) (air_any _) ?_
  rintro e w3 ⟨rfl, hbz⟩
  have hm4 := hm0.below hbz
  clear hbz hm0
  refine ⟨_, rfl, ?_⟩
  refine qP rfl ?_
  refine lk (v := .agg ([.string ⟨([115, 116, 111, 110, 101]).toArray⟩, .bool true, .bool false, .bool false, .int .i64 16, .int .i64 0, .int .i64 0, .int .i64 0]).toArray) rfl rfl rfl ?_
  refine lk (v := .agg ([.string ⟨([103, 108, 97, 115, 115]).toArray⟩, .bool true, .bool false, .bool false, .int .i64 1, .int .i64 0, .int .i64 0, .int .i64 0]).toArray) rfl rfl rfl ?_
  refine lk (v := .agg (pcs ⟨15, 14, 10⟩).toArray) rfl rfl rfl ?_
  refine lk (v := .agg ([.string ⟨([108, 97, 109, 112]).toArray⟩, .bool true, .bool false, .bool false, .int .i64 16, .int .i64 15, .int .i64 14, .int .i64 10]).toArray) rfl rfl rfl ?_
  refine lk (v := .agg ([.string ⟨([115, 97, 110, 100]).toArray⟩, .bool true, .bool false, .bool true, .int .i64 16, .int .i64 0, .int .i64 0, .int .i64 0]).toArray) rfl rfl rfl ?_
  refine lk (v := .agg ([.string ⟨([119, 97, 116, 101, 114]).toArray⟩, .bool false, .bool true, .bool false, .int .i64 3, .int .i64 0, .int .i64 0, .int .i64 0]).toArray) rfl rfl rfl ?_
  refine lk (v := .agg ([.string ⟨([108, 101, 97, 118, 101, 115]).toArray⟩, .bool true, .bool false, .bool false, .int .i64 2, .int .i64 0, .int .i64 0, .int .i64 0]).toArray) rfl rfl rfl ?_
  refine lk (v := .agg (pcs ⟨9, 3, 0⟩).toArray) rfl rfl rfl ?_
  refine lk (v := .agg ([.string ⟨([101, 109, 98, 101, 114]).toArray⟩, .bool true, .bool false, .bool false, .int .i64 16, .int .i64 9, .int .i64 3, .int .i64 0]).toArray) rfl rfl rfl ?_
  refine lk (v := .agg ([.string ⟨([102, 111, 103]).toArray⟩, .bool false, .bool false, .bool false, .int .i64 2, .int .i64 0, .int .i64 0, .int .i64 0]).toArray) rfl rfl rfl ?_
  refine plLit (cs := [.string ⟨([97, 105, 114]).toArray⟩, .bool false, .bool false, .bool false, .int .i64 1, .int .i64 0, .int .i64 0, .int .i64 0, .string ⟨([115, 116, 111, 110, 101]).toArray⟩, .bool true, .bool false, .bool false, .int .i64 16, .int .i64 0, .int .i64 0, .int .i64 0, .string ⟨([103, 108, 97, 115, 115]).toArray⟩, .bool true, .bool false, .bool false, .int .i64 1, .int .i64 0, .int .i64 0, .int .i64 0, .string ⟨([108, 97, 109, 112]).toArray⟩, .bool true, .bool false, .bool false, .int .i64 16, .int .i64 15, .int .i64 14, .int .i64 10, .string ⟨([115, 97, 110, 100]).toArray⟩, .bool true, .bool false, .bool true, .int .i64 16, .int .i64 0, .int .i64 0, .int .i64 0, .string ⟨([119, 97, 116, 101, 114]).toArray⟩, .bool false, .bool true, .bool false, .int .i64 3, .int .i64 0, .int .i64 0, .int .i64 0, .string ⟨([108, 101, 97, 118, 101, 115]).toArray⟩, .bool true, .bool false, .bool false, .int .i64 2, .int .i64 0, .int .i64 0, .int .i64 0, .string ⟨([101, 109, 98, 101, 114]).toArray⟩, .bool true, .bool false, .bool false, .int .i64 16, .int .i64 9, .int .i64 3, .int .i64 0, .string ⟨([102, 111, 103]).toArray⟩, .bool false, .bool false, .bool false, .int .i64 2, .int .i64 0, .int .i64 0, .int .i64 0]) (n := 9) Ty.sl_L_api_Material hm4 (i := 11) rfl (wn rfl) rfl (by decide) (by decide) (by rw [lit_eval]; kernel_rfl) ?_
  intro g5 w7 hm6
  clear hm4
  try simp only [List.cons_append, List.nil_append, List.set_cons_succ, List.set_cons_zero] at hm6
  refine qP rfl ?_
  refine lk (v := .slice (some ⟨g5, 0, none⟩) 9 9) rfl rfl rfl ?_
  refine plD ?_
  refine then_normal (hK2 _ _ ?_)
  refine wpPrune [(0, .slice (some ⟨g5, 0, none⟩) 9 9)] ⟨litGet (by kernel_rfl), trivial⟩ (fun X8 => ?_)
  refine wp_ret ?_
  refine bodyPost_ret (v := .slice (some ⟨g5, 0, none⟩) 9 9) (gRes1 rfl (gResTmp (t := 0) (v := .slice (some ⟨g5, 0, none⟩) 9 9) (litGet (by kernel_rfl)))) rfl ?_
  exact ⟨_, rfl, own_of_arr (hm6.arr 0 rfl) rfl (hm6.arrGe 0 rfl) (by decide), hm6.bel⟩
set_option maxRecDepth 100000 in
set_option maxHeartbeats 4000000 in
theorem sanity_any (w : World) : Calls Try.prog 8 #[] w (RetV w (.bool true)) := by
  have hm0 := Mem.nil w
  go_enter Try.func8, Try.ntmps8
  refine litStart 190 [] (by kernel_rfl) (fun X0 => ?_)
  refine wp_seq_k fun K1 hK1 => ?_
  refine plStart ?_
  refine lk (v := .bool false) rfl rfl rfl ?_
  refine plD ?_
  refine then_normal (hK1 _ _ ?_)
  refine wp_seq_k fun K2 hK2 => ?_
  refine plStart ?_
  refine plCall (i := 0) 25 [.int .i64 0, .int .i64 0, .int .i64 0] [] [] rfl (by kernel_rfl) (wn rfl) rfl (litEv (by kernel_rfl)) (litArgs (by kernel_rfl)) (at_any 0 0 0 _) ?_
  rintro e w3 ⟨rfl, hbz⟩
  have hm4 := hm0.below hbz
  clear hbz hm0
  refine ⟨_, rfl, ?_⟩
  refine qP rfl ?_
  refine plCall (i := 1) 25 [.int .i64 3, .int .i64 1, .int .i64 0] [] [] rfl (by kernel_rfl) (wn rfl) rfl (litEv (by kernel_rfl)) (litArgs (by kernel_rfl)) (at_any 3 1 0 _) ?_
  rintro e w5 ⟨rfl, hbz⟩
  have hm6 := hm4.below hbz
  clear hbz hm4
  refine ⟨_, rfl, ?_⟩
  refine qP rfl ?_
  refine plCall (i := 2) 10 [.agg (pcs ⟨0, 0, 0⟩).toArray, .agg (pcs ⟨3, 1, 0⟩).toArray] [] [] rfl (by kernel_rfl) (wn rfl) rfl (litEv (by kernel_rfl)) (litArgs (by kernel_rfl)) (by have h := walk_any ⟨0, 0, 0⟩ ⟨3, 1, 0⟩ w5; rw [kc1, kw1] at h; exact h) ?_
  rintro e w7 ⟨v9, rfl, hown_, hbz⟩
  obtain ⟨A10, c11, rfl, hrd_⟩ := Rd.of_own hown_
  clear hrd_
  replace hown_ : World.ownsRow w7 _ 23 3 _ 4 (ptsC [⟨0, 0, 0⟩, ⟨1, 0, 0⟩, ⟨2, 1, 0⟩, ⟨3, 1, 0⟩]) := hown_
  have hm8 := hm6.newRow hbz hown_
  clear hown_ hbz hm6
  try simp only [List.cons_append, List.nil_append, List.set_cons_succ, List.set_cons_zero] at hm8
  replace hm8 : Mem w w7 [.row (.slice A10 4 c11) 23 3 4 (ptsC [⟨0, 0, 0⟩, ⟨1, 0, 0⟩, ⟨2, 1, 0⟩, ⟨3, 1, 0⟩])] := hm8
  refine ⟨_, rfl, ?_⟩
  refine qP rfl ?_
  refine lk (v := .tuple #[.slice A10 4 c11, .int .i64 0]) rfl rfl rfl ?_
  refine lk (v := .slice A10 4 c11) rfl rfl rfl ?_
  refine lk (v := .int .i64 0) rfl rfl rfl ?_
  refine lk (v := .slice A10 4 c11) rfl rfl rfl ?_
  refine lk (v := .int .i64 0) rfl rfl rfl ?_
  refine plD ?_
  refine then_normal (hK2 _ _ ?_)
  refine wp_seq_k fun K12 hK12 => ?_
  refine plStart ?_
  refine plCall (i := 0) 25 [.int .i64 0, .int .i64 0, .int .i64 0] [] [] rfl (by kernel_rfl) (wn rfl) rfl (litEv (by kernel_rfl)) (litArgs (by kernel_rfl)) (at_any 0 0 0 _) ?_
  rintro e w13 ⟨rfl, hbz⟩
  have hm14 := hm8.below hbz
  clear hbz hm8
  refine ⟨_, rfl, ?_⟩
  refine qP rfl ?_
  refine plCall (i := 1) 25 [.int .i64 2, .int .i64 1, .int .i64 0] [] [] rfl (by kernel_rfl) (wn rfl) rfl (litEv (by kernel_rfl)) (litArgs (by kernel_rfl)) (at_any 2 1 0 _) ?_
  rintro e w15 ⟨rfl, hbz⟩
  have hm16 := hm14.below hbz
  clear hbz hm14
  refine ⟨_, rfl, ?_⟩
  refine qP rfl ?_
  refine plCall (i := 2) 10 [.agg (pcs ⟨0, 0, 0⟩).toArray, .agg (pcs ⟨2, 1, 0⟩).toArray] [] [] rfl (by kernel_rfl) (wn rfl) rfl (litEv (by kernel_rfl)) (litArgs (by kernel_rfl)) (by have h := walk_any ⟨0, 0, 0⟩ ⟨2, 1, 0⟩ w15; rw [kc2, kw2] at h; exact h) ?_
  rintro e w17 ⟨v19, rfl, hown_, hbz⟩
  obtain ⟨A20, c21, rfl, hrd_⟩ := Rd.of_own hown_
  clear hrd_
  replace hown_ : World.ownsRow w17 _ 23 3 _ 4 (ptsC [⟨0, 0, 0⟩, ⟨1, 0, 0⟩, ⟨1, 1, 0⟩, ⟨2, 1, 0⟩]) := hown_
  have hm18 := hm16.newRow hbz hown_
  clear hown_ hbz hm16
  try simp only [List.cons_append, List.nil_append, List.set_cons_succ, List.set_cons_zero] at hm18
  replace hm18 : Mem w w17 [.row (.slice A10 4 c11) 23 3 4 (ptsC [⟨0, 0, 0⟩, ⟨1, 0, 0⟩, ⟨2, 1, 0⟩, ⟨3, 1, 0⟩]), .row (.slice A20 4 c21) 23 3 4 (ptsC [⟨0, 0, 0⟩, ⟨1, 0, 0⟩, ⟨1, 1, 0⟩, ⟨2, 1, 0⟩])] := hm18
  refine ⟨_, rfl, ?_⟩
  refine qP rfl ?_
  refine lk (v := .tuple #[.slice A20 4 c21, .int .i64 0]) rfl rfl rfl ?_
  refine lk (v := .slice A20 4 c21) rfl rfl rfl ?_
  refine lk (v := .int .i64 0) rfl rfl rfl ?_
  refine lk (v := .slice A20 4 c21) rfl rfl rfl ?_
  refine lk (v := .int .i64 0) rfl rfl rfl ?_
  refine plD ?_
  refine then_normal (hK12 _ _ ?_)
  refine wp_seq_k fun K22 hK22 => ?_
  refine plStart ?_
  refine plCall (i := 0) 25 [.int .i64 0, .int .i64 0, .int .i64 0] [] [] rfl (by kernel_rfl) (wn rfl) rfl (litEv (by kernel_rfl)) (litArgs (by kernel_rfl)) (at_any 0 0 0 _) ?_
  rintro e w23 ⟨rfl, hbz⟩
  have hm24 := hm18.below hbz
  clear hbz hm18
  refine ⟨_, rfl, ?_⟩
  refine qP rfl ?_
  refine plCall (i := 1) 25 [.int .i64 2, .int .i64 2, .int .i64 2] [] [] rfl (by kernel_rfl) (wn rfl) rfl (litEv (by kernel_rfl)) (litArgs (by kernel_rfl)) (at_any 2 2 2 _) ?_
  rintro e w25 ⟨rfl, hbz⟩
  have hm26 := hm24.below hbz
  clear hbz hm24
  refine ⟨_, rfl, ?_⟩
  refine qP rfl ?_
  refine plCall (i := 2) 10 [.agg (pcs ⟨0, 0, 0⟩).toArray, .agg (pcs ⟨2, 2, 2⟩).toArray] [] [] rfl (by kernel_rfl) (wn rfl) rfl (litEv (by kernel_rfl)) (litArgs (by kernel_rfl)) (by have h := walk_any ⟨0, 0, 0⟩ ⟨2, 2, 2⟩ w25; rw [kc3, kw3] at h; exact h) ?_
  rintro e w27 ⟨v29, rfl, hown_, hbz⟩
  obtain ⟨A30, c31, rfl, hrd_⟩ := Rd.of_own hown_
  clear hrd_
  replace hown_ : World.ownsRow w27 _ 23 3 _ 3 (ptsC [⟨0, 0, 0⟩, ⟨1, 1, 1⟩, ⟨2, 2, 2⟩]) := hown_
  have hm28 := hm26.newRow hbz hown_
  clear hown_ hbz hm26
  try simp only [List.cons_append, List.nil_append, List.set_cons_succ, List.set_cons_zero] at hm28
  replace hm28 : Mem w w27 [.row (.slice A10 4 c11) 23 3 4 (ptsC [⟨0, 0, 0⟩, ⟨1, 0, 0⟩, ⟨2, 1, 0⟩, ⟨3, 1, 0⟩]), .row (.slice A20 4 c21) 23 3 4 (ptsC [⟨0, 0, 0⟩, ⟨1, 0, 0⟩, ⟨1, 1, 0⟩, ⟨2, 1, 0⟩]), .row (.slice A30 3 c31) 23 3 3 (ptsC [⟨0, 0, 0⟩, ⟨1, 1, 1⟩, ⟨2, 2, 2⟩])] := hm28
  refine ⟨_, rfl, ?_⟩
  refine qP rfl ?_
  refine lk (v := .tuple #[.slice A30 3 c31, .int .i64 0]) rfl rfl rfl ?_
  refine lk (v := .slice A30 3 c31) rfl rfl rfl ?_
  refine lk (v := .int .i64 0) rfl rfl rfl ?_
  refine lk (v := .slice A30 3 c31) rfl rfl rfl ?_
  refine lk (v := .int .i64 0) rfl rfl rfl ?_
  refine plD ?_
  refine then_normal (hK22 _ _ ?_)
  refine wpPrune [(0, .bool false), (1, .slice A10 4 c11), (2, .int .i64 0), (3, .slice A20 4 c21), (4, .int .i64 0), (5, .slice A30 3 c31), (6, .int .i64 0)] ⟨litGet (by kernel_rfl), ⟨litGet (by kernel_rfl), ⟨litGet (by kernel_rfl), ⟨litGet (by kernel_rfl), ⟨litGet (by kernel_rfl), ⟨litGet (by kernel_rfl), ⟨litGet (by kernel_rfl), trivial⟩⟩⟩⟩⟩⟩⟩ (fun X32 => ?_)
  refine wp_seq_k fun K33 hK33 => ?_
  refine plStart ?_
  refine plCall (i := 0) 25 [.int .i64 5, .int .i64 5, .int .i64 5] [] [] rfl (by kernel_rfl) (wn rfl) rfl (litEv (by kernel_rfl)) (litArgs (by kernel_rfl)) (at_any 5 5 5 _) ?_
  rintro e w34 ⟨rfl, hbz⟩
  have hm35 := hm28.below hbz
  clear hbz hm28
  refine ⟨_, rfl, ?_⟩
  refine qP rfl ?_
  refine plCall (i := 1) 25 [.int .i64 5, .int .i64 5, .int .i64 5] [] [] rfl (by kernel_rfl) (wn rfl) rfl (litEv (by kernel_rfl)) (litArgs (by kernel_rfl)) (at_any 5 5 5 _) ?_
  rintro e w36 ⟨rfl, hbz⟩
  have hm37 := hm35.below hbz
  clear hbz hm35
  refine ⟨_, rfl, ?_⟩
  refine qP rfl ?_
  refine plCall (i := 2) 10 [.agg (pcs ⟨5, 5, 5⟩).toArray, .agg (pcs ⟨5, 5, 5⟩).toArray] [] [] rfl (by kernel_rfl) (wn rfl) rfl (litEv (by kernel_rfl)) (litArgs (by kernel_rfl)) (by have h := walk_any ⟨5, 5, 5⟩ ⟨5, 5, 5⟩ w36; rw [kc4, kw4] at h; exact h) ?_
  rintro e w38 ⟨v40, rfl, hown_, hbz⟩
  obtain ⟨A41, c42, rfl, hrd_⟩ := Rd.of_own hown_
  clear hrd_
  replace hown_ : World.ownsRow w38 _ 23 3 _ 1 (ptsC [⟨5, 5, 5⟩]) := hown_
  have hm39 := hm37.newRow hbz hown_
  clear hown_ hbz hm37
  try simp only [List.cons_append, List.nil_append, List.set_cons_succ, List.set_cons_zero] at hm39
  replace hm39 : Mem w w38 [.row (.slice A10 4 c11) 23 3 4 (ptsC [⟨0, 0, 0⟩, ⟨1, 0, 0⟩, ⟨2, 1, 0⟩, ⟨3, 1, 0⟩]), .row (.slice A20 4 c21) 23 3 4 (ptsC [⟨0, 0, 0⟩, ⟨1, 0, 0⟩, ⟨1, 1, 0⟩, ⟨2, 1, 0⟩]), .row (.slice A30 3 c31) 23 3 3 (ptsC [⟨0, 0, 0⟩, ⟨1, 1, 1⟩, ⟨2, 2, 2⟩]), .row (.slice A41 1 c42) 23 3 1 (ptsC [⟨5, 5, 5⟩])] := hm39
  refine ⟨_, rfl, ?_⟩
  refine qP rfl ?_
  refine lk (v := .tuple #[.slice A41 1 c42, .int .i64 0]) rfl rfl rfl ?_
  refine lk (v := .slice A41 1 c42) rfl rfl rfl ?_
  refine lk (v := .int .i64 0) rfl rfl rfl ?_
  refine lk (v := .slice A41 1 c42) rfl rfl rfl ?_
  refine lk (v := .int .i64 0) rfl rfl rfl ?_
  refine plD ?_
  refine then_normal (hK33 _ _ ?_)
  refine wp_seq_k fun K43 hK43 => ?_
  refine plStart ?_
  refine plCall (i := 0) 25 [.int .i64 0, .int .i64 0, .int .i64 0] [] [] rfl (by kernel_rfl) (wn rfl) rfl (litEv (by kernel_rfl)) (litArgs (by kernel_rfl)) (at_any 0 0 0 _) ?_
  rintro e w44 ⟨rfl, hbz⟩
  have hm45 := hm39.below hbz
  clear hbz hm39
  refine ⟨_, rfl, ?_⟩
  refine qP rfl ?_
  refine plCall (i := 1) 25 [.int .i64 65536, .int .i64 1, .int .i64 0] [] [] rfl (by kernel_rfl) (wn rfl) rfl (litEv (by kernel_rfl)) (litArgs (by kernel_rfl)) (at_any 65536 1 0 _) ?_
  rintro e w46 ⟨rfl, hbz⟩
  have hm47 := hm45.below hbz
  clear hbz hm45
  refine ⟨_, rfl, ?_⟩
  refine qP rfl ?_
  refine plCall (i := 2) 10 [.agg (pcs ⟨0, 0, 0⟩).toArray, .agg (pcs ⟨65536, 1, 0⟩).toArray] [] [] rfl (by kernel_rfl) (wn rfl) rfl (litEv (by kernel_rfl)) (litArgs (by kernel_rfl)) (by have h := walk_any ⟨0, 0, 0⟩ ⟨65536, 1, 0⟩ w46; rw [kc5, kw5] at h; exact h) ?_
  rintro e w48 ⟨v50, rfl, hown_, hbz⟩
  obtain ⟨A51, c52, rfl, hrd_⟩ := Rd.of_own hown_
  clear hrd_
  replace hown_ : World.ownsRow w48 _ 23 3 _ 0 (ptsC []) := hown_
  have hm49 := hm47.newRow hbz hown_
  clear hown_ hbz hm47
  try simp only [List.cons_append, List.nil_append, List.set_cons_succ, List.set_cons_zero] at hm49
  replace hm49 : Mem w w48 [.row (.slice A10 4 c11) 23 3 4 (ptsC [⟨0, 0, 0⟩, ⟨1, 0, 0⟩, ⟨2, 1, 0⟩, ⟨3, 1, 0⟩]), .row (.slice A20 4 c21) 23 3 4 (ptsC [⟨0, 0, 0⟩, ⟨1, 0, 0⟩, ⟨1, 1, 0⟩, ⟨2, 1, 0⟩]), .row (.slice A30 3 c31) 23 3 3 (ptsC [⟨0, 0, 0⟩, ⟨1, 1, 1⟩, ⟨2, 2, 2⟩]), .row (.slice A41 1 c42) 23 3 1 (ptsC [⟨5, 5, 5⟩]), .row (.slice A51 0 c52) 23 3 0 (ptsC [])] := hm49
  refine ⟨_, rfl, ?_⟩
  refine qP rfl ?_
  refine lk (v := .tuple #[.slice A51 0 c52, .int .i64 2]) rfl rfl rfl ?_
  refine lk (v := .slice A51 0 c52) rfl rfl rfl ?_
  refine lk (v := .int .i64 2) rfl rfl rfl ?_
  refine lk (v := .slice A51 0 c52) rfl rfl rfl ?_
  refine lk (v := .int .i64 2) rfl rfl rfl ?_
  refine plD ?_
  refine then_normal (hK43 _ _ ?_)
  refine wpPrune [(0, .bool false), (1, .slice A10 4 c11), (2, .int .i64 0), (3, .slice A20 4 c21), (4, .int .i64 0), (5, .slice A30 3 c31), (6, .int .i64 0), (7, .slice A41 1 c42), (8, .int .i64 0), (10, .int .i64 2)] ⟨litGet (by kernel_rfl), ⟨litGet (by kernel_rfl), ⟨litGet (by kernel_rfl), ⟨litGet (by kernel_rfl), ⟨litGet (by kernel_rfl), ⟨litGet (by kernel_rfl), ⟨litGet (by kernel_rfl), ⟨litGet (by kernel_rfl), ⟨litGet (by kernel_rfl), ⟨litGet (by kernel_rfl), trivial⟩⟩⟩⟩⟩⟩⟩⟩⟩⟩ (fun X53 => ?_)
  refine wp_seq_k fun K54 hK54 => ?_
  refine plStart ?_
  refine plCall (i := 0) 29 [] [] [] rfl (by kernel_rfl) (wn rfl) rfl (litEv (by kernel_rfl)) (litArgs (by kernel_rfl)) (default_any _) ?_
  rintro e w55 ⟨v57, rfl, hown_, hbz⟩
  obtain ⟨A58, c59, rfl, hrd_⟩ := Rd.of_own hown_
  clear hrd_
  have hm56 := hm49.newRow hbz hown_
  clear hown_ hbz hm49
  try simp only [List.cons_append, List.nil_append, List.set_cons_succ, List.set_cons_zero] at hm56
  have hm60 := Mem.rowRd 5 hm56 rfl
  clear hm56
  try simp only [List.cons_append, List.nil_append, List.set_cons_succ, List.set_cons_zero] at hm60
  refine ⟨_, rfl, ?_⟩
  refine qP rfl ?_
  refine lk (v := .slice A58 9 c59) rfl rfl rfl ?_
  refine plD ?_
  refine then_normal (hK54 _ _ ?_)
  refine wp_seq_k fun K61 hK61 => ?_
  refine plStart ?_
  refine plCall (i := 0) 25 [.int .i64 2, .int .i64 1, .int .i64 0] [] [] rfl (by kernel_rfl) (wn rfl) rfl (litEv (by kernel_rfl)) (litArgs (by kernel_rfl)) (at_any 2 1 0 _) ?_
  rintro e w62 ⟨rfl, hbz⟩
  have hm63 := hm60.below hbz
  clear hbz hm60
  refine ⟨_, rfl, ?_⟩
  refine qP rfl ?_
  refine plCall (i := 1) 25 [.int .i64 3, .int .i64 2, .int .i64 1] [] [] rfl (by kernel_rfl) (wn rfl) rfl (litEv (by kernel_rfl)) (litArgs (by kernel_rfl)) (at_any 3 2 1 _) ?_
  rintro e w64 ⟨rfl, hbz⟩
  have hm65 := hm63.below hbz
  clear hbz hm63
  refine ⟨_, rfl, ?_⟩
  refine qP rfl ?_
  refine lk (v := .agg ([.int .i64 2, .int .i64 1, .int .i64 0, .int .i64 3, .int .i64 2, .int .i64 1]).toArray) rfl rfl rfl ?_
  refine plLit (cs := [.int .i64 1]) (n := 1) Ty.sl_L_int hm65 (i := 3) rfl (wn rfl) rfl (by decide) (by decide) (by rw [lit_eval]; kernel_rfl) ?_
  intro g66 w68 hm67
  clear hm65
  try simp only [List.cons_append, List.nil_append, List.set_cons_succ, List.set_cons_zero] at hm67
  refine qP rfl ?_
  refine lk (v := .agg ([.int .i64 2, .int .i64 1, .int .i64 0, .int .i64 3, .int .i64 2, .int .i64 1, .slice (some ⟨g66, 0, none⟩) 1 1]).toArray) rfl rfl rfl ?_
  refine lk (v := .agg ([.int .i64 2, .int .i64 1, .int .i64 0, .int .i64 3, .int .i64 2, .int .i64 1, .slice (some ⟨g66, 0, none⟩) 1 1, .int .i64 0, .int .i64 0, .int .i64 0]).toArray) rfl rfl rfl ?_
  have hm69 := Mem.arrRd (n := 1) (size := 1) 6 hm67 rfl (by kernel_rfl) (by decide)
  clear hm67
  try simp only [List.cons_append, List.nil_append, List.set_cons_succ, List.set_cons_zero] at hm69
  refine plBox hm69 (cs := [.int .i64 2, .int .i64 1, .int .i64 0, .int .i64 3, .int .i64 2, .int .i64 1, .slice (some ⟨g66, 0, none⟩) 1 1, .int .i64 0, .int .i64 0, .int .i64 0]) (i := 6) rfl (wn rfl) rfl (litEv (by kernel_rfl)) ?_
  intro g70 w72 hm71
  clear hm69
  try simp only [List.cons_append, List.nil_append, List.set_cons_succ, List.set_cons_zero] at hm71
  refine qP rfl ?_
  refine lk (v := .pointer (some ⟨g70, 0, none⟩)) rfl rfl rfl ?_
  refine plD ?_
  refine then_normal (hK61 _ _ ?_)
  refine wp_seq_k fun K73 hK73 => ?_
  refine plStart ?_
  refine lk (v := .pointer (some ⟨g70, 0, none⟩)) rfl rfl rfl ?_
  refine lk (v := .iface 39 (.pointer (some ⟨g70, 0, none⟩))) rfl rfl rfl ?_
  refine lk (v := .slice A58 9 c59) rfl rfl rfl ?_
  refine plCall (i := 3) 25 [.int .i64 0, .int .i64 0, .int .i64 0] [] [] rfl (by kernel_rfl) (wn rfl) rfl (litEv (by kernel_rfl)) (litArgs (by kernel_rfl)) (at_any 0 0 0 _) ?_
  rintro e w74 ⟨rfl, hbz⟩
  have hm75 := hm71.below hbz
  clear hbz hm71
  refine ⟨_, rfl, ?_⟩
  refine qP rfl ?_
  refine plCall (i := 4) 25 [.int .i64 3, .int .i64 1, .int .i64 0] [] [] rfl (by kernel_rfl) (wn rfl) rfl (litEv (by kernel_rfl)) (litArgs (by kernel_rfl)) (at_any 3 1 0 _) ?_
  rintro e w76 ⟨rfl, hbz⟩
  have hm77 := hm75.below hbz
  clear hbz hm75
  refine ⟨_, rfl, ?_⟩
  refine qP rfl ?_
  have hm78 : Mem w w76 [.rd A58 8 9 c59 (mts T0m), .row (.slice A10 4 c11) 23 3 4 (ptsC [⟨0, 0, 0⟩, ⟨1, 0, 0⟩, ⟨2, 1, 0⟩, ⟨3, 1, 0⟩]), .row (.slice A20 4 c21) 23 3 4 (ptsC [⟨0, 0, 0⟩, ⟨1, 0, 0⟩, ⟨1, 1, 0⟩, ⟨2, 1, 0⟩]), .row (.slice A30 3 c31) 23 3 3 (ptsC [⟨0, 0, 0⟩, ⟨1, 1, 1⟩, ⟨2, 2, 2⟩]), .row (.slice A41 1 c42) 23 3 1 (ptsC [⟨5, 5, 5⟩]), .row (.slice A51 0 c52) 23 3 0 (ptsC []), .rd (some ⟨g66, 0, none⟩) 1 1 1 ([.int .i64 1]), .arr g70 41 ([.int .i64 2, .int .i64 1, .int .i64 0, .int .i64 3, .int .i64 2, .int .i64 1, .slice (some ⟨g66, 0, none⟩) 1 1, .int .i64 0, .int .i64 0, .int .i64 0])] := Mem.front 5 hm77 rfl
  clear hm77
  have hm79 : Mem w w76 [.rd (some ⟨g66, 0, none⟩) 1 1 1 ([.int .i64 1]), .rd A58 8 9 c59 (mts T0m), .row (.slice A10 4 c11) 23 3 4 (ptsC [⟨0, 0, 0⟩, ⟨1, 0, 0⟩, ⟨2, 1, 0⟩, ⟨3, 1, 0⟩]), .row (.slice A20 4 c21) 23 3 4 (ptsC [⟨0, 0, 0⟩, ⟨1, 0, 0⟩, ⟨1, 1, 0⟩, ⟨2, 1, 0⟩]), .row (.slice A30 3 c31) 23 3 3 (ptsC [⟨0, 0, 0⟩, ⟨1, 1, 1⟩, ⟨2, 2, 2⟩]), .row (.slice A41 1 c42) 23 3 1 (ptsC [⟨5, 5, 5⟩]), .row (.slice A51 0 c52) 23 3 0 (ptsC []), .arr g70 41 ([.int .i64 2, .int .i64 1, .int .i64 0, .int .i64 3, .int .i64 2, .int .i64 1, .slice (some ⟨g66, 0, none⟩) 1 1, .int .i64 0, .int .i64 0, .int .i64 0])] := Mem.front 6 hm78 rfl
  clear hm78
  have hm80 : Mem w w76 [.arr g70 41 ([.int .i64 2, .int .i64 1, .int .i64 0, .int .i64 3, .int .i64 2, .int .i64 1, .slice (some ⟨g66, 0, none⟩) 1 1, .int .i64 0, .int .i64 0, .int .i64 0]), .rd (some ⟨g66, 0, none⟩) 1 1 1 ([.int .i64 1]), .rd A58 8 9 c59 (mts T0m), .row (.slice A10 4 c11) 23 3 4 (ptsC [⟨0, 0, 0⟩, ⟨1, 0, 0⟩, ⟨2, 1, 0⟩, ⟨3, 1, 0⟩]), .row (.slice A20 4 c21) 23 3 4 (ptsC [⟨0, 0, 0⟩, ⟨1, 0, 0⟩, ⟨1, 1, 0⟩, ⟨2, 1, 0⟩]), .row (.slice A30 3 c31) 23 3 3 (ptsC [⟨0, 0, 0⟩, ⟨1, 1, 1⟩, ⟨2, 2, 2⟩]), .row (.slice A41 1 c42) 23 3 1 (ptsC [⟨5, 5, 5⟩]), .row (.slice A51 0 c52) 23 3 0 (ptsC [])] := Mem.front 7 hm79 rfl
  clear hm79
  refine plCall (i := 5) 16 [.iface 39 (.pointer (some ⟨g70, 0, none⟩)), .slice A58 9 c59, .agg (pcs ⟨0, 0, 0⟩).toArray, .agg (pcs ⟨3, 1, 0⟩).toArray] [] [] rfl (by kernel_rfl) (wn rfl) rfl (litEv (by kernel_rfl)) (litArgs (by kernel_rfl)) (by have h := first_any (M := [.row (.slice A10 4 c11) 23 3 4 (ptsC [⟨0, 0, 0⟩, ⟨1, 0, 0⟩, ⟨2, 1, 0⟩, ⟨3, 1, 0⟩]), .row (.slice A20 4 c21) 23 3 4 (ptsC [⟨0, 0, 0⟩, ⟨1, 0, 0⟩, ⟨1, 1, 0⟩, ⟨2, 1, 0⟩]), .row (.slice A30 3 c31) 23 3 3 (ptsC [⟨0, 0, 0⟩, ⟨1, 1, 1⟩, ⟨2, 2, 2⟩]), .row (.slice A41 1 c42) 23 3 1 (ptsC [⟨5, 5, 5⟩]), .row (.slice A51 0 c52) 23 3 0 (ptsC [])]) G0 G0v T0m (some ⟨g66, 0, none⟩) 1 (A58) c59 g70 p0 ⟨0, 0, 0⟩ ⟨3, 1, 0⟩ hm80; rw [kf1h, kf1e] at h; exact h) ?_
  rintro e w81 ⟨last83, rfl, hm82, _⟩
  clear hm80
  refine ⟨_, rfl, ?_⟩
  refine qP rfl ?_
  refine lk (v := .tuple #[.agg (hcs ⟨2, 1, 0⟩ ⟨1, 0, 0⟩ 2).toArray, .int .i64 0]) rfl rfl rfl ?_
  refine lk (v := .agg (hcs ⟨2, 1, 0⟩ ⟨1, 0, 0⟩ 2).toArray) rfl rfl rfl ?_
  refine lk (v := .int .i64 0) rfl rfl rfl ?_
  refine plAlloc (z := [.int .i64 0, .int .i64 0, .int .i64 0, .int .i64 0, .int .i64 0, .int .i64 0, .int .i64 0]) Ty.ag_voxel_ray_Hit hm82 (i := 9) rfl (wn rfl) rfl ?_
  intro g84 w86 hm85
  clear hm82
  try simp only [List.cons_append, List.nil_append, List.set_cons_succ, List.set_cons_zero] at hm85
  refine qP rfl ?_
  refine plStore 8 Ty.ag_voxel_ray_Hit hm85 rfl (i := 10) (cs := hcs ⟨2, 1, 0⟩ ⟨1, 0, 0⟩ 2) rfl (wn rfl) rfl (litEv (by kernel_rfl)) (litEv (by kernel_rfl)) rfl rfl (by kernel_rfl) ?_
  intro w88 hm87
  clear hm85
  try simp only [List.cons_append, List.nil_append, List.set_cons_succ, List.set_cons_zero] at hm87
  refine qNone rfl ?_
  refine lk (v := .int .i64 0) rfl rfl rfl ?_
  refine plD ?_
  refine then_normal (hK73 _ _ ?_)
  refine wpPrune [(0, .bool false), (1, .slice A10 4 c11), (2, .int .i64 0), (3, .slice A20 4 c21), (4, .int .i64 0), (5, .slice A30 3 c31), (6, .int .i64 0), (7, .slice A41 1 c42), (8, .int .i64 0), (10, .int .i64 2), (11, .slice A58 9 c59), (12, .pointer (some ⟨g70, 0, none⟩)), (13, .pointer (some ⟨g84, 0, none⟩)), (14, .int .i64 0)] ⟨litGet (by kernel_rfl), ⟨litGet (by kernel_rfl), ⟨litGet (by kernel_rfl), ⟨litGet (by kernel_rfl), ⟨litGet (by kernel_rfl), ⟨litGet (by kernel_rfl), ⟨litGet (by kernel_rfl), ⟨litGet (by kernel_rfl), ⟨litGet (by kernel_rfl), ⟨litGet (by kernel_rfl), ⟨litGet (by kernel_rfl), ⟨litGet (by kernel_rfl), ⟨litGet (by kernel_rfl), ⟨litGet (by kernel_rfl), trivial⟩⟩⟩⟩⟩⟩⟩⟩⟩⟩⟩⟩⟩⟩ (fun X89 => ?_)
  refine wp_seq_k fun K90 hK90 => ?_
  refine plStart ?_
  refine lk (v := .pointer (some ⟨g70, 0, none⟩)) rfl rfl rfl ?_
  refine lk (v := .iface 39 (.pointer (some ⟨g70, 0, none⟩))) rfl rfl rfl ?_
  refine lk (v := .slice A58 9 c59) rfl rfl rfl ?_
  refine plCall (i := 3) 25 [.int .i64 0, .int .i64 0, .int .i64 0] [] [] rfl (by kernel_rfl) (wn rfl) rfl (litEv (by kernel_rfl)) (litArgs (by kernel_rfl)) (at_any 0 0 0 _) ?_
  rintro e w91 ⟨rfl, hbz⟩
  have hm92 := hm87.below hbz
  clear hbz hm87
  refine ⟨_, rfl, ?_⟩
  refine qP rfl ?_
  refine plCall (i := 4) 25 [.int .i64 1, .int .i64 0, .int .i64 0] [] [] rfl (by kernel_rfl) (wn rfl) rfl (litEv (by kernel_rfl)) (litArgs (by kernel_rfl)) (at_any 1 0 0 _) ?_
  rintro e w93 ⟨rfl, hbz⟩
  have hm94 := hm92.below hbz
  clear hbz hm92
  refine ⟨_, rfl, ?_⟩
  refine qP rfl ?_
  refine plCall (i := 5) 16 [.iface 39 (.pointer (some ⟨g70, 0, none⟩)), .slice A58 9 c59, .agg (pcs ⟨0, 0, 0⟩).toArray, .agg (pcs ⟨1, 0, 0⟩).toArray] [] [] rfl (by kernel_rfl) (wn rfl) rfl (litEv (by kernel_rfl)) (litArgs (by kernel_rfl)) (by have h := first_any (M := [.row (.slice A10 4 c11) 23 3 4 (ptsC [⟨0, 0, 0⟩, ⟨1, 0, 0⟩, ⟨2, 1, 0⟩, ⟨3, 1, 0⟩]), .row (.slice A20 4 c21) 23 3 4 (ptsC [⟨0, 0, 0⟩, ⟨1, 0, 0⟩, ⟨1, 1, 0⟩, ⟨2, 1, 0⟩]), .row (.slice A30 3 c31) 23 3 3 (ptsC [⟨0, 0, 0⟩, ⟨1, 1, 1⟩, ⟨2, 2, 2⟩]), .row (.slice A41 1 c42) 23 3 1 (ptsC [⟨5, 5, 5⟩]), .row (.slice A51 0 c52) 23 3 0 (ptsC []), .arr g84 43 (hcs ⟨2, 1, 0⟩ ⟨1, 0, 0⟩ 2)]) G0 G0v T0m (some ⟨g66, 0, none⟩) 1 (A58) c59 g70 last83 ⟨0, 0, 0⟩ ⟨1, 0, 0⟩ hm94; rw [kf2h, kf2e] at h; exact h) ?_
  rintro e w95 ⟨last97, rfl, hm96, _⟩
  clear hm94
  refine ⟨_, rfl, ?_⟩
  refine qP rfl ?_
  refine lk (v := .tuple #[.agg (hcs p0 p0 0).toArray, .int .i64 9]) rfl rfl rfl ?_
  refine lk (v := .agg (hcs p0 p0 0).toArray) rfl rfl rfl ?_
  refine lk (v := .int .i64 9) rfl rfl rfl ?_
  refine plAlloc (z := [.int .i64 0, .int .i64 0, .int .i64 0, .int .i64 0, .int .i64 0, .int .i64 0, .int .i64 0]) Ty.ag_voxel_ray_Hit hm96 (i := 9) rfl (wn rfl) rfl ?_
  intro g98 w100 hm99
  clear hm96
  try simp only [List.cons_append, List.nil_append, List.set_cons_succ, List.set_cons_zero] at hm99
  refine qP rfl ?_
  refine plStore 9 Ty.ag_voxel_ray_Hit hm99 rfl (i := 10) (cs := hcs p0 p0 0) rfl (wn rfl) rfl (litEv (by kernel_rfl)) (litEv (by kernel_rfl)) rfl rfl (by kernel_rfl) ?_
  intro w102 hm101
  clear hm99
  try simp only [List.cons_append, List.nil_append, List.set_cons_succ, List.set_cons_zero] at hm101
  refine qNone rfl ?_
  refine lk (v := .int .i64 9) rfl rfl rfl ?_
  refine plD ?_
  refine then_normal (hK90 _ _ ?_)
  refine wp_seq_k fun K103 hK103 => ?_
  refine plStart ?_
  refine lk (v := .pointer (some ⟨g70, 0, none⟩)) rfl rfl rfl ?_
  refine lk (v := .iface 39 (.pointer (some ⟨g70, 0, none⟩))) rfl rfl rfl ?_
  refine lk (v := .slice A58 9 c59) rfl rfl rfl ?_
  refine plCall (i := 3) 25 [.int .i64 0, .int .i64 0, .int .i64 0] [] [] rfl (by kernel_rfl) (wn rfl) rfl (litEv (by kernel_rfl)) (litArgs (by kernel_rfl)) (at_any 0 0 0 _) ?_
  rintro e w104 ⟨rfl, hbz⟩
  have hm105 := hm101.below hbz
  clear hbz hm101
  refine ⟨_, rfl, ?_⟩
  refine qP rfl ?_
  refine plCall (i := 4) 25 [.int .i64 2, .int .i64 1, .int .i64 0] [] [] rfl (by kernel_rfl) (wn rfl) rfl (litEv (by kernel_rfl)) (litArgs (by kernel_rfl)) (at_any 2 1 0 _) ?_
  rintro e w106 ⟨rfl, hbz⟩
  have hm107 := hm105.below hbz
  clear hbz hm105
  refine ⟨_, rfl, ?_⟩
  refine qP rfl ?_
  refine plCall (i := 5) 18 [.iface 39 (.pointer (some ⟨g70, 0, none⟩)), .slice A58 9 c59, .agg (pcs ⟨0, 0, 0⟩).toArray, .agg (pcs ⟨2, 1, 0⟩).toArray] [] [] rfl (by kernel_rfl) (wn rfl) rfl (litEv (by kernel_rfl)) (litArgs (by kernel_rfl)) (by have h := visible_any (M := [.row (.slice A10 4 c11) 23 3 4 (ptsC [⟨0, 0, 0⟩, ⟨1, 0, 0⟩, ⟨2, 1, 0⟩, ⟨3, 1, 0⟩]), .row (.slice A20 4 c21) 23 3 4 (ptsC [⟨0, 0, 0⟩, ⟨1, 0, 0⟩, ⟨1, 1, 0⟩, ⟨2, 1, 0⟩]), .row (.slice A30 3 c31) 23 3 3 (ptsC [⟨0, 0, 0⟩, ⟨1, 1, 1⟩, ⟨2, 2, 2⟩]), .row (.slice A41 1 c42) 23 3 1 (ptsC [⟨5, 5, 5⟩]), .row (.slice A51 0 c52) 23 3 0 (ptsC []), .arr g84 43 (hcs ⟨2, 1, 0⟩ ⟨1, 0, 0⟩ 2), .arr g98 43 (hcs p0 p0 0)]) G0 G0v T0m (some ⟨g66, 0, none⟩) 1 (A58) c59 g70 last97 ⟨0, 0, 0⟩ ⟨2, 1, 0⟩ hm107; rw [kv1, kc2] at h; exact h) ?_
  rintro e w108 ⟨last110, rfl, hm109⟩
  clear hm107
  refine ⟨_, rfl, ?_⟩
  refine qP rfl ?_
  refine lk (v := .tuple #[.bool true, .int .i64 0]) rfl rfl rfl ?_
  refine lk (v := .bool true) rfl rfl rfl ?_
  refine lk (v := .int .i64 0) rfl rfl rfl ?_
  refine lk (v := .bool true) rfl rfl rfl ?_
  refine lk (v := .int .i64 0) rfl rfl rfl ?_
  refine plD ?_
  refine then_normal (hK103 _ _ ?_)
  refine wpPrune [(0, .bool false), (1, .slice A10 4 c11), (2, .int .i64 0), (3, .slice A20 4 c21), (4, .int .i64 0), (5, .slice A30 3 c31), (6, .int .i64 0), (7, .slice A41 1 c42), (8, .int .i64 0), (10, .int .i64 2), (11, .slice A58 9 c59), (12, .pointer (some ⟨g70, 0, none⟩)), (13, .pointer (some ⟨g84, 0, none⟩)), (14, .int .i64 0), (16, .int .i64 9), (17, .bool true), (18, .int .i64 0)] ⟨litGet (by kernel_rfl), ⟨litGet (by kernel_rfl), ⟨litGet (by kernel_rfl), ⟨litGet (by kernel_rfl), ⟨litGet (by kernel_rfl), ⟨litGet (by kernel_rfl), ⟨litGet (by kernel_rfl), ⟨litGet (by kernel_rfl), ⟨litGet (by kernel_rfl), ⟨litGet (by kernel_rfl), ⟨litGet (by kernel_rfl), ⟨litGet (by kernel_rfl), ⟨litGet (by kernel_rfl), ⟨litGet (by kernel_rfl), ⟨litGet (by kernel_rfl), ⟨litGet (by kernel_rfl), ⟨litGet (by kernel_rfl), trivial⟩⟩⟩⟩⟩⟩⟩⟩⟩⟩⟩⟩⟩⟩⟩⟩⟩ (fun X111 => ?_)
  refine wp_seq_k fun K112 hK112 => ?_
  refine plStart ?_
  refine lk (v := .pointer (some ⟨g70, 0, none⟩)) rfl rfl rfl ?_
  refine lk (v := .iface 39 (.pointer (some ⟨g70, 0, none⟩))) rfl rfl rfl ?_
  refine lk (v := .slice A58 9 c59) rfl rfl rfl ?_
  refine plCall (i := 3) 25 [.int .i64 0, .int .i64 0, .int .i64 0] [] [] rfl (by kernel_rfl) (wn rfl) rfl (litEv (by kernel_rfl)) (litArgs (by kernel_rfl)) (at_any 0 0 0 _) ?_
  rintro e w113 ⟨rfl, hbz⟩
  have hm114 := hm109.below hbz
  clear hbz hm109
  refine ⟨_, rfl, ?_⟩
  refine qP rfl ?_
  refine plCall (i := 4) 25 [.int .i64 3, .int .i64 1, .int .i64 0] [] [] rfl (by kernel_rfl) (wn rfl) rfl (litEv (by kernel_rfl)) (litArgs (by kernel_rfl)) (at_any 3 1 0 _) ?_
  rintro e w115 ⟨rfl, hbz⟩
  have hm116 := hm114.below hbz
  clear hbz hm114
  refine ⟨_, rfl, ?_⟩
  refine qP rfl ?_
  refine plCall (i := 5) 18 [.iface 39 (.pointer (some ⟨g70, 0, none⟩)), .slice A58 9 c59, .agg (pcs ⟨0, 0, 0⟩).toArray, .agg (pcs ⟨3, 1, 0⟩).toArray] [] [] rfl (by kernel_rfl) (wn rfl) rfl (litEv (by kernel_rfl)) (litArgs (by kernel_rfl)) (by have h := visible_any (M := [.row (.slice A10 4 c11) 23 3 4 (ptsC [⟨0, 0, 0⟩, ⟨1, 0, 0⟩, ⟨2, 1, 0⟩, ⟨3, 1, 0⟩]), .row (.slice A20 4 c21) 23 3 4 (ptsC [⟨0, 0, 0⟩, ⟨1, 0, 0⟩, ⟨1, 1, 0⟩, ⟨2, 1, 0⟩]), .row (.slice A30 3 c31) 23 3 3 (ptsC [⟨0, 0, 0⟩, ⟨1, 1, 1⟩, ⟨2, 2, 2⟩]), .row (.slice A41 1 c42) 23 3 1 (ptsC [⟨5, 5, 5⟩]), .row (.slice A51 0 c52) 23 3 0 (ptsC []), .arr g84 43 (hcs ⟨2, 1, 0⟩ ⟨1, 0, 0⟩ 2), .arr g98 43 (hcs p0 p0 0)]) G0 G0v T0m (some ⟨g66, 0, none⟩) 1 (A58) c59 g70 last110 ⟨0, 0, 0⟩ ⟨3, 1, 0⟩ hm116; rw [kv2, kc1] at h; exact h) ?_
  rintro e w117 ⟨last119, rfl, hm118⟩
  clear hm116
  refine ⟨_, rfl, ?_⟩
  refine qP rfl ?_
  refine lk (v := .tuple #[.bool false, .int .i64 0]) rfl rfl rfl ?_
  refine lk (v := .bool false) rfl rfl rfl ?_
  refine lk (v := .int .i64 0) rfl rfl rfl ?_
  refine lk (v := .bool false) rfl rfl rfl ?_
  refine lk (v := .int .i64 0) rfl rfl rfl ?_
  refine plD ?_
  refine then_normal (hK112 _ _ ?_)
  refine wp_seq_k fun K120 hK120 => ?_
  refine wp_seq_k fun K121 hK121 => ?_
  refine plStart ?_
  refine lk (v := .int .i64 0) rfl rfl rfl ?_
  refine lk (v := .bool false) rfl rfl rfl ?_
  refine lk (v := .bool false) rfl rfl rfl ?_
  refine litVal (v := .int .i64 0) rfl (wgY rfl rfl rfl (by decide) (by kernel_rfl)) (litRun (by kernel_rfl)) rfl (by decide) ?_
  refine litVal (v := .bool false) rfl (wgY rfl rfl rfl (by decide) (by kernel_rfl)) (litRun (by kernel_rfl)) rfl (by decide) ?_
  refine lk (v := .bool false) rfl rfl rfl ?_
  refine lk (v := .bool false) rfl rfl rfl ?_
  refine litVal (v := .int .i64 0) rfl (wgY rfl rfl rfl (by decide) (by kernel_rfl)) (litRun (by kernel_rfl)) rfl (by decide) ?_
  refine litVal (v := .bool false) rfl (wgY rfl rfl rfl (by decide) (by kernel_rfl)) (litRun (by kernel_rfl)) rfl (by decide) ?_
  refine lk (v := .bool false) rfl rfl rfl ?_
  refine lk (v := .bool false) rfl rfl rfl ?_
  refine litVal (v := .int .i64 0) rfl (wgY rfl rfl rfl (by decide) (by kernel_rfl)) (litRun (by kernel_rfl)) rfl (by decide) ?_
  refine litVal (v := .bool false) rfl (wgY rfl rfl rfl (by decide) (by kernel_rfl)) (litRun (by kernel_rfl)) rfl (by decide) ?_
  refine lk (v := .bool false) rfl rfl rfl ?_
  refine lk (v := .bool false) rfl rfl rfl ?_
  refine litVal (v := .int .i64 2) rfl (wgY rfl rfl rfl (by decide) (by kernel_rfl)) (litRun (by kernel_rfl)) rfl (by decide) ?_
  refine litVal (v := .bool false) rfl (wgY rfl rfl rfl (by decide) (by kernel_rfl)) (litRun (by kernel_rfl)) rfl (by decide) ?_
  refine lk (v := .bool false) rfl rfl rfl ?_
  refine lk (v := .bool false) rfl rfl rfl ?_
  refine litVal (v := .int .i64 0) rfl (wgY rfl rfl rfl (by decide) (by kernel_rfl)) (litRun (by kernel_rfl)) rfl (by decide) ?_
  refine litVal (v := .bool false) rfl (wgY rfl rfl rfl (by decide) (by kernel_rfl)) (litRun (by kernel_rfl)) rfl (by decide) ?_
  refine lk (v := .bool false) rfl rfl rfl ?_
  refine lk (v := .bool false) rfl rfl rfl ?_
  refine litVal (v := .int .i64 9) rfl (wgY rfl rfl rfl (by decide) (by kernel_rfl)) (litRun (by kernel_rfl)) rfl (by decide) ?_
  refine litVal (v := .bool false) rfl (wgY rfl rfl rfl (by decide) (by kernel_rfl)) (litRun (by kernel_rfl)) rfl (by decide) ?_
  refine lk (v := .bool false) rfl rfl rfl ?_
  refine lk (v := .bool false) rfl rfl rfl ?_
  refine litVal (v := .int .i64 0) rfl (wgY rfl rfl rfl (by decide) (by kernel_rfl)) (litRun (by kernel_rfl)) rfl (by decide) ?_
  refine litVal (v := .bool false) rfl (wgY rfl rfl rfl (by decide) (by kernel_rfl)) (litRun (by kernel_rfl)) rfl (by decide) ?_
  refine lk (v := .bool false) rfl rfl rfl ?_
  refine lk (v := .bool false) rfl rfl rfl ?_
  refine litVal (v := .int .i64 0) rfl (wgY rfl rfl rfl (by decide) (by kernel_rfl)) (litRun (by kernel_rfl)) rfl (by decide) ?_
  refine litVal (v := .bool false) rfl (wgY rfl rfl rfl (by decide) (by kernel_rfl)) (litRun (by kernel_rfl)) rfl (by decide) ?_
  refine lk (v := .bool false) rfl rfl rfl ?_
  refine plD ?_
  refine then_normal (hK121 _ _ ?_)
  refine wpPrune [(0, .bool false), (1, .slice A10 4 c11), (3, .slice A20 4 c21), (5, .slice A30 3 c31), (7, .slice A41 1 c42), (13, .pointer (some ⟨g84, 0, none⟩)), (17, .bool true), (19, .bool false), (130, .bool false)] ⟨litGet (by kernel_rfl), ⟨litGet (by kernel_rfl), ⟨litGet (by kernel_rfl), ⟨litGet (by kernel_rfl), ⟨litGet (by kernel_rfl), ⟨litGet (by kernel_rfl), ⟨litGet (by kernel_rfl), ⟨litGet (by kernel_rfl), ⟨litGet (by kernel_rfl), trivial⟩⟩⟩⟩⟩⟩⟩⟩⟩ (fun X122 => ?_)
  refine wp_cond_false (litEv (by kernel_rfl)) ?_
  refine wp_skip ?_
  refine then_normal (hK120 _ _ ?_)
  refine wp_seq_k fun K123 hK123 => ?_
  refine plStart ?_
  refine lk (v := .slice A10 4 c11) rfl rfl rfl ?_
  refine plCall (i := 1) 25 [.int .i64 0, .int .i64 0, .int .i64 0] [] [] rfl (by kernel_rfl) (wn rfl) rfl (litEv (by kernel_rfl)) (litArgs (by kernel_rfl)) (at_any 0 0 0 _) ?_
  rintro e w124 ⟨rfl, hbz⟩
  have hm125 := hm118.below hbz
  clear hbz hm118
  refine ⟨_, rfl, ?_⟩
  refine qP rfl ?_
  refine plCall (i := 2) 25 [.int .i64 1, .int .i64 0, .int .i64 0] [] [] rfl (by kernel_rfl) (wn rfl) rfl (litEv (by kernel_rfl)) (litArgs (by kernel_rfl)) (at_any 1 0 0 _) ?_
  rintro e w126 ⟨rfl, hbz⟩
  have hm127 := hm125.below hbz
  clear hbz hm125
  refine ⟨_, rfl, ?_⟩
  refine qP rfl ?_
  refine plCall (i := 3) 25 [.int .i64 2, .int .i64 1, .int .i64 0] [] [] rfl (by kernel_rfl) (wn rfl) rfl (litEv (by kernel_rfl)) (litArgs (by kernel_rfl)) (at_any 2 1 0 _) ?_
  rintro e w128 ⟨rfl, hbz⟩
  have hm129 := hm127.below hbz
  clear hbz hm127
  refine ⟨_, rfl, ?_⟩
  refine qP rfl ?_
  refine plCall (i := 4) 25 [.int .i64 3, .int .i64 1, .int .i64 0] [] [] rfl (by kernel_rfl) (wn rfl) rfl (litEv (by kernel_rfl)) (litArgs (by kernel_rfl)) (at_any 3 1 0 _) ?_
  rintro e w130 ⟨rfl, hbz⟩
  have hm131 := hm129.below hbz
  clear hbz hm129
  refine ⟨_, rfl, ?_⟩
  refine qP rfl ?_
  refine plLit (cs := [.int .i64 0, .int .i64 0, .int .i64 0, .int .i64 1, .int .i64 0, .int .i64 0, .int .i64 2, .int .i64 1, .int .i64 0, .int .i64 3, .int .i64 1, .int .i64 0]) (n := 4) Ty.sl_L_api_Point hm131 (i := 5) rfl (wn rfl) rfl (by decide) (by decide) (by rw [lit_eval]; kernel_rfl) ?_
  intro g132 w134 hm133
  clear hm131
  try simp only [List.cons_append, List.nil_append, List.set_cons_succ, List.set_cons_zero] at hm133
  refine qP rfl ?_
  refine plCall (i := 6) 12 [.slice A10 4 c11, .slice (some ⟨g132, 0, none⟩) 4 4] [] [] rfl (by kernel_rfl) (wn rfl) rfl (litEv (by kernel_rfl)) (litArgs (by kernel_rfl)) (callsTo (congrArg Value.bool (decide_eq_true rfl)) (same_any [⟨0, 0, 0⟩, ⟨1, 0, 0⟩, ⟨2, 1, 0⟩, ⟨3, 1, 0⟩] [⟨0, 0, 0⟩, ⟨1, 0, 0⟩, ⟨2, 1, 0⟩, ⟨3, 1, 0⟩] (A10) (some ⟨g132, 0, none⟩) c11 4 _ (hm133.rdRow 3 rfl) (Rd.of_arr (t := 23) (cs := [.int .i64 0, .int .i64 0, .int .i64 0, .int .i64 1, .int .i64 0, .int .i64 0, .int .i64 2, .int .i64 1, .int .i64 0, .int .i64 3, .int .i64 1, .int .i64 0]) (hm133.arr 10 (by kernel_rfl)) (by kernel_rfl) (of_decide_eq_true (by kernel_rfl))))) ?_
  rintro e w135 ⟨rfl, hbz⟩
  have hm136 := hm133.below hbz
  clear hbz hm133
  refine ⟨_, rfl, ?_⟩
  refine qP rfl ?_
  refine lk (v := .bool true) rfl rfl rfl ?_
  refine litVal (v := .slice A20 4 c21) rfl (wgY rfl rfl rfl (by decide) (by kernel_rfl)) (litRun (by kernel_rfl)) rfl (by decide) ?_
  refine plCall (i := 9) 25 [.int .i64 0, .int .i64 0, .int .i64 0] [] [] rfl (by kernel_rfl) (wgY rfl rfl rfl (by decide) (by kernel_rfl)) rfl (litEv (by kernel_rfl)) (litArgs (by kernel_rfl)) (at_any 0 0 0 _) ?_
  rintro e w137 ⟨rfl, hbz⟩
  have hm138 := hm136.below hbz
  clear hbz hm136
  refine ⟨_, rfl, ?_⟩
  refine qP rfl ?_
  refine plCall (i := 10) 25 [.int .i64 1, .int .i64 0, .int .i64 0] [] [] rfl (by kernel_rfl) (wgY rfl rfl rfl (by decide) (by kernel_rfl)) rfl (litEv (by kernel_rfl)) (litArgs (by kernel_rfl)) (at_any 1 0 0 _) ?_
  rintro e w139 ⟨rfl, hbz⟩
  have hm140 := hm138.below hbz
  clear hbz hm138
  refine ⟨_, rfl, ?_⟩
  refine qP rfl ?_
  refine plCall (i := 11) 25 [.int .i64 1, .int .i64 1, .int .i64 0] [] [] rfl (by kernel_rfl) (wgY rfl rfl rfl (by decide) (by kernel_rfl)) rfl (litEv (by kernel_rfl)) (litArgs (by kernel_rfl)) (at_any 1 1 0 _) ?_
  rintro e w141 ⟨rfl, hbz⟩
  have hm142 := hm140.below hbz
  clear hbz hm140
  refine ⟨_, rfl, ?_⟩
  refine qP rfl ?_
  refine plCall (i := 12) 25 [.int .i64 2, .int .i64 1, .int .i64 0] [] [] rfl (by kernel_rfl) (wgY rfl rfl rfl (by decide) (by kernel_rfl)) rfl (litEv (by kernel_rfl)) (litArgs (by kernel_rfl)) (at_any 2 1 0 _) ?_
  rintro e w143 ⟨rfl, hbz⟩
  have hm144 := hm142.below hbz
  clear hbz hm142
  refine ⟨_, rfl, ?_⟩
  refine qP rfl ?_
  refine plLit (cs := [.int .i64 0, .int .i64 0, .int .i64 0, .int .i64 1, .int .i64 0, .int .i64 0, .int .i64 1, .int .i64 1, .int .i64 0, .int .i64 2, .int .i64 1, .int .i64 0]) (n := 4) Ty.sl_L_api_Point hm144 (i := 13) rfl (wgY rfl rfl rfl (by decide) (by kernel_rfl)) rfl (by decide) (by decide) (by rw [lit_eval]; kernel_rfl) ?_
  intro g145 w147 hm146
  clear hm144
  try simp only [List.cons_append, List.nil_append, List.set_cons_succ, List.set_cons_zero] at hm146
  refine qP rfl ?_
  refine plCall (i := 14) 12 [.slice A20 4 c21, .slice (some ⟨g145, 0, none⟩) 4 4] [] [] rfl (by kernel_rfl) (wgY rfl rfl rfl (by decide) (by kernel_rfl)) rfl (litEv (by kernel_rfl)) (litArgs (by kernel_rfl)) (callsTo (congrArg Value.bool (decide_eq_true rfl)) (same_any [⟨0, 0, 0⟩, ⟨1, 0, 0⟩, ⟨1, 1, 0⟩, ⟨2, 1, 0⟩] [⟨0, 0, 0⟩, ⟨1, 0, 0⟩, ⟨1, 1, 0⟩, ⟨2, 1, 0⟩] (A20) (some ⟨g145, 0, none⟩) c21 4 _ (hm146.rdRow 4 rfl) (Rd.of_arr (t := 23) (cs := [.int .i64 0, .int .i64 0, .int .i64 0, .int .i64 1, .int .i64 0, .int .i64 0, .int .i64 1, .int .i64 1, .int .i64 0, .int .i64 2, .int .i64 1, .int .i64 0]) (hm146.arr 11 (by kernel_rfl)) (by kernel_rfl) (of_decide_eq_true (by kernel_rfl))))) ?_
  rintro e w148 ⟨rfl, hbz⟩
  have hm149 := hm146.below hbz
  clear hbz hm146
  refine ⟨_, rfl, ?_⟩
  refine qP rfl ?_
  refine lk (v := .bool true) rfl rfl rfl ?_
  refine lk (v := .bool true) rfl rfl rfl ?_
  refine plD ?_
  refine then_normal (hK123 _ _ ?_)
  refine wpPrune [(0, .bool false), (5, .slice A30 3 c31), (7, .slice A41 1 c42), (13, .pointer (some ⟨g84, 0, none⟩)), (17, .bool true), (19, .bool false), (21, .bool true)] ⟨litGet (by kernel_rfl), ⟨litGet (by kernel_rfl), ⟨litGet (by kernel_rfl), ⟨litGet (by kernel_rfl), ⟨litGet (by kernel_rfl), ⟨litGet (by kernel_rfl), ⟨litGet (by kernel_rfl), trivial⟩⟩⟩⟩⟩⟩⟩ (fun X150 => ?_)
  refine wp_seq_k fun K151 hK151 => ?_
  refine plStart ?_
  refine lk (v := .slice A30 3 c31) rfl rfl rfl ?_
  refine plCall (i := 1) 25 [.int .i64 0, .int .i64 0, .int .i64 0] [] [] rfl (by kernel_rfl) (wn rfl) rfl (litEv (by kernel_rfl)) (litArgs (by kernel_rfl)) (at_any 0 0 0 _) ?_
  rintro e w152 ⟨rfl, hbz⟩
  have hm153 := hm149.below hbz
  clear hbz hm149
  refine ⟨_, rfl, ?_⟩
  refine qP rfl ?_
  refine plCall (i := 2) 25 [.int .i64 1, .int .i64 1, .int .i64 1] [] [] rfl (by kernel_rfl) (wn rfl) rfl (litEv (by kernel_rfl)) (litArgs (by kernel_rfl)) (at_any 1 1 1 _) ?_
  rintro e w154 ⟨rfl, hbz⟩
  have hm155 := hm153.below hbz
  clear hbz hm153
  refine ⟨_, rfl, ?_⟩
  refine qP rfl ?_
  refine plCall (i := 3) 25 [.int .i64 2, .int .i64 2, .int .i64 2] [] [] rfl (by kernel_rfl) (wn rfl) rfl (litEv (by kernel_rfl)) (litArgs (by kernel_rfl)) (at_any 2 2 2 _) ?_
  rintro e w156 ⟨rfl, hbz⟩
  have hm157 := hm155.below hbz
  clear hbz hm155
  refine ⟨_, rfl, ?_⟩
  refine qP rfl ?_
  refine plLit (cs := [.int .i64 0, .int .i64 0, .int .i64 0, .int .i64 1, .int .i64 1, .int .i64 1, .int .i64 2, .int .i64 2, .int .i64 2]) (n := 3) Ty.sl_L_api_Point hm157 (i := 4) rfl (wn rfl) rfl (by decide) (by decide) (by rw [lit_eval]; kernel_rfl) ?_
  intro g158 w160 hm159
  clear hm157
  try simp only [List.cons_append, List.nil_append, List.set_cons_succ, List.set_cons_zero] at hm159
  refine qP rfl ?_
  refine plCall (i := 5) 12 [.slice A30 3 c31, .slice (some ⟨g158, 0, none⟩) 3 3] [] [] rfl (by kernel_rfl) (wn rfl) rfl (litEv (by kernel_rfl)) (litArgs (by kernel_rfl)) (callsTo (congrArg Value.bool (decide_eq_true rfl)) (same_any [⟨0, 0, 0⟩, ⟨1, 1, 1⟩, ⟨2, 2, 2⟩] [⟨0, 0, 0⟩, ⟨1, 1, 1⟩, ⟨2, 2, 2⟩] (A30) (some ⟨g158, 0, none⟩) c31 3 _ (hm159.rdRow 5 rfl) (Rd.of_arr (t := 23) (cs := [.int .i64 0, .int .i64 0, .int .i64 0, .int .i64 1, .int .i64 1, .int .i64 1, .int .i64 2, .int .i64 2, .int .i64 2]) (hm159.arr 12 (by kernel_rfl)) (by kernel_rfl) (of_decide_eq_true (by kernel_rfl))))) ?_
  rintro e w161 ⟨rfl, hbz⟩
  have hm162 := hm159.below hbz
  clear hbz hm159
  refine ⟨_, rfl, ?_⟩
  refine qP rfl ?_
  refine lk (v := .bool true) rfl rfl rfl ?_
  refine litVal (v := .slice A41 1 c42) rfl (wgY rfl rfl rfl (by decide) (by kernel_rfl)) (litRun (by kernel_rfl)) rfl (by decide) ?_
  refine plCall (i := 8) 25 [.int .i64 5, .int .i64 5, .int .i64 5] [] [] rfl (by kernel_rfl) (wgY rfl rfl rfl (by decide) (by kernel_rfl)) rfl (litEv (by kernel_rfl)) (litArgs (by kernel_rfl)) (at_any 5 5 5 _) ?_
  rintro e w163 ⟨rfl, hbz⟩
  have hm164 := hm162.below hbz
  clear hbz hm162
  refine ⟨_, rfl, ?_⟩
  refine qP rfl ?_
  refine plLit (cs := [.int .i64 5, .int .i64 5, .int .i64 5]) (n := 1) Ty.sl_L_api_Point hm164 (i := 9) rfl (wgY rfl rfl rfl (by decide) (by kernel_rfl)) rfl (by decide) (by decide) (by rw [lit_eval]; kernel_rfl) ?_
  intro g165 w167 hm166
  clear hm164
  try simp only [List.cons_append, List.nil_append, List.set_cons_succ, List.set_cons_zero] at hm166
  refine qP rfl ?_
  refine plCall (i := 10) 12 [.slice A41 1 c42, .slice (some ⟨g165, 0, none⟩) 1 1] [] [] rfl (by kernel_rfl) (wgY rfl rfl rfl (by decide) (by kernel_rfl)) rfl (litEv (by kernel_rfl)) (litArgs (by kernel_rfl)) (callsTo (congrArg Value.bool (decide_eq_true rfl)) (same_any [⟨5, 5, 5⟩] [⟨5, 5, 5⟩] (A41) (some ⟨g165, 0, none⟩) c42 1 _ (hm166.rdRow 6 rfl) (Rd.of_arr (t := 23) (cs := [.int .i64 5, .int .i64 5, .int .i64 5]) (hm166.arr 13 (by kernel_rfl)) (by kernel_rfl) (of_decide_eq_true (by kernel_rfl))))) ?_
  rintro e w168 ⟨rfl, hbz⟩
  have hm169 := hm166.below hbz
  clear hbz hm166
  refine ⟨_, rfl, ?_⟩
  refine qP rfl ?_
  refine lk (v := .bool true) rfl rfl rfl ?_
  refine lk (v := .bool true) rfl rfl rfl ?_
  refine plD ?_
  refine then_normal (hK151 _ _ ?_)
  refine wpPrune [(0, .bool false), (13, .pointer (some ⟨g84, 0, none⟩)), (17, .bool true), (19, .bool false), (21, .bool true), (22, .bool true)] ⟨litGet (by kernel_rfl), ⟨litGet (by kernel_rfl), ⟨litGet (by kernel_rfl), ⟨litGet (by kernel_rfl), ⟨litGet (by kernel_rfl), ⟨litGet (by kernel_rfl), trivial⟩⟩⟩⟩⟩⟩ (fun X170 => ?_)
  refine wp_seq_k fun K171 hK171 => ?_
  refine mgStart hm169 (by kernel_rfl) ?_
  intro w173 hm172
  clear hm169
  refine mk_ (i := 0) (v := .bool true) rfl rfl (fun _ _ _ h => h) hm172 rfl ?_
  refine mk_ (i := 1) (v := .bool true) rfl rfl (fun _ _ _ h => h) hm172 rfl ?_
  refine mgTake (i := 2) (v := .bool true) rfl (by kernel_rfl) (wgY rfl rfl rfl (by decide) (by kernel_rfl)) (fun _ _ _ h => h) hm172 (fun w_ h_ => litRun (by kernel_rfl)) ?_
  refine mP rfl ?_
  refine mk_ (i := 3) (v := .bool true) rfl rfl (fun _ _ _ h => h) hm172 rfl ?_
  refine mk_ (i := 4) (v := .bool true) rfl rfl (fun _ _ _ h => h) hm172 rfl ?_
  refine mgTake (i := 5) (v := .agg (hcs ⟨2, 1, 0⟩ ⟨1, 0, 0⟩ 2).toArray) rfl (by kernel_rfl) (wgY rfl rfl rfl (by decide) (by kernel_rfl)) (fun _ _ _ h => h) hm172 (fun w_ h_ => gLoadAg (vs := hcs ⟨2, 1, 0⟩ ⟨1, 0, 0⟩ 2) (k := 0) 8 h_ rfl (by kernel_rfl) (by kernel_rfl) (.tmp 13) Ty.ag_voxel_ray_Hit rfl (litEv (by kernel_rfl))) ?_
  refine mP rfl ?_
  refine mgCall (i := 6) 25 [.int .i64 2, .int .i64 1, .int .i64 0] [] [] (by kernel_rfl) rfl (by kernel_rfl) (wgY rfl rfl rfl (by decide) (by kernel_rfl)) rfl (litEv (by kernel_rfl)) (litArgs (by kernel_rfl)) (at_any 2 1 0 _) ?_
  rintro e w174 ⟨rfl, hbz⟩
  have hm175 := hm172.below hbz
  clear hbz hm172
  refine ⟨_, rfl, hm175, ?_⟩
  refine mP rfl ?_
  refine mgCall (i := 7) 25 [.int .i64 1, .int .i64 0, .int .i64 0] [] [] (by kernel_rfl) rfl (by kernel_rfl) (wgY rfl rfl rfl (by decide) (by kernel_rfl)) rfl (litEv (by kernel_rfl)) (litArgs (by kernel_rfl)) (at_any 1 0 0 _) ?_
  rintro e w176 ⟨rfl, hbz⟩
  have hm177 := hm175.below hbz
  clear hbz hm175
  refine ⟨_, rfl, hm177, ?_⟩
  refine mP rfl ?_
  refine mgTake (i := 8) (v := .agg ([.int .i64 2, .int .i64 1, .int .i64 0, .int .i64 1, .int .i64 0, .int .i64 0, .int .i64 2]).toArray) rfl (by kernel_rfl) (wgY rfl rfl rfl (by decide) (by kernel_rfl)) (fun _ _ _ h => h) hm177 (fun w_ h_ => litRun (by kernel_rfl)) ?_
  refine mP rfl ?_
  refine mgTake (i := 9) (v := .bool true) rfl (by kernel_rfl) (wgY rfl rfl rfl (by decide) (by kernel_rfl)) (fun _ _ _ h => h) hm177 (fun w_ h_ => eqlAgRun 2 (.tmp 164) (.tmp 167) (hcs ⟨2, 1, 0⟩ ⟨1, 0, 0⟩ 2) ([.int .i64 2, .int .i64 1, .int .i64 0, .int .i64 1, .int .i64 0, .int .i64 0, .int .i64 2]) true (by constructor <;> intro _ <;> rfl) (by kernel_rfl) rfl (by kernel_rfl) (by kernel_rfl) (by kernel_rfl) (by kernel_rfl) rfl (litEv (by kernel_rfl)) (litEv (by kernel_rfl))) ?_
  refine mP rfl ?_
  refine mk_ (i := 10) (v := .bool true) rfl rfl (fun _ _ _ h => h) hm177 rfl ?_
  refine mk_ (i := 11) (v := .bool true) rfl rfl (fun _ _ _ h => h) hm177 rfl ?_
  refine mgTake (i := 12) (v := .bool true) rfl (by kernel_rfl) (wgY rfl rfl rfl (by decide) (by kernel_rfl)) (fun _ _ _ h => h) hm177 (fun w_ h_ => litRun (by kernel_rfl)) ?_
  refine mP rfl ?_
  refine mk_ (i := 13) (v := .bool true) rfl rfl (fun _ _ _ h => h) hm177 rfl ?_
  refine mk_ (i := 14) (v := .bool true) rfl rfl (fun _ _ _ h => h) hm177 rfl ?_
  refine mgTake (i := 15) (v := .bool false) rfl (by kernel_rfl) (wgY rfl rfl rfl (by decide) (by kernel_rfl)) (fun _ _ _ h => h) hm177 (fun w_ h_ => litRun (by kernel_rfl)) ?_
  refine mP rfl ?_
  refine mgTake (i := 16) (v := .bool true) rfl (by kernel_rfl) (wgY rfl rfl rfl (by decide) (by kernel_rfl)) (fun _ _ _ h => h) hm177 (fun w_ h_ => litRun (by kernel_rfl)) ?_
  refine mP rfl ?_
  refine mk_ (i := 17) (v := .bool true) rfl rfl (fun _ _ _ h => h) hm177 rfl ?_
  refine mk_ (i := 18) (v := .bool true) rfl rfl (fun _ _ _ h => h) hm177 rfl ?_
  refine mgCall (i := 19) 25 [.int .i64 0, .int .i64 0, .int .i64 0] [] [] (by kernel_rfl) rfl (by kernel_rfl) (wgY rfl rfl rfl (by decide) (by kernel_rfl)) rfl (litEv (by kernel_rfl)) (litArgs (by kernel_rfl)) (at_any 0 0 0 _) ?_
  rintro e w178 ⟨rfl, hbz⟩
  have hm179 := hm177.below hbz
  clear hbz hm177
  refine ⟨_, rfl, hm179, ?_⟩
  refine mP rfl ?_
  refine mgCall (i := 20) 25 [.int .i64 2, .int .i64 2, .int .i64 2] [] [] (by kernel_rfl) rfl (by kernel_rfl) (wgY rfl rfl rfl (by decide) (by kernel_rfl)) rfl (litEv (by kernel_rfl)) (litArgs (by kernel_rfl)) (at_any 2 2 2 _) ?_
  rintro e w180 ⟨rfl, hbz⟩
  have hm181 := hm179.below hbz
  clear hbz hm179
  refine ⟨_, rfl, hm181, ?_⟩
  refine mP rfl ?_
  refine mgCall (i := 21) 25 [.int .i64 1, .int .i64 0, .int .i64 0] [] [] (by kernel_rfl) rfl (by kernel_rfl) (wgY rfl rfl rfl (by decide) (by kernel_rfl)) rfl (litEv (by kernel_rfl)) (litArgs (by kernel_rfl)) (at_any 1 0 0 _) ?_
  rintro e w182 ⟨rfl, hbz⟩
  have hm183 := hm181.below hbz
  clear hbz hm181
  refine ⟨_, rfl, hm183, ?_⟩
  refine mP rfl ?_
  refine mgCall (i := 22) 13 [.agg (pcs ⟨0, 0, 0⟩).toArray, .agg (pcs ⟨2, 2, 2⟩).toArray, .agg (pcs ⟨1, 0, 0⟩).toArray] [] [] (by kernel_rfl) rfl (by kernel_rfl) (wgY rfl rfl rfl (by decide) (by kernel_rfl)) rfl (litEv (by kernel_rfl)) (litArgs (by kernel_rfl)) (callsTo (congrArg Value.bool kx1) (crosses_any ⟨0, 0, 0⟩ ⟨2, 2, 2⟩ ⟨1, 0, 0⟩ _)) ?_
  rintro e w184 ⟨rfl, hbz⟩
  have hm185 := hm183.below hbz
  clear hbz hm183
  refine ⟨_, rfl, hm185, ?_⟩
  refine mP rfl ?_
  refine mgTake (i := 23) (v := .bool true) rfl (by kernel_rfl) (wgY rfl rfl rfl (by decide) (by kernel_rfl)) (fun _ _ _ h => h) hm185 (fun w_ h_ => litRun (by kernel_rfl)) ?_
  refine mP rfl ?_
  refine mk_ (i := 24) (v := .bool true) rfl rfl (fun _ _ _ h => h) hm185 rfl ?_
  refine mk_ (i := 25) (v := .bool true) rfl rfl (fun _ _ _ h => h) hm185 rfl ?_
  refine mgCall (i := 26) 25 [.int .i64 0, .int .i64 0, .int .i64 0] [] [] (by kernel_rfl) rfl (by kernel_rfl) (wgY rfl rfl rfl (by decide) (by kernel_rfl)) rfl (litEv (by kernel_rfl)) (litArgs (by kernel_rfl)) (at_any 0 0 0 _) ?_
  rintro e w186 ⟨rfl, hbz⟩
  have hm187 := hm185.below hbz
  clear hbz hm185
  refine ⟨_, rfl, hm187, ?_⟩
  refine mP rfl ?_
  refine mgCall (i := 27) 25 [.int .i64 3, .int .i64 1, .int .i64 0] [] [] (by kernel_rfl) rfl (by kernel_rfl) (wgY rfl rfl rfl (by decide) (by kernel_rfl)) rfl (litEv (by kernel_rfl)) (litArgs (by kernel_rfl)) (at_any 3 1 0 _) ?_
  rintro e w188 ⟨rfl, hbz⟩
  have hm189 := hm187.below hbz
  clear hbz hm187
  refine ⟨_, rfl, hm189, ?_⟩
  refine mP rfl ?_
  refine mgCall (i := 28) 25 [.int .i64 2, .int .i64 1, .int .i64 0] [] [] (by kernel_rfl) rfl (by kernel_rfl) (wgY rfl rfl rfl (by decide) (by kernel_rfl)) rfl (litEv (by kernel_rfl)) (litArgs (by kernel_rfl)) (at_any 2 1 0 _) ?_
  rintro e w190 ⟨rfl, hbz⟩
  have hm191 := hm189.below hbz
  clear hbz hm189
  refine ⟨_, rfl, hm191, ?_⟩
  refine mP rfl ?_
  refine mgCall (i := 29) 13 [.agg (pcs ⟨0, 0, 0⟩).toArray, .agg (pcs ⟨3, 1, 0⟩).toArray, .agg (pcs ⟨2, 1, 0⟩).toArray] [] [] (by kernel_rfl) rfl (by kernel_rfl) (wgY rfl rfl rfl (by decide) (by kernel_rfl)) rfl (litEv (by kernel_rfl)) (litArgs (by kernel_rfl)) (callsTo (congrArg Value.bool kx2) (crosses_any ⟨0, 0, 0⟩ ⟨3, 1, 0⟩ ⟨2, 1, 0⟩ _)) ?_
  rintro e w192 ⟨rfl, hbz⟩
  have hm193 := hm191.below hbz
  clear hbz hm191
  refine ⟨_, rfl, hm193, ?_⟩
  refine mP rfl ?_
  refine mk_ (i := 30) (v := .bool true) rfl rfl (fun _ _ _ h => h) hm193 rfl ?_
  refine mk_ (i := 31) (v := .bool true) rfl rfl (fun _ _ _ h => h) hm193 rfl ?_
  refine mgDone (by kernel_rfl) ?_
  refine then_normal (hK171 _ _ ?_)
  refine wpPrune [(0, .bool true)] ⟨litGet (by kernel_rfl), trivial⟩ (fun X194 => ?_)
  refine wp_ret ?_
  refine bodyPost_ret (v := .bool true) (gRes1 rfl (gResTmp (t := 0) (v := .bool true) (litGet (by kernel_rfl)))) rfl ?_
  exact ⟨by rfl, hm193.bel⟩
end Go.Proofs.Ytopdcdjmiepdfaa
namespace Go.Proofs.Ytopdcdjmiepdfaa
open Go.RowKit
def RetB (w : World) (b : Bool) (e : Ending) (w' : World) : Prop := e = .returned (.bool b) ∧ Below w.heap.size w w'
end Go.Proofs.Ytopdcdjmiepdfaa
