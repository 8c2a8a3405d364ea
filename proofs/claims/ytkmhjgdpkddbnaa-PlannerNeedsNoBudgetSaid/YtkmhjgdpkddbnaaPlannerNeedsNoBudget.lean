/-
  PlannerNeedsNoBudget: free tiles are split as far as the tolerance wants.
-/
import Derived.Test.YtkmhjgdpkddbnaaPH
import Derived.Test.YtkmhjgdpkddbnaaPL
namespace Go.Proofs.Ytkmhjgdpkddbnaa
open Go.RowKit
set_option linter.unusedVariables false
set_option linter.unusedSimpArgs false

set_option maxRecDepth 100000 in
set_option maxHeartbeats 4000000 in
theorem walk_PlannerNeedsNoBudget (depth : Int) (v : Vw) (dm : Int) (q : Pt) (w : World) (_b0 : -9223372036854775808 ≤ depth ∧ depth ≤ 9223372036854775807) (_b1 : -9223372036854775808 ≤ v.p.x ∧ v.p.x ≤ 9223372036854775807) (_b2 : -9223372036854775808 ≤ v.p.y ∧ v.p.y ≤ 9223372036854775807) (_b3 : -9223372036854775808 ≤ v.p.z ∧ v.p.z ≤ 9223372036854775807) (_b4 : -9223372036854775808 ≤ v.sc ∧ v.sc ≤ 9223372036854775807) (_b5 : -9223372036854775808 ≤ v.tol ∧ v.tol ≤ 9223372036854775807) (_b6 : -9223372036854775808 ≤ v.bud ∧ v.bud ≤ 9223372036854775807) (_bd : 0 ≤ dm ∧ dm ≤ 65535) (_cx : -9223372036854775808 ≤ q.x ∧ q.x ≤ 9223372036854775807) (_cy : -9223372036854775808 ≤ q.y ∧ q.y ≤ 9223372036854775807) (_cz : -9223372036854775808 ≤ q.z ∧ q.z ≤ 9223372036854775807) : Calls Try.prog 6 #[.int .i64 depth, .agg (vwc v).toArray, .int .u16 dm, .agg (pcs q).toArray] w (RetB w true) := by
 have hm0 := Mem.nil w
 go_enter Try.func6, Try.ntmps6
 refine litStart 147 [(0, .int .i64 depth), (1, .agg (vwc v).toArray), (2, .int .u16 dm), (3, .agg (pcs q).toArray)] (by kernel_rfl) (fun X0 => ?_)
 refine wp_seq_k fun K1 hK1 => ?_
 refine plStart ?_
 refine plBox hm0 (cs := vwc v) (i := 0) rfl (wn rfl) rfl (litEv (by kernel_rfl)) ?_
 intro g2 w4 hm3
 clear hm0
 try simp only [List.cons_append, List.nil_append, List.set_cons_succ, List.set_cons_zero] at hm3
 refine qP rfl ?_
 refine plBox hm3 (cs := pcs q) (i := 1) rfl (wn rfl) rfl (litEv (by kernel_rfl)) ?_
 intro g5 w7 hm6
 clear hm3
 try simp only [List.cons_append, List.nil_append, List.set_cons_succ, List.set_cons_zero] at hm6
 refine qP rfl ?_
 refine lk (v := .bool false) rfl rfl rfl ?_
 refine plD ?_
 refine then_normal (hK1 _ _ ?_)
 refine wp_seq_k fun K8 hK8 => ?_
 refine wp_seq_k fun K9 hK9 => ?_
 refine plStart ?_
 refine lk (v := .int .i64 depth) rfl rfl rfl ?_
 by_cases h10 : depth < 2
 · refine litVal (v := .bool true) rfl (wn rfl) (boolTo (decide_eq_true h10) (lssRun (A := depth) (B := 2) (.tmp 20) (.const (.int .i64 2)) rfl (litEv (by kernel_rfl)) (litEv (by kernel_rfl)))) rfl (by decide) ?_
   refine lk (v := .bool true) rfl rfl rfl ?_
   refine plSkip (i := 3) rfl (wgN rfl rfl rfl (by decide) (by kernel_rfl)) ?_
   refine qP rfl ?_
   refine plSkip (i := 4) rfl (wgN rfl rfl rfl (by decide) (by kernel_rfl)) ?_
   refine qP rfl ?_
   refine lk (v := .bool true) rfl rfl rfl ?_
   refine lk (v := .bool true) rfl rfl rfl ?_
   refine plSkip (i := 7) rfl (wgN rfl rfl rfl (by decide) (by kernel_rfl)) ?_
   refine qP rfl ?_
   refine plSkip (i := 8) rfl (wgN rfl rfl rfl (by decide) (by kernel_rfl)) ?_
   refine qP rfl ?_
   refine plSkip (i := 9) rfl (wgN rfl rfl rfl (by decide) (by kernel_rfl)) ?_
   refine qP rfl ?_
   refine lk (v := .bool true) rfl rfl rfl ?_
   refine plD ?_
   refine then_normal (hK9 _ _ ?_)
   refine wp_cond_true (litEv (by kernel_rfl)) ?_
   refine wp_seq_k fun K11 hK11 => ?_
   refine plStart ?_
   refine plCall (i := 0) 8 [] [] [] rfl (by kernel_rfl) (wn rfl) rfl (litEv (by kernel_rfl)) (litArgs (by kernel_rfl)) (sanity_any _) ?_
   rintro e w12 ⟨rfl, hbz⟩
   have hm13 := hm6.below hbz
   clear hbz hm6
   refine ⟨_, rfl, ?_⟩
   refine qP rfl ?_
   refine lk (v := .bool true) rfl rfl rfl ?_
   refine plD ?_
   refine then_normal (hK11 _ _ ?_)
   refine wpPrune [(0, .int .i64 depth), (2, .int .u16 dm), (5, .pointer (some ⟨g2, 0, none⟩)), (7, .pointer (some ⟨g5, 0, none⟩)), (8, .bool true)] ⟨litGet (by kernel_rfl), ⟨litGet (by kernel_rfl), ⟨litGet (by kernel_rfl), ⟨litGet (by kernel_rfl), ⟨litGet (by kernel_rfl), trivial⟩⟩⟩⟩⟩ (fun X14 => ?_)
   refine wp_ret ?_
   refine then_ret ?_
   refine bodyPost_ret (v := .bool true) (gRes1 rfl (gResTmp (t := 8) (v := .bool true) (litGet (by kernel_rfl)))) rfl ?_
   exact ⟨rfl, hm13.bel⟩
 refine litVal (v := .bool false) rfl (wn rfl) (boolTo (decide_eq_false h10) (lssRun (A := depth) (B := 2) (.tmp 20) (.const (.int .i64 2)) rfl (litEv (by kernel_rfl)) (litEv (by kernel_rfl)))) rfl (by decide) ?_
 refine lk (v := .bool false) rfl rfl rfl ?_
 refine litVal (v := .int .i64 depth) rfl (wgY rfl rfl rfl (by decide) (by kernel_rfl)) (litRun (by kernel_rfl)) rfl (by decide) ?_
 by_cases h15 : 6 < depth
 · refine litVal (v := .bool true) rfl (wgY rfl rfl rfl (by decide) (by kernel_rfl)) (boolTo (decide_eq_true h15) (gtrRun (A := depth) (B := 6) (.tmp 23) (.const (.int .i64 6)) rfl (litEv (by kernel_rfl)) (litEv (by kernel_rfl)))) rfl (by decide) ?_
   refine lk (v := .bool true) rfl rfl rfl ?_
   refine lk (v := .bool true) rfl rfl rfl ?_
   refine plSkip (i := 7) rfl (wgN rfl rfl rfl (by decide) (by kernel_rfl)) ?_
   refine qP rfl ?_
   refine plSkip (i := 8) rfl (wgN rfl rfl rfl (by decide) (by kernel_rfl)) ?_
   refine qP rfl ?_
   refine plSkip (i := 9) rfl (wgN rfl rfl rfl (by decide) (by kernel_rfl)) ?_
   refine qP rfl ?_
   refine lk (v := .bool true) rfl rfl rfl ?_
   refine plD ?_
   refine then_normal (hK9 _ _ ?_)
   refine wp_cond_true (litEv (by kernel_rfl)) ?_
   refine wp_seq_k fun K16 hK16 => ?_
   refine plStart ?_
   refine plCall (i := 0) 8 [] [] [] rfl (by kernel_rfl) (wn rfl) rfl (litEv (by kernel_rfl)) (litArgs (by kernel_rfl)) (sanity_any _) ?_
   rintro e w17 ⟨rfl, hbz⟩
   have hm18 := hm6.below hbz
   clear hbz hm6
   refine ⟨_, rfl, ?_⟩
   refine qP rfl ?_
   refine lk (v := .bool true) rfl rfl rfl ?_
   refine plD ?_
   refine then_normal (hK16 _ _ ?_)
   refine wpPrune [(0, .int .i64 depth), (2, .int .u16 dm), (5, .pointer (some ⟨g2, 0, none⟩)), (7, .pointer (some ⟨g5, 0, none⟩)), (8, .bool true)] ⟨litGet (by kernel_rfl), ⟨litGet (by kernel_rfl), ⟨litGet (by kernel_rfl), ⟨litGet (by kernel_rfl), ⟨litGet (by kernel_rfl), trivial⟩⟩⟩⟩⟩ (fun X19 => ?_)
   refine wp_ret ?_
   refine then_ret ?_
   refine bodyPost_ret (v := .bool true) (gRes1 rfl (gResTmp (t := 8) (v := .bool true) (litGet (by kernel_rfl)))) rfl ?_
   exact ⟨rfl, hm18.bel⟩
 refine litVal (v := .bool false) rfl (wgY rfl rfl rfl (by decide) (by kernel_rfl)) (boolTo (decide_eq_false h15) (gtrRun (A := depth) (B := 6) (.tmp 23) (.const (.int .i64 6)) rfl (litEv (by kernel_rfl)) (litEv (by kernel_rfl)))) rfl (by decide) ?_
 refine lk (v := .bool false) rfl rfl rfl ?_
 refine lk (v := .bool false) rfl rfl rfl ?_
 refine litVal (v := .agg (vwc v).toArray) rfl (wgY rfl rfl rfl (by decide) (by kernel_rfl)) (gLoadAg (vs := vwc v) (k := 0) 0 hm6 rfl (by kernel_rfl) (by kernel_rfl) (.tmp 5) Ty.ag_voxel_api_Viewer rfl (litEv (by kernel_rfl))) rfl (by decide) ?_
 refine plCall (i := 8) 13 [.agg (vwc v).toArray] [] [] rfl (by kernel_rfl) (wgY rfl rfl rfl (by decide) (by kernel_rfl)) rfl (litEv (by kernel_rfl)) (litArgs (by kernel_rfl)) (rcheck_any v _) ?_
 rintro e w20 ⟨rfl, hbz⟩
 have hm21 := hm6.below hbz
 clear hbz hm6
 refine ⟨_, rfl, ?_⟩
 refine qP rfl ?_
 by_cases h22 : (ckV v) = 0
 · have hv_ : ckV v = 0 := h22
   refine litVal (v := .bool false) rfl (wgY rfl rfl rfl (by decide) (by kernel_rfl)) (boolTo (by rw [decide_eq_true h22]; rfl) (neqRun (A := (ckV v)) (B := 0) (.tmp 28) (.const (.int .i64 0)) rfl (litEv (by kernel_rfl)) (litEv (by kernel_rfl)))) rfl (by decide) ?_
   refine lk (v := .bool false) rfl rfl rfl ?_
   refine plD ?_
   refine then_normal (hK9 _ _ ?_)
   refine wp_cond_false (litEv (by kernel_rfl)) ?_
   refine wp_skip ?_
   refine then_normal (hK8 _ _ ?_)
   refine wpPrune [(0, .int .i64 depth), (2, .int .u16 dm), (5, .pointer (some ⟨g2, 0, none⟩)), (7, .pointer (some ⟨g5, 0, none⟩)), (8, .bool false)] ⟨litGet (by kernel_rfl), ⟨litGet (by kernel_rfl), ⟨litGet (by kernel_rfl), ⟨litGet (by kernel_rfl), ⟨litGet (by kernel_rfl), trivial⟩⟩⟩⟩⟩ (fun X23 => ?_)
   refine wp_seq_k fun K24 hK24 => ?_
   refine plStart ?_
   have hd_ : 2 ≤ depth ∧ depth ≤ 14 := by omega
   have hd6_ : depth ≤ 6 := by omega
   have hv2_ : ckV (v.more dm) = 0 := more_ck hv_ (by omega)
   have hck_ := ckV_ok hv_
   have hE1_ := free_E hd_ hv_
   have hE2_ := free_E hd_ hv2_
   have hlp_ : (planR (fun _ => 0) depth v).tiles.length ≤ 4096 := planR_len
   have hlq_ : (planR (fun _ => 0) depth (v.more dm)).tiles.length ≤ 4096 := planR_len
   refine lk (v := .func (.func 22) #[] #[]) rfl rfl rfl ?_
   refine plD ?_
   refine then_normal (hK24 _ _ ?_)
   refine wp_seq_k fun K25 hK25 => ?_
   refine plStart ?_
   refine lk (v := .int .i64 depth) rfl rfl rfl ?_
   refine litVal (v := .agg (vwc v).toArray) rfl (wn rfl) (gLoadAg (vs := vwc v) (k := 0) 0 hm21 rfl (by kernel_rfl) (by kernel_rfl) (.tmp 5) Ty.ag_voxel_api_Viewer rfl (litEv (by kernel_rfl))) rfl (by decide) ?_
   refine lk (v := .func (.func 22) #[] #[]) rfl rfl rfl ?_
   refine plCall (i := 3) 23 [.int .i64 depth, .agg (vwc v).toArray, .func (.func 22) #[] #[]] [] [] rfl (by kernel_rfl) (wn rfl) rfl (litEv (by kernel_rfl)) (litArgs (by kernel_rfl)) (by exact plan_any (f := fun _ => 0) (vf := 22) (first := []) (caps := []) depth v _ (price_free _)) ?_
   rintro e w26 ⟨v28, rfl, hown_, hbz⟩
   obtain ⟨A29, c30, rfl, hrd_⟩ := Rd.of_own hown_
   clear hrd_
   have hm27 := hm21.newRow hbz hown_
   clear hown_ hbz hm21
   try simp only [List.cons_append, List.nil_append, List.set_cons_succ, List.set_cons_zero] at hm27
   refine ⟨_, rfl, ?_⟩
   refine qP rfl ?_
   refine lk (v := .tuple #[.agg (plnC (.slice A29 ((planR (fun _ => 0) depth v).tiles.length) c30) (planR (fun _ => 0) depth v)).toArray, .int .i64 (planE (fun _ => 0) depth v)]) rfl rfl rfl ?_
   refine lk (v := .agg (plnC (.slice A29 ((planR (fun _ => 0) depth v).tiles.length) c30) (planR (fun _ => 0) depth v)).toArray) rfl rfl rfl ?_
   refine lk (v := .int .i64 (planE (fun _ => 0) depth v)) rfl rfl rfl ?_
   refine plAlloc (z := [.slice none 0 0, .int .i64 0, .int .i64 0, .int .i64 0]) Ty.ag_voxel_api_Planned hm27 (i := 7) rfl (wn rfl) rfl ?_
   intro g31 w33 hm32
   clear hm27
   try simp only [List.cons_append, List.nil_append, List.set_cons_succ, List.set_cons_zero] at hm32
   refine qP rfl ?_
   refine plStore 3 Ty.ag_voxel_api_Planned hm32 rfl (i := 8) (cs := plnC (.slice A29 ((planR (fun _ => 0) depth v).tiles.length) c30) (planR (fun _ => 0) depth v)) rfl (wn rfl) rfl (litEv (by kernel_rfl)) (litEv (by kernel_rfl)) rfl rfl (by kernel_rfl) ?_
   intro w35 hm34
   clear hm32
   try simp only [List.cons_append, List.nil_append, List.set_cons_succ, List.set_cons_zero] at hm34
   refine qNone rfl ?_
   refine lk (v := .int .i64 (planE (fun _ => 0) depth v)) rfl rfl rfl ?_
   refine plD ?_
   refine then_normal (hK25 _ _ ?_)
   refine wp_seq_k fun K36 hK36 => ?_
   refine plStart ?_
   refine litVal (v := .agg (vwc v).toArray) rfl (wn rfl) (gLoadAg (vs := vwc v) (k := 0) 0 hm34 rfl (by kernel_rfl) (by kernel_rfl) (.tmp 5) Ty.ag_voxel_api_Viewer rfl (litEv (by kernel_rfl))) rfl (by decide) ?_
   refine plAlloc (z := [.int .i64 0, .int .i64 0, .int .i64 0, .int .i64 0, .int .i64 0, .int .i64 0]) Ty.ag_voxel_api_Viewer hm34 (i := 1) rfl (wn rfl) rfl ?_
   intro g37 w39 hm38
   clear hm34
   try simp only [List.cons_append, List.nil_append, List.set_cons_succ, List.set_cons_zero] at hm38
   refine qP rfl ?_
   refine plStore 4 Ty.ag_voxel_api_Viewer hm38 rfl (i := 2) (cs := vwc v) rfl (wn rfl) rfl (litEv (by kernel_rfl)) (litEv (by kernel_rfl)) rfl rfl (by kernel_rfl) ?_
   intro w41 hm40
   clear hm38
   try simp only [List.cons_append, List.nil_append, List.set_cons_succ, List.set_cons_zero] at hm40
   refine qNone rfl ?_
   refine plD ?_
   refine then_normal (hK36 _ _ ?_)
   refine wp_seq_k fun K42 hK42 => ?_
   refine plStart ?_
   refine lk (v := .pointer (some ⟨g2, 4, none⟩)) rfl rfl rfl ?_
   refine litVal (v := .int .i64 v.tol) rfl (wn rfl) (gLoad (v := .int .i64 v.tol) (k := 4) 0 hm40 rfl (by kernel_rfl) (.tmp 40) (by kernel_rfl) rfl (litEv (by kernel_rfl))) rfl (by decide) ?_
   refine lk (v := .int .u16 dm) rfl rfl rfl ?_
   refine litVal (v := .int .i64 dm) rfl (wn rfl) (convIntRun (k := .u16) (A := dm) (.tmp 42) (by kernel_rfl) (by kernel_rfl) rfl (litEv (by kernel_rfl)) (by omega)) rfl (by decide) ?_
   refine litVal (v := .int .i64 (v.tol + dm)) rfl (wn rfl) (addRun (A := v.tol) (B := dm) (C := v.tol + dm) (.tmp 41) (.tmp 43) rfl (litEv (by kernel_rfl)) (litEv (by kernel_rfl)) rfl (by omega)) rfl (by decide) ?_
   refine litVal (v := .int .i64 (min (v.tol + dm) 1099511627776)) rfl (wn rfl) (gMin (.tmp 44) (.const (.int .i64 1099511627776)) rfl (litEv (by kernel_rfl)) (litEv (by kernel_rfl))) rfl (by decide) ?_
   refine lk (v := .pointer (some ⟨g37, 4, none⟩)) rfl rfl rfl ?_
   refine plStore1 (v := .int .i64 (min (v.tol + dm) 1099511627776)) (k := 4) 4 (by kernel_rfl) hm40 rfl (i := 7) rfl (wn rfl) rfl (litEv (by kernel_rfl)) (litEv (by kernel_rfl)) rfl rfl rfl ?_
   intro w44 hm43
   clear hm40
   try simp only [List.cons_append, List.nil_append, List.set_cons_succ, List.set_cons_zero] at hm43
   refine qNone rfl ?_
   refine plD ?_
   refine then_normal (hK42 _ _ ?_)
   refine wpPrune [(0, .int .i64 depth), (5, .pointer (some ⟨g2, 0, none⟩)), (7, .pointer (some ⟨g5, 0, none⟩)), (8, .bool false), (9, .func (.func 22) #[] #[]), (10, .pointer (some ⟨g31, 0, none⟩)), (11, .int .i64 (planE (fun _ => 0) depth v)), (12, .pointer (some ⟨g37, 0, none⟩))] ⟨litGet (by kernel_rfl), ⟨litGet (by kernel_rfl), ⟨litGet (by kernel_rfl), ⟨litGet (by kernel_rfl), ⟨litGet (by kernel_rfl), ⟨litGet (by kernel_rfl), ⟨litGet (by kernel_rfl), ⟨litGet (by kernel_rfl), trivial⟩⟩⟩⟩⟩⟩⟩⟩ (fun X45 => ?_)
   refine wp_seq_k fun K46 hK46 => ?_
   refine plStart ?_
   refine lk (v := .int .i64 depth) rfl rfl rfl ?_
   refine litVal (v := .agg ([.int .i64 v.p.x, .int .i64 v.p.y, .int .i64 v.p.z, .int .i64 v.sc, .int .i64 (min (v.tol + dm) 1099511627776), .int .i64 v.bud]).toArray) rfl (wn rfl) (gLoadAg (vs := [.int .i64 v.p.x, .int .i64 v.p.y, .int .i64 v.p.z, .int .i64 v.sc, .int .i64 (min (v.tol + dm) 1099511627776), .int .i64 v.bud]) (k := 0) 4 hm43 rfl (by kernel_rfl) (by kernel_rfl) (.tmp 12) Ty.ag_voxel_api_Viewer rfl (litEv (by kernel_rfl))) rfl (by decide) ?_
   refine lk (v := .func (.func 22) #[] #[]) rfl rfl rfl ?_
   refine plCall (i := 3) 23 [.int .i64 depth, .agg ([.int .i64 v.p.x, .int .i64 v.p.y, .int .i64 v.p.z, .int .i64 v.sc, .int .i64 (min (v.tol + dm) 1099511627776), .int .i64 v.bud]).toArray, .func (.func 22) #[] #[]] [] [] rfl (by kernel_rfl) (wn rfl) rfl (litEv (by kernel_rfl)) (litArgs (by kernel_rfl)) (by exact plan_any (f := fun _ => 0) (vf := 22) (first := []) (caps := []) depth (v.more dm) _ (price_free _)) ?_
   rintro e w47 ⟨v49, rfl, hown_, hbz⟩
   obtain ⟨A50, c51, rfl, hrd_⟩ := Rd.of_own hown_
   clear hrd_
   have hm48 := hm43.newRow hbz hown_
   clear hown_ hbz hm43
   try simp only [List.cons_append, List.nil_append, List.set_cons_succ, List.set_cons_zero] at hm48
   refine ⟨_, rfl, ?_⟩
   refine qP rfl ?_
   refine lk (v := .tuple #[.agg (plnC (.slice A50 ((planR (fun _ => 0) depth (v.more dm)).tiles.length) c51) (planR (fun _ => 0) depth (v.more dm))).toArray, .int .i64 (planE (fun _ => 0) depth (v.more dm))]) rfl rfl rfl ?_
   refine lk (v := .agg (plnC (.slice A50 ((planR (fun _ => 0) depth (v.more dm)).tiles.length) c51) (planR (fun _ => 0) depth (v.more dm))).toArray) rfl rfl rfl ?_
   refine lk (v := .int .i64 (planE (fun _ => 0) depth (v.more dm))) rfl rfl rfl ?_
   refine plAlloc (z := [.slice none 0 0, .int .i64 0, .int .i64 0, .int .i64 0]) Ty.ag_voxel_api_Planned hm48 (i := 7) rfl (wn rfl) rfl ?_
   intro g52 w54 hm53
   clear hm48
   try simp only [List.cons_append, List.nil_append, List.set_cons_succ, List.set_cons_zero] at hm53
   refine qP rfl ?_
   refine plStore 6 Ty.ag_voxel_api_Planned hm53 rfl (i := 8) (cs := plnC (.slice A50 ((planR (fun _ => 0) depth (v.more dm)).tiles.length) c51) (planR (fun _ => 0) depth (v.more dm))) rfl (wn rfl) rfl (litEv (by kernel_rfl)) (litEv (by kernel_rfl)) rfl rfl (by kernel_rfl) ?_
   intro w56 hm55
   clear hm53
   try simp only [List.cons_append, List.nil_append, List.set_cons_succ, List.set_cons_zero] at hm55
   refine qNone rfl ?_
   refine lk (v := .int .i64 (planE (fun _ => 0) depth (v.more dm))) rfl rfl rfl ?_
   refine plD ?_
   refine then_normal (hK46 _ _ ?_)
   refine wp_seq_k fun K57 hK57 => ?_
   refine wp_seq_k fun K58 hK58 => ?_
   refine plStart ?_
   refine lk (v := .int .i64 (planE (fun _ => 0) depth v)) rfl rfl rfl ?_
   refine litVal (v := .bool false) rfl (wn rfl) (boolTo (by rw [decide_eq_true hE1_]; rfl) (neqRun (A := (planE (fun _ => 0) depth v)) (B := 0) (.tmp 54) (.const (.int .i64 0)) rfl (litEv (by kernel_rfl)) (litEv (by kernel_rfl)))) rfl (by decide) ?_
   refine lk (v := .bool false) rfl rfl rfl ?_
   refine litVal (v := .int .i64 (planE (fun _ => 0) depth (v.more dm))) rfl (wgY rfl rfl rfl (by decide) (by kernel_rfl)) (litRun (by kernel_rfl)) rfl (by decide) ?_
   refine litVal (v := .bool false) rfl (wgY rfl rfl rfl (by decide) (by kernel_rfl)) (boolTo (by rw [decide_eq_true hE2_]; rfl) (neqRun (A := (planE (fun _ => 0) depth (v.more dm))) (B := 0) (.tmp 57) (.const (.int .i64 0)) rfl (litEv (by kernel_rfl)) (litEv (by kernel_rfl)))) rfl (by decide) ?_
   refine lk (v := .bool false) rfl rfl rfl ?_
   refine plD ?_
   refine then_normal (hK58 _ _ ?_)
   refine wpPrune [(0, .int .i64 depth), (5, .pointer (some ⟨g2, 0, none⟩)), (7, .pointer (some ⟨g5, 0, none⟩)), (8, .bool false), (10, .pointer (some ⟨g31, 0, none⟩)), (13, .pointer (some ⟨g52, 0, none⟩)), (59, .bool false)] ⟨litGet (by kernel_rfl), ⟨litGet (by kernel_rfl), ⟨litGet (by kernel_rfl), ⟨litGet (by kernel_rfl), ⟨litGet (by kernel_rfl), ⟨litGet (by kernel_rfl), ⟨litGet (by kernel_rfl), trivial⟩⟩⟩⟩⟩⟩⟩ (fun X59 => ?_)
   refine wp_cond_false (litEv (by kernel_rfl)) ?_
   refine wp_skip ?_
   refine then_normal (hK57 _ _ ?_)
   refine wp_seq_k fun K60 hK60 => ?_
   refine plStart ?_
   obtain ⟨b61, rfl⟩ := hm55.rowBlk (A := A29) (n := (planR (fun _ => 0) depth v).tiles.length) (c := c30) 2 rfl (planR_pos hE1_)
   obtain ⟨b62, rfl⟩ := hm55.rowBlk (A := A50) (n := (planR (fun _ => 0) depth (v.more dm)).tiles.length) (c := c51) 5 rfl (planR_pos hE2_)
   refine lk (v := .pointer (some ⟨g31, 0, none⟩)) rfl rfl rfl ?_
   refine litVal (v := .slice (some ⟨b61, 0, none⟩) ((planR (fun _ => 0) depth v).tiles.length) c30) rfl (wn rfl) (gLoad (v := .slice (some ⟨b61, 0, none⟩) ((planR (fun _ => 0) depth v).tiles.length) c30) (k := 0) 3 hm55 rfl (by kernel_rfl) (.tmp 60) (by kernel_rfl) rfl (litEv (by kernel_rfl))) rfl (by decide) ?_
   refine litVal (v := .int .i64 ((planR (fun _ => 0) depth v).tiles.length : Int)) rfl (wn rfl) (lenSlRun (A := some ⟨b61, 0, none⟩) (n := (planR (fun _ => 0) depth v).tiles.length) (c := c30) (.tmp 61) Ty.und_L_api_Tile rfl (litEv (by kernel_rfl))) rfl (by decide) ?_
   refine litVal (v := .int .i64 (((planR (fun _ => 0) depth v).tiles.length : Int) + 7)) rfl (wn rfl) (addRun (A := ((planR (fun _ => 0) depth v).tiles.length : Int)) (B := 7) (C := ((planR (fun _ => 0) depth v).tiles.length : Int) + 7) (.tmp 62) (.const (.int .i64 7)) rfl (litEv (by kernel_rfl)) (litEv (by kernel_rfl)) rfl (by omega)) rfl (by decide) ?_
   by_cases h63 : 4096 < (((planR (fun _ => 0) depth v).tiles.length : Int) + 7)
   · refine litVal (v := .bool true) rfl (wn rfl) (boolTo (decide_eq_true h63) (gtrRun (A := (((planR (fun _ => 0) depth v).tiles.length : Int) + 7)) (B := 4096) (.tmp 63) (.const (.int .i64 4096)) rfl (litEv (by kernel_rfl)) (litEv (by kernel_rfl)))) rfl (by decide) ?_
     refine lk (v := .bool true) rfl rfl rfl ?_
     refine plD ?_
     refine then_normal (hK60 _ _ ?_)
     refine wp_seq_k fun K64 hK64 => ?_
     refine wp_seq_k fun K65 hK65 => ?_
     refine plStart ?_
     refine lk (v := .pointer (some ⟨g31, 0, none⟩)) rfl rfl rfl ?_
     refine litVal (v := .slice (some ⟨b61, 0, none⟩) ((planR (fun _ => 0) depth v).tiles.length) c30) rfl (wn rfl) (gLoad (v := .slice (some ⟨b61, 0, none⟩) ((planR (fun _ => 0) depth v).tiles.length) c30) (k := 0) 3 hm55 rfl (by kernel_rfl) (.tmp 65) (by kernel_rfl) rfl (litEv (by kernel_rfl))) rfl (by decide) ?_
     refine litVal (v := .int .i64 ((planR (fun _ => 0) depth v).tiles.length : Int)) rfl (wn rfl) (lenSlRun (A := some ⟨b61, 0, none⟩) (n := (planR (fun _ => 0) depth v).tiles.length) (c := c30) (.tmp 66) Ty.und_L_api_Tile rfl (litEv (by kernel_rfl))) rfl (by decide) ?_
     refine lk (v := .int .i64 0) rfl rfl rfl ?_
     refine plD ?_
     refine then_normal (hK65 _ _ ?_)
     refine wp_block ?_
     refine gwLoop (fun n_ a_ w_ => ∃ (j : Nat), n_ = (planR (fun _ => 0) depth v).tiles.length - j ∧ (j ≤ (planR (fun _ => 0) depth v).tiles.length) ∧ Fr a_ 147 [(0, .int .i64 depth), (5, .pointer (some ⟨g2, 0, none⟩)), (7, .pointer (some ⟨g5, 0, none⟩)), (10, .pointer (some ⟨g31, 0, none⟩)), (13, .pointer (some ⟨g52, 0, none⟩)), (15, .bool true), (66, .slice (some ⟨b61, 0, none⟩) ((planR (fun _ => 0) depth v).tiles.length) c30), (67, .int .i64 ((planR (fun _ => 0) depth v).tiles.length : Int)), (68, .int .i64 (j : Int))] ∧ Mem w w_ [.arr g2 25 (vwc v), .arr g5 23 (pcs q), .row (.slice (some ⟨b61, 0, none⟩) ((planR (fun _ => 0) depth v).tiles.length) c30) 38 4 ((planR (fun _ => 0) depth v).tiles.length) (tlsC (planR (fun _ => 0) depth v).tiles), .arr g31 31 (plnC (.slice (some ⟨b61, 0, none⟩) ((planR (fun _ => 0) depth v).tiles.length) c30) (planR (fun _ => 0) depth v)), .arr g37 25 ([.int .i64 v.p.x, .int .i64 v.p.y, .int .i64 v.p.z, .int .i64 v.sc, .int .i64 (min (v.tol + dm) 1099511627776), .int .i64 v.bud]), .row (.slice (some ⟨b62, 0, none⟩) ((planR (fun _ => 0) depth (v.more dm)).tiles.length) c51) 38 4 ((planR (fun _ => 0) depth (v.more dm)).tiles.length) (tlsC (planR (fun _ => 0) depth (v.more dm)).tiles), .arr g52 31 (plnC (.slice (some ⟨b62, 0, none⟩) ((planR (fun _ => 0) depth (v.more dm)).tiles.length) c51) (planR (fun _ => 0) depth (v.more dm)))]) ((planR (fun _ => 0) depth v).tiles.length - 0) ⟨0, rfl, (Nat.zero_le _), ⟨litSize, rfl, ⟨litGet (by kernel_rfl), ⟨litGet (by kernel_rfl), ⟨litGet (by kernel_rfl), ⟨litGet (by kernel_rfl), ⟨litGet (by kernel_rfl), ⟨litGet (by kernel_rfl), ⟨litGet (by kernel_rfl), ⟨litGet (by kernel_rfl), ⟨litGet (by kernel_rfl), trivial⟩⟩⟩⟩⟩⟩⟩⟩⟩⟩, (hm55.sub (.cons_cons _ (.cons_cons _ (.cons_cons _ (.cons_cons _ (.cons_cons _ (.cons_cons _ (.cons_cons _ .slnil))))))))⟩ ?_
     clear hm55
     intro n_ a68 w66 hI_
     obtain ⟨j, rfl, hjl, hF_, hm67⟩ := hI_
     obtain ⟨X69, rfl⟩ := frLit hF_
     clear hF_
     refine wp_seq_k fun K70 hK70 => ?_
     refine plStart ?_
     by_cases h71 : (j : Int) < ((planR (fun _ => 0) depth v).tiles.length : Int)
     · obtain ⟨t, hkt⟩ : ∃ t, (planR (fun _ => 0) depth v).tiles[j]? = some t := ⟨_, List.getElem?_eq_getElem (by omega)⟩
       have htok : t.Ok := planR_ok t (List.mem_of_getElem? hkt)
       have hlv_ := htok.lv
       refine litVal (v := .bool true) rfl (wn rfl) (boolTo (decide_eq_true h71) (lssRun (A := (j : Int)) (B := ((planR (fun _ => 0) depth v).tiles.length : Int)) (.tmp 68) (.tmp 67) rfl (litEv (by kernel_rfl)) (litEv (by kernel_rfl)))) rfl (by decide) ?_
       refine plD ?_
       refine then_normal (hK70 _ _ ?_)
       refine wp_seq_k fun K72 hK72 => ?_
       refine wp_cond_true (litEv (by kernel_rfl)) ?_
       refine wp_skip ?_
       refine then_normal (hK72 _ _ ?_)
       refine wp_seq_k fun K73 hK73 => ?_
       refine wp_block ?_
       refine wp_seq_k fun K74 hK74 => ?_
       refine plStart ?_
       refine litVal (v := .pointer (some ⟨b61, 0 + j * 4, none⟩)) rfl (wn rfl) (gIaSl (b := b61) (off := 0) (n := (planR (fun _ => 0) depth v).tiles.length) (c := c30) (kk := .i64) (K := (j : Int)) (.tmp 66) (.tmp 68) j Ty.sl_L_api_Tile rfl (litEv (by kernel_rfl)) (litEv (by kernel_rfl)) (rfl) (by omega)) rfl (by decide) ?_
       refine litVal (v := .agg (tlc t).toArray) rfl (wn rfl) (gLoadAgRd (vs := tlc t) (m := j * 4) (hm67.rdRow 2 rfl) rfl (fun i_ u_ hu_ => tlsC_get hkt i_ u_ hu_) (by kernel_rfl) (by omega) (.tmp 70) Ty.ag_voxel_api_Tile rfl (litEv (by kernel_rfl))) rfl (by decide) ?_
       refine plAlloc (z := [.int .i64 0, .int .i64 0, .int .i64 0, .int .i64 0]) Ty.ag_voxel_api_Tile hm67 (i := 2) rfl (wn rfl) rfl ?_
       intro g75 w77 hm76
       clear hm67
       try simp only [List.cons_append, List.nil_append, List.set_cons_succ, List.set_cons_zero] at hm76
       refine qP rfl ?_
       refine plStore 7 Ty.ag_voxel_api_Tile hm76 rfl (i := 3) (cs := tlc t) rfl (wn rfl) rfl (litEv (by kernel_rfl)) (litEv (by kernel_rfl)) rfl rfl (by kernel_rfl) ?_
       intro w79 hm78
       clear hm76
       try simp only [List.cons_append, List.nil_append, List.set_cons_succ, List.set_cons_zero] at hm78
       refine qNone rfl ?_
       refine plD ?_
       refine then_normal (hK74 _ _ ?_)
       refine wp_seq_k fun K80 hK80 => ?_
       refine wp_seq_k fun K81 hK81 => ?_
       refine mgStart hm78 (by kernel_rfl) ?_
       intro w83 hm82
       clear hm78
       refine mk_ (i := 0) (v := .bool true) rfl rfl (fun _ _ _ h => h) hm82 rfl ?_
       refine mk_ (i := 1) (v := .bool false) rfl rfl (fun _ _ _ h => h) hm82 rfl ?_
       refine mk_ (i := 2) (v := .bool false) rfl rfl (fun _ _ _ h => h) hm82 rfl ?_
       refine mgSkip (i := 3) rfl (by kernel_rfl) (wgN rfl rfl rfl (by decide) (by kernel_rfl)) (fun _ _ _ h => h) hm82 ?_
       refine mP rfl ?_
       refine mgSkip (i := 4) rfl (by kernel_rfl) (wgN rfl rfl rfl (by decide) (by kernel_rfl)) (fun _ _ _ h => h) hm82 ?_
       refine mP rfl ?_
       refine mgSkip (i := 5) rfl (by kernel_rfl) (wgN rfl rfl rfl (by decide) (by kernel_rfl)) (fun _ _ _ h => h) hm82 ?_
       refine mP rfl ?_
       refine mk_ (i := 6) (v := .bool false) rfl rfl (fun _ _ _ h => h) hm82 rfl ?_
       refine mk_ (i := 7) (v := .bool false) rfl rfl (fun _ _ _ h => h) hm82 rfl ?_
       refine mgSkip (i := 8) rfl (by kernel_rfl) (wgN rfl rfl rfl (by decide) (by kernel_rfl)) (fun _ _ _ h => h) hm82 ?_
       refine mP rfl ?_
       refine mgSkip (i := 9) rfl (by kernel_rfl) (wgN rfl rfl rfl (by decide) (by kernel_rfl)) (fun _ _ _ h => h) hm82 ?_
       refine mP rfl ?_
       refine mgSkip (i := 10) rfl (by kernel_rfl) (wgN rfl rfl rfl (by decide) (by kernel_rfl)) (fun _ _ _ h => h) hm82 ?_
       refine mP rfl ?_
       refine mgSkip (i := 11) rfl (by kernel_rfl) (wgN rfl rfl rfl (by decide) (by kernel_rfl)) (fun _ _ _ h => h) hm82 ?_
       refine mP rfl ?_
       refine mgSkip (i := 12) rfl (by kernel_rfl) (wgN rfl rfl rfl (by decide) (by kernel_rfl)) (fun _ _ _ h => h) hm82 ?_
       refine mP rfl ?_
       refine mgSkip (i := 13) rfl (by kernel_rfl) (wgN rfl rfl rfl (by decide) (by kernel_rfl)) (fun _ _ _ h => h) hm82 ?_
       refine mP rfl ?_
       refine mk_ (i := 14) (v := .bool false) rfl rfl (fun _ _ _ h => h) hm82 rfl ?_
       refine mgDone (by kernel_rfl) ?_
       refine then_normal (hK81 _ _ ?_)
       refine wp_cond_false (litEv (by kernel_rfl)) ?_
       refine wp_skip ?_
       refine then_normal (hK80 _ _ ?_)
       refine wp_seq_k fun K84 hK84 => ?_
       refine mgStart hm82 (by kernel_rfl) ?_
       intro w86 hm85
       clear hm82
       refine mk_ (i := 0) (v := .pointer (some ⟨g75, 0, none⟩)) rfl rfl (fun _ _ _ h => h) hm85 rfl ?_
       refine mgTake (i := 1) (v := .int .i64 t.lv) rfl (by kernel_rfl) (wn rfl) (fun _ _ _ h => h) hm85 (fun w_ h_ => gLoad (v := .int .i64 t.lv) (k := 0) 7 h_ rfl (by kernel_rfl) (.tmp 87) (by kernel_rfl) rfl (litEv (by kernel_rfl))) ?_
       refine mP rfl ?_
       refine mk_ (i := 2) (v := .int .i64 depth) rfl rfl (fun _ _ _ h => h) hm85 rfl ?_
       refine mgTake (i := 3) (v := .int .i64 (depth - 2)) rfl (by kernel_rfl) (wn rfl) (fun _ _ _ h => h) hm85 (fun w_ h_ => subRun (A := depth) (B := 2) (C := depth - 2) (.tmp 89) (.const (.int .i64 2)) rfl (litEv (by kernel_rfl)) (litEv (by kernel_rfl)) rfl (by omega)) ?_
       refine mP rfl ?_
       by_cases h87 : t.lv < (depth - 2)
       · refine mgTake (i := 4) (v := .bool true) rfl (by kernel_rfl) (wn rfl) (fun _ _ _ h => h) hm85 (fun w_ h_ => boolTo (decide_eq_true h87) (lssRun (A := t.lv) (B := (depth - 2)) (.tmp 88) (.tmp 90) rfl (litEv (by kernel_rfl)) (litEv (by kernel_rfl)))) ?_
         refine mP rfl ?_
         refine mk_ (i := 5) (v := .bool true) rfl rfl (fun _ _ _ h => h) hm85 rfl ?_
         refine mgTake (i := 6) (v := .agg (vwc v).toArray) rfl (by kernel_rfl) (wgY rfl rfl rfl (by decide) (by kernel_rfl)) (fun _ _ _ h => h) hm85 (fun w_ h_ => gLoadAg (vs := vwc v) (k := 0) 0 h_ rfl (by kernel_rfl) (by kernel_rfl) (.tmp 5) Ty.ag_voxel_api_Viewer rfl (litEv (by kernel_rfl))) ?_
         refine mP rfl ?_
         refine mgTake (i := 7) (v := .agg (tlc t).toArray) rfl (by kernel_rfl) (wgY rfl rfl rfl (by decide) (by kernel_rfl)) (fun _ _ _ h => h) hm85 (fun w_ h_ => gLoadAg (vs := tlc t) (k := 0) 7 h_ rfl (by kernel_rfl) (by kernel_rfl) (.tmp 17) Ty.ag_voxel_api_Tile rfl (litEv (by kernel_rfl))) ?_
         refine mP rfl ?_
         refine mgTake (i := 10) (v := .pointer (some ⟨g2, 4, none⟩)) rfl (by kernel_rfl) (wgY rfl rfl rfl (by decide) (by kernel_rfl)) (fun _ _ _ h => h) hm85 (fun w_ h_ => litRun (by kernel_rfl)) ?_
         refine mP rfl ?_
         refine mgTake (i := 11) (v := .int .i64 v.tol) rfl (by kernel_rfl) (wgY rfl rfl rfl (by decide) (by kernel_rfl)) (fun _ _ _ h => h) hm85 (fun w_ h_ => gLoad (v := .int .i64 v.tol) (k := 4) 0 h_ rfl (by kernel_rfl) (.tmp 97) (by kernel_rfl) rfl (litEv (by kernel_rfl))) ?_
         refine mP rfl ?_
         refine mgCall (i := 8) 24 [.agg (tlc t).toArray] [] [] (by kernel_rfl) rfl (by kernel_rfl) (wgY rfl rfl rfl (by decide) (by kernel_rfl)) rfl (litEv (by kernel_rfl)) (litArgs (by kernel_rfl)) (parent_any t htok (by omega) _) ?_
         rintro e w88 ⟨rfl, hbz⟩
         have hm89 := hm85.below hbz
         clear hbz hm85
         refine ⟨_, rfl, hm89, ?_⟩
         refine mP rfl ?_
         refine mgCall (i := 9) 15 [.agg (vwc v).toArray, .agg (tlc (tileAt (t.lv + 1) t.p)).toArray] [] [] (by kernel_rfl) rfl (by kernel_rfl) (wgY rfl rfl rfl (by decide) (by kernel_rfl)) rfl (litEv (by kernel_rfl)) (litArgs (by kernel_rfl)) (rerr_any v (tileAt (t.lv + 1) t.p) hv_ (tileAt_ok ⟨by omega, by omega⟩ htok.inP) _) ?_
         rintro e w90 ⟨rfl, hbz⟩
         have hm91 := hm89.below hbz
         clear hbz hm89
         refine ⟨_, rfl, hm91, ?_⟩
         refine mP rfl ?_
         refine mgTake (i := 12) (v := .bool false) rfl (by kernel_rfl) (wgY rfl rfl rfl (by decide) (by kernel_rfl)) (fun _ _ _ h => h) hm91 (fun w_ h_ => boolTo (decide_eq_false (Int.not_le.2 (planR_anc hE1_ t (List.mem_of_getElem? hkt) (t.lv + 1) (by omega) (by omega)))) (leqRun (A := (err v (tileAt (t.lv + 1) t.p))) (B := v.tol) (.tmp 96) (.tmp 98) rfl (litEv (by kernel_rfl)) (litEv (by kernel_rfl)))) ?_
         refine mP rfl ?_
         refine mk_ (i := 13) (v := .bool false) rfl rfl (fun _ _ _ h => h) hm91 rfl ?_
         refine mgDone (by kernel_rfl) ?_
         refine then_normal (hK84 _ _ ?_)
         refine wp_cond_false (litEv (by kernel_rfl)) ?_
         refine wp_skip ?_
         refine inBlock_normal ?_
         refine then_normal (hK73 _ _ ?_)
         refine plStart ?_
         refine litVal (v := .int .i64 ((j : Int) + 1)) rfl (wn rfl) (addRun (A := (j : Int)) (B := 1) (C := (j : Int) + 1) (.tmp 68) (.const (.int .i64 1)) rfl (litEv (by kernel_rfl)) (litEv (by kernel_rfl)) rfl (by omega)) rfl (by decide) ?_
         refine lk (v := .int .i64 ((j : Int) + 1)) rfl rfl rfl ?_
         refine plD ?_
         refine then_normal ?_
         exact ⟨_, by omega, (j + 1), rfl, (by omega), ⟨litSize, rfl, ⟨litGet (by kernel_rfl), ⟨litGet (by kernel_rfl), ⟨litGet (by kernel_rfl), ⟨litGet (by kernel_rfl), ⟨litGet (by kernel_rfl), ⟨litGet (by kernel_rfl), ⟨litGet (by kernel_rfl), ⟨litGet (by kernel_rfl), ⟨litGet (by kernel_rfl), trivial⟩⟩⟩⟩⟩⟩⟩⟩⟩⟩, (hm91.sub (.cons_cons _ (.cons_cons _ (.cons_cons _ (.cons_cons _ (.cons_cons _ (.cons_cons _ (.cons_cons _ (.cons _ .slnil)))))))))⟩
       refine mgTake (i := 4) (v := .bool false) rfl (by kernel_rfl) (wn rfl) (fun _ _ _ h => h) hm85 (fun w_ h_ => boolTo (decide_eq_false h87) (lssRun (A := t.lv) (B := (depth - 2)) (.tmp 88) (.tmp 90) rfl (litEv (by kernel_rfl)) (litEv (by kernel_rfl)))) ?_
       refine mP rfl ?_
       refine mk_ (i := 5) (v := .bool false) rfl rfl (fun _ _ _ h => h) hm85 rfl ?_
       refine mgSkip (i := 6) rfl (by kernel_rfl) (wgN rfl rfl rfl (by decide) (by kernel_rfl)) (fun _ _ _ h => h) hm85 ?_
       refine mP rfl ?_
       refine mgSkip (i := 7) rfl (by kernel_rfl) (wgN rfl rfl rfl (by decide) (by kernel_rfl)) (fun _ _ _ h => h) hm85 ?_
       refine mP rfl ?_
       refine mgSkip (i := 8) rfl (by kernel_rfl) (wgN rfl rfl rfl (by decide) (by kernel_rfl)) (fun _ _ _ h => h) hm85 ?_
       refine mP rfl ?_
       refine mgSkip (i := 9) rfl (by kernel_rfl) (wgN rfl rfl rfl (by decide) (by kernel_rfl)) (fun _ _ _ h => h) hm85 ?_
       refine mP rfl ?_
       refine mgSkip (i := 10) rfl (by kernel_rfl) (wgN rfl rfl rfl (by decide) (by kernel_rfl)) (fun _ _ _ h => h) hm85 ?_
       refine mP rfl ?_
       refine mgSkip (i := 11) rfl (by kernel_rfl) (wgN rfl rfl rfl (by decide) (by kernel_rfl)) (fun _ _ _ h => h) hm85 ?_
       refine mP rfl ?_
       refine mgSkip (i := 12) rfl (by kernel_rfl) (wgN rfl rfl rfl (by decide) (by kernel_rfl)) (fun _ _ _ h => h) hm85 ?_
       refine mP rfl ?_
       refine mk_ (i := 13) (v := .bool false) rfl rfl (fun _ _ _ h => h) hm85 rfl ?_
       refine mgDone (by kernel_rfl) ?_
       refine then_normal (hK84 _ _ ?_)
       refine wpPrune [(0, .int .i64 depth), (5, .pointer (some ⟨g2, 0, none⟩)), (7, .pointer (some ⟨g5, 0, none⟩)), (10, .pointer (some ⟨g31, 0, none⟩)), (13, .pointer (some ⟨g52, 0, none⟩)), (15, .bool true), (17, .pointer (some ⟨g75, 0, none⟩)), (66, .slice (some ⟨b61, 0, none⟩) ((planR (fun _ => 0) depth v).tiles.length) c30), (67, .int .i64 ((planR (fun _ => 0) depth v).tiles.length : Int)), (68, .int .i64 (j : Int)), (69, .bool true), (70, .pointer (some ⟨b61, 0 + j * 4, none⟩)), (71, .agg (tlc t).toArray), (72, .bool true), (73, .bool false), (74, .bool false), (78, .bool false), (79, .bool false), (86, .bool false), (87, .pointer (some ⟨g75, 0, none⟩)), (88, .int .i64 t.lv), (89, .int .i64 depth), (90, .int .i64 (depth - 2)), (91, .bool false), (92, .bool false), (100, .bool false)] ⟨litGet (by kernel_rfl), ⟨litGet (by kernel_rfl), ⟨litGet (by kernel_rfl), ⟨litGet (by kernel_rfl), ⟨litGet (by kernel_rfl), ⟨litGet (by kernel_rfl), ⟨litGet (by kernel_rfl), ⟨litGet (by kernel_rfl), ⟨litGet (by kernel_rfl), ⟨litGet (by kernel_rfl), ⟨litGet (by kernel_rfl), ⟨litGet (by kernel_rfl), ⟨litGet (by kernel_rfl), ⟨litGet (by kernel_rfl), ⟨litGet (by kernel_rfl), ⟨litGet (by kernel_rfl), ⟨litGet (by kernel_rfl), ⟨litGet (by kernel_rfl), ⟨litGet (by kernel_rfl), ⟨litGet (by kernel_rfl), ⟨litGet (by kernel_rfl), ⟨litGet (by kernel_rfl), ⟨litGet (by kernel_rfl), ⟨litGet (by kernel_rfl), ⟨litGet (by kernel_rfl), ⟨litGet (by kernel_rfl), trivial⟩⟩⟩⟩⟩⟩⟩⟩⟩⟩⟩⟩⟩⟩⟩⟩⟩⟩⟩⟩⟩⟩⟩⟩⟩⟩ (fun X92 => ?_)
       refine wp_cond_false (litEv (by kernel_rfl)) ?_
       refine wp_skip ?_
       refine inBlock_normal ?_
       refine then_normal (hK73 _ _ ?_)
       refine plStart ?_
       refine litVal (v := .int .i64 ((j : Int) + 1)) rfl (wn rfl) (addRun (A := (j : Int)) (B := 1) (C := (j : Int) + 1) (.tmp 68) (.const (.int .i64 1)) rfl (litEv (by kernel_rfl)) (litEv (by kernel_rfl)) rfl (by omega)) rfl (by decide) ?_
       refine lk (v := .int .i64 ((j : Int) + 1)) rfl rfl rfl ?_
       refine plD ?_
       refine then_normal ?_
       exact ⟨_, by omega, (j + 1), rfl, (by omega), ⟨litSize, rfl, ⟨litGet (by kernel_rfl), ⟨litGet (by kernel_rfl), ⟨litGet (by kernel_rfl), ⟨litGet (by kernel_rfl), ⟨litGet (by kernel_rfl), ⟨litGet (by kernel_rfl), ⟨litGet (by kernel_rfl), ⟨litGet (by kernel_rfl), ⟨litGet (by kernel_rfl), trivial⟩⟩⟩⟩⟩⟩⟩⟩⟩⟩, (hm85.sub (.cons_cons _ (.cons_cons _ (.cons_cons _ (.cons_cons _ (.cons_cons _ (.cons_cons _ (.cons_cons _ (.cons _ .slnil)))))))))⟩
     refine litVal (v := .bool false) rfl (wn rfl) (boolTo (decide_eq_false h71) (lssRun (A := (j : Int)) (B := ((planR (fun _ => 0) depth v).tiles.length : Int)) (.tmp 68) (.tmp 67) rfl (litEv (by kernel_rfl)) (litEv (by kernel_rfl)))) rfl (by decide) ?_
     refine plD ?_
     refine then_normal (hK70 _ _ ?_)
     refine wp_seq_k fun K93 hK93 => ?_
     refine wp_cond_false (litEv (by kernel_rfl)) ?_
     refine wp_exit ?_
     refine then_exit ?_
     refine then_exit ?_
     refine inBlock_exit ?_
     refine then_normal (hK64 _ _ ?_)
     refine wp_seq_k fun K94 hK94 => ?_
     refine mgStart hm67 (by kernel_rfl) ?_
     intro w96 hm95
     clear hm67
     refine mk_ (i := 0) (v := .pointer (some ⟨g31, 0, none⟩)) rfl rfl (fun _ _ _ h => h) hm95 rfl ?_
     refine mgTake (i := 1) (v := .slice (some ⟨b61, 0, none⟩) ((planR (fun _ => 0) depth v).tiles.length) c30) rfl (by kernel_rfl) (wn rfl) (fun _ _ _ h => h) hm95 (fun w_ h_ => gLoad (v := .slice (some ⟨b61, 0, none⟩) ((planR (fun _ => 0) depth v).tiles.length) c30) (k := 0) 3 h_ rfl (by kernel_rfl) (.tmp 102) (by kernel_rfl) rfl (litEv (by kernel_rfl))) ?_
     refine mP rfl ?_
     refine mgTake (i := 2) (v := .agg (pcs q).toArray) rfl (by kernel_rfl) (wn rfl) (fun _ _ _ h => h) hm95 (fun w_ h_ => gLoadAg (vs := pcs q) (k := 0) 1 h_ rfl (by kernel_rfl) (by kernel_rfl) (.tmp 7) Ty.ag_voxel_api_Point rfl (litEv (by kernel_rfl))) ?_
     refine mP rfl ?_
     refine mk_ (i := 4) (v := .pointer (some ⟨g52, 0, none⟩)) rfl rfl (fun _ _ _ h => h) hm95 rfl ?_
     refine mgTake (i := 5) (v := .slice (some ⟨b62, 0, none⟩) ((planR (fun _ => 0) depth (v.more dm)).tiles.length) c51) rfl (by kernel_rfl) (wn rfl) (fun _ _ _ h => h) hm95 (fun w_ h_ => gLoad (v := .slice (some ⟨b62, 0, none⟩) ((planR (fun _ => 0) depth (v.more dm)).tiles.length) c51) (k := 0) 6 h_ rfl (by kernel_rfl) (.tmp 106) (by kernel_rfl) rfl (litEv (by kernel_rfl))) ?_
     refine mP rfl ?_
     refine mgTake (i := 6) (v := .agg (pcs q).toArray) rfl (by kernel_rfl) (wn rfl) (fun _ _ _ h => h) hm95 (fun w_ h_ => gLoadAg (vs := pcs q) (k := 0) 1 h_ rfl (by kernel_rfl) (by kernel_rfl) (.tmp 7) Ty.ag_voxel_api_Point rfl (litEv (by kernel_rfl))) ?_
     refine mP rfl ?_
     refine mgCall (i := 3) 25 [.slice (some ⟨b61, 0, none⟩) ((planR (fun _ => 0) depth v).tiles.length) c30, .agg (pcs q).toArray] [] [] (by kernel_rfl) rfl (by kernel_rfl) (wn rfl) rfl (litEv (by kernel_rfl)) (litArgs (by kernel_rfl)) (find_any (planR (fun _ => 0) depth v).tiles q _ _ _ (hm95.rdRow 2 rfl) planR_ok (planR_pos hE1_) planR_len) ?_
     rintro e w97 ⟨rfl, hbz⟩
     have hm98 := hm95.below hbz
     clear hbz hm95
     refine ⟨_, rfl, hm98, ?_⟩
     refine mP rfl ?_
     refine mgCall (i := 7) 25 [.slice (some ⟨b62, 0, none⟩) ((planR (fun _ => 0) depth (v.more dm)).tiles.length) c51, .agg (pcs q).toArray] [] [] (by kernel_rfl) rfl (by kernel_rfl) (wn rfl) rfl (litEv (by kernel_rfl)) (litArgs (by kernel_rfl)) (find_any (planR (fun _ => 0) depth (v.more dm)).tiles q _ _ _ (hm98.rdRow 5 rfl) planR_ok (planR_pos hE2_) planR_len) ?_
     rintro e w99 ⟨rfl, hbz⟩
     have hm100 := hm98.below hbz
     clear hbz hm98
     refine ⟨_, rfl, hm100, ?_⟩
     refine mP rfl ?_
     refine mk_ (i := 8) (v := .int .i64 (findP (planR (fun _ => 0) depth v).tiles q)) rfl rfl (fun _ _ _ h => h) hm100 rfl ?_
     refine mk_ (i := 9) (v := .int .i64 (findP (planR (fun _ => 0) depth (v.more dm)).tiles q)) rfl rfl (fun _ _ _ h => h) hm100 rfl ?_
     refine mgDone (by kernel_rfl) ?_
     refine then_normal (hK94 _ _ ?_)
     refine wpPrune [(10, .pointer (some ⟨g31, 0, none⟩)), (13, .pointer (some ⟨g52, 0, none⟩)), (15, .bool true), (18, .int .i64 (findP (planR (fun _ => 0) depth v).tiles q)), (19, .int .i64 (findP (planR (fun _ => 0) depth (v.more dm)).tiles q))] ⟨litGet (by kernel_rfl), ⟨litGet (by kernel_rfl), ⟨litGet (by kernel_rfl), ⟨litGet (by kernel_rfl), ⟨litGet (by kernel_rfl), trivial⟩⟩⟩⟩⟩ (fun X101 => ?_)
     refine wp_seq_k fun K102 hK102 => ?_
     refine wp_seq_k fun K103 hK103 => ?_
     refine plStart ?_
     refine lk (v := .int .i64 (findP (planR (fun _ => 0) depth v).tiles q)) rfl rfl rfl ?_
     by_cases h104 : (findP (planR (fun _ => 0) depth v).tiles q) < 0
     · refine litVal (v := .bool true) rfl (wn rfl) (boolTo (decide_eq_true h104) (lssRun (A := (findP (planR (fun _ => 0) depth v).tiles q)) (B := 0) (.tmp 110) (.const (.int .i64 0)) rfl (litEv (by kernel_rfl)) (litEv (by kernel_rfl)))) rfl (by decide) ?_
       refine lk (v := .int .i64 (findP (planR (fun _ => 0) depth (v.more dm)).tiles q)) rfl rfl rfl ?_
       refine litVal (v := .bool true) rfl (wn rfl) (boolTo (decide_eq_true ((findP_in hE2_ q).2 ((findP_in hE1_ q).1 h104))) (lssRun (A := (findP (planR (fun _ => 0) depth (v.more dm)).tiles q)) (B := 0) (.tmp 112) (.const (.int .i64 0)) rfl (litEv (by kernel_rfl)) (litEv (by kernel_rfl)))) rfl (by decide) ?_
       refine lk (v := .bool false) rfl rfl rfl ?_
       refine lk (v := .bool false) rfl rfl rfl ?_
       refine litVal (v := .int .i64 (findP (planR (fun _ => 0) depth v).tiles q)) rfl (wgY rfl rfl rfl (by decide) (by kernel_rfl)) (litRun (by kernel_rfl)) rfl (by decide) ?_
       refine litVal (v := .bool true) rfl (wgY rfl rfl rfl (by decide) (by kernel_rfl)) (boolTo (decide_eq_true h104) (lssRun (A := (findP (planR (fun _ => 0) depth v).tiles q)) (B := 0) (.tmp 116) (.const (.int .i64 0)) rfl (litEv (by kernel_rfl)) (litEv (by kernel_rfl)))) rfl (by decide) ?_
       refine lk (v := .bool true) rfl rfl rfl ?_
       refine plD ?_
       refine then_normal (hK103 _ _ ?_)
       refine wp_cond_true (litEv (by kernel_rfl)) ?_
       refine wp_seq_k fun K105 hK105 => ?_
       refine plStart ?_
       refine plCall (i := 0) 8 [] [] [] rfl (by kernel_rfl) (wn rfl) rfl (litEv (by kernel_rfl)) (litArgs (by kernel_rfl)) (sanity_any _) ?_
       rintro e w106 ⟨rfl, hbz⟩
       have hm107 := hm100.below hbz
       clear hbz hm100
       refine ⟨_, rfl, ?_⟩
       refine qP rfl ?_
       refine lk (v := .bool true) rfl rfl rfl ?_
       refine litVal (v := .int .i64 (findP (planR (fun _ => 0) depth v).tiles q)) rfl (wgY rfl rfl rfl (by decide) (by kernel_rfl)) (litRun (by kernel_rfl)) rfl (by decide) ?_
       refine litVal (v := .bool true) rfl (wgY rfl rfl rfl (by decide) (by kernel_rfl)) (boolTo (decide_eq_true h104) (lssRun (A := (findP (planR (fun _ => 0) depth v).tiles q)) (B := 0) (.tmp 121) (.const (.int .i64 0)) rfl (litEv (by kernel_rfl)) (litEv (by kernel_rfl)))) rfl (by decide) ?_
       refine lk (v := .bool true) rfl rfl rfl ?_
       refine lk (v := .bool true) rfl rfl rfl ?_
       refine litVal (v := .int .i64 (findP (planR (fun _ => 0) depth (v.more dm)).tiles q)) rfl (wgY rfl rfl rfl (by decide) (by kernel_rfl)) (litRun (by kernel_rfl)) rfl (by decide) ?_
       refine litVal (v := .bool true) rfl (wgY rfl rfl rfl (by decide) (by kernel_rfl)) (boolTo (decide_eq_true ((findP_in hE2_ q).2 ((findP_in hE1_ q).1 h104))) (lssRun (A := (findP (planR (fun _ => 0) depth (v.more dm)).tiles q)) (B := 0) (.tmp 125) (.const (.int .i64 0)) rfl (litEv (by kernel_rfl)) (litEv (by kernel_rfl)))) rfl (by decide) ?_
       refine lk (v := .bool true) rfl rfl rfl ?_
       refine lk (v := .bool true) rfl rfl rfl ?_
       refine plD ?_
       refine then_normal (hK105 _ _ ?_)
       refine wpPrune [(8, .bool true), (10, .pointer (some ⟨g31, 0, none⟩)), (13, .pointer (some ⟨g52, 0, none⟩)), (15, .bool true), (18, .int .i64 (findP (planR (fun _ => 0) depth v).tiles q)), (19, .int .i64 (findP (planR (fun _ => 0) depth (v.more dm)).tiles q))] ⟨litGet (by kernel_rfl), ⟨litGet (by kernel_rfl), ⟨litGet (by kernel_rfl), ⟨litGet (by kernel_rfl), ⟨litGet (by kernel_rfl), ⟨litGet (by kernel_rfl), trivial⟩⟩⟩⟩⟩⟩ (fun X108 => ?_)
       refine wp_ret ?_
       refine then_ret ?_
       refine bodyPost_ret (v := .bool true) (gRes1 rfl (gResTmp (t := 8) (v := .bool true) (litGet (by kernel_rfl)))) rfl ?_
       exact ⟨rfl, hm107.bel⟩
     refine litVal (v := .bool false) rfl (wn rfl) (boolTo (decide_eq_false h104) (lssRun (A := (findP (planR (fun _ => 0) depth v).tiles q)) (B := 0) (.tmp 110) (.const (.int .i64 0)) rfl (litEv (by kernel_rfl)) (litEv (by kernel_rfl)))) rfl (by decide) ?_
     refine lk (v := .int .i64 (findP (planR (fun _ => 0) depth (v.more dm)).tiles q)) rfl rfl rfl ?_
     refine litVal (v := .bool false) rfl (wn rfl) (boolTo (decide_eq_false (fun h_ => h104 ((findP_in hE1_ q).2 ((findP_in hE2_ q).1 h_)))) (lssRun (A := (findP (planR (fun _ => 0) depth (v.more dm)).tiles q)) (B := 0) (.tmp 112) (.const (.int .i64 0)) rfl (litEv (by kernel_rfl)) (litEv (by kernel_rfl)))) rfl (by decide) ?_
     refine lk (v := .bool false) rfl rfl rfl ?_
     refine lk (v := .bool false) rfl rfl rfl ?_
     refine litVal (v := .int .i64 (findP (planR (fun _ => 0) depth v).tiles q)) rfl (wgY rfl rfl rfl (by decide) (by kernel_rfl)) (litRun (by kernel_rfl)) rfl (by decide) ?_
     refine litVal (v := .bool false) rfl (wgY rfl rfl rfl (by decide) (by kernel_rfl)) (boolTo (decide_eq_false h104) (lssRun (A := (findP (planR (fun _ => 0) depth v).tiles q)) (B := 0) (.tmp 116) (.const (.int .i64 0)) rfl (litEv (by kernel_rfl)) (litEv (by kernel_rfl)))) rfl (by decide) ?_
     refine lk (v := .bool false) rfl rfl rfl ?_
     refine plD ?_
     refine then_normal (hK103 _ _ ?_)
     refine wp_cond_false (litEv (by kernel_rfl)) ?_
     refine wp_skip ?_
     refine then_normal (hK102 _ _ ?_)
     refine wp_seq_k fun K109 hK109 => ?_
     refine mgStart hm100 (by kernel_rfl) ?_
     intro w111 hm110
     clear hm100
     obtain ⟨kp, tp, hfp, hkp, hhp⟩ : ∃ (i : Nat) (t : Tl), findP (planR (fun _ => 0) depth v).tiles q = (i : Int) ∧ (planR (fun _ => 0) depth v).tiles[i]? = some t ∧ t.box.has q := by
       rcases findP_spec q (planR (fun _ => 0) depth v).tiles with h_ | h_
       · exact absurd h_.1 (by omega)
       · exact h_
     have hnq_ : ¬ findP (planR (fun _ => 0) depth (v.more dm)).tiles q < 0 := fun h_ => h104 ((findP_in hE1_ q).2 ((findP_in hE2_ q).1 h_))
     obtain ⟨kq, tq, hfq, hkq, hhq⟩ : ∃ (i : Nat) (t : Tl), findP (planR (fun _ => 0) depth (v.more dm)).tiles q = (i : Int) ∧ (planR (fun _ => 0) depth (v.more dm)).tiles[i]? = some t ∧ t.box.has q := by
       rcases findP_spec q (planR (fun _ => 0) depth (v.more dm)).tiles with h_ | h_
       · exact absurd h_.1 (by omega)
       · exact h_
     have hkpl_ := (List.getElem?_eq_some_iff.1 hkp).1
     have hkql_ := (List.getElem?_eq_some_iff.1 hkq).1
     rw [hfp, hfq]
     refine mgCall (i := 0) 8 [] [] [] (by kernel_rfl) rfl (by kernel_rfl) (wn rfl) rfl (litEv (by kernel_rfl)) (litArgs (by kernel_rfl)) (sanity_any _) ?_
     rintro e w112 ⟨rfl, hbz⟩
     have hm113 := hm110.below hbz
     clear hbz hm110
     refine ⟨_, rfl, hm113, ?_⟩
     refine mP rfl ?_
     refine mk_ (i := 1) (v := .bool true) rfl rfl (fun _ _ _ h => h) hm113 rfl ?_
     refine mgTake (i := 2) (v := .bool true) rfl (by kernel_rfl) (wgY rfl rfl rfl (by decide) (by kernel_rfl)) (fun _ _ _ h => h) hm113 (fun w_ h_ => litRun (by kernel_rfl)) ?_
     refine mP rfl ?_
     refine mgTake (i := 3) (v := .bool true) rfl (by kernel_rfl) (wgY rfl rfl rfl (by decide) (by kernel_rfl)) (fun _ _ _ h => h) hm113 (fun w_ h_ => litRun (by kernel_rfl)) ?_
     refine mP rfl ?_
     refine mgSkip (i := 4) rfl (by kernel_rfl) (wgN rfl rfl rfl (by decide) (by kernel_rfl)) (fun _ _ _ h => h) hm113 ?_
     refine mP rfl ?_
     refine mgSkip (i := 5) rfl (by kernel_rfl) (wgN rfl rfl rfl (by decide) (by kernel_rfl)) (fun _ _ _ h => h) hm113 ?_
     refine mP rfl ?_
     refine mgSkip (i := 6) rfl (by kernel_rfl) (wgN rfl rfl rfl (by decide) (by kernel_rfl)) (fun _ _ _ h => h) hm113 ?_
     refine mP rfl ?_
     refine mgSkip (i := 7) rfl (by kernel_rfl) (wgN rfl rfl rfl (by decide) (by kernel_rfl)) (fun _ _ _ h => h) hm113 ?_
     refine mP rfl ?_
     refine mgSkip (i := 8) rfl (by kernel_rfl) (wgN rfl rfl rfl (by decide) (by kernel_rfl)) (fun _ _ _ h => h) hm113 ?_
     refine mP rfl ?_
     refine mgSkip (i := 9) rfl (by kernel_rfl) (wgN rfl rfl rfl (by decide) (by kernel_rfl)) (fun _ _ _ h => h) hm113 ?_
     refine mP rfl ?_
     refine mgSkip (i := 10) rfl (by kernel_rfl) (wgN rfl rfl rfl (by decide) (by kernel_rfl)) (fun _ _ _ h => h) hm113 ?_
     refine mP rfl ?_
     refine mgSkip (i := 11) rfl (by kernel_rfl) (wgN rfl rfl rfl (by decide) (by kernel_rfl)) (fun _ _ _ h => h) hm113 ?_
     refine mP rfl ?_
     refine mgSkip (i := 12) rfl (by kernel_rfl) (wgN rfl rfl rfl (by decide) (by kernel_rfl)) (fun _ _ _ h => h) hm113 ?_
     refine mP rfl ?_
     refine mgSkip (i := 13) rfl (by kernel_rfl) (wgN rfl rfl rfl (by decide) (by kernel_rfl)) (fun _ _ _ h => h) hm113 ?_
     refine mP rfl ?_
     refine mgSkip (i := 14) rfl (by kernel_rfl) (wgN rfl rfl rfl (by decide) (by kernel_rfl)) (fun _ _ _ h => h) hm113 ?_
     refine mP rfl ?_
     refine mgSkip (i := 15) rfl (by kernel_rfl) (wgN rfl rfl rfl (by decide) (by kernel_rfl)) (fun _ _ _ h => h) hm113 ?_
     refine mP rfl ?_
     refine mgSkip (i := 16) rfl (by kernel_rfl) (wgN rfl rfl rfl (by decide) (by kernel_rfl)) (fun _ _ _ h => h) hm113 ?_
     refine mP rfl ?_
     refine mgTake (i := 17) (v := .bool true) rfl (by kernel_rfl) (wgY rfl rfl rfl (by decide) (by kernel_rfl)) (fun _ _ _ h => h) hm113 (fun w_ h_ => litRun (by kernel_rfl)) ?_
     refine mP rfl ?_
     refine mk_ (i := 18) (v := .bool true) rfl rfl (fun _ _ _ h => h) hm113 rfl ?_
     refine mk_ (i := 19) (v := .bool true) rfl rfl (fun _ _ _ h => h) hm113 rfl ?_
     refine mgDone (by kernel_rfl) ?_
     refine then_normal (hK109 _ _ ?_)
     refine wpPrune [(8, .bool true)] ⟨litGet (by kernel_rfl), trivial⟩ (fun X114 => ?_)
     refine wp_ret ?_
     refine bodyPost_ret (v := .bool true) (gRes1 rfl (gResTmp (t := 8) (v := .bool true) (litGet (by kernel_rfl)))) rfl ?_
     exact ⟨rfl, hm113.bel⟩
   refine litVal (v := .bool false) rfl (wn rfl) (boolTo (decide_eq_false h63) (gtrRun (A := (((planR (fun _ => 0) depth v).tiles.length : Int) + 7)) (B := 4096) (.tmp 63) (.const (.int .i64 4096)) rfl (litEv (by kernel_rfl)) (litEv (by kernel_rfl)))) rfl (by decide) ?_
   refine lk (v := .bool false) rfl rfl rfl ?_
   refine plD ?_
   refine then_normal (hK60 _ _ ?_)
   refine wp_seq_k fun K115 hK115 => ?_
   refine wp_seq_k fun K116 hK116 => ?_
   refine plStart ?_
   refine lk (v := .pointer (some ⟨g31, 0, none⟩)) rfl rfl rfl ?_
   refine litVal (v := .slice (some ⟨b61, 0, none⟩) ((planR (fun _ => 0) depth v).tiles.length) c30) rfl (wn rfl) (gLoad (v := .slice (some ⟨b61, 0, none⟩) ((planR (fun _ => 0) depth v).tiles.length) c30) (k := 0) 3 hm55 rfl (by kernel_rfl) (.tmp 65) (by kernel_rfl) rfl (litEv (by kernel_rfl))) rfl (by decide) ?_
   refine litVal (v := .int .i64 ((planR (fun _ => 0) depth v).tiles.length : Int)) rfl (wn rfl) (lenSlRun (A := some ⟨b61, 0, none⟩) (n := (planR (fun _ => 0) depth v).tiles.length) (c := c30) (.tmp 66) Ty.und_L_api_Tile rfl (litEv (by kernel_rfl))) rfl (by decide) ?_
   refine lk (v := .int .i64 0) rfl rfl rfl ?_
   refine plD ?_
   refine then_normal (hK116 _ _ ?_)
   refine wp_block ?_
   refine gwLoop (fun n_ a_ w_ => ∃ (j : Nat), n_ = (planR (fun _ => 0) depth v).tiles.length - j ∧ (j ≤ (planR (fun _ => 0) depth v).tiles.length) ∧ Fr a_ 147 [(0, .int .i64 depth), (5, .pointer (some ⟨g2, 0, none⟩)), (7, .pointer (some ⟨g5, 0, none⟩)), (10, .pointer (some ⟨g31, 0, none⟩)), (13, .pointer (some ⟨g52, 0, none⟩)), (15, .bool false), (66, .slice (some ⟨b61, 0, none⟩) ((planR (fun _ => 0) depth v).tiles.length) c30), (67, .int .i64 ((planR (fun _ => 0) depth v).tiles.length : Int)), (68, .int .i64 (j : Int))] ∧ Mem w w_ [.arr g2 25 (vwc v), .arr g5 23 (pcs q), .row (.slice (some ⟨b61, 0, none⟩) ((planR (fun _ => 0) depth v).tiles.length) c30) 38 4 ((planR (fun _ => 0) depth v).tiles.length) (tlsC (planR (fun _ => 0) depth v).tiles), .arr g31 31 (plnC (.slice (some ⟨b61, 0, none⟩) ((planR (fun _ => 0) depth v).tiles.length) c30) (planR (fun _ => 0) depth v)), .arr g37 25 ([.int .i64 v.p.x, .int .i64 v.p.y, .int .i64 v.p.z, .int .i64 v.sc, .int .i64 (min (v.tol + dm) 1099511627776), .int .i64 v.bud]), .row (.slice (some ⟨b62, 0, none⟩) ((planR (fun _ => 0) depth (v.more dm)).tiles.length) c51) 38 4 ((planR (fun _ => 0) depth (v.more dm)).tiles.length) (tlsC (planR (fun _ => 0) depth (v.more dm)).tiles), .arr g52 31 (plnC (.slice (some ⟨b62, 0, none⟩) ((planR (fun _ => 0) depth (v.more dm)).tiles.length) c51) (planR (fun _ => 0) depth (v.more dm)))]) ((planR (fun _ => 0) depth v).tiles.length - 0) ⟨0, rfl, (Nat.zero_le _), ⟨litSize, rfl, ⟨litGet (by kernel_rfl), ⟨litGet (by kernel_rfl), ⟨litGet (by kernel_rfl), ⟨litGet (by kernel_rfl), ⟨litGet (by kernel_rfl), ⟨litGet (by kernel_rfl), ⟨litGet (by kernel_rfl), ⟨litGet (by kernel_rfl), ⟨litGet (by kernel_rfl), trivial⟩⟩⟩⟩⟩⟩⟩⟩⟩⟩, (hm55.sub (.cons_cons _ (.cons_cons _ (.cons_cons _ (.cons_cons _ (.cons_cons _ (.cons_cons _ (.cons_cons _ .slnil))))))))⟩ ?_
   clear hm55
   intro n_ a119 w117 hI_
   obtain ⟨j, rfl, hjl, hF_, hm118⟩ := hI_
   obtain ⟨X120, rfl⟩ := frLit hF_
   clear hF_
   refine wp_seq_k fun K121 hK121 => ?_
   refine plStart ?_
   by_cases h122 : (j : Int) < ((planR (fun _ => 0) depth v).tiles.length : Int)
   · obtain ⟨t, hkt⟩ : ∃ t, (planR (fun _ => 0) depth v).tiles[j]? = some t := ⟨_, List.getElem?_eq_getElem (by omega)⟩
     have htok : t.Ok := planR_ok t (List.mem_of_getElem? hkt)
     have hlv_ := htok.lv
     refine litVal (v := .bool true) rfl (wn rfl) (boolTo (decide_eq_true h122) (lssRun (A := (j : Int)) (B := ((planR (fun _ => 0) depth v).tiles.length : Int)) (.tmp 68) (.tmp 67) rfl (litEv (by kernel_rfl)) (litEv (by kernel_rfl)))) rfl (by decide) ?_
     refine plD ?_
     refine then_normal (hK121 _ _ ?_)
     refine wp_seq_k fun K123 hK123 => ?_
     refine wp_cond_true (litEv (by kernel_rfl)) ?_
     refine wp_skip ?_
     refine then_normal (hK123 _ _ ?_)
     refine wp_seq_k fun K124 hK124 => ?_
     refine wp_block ?_
     refine wp_seq_k fun K125 hK125 => ?_
     refine plStart ?_
     refine litVal (v := .pointer (some ⟨b61, 0 + j * 4, none⟩)) rfl (wn rfl) (gIaSl (b := b61) (off := 0) (n := (planR (fun _ => 0) depth v).tiles.length) (c := c30) (kk := .i64) (K := (j : Int)) (.tmp 66) (.tmp 68) j Ty.sl_L_api_Tile rfl (litEv (by kernel_rfl)) (litEv (by kernel_rfl)) (rfl) (by omega)) rfl (by decide) ?_
     refine litVal (v := .agg (tlc t).toArray) rfl (wn rfl) (gLoadAgRd (vs := tlc t) (m := j * 4) (hm118.rdRow 2 rfl) rfl (fun i_ u_ hu_ => tlsC_get hkt i_ u_ hu_) (by kernel_rfl) (by omega) (.tmp 70) Ty.ag_voxel_api_Tile rfl (litEv (by kernel_rfl))) rfl (by decide) ?_
     refine plAlloc (z := [.int .i64 0, .int .i64 0, .int .i64 0, .int .i64 0]) Ty.ag_voxel_api_Tile hm118 (i := 2) rfl (wn rfl) rfl ?_
     intro g126 w128 hm127
     clear hm118
     try simp only [List.cons_append, List.nil_append, List.set_cons_succ, List.set_cons_zero] at hm127
     refine qP rfl ?_
     refine plStore 7 Ty.ag_voxel_api_Tile hm127 rfl (i := 3) (cs := tlc t) rfl (wn rfl) rfl (litEv (by kernel_rfl)) (litEv (by kernel_rfl)) rfl rfl (by kernel_rfl) ?_
     intro w130 hm129
     clear hm127
     try simp only [List.cons_append, List.nil_append, List.set_cons_succ, List.set_cons_zero] at hm129
     refine qNone rfl ?_
     refine plD ?_
     refine then_normal (hK125 _ _ ?_)
     refine wp_seq_k fun K131 hK131 => ?_
     refine wp_seq_k fun K132 hK132 => ?_
     refine mgStart hm129 (by kernel_rfl) ?_
     intro w134 hm133
     clear hm129
     refine mk_ (i := 0) (v := .bool false) rfl rfl (fun _ _ _ h => h) hm133 rfl ?_
     refine mk_ (i := 1) (v := .bool true) rfl rfl (fun _ _ _ h => h) hm133 rfl ?_
     refine mk_ (i := 2) (v := .bool true) rfl rfl (fun _ _ _ h => h) hm133 rfl ?_
     refine mgTake (i := 3) (v := .pointer (some ⟨g126, 0, none⟩)) rfl (by kernel_rfl) (wgY rfl rfl rfl (by decide) (by kernel_rfl)) (fun _ _ _ h => h) hm133 (fun w_ h_ => litRun (by kernel_rfl)) ?_
     refine mP rfl ?_
     refine mgTake (i := 4) (v := .int .i64 t.lv) rfl (by kernel_rfl) (wgY rfl rfl rfl (by decide) (by kernel_rfl)) (fun _ _ _ h => h) hm133 (fun w_ h_ => gLoad (v := .int .i64 t.lv) (k := 0) 7 h_ rfl (by kernel_rfl) (.tmp 75) (by kernel_rfl) rfl (litEv (by kernel_rfl))) ?_
     refine mP rfl ?_
     by_cases h135 : 0 < t.lv
     · refine mgTake (i := 5) (v := .bool true) rfl (by kernel_rfl) (wgY rfl rfl rfl (by decide) (by kernel_rfl)) (fun _ _ _ h => h) hm133 (fun w_ h_ => boolTo (decide_eq_true h135) (gtrRun (A := t.lv) (B := 0) (.tmp 76) (.const (.int .i64 0)) rfl (litEv (by kernel_rfl)) (litEv (by kernel_rfl)))) ?_
       refine mP rfl ?_
       refine mk_ (i := 6) (v := .bool true) rfl rfl (fun _ _ _ h => h) hm133 rfl ?_
       refine mk_ (i := 7) (v := .bool true) rfl rfl (fun _ _ _ h => h) hm133 rfl ?_
       refine mgTake (i := 8) (v := .agg (vwc v).toArray) rfl (by kernel_rfl) (wgY rfl rfl rfl (by decide) (by kernel_rfl)) (fun _ _ _ h => h) hm133 (fun w_ h_ => gLoadAg (vs := vwc v) (k := 0) 0 h_ rfl (by kernel_rfl) (by kernel_rfl) (.tmp 5) Ty.ag_voxel_api_Viewer rfl (litEv (by kernel_rfl))) ?_
       refine mP rfl ?_
       refine mgTake (i := 9) (v := .agg (tlc t).toArray) rfl (by kernel_rfl) (wgY rfl rfl rfl (by decide) (by kernel_rfl)) (fun _ _ _ h => h) hm133 (fun w_ h_ => gLoadAg (vs := tlc t) (k := 0) 7 h_ rfl (by kernel_rfl) (by kernel_rfl) (.tmp 17) Ty.ag_voxel_api_Tile rfl (litEv (by kernel_rfl))) ?_
       refine mP rfl ?_
       refine mgTake (i := 11) (v := .pointer (some ⟨g2, 4, none⟩)) rfl (by kernel_rfl) (wgY rfl rfl rfl (by decide) (by kernel_rfl)) (fun _ _ _ h => h) hm133 (fun w_ h_ => litRun (by kernel_rfl)) ?_
       refine mP rfl ?_
       refine mgTake (i := 12) (v := .int .i64 v.tol) rfl (by kernel_rfl) (wgY rfl rfl rfl (by decide) (by kernel_rfl)) (fun _ _ _ h => h) hm133 (fun w_ h_ => gLoad (v := .int .i64 v.tol) (k := 4) 0 h_ rfl (by kernel_rfl) (.tmp 83) (by kernel_rfl) rfl (litEv (by kernel_rfl))) ?_
       refine mP rfl ?_
       refine mgCall (i := 10) 15 [.agg (vwc v).toArray, .agg (tlc t).toArray] [] [] (by kernel_rfl) rfl (by kernel_rfl) (wgY rfl rfl rfl (by decide) (by kernel_rfl)) rfl (litEv (by kernel_rfl)) (litArgs (by kernel_rfl)) (rerr_any v t hv_ htok _) ?_
       rintro e w136 ⟨rfl, hbz⟩
       have hm137 := hm133.below hbz
       clear hbz hm133
       refine ⟨_, rfl, hm137, ?_⟩
       refine mP rfl ?_
       refine mgTake (i := 13) (v := .bool false) rfl (by kernel_rfl) (wgY rfl rfl rfl (by decide) (by kernel_rfl)) (fun _ _ _ h => h) hm137 (fun w_ h_ => boolTo (decide_eq_false (Int.not_lt.2 (free_none hd_ hv_ (by omega) (List.mem_of_getElem? hkt) (by omega)))) (gtrRun (A := (err v t)) (B := v.tol) (.tmp 82) (.tmp 84) rfl (litEv (by kernel_rfl)) (litEv (by kernel_rfl)))) ?_
       refine mP rfl ?_
       refine mk_ (i := 14) (v := .bool false) rfl rfl (fun _ _ _ h => h) hm137 rfl ?_
       refine mgDone (by kernel_rfl) ?_
       refine then_normal (hK132 _ _ ?_)
       refine wp_cond_false (litEv (by kernel_rfl)) ?_
       refine wp_skip ?_
       refine then_normal (hK131 _ _ ?_)
       refine wp_seq_k fun K138 hK138 => ?_
       refine mgStart hm137 (by kernel_rfl) ?_
       intro w140 hm139
       clear hm137
       refine mk_ (i := 0) (v := .pointer (some ⟨g126, 0, none⟩)) rfl rfl (fun _ _ _ h => h) hm139 rfl ?_
       refine mgTake (i := 1) (v := .int .i64 t.lv) rfl (by kernel_rfl) (wn rfl) (fun _ _ _ h => h) hm139 (fun w_ h_ => gLoad (v := .int .i64 t.lv) (k := 0) 7 h_ rfl (by kernel_rfl) (.tmp 87) (by kernel_rfl) rfl (litEv (by kernel_rfl))) ?_
       refine mP rfl ?_
       refine mk_ (i := 2) (v := .int .i64 depth) rfl rfl (fun _ _ _ h => h) hm139 rfl ?_
       refine mgTake (i := 3) (v := .int .i64 (depth - 2)) rfl (by kernel_rfl) (wn rfl) (fun _ _ _ h => h) hm139 (fun w_ h_ => subRun (A := depth) (B := 2) (C := depth - 2) (.tmp 89) (.const (.int .i64 2)) rfl (litEv (by kernel_rfl)) (litEv (by kernel_rfl)) rfl (by omega)) ?_
       refine mP rfl ?_
       by_cases h141 : t.lv < (depth - 2)
       · refine mgTake (i := 4) (v := .bool true) rfl (by kernel_rfl) (wn rfl) (fun _ _ _ h => h) hm139 (fun w_ h_ => boolTo (decide_eq_true h141) (lssRun (A := t.lv) (B := (depth - 2)) (.tmp 88) (.tmp 90) rfl (litEv (by kernel_rfl)) (litEv (by kernel_rfl)))) ?_
         refine mP rfl ?_
         refine mk_ (i := 5) (v := .bool true) rfl rfl (fun _ _ _ h => h) hm139 rfl ?_
         refine mgTake (i := 6) (v := .agg (vwc v).toArray) rfl (by kernel_rfl) (wgY rfl rfl rfl (by decide) (by kernel_rfl)) (fun _ _ _ h => h) hm139 (fun w_ h_ => gLoadAg (vs := vwc v) (k := 0) 0 h_ rfl (by kernel_rfl) (by kernel_rfl) (.tmp 5) Ty.ag_voxel_api_Viewer rfl (litEv (by kernel_rfl))) ?_
         refine mP rfl ?_
         refine mgTake (i := 7) (v := .agg (tlc t).toArray) rfl (by kernel_rfl) (wgY rfl rfl rfl (by decide) (by kernel_rfl)) (fun _ _ _ h => h) hm139 (fun w_ h_ => gLoadAg (vs := tlc t) (k := 0) 7 h_ rfl (by kernel_rfl) (by kernel_rfl) (.tmp 17) Ty.ag_voxel_api_Tile rfl (litEv (by kernel_rfl))) ?_
         refine mP rfl ?_
         refine mgTake (i := 10) (v := .pointer (some ⟨g2, 4, none⟩)) rfl (by kernel_rfl) (wgY rfl rfl rfl (by decide) (by kernel_rfl)) (fun _ _ _ h => h) hm139 (fun w_ h_ => litRun (by kernel_rfl)) ?_
         refine mP rfl ?_
         refine mgTake (i := 11) (v := .int .i64 v.tol) rfl (by kernel_rfl) (wgY rfl rfl rfl (by decide) (by kernel_rfl)) (fun _ _ _ h => h) hm139 (fun w_ h_ => gLoad (v := .int .i64 v.tol) (k := 4) 0 h_ rfl (by kernel_rfl) (.tmp 97) (by kernel_rfl) rfl (litEv (by kernel_rfl))) ?_
         refine mP rfl ?_
         refine mgCall (i := 8) 24 [.agg (tlc t).toArray] [] [] (by kernel_rfl) rfl (by kernel_rfl) (wgY rfl rfl rfl (by decide) (by kernel_rfl)) rfl (litEv (by kernel_rfl)) (litArgs (by kernel_rfl)) (parent_any t htok (by omega) _) ?_
         rintro e w142 ⟨rfl, hbz⟩
         have hm143 := hm139.below hbz
         clear hbz hm139
         refine ⟨_, rfl, hm143, ?_⟩
         refine mP rfl ?_
         refine mgCall (i := 9) 15 [.agg (vwc v).toArray, .agg (tlc (tileAt (t.lv + 1) t.p)).toArray] [] [] (by kernel_rfl) rfl (by kernel_rfl) (wgY rfl rfl rfl (by decide) (by kernel_rfl)) rfl (litEv (by kernel_rfl)) (litArgs (by kernel_rfl)) (rerr_any v (tileAt (t.lv + 1) t.p) hv_ (tileAt_ok ⟨by omega, by omega⟩ htok.inP) _) ?_
         rintro e w144 ⟨rfl, hbz⟩
         have hm145 := hm143.below hbz
         clear hbz hm143
         refine ⟨_, rfl, hm145, ?_⟩
         refine mP rfl ?_
         refine mgTake (i := 12) (v := .bool false) rfl (by kernel_rfl) (wgY rfl rfl rfl (by decide) (by kernel_rfl)) (fun _ _ _ h => h) hm145 (fun w_ h_ => boolTo (decide_eq_false (Int.not_le.2 (planR_anc hE1_ t (List.mem_of_getElem? hkt) (t.lv + 1) (by omega) (by omega)))) (leqRun (A := (err v (tileAt (t.lv + 1) t.p))) (B := v.tol) (.tmp 96) (.tmp 98) rfl (litEv (by kernel_rfl)) (litEv (by kernel_rfl)))) ?_
         refine mP rfl ?_
         refine mk_ (i := 13) (v := .bool false) rfl rfl (fun _ _ _ h => h) hm145 rfl ?_
         refine mgDone (by kernel_rfl) ?_
         refine then_normal (hK138 _ _ ?_)
         refine wp_cond_false (litEv (by kernel_rfl)) ?_
         refine wp_skip ?_
         refine inBlock_normal ?_
         refine then_normal (hK124 _ _ ?_)
         refine plStart ?_
         refine litVal (v := .int .i64 ((j : Int) + 1)) rfl (wn rfl) (addRun (A := (j : Int)) (B := 1) (C := (j : Int) + 1) (.tmp 68) (.const (.int .i64 1)) rfl (litEv (by kernel_rfl)) (litEv (by kernel_rfl)) rfl (by omega)) rfl (by decide) ?_
         refine lk (v := .int .i64 ((j : Int) + 1)) rfl rfl rfl ?_
         refine plD ?_
         refine then_normal ?_
         exact ⟨_, by omega, (j + 1), rfl, (by omega), ⟨litSize, rfl, ⟨litGet (by kernel_rfl), ⟨litGet (by kernel_rfl), ⟨litGet (by kernel_rfl), ⟨litGet (by kernel_rfl), ⟨litGet (by kernel_rfl), ⟨litGet (by kernel_rfl), ⟨litGet (by kernel_rfl), ⟨litGet (by kernel_rfl), ⟨litGet (by kernel_rfl), trivial⟩⟩⟩⟩⟩⟩⟩⟩⟩⟩, (hm145.sub (.cons_cons _ (.cons_cons _ (.cons_cons _ (.cons_cons _ (.cons_cons _ (.cons_cons _ (.cons_cons _ (.cons _ .slnil)))))))))⟩
       refine mgTake (i := 4) (v := .bool false) rfl (by kernel_rfl) (wn rfl) (fun _ _ _ h => h) hm139 (fun w_ h_ => boolTo (decide_eq_false h141) (lssRun (A := t.lv) (B := (depth - 2)) (.tmp 88) (.tmp 90) rfl (litEv (by kernel_rfl)) (litEv (by kernel_rfl)))) ?_
       refine mP rfl ?_
       refine mk_ (i := 5) (v := .bool false) rfl rfl (fun _ _ _ h => h) hm139 rfl ?_
       refine mgSkip (i := 6) rfl (by kernel_rfl) (wgN rfl rfl rfl (by decide) (by kernel_rfl)) (fun _ _ _ h => h) hm139 ?_
       refine mP rfl ?_
       refine mgSkip (i := 7) rfl (by kernel_rfl) (wgN rfl rfl rfl (by decide) (by kernel_rfl)) (fun _ _ _ h => h) hm139 ?_
       refine mP rfl ?_
       refine mgSkip (i := 8) rfl (by kernel_rfl) (wgN rfl rfl rfl (by decide) (by kernel_rfl)) (fun _ _ _ h => h) hm139 ?_
       refine mP rfl ?_
       refine mgSkip (i := 9) rfl (by kernel_rfl) (wgN rfl rfl rfl (by decide) (by kernel_rfl)) (fun _ _ _ h => h) hm139 ?_
       refine mP rfl ?_
       refine mgSkip (i := 10) rfl (by kernel_rfl) (wgN rfl rfl rfl (by decide) (by kernel_rfl)) (fun _ _ _ h => h) hm139 ?_
       refine mP rfl ?_
       refine mgSkip (i := 11) rfl (by kernel_rfl) (wgN rfl rfl rfl (by decide) (by kernel_rfl)) (fun _ _ _ h => h) hm139 ?_
       refine mP rfl ?_
       refine mgSkip (i := 12) rfl (by kernel_rfl) (wgN rfl rfl rfl (by decide) (by kernel_rfl)) (fun _ _ _ h => h) hm139 ?_
       refine mP rfl ?_
       refine mk_ (i := 13) (v := .bool false) rfl rfl (fun _ _ _ h => h) hm139 rfl ?_
       refine mgDone (by kernel_rfl) ?_
       refine then_normal (hK138 _ _ ?_)
       refine wp_cond_false (litEv (by kernel_rfl)) ?_
       refine wp_skip ?_
       refine inBlock_normal ?_
       refine then_normal (hK124 _ _ ?_)
       refine plStart ?_
       refine litVal (v := .int .i64 ((j : Int) + 1)) rfl (wn rfl) (addRun (A := (j : Int)) (B := 1) (C := (j : Int) + 1) (.tmp 68) (.const (.int .i64 1)) rfl (litEv (by kernel_rfl)) (litEv (by kernel_rfl)) rfl (by omega)) rfl (by decide) ?_
       refine lk (v := .int .i64 ((j : Int) + 1)) rfl rfl rfl ?_
       refine plD ?_
       refine then_normal ?_
       exact ⟨_, by omega, (j + 1), rfl, (by omega), ⟨litSize, rfl, ⟨litGet (by kernel_rfl), ⟨litGet (by kernel_rfl), ⟨litGet (by kernel_rfl), ⟨litGet (by kernel_rfl), ⟨litGet (by kernel_rfl), ⟨litGet (by kernel_rfl), ⟨litGet (by kernel_rfl), ⟨litGet (by kernel_rfl), ⟨litGet (by kernel_rfl), trivial⟩⟩⟩⟩⟩⟩⟩⟩⟩⟩, (hm139.sub (.cons_cons _ (.cons_cons _ (.cons_cons _ (.cons_cons _ (.cons_cons _ (.cons_cons _ (.cons_cons _ (.cons _ .slnil)))))))))⟩
     refine mgTake (i := 5) (v := .bool false) rfl (by kernel_rfl) (wgY rfl rfl rfl (by decide) (by kernel_rfl)) (fun _ _ _ h => h) hm133 (fun w_ h_ => boolTo (decide_eq_false h135) (gtrRun (A := t.lv) (B := 0) (.tmp 76) (.const (.int .i64 0)) rfl (litEv (by kernel_rfl)) (litEv (by kernel_rfl)))) ?_
     refine mP rfl ?_
     refine mk_ (i := 6) (v := .bool false) rfl rfl (fun _ _ _ h => h) hm133 rfl ?_
     refine mk_ (i := 7) (v := .bool false) rfl rfl (fun _ _ _ h => h) hm133 rfl ?_
     refine mgSkip (i := 8) rfl (by kernel_rfl) (wgN rfl rfl rfl (by decide) (by kernel_rfl)) (fun _ _ _ h => h) hm133 ?_
     refine mP rfl ?_
     refine mgSkip (i := 9) rfl (by kernel_rfl) (wgN rfl rfl rfl (by decide) (by kernel_rfl)) (fun _ _ _ h => h) hm133 ?_
     refine mP rfl ?_
     refine mgSkip (i := 10) rfl (by kernel_rfl) (wgN rfl rfl rfl (by decide) (by kernel_rfl)) (fun _ _ _ h => h) hm133 ?_
     refine mP rfl ?_
     refine mgSkip (i := 11) rfl (by kernel_rfl) (wgN rfl rfl rfl (by decide) (by kernel_rfl)) (fun _ _ _ h => h) hm133 ?_
     refine mP rfl ?_
     refine mgSkip (i := 12) rfl (by kernel_rfl) (wgN rfl rfl rfl (by decide) (by kernel_rfl)) (fun _ _ _ h => h) hm133 ?_
     refine mP rfl ?_
     refine mgSkip (i := 13) rfl (by kernel_rfl) (wgN rfl rfl rfl (by decide) (by kernel_rfl)) (fun _ _ _ h => h) hm133 ?_
     refine mP rfl ?_
     refine mk_ (i := 14) (v := .bool false) rfl rfl (fun _ _ _ h => h) hm133 rfl ?_
     refine mgDone (by kernel_rfl) ?_
     refine then_normal (hK132 _ _ ?_)
     refine wp_cond_false (litEv (by kernel_rfl)) ?_
     refine wp_skip ?_
     refine then_normal (hK131 _ _ ?_)
     refine wp_seq_k fun K146 hK146 => ?_
     refine mgStart hm133 (by kernel_rfl) ?_
     intro w148 hm147
     clear hm133
     refine mk_ (i := 0) (v := .pointer (some ⟨g126, 0, none⟩)) rfl rfl (fun _ _ _ h => h) hm147 rfl ?_
     refine mgTake (i := 1) (v := .int .i64 t.lv) rfl (by kernel_rfl) (wn rfl) (fun _ _ _ h => h) hm147 (fun w_ h_ => gLoad (v := .int .i64 t.lv) (k := 0) 7 h_ rfl (by kernel_rfl) (.tmp 87) (by kernel_rfl) rfl (litEv (by kernel_rfl))) ?_
     refine mP rfl ?_
     refine mk_ (i := 2) (v := .int .i64 depth) rfl rfl (fun _ _ _ h => h) hm147 rfl ?_
     refine mgTake (i := 3) (v := .int .i64 (depth - 2)) rfl (by kernel_rfl) (wn rfl) (fun _ _ _ h => h) hm147 (fun w_ h_ => subRun (A := depth) (B := 2) (C := depth - 2) (.tmp 89) (.const (.int .i64 2)) rfl (litEv (by kernel_rfl)) (litEv (by kernel_rfl)) rfl (by omega)) ?_
     refine mP rfl ?_
     by_cases h149 : t.lv < (depth - 2)
     · refine mgTake (i := 4) (v := .bool true) rfl (by kernel_rfl) (wn rfl) (fun _ _ _ h => h) hm147 (fun w_ h_ => boolTo (decide_eq_true h149) (lssRun (A := t.lv) (B := (depth - 2)) (.tmp 88) (.tmp 90) rfl (litEv (by kernel_rfl)) (litEv (by kernel_rfl)))) ?_
       refine mP rfl ?_
       refine mk_ (i := 5) (v := .bool true) rfl rfl (fun _ _ _ h => h) hm147 rfl ?_
       refine mgTake (i := 6) (v := .agg (vwc v).toArray) rfl (by kernel_rfl) (wgY rfl rfl rfl (by decide) (by kernel_rfl)) (fun _ _ _ h => h) hm147 (fun w_ h_ => gLoadAg (vs := vwc v) (k := 0) 0 h_ rfl (by kernel_rfl) (by kernel_rfl) (.tmp 5) Ty.ag_voxel_api_Viewer rfl (litEv (by kernel_rfl))) ?_
       refine mP rfl ?_
       refine mgTake (i := 7) (v := .agg (tlc t).toArray) rfl (by kernel_rfl) (wgY rfl rfl rfl (by decide) (by kernel_rfl)) (fun _ _ _ h => h) hm147 (fun w_ h_ => gLoadAg (vs := tlc t) (k := 0) 7 h_ rfl (by kernel_rfl) (by kernel_rfl) (.tmp 17) Ty.ag_voxel_api_Tile rfl (litEv (by kernel_rfl))) ?_
       refine mP rfl ?_
       refine mgTake (i := 10) (v := .pointer (some ⟨g2, 4, none⟩)) rfl (by kernel_rfl) (wgY rfl rfl rfl (by decide) (by kernel_rfl)) (fun _ _ _ h => h) hm147 (fun w_ h_ => litRun (by kernel_rfl)) ?_
       refine mP rfl ?_
       refine mgTake (i := 11) (v := .int .i64 v.tol) rfl (by kernel_rfl) (wgY rfl rfl rfl (by decide) (by kernel_rfl)) (fun _ _ _ h => h) hm147 (fun w_ h_ => gLoad (v := .int .i64 v.tol) (k := 4) 0 h_ rfl (by kernel_rfl) (.tmp 97) (by kernel_rfl) rfl (litEv (by kernel_rfl))) ?_
       refine mP rfl ?_
       refine mgCall (i := 8) 24 [.agg (tlc t).toArray] [] [] (by kernel_rfl) rfl (by kernel_rfl) (wgY rfl rfl rfl (by decide) (by kernel_rfl)) rfl (litEv (by kernel_rfl)) (litArgs (by kernel_rfl)) (parent_any t htok (by omega) _) ?_
       rintro e w150 ⟨rfl, hbz⟩
       have hm151 := hm147.below hbz
       clear hbz hm147
       refine ⟨_, rfl, hm151, ?_⟩
       refine mP rfl ?_
       refine mgCall (i := 9) 15 [.agg (vwc v).toArray, .agg (tlc (tileAt (t.lv + 1) t.p)).toArray] [] [] (by kernel_rfl) rfl (by kernel_rfl) (wgY rfl rfl rfl (by decide) (by kernel_rfl)) rfl (litEv (by kernel_rfl)) (litArgs (by kernel_rfl)) (rerr_any v (tileAt (t.lv + 1) t.p) hv_ (tileAt_ok ⟨by omega, by omega⟩ htok.inP) _) ?_
       rintro e w152 ⟨rfl, hbz⟩
       have hm153 := hm151.below hbz
       clear hbz hm151
       refine ⟨_, rfl, hm153, ?_⟩
       refine mP rfl ?_
       refine mgTake (i := 12) (v := .bool false) rfl (by kernel_rfl) (wgY rfl rfl rfl (by decide) (by kernel_rfl)) (fun _ _ _ h => h) hm153 (fun w_ h_ => boolTo (decide_eq_false (Int.not_le.2 (planR_anc hE1_ t (List.mem_of_getElem? hkt) (t.lv + 1) (by omega) (by omega)))) (leqRun (A := (err v (tileAt (t.lv + 1) t.p))) (B := v.tol) (.tmp 96) (.tmp 98) rfl (litEv (by kernel_rfl)) (litEv (by kernel_rfl)))) ?_
       refine mP rfl ?_
       refine mk_ (i := 13) (v := .bool false) rfl rfl (fun _ _ _ h => h) hm153 rfl ?_
       refine mgDone (by kernel_rfl) ?_
       refine then_normal (hK146 _ _ ?_)
       refine wp_cond_false (litEv (by kernel_rfl)) ?_
       refine wp_skip ?_
       refine inBlock_normal ?_
       refine then_normal (hK124 _ _ ?_)
       refine plStart ?_
       refine litVal (v := .int .i64 ((j : Int) + 1)) rfl (wn rfl) (addRun (A := (j : Int)) (B := 1) (C := (j : Int) + 1) (.tmp 68) (.const (.int .i64 1)) rfl (litEv (by kernel_rfl)) (litEv (by kernel_rfl)) rfl (by omega)) rfl (by decide) ?_
       refine lk (v := .int .i64 ((j : Int) + 1)) rfl rfl rfl ?_
       refine plD ?_
       refine then_normal ?_
       exact ⟨_, by omega, (j + 1), rfl, (by omega), ⟨litSize, rfl, ⟨litGet (by kernel_rfl), ⟨litGet (by kernel_rfl), ⟨litGet (by kernel_rfl), ⟨litGet (by kernel_rfl), ⟨litGet (by kernel_rfl), ⟨litGet (by kernel_rfl), ⟨litGet (by kernel_rfl), ⟨litGet (by kernel_rfl), ⟨litGet (by kernel_rfl), trivial⟩⟩⟩⟩⟩⟩⟩⟩⟩⟩, (hm153.sub (.cons_cons _ (.cons_cons _ (.cons_cons _ (.cons_cons _ (.cons_cons _ (.cons_cons _ (.cons_cons _ (.cons _ .slnil)))))))))⟩
     refine mgTake (i := 4) (v := .bool false) rfl (by kernel_rfl) (wn rfl) (fun _ _ _ h => h) hm147 (fun w_ h_ => boolTo (decide_eq_false h149) (lssRun (A := t.lv) (B := (depth - 2)) (.tmp 88) (.tmp 90) rfl (litEv (by kernel_rfl)) (litEv (by kernel_rfl)))) ?_
     refine mP rfl ?_
     refine mk_ (i := 5) (v := .bool false) rfl rfl (fun _ _ _ h => h) hm147 rfl ?_
     refine mgSkip (i := 6) rfl (by kernel_rfl) (wgN rfl rfl rfl (by decide) (by kernel_rfl)) (fun _ _ _ h => h) hm147 ?_
     refine mP rfl ?_
     refine mgSkip (i := 7) rfl (by kernel_rfl) (wgN rfl rfl rfl (by decide) (by kernel_rfl)) (fun _ _ _ h => h) hm147 ?_
     refine mP rfl ?_
     refine mgSkip (i := 8) rfl (by kernel_rfl) (wgN rfl rfl rfl (by decide) (by kernel_rfl)) (fun _ _ _ h => h) hm147 ?_
     refine mP rfl ?_
     refine mgSkip (i := 9) rfl (by kernel_rfl) (wgN rfl rfl rfl (by decide) (by kernel_rfl)) (fun _ _ _ h => h) hm147 ?_
     refine mP rfl ?_
     refine mgSkip (i := 10) rfl (by kernel_rfl) (wgN rfl rfl rfl (by decide) (by kernel_rfl)) (fun _ _ _ h => h) hm147 ?_
     refine mP rfl ?_
     refine mgSkip (i := 11) rfl (by kernel_rfl) (wgN rfl rfl rfl (by decide) (by kernel_rfl)) (fun _ _ _ h => h) hm147 ?_
     refine mP rfl ?_
     refine mgSkip (i := 12) rfl (by kernel_rfl) (wgN rfl rfl rfl (by decide) (by kernel_rfl)) (fun _ _ _ h => h) hm147 ?_
     refine mP rfl ?_
     refine mk_ (i := 13) (v := .bool false) rfl rfl (fun _ _ _ h => h) hm147 rfl ?_
     refine mgDone (by kernel_rfl) ?_
     refine then_normal (hK146 _ _ ?_)
     refine wpPrune [(0, .int .i64 depth), (5, .pointer (some ⟨g2, 0, none⟩)), (7, .pointer (some ⟨g5, 0, none⟩)), (10, .pointer (some ⟨g31, 0, none⟩)), (13, .pointer (some ⟨g52, 0, none⟩)), (15, .bool false), (17, .pointer (some ⟨g126, 0, none⟩)), (66, .slice (some ⟨b61, 0, none⟩) ((planR (fun _ => 0) depth v).tiles.length) c30), (67, .int .i64 ((planR (fun _ => 0) depth v).tiles.length : Int)), (68, .int .i64 (j : Int)), (69, .bool true), (70, .pointer (some ⟨b61, 0 + j * 4, none⟩)), (71, .agg (tlc t).toArray), (72, .bool false), (73, .bool true), (74, .bool true), (75, .pointer (some ⟨g126, 0, none⟩)), (76, .int .i64 t.lv), (77, .bool false), (78, .bool false), (79, .bool false), (86, .bool false), (87, .pointer (some ⟨g126, 0, none⟩)), (88, .int .i64 t.lv), (89, .int .i64 depth), (90, .int .i64 (depth - 2)), (91, .bool false), (92, .bool false), (100, .bool false)] ⟨litGet (by kernel_rfl), ⟨litGet (by kernel_rfl), ⟨litGet (by kernel_rfl), ⟨litGet (by kernel_rfl), ⟨litGet (by kernel_rfl), ⟨litGet (by kernel_rfl), ⟨litGet (by kernel_rfl), ⟨litGet (by kernel_rfl), ⟨litGet (by kernel_rfl), ⟨litGet (by kernel_rfl), ⟨litGet (by kernel_rfl), ⟨litGet (by kernel_rfl), ⟨litGet (by kernel_rfl), ⟨litGet (by kernel_rfl), ⟨litGet (by kernel_rfl), ⟨litGet (by kernel_rfl), ⟨litGet (by kernel_rfl), ⟨litGet (by kernel_rfl), ⟨litGet (by kernel_rfl), ⟨litGet (by kernel_rfl), ⟨litGet (by kernel_rfl), ⟨litGet (by kernel_rfl), ⟨litGet (by kernel_rfl), ⟨litGet (by kernel_rfl), ⟨litGet (by kernel_rfl), ⟨litGet (by kernel_rfl), ⟨litGet (by kernel_rfl), ⟨litGet (by kernel_rfl), ⟨litGet (by kernel_rfl), trivial⟩⟩⟩⟩⟩⟩⟩⟩⟩⟩⟩⟩⟩⟩⟩⟩⟩⟩⟩⟩⟩⟩⟩⟩⟩⟩⟩⟩⟩ (fun X154 => ?_)
     refine wp_cond_false (litEv (by kernel_rfl)) ?_
     refine wp_skip ?_
     refine inBlock_normal ?_
     refine then_normal (hK124 _ _ ?_)
     refine plStart ?_
     refine litVal (v := .int .i64 ((j : Int) + 1)) rfl (wn rfl) (addRun (A := (j : Int)) (B := 1) (C := (j : Int) + 1) (.tmp 68) (.const (.int .i64 1)) rfl (litEv (by kernel_rfl)) (litEv (by kernel_rfl)) rfl (by omega)) rfl (by decide) ?_
     refine lk (v := .int .i64 ((j : Int) + 1)) rfl rfl rfl ?_
     refine plD ?_
     refine then_normal ?_
     exact ⟨_, by omega, (j + 1), rfl, (by omega), ⟨litSize, rfl, ⟨litGet (by kernel_rfl), ⟨litGet (by kernel_rfl), ⟨litGet (by kernel_rfl), ⟨litGet (by kernel_rfl), ⟨litGet (by kernel_rfl), ⟨litGet (by kernel_rfl), ⟨litGet (by kernel_rfl), ⟨litGet (by kernel_rfl), ⟨litGet (by kernel_rfl), trivial⟩⟩⟩⟩⟩⟩⟩⟩⟩⟩, (hm147.sub (.cons_cons _ (.cons_cons _ (.cons_cons _ (.cons_cons _ (.cons_cons _ (.cons_cons _ (.cons_cons _ (.cons _ .slnil)))))))))⟩
   refine litVal (v := .bool false) rfl (wn rfl) (boolTo (decide_eq_false h122) (lssRun (A := (j : Int)) (B := ((planR (fun _ => 0) depth v).tiles.length : Int)) (.tmp 68) (.tmp 67) rfl (litEv (by kernel_rfl)) (litEv (by kernel_rfl)))) rfl (by decide) ?_
   refine plD ?_
   refine then_normal (hK121 _ _ ?_)
   refine wp_seq_k fun K155 hK155 => ?_
   refine wp_cond_false (litEv (by kernel_rfl)) ?_
   refine wp_exit ?_
   refine then_exit ?_
   refine then_exit ?_
   refine inBlock_exit ?_
   refine then_normal (hK115 _ _ ?_)
   refine wp_seq_k fun K156 hK156 => ?_
   refine mgStart hm118 (by kernel_rfl) ?_
   intro w158 hm157
   clear hm118
   refine mk_ (i := 0) (v := .pointer (some ⟨g31, 0, none⟩)) rfl rfl (fun _ _ _ h => h) hm157 rfl ?_
   refine mgTake (i := 1) (v := .slice (some ⟨b61, 0, none⟩) ((planR (fun _ => 0) depth v).tiles.length) c30) rfl (by kernel_rfl) (wn rfl) (fun _ _ _ h => h) hm157 (fun w_ h_ => gLoad (v := .slice (some ⟨b61, 0, none⟩) ((planR (fun _ => 0) depth v).tiles.length) c30) (k := 0) 3 h_ rfl (by kernel_rfl) (.tmp 102) (by kernel_rfl) rfl (litEv (by kernel_rfl))) ?_
   refine mP rfl ?_
   refine mgTake (i := 2) (v := .agg (pcs q).toArray) rfl (by kernel_rfl) (wn rfl) (fun _ _ _ h => h) hm157 (fun w_ h_ => gLoadAg (vs := pcs q) (k := 0) 1 h_ rfl (by kernel_rfl) (by kernel_rfl) (.tmp 7) Ty.ag_voxel_api_Point rfl (litEv (by kernel_rfl))) ?_
   refine mP rfl ?_
   refine mk_ (i := 4) (v := .pointer (some ⟨g52, 0, none⟩)) rfl rfl (fun _ _ _ h => h) hm157 rfl ?_
   refine mgTake (i := 5) (v := .slice (some ⟨b62, 0, none⟩) ((planR (fun _ => 0) depth (v.more dm)).tiles.length) c51) rfl (by kernel_rfl) (wn rfl) (fun _ _ _ h => h) hm157 (fun w_ h_ => gLoad (v := .slice (some ⟨b62, 0, none⟩) ((planR (fun _ => 0) depth (v.more dm)).tiles.length) c51) (k := 0) 6 h_ rfl (by kernel_rfl) (.tmp 106) (by kernel_rfl) rfl (litEv (by kernel_rfl))) ?_
   refine mP rfl ?_
   refine mgTake (i := 6) (v := .agg (pcs q).toArray) rfl (by kernel_rfl) (wn rfl) (fun _ _ _ h => h) hm157 (fun w_ h_ => gLoadAg (vs := pcs q) (k := 0) 1 h_ rfl (by kernel_rfl) (by kernel_rfl) (.tmp 7) Ty.ag_voxel_api_Point rfl (litEv (by kernel_rfl))) ?_
   refine mP rfl ?_
   refine mgCall (i := 3) 25 [.slice (some ⟨b61, 0, none⟩) ((planR (fun _ => 0) depth v).tiles.length) c30, .agg (pcs q).toArray] [] [] (by kernel_rfl) rfl (by kernel_rfl) (wn rfl) rfl (litEv (by kernel_rfl)) (litArgs (by kernel_rfl)) (find_any (planR (fun _ => 0) depth v).tiles q _ _ _ (hm157.rdRow 2 rfl) planR_ok (planR_pos hE1_) planR_len) ?_
   rintro e w159 ⟨rfl, hbz⟩
   have hm160 := hm157.below hbz
   clear hbz hm157
   refine ⟨_, rfl, hm160, ?_⟩
   refine mP rfl ?_
   refine mgCall (i := 7) 25 [.slice (some ⟨b62, 0, none⟩) ((planR (fun _ => 0) depth (v.more dm)).tiles.length) c51, .agg (pcs q).toArray] [] [] (by kernel_rfl) rfl (by kernel_rfl) (wn rfl) rfl (litEv (by kernel_rfl)) (litArgs (by kernel_rfl)) (find_any (planR (fun _ => 0) depth (v.more dm)).tiles q _ _ _ (hm160.rdRow 5 rfl) planR_ok (planR_pos hE2_) planR_len) ?_
   rintro e w161 ⟨rfl, hbz⟩
   have hm162 := hm160.below hbz
   clear hbz hm160
   refine ⟨_, rfl, hm162, ?_⟩
   refine mP rfl ?_
   refine mk_ (i := 8) (v := .int .i64 (findP (planR (fun _ => 0) depth v).tiles q)) rfl rfl (fun _ _ _ h => h) hm162 rfl ?_
   refine mk_ (i := 9) (v := .int .i64 (findP (planR (fun _ => 0) depth (v.more dm)).tiles q)) rfl rfl (fun _ _ _ h => h) hm162 rfl ?_
   refine mgDone (by kernel_rfl) ?_
   refine then_normal (hK156 _ _ ?_)
   refine wpPrune [(10, .pointer (some ⟨g31, 0, none⟩)), (13, .pointer (some ⟨g52, 0, none⟩)), (15, .bool false), (18, .int .i64 (findP (planR (fun _ => 0) depth v).tiles q)), (19, .int .i64 (findP (planR (fun _ => 0) depth (v.more dm)).tiles q))] ⟨litGet (by kernel_rfl), ⟨litGet (by kernel_rfl), ⟨litGet (by kernel_rfl), ⟨litGet (by kernel_rfl), ⟨litGet (by kernel_rfl), trivial⟩⟩⟩⟩⟩ (fun X163 => ?_)
   refine wp_seq_k fun K164 hK164 => ?_
   refine wp_seq_k fun K165 hK165 => ?_
   refine plStart ?_
   refine lk (v := .int .i64 (findP (planR (fun _ => 0) depth v).tiles q)) rfl rfl rfl ?_
   by_cases h166 : (findP (planR (fun _ => 0) depth v).tiles q) < 0
   · refine litVal (v := .bool true) rfl (wn rfl) (boolTo (decide_eq_true h166) (lssRun (A := (findP (planR (fun _ => 0) depth v).tiles q)) (B := 0) (.tmp 110) (.const (.int .i64 0)) rfl (litEv (by kernel_rfl)) (litEv (by kernel_rfl)))) rfl (by decide) ?_
     refine lk (v := .int .i64 (findP (planR (fun _ => 0) depth (v.more dm)).tiles q)) rfl rfl rfl ?_
     refine litVal (v := .bool true) rfl (wn rfl) (boolTo (decide_eq_true ((findP_in hE2_ q).2 ((findP_in hE1_ q).1 h166))) (lssRun (A := (findP (planR (fun _ => 0) depth (v.more dm)).tiles q)) (B := 0) (.tmp 112) (.const (.int .i64 0)) rfl (litEv (by kernel_rfl)) (litEv (by kernel_rfl)))) rfl (by decide) ?_
     refine lk (v := .bool false) rfl rfl rfl ?_
     refine lk (v := .bool false) rfl rfl rfl ?_
     refine litVal (v := .int .i64 (findP (planR (fun _ => 0) depth v).tiles q)) rfl (wgY rfl rfl rfl (by decide) (by kernel_rfl)) (litRun (by kernel_rfl)) rfl (by decide) ?_
     refine litVal (v := .bool true) rfl (wgY rfl rfl rfl (by decide) (by kernel_rfl)) (boolTo (decide_eq_true h166) (lssRun (A := (findP (planR (fun _ => 0) depth v).tiles q)) (B := 0) (.tmp 116) (.const (.int .i64 0)) rfl (litEv (by kernel_rfl)) (litEv (by kernel_rfl)))) rfl (by decide) ?_
     refine lk (v := .bool true) rfl rfl rfl ?_
     refine plD ?_
     refine then_normal (hK165 _ _ ?_)
     refine wp_cond_true (litEv (by kernel_rfl)) ?_
     refine wp_seq_k fun K167 hK167 => ?_
     refine plStart ?_
     refine plCall (i := 0) 8 [] [] [] rfl (by kernel_rfl) (wn rfl) rfl (litEv (by kernel_rfl)) (litArgs (by kernel_rfl)) (sanity_any _) ?_
     rintro e w168 ⟨rfl, hbz⟩
     have hm169 := hm162.below hbz
     clear hbz hm162
     refine ⟨_, rfl, ?_⟩
     refine qP rfl ?_
     refine lk (v := .bool true) rfl rfl rfl ?_
     refine litVal (v := .int .i64 (findP (planR (fun _ => 0) depth v).tiles q)) rfl (wgY rfl rfl rfl (by decide) (by kernel_rfl)) (litRun (by kernel_rfl)) rfl (by decide) ?_
     refine litVal (v := .bool true) rfl (wgY rfl rfl rfl (by decide) (by kernel_rfl)) (boolTo (decide_eq_true h166) (lssRun (A := (findP (planR (fun _ => 0) depth v).tiles q)) (B := 0) (.tmp 121) (.const (.int .i64 0)) rfl (litEv (by kernel_rfl)) (litEv (by kernel_rfl)))) rfl (by decide) ?_
     refine lk (v := .bool true) rfl rfl rfl ?_
     refine lk (v := .bool true) rfl rfl rfl ?_
     refine litVal (v := .int .i64 (findP (planR (fun _ => 0) depth (v.more dm)).tiles q)) rfl (wgY rfl rfl rfl (by decide) (by kernel_rfl)) (litRun (by kernel_rfl)) rfl (by decide) ?_
     refine litVal (v := .bool true) rfl (wgY rfl rfl rfl (by decide) (by kernel_rfl)) (boolTo (decide_eq_true ((findP_in hE2_ q).2 ((findP_in hE1_ q).1 h166))) (lssRun (A := (findP (planR (fun _ => 0) depth (v.more dm)).tiles q)) (B := 0) (.tmp 125) (.const (.int .i64 0)) rfl (litEv (by kernel_rfl)) (litEv (by kernel_rfl)))) rfl (by decide) ?_
     refine lk (v := .bool true) rfl rfl rfl ?_
     refine lk (v := .bool true) rfl rfl rfl ?_
     refine plD ?_
     refine then_normal (hK167 _ _ ?_)
     refine wpPrune [(8, .bool true), (10, .pointer (some ⟨g31, 0, none⟩)), (13, .pointer (some ⟨g52, 0, none⟩)), (15, .bool false), (18, .int .i64 (findP (planR (fun _ => 0) depth v).tiles q)), (19, .int .i64 (findP (planR (fun _ => 0) depth (v.more dm)).tiles q))] ⟨litGet (by kernel_rfl), ⟨litGet (by kernel_rfl), ⟨litGet (by kernel_rfl), ⟨litGet (by kernel_rfl), ⟨litGet (by kernel_rfl), ⟨litGet (by kernel_rfl), trivial⟩⟩⟩⟩⟩⟩ (fun X170 => ?_)
     refine wp_ret ?_
     refine then_ret ?_
     refine bodyPost_ret (v := .bool true) (gRes1 rfl (gResTmp (t := 8) (v := .bool true) (litGet (by kernel_rfl)))) rfl ?_
     exact ⟨rfl, hm169.bel⟩
   refine litVal (v := .bool false) rfl (wn rfl) (boolTo (decide_eq_false h166) (lssRun (A := (findP (planR (fun _ => 0) depth v).tiles q)) (B := 0) (.tmp 110) (.const (.int .i64 0)) rfl (litEv (by kernel_rfl)) (litEv (by kernel_rfl)))) rfl (by decide) ?_
   refine lk (v := .int .i64 (findP (planR (fun _ => 0) depth (v.more dm)).tiles q)) rfl rfl rfl ?_
   refine litVal (v := .bool false) rfl (wn rfl) (boolTo (decide_eq_false (fun h_ => h166 ((findP_in hE1_ q).2 ((findP_in hE2_ q).1 h_)))) (lssRun (A := (findP (planR (fun _ => 0) depth (v.more dm)).tiles q)) (B := 0) (.tmp 112) (.const (.int .i64 0)) rfl (litEv (by kernel_rfl)) (litEv (by kernel_rfl)))) rfl (by decide) ?_
   refine lk (v := .bool false) rfl rfl rfl ?_
   refine lk (v := .bool false) rfl rfl rfl ?_
   refine litVal (v := .int .i64 (findP (planR (fun _ => 0) depth v).tiles q)) rfl (wgY rfl rfl rfl (by decide) (by kernel_rfl)) (litRun (by kernel_rfl)) rfl (by decide) ?_
   refine litVal (v := .bool false) rfl (wgY rfl rfl rfl (by decide) (by kernel_rfl)) (boolTo (decide_eq_false h166) (lssRun (A := (findP (planR (fun _ => 0) depth v).tiles q)) (B := 0) (.tmp 116) (.const (.int .i64 0)) rfl (litEv (by kernel_rfl)) (litEv (by kernel_rfl)))) rfl (by decide) ?_
   refine lk (v := .bool false) rfl rfl rfl ?_
   refine plD ?_
   refine then_normal (hK165 _ _ ?_)
   refine wp_cond_false (litEv (by kernel_rfl)) ?_
   refine wp_skip ?_
   refine then_normal (hK164 _ _ ?_)
   refine wp_seq_k fun K171 hK171 => ?_
   refine mgStart hm162 (by kernel_rfl) ?_
   intro w173 hm172
   clear hm162
   obtain ⟨kp, tp, hfp, hkp, hhp⟩ : ∃ (i : Nat) (t : Tl), findP (planR (fun _ => 0) depth v).tiles q = (i : Int) ∧ (planR (fun _ => 0) depth v).tiles[i]? = some t ∧ t.box.has q := by
     rcases findP_spec q (planR (fun _ => 0) depth v).tiles with h_ | h_
     · exact absurd h_.1 (by omega)
     · exact h_
   have hnq_ : ¬ findP (planR (fun _ => 0) depth (v.more dm)).tiles q < 0 := fun h_ => h166 ((findP_in hE1_ q).2 ((findP_in hE2_ q).1 h_))
   obtain ⟨kq, tq, hfq, hkq, hhq⟩ : ∃ (i : Nat) (t : Tl), findP (planR (fun _ => 0) depth (v.more dm)).tiles q = (i : Int) ∧ (planR (fun _ => 0) depth (v.more dm)).tiles[i]? = some t ∧ t.box.has q := by
     rcases findP_spec q (planR (fun _ => 0) depth (v.more dm)).tiles with h_ | h_
     · exact absurd h_.1 (by omega)
     · exact h_
   have hkpl_ := (List.getElem?_eq_some_iff.1 hkp).1
   have hkql_ := (List.getElem?_eq_some_iff.1 hkq).1
   rw [hfp, hfq]
   refine mgCall (i := 0) 8 [] [] [] (by kernel_rfl) rfl (by kernel_rfl) (wn rfl) rfl (litEv (by kernel_rfl)) (litArgs (by kernel_rfl)) (sanity_any _) ?_
   rintro e w174 ⟨rfl, hbz⟩
   have hm175 := hm172.below hbz
   clear hbz hm172
   refine ⟨_, rfl, hm175, ?_⟩
   refine mP rfl ?_
   refine mk_ (i := 1) (v := .bool true) rfl rfl (fun _ _ _ h => h) hm175 rfl ?_
   refine mgTake (i := 2) (v := .bool false) rfl (by kernel_rfl) (wgY rfl rfl rfl (by decide) (by kernel_rfl)) (fun _ _ _ h => h) hm175 (fun w_ h_ => litRun (by kernel_rfl)) ?_
   refine mP rfl ?_
   refine mgTake (i := 3) (v := .bool false) rfl (by kernel_rfl) (wgY rfl rfl rfl (by decide) (by kernel_rfl)) (fun _ _ _ h => h) hm175 (fun w_ h_ => litRun (by kernel_rfl)) ?_
   refine mP rfl ?_
   refine mgTake (i := 4) (v := .pointer (some ⟨g52, 0, none⟩)) rfl (by kernel_rfl) (wgY rfl rfl rfl (by decide) (by kernel_rfl)) (fun _ _ _ h => h) hm175 (fun w_ h_ => litRun (by kernel_rfl)) ?_
   refine mP rfl ?_
   refine mgTake (i := 5) (v := .slice (some ⟨b62, 0, none⟩) ((planR (fun _ => 0) depth (v.more dm)).tiles.length) c51) rfl (by kernel_rfl) (wgY rfl rfl rfl (by decide) (by kernel_rfl)) (fun _ _ _ h => h) hm175 (fun w_ h_ => gLoad (v := .slice (some ⟨b62, 0, none⟩) ((planR (fun _ => 0) depth (v.more dm)).tiles.length) c51) (k := 0) 6 h_ rfl (by kernel_rfl) (.tmp 132) (by kernel_rfl) rfl (litEv (by kernel_rfl))) ?_
   refine mP rfl ?_
   refine mgTake (i := 6) (v := .int .i64 (kq : Int)) rfl (by kernel_rfl) (wgY rfl rfl rfl (by decide) (by kernel_rfl)) (fun _ _ _ h => h) hm175 (fun w_ h_ => litRun (by kernel_rfl)) ?_
   refine mP rfl ?_
   refine mgTake (i := 7) (v := .pointer (some ⟨b62, 0 + kq * 4, none⟩)) rfl (by kernel_rfl) (wgY rfl rfl rfl (by decide) (by kernel_rfl)) (fun _ _ _ h => h) hm175 (fun w_ h_ => gIaSl (b := b62) (off := 0) (n := (planR (fun _ => 0) depth (v.more dm)).tiles.length) (c := c51) (kk := .i64) (K := (kq : Int)) (.tmp 133) (.tmp 134) kq Ty.sl_L_api_Tile rfl (litEv (by kernel_rfl)) (litEv (by kernel_rfl)) (rfl) (by have := (List.getElem?_eq_some_iff.1 hkq).1; omega)) ?_
   refine mP rfl ?_
   refine mgTake (i := 8) (v := .pointer (some ⟨b62, 0 + kq * 4, none⟩)) rfl (by kernel_rfl) (wgY rfl rfl rfl (by decide) (by kernel_rfl)) (fun _ _ _ h => h) hm175 (fun w_ h_ => litRun (by kernel_rfl)) ?_
   refine mP rfl ?_
   refine mgTake (i := 9) (v := .int .i64 tq.lv) rfl (by kernel_rfl) (wgY rfl rfl rfl (by decide) (by kernel_rfl)) (fun _ _ _ h => h) hm175 (fun w_ h_ => gLoadRd (v := .int .i64 tq.lv) (m := kq * 4) (h_.rdRow 5 rfl) rfl (tlsC_get hkq 0 _ rfl) (by omega) (.tmp 136) (by kernel_rfl) rfl (litEv (by kernel_rfl))) ?_
   refine mP rfl ?_
   refine mgTake (i := 10) (v := .pointer (some ⟨g31, 0, none⟩)) rfl (by kernel_rfl) (wgY rfl rfl rfl (by decide) (by kernel_rfl)) (fun _ _ _ h => h) hm175 (fun w_ h_ => litRun (by kernel_rfl)) ?_
   refine mP rfl ?_
   refine mgTake (i := 11) (v := .slice (some ⟨b61, 0, none⟩) ((planR (fun _ => 0) depth v).tiles.length) c30) rfl (by kernel_rfl) (wgY rfl rfl rfl (by decide) (by kernel_rfl)) (fun _ _ _ h => h) hm175 (fun w_ h_ => gLoad (v := .slice (some ⟨b61, 0, none⟩) ((planR (fun _ => 0) depth v).tiles.length) c30) (k := 0) 3 h_ rfl (by kernel_rfl) (.tmp 138) (by kernel_rfl) rfl (litEv (by kernel_rfl))) ?_
   refine mP rfl ?_
   refine mgTake (i := 12) (v := .int .i64 (kp : Int)) rfl (by kernel_rfl) (wgY rfl rfl rfl (by decide) (by kernel_rfl)) (fun _ _ _ h => h) hm175 (fun w_ h_ => litRun (by kernel_rfl)) ?_
   refine mP rfl ?_
   refine mgTake (i := 13) (v := .pointer (some ⟨b61, 0 + kp * 4, none⟩)) rfl (by kernel_rfl) (wgY rfl rfl rfl (by decide) (by kernel_rfl)) (fun _ _ _ h => h) hm175 (fun w_ h_ => gIaSl (b := b61) (off := 0) (n := (planR (fun _ => 0) depth v).tiles.length) (c := c30) (kk := .i64) (K := (kp : Int)) (.tmp 139) (.tmp 140) kp Ty.sl_L_api_Tile rfl (litEv (by kernel_rfl)) (litEv (by kernel_rfl)) (rfl) (by have := (List.getElem?_eq_some_iff.1 hkp).1; omega)) ?_
   refine mP rfl ?_
   refine mgTake (i := 14) (v := .pointer (some ⟨b61, 0 + kp * 4, none⟩)) rfl (by kernel_rfl) (wgY rfl rfl rfl (by decide) (by kernel_rfl)) (fun _ _ _ h => h) hm175 (fun w_ h_ => litRun (by kernel_rfl)) ?_
   refine mP rfl ?_
   refine mgTake (i := 15) (v := .int .i64 tp.lv) rfl (by kernel_rfl) (wgY rfl rfl rfl (by decide) (by kernel_rfl)) (fun _ _ _ h => h) hm175 (fun w_ h_ => gLoadRd (v := .int .i64 tp.lv) (m := kp * 4) (h_.rdRow 2 rfl) rfl (tlsC_get hkp 0 _ rfl) (by omega) (.tmp 142) (by kernel_rfl) rfl (litEv (by kernel_rfl))) ?_
   refine mP rfl ?_
   refine mgTake (i := 16) (v := .bool true) rfl (by kernel_rfl) (wgY rfl rfl rfl (by decide) (by kernel_rfl)) (fun _ _ _ h => h) hm175 (fun w_ h_ => boolTo (decide_eq_true (free_more hd_ hv_ (by omega) (by omega) (List.mem_of_getElem? hkp) (List.mem_of_getElem? hkq) hhp hhq)) (gGeq (A := tq.lv) (B := tp.lv) (.tmp 137) (.tmp 143) rfl (litEv (by kernel_rfl)) (litEv (by kernel_rfl)))) ?_
   refine mP rfl ?_
   refine mgTake (i := 17) (v := .bool true) rfl (by kernel_rfl) (wgY rfl rfl rfl (by decide) (by kernel_rfl)) (fun _ _ _ h => h) hm175 (fun w_ h_ => litRun (by kernel_rfl)) ?_
   refine mP rfl ?_
   refine mk_ (i := 18) (v := .bool true) rfl rfl (fun _ _ _ h => h) hm175 rfl ?_
   refine mk_ (i := 19) (v := .bool true) rfl rfl (fun _ _ _ h => h) hm175 rfl ?_
   refine mgDone (by kernel_rfl) ?_
   refine then_normal (hK171 _ _ ?_)
   refine wpPrune [(8, .bool true)] ⟨litGet (by kernel_rfl), trivial⟩ (fun X176 => ?_)
   refine wp_ret ?_
   refine bodyPost_ret (v := .bool true) (gRes1 rfl (gResTmp (t := 8) (v := .bool true) (litGet (by kernel_rfl)))) rfl ?_
   exact ⟨rfl, hm175.bel⟩
 refine litVal (v := .bool true) rfl (wgY rfl rfl rfl (by decide) (by kernel_rfl)) (boolTo (by rw [decide_eq_false h22]; rfl) (neqRun (A := (ckV v)) (B := 0) (.tmp 28) (.const (.int .i64 0)) rfl (litEv (by kernel_rfl)) (litEv (by kernel_rfl)))) rfl (by decide) ?_
 refine lk (v := .bool true) rfl rfl rfl ?_
 refine plD ?_
 refine then_normal (hK9 _ _ ?_)
 refine wp_cond_true (litEv (by kernel_rfl)) ?_
 refine wp_seq_k fun K177 hK177 => ?_
 refine plStart ?_
 refine plCall (i := 0) 8 [] [] [] rfl (by kernel_rfl) (wn rfl) rfl (litEv (by kernel_rfl)) (litArgs (by kernel_rfl)) (sanity_any _) ?_
 rintro e w178 ⟨rfl, hbz⟩
 have hm179 := hm21.below hbz
 clear hbz hm21
 refine ⟨_, rfl, ?_⟩
 refine qP rfl ?_
 refine lk (v := .bool true) rfl rfl rfl ?_
 refine plD ?_
 refine then_normal (hK177 _ _ ?_)
 refine wpPrune [(0, .int .i64 depth), (2, .int .u16 dm), (5, .pointer (some ⟨g2, 0, none⟩)), (7, .pointer (some ⟨g5, 0, none⟩)), (8, .bool true)] ⟨litGet (by kernel_rfl), ⟨litGet (by kernel_rfl), ⟨litGet (by kernel_rfl), ⟨litGet (by kernel_rfl), ⟨litGet (by kernel_rfl), trivial⟩⟩⟩⟩⟩ (fun X180 => ?_)
 refine wp_ret ?_
 refine then_ret ?_
 refine bodyPost_ret (v := .bool true) (gRes1 rfl (gResTmp (t := 8) (v := .bool true) (litGet (by kernel_rfl)))) rfl ?_
 exact ⟨rfl, hm179.bel⟩
end Go.Proofs.Ytkmhjgdpkddbnaa
