/-
  PlannerMatchesSpec: Check, Plan and Error return what is specified.
-/
import Derived.Test.YtkmhjgdpkddbnaaPH
import Derived.Test.YtkmhjgdpkddbnaaPJ
namespace Go.Proofs.Ytkmhjgdpkddbnaa
open Go.RowKit
set_option linter.unusedVariables false
set_option linter.unusedSimpArgs false

set_option maxRecDepth 100000 in
set_option maxHeartbeats 4000000 in
theorem walk_PlannerMatchesSpec (depth : Int) (v : Vw) (c_ : Cst) (w : World) (_b0 : -9223372036854775808 ≤ depth ∧ depth ≤ 9223372036854775807) (_b1 : -9223372036854775808 ≤ v.p.x ∧ v.p.x ≤ 9223372036854775807) (_b2 : -9223372036854775808 ≤ v.p.y ∧ v.p.y ≤ 9223372036854775807) (_b3 : -9223372036854775808 ≤ v.p.z ∧ v.p.z ≤ 9223372036854775807) (_b4 : -9223372036854775808 ≤ v.sc ∧ v.sc ≤ 9223372036854775807) (_b5 : -9223372036854775808 ≤ v.tol ∧ v.tol ≤ 9223372036854775807) (_b6 : -9223372036854775808 ≤ v.bud ∧ v.bud ≤ 9223372036854775807) (_b7 : -9223372036854775808 ≤ c_.kind ∧ c_.kind ≤ 9223372036854775807) (_b8 : -9223372036854775808 ≤ c_.base ∧ c_.base ≤ 9223372036854775807) (_b9 : -9223372036854775808 ≤ c_.spread ∧ c_.spread ≤ 9223372036854775807) (_b10 : -9223372036854775808 ≤ c_.seed ∧ c_.seed ≤ 9223372036854775807) : Calls Try.prog 3 #[.int .i64 depth, .agg (vwc v).toArray, .agg (csc c_).toArray] w (RetB w true) := by
  have hm0 := Mem.nil w
  go_enter Try.func3, Try.ntmps3
  refine litStart 74 [(0, .int .i64 depth), (1, .agg (vwc v).toArray), (2, .agg (csc c_).toArray)] (by kernel_rfl) (fun X0 => ?_)
  refine wp_seq_k fun K1 hK1 => ?_
  refine plStart ?_
  refine plBox hm0 (cs := vwc v) (i := 0) rfl (wn rfl) rfl (litEv (by kernel_rfl)) ?_
  intro g2 w4 hm3
  clear hm0
  try simp only [List.cons_append, List.nil_append, List.set_cons_succ, List.set_cons_zero] at hm3
  refine qP rfl ?_
  refine plBox hm3 (cs := csc c_) (i := 1) rfl (wn rfl) rfl (litEv (by kernel_rfl)) ?_
  intro g5 w7 hm6
  clear hm3
  try simp only [List.cons_append, List.nil_append, List.set_cons_succ, List.set_cons_zero] at hm6
  refine qP rfl ?_
  refine lk (v := .bool false) rfl rfl rfl ?_
  refine plD ?_
  refine then_normal (hK1 _ _ ?_)
  refine wp_seq_k fun K8 hK8 => ?_
  refine wp_seq_k fun K9 hK9 => ?_
  refine plStart ?_
  refine lk (v := .int .i64 depth) rfl rfl rfl ?_
  by_cases h10 : 5 < depth
  · refine litVal (v := .bool true) rfl (wn rfl) (boolTo (decide_eq_true h10) (gtrRun (A := depth) (B := 5) (.tmp 12) (.const (.int .i64 5)) rfl (litEv (by kernel_rfl)) (litEv (by kernel_rfl)))) rfl (by decide) ?_
    refine lk (v := .bool true) rfl rfl rfl ?_
    refine litVal (v := .int .i64 depth) rfl (wgY rfl rfl rfl (by decide) (by kernel_rfl)) (litRun (by kernel_rfl)) rfl (by decide) ?_
    by_cases h11 : depth ≤ 14
    · refine litVal (v := .bool true) rfl (wgY rfl rfl rfl (by decide) (by kernel_rfl)) (boolTo (decide_eq_true h11) (leqRun (A := depth) (B := 14) (.tmp 15) (.const (.int .i64 14)) rfl (litEv (by kernel_rfl)) (litEv (by kernel_rfl)))) rfl (by decide) ?_
      refine lk (v := .bool true) rfl rfl rfl ?_
      refine plD ?_
      refine then_normal (hK9 _ _ ?_)
      refine wp_cond_true (litEv (by kernel_rfl)) ?_
      refine wp_seq_k fun K12 hK12 => ?_
      refine plStart ?_
      refine plCall (i := 0) 8 [] [] [] rfl (by kernel_rfl) (wn rfl) rfl (litEv (by kernel_rfl)) (litArgs (by kernel_rfl)) (sanity_any _) ?_
      rintro e w13 ⟨rfl, hbz⟩
      have hm14 := hm6.below hbz
      clear hbz hm6
      refine ⟨_, rfl, ?_⟩
      refine qP rfl ?_
      refine lk (v := .bool true) rfl rfl rfl ?_
      refine plD ?_
      refine then_normal (hK12 _ _ ?_)
      refine wp_ret ?_
      refine then_ret ?_
      refine bodyPost_ret (v := .bool true) (gRes1 rfl (gResTmp (t := 6) (v := .bool true) (litGet (by kernel_rfl)))) rfl ?_
      exact ⟨rfl, hm14.bel⟩
    refine litVal (v := .bool false) rfl (wgY rfl rfl rfl (by decide) (by kernel_rfl)) (boolTo (decide_eq_false h11) (leqRun (A := depth) (B := 14) (.tmp 15) (.const (.int .i64 14)) rfl (litEv (by kernel_rfl)) (litEv (by kernel_rfl)))) rfl (by decide) ?_
    refine lk (v := .bool false) rfl rfl rfl ?_
    refine plD ?_
    refine then_normal (hK9 _ _ ?_)
    refine wp_cond_false (litEv (by kernel_rfl)) ?_
    refine wp_skip ?_
    refine then_normal (hK8 _ _ ?_)
    refine wp_seq_k fun K15 hK15 => ?_
    refine plStart ?_
    refine lk (v := .int .i64 depth) rfl rfl rfl ?_
    refine litVal (v := .agg (vwc v).toArray) rfl (wn rfl) (gLoadAg (vs := vwc v) (k := 0) 0 hm6 rfl (by kernel_rfl) (by kernel_rfl) (.tmp 4) Ty.ag_voxel_api_Viewer rfl (litEv (by kernel_rfl))) rfl (by decide) ?_
    refine litVal (v := .agg (csc c_).toArray) rfl (wn rfl) (gLoadAg (vs := csc c_) (k := 0) 1 hm6 rfl (by kernel_rfl) (by kernel_rfl) (.tmp 5) Ty.ag_voxel_voxelref43_Costs rfl (litEv (by kernel_rfl))) rfl (by decide) ?_
    refine plCall (i := 3) 9 [.int .i64 depth, .agg (vwc v).toArray, .agg (csc c_).toArray] [] [] rfl (by kernel_rfl) (wn rfl) rfl (litEv (by kernel_rfl)) (litArgs (by kernel_rfl)) (planF_any depth v c_ _) ?_
    rintro e w16 ⟨v18, rfl, hown_, hbz⟩
    obtain ⟨A19, c20, rfl, hrd_⟩ := Rd.of_own hown_
    clear hrd_
    have hm17 := hm6.newRow hbz hown_
    clear hown_ hbz hm6
    try simp only [List.cons_append, List.nil_append, List.set_cons_succ, List.set_cons_zero] at hm17
    refine ⟨_, rfl, ?_⟩
    refine qP rfl ?_
    refine lk (v := .tuple #[.agg (plnC (.slice A19 ((planR (costP c_) depth v).tiles.length) c20) (planR (costP c_) depth v)).toArray, .int .i64 (planE (costP c_) depth v)]) rfl rfl rfl ?_
    refine lk (v := .agg (plnC (.slice A19 ((planR (costP c_) depth v).tiles.length) c20) (planR (costP c_) depth v)).toArray) rfl rfl rfl ?_
    refine lk (v := .int .i64 (planE (costP c_) depth v)) rfl rfl rfl ?_
    refine plAlloc (z := [.slice none 0 0, .int .i64 0, .int .i64 0, .int .i64 0]) Ty.ag_voxel_api_Planned hm17 (i := 7) rfl (wn rfl) rfl ?_
    intro g21 w23 hm22
    clear hm17
    try simp only [List.cons_append, List.nil_append, List.set_cons_succ, List.set_cons_zero] at hm22
    refine qP rfl ?_
    refine plStore 3 Ty.ag_voxel_api_Planned hm22 rfl (i := 8) (cs := plnC (.slice A19 ((planR (costP c_) depth v).tiles.length) c20) (planR (costP c_) depth v)) rfl (wn rfl) rfl (litEv (by kernel_rfl)) (litEv (by kernel_rfl)) rfl rfl (by kernel_rfl) ?_
    intro w25 hm24
    clear hm22
    try simp only [List.cons_append, List.nil_append, List.set_cons_succ, List.set_cons_zero] at hm24
    refine qNone rfl ?_
    refine lk (v := .int .i64 (planE (costP c_) depth v)) rfl rfl rfl ?_
    refine plD ?_
    refine then_normal (hK15 _ _ ?_)
    refine wpPrune [(0, .int .i64 depth), (4, .pointer (some ⟨g2, 0, none⟩)), (5, .pointer (some ⟨g5, 0, none⟩)), (6, .bool false), (7, .pointer (some ⟨g21, 0, none⟩)), (8, .int .i64 (planE (costP c_) depth v))] ⟨litGet (by kernel_rfl), ⟨litGet (by kernel_rfl), ⟨litGet (by kernel_rfl), ⟨litGet (by kernel_rfl), ⟨litGet (by kernel_rfl), ⟨litGet (by kernel_rfl), trivial⟩⟩⟩⟩⟩⟩ (fun X26 => ?_)
    refine wp_seq_k fun K27 hK27 => ?_
    refine plStart ?_
    refine lk (v := .int .i64 depth) rfl rfl rfl ?_
    refine litVal (v := .agg (vwc v).toArray) rfl (wn rfl) (gLoadAg (vs := vwc v) (k := 0) 0 hm24 rfl (by kernel_rfl) (by kernel_rfl) (.tmp 4) Ty.ag_voxel_api_Viewer rfl (litEv (by kernel_rfl))) rfl (by decide) ?_
    refine litVal (v := .agg (csc c_).toArray) rfl (wn rfl) (gLoadAg (vs := csc c_) (k := 0) 1 hm24 rfl (by kernel_rfl) (by kernel_rfl) (.tmp 5) Ty.ag_voxel_voxelref43_Costs rfl (litEv (by kernel_rfl))) rfl (by decide) ?_
    refine plCall (i := 3) 10 [.int .i64 depth, .agg (vwc v).toArray, .agg (csc c_).toArray] [] [] rfl (by kernel_rfl) (wn rfl) rfl (litEv (by kernel_rfl)) (litArgs (by kernel_rfl)) (refPlan_any depth v c_ _ _b0) ?_
    rintro e w28 ⟨v30, rfl, hown_, hbz⟩
    obtain ⟨A31, c32, rfl, hrd_⟩ := Rd.of_own hown_
    clear hrd_
    have hm29 := hm24.newRow hbz hown_
    clear hown_ hbz hm24
    try simp only [List.cons_append, List.nil_append, List.set_cons_succ, List.set_cons_zero] at hm29
    refine ⟨_, rfl, ?_⟩
    refine qP rfl ?_
    refine lk (v := .tuple #[.agg (plnC (.slice A31 ((planR (costP c_) depth v).tiles.length) c32) (planR (costP c_) depth v)).toArray, .int .i64 (planE (costP c_) depth v)]) rfl rfl rfl ?_
    refine lk (v := .agg (plnC (.slice A31 ((planR (costP c_) depth v).tiles.length) c32) (planR (costP c_) depth v)).toArray) rfl rfl rfl ?_
    refine lk (v := .int .i64 (planE (costP c_) depth v)) rfl rfl rfl ?_
    refine plAlloc (z := [.slice none 0 0, .int .i64 0, .int .i64 0, .int .i64 0]) Ty.ag_voxel_api_Planned hm29 (i := 7) rfl (wn rfl) rfl ?_
    intro g33 w35 hm34
    clear hm29
    try simp only [List.cons_append, List.nil_append, List.set_cons_succ, List.set_cons_zero] at hm34
    refine qP rfl ?_
    refine plStore 5 Ty.ag_voxel_api_Planned hm34 rfl (i := 8) (cs := plnC (.slice A31 ((planR (costP c_) depth v).tiles.length) c32) (planR (costP c_) depth v)) rfl (wn rfl) rfl (litEv (by kernel_rfl)) (litEv (by kernel_rfl)) rfl rfl (by kernel_rfl) ?_
    intro w37 hm36
    clear hm34
    try simp only [List.cons_append, List.nil_append, List.set_cons_succ, List.set_cons_zero] at hm36
    refine qNone rfl ?_
    refine lk (v := .int .i64 (planE (costP c_) depth v)) rfl rfl rfl ?_
    refine plD ?_
    refine then_normal (hK27 _ _ ?_)
    refine wp_seq_k fun K38 hK38 => ?_
    refine wp_seq_k fun K39 hK39 => ?_
    refine mgStart hm36 (by kernel_rfl) ?_
    intro w41 hm40
    clear hm36
    refine mgTake (i := 0) (v := .agg (plnC (.slice A19 ((planR (costP c_) depth v).tiles.length) c20) (planR (costP c_) depth v)).toArray) rfl (by kernel_rfl) (wn rfl) (fun _ _ _ h => h) hm40 (fun w_ h_ => gLoadAg (vs := plnC (.slice A19 ((planR (costP c_) depth v).tiles.length) c20) (planR (costP c_) depth v)) (k := 0) 3 h_ rfl (by kernel_rfl) (by kernel_rfl) (.tmp 7) Ty.ag_voxel_api_Planned rfl (litEv (by kernel_rfl))) ?_
    refine mP rfl ?_
    refine mgTake (i := 1) (v := .agg (plnC (.slice A31 ((planR (costP c_) depth v).tiles.length) c32) (planR (costP c_) depth v)).toArray) rfl (by kernel_rfl) (wn rfl) (fun _ _ _ h => h) hm40 (fun w_ h_ => gLoadAg (vs := plnC (.slice A31 ((planR (costP c_) depth v).tiles.length) c32) (planR (costP c_) depth v)) (k := 0) 5 h_ rfl (by kernel_rfl) (by kernel_rfl) (.tmp 9) Ty.ag_voxel_api_Planned rfl (litEv (by kernel_rfl))) ?_
    refine mP rfl ?_
    refine mgCall (i := 2) 11 [.agg (plnC (.slice A19 ((planR (costP c_) depth v).tiles.length) c20) (planR (costP c_) depth v)).toArray, .agg (plnC (.slice A31 ((planR (costP c_) depth v).tiles.length) c32) (planR (costP c_) depth v)).toArray] [] [] (by kernel_rfl) rfl (by kernel_rfl) (wn rfl) rfl (litEv (by kernel_rfl)) (litArgs (by kernel_rfl)) (callsTo (congrArg Value.bool (decide_eq_true rfl)) (same_any (planR (costP c_) depth v) (planR (costP c_) depth v) (A19) (A31) c20 c32 _ (hm40.rdRow 2 rfl) (hm40.rdRow 4 rfl))) ?_
    rintro e w42 ⟨rfl, hbz⟩
    have hm43 := hm40.below hbz
    clear hbz hm40
    refine ⟨_, rfl, hm43, ?_⟩
    refine mP rfl ?_
    refine mk_ (i := 3) (v := .bool false) rfl rfl (fun _ _ _ h => h) hm43 rfl ?_
    refine mk_ (i := 4) (v := .bool false) rfl rfl (fun _ _ _ h => h) hm43 rfl ?_
    refine mgTake (i := 5) (v := .int .i64 (planE (costP c_) depth v)) rfl (by kernel_rfl) (wgY rfl rfl rfl (by decide) (by kernel_rfl)) (fun _ _ _ h => h) hm43 (fun w_ h_ => litRun (by kernel_rfl)) ?_
    refine mP rfl ?_
    refine mgTake (i := 6) (v := .int .i64 (planE (costP c_) depth v)) rfl (by kernel_rfl) (wgY rfl rfl rfl (by decide) (by kernel_rfl)) (fun _ _ _ h => h) hm43 (fun w_ h_ => litRun (by kernel_rfl)) ?_
    refine mP rfl ?_
    refine mgTake (i := 7) (v := .bool false) rfl (by kernel_rfl) (wgY rfl rfl rfl (by decide) (by kernel_rfl)) (fun _ _ _ h => h) hm43 (fun w_ h_ => boolTo (by simp) (neqRun (A := (planE (costP c_) depth v)) (B := (planE (costP c_) depth v)) (.tmp 38) (.tmp 39) rfl (litEv (by kernel_rfl)) (litEv (by kernel_rfl)))) ?_
    refine mP rfl ?_
    refine mk_ (i := 8) (v := .bool false) rfl rfl (fun _ _ _ h => h) hm43 rfl ?_
    refine mk_ (i := 9) (v := .bool false) rfl rfl (fun _ _ _ h => h) hm43 rfl ?_
    refine mgTake (i := 10) (v := .agg (vwc v).toArray) rfl (by kernel_rfl) (wgY rfl rfl rfl (by decide) (by kernel_rfl)) (fun _ _ _ h => h) hm43 (fun w_ h_ => gLoadAg (vs := vwc v) (k := 0) 0 h_ rfl (by kernel_rfl) (by kernel_rfl) (.tmp 4) Ty.ag_voxel_api_Viewer rfl (litEv (by kernel_rfl))) ?_
    refine mP rfl ?_
    refine mgTake (i := 12) (v := .agg (vwc v).toArray) rfl (by kernel_rfl) (wgY rfl rfl rfl (by decide) (by kernel_rfl)) (fun _ _ _ h => h) hm43 (fun w_ h_ => gLoadAg (vs := vwc v) (k := 0) 0 h_ rfl (by kernel_rfl) (by kernel_rfl) (.tmp 4) Ty.ag_voxel_api_Viewer rfl (litEv (by kernel_rfl))) ?_
    refine mP rfl ?_
    refine mgCall (i := 11) 12 [.agg (vwc v).toArray] [] [] (by kernel_rfl) rfl (by kernel_rfl) (wgY rfl rfl rfl (by decide) (by kernel_rfl)) rfl (litEv (by kernel_rfl)) (litArgs (by kernel_rfl)) (check_any v _) ?_
    rintro e w44 ⟨rfl, hbz⟩
    have hm45 := hm43.below hbz
    clear hbz hm43
    refine ⟨_, rfl, hm45, ?_⟩
    refine mP rfl ?_
    refine mgCall (i := 13) 13 [.agg (vwc v).toArray] [] [] (by kernel_rfl) rfl (by kernel_rfl) (wgY rfl rfl rfl (by decide) (by kernel_rfl)) rfl (litEv (by kernel_rfl)) (litArgs (by kernel_rfl)) (rcheck_any v _) ?_
    rintro e w46 ⟨rfl, hbz⟩
    have hm47 := hm45.below hbz
    clear hbz hm45
    refine ⟨_, rfl, hm47, ?_⟩
    refine mP rfl ?_
    refine mgTake (i := 14) (v := .bool false) rfl (by kernel_rfl) (wgY rfl rfl rfl (by decide) (by kernel_rfl)) (fun _ _ _ h => h) hm47 (fun w_ h_ => boolTo (by simp) (neqRun (A := (ckV v)) (B := (ckV v)) (.tmp 44) (.tmp 46) rfl (litEv (by kernel_rfl)) (litEv (by kernel_rfl)))) ?_
    refine mP rfl ?_
    refine mk_ (i := 15) (v := .bool false) rfl rfl (fun _ _ _ h => h) hm47 rfl ?_
    refine mgDone (by kernel_rfl) ?_
    refine then_normal (hK39 _ _ ?_)
    refine wpPrune [(0, .int .i64 depth), (4, .pointer (some ⟨g2, 0, none⟩)), (6, .bool false), (48, .bool false)] ⟨litGet (by kernel_rfl), ⟨litGet (by kernel_rfl), ⟨litGet (by kernel_rfl), ⟨litGet (by kernel_rfl), trivial⟩⟩⟩⟩ (fun X48 => ?_)
    refine wp_cond_false (litEv (by kernel_rfl)) ?_
    refine wp_skip ?_
    refine then_normal (hK38 _ _ ?_)
    refine wp_seq_k fun K49 hK49 => ?_
    refine wp_seq_k fun K50 hK50 => ?_
    refine plStart ?_
    refine lk (v := .int .i64 depth) rfl rfl rfl ?_
    by_cases h51 : depth < 2
    · refine litVal (v := .bool true) rfl (wn rfl) (boolTo (decide_eq_true h51) (lssRun (A := depth) (B := 2) (.tmp 49) (.const (.int .i64 2)) rfl (litEv (by kernel_rfl)) (litEv (by kernel_rfl)))) rfl (by decide) ?_
      refine lk (v := .bool true) rfl rfl rfl ?_
      refine plSkip (i := 3) rfl (wgN rfl rfl rfl (by decide) (by kernel_rfl)) ?_
      refine qP rfl ?_
      refine plSkip (i := 4) rfl (wgN rfl rfl rfl (by decide) (by kernel_rfl)) ?_
      refine qP rfl ?_
      refine lk (v := .bool true) rfl rfl rfl ?_
      refine lk (v := .bool true) rfl rfl rfl ?_
      refine plSkip (i := 7) rfl (wgN rfl rfl rfl (by decide) (by kernel_rfl)) ?_
      refine qP rfl ?_
      refine plSkip (i := 8) rfl (wgN rfl rfl rfl (by decide) (by kernel_rfl)) ?_
      refine qP rfl ?_
      refine plSkip (i := 9) rfl (wgN rfl rfl rfl (by decide) (by kernel_rfl)) ?_
      refine qP rfl ?_
      refine lk (v := .bool true) rfl rfl rfl ?_
      refine plD ?_
      refine then_normal (hK50 _ _ ?_)
      refine wp_cond_true (litEv (by kernel_rfl)) ?_
      refine wp_seq_k fun K52 hK52 => ?_
      refine plStart ?_
      refine plCall (i := 0) 8 [] [] [] rfl (by kernel_rfl) (wn rfl) rfl (litEv (by kernel_rfl)) (litArgs (by kernel_rfl)) (sanity_any _) ?_
      rintro e w53 ⟨rfl, hbz⟩
      have hm54 := hm47.below hbz
      clear hbz hm47
      refine ⟨_, rfl, ?_⟩
      refine qP rfl ?_
      refine lk (v := .bool true) rfl rfl rfl ?_
      refine plD ?_
      refine then_normal (hK52 _ _ ?_)
      refine wpPrune [(0, .int .i64 depth), (4, .pointer (some ⟨g2, 0, none⟩)), (6, .bool true)] ⟨litGet (by kernel_rfl), ⟨litGet (by kernel_rfl), ⟨litGet (by kernel_rfl), trivial⟩⟩⟩ (fun X55 => ?_)
      refine wp_ret ?_
      refine then_ret ?_
      refine bodyPost_ret (v := .bool true) (gRes1 rfl (gResTmp (t := 6) (v := .bool true) (litGet (by kernel_rfl)))) rfl ?_
      exact ⟨rfl, hm54.bel⟩
    refine litVal (v := .bool false) rfl (wn rfl) (boolTo (decide_eq_false h51) (lssRun (A := depth) (B := 2) (.tmp 49) (.const (.int .i64 2)) rfl (litEv (by kernel_rfl)) (litEv (by kernel_rfl)))) rfl (by decide) ?_
    refine lk (v := .bool false) rfl rfl rfl ?_
    refine litVal (v := .int .i64 depth) rfl (wgY rfl rfl rfl (by decide) (by kernel_rfl)) (litRun (by kernel_rfl)) rfl (by decide) ?_
    refine litVal (v := .bool true) rfl (wgY rfl rfl rfl (by decide) (by kernel_rfl)) (boolTo (decide_eq_true h10) (gtrRun (A := depth) (B := 5) (.tmp 52) (.const (.int .i64 5)) rfl (litEv (by kernel_rfl)) (litEv (by kernel_rfl)))) rfl (by decide) ?_
    refine lk (v := .bool true) rfl rfl rfl ?_
    refine lk (v := .bool true) rfl rfl rfl ?_
    refine plSkip (i := 7) rfl (wgN rfl rfl rfl (by decide) (by kernel_rfl)) ?_
    refine qP rfl ?_
    refine plSkip (i := 8) rfl (wgN rfl rfl rfl (by decide) (by kernel_rfl)) ?_
    refine qP rfl ?_
    refine plSkip (i := 9) rfl (wgN rfl rfl rfl (by decide) (by kernel_rfl)) ?_
    refine qP rfl ?_
    refine lk (v := .bool true) rfl rfl rfl ?_
    refine plD ?_
    refine then_normal (hK50 _ _ ?_)
    refine wp_cond_true (litEv (by kernel_rfl)) ?_
    refine wp_seq_k fun K56 hK56 => ?_
    refine plStart ?_
    refine plCall (i := 0) 8 [] [] [] rfl (by kernel_rfl) (wn rfl) rfl (litEv (by kernel_rfl)) (litArgs (by kernel_rfl)) (sanity_any _) ?_
    rintro e w57 ⟨rfl, hbz⟩
    have hm58 := hm47.below hbz
    clear hbz hm47
    refine ⟨_, rfl, ?_⟩
    refine qP rfl ?_
    refine lk (v := .bool true) rfl rfl rfl ?_
    refine plD ?_
    refine then_normal (hK56 _ _ ?_)
    refine wpPrune [(0, .int .i64 depth), (4, .pointer (some ⟨g2, 0, none⟩)), (6, .bool true)] ⟨litGet (by kernel_rfl), ⟨litGet (by kernel_rfl), ⟨litGet (by kernel_rfl), trivial⟩⟩⟩ (fun X59 => ?_)
    refine wp_ret ?_
    refine then_ret ?_
    refine bodyPost_ret (v := .bool true) (gRes1 rfl (gResTmp (t := 6) (v := .bool true) (litGet (by kernel_rfl)))) rfl ?_
    exact ⟨rfl, hm58.bel⟩
  refine litVal (v := .bool false) rfl (wn rfl) (boolTo (decide_eq_false h10) (gtrRun (A := depth) (B := 5) (.tmp 12) (.const (.int .i64 5)) rfl (litEv (by kernel_rfl)) (litEv (by kernel_rfl)))) rfl (by decide) ?_
  refine lk (v := .bool false) rfl rfl rfl ?_
  refine plSkip (i := 3) rfl (wgN rfl rfl rfl (by decide) (by kernel_rfl)) ?_
  refine qP rfl ?_
  refine plSkip (i := 4) rfl (wgN rfl rfl rfl (by decide) (by kernel_rfl)) ?_
  refine qP rfl ?_
  refine lk (v := .bool false) rfl rfl rfl ?_
  refine plD ?_
  refine then_normal (hK9 _ _ ?_)
  refine wp_cond_false (litEv (by kernel_rfl)) ?_
  refine wp_skip ?_
  refine then_normal (hK8 _ _ ?_)
  refine wp_seq_k fun K60 hK60 => ?_
  refine plStart ?_
  refine lk (v := .int .i64 depth) rfl rfl rfl ?_
  refine litVal (v := .agg (vwc v).toArray) rfl (wn rfl) (gLoadAg (vs := vwc v) (k := 0) 0 hm6 rfl (by kernel_rfl) (by kernel_rfl) (.tmp 4) Ty.ag_voxel_api_Viewer rfl (litEv (by kernel_rfl))) rfl (by decide) ?_
  refine litVal (v := .agg (csc c_).toArray) rfl (wn rfl) (gLoadAg (vs := csc c_) (k := 0) 1 hm6 rfl (by kernel_rfl) (by kernel_rfl) (.tmp 5) Ty.ag_voxel_voxelref43_Costs rfl (litEv (by kernel_rfl))) rfl (by decide) ?_
  refine plCall (i := 3) 9 [.int .i64 depth, .agg (vwc v).toArray, .agg (csc c_).toArray] [] [] rfl (by kernel_rfl) (wn rfl) rfl (litEv (by kernel_rfl)) (litArgs (by kernel_rfl)) (planF_any depth v c_ _) ?_
  rintro e w61 ⟨v63, rfl, hown_, hbz⟩
  obtain ⟨A64, c65, rfl, hrd_⟩ := Rd.of_own hown_
  clear hrd_
  have hm62 := hm6.newRow hbz hown_
  clear hown_ hbz hm6
  try simp only [List.cons_append, List.nil_append, List.set_cons_succ, List.set_cons_zero] at hm62
  refine ⟨_, rfl, ?_⟩
  refine qP rfl ?_
  refine lk (v := .tuple #[.agg (plnC (.slice A64 ((planR (costP c_) depth v).tiles.length) c65) (planR (costP c_) depth v)).toArray, .int .i64 (planE (costP c_) depth v)]) rfl rfl rfl ?_
  refine lk (v := .agg (plnC (.slice A64 ((planR (costP c_) depth v).tiles.length) c65) (planR (costP c_) depth v)).toArray) rfl rfl rfl ?_
  refine lk (v := .int .i64 (planE (costP c_) depth v)) rfl rfl rfl ?_
  refine plAlloc (z := [.slice none 0 0, .int .i64 0, .int .i64 0, .int .i64 0]) Ty.ag_voxel_api_Planned hm62 (i := 7) rfl (wn rfl) rfl ?_
  intro g66 w68 hm67
  clear hm62
  try simp only [List.cons_append, List.nil_append, List.set_cons_succ, List.set_cons_zero] at hm67
  refine qP rfl ?_
  refine plStore 3 Ty.ag_voxel_api_Planned hm67 rfl (i := 8) (cs := plnC (.slice A64 ((planR (costP c_) depth v).tiles.length) c65) (planR (costP c_) depth v)) rfl (wn rfl) rfl (litEv (by kernel_rfl)) (litEv (by kernel_rfl)) rfl rfl (by kernel_rfl) ?_
  intro w70 hm69
  clear hm67
  try simp only [List.cons_append, List.nil_append, List.set_cons_succ, List.set_cons_zero] at hm69
  refine qNone rfl ?_
  refine lk (v := .int .i64 (planE (costP c_) depth v)) rfl rfl rfl ?_
  refine plD ?_
  refine then_normal (hK60 _ _ ?_)
  refine wpPrune [(0, .int .i64 depth), (4, .pointer (some ⟨g2, 0, none⟩)), (5, .pointer (some ⟨g5, 0, none⟩)), (6, .bool false), (7, .pointer (some ⟨g66, 0, none⟩)), (8, .int .i64 (planE (costP c_) depth v))] ⟨litGet (by kernel_rfl), ⟨litGet (by kernel_rfl), ⟨litGet (by kernel_rfl), ⟨litGet (by kernel_rfl), ⟨litGet (by kernel_rfl), ⟨litGet (by kernel_rfl), trivial⟩⟩⟩⟩⟩⟩ (fun X71 => ?_)
  refine wp_seq_k fun K72 hK72 => ?_
  refine plStart ?_
  refine lk (v := .int .i64 depth) rfl rfl rfl ?_
  refine litVal (v := .agg (vwc v).toArray) rfl (wn rfl) (gLoadAg (vs := vwc v) (k := 0) 0 hm69 rfl (by kernel_rfl) (by kernel_rfl) (.tmp 4) Ty.ag_voxel_api_Viewer rfl (litEv (by kernel_rfl))) rfl (by decide) ?_
  refine litVal (v := .agg (csc c_).toArray) rfl (wn rfl) (gLoadAg (vs := csc c_) (k := 0) 1 hm69 rfl (by kernel_rfl) (by kernel_rfl) (.tmp 5) Ty.ag_voxel_voxelref43_Costs rfl (litEv (by kernel_rfl))) rfl (by decide) ?_
  refine plCall (i := 3) 10 [.int .i64 depth, .agg (vwc v).toArray, .agg (csc c_).toArray] [] [] rfl (by kernel_rfl) (wn rfl) rfl (litEv (by kernel_rfl)) (litArgs (by kernel_rfl)) (refPlan_any depth v c_ _ _b0) ?_
  rintro e w73 ⟨v75, rfl, hown_, hbz⟩
  obtain ⟨A76, c77, rfl, hrd_⟩ := Rd.of_own hown_
  clear hrd_
  have hm74 := hm69.newRow hbz hown_
  clear hown_ hbz hm69
  try simp only [List.cons_append, List.nil_append, List.set_cons_succ, List.set_cons_zero] at hm74
  refine ⟨_, rfl, ?_⟩
  refine qP rfl ?_
  refine lk (v := .tuple #[.agg (plnC (.slice A76 ((planR (costP c_) depth v).tiles.length) c77) (planR (costP c_) depth v)).toArray, .int .i64 (planE (costP c_) depth v)]) rfl rfl rfl ?_
  refine lk (v := .agg (plnC (.slice A76 ((planR (costP c_) depth v).tiles.length) c77) (planR (costP c_) depth v)).toArray) rfl rfl rfl ?_
  refine lk (v := .int .i64 (planE (costP c_) depth v)) rfl rfl rfl ?_
  refine plAlloc (z := [.slice none 0 0, .int .i64 0, .int .i64 0, .int .i64 0]) Ty.ag_voxel_api_Planned hm74 (i := 7) rfl (wn rfl) rfl ?_
  intro g78 w80 hm79
  clear hm74
  try simp only [List.cons_append, List.nil_append, List.set_cons_succ, List.set_cons_zero] at hm79
  refine qP rfl ?_
  refine plStore 5 Ty.ag_voxel_api_Planned hm79 rfl (i := 8) (cs := plnC (.slice A76 ((planR (costP c_) depth v).tiles.length) c77) (planR (costP c_) depth v)) rfl (wn rfl) rfl (litEv (by kernel_rfl)) (litEv (by kernel_rfl)) rfl rfl (by kernel_rfl) ?_
  intro w82 hm81
  clear hm79
  try simp only [List.cons_append, List.nil_append, List.set_cons_succ, List.set_cons_zero] at hm81
  refine qNone rfl ?_
  refine lk (v := .int .i64 (planE (costP c_) depth v)) rfl rfl rfl ?_
  refine plD ?_
  refine then_normal (hK72 _ _ ?_)
  refine wp_seq_k fun K83 hK83 => ?_
  refine wp_seq_k fun K84 hK84 => ?_
  refine mgStart hm81 (by kernel_rfl) ?_
  intro w86 hm85
  clear hm81
  refine mgTake (i := 0) (v := .agg (plnC (.slice A64 ((planR (costP c_) depth v).tiles.length) c65) (planR (costP c_) depth v)).toArray) rfl (by kernel_rfl) (wn rfl) (fun _ _ _ h => h) hm85 (fun w_ h_ => gLoadAg (vs := plnC (.slice A64 ((planR (costP c_) depth v).tiles.length) c65) (planR (costP c_) depth v)) (k := 0) 3 h_ rfl (by kernel_rfl) (by kernel_rfl) (.tmp 7) Ty.ag_voxel_api_Planned rfl (litEv (by kernel_rfl))) ?_
  refine mP rfl ?_
  refine mgTake (i := 1) (v := .agg (plnC (.slice A76 ((planR (costP c_) depth v).tiles.length) c77) (planR (costP c_) depth v)).toArray) rfl (by kernel_rfl) (wn rfl) (fun _ _ _ h => h) hm85 (fun w_ h_ => gLoadAg (vs := plnC (.slice A76 ((planR (costP c_) depth v).tiles.length) c77) (planR (costP c_) depth v)) (k := 0) 5 h_ rfl (by kernel_rfl) (by kernel_rfl) (.tmp 9) Ty.ag_voxel_api_Planned rfl (litEv (by kernel_rfl))) ?_
  refine mP rfl ?_
  refine mgCall (i := 2) 11 [.agg (plnC (.slice A64 ((planR (costP c_) depth v).tiles.length) c65) (planR (costP c_) depth v)).toArray, .agg (plnC (.slice A76 ((planR (costP c_) depth v).tiles.length) c77) (planR (costP c_) depth v)).toArray] [] [] (by kernel_rfl) rfl (by kernel_rfl) (wn rfl) rfl (litEv (by kernel_rfl)) (litArgs (by kernel_rfl)) (callsTo (congrArg Value.bool (decide_eq_true rfl)) (same_any (planR (costP c_) depth v) (planR (costP c_) depth v) (A64) (A76) c65 c77 _ (hm85.rdRow 2 rfl) (hm85.rdRow 4 rfl))) ?_
  rintro e w87 ⟨rfl, hbz⟩
  have hm88 := hm85.below hbz
  clear hbz hm85
  refine ⟨_, rfl, hm88, ?_⟩
  refine mP rfl ?_
  refine mk_ (i := 3) (v := .bool false) rfl rfl (fun _ _ _ h => h) hm88 rfl ?_
  refine mk_ (i := 4) (v := .bool false) rfl rfl (fun _ _ _ h => h) hm88 rfl ?_
  refine mgTake (i := 5) (v := .int .i64 (planE (costP c_) depth v)) rfl (by kernel_rfl) (wgY rfl rfl rfl (by decide) (by kernel_rfl)) (fun _ _ _ h => h) hm88 (fun w_ h_ => litRun (by kernel_rfl)) ?_
  refine mP rfl ?_
  refine mgTake (i := 6) (v := .int .i64 (planE (costP c_) depth v)) rfl (by kernel_rfl) (wgY rfl rfl rfl (by decide) (by kernel_rfl)) (fun _ _ _ h => h) hm88 (fun w_ h_ => litRun (by kernel_rfl)) ?_
  refine mP rfl ?_
  refine mgTake (i := 7) (v := .bool false) rfl (by kernel_rfl) (wgY rfl rfl rfl (by decide) (by kernel_rfl)) (fun _ _ _ h => h) hm88 (fun w_ h_ => boolTo (by simp) (neqRun (A := (planE (costP c_) depth v)) (B := (planE (costP c_) depth v)) (.tmp 38) (.tmp 39) rfl (litEv (by kernel_rfl)) (litEv (by kernel_rfl)))) ?_
  refine mP rfl ?_
  refine mk_ (i := 8) (v := .bool false) rfl rfl (fun _ _ _ h => h) hm88 rfl ?_
  refine mk_ (i := 9) (v := .bool false) rfl rfl (fun _ _ _ h => h) hm88 rfl ?_
  refine mgTake (i := 10) (v := .agg (vwc v).toArray) rfl (by kernel_rfl) (wgY rfl rfl rfl (by decide) (by kernel_rfl)) (fun _ _ _ h => h) hm88 (fun w_ h_ => gLoadAg (vs := vwc v) (k := 0) 0 h_ rfl (by kernel_rfl) (by kernel_rfl) (.tmp 4) Ty.ag_voxel_api_Viewer rfl (litEv (by kernel_rfl))) ?_
  refine mP rfl ?_
  refine mgTake (i := 12) (v := .agg (vwc v).toArray) rfl (by kernel_rfl) (wgY rfl rfl rfl (by decide) (by kernel_rfl)) (fun _ _ _ h => h) hm88 (fun w_ h_ => gLoadAg (vs := vwc v) (k := 0) 0 h_ rfl (by kernel_rfl) (by kernel_rfl) (.tmp 4) Ty.ag_voxel_api_Viewer rfl (litEv (by kernel_rfl))) ?_
  refine mP rfl ?_
  refine mgCall (i := 11) 12 [.agg (vwc v).toArray] [] [] (by kernel_rfl) rfl (by kernel_rfl) (wgY rfl rfl rfl (by decide) (by kernel_rfl)) rfl (litEv (by kernel_rfl)) (litArgs (by kernel_rfl)) (check_any v _) ?_
  rintro e w89 ⟨rfl, hbz⟩
  have hm90 := hm88.below hbz
  clear hbz hm88
  refine ⟨_, rfl, hm90, ?_⟩
  refine mP rfl ?_
  refine mgCall (i := 13) 13 [.agg (vwc v).toArray] [] [] (by kernel_rfl) rfl (by kernel_rfl) (wgY rfl rfl rfl (by decide) (by kernel_rfl)) rfl (litEv (by kernel_rfl)) (litArgs (by kernel_rfl)) (rcheck_any v _) ?_
  rintro e w91 ⟨rfl, hbz⟩
  have hm92 := hm90.below hbz
  clear hbz hm90
  refine ⟨_, rfl, hm92, ?_⟩
  refine mP rfl ?_
  refine mgTake (i := 14) (v := .bool false) rfl (by kernel_rfl) (wgY rfl rfl rfl (by decide) (by kernel_rfl)) (fun _ _ _ h => h) hm92 (fun w_ h_ => boolTo (by simp) (neqRun (A := (ckV v)) (B := (ckV v)) (.tmp 44) (.tmp 46) rfl (litEv (by kernel_rfl)) (litEv (by kernel_rfl)))) ?_
  refine mP rfl ?_
  refine mk_ (i := 15) (v := .bool false) rfl rfl (fun _ _ _ h => h) hm92 rfl ?_
  refine mgDone (by kernel_rfl) ?_
  refine then_normal (hK84 _ _ ?_)
  refine wpPrune [(0, .int .i64 depth), (4, .pointer (some ⟨g2, 0, none⟩)), (6, .bool false), (48, .bool false)] ⟨litGet (by kernel_rfl), ⟨litGet (by kernel_rfl), ⟨litGet (by kernel_rfl), ⟨litGet (by kernel_rfl), trivial⟩⟩⟩⟩ (fun X93 => ?_)
  refine wp_cond_false (litEv (by kernel_rfl)) ?_
  refine wp_skip ?_
  refine then_normal (hK83 _ _ ?_)
  refine wp_seq_k fun K94 hK94 => ?_
  refine wp_seq_k fun K95 hK95 => ?_
  refine plStart ?_
  refine lk (v := .int .i64 depth) rfl rfl rfl ?_
  by_cases h96 : depth < 2
  · refine litVal (v := .bool true) rfl (wn rfl) (boolTo (decide_eq_true h96) (lssRun (A := depth) (B := 2) (.tmp 49) (.const (.int .i64 2)) rfl (litEv (by kernel_rfl)) (litEv (by kernel_rfl)))) rfl (by decide) ?_
    refine lk (v := .bool true) rfl rfl rfl ?_
    refine plSkip (i := 3) rfl (wgN rfl rfl rfl (by decide) (by kernel_rfl)) ?_
    refine qP rfl ?_
    refine plSkip (i := 4) rfl (wgN rfl rfl rfl (by decide) (by kernel_rfl)) ?_
    refine qP rfl ?_
    refine lk (v := .bool true) rfl rfl rfl ?_
    refine lk (v := .bool true) rfl rfl rfl ?_
    refine plSkip (i := 7) rfl (wgN rfl rfl rfl (by decide) (by kernel_rfl)) ?_
    refine qP rfl ?_
    refine plSkip (i := 8) rfl (wgN rfl rfl rfl (by decide) (by kernel_rfl)) ?_
    refine qP rfl ?_
    refine plSkip (i := 9) rfl (wgN rfl rfl rfl (by decide) (by kernel_rfl)) ?_
    refine qP rfl ?_
    refine lk (v := .bool true) rfl rfl rfl ?_
    refine plD ?_
    refine then_normal (hK95 _ _ ?_)
    refine wp_cond_true (litEv (by kernel_rfl)) ?_
    refine wp_seq_k fun K97 hK97 => ?_
    refine plStart ?_
    refine plCall (i := 0) 8 [] [] [] rfl (by kernel_rfl) (wn rfl) rfl (litEv (by kernel_rfl)) (litArgs (by kernel_rfl)) (sanity_any _) ?_
    rintro e w98 ⟨rfl, hbz⟩
    have hm99 := hm92.below hbz
    clear hbz hm92
    refine ⟨_, rfl, ?_⟩
    refine qP rfl ?_
    refine lk (v := .bool true) rfl rfl rfl ?_
    refine plD ?_
    refine then_normal (hK97 _ _ ?_)
    refine wpPrune [(0, .int .i64 depth), (4, .pointer (some ⟨g2, 0, none⟩)), (6, .bool true)] ⟨litGet (by kernel_rfl), ⟨litGet (by kernel_rfl), ⟨litGet (by kernel_rfl), trivial⟩⟩⟩ (fun X100 => ?_)
    refine wp_ret ?_
    refine then_ret ?_
    refine bodyPost_ret (v := .bool true) (gRes1 rfl (gResTmp (t := 6) (v := .bool true) (litGet (by kernel_rfl)))) rfl ?_
    exact ⟨rfl, hm99.bel⟩
  refine litVal (v := .bool false) rfl (wn rfl) (boolTo (decide_eq_false h96) (lssRun (A := depth) (B := 2) (.tmp 49) (.const (.int .i64 2)) rfl (litEv (by kernel_rfl)) (litEv (by kernel_rfl)))) rfl (by decide) ?_
  refine lk (v := .bool false) rfl rfl rfl ?_
  refine litVal (v := .int .i64 depth) rfl (wgY rfl rfl rfl (by decide) (by kernel_rfl)) (litRun (by kernel_rfl)) rfl (by decide) ?_
  refine litVal (v := .bool false) rfl (wgY rfl rfl rfl (by decide) (by kernel_rfl)) (boolTo (decide_eq_false h10) (gtrRun (A := depth) (B := 5) (.tmp 52) (.const (.int .i64 5)) rfl (litEv (by kernel_rfl)) (litEv (by kernel_rfl)))) rfl (by decide) ?_
  refine lk (v := .bool false) rfl rfl rfl ?_
  refine lk (v := .bool false) rfl rfl rfl ?_
  refine litVal (v := .agg (vwc v).toArray) rfl (wgY rfl rfl rfl (by decide) (by kernel_rfl)) (gLoadAg (vs := vwc v) (k := 0) 0 hm92 rfl (by kernel_rfl) (by kernel_rfl) (.tmp 4) Ty.ag_voxel_api_Viewer rfl (litEv (by kernel_rfl))) rfl (by decide) ?_
  refine plCall (i := 8) 13 [.agg (vwc v).toArray] [] [] rfl (by kernel_rfl) (wgY rfl rfl rfl (by decide) (by kernel_rfl)) rfl (litEv (by kernel_rfl)) (litArgs (by kernel_rfl)) (rcheck_any v _) ?_
  rintro e w101 ⟨rfl, hbz⟩
  have hm102 := hm92.below hbz
  clear hbz hm92
  refine ⟨_, rfl, ?_⟩
  refine qP rfl ?_
  by_cases h103 : (ckV v) = 0
  · have hv_ : ckV v = 0 := h103
    refine litVal (v := .bool false) rfl (wgY rfl rfl rfl (by decide) (by kernel_rfl)) (boolTo (by rw [decide_eq_true h103]; rfl) (neqRun (A := (ckV v)) (B := 0) (.tmp 57) (.const (.int .i64 0)) rfl (litEv (by kernel_rfl)) (litEv (by kernel_rfl)))) rfl (by decide) ?_
    refine lk (v := .bool false) rfl rfl rfl ?_
    refine plD ?_
    refine then_normal (hK95 _ _ ?_)
    refine wp_cond_false (litEv (by kernel_rfl)) ?_
    refine wp_skip ?_
    refine then_normal (hK94 _ _ ?_)
    refine wp_seq_k fun K104 hK104 => ?_
    refine plStart ?_
    refine lk (v := .int .i64 depth) rfl rfl rfl ?_
    refine litVal (v := .int .i64 (depth - 2)) rfl (wn rfl) (subRun (A := depth) (B := 2) (C := depth - 2) (.tmp 61) (.const (.int .i64 2)) rfl (litEv (by kernel_rfl)) (litEv (by kernel_rfl)) rfl (by omega)) rfl (by decide) ?_
    refine lk (v := .agg (tlc ⟨depth - 2, ⟨0, 0, 0⟩⟩).toArray) rfl rfl rfl ?_
    refine plAlloc (z := [.int .i64 0, .int .i64 0, .int .i64 0, .int .i64 0]) Ty.ag_voxel_api_Tile hm102 (i := 3) rfl (wn rfl) rfl ?_
    intro g105 w107 hm106
    clear hm102
    try simp only [List.cons_append, List.nil_append, List.set_cons_succ, List.set_cons_zero] at hm106
    refine qP rfl ?_
    refine plStore 6 Ty.ag_voxel_api_Tile hm106 rfl (i := 4) (cs := tlc ⟨depth - 2, ⟨0, 0, 0⟩⟩) rfl (wn rfl) rfl (litEv (by kernel_rfl)) (litEv (by kernel_rfl)) rfl rfl (by kernel_rfl) ?_
    intro w109 hm108
    clear hm106
    try simp only [List.cons_append, List.nil_append, List.set_cons_succ, List.set_cons_zero] at hm108
    refine qNone rfl ?_
    refine plD ?_
    refine then_normal (hK104 _ _ ?_)
    refine wpPrune [(4, .pointer (some ⟨g2, 0, none⟩)), (6, .bool false), (11, .pointer (some ⟨g105, 0, none⟩))] ⟨litGet (by kernel_rfl), ⟨litGet (by kernel_rfl), ⟨litGet (by kernel_rfl), trivial⟩⟩⟩ (fun X110 => ?_)
    refine wp_seq_k fun K111 hK111 => ?_
    refine mgStart hm108 (by kernel_rfl) ?_
    intro w113 hm112
    clear hm108
    refine mgCall (i := 0) 8 [] [] [] (by kernel_rfl) rfl (by kernel_rfl) (wn rfl) rfl (litEv (by kernel_rfl)) (litArgs (by kernel_rfl)) (sanity_any _) ?_
    rintro e w114 ⟨rfl, hbz⟩
    have hm115 := hm112.below hbz
    clear hbz hm112
    refine ⟨_, rfl, hm115, ?_⟩
    refine mP rfl ?_
    refine mk_ (i := 1) (v := .bool true) rfl rfl (fun _ _ _ h => h) hm115 rfl ?_
    refine mgTake (i := 2) (v := .agg (vwc v).toArray) rfl (by kernel_rfl) (wgY rfl rfl rfl (by decide) (by kernel_rfl)) (fun _ _ _ h => h) hm115 (fun w_ h_ => gLoadAg (vs := vwc v) (k := 0) 0 h_ rfl (by kernel_rfl) (by kernel_rfl) (.tmp 4) Ty.ag_voxel_api_Viewer rfl (litEv (by kernel_rfl))) ?_
    refine mP rfl ?_
    refine mgTake (i := 3) (v := .agg (tlc ⟨depth - 2, ⟨0, 0, 0⟩⟩).toArray) rfl (by kernel_rfl) (wgY rfl rfl rfl (by decide) (by kernel_rfl)) (fun _ _ _ h => h) hm115 (fun w_ h_ => gLoadAg (vs := tlc ⟨depth - 2, ⟨0, 0, 0⟩⟩) (k := 0) 6 h_ rfl (by kernel_rfl) (by kernel_rfl) (.tmp 11) Ty.ag_voxel_api_Tile rfl (litEv (by kernel_rfl))) ?_
    refine mP rfl ?_
    refine mgTake (i := 5) (v := .agg (vwc v).toArray) rfl (by kernel_rfl) (wgY rfl rfl rfl (by decide) (by kernel_rfl)) (fun _ _ _ h => h) hm115 (fun w_ h_ => gLoadAg (vs := vwc v) (k := 0) 0 h_ rfl (by kernel_rfl) (by kernel_rfl) (.tmp 4) Ty.ag_voxel_api_Viewer rfl (litEv (by kernel_rfl))) ?_
    refine mP rfl ?_
    refine mgTake (i := 6) (v := .agg (tlc ⟨depth - 2, ⟨0, 0, 0⟩⟩).toArray) rfl (by kernel_rfl) (wgY rfl rfl rfl (by decide) (by kernel_rfl)) (fun _ _ _ h => h) hm115 (fun w_ h_ => gLoadAg (vs := tlc ⟨depth - 2, ⟨0, 0, 0⟩⟩) (k := 0) 6 h_ rfl (by kernel_rfl) (by kernel_rfl) (.tmp 11) Ty.ag_voxel_api_Tile rfl (litEv (by kernel_rfl))) ?_
    refine mP rfl ?_
    refine mgCall (i := 4) 14 [.agg (vwc v).toArray, .agg (tlc ⟨depth - 2, ⟨0, 0, 0⟩⟩).toArray] [] [] (by kernel_rfl) rfl (by kernel_rfl) (wgY rfl rfl rfl (by decide) (by kernel_rfl)) rfl (litEv (by kernel_rfl)) (litArgs (by kernel_rfl)) (err_any v (wholeT depth) hv_ (wholeT_ok (by omega)) _) ?_
    rintro e w116 ⟨rfl, hbz⟩
    have hm117 := hm115.below hbz
    clear hbz hm115
    refine ⟨_, rfl, hm117, ?_⟩
    refine mP rfl ?_
    refine mgCall (i := 7) 15 [.agg (vwc v).toArray, .agg (tlc ⟨depth - 2, ⟨0, 0, 0⟩⟩).toArray] [] [] (by kernel_rfl) rfl (by kernel_rfl) (wgY rfl rfl rfl (by decide) (by kernel_rfl)) rfl (litEv (by kernel_rfl)) (litArgs (by kernel_rfl)) (rerr_any v (wholeT depth) hv_ (wholeT_ok (by omega)) _) ?_
    rintro e w118 ⟨rfl, hbz⟩
    have hm119 := hm117.below hbz
    clear hbz hm117
    refine ⟨_, rfl, hm119, ?_⟩
    refine mP rfl ?_
    refine mgTake (i := 8) (v := .bool true) rfl (by kernel_rfl) (wgY rfl rfl rfl (by decide) (by kernel_rfl)) (fun _ _ _ h => h) hm119 (fun w_ h_ => boolTo (by simp) (eqlRun (A := (err v (wholeT depth))) (B := (err v (wholeT depth))) (.tmp 68) (.tmp 71) rfl (litEv (by kernel_rfl)) (litEv (by kernel_rfl)))) ?_
    refine mP rfl ?_
    refine mk_ (i := 9) (v := .bool true) rfl rfl (fun _ _ _ h => h) hm119 rfl ?_
    refine mk_ (i := 10) (v := .bool true) rfl rfl (fun _ _ _ h => h) hm119 rfl ?_
    refine mgDone (by kernel_rfl) ?_
    refine then_normal (hK111 _ _ ?_)
    refine wpPrune [(6, .bool true)] ⟨litGet (by kernel_rfl), trivial⟩ (fun X120 => ?_)
    refine wp_ret ?_
    refine bodyPost_ret (v := .bool true) (gRes1 rfl (gResTmp (t := 6) (v := .bool true) (litGet (by kernel_rfl)))) rfl ?_
    exact ⟨rfl, hm119.bel⟩
  refine litVal (v := .bool true) rfl (wgY rfl rfl rfl (by decide) (by kernel_rfl)) (boolTo (by rw [decide_eq_false h103]; rfl) (neqRun (A := (ckV v)) (B := 0) (.tmp 57) (.const (.int .i64 0)) rfl (litEv (by kernel_rfl)) (litEv (by kernel_rfl)))) rfl (by decide) ?_
  refine lk (v := .bool true) rfl rfl rfl ?_
  refine plD ?_
  refine then_normal (hK95 _ _ ?_)
  refine wp_cond_true (litEv (by kernel_rfl)) ?_
  refine wp_seq_k fun K121 hK121 => ?_
  refine plStart ?_
  refine plCall (i := 0) 8 [] [] [] rfl (by kernel_rfl) (wn rfl) rfl (litEv (by kernel_rfl)) (litArgs (by kernel_rfl)) (sanity_any _) ?_
  rintro e w122 ⟨rfl, hbz⟩
  have hm123 := hm102.below hbz
  clear hbz hm102
  refine ⟨_, rfl, ?_⟩
  refine qP rfl ?_
  refine lk (v := .bool true) rfl rfl rfl ?_
  refine plD ?_
  refine then_normal (hK121 _ _ ?_)
  refine wpPrune [(0, .int .i64 depth), (4, .pointer (some ⟨g2, 0, none⟩)), (6, .bool true)] ⟨litGet (by kernel_rfl), ⟨litGet (by kernel_rfl), ⟨litGet (by kernel_rfl), trivial⟩⟩⟩ (fun X124 => ?_)
  refine wp_ret ?_
  refine then_ret ?_
  refine bodyPost_ret (v := .bool true) (gRes1 rfl (gResTmp (t := 6) (v := .bool true) (litGet (by kernel_rfl)))) rfl ?_
  exact ⟨rfl, hm123.bel⟩
end Go.Proofs.Ytkmhjgdpkddbnaa
