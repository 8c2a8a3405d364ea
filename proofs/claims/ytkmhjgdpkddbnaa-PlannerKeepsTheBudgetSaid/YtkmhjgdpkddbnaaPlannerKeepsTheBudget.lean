/-
  PlannerKeepsTheBudget: the plan is valid, keeps the budget, and no tile of it can be split.
-/
import Derived.Test.YtkmhjgdpkddbnaaPH
import Derived.Test.YtkmhjgdpkddbnaaPJ
import Derived.Test.YtkmhjgdpkddbnaaPK
namespace Go.Proofs.Ytkmhjgdpkddbnaa
open Go.RowKit
set_option linter.unusedVariables false
set_option linter.unusedSimpArgs false

theorem rsplit1_any (t : Tl) (A : Option Addr) (c : Nat) (w : World) (hr : Rd w w.heap.size 4 A 1 c (tlsC [t])) (ht : t.Ok) (h1 : 1 ≤ t.lv) :
    Calls Try.prog 21 #[.slice A 1 c, .int .i64 0] w (fun e w' => ∃ v, e = .returned (.tuple #[v, .int .i64 0]) ∧ w'.ownsRow w.heap.size 38 4 v 8 (tlsC (splitT t)) ∧ Below w.heap.size w w') := by
  have h2 := rsplit_any [t] 0 t A c w hr rfl ht h1 (by simp)
  have e : splitAt [t] 0 = splitT t := by simp [splitAt]
  rw [e, splitT_len] at h2
  exact h2
theorem planR_pos {f : Tl → Int} {v : Vw} {depth : Int} (hE : planE f depth v = 0) : 0 < (planR f depth v).tiles.length := by
  obtain ⟨_, h, _⟩ := planR_round hE (planE_dp hE).1
  have h1 := h.len
  have h2 := h.fuel
  omega
set_option maxRecDepth 100000 in
set_option maxHeartbeats 4000000 in
theorem walk_PlannerKeepsTheBudget (depth : Int) (v : Vw) (c_ : Cst) (w : World) (_b0 : -9223372036854775808 ≤ depth ∧ depth ≤ 9223372036854775807) (_b1 : -9223372036854775808 ≤ v.p.x ∧ v.p.x ≤ 9223372036854775807) (_b2 : -9223372036854775808 ≤ v.p.y ∧ v.p.y ≤ 9223372036854775807) (_b3 : -9223372036854775808 ≤ v.p.z ∧ v.p.z ≤ 9223372036854775807) (_b4 : -9223372036854775808 ≤ v.sc ∧ v.sc ≤ 9223372036854775807) (_b5 : -9223372036854775808 ≤ v.tol ∧ v.tol ≤ 9223372036854775807) (_b6 : -9223372036854775808 ≤ v.bud ∧ v.bud ≤ 9223372036854775807) (_b7 : -9223372036854775808 ≤ c_.kind ∧ c_.kind ≤ 9223372036854775807) (_b8 : -9223372036854775808 ≤ c_.base ∧ c_.base ≤ 9223372036854775807) (_b9 : -9223372036854775808 ≤ c_.spread ∧ c_.spread ≤ 9223372036854775807) (_b10 : -9223372036854775808 ≤ c_.seed ∧ c_.seed ≤ 9223372036854775807) : Calls Try.prog 5 #[.int .i64 depth, .agg (vwc v).toArray, .agg (csc c_).toArray] w (RetB w true) := by
 have hm0 := Mem.nil w
 go_enter Try.func5, Try.ntmps5
 refine litStart 176 [(0, .int .i64 depth), (1, .agg (vwc v).toArray), (2, .agg (csc c_).toArray)] (by kernel_rfl) (fun X0 => ?_)
 refine wp_seq_k fun K1 hK1 => ?_
 refine plStart ?_
 refine plBox hm0 (cs := vwc v) (i := 0) rfl (wn rfl) rfl (litEv (by kernel_rfl)) ?_
 intro g2 w4 hm3
 clear hm0
 try simp only [List.cons_append, List.nil_append, List.set_cons_succ, List.set_cons_zero] at hm3
 refine qP rfl ?_
 refine plBox hm3 (cs := csc c_) (i := 1) rfl (wn rfl) rfl (litEv (by kernel_rfl)) ?_
 intro g5 w7 hm6
 clear hm3
 try simp only [List.cons_append, List.nil_append, List.set_cons_succ, List.set_cons_zero] at hm6
 refine qP rfl ?_
 refine lk (v := .bool false) rfl rfl rfl ?_
 refine plD ?_
 refine then_normal (hK1 _ _ ?_)
 refine wp_seq_k fun K8 hK8 => ?_
 refine wp_seq_k fun K9 hK9 => ?_
 refine plStart ?_
 refine lk (v := .int .i64 depth) rfl rfl rfl ?_
 by_cases h10 : depth < 2
 · refine litVal (v := .bool true) rfl (wn rfl) (boolTo (decide_eq_true h10) (lssRun (A := depth) (B := 2) (.tmp 23) (.const (.int .i64 2)) rfl (litEv (by kernel_rfl)) (litEv (by kernel_rfl)))) rfl (by decide) ?_
   refine lk (v := .bool true) rfl rfl rfl ?_
   refine plSkip (i := 3) rfl (wgN rfl rfl rfl (by decide) (by kernel_rfl)) ?_
   refine qP rfl ?_
   refine plSkip (i := 4) rfl (wgN rfl rfl rfl (by decide) (by kernel_rfl)) ?_
   refine qP rfl ?_
   refine lk (v := .bool true) rfl rfl rfl ?_
   refine lk (v := .bool true) rfl rfl rfl ?_
   refine plSkip (i := 7) rfl (wgN rfl rfl rfl (by decide) (by kernel_rfl)) ?_
   refine qP rfl ?_
   refine plSkip (i := 8) rfl (wgN rfl rfl rfl (by decide) (by kernel_rfl)) ?_
   refine qP rfl ?_
   refine plSkip (i := 9) rfl (wgN rfl rfl rfl (by decide) (by kernel_rfl)) ?_
   refine qP rfl ?_
   refine lk (v := .bool true) rfl rfl rfl ?_
   refine plD ?_
   refine then_normal (hK9 _ _ ?_)
   refine wp_cond_true (litEv (by kernel_rfl)) ?_
   refine wp_seq_k fun K11 hK11 => ?_
   refine plStart ?_
   refine plCall (i := 0) 8 [] [] [] rfl (by kernel_rfl) (wn rfl) rfl (litEv (by kernel_rfl)) (litArgs (by kernel_rfl)) (sanity_any _) ?_
   rintro e w12 ⟨rfl, hbz⟩
   have hm13 := hm6.below hbz
   clear hbz hm6
   refine ⟨_, rfl, ?_⟩
   refine qP rfl ?_
   refine lk (v := .bool true) rfl rfl rfl ?_
   refine plD ?_
   refine then_normal (hK11 _ _ ?_)
   refine wpPrune [(0, .int .i64 depth), (4, .pointer (some ⟨g2, 0, none⟩)), (5, .pointer (some ⟨g5, 0, none⟩)), (6, .bool true)] ⟨litGet (by kernel_rfl), ⟨litGet (by kernel_rfl), ⟨litGet (by kernel_rfl), ⟨litGet (by kernel_rfl), trivial⟩⟩⟩⟩ (fun X14 => ?_)
   refine wp_ret ?_
   refine then_ret ?_
   refine bodyPost_ret (v := .bool true) (gRes1 rfl (gResTmp (t := 6) (v := .bool true) (litGet (by kernel_rfl)))) rfl ?_
   exact ⟨rfl, hm13.bel⟩
 refine litVal (v := .bool false) rfl (wn rfl) (boolTo (decide_eq_false h10) (lssRun (A := depth) (B := 2) (.tmp 23) (.const (.int .i64 2)) rfl (litEv (by kernel_rfl)) (litEv (by kernel_rfl)))) rfl (by decide) ?_
 refine lk (v := .bool false) rfl rfl rfl ?_
 refine litVal (v := .int .i64 depth) rfl (wgY rfl rfl rfl (by decide) (by kernel_rfl)) (litRun (by kernel_rfl)) rfl (by decide) ?_
 by_cases h15 : 6 < depth
 · refine litVal (v := .bool true) rfl (wgY rfl rfl rfl (by decide) (by kernel_rfl)) (boolTo (decide_eq_true h15) (gtrRun (A := depth) (B := 6) (.tmp 26) (.const (.int .i64 6)) rfl (litEv (by kernel_rfl)) (litEv (by kernel_rfl)))) rfl (by decide) ?_
   refine lk (v := .bool true) rfl rfl rfl ?_
   refine lk (v := .bool true) rfl rfl rfl ?_
   refine plSkip (i := 7) rfl (wgN rfl rfl rfl (by decide) (by kernel_rfl)) ?_
   refine qP rfl ?_
   refine plSkip (i := 8) rfl (wgN rfl rfl rfl (by decide) (by kernel_rfl)) ?_
   refine qP rfl ?_
   refine plSkip (i := 9) rfl (wgN rfl rfl rfl (by decide) (by kernel_rfl)) ?_
   refine qP rfl ?_
   refine lk (v := .bool true) rfl rfl rfl ?_
   refine plD ?_
   refine then_normal (hK9 _ _ ?_)
   refine wp_cond_true (litEv (by kernel_rfl)) ?_
   refine wp_seq_k fun K16 hK16 => ?_
   refine plStart ?_
   refine plCall (i := 0) 8 [] [] [] rfl (by kernel_rfl) (wn rfl) rfl (litEv (by kernel_rfl)) (litArgs (by kernel_rfl)) (sanity_any _) ?_
   rintro e w17 ⟨rfl, hbz⟩
   have hm18 := hm6.below hbz
   clear hbz hm6
   refine ⟨_, rfl, ?_⟩
   refine qP rfl ?_
   refine lk (v := .bool true) rfl rfl rfl ?_
   refine plD ?_
   refine then_normal (hK16 _ _ ?_)
   refine wpPrune [(0, .int .i64 depth), (4, .pointer (some ⟨g2, 0, none⟩)), (5, .pointer (some ⟨g5, 0, none⟩)), (6, .bool true)] ⟨litGet (by kernel_rfl), ⟨litGet (by kernel_rfl), ⟨litGet (by kernel_rfl), ⟨litGet (by kernel_rfl), trivial⟩⟩⟩⟩ (fun X19 => ?_)
   refine wp_ret ?_
   refine then_ret ?_
   refine bodyPost_ret (v := .bool true) (gRes1 rfl (gResTmp (t := 6) (v := .bool true) (litGet (by kernel_rfl)))) rfl ?_
   exact ⟨rfl, hm18.bel⟩
 refine litVal (v := .bool false) rfl (wgY rfl rfl rfl (by decide) (by kernel_rfl)) (boolTo (decide_eq_false h15) (gtrRun (A := depth) (B := 6) (.tmp 26) (.const (.int .i64 6)) rfl (litEv (by kernel_rfl)) (litEv (by kernel_rfl)))) rfl (by decide) ?_
 refine lk (v := .bool false) rfl rfl rfl ?_
 refine lk (v := .bool false) rfl rfl rfl ?_
 refine litVal (v := .agg (vwc v).toArray) rfl (wgY rfl rfl rfl (by decide) (by kernel_rfl)) (gLoadAg (vs := vwc v) (k := 0) 0 hm6 rfl (by kernel_rfl) (by kernel_rfl) (.tmp 4) Ty.ag_voxel_api_Viewer rfl (litEv (by kernel_rfl))) rfl (by decide) ?_
 refine plCall (i := 8) 13 [.agg (vwc v).toArray] [] [] rfl (by kernel_rfl) (wgY rfl rfl rfl (by decide) (by kernel_rfl)) rfl (litEv (by kernel_rfl)) (litArgs (by kernel_rfl)) (rcheck_any v _) ?_
 rintro e w20 ⟨rfl, hbz⟩
 have hm21 := hm6.below hbz
 clear hbz hm6
 refine ⟨_, rfl, ?_⟩
 refine qP rfl ?_
 by_cases h22 : (ckV v) = 0
 · have hv_ : ckV v = 0 := h22
   refine litVal (v := .bool false) rfl (wgY rfl rfl rfl (by decide) (by kernel_rfl)) (boolTo (by rw [decide_eq_true h22]; rfl) (neqRun (A := (ckV v)) (B := 0) (.tmp 31) (.const (.int .i64 0)) rfl (litEv (by kernel_rfl)) (litEv (by kernel_rfl)))) rfl (by decide) ?_
   refine lk (v := .bool false) rfl rfl rfl ?_
   refine plD ?_
   refine then_normal (hK9 _ _ ?_)
   refine wp_cond_false (litEv (by kernel_rfl)) ?_
   refine wp_skip ?_
   refine then_normal (hK8 _ _ ?_)
   refine wpPrune [(0, .int .i64 depth), (4, .pointer (some ⟨g2, 0, none⟩)), (5, .pointer (some ⟨g5, 0, none⟩)), (6, .bool false)] ⟨litGet (by kernel_rfl), ⟨litGet (by kernel_rfl), ⟨litGet (by kernel_rfl), ⟨litGet (by kernel_rfl), trivial⟩⟩⟩⟩ (fun X23 => ?_)
   refine wp_seq_k fun K24 hK24 => ?_
   refine plStart ?_
   refine lk (v := .int .i64 depth) rfl rfl rfl ?_
   refine litVal (v := .agg (vwc v).toArray) rfl (wn rfl) (gLoadAg (vs := vwc v) (k := 0) 0 hm21 rfl (by kernel_rfl) (by kernel_rfl) (.tmp 4) Ty.ag_voxel_api_Viewer rfl (litEv (by kernel_rfl))) rfl (by decide) ?_
   refine litVal (v := .agg (csc c_).toArray) rfl (wn rfl) (gLoadAg (vs := csc c_) (k := 0) 1 hm21 rfl (by kernel_rfl) (by kernel_rfl) (.tmp 5) Ty.ag_voxel_voxelref43_Costs rfl (litEv (by kernel_rfl))) rfl (by decide) ?_
   refine plCall (i := 3) 9 [.int .i64 depth, .agg (vwc v).toArray, .agg (csc c_).toArray] [] [] rfl (by kernel_rfl) (wn rfl) rfl (litEv (by kernel_rfl)) (litArgs (by kernel_rfl)) (planF_any depth v c_ _) ?_
   rintro e w25 ⟨v27, rfl, hown_, hbz⟩
   obtain ⟨A28, c29, rfl, hrd_⟩ := Rd.of_own hown_
   clear hrd_
   have hm26 := hm21.newRow hbz hown_
   clear hown_ hbz hm21
   try simp only [List.cons_append, List.nil_append, List.set_cons_succ, List.set_cons_zero] at hm26
   refine ⟨_, rfl, ?_⟩
   refine qP rfl ?_
   refine lk (v := .tuple #[.agg (plnC (.slice A28 ((planR (costP c_) depth v).tiles.length) c29) (planR (costP c_) depth v)).toArray, .int .i64 (planE (costP c_) depth v)]) rfl rfl rfl ?_
   refine lk (v := .agg (plnC (.slice A28 ((planR (costP c_) depth v).tiles.length) c29) (planR (costP c_) depth v)).toArray) rfl rfl rfl ?_
   refine lk (v := .int .i64 (planE (costP c_) depth v)) rfl rfl rfl ?_
   refine plAlloc (z := [.slice none 0 0, .int .i64 0, .int .i64 0, .int .i64 0]) Ty.ag_voxel_api_Planned hm26 (i := 7) rfl (wn rfl) rfl ?_
   intro g30 w32 hm31
   clear hm26
   try simp only [List.cons_append, List.nil_append, List.set_cons_succ, List.set_cons_zero] at hm31
   refine qP rfl ?_
   refine plStore 3 Ty.ag_voxel_api_Planned hm31 rfl (i := 8) (cs := plnC (.slice A28 ((planR (costP c_) depth v).tiles.length) c29) (planR (costP c_) depth v)) rfl (wn rfl) rfl (litEv (by kernel_rfl)) (litEv (by kernel_rfl)) rfl rfl (by kernel_rfl) ?_
   intro w34 hm33
   clear hm31
   try simp only [List.cons_append, List.nil_append, List.set_cons_succ, List.set_cons_zero] at hm33
   refine qNone rfl ?_
   refine lk (v := .int .i64 (planE (costP c_) depth v)) rfl rfl rfl ?_
   refine plD ?_
   refine then_normal (hK24 _ _ ?_)
   refine wp_seq_k fun K35 hK35 => ?_
   refine wp_seq_k fun K36 hK36 => ?_
   refine mgStart hm33 (by kernel_rfl) ?_
   intro w38 hm37
   clear hm33
   have hd_ : 2 ≤ depth ∧ depth ≤ 14 := by omega
   have hd6_ : depth ≤ 6 := by omega
   have hcw_ := costP_bd c_ (wholeT depth) (wholeT_ok hd_).lv
   refine mgTake (i := 0) (v := .agg (csc c_).toArray) rfl (by kernel_rfl) (wn rfl) (fun _ _ _ h => h) hm37 (fun w_ h_ => gLoadAg (vs := csc c_) (k := 0) 1 h_ rfl (by kernel_rfl) (by kernel_rfl) (.tmp 5) Ty.ag_voxel_voxelref43_Costs rfl (litEv (by kernel_rfl))) ?_
   refine mP rfl ?_
   refine mk_ (i := 1) (v := .int .i64 depth) rfl rfl (fun _ _ _ h => h) hm37 rfl ?_
   refine mgTake (i := 2) (v := .int .i64 (depth - 2)) rfl (by kernel_rfl) (wn rfl) (fun _ _ _ h => h) hm37 (fun w_ h_ => subRun (A := depth) (B := 2) (C := depth - 2) (.tmp 43) (.const (.int .i64 2)) rfl (litEv (by kernel_rfl)) (litEv (by kernel_rfl)) rfl (by omega)) ?_
   refine mP rfl ?_
   refine mk_ (i := 3) (v := .agg (tlc (wholeT depth)).toArray) rfl rfl (fun _ _ _ h => h) hm37 rfl ?_
   refine mk_ (i := 5) (v := .pointer (some ⟨g2, 5, none⟩)) rfl rfl (fun _ _ _ h => h) hm37 rfl ?_
   refine mgTake (i := 6) (v := .int .i64 v.bud) rfl (by kernel_rfl) (wn rfl) (fun _ _ _ h => h) hm37 (fun w_ h_ => gLoad (v := .int .i64 v.bud) (k := 5) 0 h_ rfl (by kernel_rfl) (.tmp 47) (by kernel_rfl) rfl (litEv (by kernel_rfl))) ?_
   refine mP rfl ?_
   refine mgCall (i := 4) 19 [.agg (csc c_).toArray, .agg (tlc (wholeT depth)).toArray] [] [] (by kernel_rfl) rfl (by kernel_rfl) (wn rfl) rfl (litEv (by kernel_rfl)) (litArgs (by kernel_rfl)) (cost_any c_ (wholeT depth) (wholeT_ok hd_).lv _) ?_
   rintro e w39 ⟨rfl, hbz⟩
   have hm40 := hm37.below hbz
   clear hbz hm37
   refine ⟨_, rfl, hm40, ?_⟩
   refine mP rfl ?_
   by_cases h41 : v.bud < (costP c_ (wholeT depth))
   · have hdear_ := h41
     have hE17_ : planE (costP c_) depth v = 17 := planE_17 hd_ hv_ hdear_
     refine mgTake (i := 7) (v := .bool true) rfl (by kernel_rfl) (wn rfl) (fun _ _ _ h => h) hm40 (fun w_ h_ => boolTo (decide_eq_true h41) (gtrRun (A := (costP c_ (wholeT depth))) (B := v.bud) (.tmp 46) (.tmp 48) rfl (litEv (by kernel_rfl)) (litEv (by kernel_rfl)))) ?_
     refine mP rfl ?_
     refine mk_ (i := 8) (v := .bool true) rfl rfl (fun _ _ _ h => h) hm40 rfl ?_
     refine mgDone (by kernel_rfl) ?_
     refine then_normal (hK36 _ _ ?_)
     refine wpPrune [(0, .int .i64 depth), (4, .pointer (some ⟨g2, 0, none⟩)), (5, .pointer (some ⟨g5, 0, none⟩)), (6, .bool false), (7, .pointer (some ⟨g30, 0, none⟩)), (8, .int .i64 (planE (costP c_) depth v)), (9, .bool true)] ⟨litGet (by kernel_rfl), ⟨litGet (by kernel_rfl), ⟨litGet (by kernel_rfl), ⟨litGet (by kernel_rfl), ⟨litGet (by kernel_rfl), ⟨litGet (by kernel_rfl), ⟨litGet (by kernel_rfl), trivial⟩⟩⟩⟩⟩⟩⟩ (fun X42 => ?_)
     refine wp_seq_k fun K43 hK43 => ?_
     refine plStart ?_
     refine lk (v := .bool true) rfl rfl rfl ?_
     refine lk (v := .bool true) rfl rfl rfl ?_
     refine plSkip (i := 2) rfl (wgN rfl rfl rfl (by decide) (by kernel_rfl)) ?_
     refine qP rfl ?_
     refine plSkip (i := 3) rfl (wgN rfl rfl rfl (by decide) (by kernel_rfl)) ?_
     refine qP rfl ?_
     refine lk (v := .bool true) rfl rfl rfl ?_
     refine plD ?_
     refine then_normal (hK43 _ _ ?_)
     refine wp_cond_true (litEv (by kernel_rfl)) ?_
     refine wp_seq_k fun K44 hK44 => ?_
     refine plStart ?_
     refine plCall (i := 0) 8 [] [] [] rfl (by kernel_rfl) (wn rfl) rfl (litEv (by kernel_rfl)) (litArgs (by kernel_rfl)) (sanity_any _) ?_
     rintro e w45 ⟨rfl, hbz⟩
     have hm46 := hm40.below hbz
     clear hbz hm40
     refine ⟨_, rfl, ?_⟩
     refine qP rfl ?_
     refine lk (v := .bool true) rfl rfl rfl ?_
     refine litVal (v := .bool true) rfl (wgY rfl rfl rfl (by decide) (by kernel_rfl)) (litRun (by kernel_rfl)) rfl (by decide) ?_
     refine lk (v := .bool true) rfl rfl rfl ?_
     refine lk (v := .bool true) rfl rfl rfl ?_
     refine litVal (v := .int .i64 (planE (costP c_) depth v)) rfl (wgY rfl rfl rfl (by decide) (by kernel_rfl)) (litRun (by kernel_rfl)) rfl (by decide) ?_
     refine litVal (v := .bool true) rfl (wgY rfl rfl rfl (by decide) (by kernel_rfl)) (boolTo (decide_eq_true (planE_17 hd_ hv_ hdear_)) (eqlRun (A := (planE (costP c_) depth v)) (B := 17) (.tmp 60) (.const (.int .i64 17)) rfl (litEv (by kernel_rfl)) (litEv (by kernel_rfl)))) rfl (by decide) ?_
     refine lk (v := .bool true) rfl rfl rfl ?_
     refine lk (v := .bool true) rfl rfl rfl ?_
     refine litVal (v := .agg (plnC (.slice A28 ((planR (costP c_) depth v).tiles.length) c29) (planR (costP c_) depth v)).toArray) rfl (wgY rfl rfl rfl (by decide) (by kernel_rfl)) (gLoadAg (vs := plnC (.slice A28 ((planR (costP c_) depth v).tiles.length) c29) (planR (costP c_) depth v)) (k := 0) 3 hm46 rfl (by kernel_rfl) (by kernel_rfl) (.tmp 7) Ty.ag_voxel_api_Planned rfl (litEv (by kernel_rfl))) rfl (by decide) ?_
     refine litVal (v := .agg ([.slice none 0 0, .int .i64 0, .int .i64 0, .int .i64 0]).toArray) rfl (wgY rfl rfl rfl (by decide) (by kernel_rfl)) (litRun (by kernel_rfl)) rfl (by decide) ?_
     refine plCall (i := 11) 11 [.agg (plnC (.slice A28 ((planR (costP c_) depth v).tiles.length) c29) (planR (costP c_) depth v)).toArray, .agg ([.slice none 0 0, .int .i64 0, .int .i64 0, .int .i64 0]).toArray] [] [] rfl (by kernel_rfl) (wgY rfl rfl rfl (by decide) (by kernel_rfl)) rfl (litEv (by kernel_rfl)) (litArgs (by kernel_rfl)) (by exact callsTo (congrArg Value.bool (decide_eq_true (planR_no (by rw [hE17_]; decide)))) (same_any (planR (costP c_) depth v) pln0 (A28) none c29 0 _ (hm46.rdRow 2 rfl) (Rd.nil _ _ 4))) ?_
     rintro e w47 ⟨rfl, hbz⟩
     have hm48 := hm46.below hbz
     clear hbz hm46
     refine ⟨_, rfl, ?_⟩
     refine qP rfl ?_
     refine lk (v := .bool true) rfl rfl rfl ?_
     refine lk (v := .bool true) rfl rfl rfl ?_
     refine plD ?_
     refine then_normal (hK44 _ _ ?_)
     refine wpPrune [(0, .int .i64 depth), (4, .pointer (some ⟨g2, 0, none⟩)), (5, .pointer (some ⟨g5, 0, none⟩)), (6, .bool true), (7, .pointer (some ⟨g30, 0, none⟩))] ⟨litGet (by kernel_rfl), ⟨litGet (by kernel_rfl), ⟨litGet (by kernel_rfl), ⟨litGet (by kernel_rfl), ⟨litGet (by kernel_rfl), trivial⟩⟩⟩⟩⟩ (fun X49 => ?_)
     refine wp_ret ?_
     refine then_ret ?_
     refine bodyPost_ret (v := .bool true) (gRes1 rfl (gResTmp (t := 6) (v := .bool true) (litGet (by kernel_rfl)))) rfl ?_
     exact ⟨rfl, hm48.bel⟩
   have hdear_ := h41
   refine mgTake (i := 7) (v := .bool false) rfl (by kernel_rfl) (wn rfl) (fun _ _ _ h => h) hm40 (fun w_ h_ => boolTo (decide_eq_false h41) (gtrRun (A := (costP c_ (wholeT depth))) (B := v.bud) (.tmp 46) (.tmp 48) rfl (litEv (by kernel_rfl)) (litEv (by kernel_rfl)))) ?_
   refine mP rfl ?_
   refine mk_ (i := 8) (v := .bool false) rfl rfl (fun _ _ _ h => h) hm40 rfl ?_
   refine mgDone (by kernel_rfl) ?_
   refine then_normal (hK36 _ _ ?_)
   refine wpPrune [(0, .int .i64 depth), (4, .pointer (some ⟨g2, 0, none⟩)), (5, .pointer (some ⟨g5, 0, none⟩)), (6, .bool false), (7, .pointer (some ⟨g30, 0, none⟩)), (8, .int .i64 (planE (costP c_) depth v)), (9, .bool false)] ⟨litGet (by kernel_rfl), ⟨litGet (by kernel_rfl), ⟨litGet (by kernel_rfl), ⟨litGet (by kernel_rfl), ⟨litGet (by kernel_rfl), ⟨litGet (by kernel_rfl), ⟨litGet (by kernel_rfl), trivial⟩⟩⟩⟩⟩⟩⟩ (fun X50 => ?_)
   refine wp_seq_k fun K51 hK51 => ?_
   refine plStart ?_
   refine lk (v := .bool false) rfl rfl rfl ?_
   refine lk (v := .bool false) rfl rfl rfl ?_
   refine litVal (v := .int .i64 (planE (costP c_) depth v)) rfl (wgY rfl rfl rfl (by decide) (by kernel_rfl)) (litRun (by kernel_rfl)) rfl (by decide) ?_
   refine litVal (v := .bool false) rfl (wgY rfl rfl rfl (by decide) (by kernel_rfl)) (boolTo (by rw [decide_eq_true (planE_0 hd_ hv_ hdear_)]; rfl) (neqRun (A := (planE (costP c_) depth v)) (B := 0) (.tmp 52) (.const (.int .i64 0)) rfl (litEv (by kernel_rfl)) (litEv (by kernel_rfl)))) rfl (by decide) ?_
   refine lk (v := .bool false) rfl rfl rfl ?_
   refine plD ?_
   refine then_normal (hK51 _ _ ?_)
   refine wp_cond_false (litEv (by kernel_rfl)) ?_
   refine wp_skip ?_
   refine then_normal (hK35 _ _ ?_)
   refine wp_seq_k fun K52 hK52 => ?_
   refine plStart ?_
   have hE_ : planE (costP c_) depth v = 0 := planE_0 hd_ hv_ hdear_
   have hlen_ : (planR (costP c_) depth v).tiles.length ≤ 4096 := planR_len
   have hcost_ := planR_cost hE_
   have htot_ := totalP_bd (f := costP c_) (l := (planR (costP c_) depth v).tiles) (fun u hu => costP_ok c_ u (planR_ok u hu))
   obtain ⟨b53, rfl⟩ := hm40.rowBlk (A := A28) (n := (planR (costP c_) depth v).tiles.length) (c := c29) 2 rfl (planR_pos hE_)
   refine lk (v := .int .i64 0) rfl rfl rfl ?_
   refine lk (v := .int .i64 0) rfl rfl rfl ?_
   refine lk (v := .int .i64 0) rfl rfl rfl ?_
   refine plD ?_
   refine then_normal (hK52 _ _ ?_)
   refine wp_seq_k fun K54 hK54 => ?_
   refine wp_seq_k fun K55 hK55 => ?_
   refine plStart ?_
   refine lk (v := .pointer (some ⟨g30, 0, none⟩)) rfl rfl rfl ?_
   refine litVal (v := .slice (some ⟨b53, 0, none⟩) ((planR (costP c_) depth v).tiles.length) c29) rfl (wn rfl) (gLoad (v := .slice (some ⟨b53, 0, none⟩) ((planR (costP c_) depth v).tiles.length) c29) (k := 0) 3 hm40 rfl (by kernel_rfl) (.tmp 68) (by kernel_rfl) rfl (litEv (by kernel_rfl))) rfl (by decide) ?_
   refine litVal (v := .int .i64 ((planR (costP c_) depth v).tiles.length : Int)) rfl (wn rfl) (lenSlRun (A := some ⟨b53, 0, none⟩) (n := (planR (costP c_) depth v).tiles.length) (c := c29) (.tmp 69) Ty.und_L_api_Tile rfl (litEv (by kernel_rfl))) rfl (by decide) ?_
   refine lk (v := .int .i64 0) rfl rfl rfl ?_
   refine plD ?_
   refine then_normal (hK55 _ _ ?_)
   refine wp_block ?_
   refine gwLoop (fun n_ a_ w_ => ∃ (j : Nat) (bnd : Int), n_ = (planR (costP c_) depth v).tiles.length - j ∧ (j ≤ (planR (costP c_) depth v).tiles.length) ∧ (((planR (costP c_) depth v).tiles.drop j).foldl boundF bnd = boundP (planR (costP c_) depth v).tiles) ∧ Fr a_ 176 [(0, .int .i64 depth), (4, .pointer (some ⟨g2, 0, none⟩)), (5, .pointer (some ⟨g5, 0, none⟩)), (6, .bool false), (7, .pointer (some ⟨g30, 0, none⟩)), (10, .int .i64 (totalP (costP c_) ((planR (costP c_) depth v).tiles.take j))), (11, .int .i64 bnd), (12, .int .i64 0), (69, .slice (some ⟨b53, 0, none⟩) ((planR (costP c_) depth v).tiles.length) c29), (70, .int .i64 ((planR (costP c_) depth v).tiles.length : Int)), (71, .int .i64 (j : Int))] ∧ Mem w w_ [.arr g2 25 (vwc v), .arr g5 27 (csc c_), .row (.slice (some ⟨b53, 0, none⟩) ((planR (costP c_) depth v).tiles.length) c29) 38 4 ((planR (costP c_) depth v).tiles.length) (tlsC (planR (costP c_) depth v).tiles), .arr g30 31 (plnC (.slice (some ⟨b53, 0, none⟩) ((planR (costP c_) depth v).tiles.length) c29) (planR (costP c_) depth v))]) ((planR (costP c_) depth v).tiles.length - 0) ⟨0, 0, rfl, (Nat.zero_le _), rfl, ⟨litSize, rfl, ⟨litGet (by kernel_rfl), ⟨litGet (by kernel_rfl), ⟨litGet (by kernel_rfl), ⟨litGet (by kernel_rfl), ⟨litGet (by kernel_rfl), ⟨litGet (by kernel_rfl), ⟨litGet (by kernel_rfl), ⟨litGet (by kernel_rfl), ⟨litGet (by kernel_rfl), ⟨litGet (by kernel_rfl), ⟨litGet (by kernel_rfl), trivial⟩⟩⟩⟩⟩⟩⟩⟩⟩⟩⟩⟩, (hm40.sub (.cons_cons _ (.cons_cons _ (.cons_cons _ (.cons_cons _ .slnil)))))⟩ ?_
   clear hm40
   intro n_ a58 w56 hI_
   obtain ⟨j, bnd, rfl, hjl, hb1, hF_, hm57⟩ := hI_
   obtain ⟨X59, rfl⟩ := frLit hF_
   clear hF_
   refine wp_seq_k fun K60 hK60 => ?_
   refine plStart ?_
   by_cases h61 : (j : Int) < ((planR (costP c_) depth v).tiles.length : Int)
   · obtain ⟨t, hkt⟩ : ∃ t, (planR (costP c_) depth v).tiles[j]? = some t := ⟨_, List.getElem?_eq_getElem (by omega)⟩
     have htok : t.Ok := planR_ok t (List.mem_of_getElem? hkt)
     have hp2_ := pow12 htok.lv
     have hlv_ := htok.lv
     have hcb_ := costP_bd c_ t htok.lv
     have htb_ := totalP_bd (f := costP c_) (l := (planR (costP c_) depth v).tiles.take j) (fun u hu => costP_ok c_ u (planR_ok u (List.mem_of_mem_take hu)))
     have hjt_ : ((planR (costP c_) depth v).tiles.take j).length ≤ 4096 := by rw [List.length_take]; omega
     refine litVal (v := .bool true) rfl (wn rfl) (boolTo (decide_eq_true h61) (lssRun (A := (j : Int)) (B := ((planR (costP c_) depth v).tiles.length : Int)) (.tmp 71) (.tmp 70) rfl (litEv (by kernel_rfl)) (litEv (by kernel_rfl)))) rfl (by decide) ?_
     refine plD ?_
     refine then_normal (hK60 _ _ ?_)
     refine wp_seq_k fun K62 hK62 => ?_
     refine wp_cond_true (litEv (by kernel_rfl)) ?_
     refine wp_skip ?_
     refine then_normal (hK62 _ _ ?_)
     refine wp_seq_k fun K63 hK63 => ?_
     refine wp_block ?_
     refine wp_seq_k fun K64 hK64 => ?_
     refine plStart ?_
     refine litVal (v := .pointer (some ⟨b53, 0 + j * 4, none⟩)) rfl (wn rfl) (gIaSl (b := b53) (off := 0) (n := (planR (costP c_) depth v).tiles.length) (c := c29) (kk := .i64) (K := (j : Int)) (.tmp 69) (.tmp 71) j Ty.sl_L_api_Tile rfl (litEv (by kernel_rfl)) (litEv (by kernel_rfl)) (rfl) (by omega)) rfl (by decide) ?_
     refine litVal (v := .agg (tlc t).toArray) rfl (wn rfl) (gLoadAgRd (vs := tlc t) (m := j * 4) (hm57.rdRow 2 rfl) rfl (fun i_ u_ hu_ => tlsC_get hkt i_ u_ hu_) (by kernel_rfl) (by omega) (.tmp 73) Ty.ag_voxel_api_Tile rfl (litEv (by kernel_rfl))) rfl (by decide) ?_
     refine plAlloc (z := [.int .i64 0, .int .i64 0, .int .i64 0, .int .i64 0]) Ty.ag_voxel_api_Tile hm57 (i := 2) rfl (wn rfl) rfl ?_
     intro g65 w67 hm66
     clear hm57
     try simp only [List.cons_append, List.nil_append, List.set_cons_succ, List.set_cons_zero] at hm66
     refine qP rfl ?_
     refine plStore 4 Ty.ag_voxel_api_Tile hm66 rfl (i := 3) (cs := tlc t) rfl (wn rfl) rfl (litEv (by kernel_rfl)) (litEv (by kernel_rfl)) rfl rfl (by kernel_rfl) ?_
     intro w69 hm68
     clear hm66
     try simp only [List.cons_append, List.nil_append, List.set_cons_succ, List.set_cons_zero] at hm68
     refine qNone rfl ?_
     refine plD ?_
     refine then_normal (hK64 _ _ ?_)
     refine wp_seq_k fun K70 hK70 => ?_
     refine plStart ?_
     refine lk (v := .int .i64 (totalP (costP c_) ((planR (costP c_) depth v).tiles.take j))) rfl rfl rfl ?_
     refine litVal (v := .agg (csc c_).toArray) rfl (wn rfl) (gLoadAg (vs := csc c_) (k := 0) 1 hm68 rfl (by kernel_rfl) (by kernel_rfl) (.tmp 5) Ty.ag_voxel_voxelref43_Costs rfl (litEv (by kernel_rfl))) rfl (by decide) ?_
     refine litVal (v := .agg (tlc t).toArray) rfl (wn rfl) (gLoadAg (vs := tlc t) (k := 0) 4 hm68 rfl (by kernel_rfl) (by kernel_rfl) (.tmp 14) Ty.ag_voxel_api_Tile rfl (litEv (by kernel_rfl))) rfl (by decide) ?_
     refine plCall (i := 3) 19 [.agg (csc c_).toArray, .agg (tlc t).toArray] [] [] rfl (by kernel_rfl) (wn rfl) rfl (litEv (by kernel_rfl)) (litArgs (by kernel_rfl)) (cost_any c_ t htok.lv _) ?_
     rintro e w71 ⟨rfl, hbz⟩
     have hm72 := hm68.below hbz
     clear hbz hm68
     refine ⟨_, rfl, ?_⟩
     refine qP rfl ?_
     refine litVal (v := .int .i64 (totalP (costP c_) ((planR (costP c_) depth v).tiles.take (j + 1)))) rfl (wn rfl) (addRun (A := (totalP (costP c_) ((planR (costP c_) depth v).tiles.take j))) (B := (costP c_ t)) (C := totalP (costP c_) ((planR (costP c_) depth v).tiles.take (j + 1))) (.tmp 75) (.tmp 78) rfl (litEv (by kernel_rfl)) (litEv (by kernel_rfl)) (totalP_take hkt).symm (by rw [totalP_take hkt]; omega)) rfl (by decide) ?_
     refine lk (v := .int .i64 (totalP (costP c_) ((planR (costP c_) depth v).tiles.take (j + 1)))) rfl rfl rfl ?_
     refine plD ?_
     refine then_normal (hK70 _ _ ?_)
     refine plStart ?_
     refine lk (v := .int .i64 bnd) rfl rfl rfl ?_
     refine lk (v := .pointer (some ⟨g65, 0, none⟩)) rfl rfl rfl ?_
     refine litVal (v := .int .i64 t.lv) rfl (wn rfl) (gLoad (v := .int .i64 t.lv) (k := 0) 4 hm72 rfl (by kernel_rfl) (.tmp 81) (by kernel_rfl) rfl (litEv (by kernel_rfl))) rfl (by decide) ?_
     refine litVal (v := .int .i64 (min t.lv 14)) rfl (wn rfl) (gMin (.tmp 82) (.const (.int .i64 14)) rfl (litEv (by kernel_rfl)) (litEv (by kernel_rfl))) rfl (by decide) ?_
     refine litVal (v := .int .i64 (max 0 (min t.lv 14))) rfl (wn rfl) (gMax (.const (.int .i64 0)) (.tmp 83) rfl (litEv (by kernel_rfl)) (litEv (by kernel_rfl))) rfl (by decide) ?_
     refine litVal (v := .int .i64 (2 ^ t.lv.toNat)) rfl (wn rfl) (gShl (A := 1) (N := (max 0 (min t.lv 14))) (C := 2 ^ t.lv.toNat) (.const (.int .i64 1)) (.tmp 84) rfl (litEv (by kernel_rfl)) (litEv (by kernel_rfl)) (by rw [show (max 0 (min t.lv 14)) = t.lv by omega, Int.one_mul]) (by omega) (by omega) (by omega)) rfl (by decide) ?_
     refine litVal (v := .int .i64 (max bnd (2 ^ t.lv.toNat))) rfl (wn rfl) (gMax (.tmp 80) (.tmp 85) rfl (litEv (by kernel_rfl)) (litEv (by kernel_rfl))) rfl (by decide) ?_
     refine lk (v := .int .i64 (max bnd (2 ^ t.lv.toNat))) rfl rfl rfl ?_
     refine plD ?_
     refine inBlock_normal ?_
     refine then_normal (hK63 _ _ ?_)
     refine plStart ?_
     refine litVal (v := .int .i64 ((j : Int) + 1)) rfl (wn rfl) (addRun (A := (j : Int)) (B := 1) (C := (j : Int) + 1) (.tmp 71) (.const (.int .i64 1)) rfl (litEv (by kernel_rfl)) (litEv (by kernel_rfl)) rfl (by omega)) rfl (by decide) ?_
     refine lk (v := .int .i64 ((j : Int) + 1)) rfl rfl rfl ?_
     refine plD ?_
     refine then_normal ?_
     exact ⟨_, by omega, (j + 1), _, rfl, (by omega), (fold_next hkt hb1), ⟨litSize, rfl, ⟨litGet (by kernel_rfl), ⟨litGet (by kernel_rfl), ⟨litGet (by kernel_rfl), ⟨litGet (by kernel_rfl), ⟨litGet (by kernel_rfl), ⟨litGet (by kernel_rfl), ⟨litGet (by kernel_rfl), ⟨litGet (by kernel_rfl), ⟨litGet (by kernel_rfl), ⟨litGet (by kernel_rfl), ⟨litGet (by kernel_rfl), trivial⟩⟩⟩⟩⟩⟩⟩⟩⟩⟩⟩⟩, (hm72.sub (.cons_cons _ (.cons_cons _ (.cons_cons _ (.cons_cons _ (.cons _ .slnil))))))⟩
   rw [show totalP (costP c_) ((planR (costP c_) depth v).tiles.take j) = (planR (costP c_) depth v).cost by rw [List.take_of_length_le (by omega)]; exact hcost_.symm]
   refine litVal (v := .bool false) rfl (wn rfl) (boolTo (decide_eq_false h61) (lssRun (A := (j : Int)) (B := ((planR (costP c_) depth v).tiles.length : Int)) (.tmp 71) (.tmp 70) rfl (litEv (by kernel_rfl)) (litEv (by kernel_rfl)))) rfl (by decide) ?_
   refine plD ?_
   refine then_normal (hK60 _ _ ?_)
   refine wp_seq_k fun K73 hK73 => ?_
   refine wp_cond_false (litEv (by kernel_rfl)) ?_
   refine wp_exit ?_
   refine then_exit ?_
   refine then_exit ?_
   refine inBlock_exit ?_
   refine then_normal (hK54 _ _ ?_)
   refine wp_seq_k fun K74 hK74 => ?_
   refine wp_seq_k fun K75 hK75 => ?_
   refine plStart ?_
   refine lk (v := .int .i64 depth) rfl rfl rfl ?_
   refine lk (v := .pointer (some ⟨g30, 0, none⟩)) rfl rfl rfl ?_
   refine litVal (v := .slice (some ⟨b53, 0, none⟩) ((planR (costP c_) depth v).tiles.length) c29) rfl (wn rfl) (gLoad (v := .slice (some ⟨b53, 0, none⟩) ((planR (costP c_) depth v).tiles.length) c29) (k := 0) 3 hm57 rfl (by kernel_rfl) (.tmp 89) (by kernel_rfl) rfl (litEv (by kernel_rfl))) rfl (by decide) ?_
   refine plCall (i := 3) 20 [.int .i64 depth, .slice (some ⟨b53, 0, none⟩) ((planR (costP c_) depth v).tiles.length) c29] [] [] rfl (by kernel_rfl) (wn rfl) rfl (litEv (by kernel_rfl)) (litArgs (by kernel_rfl)) (rcheckP_any depth (planR (costP c_) depth v).tiles hd_ (planR_valid hE_) (planR_pos hE_) planR_len _ _ _ (hm57.rdRow 2 rfl)) ?_
   rintro e w76 ⟨rfl, hbz⟩
   have hm77 := hm57.below hbz
   clear hbz hm57
   refine ⟨_, rfl, ?_⟩
   refine qP rfl ?_
   refine lk (v := .bool false) rfl rfl rfl ?_
   refine lk (v := .bool false) rfl rfl rfl ?_
   refine litVal (v := .int .i64 ((planR (costP c_) depth v).cost)) rfl (wgY rfl rfl rfl (by decide) (by kernel_rfl)) (litRun (by kernel_rfl)) rfl (by decide) ?_
   refine litVal (v := .pointer (some ⟨g30, 1, none⟩)) rfl (wgY rfl rfl rfl (by decide) (by kernel_rfl)) (litRun (by kernel_rfl)) rfl (by decide) ?_
   refine litVal (v := .int .i64 ((planR (costP c_) depth v).cost)) rfl (wgY rfl rfl rfl (by decide) (by kernel_rfl)) (gLoad (v := .int .i64 ((planR (costP c_) depth v).cost)) (k := 1) 3 hm77 rfl (by kernel_rfl) (.tmp 95) (by kernel_rfl) rfl (litEv (by kernel_rfl))) rfl (by decide) ?_
   refine litVal (v := .bool false) rfl (wgY rfl rfl rfl (by decide) (by kernel_rfl)) (boolTo (by simp) (neqRun (A := ((planR (costP c_) depth v).cost)) (B := ((planR (costP c_) depth v).cost)) (.tmp 94) (.tmp 96) rfl (litEv (by kernel_rfl)) (litEv (by kernel_rfl)))) rfl (by decide) ?_
   refine lk (v := .bool false) rfl rfl rfl ?_
   refine lk (v := .bool false) rfl rfl rfl ?_
   refine litVal (v := .int .i64 ((planR (costP c_) depth v).cost)) rfl (wgY rfl rfl rfl (by decide) (by kernel_rfl)) (litRun (by kernel_rfl)) rfl (by decide) ?_
   refine litVal (v := .pointer (some ⟨g2, 5, none⟩)) rfl (wgY rfl rfl rfl (by decide) (by kernel_rfl)) (litRun (by kernel_rfl)) rfl (by decide) ?_
   refine litVal (v := .int .i64 v.bud) rfl (wgY rfl rfl rfl (by decide) (by kernel_rfl)) (gLoad (v := .int .i64 v.bud) (k := 5) 0 hm77 rfl (by kernel_rfl) (.tmp 101) (by kernel_rfl) rfl (litEv (by kernel_rfl))) rfl (by decide) ?_
   refine litVal (v := .bool false) rfl (wgY rfl rfl rfl (by decide) (by kernel_rfl)) (boolTo (decide_eq_false (Int.not_lt.2 (planR_bud hE_))) (gtrRun (A := ((planR (costP c_) depth v).cost)) (B := v.bud) (.tmp 100) (.tmp 102) rfl (litEv (by kernel_rfl)) (litEv (by kernel_rfl)))) rfl (by decide) ?_
   refine lk (v := .bool false) rfl rfl rfl ?_
   refine lk (v := .bool false) rfl rfl rfl ?_
   refine litVal (v := .int .i64 bnd) rfl (wgY rfl rfl rfl (by decide) (by kernel_rfl)) (litRun (by kernel_rfl)) rfl (by decide) ?_
   refine litVal (v := .pointer (some ⟨g30, 2, none⟩)) rfl (wgY rfl rfl rfl (by decide) (by kernel_rfl)) (litRun (by kernel_rfl)) rfl (by decide) ?_
   refine litVal (v := .int .i64 ((planR (costP c_) depth v).bound)) rfl (wgY rfl rfl rfl (by decide) (by kernel_rfl)) (gLoad (v := .int .i64 ((planR (costP c_) depth v).bound)) (k := 2) 3 hm77 rfl (by kernel_rfl) (.tmp 107) (by kernel_rfl) rfl (litEv (by kernel_rfl))) rfl (by decide) ?_
   refine litVal (v := .bool false) rfl (wgY rfl rfl rfl (by decide) (by kernel_rfl)) (boolTo (by rw [decide_eq_true (show bnd = (planR (costP c_) depth v).bound by rw [List.drop_of_length_le (by omega)] at hb1; rw [(planR_bound hE_).1]; exact hb1)]; rfl) (neqRun (A := bnd) (B := ((planR (costP c_) depth v).bound)) (.tmp 106) (.tmp 108) rfl (litEv (by kernel_rfl)) (litEv (by kernel_rfl)))) rfl (by decide) ?_
   refine lk (v := .bool false) rfl rfl rfl ?_
   refine plD ?_
   refine then_normal (hK75 _ _ ?_)
   refine wpPrune [(4, .pointer (some ⟨g2, 0, none⟩)), (5, .pointer (some ⟨g5, 0, none⟩)), (6, .bool false), (7, .pointer (some ⟨g30, 0, none⟩)), (10, .int .i64 ((planR (costP c_) depth v).cost)), (12, .int .i64 0), (110, .bool false)] ⟨litGet (by kernel_rfl), ⟨litGet (by kernel_rfl), ⟨litGet (by kernel_rfl), ⟨litGet (by kernel_rfl), ⟨litGet (by kernel_rfl), ⟨litGet (by kernel_rfl), ⟨litGet (by kernel_rfl), trivial⟩⟩⟩⟩⟩⟩⟩ (fun X78 => ?_)
   refine wp_cond_false (litEv (by kernel_rfl)) ?_
   refine wp_skip ?_
   refine then_normal (hK74 _ _ ?_)
   refine wp_seq_k fun K79 hK79 => ?_
   refine wp_seq_k fun K80 hK80 => ?_
   refine plStart ?_
   refine lk (v := .pointer (some ⟨g30, 0, none⟩)) rfl rfl rfl ?_
   refine litVal (v := .slice (some ⟨b53, 0, none⟩) ((planR (costP c_) depth v).tiles.length) c29) rfl (wn rfl) (gLoad (v := .slice (some ⟨b53, 0, none⟩) ((planR (costP c_) depth v).tiles.length) c29) (k := 0) 3 hm77 rfl (by kernel_rfl) (.tmp 111) (by kernel_rfl) rfl (litEv (by kernel_rfl))) rfl (by decide) ?_
   refine litVal (v := .int .i64 ((planR (costP c_) depth v).tiles.length : Int)) rfl (wn rfl) (lenSlRun (A := some ⟨b53, 0, none⟩) (n := (planR (costP c_) depth v).tiles.length) (c := c29) (.tmp 112) Ty.und_L_api_Tile rfl (litEv (by kernel_rfl))) rfl (by decide) ?_
   refine lk (v := .int .i64 0) rfl rfl rfl ?_
   refine plD ?_
   refine then_normal (hK80 _ _ ?_)
   refine wp_block ?_
   refine gwLoop (fun n_ a_ w_ => ∃ (i : Nat) (wst : Int), n_ = (planR (costP c_) depth v).tiles.length - i ∧ (i ≤ (planR (costP c_) depth v).tiles.length) ∧ (((planR (costP c_) depth v).tiles.drop i).foldl (worstF v) wst = worstP v (planR (costP c_) depth v).tiles) ∧ Fr a_ 176 [(4, .pointer (some ⟨g2, 0, none⟩)), (5, .pointer (some ⟨g5, 0, none⟩)), (7, .pointer (some ⟨g30, 0, none⟩)), (10, .int .i64 ((planR (costP c_) depth v).cost)), (12, .int .i64 wst), (112, .slice (some ⟨b53, 0, none⟩) ((planR (costP c_) depth v).tiles.length) c29), (113, .int .i64 ((planR (costP c_) depth v).tiles.length : Int)), (114, .int .i64 (i : Int))] ∧ Mem w w_ [.arr g2 25 (vwc v), .arr g5 27 (csc c_), .row (.slice (some ⟨b53, 0, none⟩) ((planR (costP c_) depth v).tiles.length) c29) 38 4 ((planR (costP c_) depth v).tiles.length) (tlsC (planR (costP c_) depth v).tiles), .arr g30 31 (plnC (.slice (some ⟨b53, 0, none⟩) ((planR (costP c_) depth v).tiles.length) c29) (planR (costP c_) depth v))]) ((planR (costP c_) depth v).tiles.length - 0) ⟨0, 0, rfl, (Nat.zero_le _), rfl, ⟨litSize, rfl, ⟨litGet (by kernel_rfl), ⟨litGet (by kernel_rfl), ⟨litGet (by kernel_rfl), ⟨litGet (by kernel_rfl), ⟨litGet (by kernel_rfl), ⟨litGet (by kernel_rfl), ⟨litGet (by kernel_rfl), ⟨litGet (by kernel_rfl), trivial⟩⟩⟩⟩⟩⟩⟩⟩⟩, (hm77.sub (.cons_cons _ (.cons_cons _ (.cons_cons _ (.cons_cons _ .slnil)))))⟩ ?_
   clear hm77
   intro n_ a83 w81 hI_
   obtain ⟨i, wst, rfl, hil, hb2, hF_, hm82⟩ := hI_
   obtain ⟨X84, rfl⟩ := frLit hF_
   clear hF_
   refine wp_seq_k fun K85 hK85 => ?_
   refine plStart ?_
   by_cases h86 : (i : Int) < ((planR (costP c_) depth v).tiles.length : Int)
   · obtain ⟨t, hkt⟩ : ∃ t, (planR (costP c_) depth v).tiles[i]? = some t := ⟨_, List.getElem?_eq_getElem (by omega)⟩
     have htok : t.Ok := planR_ok t (List.mem_of_getElem? hkt)
     have hp2_ := pow12 htok.lv
     have hlv_ := htok.lv
     have hcb_ := costP_bd c_ t htok.lv
     refine litVal (v := .bool true) rfl (wn rfl) (boolTo (decide_eq_true h86) (lssRun (A := (i : Int)) (B := ((planR (costP c_) depth v).tiles.length : Int)) (.tmp 114) (.tmp 113) rfl (litEv (by kernel_rfl)) (litEv (by kernel_rfl)))) rfl (by decide) ?_
     refine plD ?_
     refine then_normal (hK85 _ _ ?_)
     refine wp_seq_k fun K87 hK87 => ?_
     refine wp_cond_true (litEv (by kernel_rfl)) ?_
     refine wp_skip ?_
     refine then_normal (hK87 _ _ ?_)
     refine wp_seq_k fun K88 hK88 => ?_
     refine wp_block ?_
     refine wp_seq_k fun K89 hK89 => ?_
     refine plStart ?_
     refine litVal (v := .pointer (some ⟨b53, 0 + i * 4, none⟩)) rfl (wn rfl) (gIaSl (b := b53) (off := 0) (n := (planR (costP c_) depth v).tiles.length) (c := c29) (kk := .i64) (K := (i : Int)) (.tmp 112) (.tmp 114) i Ty.sl_L_api_Tile rfl (litEv (by kernel_rfl)) (litEv (by kernel_rfl)) (rfl) (by omega)) rfl (by decide) ?_
     refine litVal (v := .agg (tlc t).toArray) rfl (wn rfl) (gLoadAgRd (vs := tlc t) (m := i * 4) (hm82.rdRow 2 rfl) rfl (fun i_ u_ hu_ => tlsC_get hkt i_ u_ hu_) (by kernel_rfl) (by omega) (.tmp 116) Ty.ag_voxel_api_Tile rfl (litEv (by kernel_rfl))) rfl (by decide) ?_
     refine plAlloc (z := [.int .i64 0, .int .i64 0, .int .i64 0, .int .i64 0]) Ty.ag_voxel_api_Tile hm82 (i := 2) rfl (wn rfl) rfl ?_
     intro g90 w92 hm91
     clear hm82
     try simp only [List.cons_append, List.nil_append, List.set_cons_succ, List.set_cons_zero] at hm91
     refine qP rfl ?_
     refine plStore 4 Ty.ag_voxel_api_Tile hm91 rfl (i := 3) (cs := tlc t) rfl (wn rfl) rfl (litEv (by kernel_rfl)) (litEv (by kernel_rfl)) rfl rfl (by kernel_rfl) ?_
     intro w94 hm93
     clear hm91
     try simp only [List.cons_append, List.nil_append, List.set_cons_succ, List.set_cons_zero] at hm93
     refine qNone rfl ?_
     refine plD ?_
     refine then_normal (hK89 _ _ ?_)
     refine wp_seq_k fun K95 hK95 => ?_
     refine plStart ?_
     refine litVal (v := .agg (vwc v).toArray) rfl (wn rfl) (gLoadAg (vs := vwc v) (k := 0) 0 hm93 rfl (by kernel_rfl) (by kernel_rfl) (.tmp 4) Ty.ag_voxel_api_Viewer rfl (litEv (by kernel_rfl))) rfl (by decide) ?_
     refine litVal (v := .agg (tlc t).toArray) rfl (wn rfl) (gLoadAg (vs := tlc t) (k := 0) 4 hm93 rfl (by kernel_rfl) (by kernel_rfl) (.tmp 16) Ty.ag_voxel_api_Tile rfl (litEv (by kernel_rfl))) rfl (by decide) ?_
     refine plCall (i := 2) 14 [.agg (vwc v).toArray, .agg (tlc t).toArray] [] [] rfl (by kernel_rfl) (wn rfl) rfl (litEv (by kernel_rfl)) (litArgs (by kernel_rfl)) (err_any v t hv_ htok _) ?_
     rintro e w96 ⟨rfl, hbz⟩
     have hm97 := hm93.below hbz
     clear hbz hm93
     refine ⟨_, rfl, ?_⟩
     refine qP rfl ?_
     refine lk (v := .int .i64 (err v t)) rfl rfl rfl ?_
     refine plD ?_
     refine then_normal (hK95 _ _ ?_)
     refine wp_seq_k fun K98 hK98 => ?_
     refine plStart ?_
     refine lk (v := .int .i64 wst) rfl rfl rfl ?_
     refine lk (v := .int .i64 (err v t)) rfl rfl rfl ?_
     refine litVal (v := .int .i64 (max wst (err v t))) rfl (wn rfl) (gMax (.tmp 121) (.tmp 122) rfl (litEv (by kernel_rfl)) (litEv (by kernel_rfl))) rfl (by decide) ?_
     refine lk (v := .int .i64 (max wst (err v t))) rfl rfl rfl ?_
     refine plD ?_
     refine then_normal (hK98 _ _ ?_)
     refine wp_seq_k fun K99 hK99 => ?_
     refine wp_seq_k fun K100 hK100 => ?_
     refine plStart ?_
     refine lk (v := .pointer (some ⟨g90, 0, none⟩)) rfl rfl rfl ?_
     refine litVal (v := .int .i64 t.lv) rfl (wn rfl) (gLoad (v := .int .i64 t.lv) (k := 0) 4 hm97 rfl (by kernel_rfl) (.tmp 124) (by kernel_rfl) rfl (litEv (by kernel_rfl))) rfl (by decide) ?_
     by_cases h101 : t.lv = 0
     · refine litVal (v := .bool true) rfl (wn rfl) (boolTo (decide_eq_true h101) (eqlRun (A := t.lv) (B := 0) (.tmp 125) (.const (.int .i64 0)) rfl (litEv (by kernel_rfl)) (litEv (by kernel_rfl)))) rfl (by decide) ?_
       refine lk (v := .bool true) rfl rfl rfl ?_
       refine plSkip (i := 4) rfl (wgN rfl rfl rfl (by decide) (by kernel_rfl)) ?_
       refine qP rfl ?_
       refine plSkip (i := 5) rfl (wgN rfl rfl rfl (by decide) (by kernel_rfl)) ?_
       refine qP rfl ?_
       refine plSkip (i := 6) rfl (wgN rfl rfl rfl (by decide) (by kernel_rfl)) ?_
       refine qP rfl ?_
       refine plSkip (i := 7) rfl (wgN rfl rfl rfl (by decide) (by kernel_rfl)) ?_
       refine qP rfl ?_
       refine lk (v := .bool true) rfl rfl rfl ?_
       refine lk (v := .bool true) rfl rfl rfl ?_
       refine plSkip (i := 10) rfl (wgN rfl rfl rfl (by decide) (by kernel_rfl)) ?_
       refine qP rfl ?_
       refine plSkip (i := 11) rfl (wgN rfl rfl rfl (by decide) (by kernel_rfl)) ?_
       refine qP rfl ?_
       refine plSkip (i := 12) rfl (wgN rfl rfl rfl (by decide) (by kernel_rfl)) ?_
       refine qP rfl ?_
       refine plSkip (i := 13) rfl (wgN rfl rfl rfl (by decide) (by kernel_rfl)) ?_
       refine qP rfl ?_
       refine plSkip (i := 14) rfl (wgN rfl rfl rfl (by decide) (by kernel_rfl)) ?_
       refine qP rfl ?_
       refine lk (v := .bool true) rfl rfl rfl ?_
       refine plD ?_
       refine then_normal (hK100 _ _ ?_)
       refine wp_cond_true (litEv (by kernel_rfl)) ?_
       refine wp_exit ?_
       refine then_exit ?_
       refine inBlock_exit ?_
       refine then_normal (hK88 _ _ ?_)
       refine plStart ?_
       refine litVal (v := .int .i64 ((i : Int) + 1)) rfl (wn rfl) (addRun (A := (i : Int)) (B := 1) (C := (i : Int) + 1) (.tmp 114) (.const (.int .i64 1)) rfl (litEv (by kernel_rfl)) (litEv (by kernel_rfl)) rfl (by omega)) rfl (by decide) ?_
       refine lk (v := .int .i64 ((i : Int) + 1)) rfl rfl rfl ?_
       refine plD ?_
       refine then_normal ?_
       exact ⟨_, by omega, (i + 1), _, rfl, (by omega), (fold_next hkt hb2), ⟨litSize, rfl, ⟨litGet (by kernel_rfl), ⟨litGet (by kernel_rfl), ⟨litGet (by kernel_rfl), ⟨litGet (by kernel_rfl), ⟨litGet (by kernel_rfl), ⟨litGet (by kernel_rfl), ⟨litGet (by kernel_rfl), ⟨litGet (by kernel_rfl), trivial⟩⟩⟩⟩⟩⟩⟩⟩⟩, (hm97.sub (.cons_cons _ (.cons_cons _ (.cons_cons _ (.cons_cons _ (.cons _ .slnil))))))⟩
     refine litVal (v := .bool false) rfl (wn rfl) (boolTo (decide_eq_false h101) (eqlRun (A := t.lv) (B := 0) (.tmp 125) (.const (.int .i64 0)) rfl (litEv (by kernel_rfl)) (litEv (by kernel_rfl)))) rfl (by decide) ?_
     refine lk (v := .bool false) rfl rfl rfl ?_
     refine litVal (v := .int .i64 (err v t)) rfl (wgY rfl rfl rfl (by decide) (by kernel_rfl)) (litRun (by kernel_rfl)) rfl (by decide) ?_
     refine litVal (v := .pointer (some ⟨g2, 4, none⟩)) rfl (wgY rfl rfl rfl (by decide) (by kernel_rfl)) (litRun (by kernel_rfl)) rfl (by decide) ?_
     refine litVal (v := .int .i64 v.tol) rfl (wgY rfl rfl rfl (by decide) (by kernel_rfl)) (gLoad (v := .int .i64 v.tol) (k := 4) 0 hm97 rfl (by kernel_rfl) (.tmp 129) (by kernel_rfl) rfl (litEv (by kernel_rfl))) rfl (by decide) ?_
     by_cases h102 : (err v t) ≤ v.tol
     · refine litVal (v := .bool true) rfl (wgY rfl rfl rfl (by decide) (by kernel_rfl)) (boolTo (decide_eq_true h102) (leqRun (A := (err v t)) (B := v.tol) (.tmp 128) (.tmp 130) rfl (litEv (by kernel_rfl)) (litEv (by kernel_rfl)))) rfl (by decide) ?_
       refine lk (v := .bool true) rfl rfl rfl ?_
       refine lk (v := .bool true) rfl rfl rfl ?_
       refine plSkip (i := 10) rfl (wgN rfl rfl rfl (by decide) (by kernel_rfl)) ?_
       refine qP rfl ?_
       refine plSkip (i := 11) rfl (wgN rfl rfl rfl (by decide) (by kernel_rfl)) ?_
       refine qP rfl ?_
       refine plSkip (i := 12) rfl (wgN rfl rfl rfl (by decide) (by kernel_rfl)) ?_
       refine qP rfl ?_
       refine plSkip (i := 13) rfl (wgN rfl rfl rfl (by decide) (by kernel_rfl)) ?_
       refine qP rfl ?_
       refine plSkip (i := 14) rfl (wgN rfl rfl rfl (by decide) (by kernel_rfl)) ?_
       refine qP rfl ?_
       refine lk (v := .bool true) rfl rfl rfl ?_
       refine plD ?_
       refine then_normal (hK100 _ _ ?_)
       refine wp_cond_true (litEv (by kernel_rfl)) ?_
       refine wp_exit ?_
       refine then_exit ?_
       refine inBlock_exit ?_
       refine then_normal (hK88 _ _ ?_)
       refine plStart ?_
       refine litVal (v := .int .i64 ((i : Int) + 1)) rfl (wn rfl) (addRun (A := (i : Int)) (B := 1) (C := (i : Int) + 1) (.tmp 114) (.const (.int .i64 1)) rfl (litEv (by kernel_rfl)) (litEv (by kernel_rfl)) rfl (by omega)) rfl (by decide) ?_
       refine lk (v := .int .i64 ((i : Int) + 1)) rfl rfl rfl ?_
       refine plD ?_
       refine then_normal ?_
       exact ⟨_, by omega, (i + 1), _, rfl, (by omega), (fold_next hkt hb2), ⟨litSize, rfl, ⟨litGet (by kernel_rfl), ⟨litGet (by kernel_rfl), ⟨litGet (by kernel_rfl), ⟨litGet (by kernel_rfl), ⟨litGet (by kernel_rfl), ⟨litGet (by kernel_rfl), ⟨litGet (by kernel_rfl), ⟨litGet (by kernel_rfl), trivial⟩⟩⟩⟩⟩⟩⟩⟩⟩, (hm97.sub (.cons_cons _ (.cons_cons _ (.cons_cons _ (.cons_cons _ (.cons _ .slnil))))))⟩
     refine litVal (v := .bool false) rfl (wgY rfl rfl rfl (by decide) (by kernel_rfl)) (boolTo (decide_eq_false h102) (leqRun (A := (err v t)) (B := v.tol) (.tmp 128) (.tmp 130) rfl (litEv (by kernel_rfl)) (litEv (by kernel_rfl)))) rfl (by decide) ?_
     refine lk (v := .bool false) rfl rfl rfl ?_
     refine lk (v := .bool false) rfl rfl rfl ?_
     refine litVal (v := .pointer (some ⟨g30, 0, none⟩)) rfl (wgY rfl rfl rfl (by decide) (by kernel_rfl)) (litRun (by kernel_rfl)) rfl (by decide) ?_
     refine litVal (v := .slice (some ⟨b53, 0, none⟩) ((planR (costP c_) depth v).tiles.length) c29) rfl (wgY rfl rfl rfl (by decide) (by kernel_rfl)) (gLoad (v := .slice (some ⟨b53, 0, none⟩) ((planR (costP c_) depth v).tiles.length) c29) (k := 0) 3 hm97 rfl (by kernel_rfl) (.tmp 134) (by kernel_rfl) rfl (litEv (by kernel_rfl))) rfl (by decide) ?_
     refine litVal (v := .int .i64 ((planR (costP c_) depth v).tiles.length : Int)) rfl (wgY rfl rfl rfl (by decide) (by kernel_rfl)) (lenSlRun (A := some ⟨b53, 0, none⟩) (n := (planR (costP c_) depth v).tiles.length) (c := c29) (.tmp 135) Ty.und_L_api_Tile rfl (litEv (by kernel_rfl))) rfl (by decide) ?_
     refine litVal (v := .int .i64 (((planR (costP c_) depth v).tiles.length : Int) + 7)) rfl (wgY rfl rfl rfl (by decide) (by kernel_rfl)) (addRun (A := ((planR (costP c_) depth v).tiles.length : Int)) (B := 7) (C := ((planR (costP c_) depth v).tiles.length : Int) + 7) (.tmp 136) (.const (.int .i64 7)) rfl (litEv (by kernel_rfl)) (litEv (by kernel_rfl)) rfl (by omega)) rfl (by decide) ?_
     by_cases h103 : 4096 < (((planR (costP c_) depth v).tiles.length : Int) + 7)
     · refine litVal (v := .bool true) rfl (wgY rfl rfl rfl (by decide) (by kernel_rfl)) (boolTo (decide_eq_true h103) (gtrRun (A := (((planR (costP c_) depth v).tiles.length : Int) + 7)) (B := 4096) (.tmp 137) (.const (.int .i64 4096)) rfl (litEv (by kernel_rfl)) (litEv (by kernel_rfl)))) rfl (by decide) ?_
       refine lk (v := .bool true) rfl rfl rfl ?_
       refine plD ?_
       refine then_normal (hK100 _ _ ?_)
       refine wp_cond_true (litEv (by kernel_rfl)) ?_
       refine wp_exit ?_
       refine then_exit ?_
       refine inBlock_exit ?_
       refine then_normal (hK88 _ _ ?_)
       refine plStart ?_
       refine litVal (v := .int .i64 ((i : Int) + 1)) rfl (wn rfl) (addRun (A := (i : Int)) (B := 1) (C := (i : Int) + 1) (.tmp 114) (.const (.int .i64 1)) rfl (litEv (by kernel_rfl)) (litEv (by kernel_rfl)) rfl (by omega)) rfl (by decide) ?_
       refine lk (v := .int .i64 ((i : Int) + 1)) rfl rfl rfl ?_
       refine plD ?_
       refine then_normal ?_
       exact ⟨_, by omega, (i + 1), _, rfl, (by omega), (fold_next hkt hb2), ⟨litSize, rfl, ⟨litGet (by kernel_rfl), ⟨litGet (by kernel_rfl), ⟨litGet (by kernel_rfl), ⟨litGet (by kernel_rfl), ⟨litGet (by kernel_rfl), ⟨litGet (by kernel_rfl), ⟨litGet (by kernel_rfl), ⟨litGet (by kernel_rfl), trivial⟩⟩⟩⟩⟩⟩⟩⟩⟩, (hm97.sub (.cons_cons _ (.cons_cons _ (.cons_cons _ (.cons_cons _ (.cons _ .slnil))))))⟩
     refine litVal (v := .bool false) rfl (wgY rfl rfl rfl (by decide) (by kernel_rfl)) (boolTo (decide_eq_false h103) (gtrRun (A := (((planR (costP c_) depth v).tiles.length : Int) + 7)) (B := 4096) (.tmp 137) (.const (.int .i64 4096)) rfl (litEv (by kernel_rfl)) (litEv (by kernel_rfl)))) rfl (by decide) ?_
     refine lk (v := .bool false) rfl rfl rfl ?_
     refine plD ?_
     refine then_normal (hK100 _ _ ?_)
     refine wp_cond_false (litEv (by kernel_rfl)) ?_
     refine wp_skip ?_
     refine then_normal (hK99 _ _ ?_)
     refine wp_seq_k fun K104 hK104 => ?_
     refine plStart ?_
     have h1_ : 1 ≤ t.lv := by omega
     have hcc0_ := costP_bd c_ (child t 0) (htok.child h1_ 0).lv
     have hcc1_ := costP_bd c_ (child t 1) (htok.child h1_ 1).lv
     have hcc2_ := costP_bd c_ (child t 2) (htok.child h1_ 2).lv
     have hcc3_ := costP_bd c_ (child t 3) (htok.child h1_ 3).lv
     have hcc4_ := costP_bd c_ (child t 4) (htok.child h1_ 4).lv
     have hcc5_ := costP_bd c_ (child t 5) (htok.child h1_ 5).lv
     have hcc6_ := costP_bd c_ (child t 6) (htok.child h1_ 6).lv
     have hcc7_ := costP_bd c_ (child t 7) (htok.child h1_ 7).lv
     refine litVal (v := .agg (tlc t).toArray) rfl (wn rfl) (gLoadAg (vs := tlc t) (k := 0) 4 hm97 rfl (by kernel_rfl) (by kernel_rfl) (.tmp 16) Ty.ag_voxel_api_Tile rfl (litEv (by kernel_rfl))) rfl (by decide) ?_
     refine plLit (cs := [.int .i64 t.lv, .int .i64 t.p.x, .int .i64 t.p.y, .int .i64 t.p.z]) (n := 1) Ty.sl_L_api_Tile hm97 (i := 1) rfl (wn rfl) rfl (by decide) (by decide) (by rw [lit_eval]; kernel_rfl) ?_
     intro g105 w107 hm106
     clear hm97
     try simp only [List.cons_append, List.nil_append, List.set_cons_succ, List.set_cons_zero] at hm106
     refine qP rfl ?_
     refine plCall (i := 2) 21 [.slice (some ⟨g105, 0, none⟩) 1 1, .int .i64 0] [] [] rfl (by kernel_rfl) (wn rfl) rfl (litEv (by kernel_rfl)) (litArgs (by kernel_rfl)) (rsplit1_any t _ _ _ (Rd.of_arr (t := 38) (cs := tlsC [t]) (hm106.arr 5 (by kernel_rfl)) (by kernel_rfl) (of_decide_eq_true (by kernel_rfl))) htok h1_) ?_
     rintro e w108 ⟨v110, rfl, hown_, hbz⟩
     obtain ⟨A111, c112, rfl, hrd_⟩ := Rd.of_own hown_
     clear hrd_
     replace hown_ : World.ownsRow w108 _ 38 4 _ 8 (tlsC (splitT t)) := hown_
     have hm109 := hm106.newRow hbz hown_
     clear hown_ hbz
     clear hm106
     try simp only [List.cons_append, List.nil_append, List.set_cons_succ, List.set_cons_zero] at hm109
     obtain ⟨b113, rfl⟩ := hm109.rowBlk (A := A111) (n := 8) (c := c112) 6 rfl (by decide)
     refine ⟨_, rfl, ?_⟩
     refine qP rfl ?_
     refine lk (v := .tuple #[.slice (some ⟨b113, 0, none⟩) 8 c112, .int .i64 0]) rfl rfl rfl ?_
     refine lk (v := .slice (some ⟨b113, 0, none⟩) 8 c112) rfl rfl rfl ?_
     refine lk (v := .int .i64 0) rfl rfl rfl ?_
     refine lk (v := .slice (some ⟨b113, 0, none⟩) 8 c112) rfl rfl rfl ?_
     refine lk (v := .int .i64 0) rfl rfl rfl ?_
     refine plD ?_
     refine then_normal (hK104 _ _ ?_)
     refine wp_seq_k fun K114 hK114 => ?_
     refine plStart ?_
     refine litVal (v := .agg (csc c_).toArray) rfl (wn rfl) (gLoadAg (vs := csc c_) (k := 0) 1 hm109 rfl (by kernel_rfl) (by kernel_rfl) (.tmp 5) Ty.ag_voxel_voxelref43_Costs rfl (litEv (by kernel_rfl))) rfl (by decide) ?_
     refine litVal (v := .agg (tlc t).toArray) rfl (wn rfl) (gLoadAg (vs := tlc t) (k := 0) 4 hm109 rfl (by kernel_rfl) (by kernel_rfl) (.tmp 16) Ty.ag_voxel_api_Tile rfl (litEv (by kernel_rfl))) rfl (by decide) ?_
     refine plCall (i := 2) 19 [.agg (csc c_).toArray, .agg (tlc t).toArray] [] [] rfl (by kernel_rfl) (wn rfl) rfl (litEv (by kernel_rfl)) (litArgs (by kernel_rfl)) (cost_any c_ t htok.lv _) ?_
     rintro e w115 ⟨rfl, hbz⟩
     have hm116 := hm109.below hbz
     clear hbz hm109
     refine ⟨_, rfl, ?_⟩
     refine qP rfl ?_
     refine litVal (v := .int .i64 (-(costP c_ t))) rfl (wn rfl) (gNeg (.tmp 148) rfl (litEv (by kernel_rfl)) (by omega)) rfl (by decide) ?_
     refine lk (v := .int .i64 (-(costP c_ t))) rfl rfl rfl ?_
     refine plD ?_
     refine then_normal (hK114 _ _ ?_)
     refine wp_seq_k fun K117 hK117 => ?_
     refine wp_seq_k fun K118 hK118 => ?_
     refine plStart ?_
     refine lk (v := .slice (some ⟨b113, 0, none⟩) 8 c112) rfl rfl rfl ?_
     refine litVal (v := .int .i64 8) rfl (wn rfl) (lenSlRun (A := some ⟨b113, 0, none⟩) (n := 8) (c := c112) (.tmp 150) Ty.und_L_api_Tile rfl (litEv (by kernel_rfl))) rfl (by decide) ?_
     refine lk (v := .int .i64 0) rfl rfl rfl ?_
     refine plD ?_
     refine then_normal (hK118 _ _ ?_)
     refine wp_block ?_
     refine roundsStart 8 ?_
     refine wp_seq_k fun K119 hK119 => ?_
     refine plStart ?_
     refine lk (v := .bool true) rfl rfl rfl ?_
     refine plD ?_
     refine then_normal (hK119 _ _ ?_)
     refine wp_seq_k fun K120 hK120 => ?_
     refine wp_cond_true (litEv (by kernel_rfl)) ?_
     refine wp_skip ?_
     refine then_normal (hK120 _ _ ?_)
     refine wp_seq_k fun K121 hK121 => ?_
     refine wp_block ?_
     refine wp_seq_k fun K122 hK122 => ?_
     refine plStart ?_
     refine litVal (v := .pointer (some ⟨b113, 0 + 0 * 4, none⟩)) rfl (wn rfl) (gIaSl (b := b113) (off := 0) (n := 8) (c := c112) (kk := .i64) (K := 0) (.tmp 150) (.tmp 152) 0 Ty.sl_L_api_Tile rfl (litEv (by kernel_rfl)) (litEv (by kernel_rfl)) (rfl) (by decide)) rfl (by decide) ?_
     refine litVal (v := .agg (tlc (child t 0)).toArray) rfl (wn rfl) (gLoadAgRd (vs := tlc (child t 0)) (m := 0 * 4) (hm116.rdRow 6 rfl) rfl (fun i_ u_ hu_ => tlsC_get (l := splitT t) (k := 0) rfl i_ u_ hu_) (by kernel_rfl) (by decide) (.tmp 154) Ty.ag_voxel_api_Tile rfl (litEv (by kernel_rfl))) rfl (by decide) ?_
     refine plAlloc (z := [.int .i64 0, .int .i64 0, .int .i64 0, .int .i64 0]) Ty.ag_voxel_api_Tile hm116 (i := 2) rfl (wn rfl) rfl ?_
     intro g123 w125 hm124
     clear hm116
     try simp only [List.cons_append, List.nil_append, List.set_cons_succ, List.set_cons_zero] at hm124
     refine qP rfl ?_
     refine plStore 7 Ty.ag_voxel_api_Tile hm124 rfl (i := 3) (cs := tlc (child t 0)) rfl (wn rfl) rfl (litEv (by kernel_rfl)) (litEv (by kernel_rfl)) rfl rfl (by kernel_rfl) ?_
     intro w127 hm126
     clear hm124
     try simp only [List.cons_append, List.nil_append, List.set_cons_succ, List.set_cons_zero] at hm126
     refine qNone rfl ?_
     refine plD ?_
     refine then_normal (hK122 _ _ ?_)
     refine plStart ?_
     refine lk (v := .int .i64 (-(costP c_ t))) rfl rfl rfl ?_
     refine litVal (v := .agg (csc c_).toArray) rfl (wn rfl) (gLoadAg (vs := csc c_) (k := 0) 1 hm126 rfl (by kernel_rfl) (by kernel_rfl) (.tmp 5) Ty.ag_voxel_voxelref43_Costs rfl (litEv (by kernel_rfl))) rfl (by decide) ?_
     refine litVal (v := .agg (tlc (child t 0)).toArray) rfl (wn rfl) (gLoadAg (vs := tlc (child t 0)) (k := 0) 7 hm126 rfl (by kernel_rfl) (by kernel_rfl) (.tmp 22) Ty.ag_voxel_api_Tile rfl (litEv (by kernel_rfl))) rfl (by decide) ?_
     refine plCall (i := 3) 19 [.agg (csc c_).toArray, .agg (tlc (child t 0)).toArray] [] [] rfl (by kernel_rfl) (wn rfl) rfl (litEv (by kernel_rfl)) (litArgs (by kernel_rfl)) (cost_any c_ (child t 0) (htok.child h1_ 0).lv _) ?_
     rintro e w128 ⟨rfl, hbz⟩
     have hm129 := hm126.below hbz
     clear hbz hm126
     refine ⟨_, rfl, ?_⟩
     refine qP rfl ?_
     refine litVal (v := .int .i64 ((-(costP c_ t)) + (costP c_ (child t 0)))) rfl (wn rfl) (addRun (A := (-(costP c_ t))) (B := (costP c_ (child t 0))) (C := (-(costP c_ t)) + (costP c_ (child t 0))) (.tmp 156) (.tmp 159) rfl (litEv (by kernel_rfl)) (litEv (by kernel_rfl)) rfl (by omega)) rfl (by decide) ?_
     refine lk (v := .int .i64 ((-(costP c_ t)) + (costP c_ (child t 0)))) rfl rfl rfl ?_
     refine plD ?_
     refine inBlock_normal ?_
     refine then_normal (hK121 _ _ ?_)
     refine plStart ?_
     refine lk (v := .int .i64 1) rfl rfl rfl ?_
     refine lk (v := .int .i64 1) rfl rfl rfl ?_
     refine plD ?_
     refine then_normal (roundsNext ?_)
     have hm130 : Mem w w128 [.arr g2 25 (vwc v), .arr g5 27 (csc c_), .row (.slice (some ⟨b53, 0, none⟩) ((planR (costP c_) depth v).tiles.length) c29) 38 4 ((planR (costP c_) depth v).tiles.length) (tlsC (planR (costP c_) depth v).tiles), .arr g30 31 (plnC (.slice (some ⟨b53, 0, none⟩) ((planR (costP c_) depth v).tiles.length) c29) (planR (costP c_) depth v)), .arr g90 38 (tlc t), .row (.slice (some ⟨b113, 0, none⟩) 8 c112) 38 4 8 (tlsC (splitT t))] := (hm129.sub (.cons_cons _ (.cons_cons _ (.cons_cons _ (.cons_cons _ (.cons_cons _ (.cons _ (.cons_cons _ (.cons _ .slnil)))))))))
     clear hm129
     refine wp_seq_k fun K131 hK131 => ?_
     refine plStart ?_
     refine lk (v := .bool true) rfl rfl rfl ?_
     refine plD ?_
     refine then_normal (hK131 _ _ ?_)
     refine wp_seq_k fun K132 hK132 => ?_
     refine wp_cond_true (litEv (by kernel_rfl)) ?_
     refine wp_skip ?_
     refine then_normal (hK132 _ _ ?_)
     refine wp_seq_k fun K133 hK133 => ?_
     refine wp_block ?_
     refine wp_seq_k fun K134 hK134 => ?_
     refine plStart ?_
     refine litVal (v := .pointer (some ⟨b113, 0 + 1 * 4, none⟩)) rfl (wn rfl) (gIaSl (b := b113) (off := 0) (n := 8) (c := c112) (kk := .i64) (K := 1) (.tmp 150) (.tmp 152) 1 Ty.sl_L_api_Tile rfl (litEv (by kernel_rfl)) (litEv (by kernel_rfl)) (rfl) (by decide)) rfl (by decide) ?_
     refine litVal (v := .agg (tlc (child t 1)).toArray) rfl (wn rfl) (gLoadAgRd (vs := tlc (child t 1)) (m := 1 * 4) (hm130.rdRow 5 rfl) rfl (fun i_ u_ hu_ => tlsC_get (l := splitT t) (k := 1) rfl i_ u_ hu_) (by kernel_rfl) (by decide) (.tmp 154) Ty.ag_voxel_api_Tile rfl (litEv (by kernel_rfl))) rfl (by decide) ?_
     refine plAlloc (z := [.int .i64 0, .int .i64 0, .int .i64 0, .int .i64 0]) Ty.ag_voxel_api_Tile hm130 (i := 2) rfl (wn rfl) rfl ?_
     intro g135 w137 hm136
     clear hm130
     try simp only [List.cons_append, List.nil_append, List.set_cons_succ, List.set_cons_zero] at hm136
     refine qP rfl ?_
     refine plStore 6 Ty.ag_voxel_api_Tile hm136 rfl (i := 3) (cs := tlc (child t 1)) rfl (wn rfl) rfl (litEv (by kernel_rfl)) (litEv (by kernel_rfl)) rfl rfl (by kernel_rfl) ?_
     intro w139 hm138
     clear hm136
     try simp only [List.cons_append, List.nil_append, List.set_cons_succ, List.set_cons_zero] at hm138
     refine qNone rfl ?_
     refine plD ?_
     refine then_normal (hK134 _ _ ?_)
     refine plStart ?_
     refine lk (v := .int .i64 ((-(costP c_ t)) + (costP c_ (child t 0)))) rfl rfl rfl ?_
     refine litVal (v := .agg (csc c_).toArray) rfl (wn rfl) (gLoadAg (vs := csc c_) (k := 0) 1 hm138 rfl (by kernel_rfl) (by kernel_rfl) (.tmp 5) Ty.ag_voxel_voxelref43_Costs rfl (litEv (by kernel_rfl))) rfl (by decide) ?_
     refine litVal (v := .agg (tlc (child t 1)).toArray) rfl (wn rfl) (gLoadAg (vs := tlc (child t 1)) (k := 0) 6 hm138 rfl (by kernel_rfl) (by kernel_rfl) (.tmp 22) Ty.ag_voxel_api_Tile rfl (litEv (by kernel_rfl))) rfl (by decide) ?_
     refine plCall (i := 3) 19 [.agg (csc c_).toArray, .agg (tlc (child t 1)).toArray] [] [] rfl (by kernel_rfl) (wn rfl) rfl (litEv (by kernel_rfl)) (litArgs (by kernel_rfl)) (cost_any c_ (child t 1) (htok.child h1_ 1).lv _) ?_
     rintro e w140 ⟨rfl, hbz⟩
     have hm141 := hm138.below hbz
     clear hbz hm138
     refine ⟨_, rfl, ?_⟩
     refine qP rfl ?_
     refine litVal (v := .int .i64 (((-(costP c_ t)) + (costP c_ (child t 0))) + (costP c_ (child t 1)))) rfl (wn rfl) (addRun (A := ((-(costP c_ t)) + (costP c_ (child t 0)))) (B := (costP c_ (child t 1))) (C := ((-(costP c_ t)) + (costP c_ (child t 0))) + (costP c_ (child t 1))) (.tmp 156) (.tmp 159) rfl (litEv (by kernel_rfl)) (litEv (by kernel_rfl)) rfl (by omega)) rfl (by decide) ?_
     refine lk (v := .int .i64 (((-(costP c_ t)) + (costP c_ (child t 0))) + (costP c_ (child t 1)))) rfl rfl rfl ?_
     refine plD ?_
     refine inBlock_normal ?_
     refine then_normal (hK133 _ _ ?_)
     refine wpPrune [(4, .pointer (some ⟨g2, 0, none⟩)), (5, .pointer (some ⟨g5, 0, none⟩)), (7, .pointer (some ⟨g30, 0, none⟩)), (10, .int .i64 ((planR (costP c_) depth v).cost)), (12, .int .i64 (max wst (err v t))), (16, .pointer (some ⟨g90, 0, none⟩)), (17, .int .i64 (err v t)), (18, .slice (some ⟨b113, 0, none⟩) 8 c112), (20, .int .i64 (((-(costP c_ t)) + (costP c_ (child t 0))) + (costP c_ (child t 1)))), (22, .pointer (some ⟨g135, 0, none⟩)), (112, .slice (some ⟨b53, 0, none⟩) ((planR (costP c_) depth v).tiles.length) c29), (113, .int .i64 ((planR (costP c_) depth v).tiles.length : Int)), (114, .int .i64 (i : Int)), (115, .bool true), (116, .pointer (some ⟨b53, 0 + i * 4, none⟩)), (117, .agg (tlc t).toArray), (118, .agg (vwc v).toArray), (119, .agg (tlc t).toArray), (120, .int .i64 (err v t)), (121, .int .i64 wst), (122, .int .i64 (err v t)), (123, .int .i64 (max wst (err v t))), (124, .pointer (some ⟨g90, 0, none⟩)), (125, .int .i64 t.lv), (126, .bool false), (127, .bool false), (128, .int .i64 (err v t)), (129, .pointer (some ⟨g2, 4, none⟩)), (130, .int .i64 v.tol), (131, .bool false), (132, .bool false), (133, .bool false), (134, .pointer (some ⟨g30, 0, none⟩)), (135, .slice (some ⟨b53, 0, none⟩) ((planR (costP c_) depth v).tiles.length) c29), (136, .int .i64 ((planR (costP c_) depth v).tiles.length : Int)), (137, .int .i64 (((planR (costP c_) depth v).tiles.length : Int) + 7)), (138, .bool false), (139, .bool false), (140, .tuple #[.slice (some ⟨b113, 0, none⟩) 8 c112, .int .i64 0]), (141, .agg (tlc t).toArray), (142, .slice (some ⟨g105, 0, none⟩) 1 1), (143, .tuple #[.slice (some ⟨b113, 0, none⟩) 8 c112, .int .i64 0]), (144, .slice (some ⟨b113, 0, none⟩) 8 c112), (145, .int .i64 0), (146, .agg (csc c_).toArray), (147, .agg (tlc t).toArray), (148, .int .i64 (costP c_ t)), (149, .int .i64 (-(costP c_ t))), (150, .slice (some ⟨b113, 0, none⟩) 8 c112), (151, .int .i64 8), (152, .int .i64 1), (153, .bool true), (154, .pointer (some ⟨b113, 0 + 1 * 4, none⟩)), (155, .agg (tlc (child t 1)).toArray), (156, .int .i64 ((-(costP c_ t)) + (costP c_ (child t 0)))), (157, .agg (csc c_).toArray), (158, .agg (tlc (child t 1)).toArray), (159, .int .i64 (costP c_ (child t 1))), (160, .int .i64 (((-(costP c_ t)) + (costP c_ (child t 0))) + (costP c_ (child t 1)))), (161, .int .i64 1)] ⟨litGet (by kernel_rfl), ⟨litGet (by kernel_rfl), ⟨litGet (by kernel_rfl), ⟨litGet (by kernel_rfl), ⟨litGet (by kernel_rfl), ⟨litGet (by kernel_rfl), ⟨litGet (by kernel_rfl), ⟨litGet (by kernel_rfl), ⟨litGet (by kernel_rfl), ⟨litGet (by kernel_rfl), ⟨litGet (by kernel_rfl), ⟨litGet (by kernel_rfl), ⟨litGet (by kernel_rfl), ⟨litGet (by kernel_rfl), ⟨litGet (by kernel_rfl), ⟨litGet (by kernel_rfl), ⟨litGet (by kernel_rfl), ⟨litGet (by kernel_rfl), ⟨litGet (by kernel_rfl), ⟨litGet (by kernel_rfl), ⟨litGet (by kernel_rfl), ⟨litGet (by kernel_rfl), ⟨litGet (by kernel_rfl), ⟨litGet (by kernel_rfl), ⟨litGet (by kernel_rfl), ⟨litGet (by kernel_rfl), ⟨litGet (by kernel_rfl), ⟨litGet (by kernel_rfl), ⟨litGet (by kernel_rfl), ⟨litGet (by kernel_rfl), ⟨litGet (by kernel_rfl), ⟨litGet (by kernel_rfl), ⟨litGet (by kernel_rfl), ⟨litGet (by kernel_rfl), ⟨litGet (by kernel_rfl), ⟨litGet (by kernel_rfl), ⟨litGet (by kernel_rfl), ⟨litGet (by kernel_rfl), ⟨litGet (by kernel_rfl), ⟨litGet (by kernel_rfl), ⟨litGet (by kernel_rfl), ⟨litGet (by kernel_rfl), ⟨litGet (by kernel_rfl), ⟨litGet (by kernel_rfl), ⟨litGet (by kernel_rfl), ⟨litGet (by kernel_rfl), ⟨litGet (by kernel_rfl), ⟨litGet (by kernel_rfl), ⟨litGet (by kernel_rfl), ⟨litGet (by kernel_rfl), ⟨litGet (by kernel_rfl), ⟨litGet (by kernel_rfl), ⟨litGet (by kernel_rfl), ⟨litGet (by kernel_rfl), ⟨litGet (by kernel_rfl), ⟨litGet (by kernel_rfl), ⟨litGet (by kernel_rfl), ⟨litGet (by kernel_rfl), ⟨litGet (by kernel_rfl), ⟨litGet (by kernel_rfl), trivial⟩⟩⟩⟩⟩⟩⟩⟩⟩⟩⟩⟩⟩⟩⟩⟩⟩⟩⟩⟩⟩⟩⟩⟩⟩⟩⟩⟩⟩⟩⟩⟩⟩⟩⟩⟩⟩⟩⟩⟩⟩⟩⟩⟩⟩⟩⟩⟩⟩⟩⟩⟩⟩⟩⟩⟩⟩⟩⟩⟩ (fun X142 => ?_)
     refine plStart ?_
     refine lk (v := .int .i64 2) rfl rfl rfl ?_
     refine lk (v := .int .i64 2) rfl rfl rfl ?_
     refine plD ?_
     refine then_normal (roundsNext ?_)
     have hm143 : Mem w w140 [.arr g2 25 (vwc v), .arr g5 27 (csc c_), .row (.slice (some ⟨b53, 0, none⟩) ((planR (costP c_) depth v).tiles.length) c29) 38 4 ((planR (costP c_) depth v).tiles.length) (tlsC (planR (costP c_) depth v).tiles), .arr g30 31 (plnC (.slice (some ⟨b53, 0, none⟩) ((planR (costP c_) depth v).tiles.length) c29) (planR (costP c_) depth v)), .arr g90 38 (tlc t), .row (.slice (some ⟨b113, 0, none⟩) 8 c112) 38 4 8 (tlsC (splitT t))] := (hm141.sub (.cons_cons _ (.cons_cons _ (.cons_cons _ (.cons_cons _ (.cons_cons _ (.cons_cons _ (.cons _ .slnil))))))))
     clear hm141
     refine wp_seq_k fun K144 hK144 => ?_
     refine plStart ?_
     refine lk (v := .bool true) rfl rfl rfl ?_
     refine plD ?_
     refine then_normal (hK144 _ _ ?_)
     refine wp_seq_k fun K145 hK145 => ?_
     refine wp_cond_true (litEv (by kernel_rfl)) ?_
     refine wp_skip ?_
     refine then_normal (hK145 _ _ ?_)
     refine wp_seq_k fun K146 hK146 => ?_
     refine wp_block ?_
     refine wp_seq_k fun K147 hK147 => ?_
     refine plStart ?_
     refine litVal (v := .pointer (some ⟨b113, 0 + 2 * 4, none⟩)) rfl (wn rfl) (gIaSl (b := b113) (off := 0) (n := 8) (c := c112) (kk := .i64) (K := 2) (.tmp 150) (.tmp 152) 2 Ty.sl_L_api_Tile rfl (litEv (by kernel_rfl)) (litEv (by kernel_rfl)) (rfl) (by decide)) rfl (by decide) ?_
     refine litVal (v := .agg (tlc (child t 2)).toArray) rfl (wn rfl) (gLoadAgRd (vs := tlc (child t 2)) (m := 2 * 4) (hm143.rdRow 5 rfl) rfl (fun i_ u_ hu_ => tlsC_get (l := splitT t) (k := 2) rfl i_ u_ hu_) (by kernel_rfl) (by decide) (.tmp 154) Ty.ag_voxel_api_Tile rfl (litEv (by kernel_rfl))) rfl (by decide) ?_
     refine plAlloc (z := [.int .i64 0, .int .i64 0, .int .i64 0, .int .i64 0]) Ty.ag_voxel_api_Tile hm143 (i := 2) rfl (wn rfl) rfl ?_
     intro g148 w150 hm149
     clear hm143
     try simp only [List.cons_append, List.nil_append, List.set_cons_succ, List.set_cons_zero] at hm149
     refine qP rfl ?_
     refine plStore 6 Ty.ag_voxel_api_Tile hm149 rfl (i := 3) (cs := tlc (child t 2)) rfl (wn rfl) rfl (litEv (by kernel_rfl)) (litEv (by kernel_rfl)) rfl rfl (by kernel_rfl) ?_
     intro w152 hm151
     clear hm149
     try simp only [List.cons_append, List.nil_append, List.set_cons_succ, List.set_cons_zero] at hm151
     refine qNone rfl ?_
     refine plD ?_
     refine then_normal (hK147 _ _ ?_)
     refine plStart ?_
     refine lk (v := .int .i64 (((-(costP c_ t)) + (costP c_ (child t 0))) + (costP c_ (child t 1)))) rfl rfl rfl ?_
     refine litVal (v := .agg (csc c_).toArray) rfl (wn rfl) (gLoadAg (vs := csc c_) (k := 0) 1 hm151 rfl (by kernel_rfl) (by kernel_rfl) (.tmp 5) Ty.ag_voxel_voxelref43_Costs rfl (litEv (by kernel_rfl))) rfl (by decide) ?_
     refine litVal (v := .agg (tlc (child t 2)).toArray) rfl (wn rfl) (gLoadAg (vs := tlc (child t 2)) (k := 0) 6 hm151 rfl (by kernel_rfl) (by kernel_rfl) (.tmp 22) Ty.ag_voxel_api_Tile rfl (litEv (by kernel_rfl))) rfl (by decide) ?_
     refine plCall (i := 3) 19 [.agg (csc c_).toArray, .agg (tlc (child t 2)).toArray] [] [] rfl (by kernel_rfl) (wn rfl) rfl (litEv (by kernel_rfl)) (litArgs (by kernel_rfl)) (cost_any c_ (child t 2) (htok.child h1_ 2).lv _) ?_
     rintro e w153 ⟨rfl, hbz⟩
     have hm154 := hm151.below hbz
     clear hbz hm151
     refine ⟨_, rfl, ?_⟩
     refine qP rfl ?_
     refine litVal (v := .int .i64 ((((-(costP c_ t)) + (costP c_ (child t 0))) + (costP c_ (child t 1))) + (costP c_ (child t 2)))) rfl (wn rfl) (addRun (A := (((-(costP c_ t)) + (costP c_ (child t 0))) + (costP c_ (child t 1)))) (B := (costP c_ (child t 2))) (C := (((-(costP c_ t)) + (costP c_ (child t 0))) + (costP c_ (child t 1))) + (costP c_ (child t 2))) (.tmp 156) (.tmp 159) rfl (litEv (by kernel_rfl)) (litEv (by kernel_rfl)) rfl (by omega)) rfl (by decide) ?_
     refine lk (v := .int .i64 ((((-(costP c_ t)) + (costP c_ (child t 0))) + (costP c_ (child t 1))) + (costP c_ (child t 2)))) rfl rfl rfl ?_
     refine plD ?_
     refine inBlock_normal ?_
     refine then_normal (hK146 _ _ ?_)
     refine plStart ?_
     refine lk (v := .int .i64 3) rfl rfl rfl ?_
     refine lk (v := .int .i64 3) rfl rfl rfl ?_
     refine plD ?_
     refine then_normal (roundsNext ?_)
     have hm155 : Mem w w153 [.arr g2 25 (vwc v), .arr g5 27 (csc c_), .row (.slice (some ⟨b53, 0, none⟩) ((planR (costP c_) depth v).tiles.length) c29) 38 4 ((planR (costP c_) depth v).tiles.length) (tlsC (planR (costP c_) depth v).tiles), .arr g30 31 (plnC (.slice (some ⟨b53, 0, none⟩) ((planR (costP c_) depth v).tiles.length) c29) (planR (costP c_) depth v)), .arr g90 38 (tlc t), .row (.slice (some ⟨b113, 0, none⟩) 8 c112) 38 4 8 (tlsC (splitT t))] := (hm154.sub (.cons_cons _ (.cons_cons _ (.cons_cons _ (.cons_cons _ (.cons_cons _ (.cons_cons _ (.cons _ .slnil))))))))
     clear hm154
     refine wpPrune [(4, .pointer (some ⟨g2, 0, none⟩)), (5, .pointer (some ⟨g5, 0, none⟩)), (7, .pointer (some ⟨g30, 0, none⟩)), (10, .int .i64 ((planR (costP c_) depth v).cost)), (12, .int .i64 (max wst (err v t))), (16, .pointer (some ⟨g90, 0, none⟩)), (17, .int .i64 (err v t)), (18, .slice (some ⟨b113, 0, none⟩) 8 c112), (20, .int .i64 ((((-(costP c_ t)) + (costP c_ (child t 0))) + (costP c_ (child t 1))) + (costP c_ (child t 2)))), (22, .pointer (some ⟨g148, 0, none⟩)), (112, .slice (some ⟨b53, 0, none⟩) ((planR (costP c_) depth v).tiles.length) c29), (113, .int .i64 ((planR (costP c_) depth v).tiles.length : Int)), (114, .int .i64 (i : Int)), (115, .bool true), (116, .pointer (some ⟨b53, 0 + i * 4, none⟩)), (117, .agg (tlc t).toArray), (118, .agg (vwc v).toArray), (119, .agg (tlc t).toArray), (120, .int .i64 (err v t)), (121, .int .i64 wst), (122, .int .i64 (err v t)), (123, .int .i64 (max wst (err v t))), (124, .pointer (some ⟨g90, 0, none⟩)), (125, .int .i64 t.lv), (126, .bool false), (127, .bool false), (128, .int .i64 (err v t)), (129, .pointer (some ⟨g2, 4, none⟩)), (130, .int .i64 v.tol), (131, .bool false), (132, .bool false), (133, .bool false), (134, .pointer (some ⟨g30, 0, none⟩)), (135, .slice (some ⟨b53, 0, none⟩) ((planR (costP c_) depth v).tiles.length) c29), (136, .int .i64 ((planR (costP c_) depth v).tiles.length : Int)), (137, .int .i64 (((planR (costP c_) depth v).tiles.length : Int) + 7)), (138, .bool false), (139, .bool false), (140, .tuple #[.slice (some ⟨b113, 0, none⟩) 8 c112, .int .i64 0]), (141, .agg (tlc t).toArray), (142, .slice (some ⟨g105, 0, none⟩) 1 1), (143, .tuple #[.slice (some ⟨b113, 0, none⟩) 8 c112, .int .i64 0]), (144, .slice (some ⟨b113, 0, none⟩) 8 c112), (145, .int .i64 0), (146, .agg (csc c_).toArray), (147, .agg (tlc t).toArray), (148, .int .i64 (costP c_ t)), (149, .int .i64 (-(costP c_ t))), (150, .slice (some ⟨b113, 0, none⟩) 8 c112), (151, .int .i64 8), (152, .int .i64 3), (153, .bool true), (154, .pointer (some ⟨b113, 0 + 2 * 4, none⟩)), (155, .agg (tlc (child t 2)).toArray), (156, .int .i64 (((-(costP c_ t)) + (costP c_ (child t 0))) + (costP c_ (child t 1)))), (157, .agg (csc c_).toArray), (158, .agg (tlc (child t 2)).toArray), (159, .int .i64 (costP c_ (child t 2))), (160, .int .i64 ((((-(costP c_ t)) + (costP c_ (child t 0))) + (costP c_ (child t 1))) + (costP c_ (child t 2)))), (161, .int .i64 3)] ⟨litGet (by kernel_rfl), ⟨litGet (by kernel_rfl), ⟨litGet (by kernel_rfl), ⟨litGet (by kernel_rfl), ⟨litGet (by kernel_rfl), ⟨litGet (by kernel_rfl), ⟨litGet (by kernel_rfl), ⟨litGet (by kernel_rfl), ⟨litGet (by kernel_rfl), ⟨litGet (by kernel_rfl), ⟨litGet (by kernel_rfl), ⟨litGet (by kernel_rfl), ⟨litGet (by kernel_rfl), ⟨litGet (by kernel_rfl), ⟨litGet (by kernel_rfl), ⟨litGet (by kernel_rfl), ⟨litGet (by kernel_rfl), ⟨litGet (by kernel_rfl), ⟨litGet (by kernel_rfl), ⟨litGet (by kernel_rfl), ⟨litGet (by kernel_rfl), ⟨litGet (by kernel_rfl), ⟨litGet (by kernel_rfl), ⟨litGet (by kernel_rfl), ⟨litGet (by kernel_rfl), ⟨litGet (by kernel_rfl), ⟨litGet (by kernel_rfl), ⟨litGet (by kernel_rfl), ⟨litGet (by kernel_rfl), ⟨litGet (by kernel_rfl), ⟨litGet (by kernel_rfl), ⟨litGet (by kernel_rfl), ⟨litGet (by kernel_rfl), ⟨litGet (by kernel_rfl), ⟨litGet (by kernel_rfl), ⟨litGet (by kernel_rfl), ⟨litGet (by kernel_rfl), ⟨litGet (by kernel_rfl), ⟨litGet (by kernel_rfl), ⟨litGet (by kernel_rfl), ⟨litGet (by kernel_rfl), ⟨litGet (by kernel_rfl), ⟨litGet (by kernel_rfl), ⟨litGet (by kernel_rfl), ⟨litGet (by kernel_rfl), ⟨litGet (by kernel_rfl), ⟨litGet (by kernel_rfl), ⟨litGet (by kernel_rfl), ⟨litGet (by kernel_rfl), ⟨litGet (by kernel_rfl), ⟨litGet (by kernel_rfl), ⟨litGet (by kernel_rfl), ⟨litGet (by kernel_rfl), ⟨litGet (by kernel_rfl), ⟨litGet (by kernel_rfl), ⟨litGet (by kernel_rfl), ⟨litGet (by kernel_rfl), ⟨litGet (by kernel_rfl), ⟨litGet (by kernel_rfl), ⟨litGet (by kernel_rfl), trivial⟩⟩⟩⟩⟩⟩⟩⟩⟩⟩⟩⟩⟩⟩⟩⟩⟩⟩⟩⟩⟩⟩⟩⟩⟩⟩⟩⟩⟩⟩⟩⟩⟩⟩⟩⟩⟩⟩⟩⟩⟩⟩⟩⟩⟩⟩⟩⟩⟩⟩⟩⟩⟩⟩⟩⟩⟩⟩⟩⟩ (fun X156 => ?_)
     refine wp_seq_k fun K157 hK157 => ?_
     refine plStart ?_
     refine lk (v := .bool true) rfl rfl rfl ?_
     refine plD ?_
     refine then_normal (hK157 _ _ ?_)
     refine wp_seq_k fun K158 hK158 => ?_
     refine wp_cond_true (litEv (by kernel_rfl)) ?_
     refine wp_skip ?_
     refine then_normal (hK158 _ _ ?_)
     refine wp_seq_k fun K159 hK159 => ?_
     refine wp_block ?_
     refine wp_seq_k fun K160 hK160 => ?_
     refine plStart ?_
     refine litVal (v := .pointer (some ⟨b113, 0 + 3 * 4, none⟩)) rfl (wn rfl) (gIaSl (b := b113) (off := 0) (n := 8) (c := c112) (kk := .i64) (K := 3) (.tmp 150) (.tmp 152) 3 Ty.sl_L_api_Tile rfl (litEv (by kernel_rfl)) (litEv (by kernel_rfl)) (rfl) (by decide)) rfl (by decide) ?_
     refine litVal (v := .agg (tlc (child t 3)).toArray) rfl (wn rfl) (gLoadAgRd (vs := tlc (child t 3)) (m := 3 * 4) (hm155.rdRow 5 rfl) rfl (fun i_ u_ hu_ => tlsC_get (l := splitT t) (k := 3) rfl i_ u_ hu_) (by kernel_rfl) (by decide) (.tmp 154) Ty.ag_voxel_api_Tile rfl (litEv (by kernel_rfl))) rfl (by decide) ?_
     refine plAlloc (z := [.int .i64 0, .int .i64 0, .int .i64 0, .int .i64 0]) Ty.ag_voxel_api_Tile hm155 (i := 2) rfl (wn rfl) rfl ?_
     intro g161 w163 hm162
     clear hm155
     try simp only [List.cons_append, List.nil_append, List.set_cons_succ, List.set_cons_zero] at hm162
     refine qP rfl ?_
     refine plStore 6 Ty.ag_voxel_api_Tile hm162 rfl (i := 3) (cs := tlc (child t 3)) rfl (wn rfl) rfl (litEv (by kernel_rfl)) (litEv (by kernel_rfl)) rfl rfl (by kernel_rfl) ?_
     intro w165 hm164
     clear hm162
     try simp only [List.cons_append, List.nil_append, List.set_cons_succ, List.set_cons_zero] at hm164
     refine qNone rfl ?_
     refine plD ?_
     refine then_normal (hK160 _ _ ?_)
     refine plStart ?_
     refine lk (v := .int .i64 ((((-(costP c_ t)) + (costP c_ (child t 0))) + (costP c_ (child t 1))) + (costP c_ (child t 2)))) rfl rfl rfl ?_
     refine litVal (v := .agg (csc c_).toArray) rfl (wn rfl) (gLoadAg (vs := csc c_) (k := 0) 1 hm164 rfl (by kernel_rfl) (by kernel_rfl) (.tmp 5) Ty.ag_voxel_voxelref43_Costs rfl (litEv (by kernel_rfl))) rfl (by decide) ?_
     refine litVal (v := .agg (tlc (child t 3)).toArray) rfl (wn rfl) (gLoadAg (vs := tlc (child t 3)) (k := 0) 6 hm164 rfl (by kernel_rfl) (by kernel_rfl) (.tmp 22) Ty.ag_voxel_api_Tile rfl (litEv (by kernel_rfl))) rfl (by decide) ?_
     refine plCall (i := 3) 19 [.agg (csc c_).toArray, .agg (tlc (child t 3)).toArray] [] [] rfl (by kernel_rfl) (wn rfl) rfl (litEv (by kernel_rfl)) (litArgs (by kernel_rfl)) (cost_any c_ (child t 3) (htok.child h1_ 3).lv _) ?_
     rintro e w166 ⟨rfl, hbz⟩
     have hm167 := hm164.below hbz
     clear hbz hm164
     refine ⟨_, rfl, ?_⟩
     refine qP rfl ?_
     refine litVal (v := .int .i64 (((((-(costP c_ t)) + (costP c_ (child t 0))) + (costP c_ (child t 1))) + (costP c_ (child t 2))) + (costP c_ (child t 3)))) rfl (wn rfl) (addRun (A := ((((-(costP c_ t)) + (costP c_ (child t 0))) + (costP c_ (child t 1))) + (costP c_ (child t 2)))) (B := (costP c_ (child t 3))) (C := ((((-(costP c_ t)) + (costP c_ (child t 0))) + (costP c_ (child t 1))) + (costP c_ (child t 2))) + (costP c_ (child t 3))) (.tmp 156) (.tmp 159) rfl (litEv (by kernel_rfl)) (litEv (by kernel_rfl)) rfl (by omega)) rfl (by decide) ?_
     refine lk (v := .int .i64 (((((-(costP c_ t)) + (costP c_ (child t 0))) + (costP c_ (child t 1))) + (costP c_ (child t 2))) + (costP c_ (child t 3)))) rfl rfl rfl ?_
     refine plD ?_
     refine inBlock_normal ?_
     refine then_normal (hK159 _ _ ?_)
     refine plStart ?_
     refine lk (v := .int .i64 4) rfl rfl rfl ?_
     refine lk (v := .int .i64 4) rfl rfl rfl ?_
     refine plD ?_
     refine then_normal (roundsNext ?_)
     have hm168 : Mem w w166 [.arr g2 25 (vwc v), .arr g5 27 (csc c_), .row (.slice (some ⟨b53, 0, none⟩) ((planR (costP c_) depth v).tiles.length) c29) 38 4 ((planR (costP c_) depth v).tiles.length) (tlsC (planR (costP c_) depth v).tiles), .arr g30 31 (plnC (.slice (some ⟨b53, 0, none⟩) ((planR (costP c_) depth v).tiles.length) c29) (planR (costP c_) depth v)), .arr g90 38 (tlc t), .row (.slice (some ⟨b113, 0, none⟩) 8 c112) 38 4 8 (tlsC (splitT t))] := (hm167.sub (.cons_cons _ (.cons_cons _ (.cons_cons _ (.cons_cons _ (.cons_cons _ (.cons_cons _ (.cons _ .slnil))))))))
     clear hm167
     refine wp_seq_k fun K169 hK169 => ?_
     refine plStart ?_
     refine lk (v := .bool true) rfl rfl rfl ?_
     refine plD ?_
     refine then_normal (hK169 _ _ ?_)
     refine wpPrune [(4, .pointer (some ⟨g2, 0, none⟩)), (5, .pointer (some ⟨g5, 0, none⟩)), (7, .pointer (some ⟨g30, 0, none⟩)), (10, .int .i64 ((planR (costP c_) depth v).cost)), (12, .int .i64 (max wst (err v t))), (16, .pointer (some ⟨g90, 0, none⟩)), (17, .int .i64 (err v t)), (18, .slice (some ⟨b113, 0, none⟩) 8 c112), (20, .int .i64 (((((-(costP c_ t)) + (costP c_ (child t 0))) + (costP c_ (child t 1))) + (costP c_ (child t 2))) + (costP c_ (child t 3)))), (22, .pointer (some ⟨g161, 0, none⟩)), (112, .slice (some ⟨b53, 0, none⟩) ((planR (costP c_) depth v).tiles.length) c29), (113, .int .i64 ((planR (costP c_) depth v).tiles.length : Int)), (114, .int .i64 (i : Int)), (115, .bool true), (116, .pointer (some ⟨b53, 0 + i * 4, none⟩)), (117, .agg (tlc t).toArray), (118, .agg (vwc v).toArray), (119, .agg (tlc t).toArray), (120, .int .i64 (err v t)), (121, .int .i64 wst), (122, .int .i64 (err v t)), (123, .int .i64 (max wst (err v t))), (124, .pointer (some ⟨g90, 0, none⟩)), (125, .int .i64 t.lv), (126, .bool false), (127, .bool false), (128, .int .i64 (err v t)), (129, .pointer (some ⟨g2, 4, none⟩)), (130, .int .i64 v.tol), (131, .bool false), (132, .bool false), (133, .bool false), (134, .pointer (some ⟨g30, 0, none⟩)), (135, .slice (some ⟨b53, 0, none⟩) ((planR (costP c_) depth v).tiles.length) c29), (136, .int .i64 ((planR (costP c_) depth v).tiles.length : Int)), (137, .int .i64 (((planR (costP c_) depth v).tiles.length : Int) + 7)), (138, .bool false), (139, .bool false), (140, .tuple #[.slice (some ⟨b113, 0, none⟩) 8 c112, .int .i64 0]), (141, .agg (tlc t).toArray), (142, .slice (some ⟨g105, 0, none⟩) 1 1), (143, .tuple #[.slice (some ⟨b113, 0, none⟩) 8 c112, .int .i64 0]), (144, .slice (some ⟨b113, 0, none⟩) 8 c112), (145, .int .i64 0), (146, .agg (csc c_).toArray), (147, .agg (tlc t).toArray), (148, .int .i64 (costP c_ t)), (149, .int .i64 (-(costP c_ t))), (150, .slice (some ⟨b113, 0, none⟩) 8 c112), (151, .int .i64 8), (152, .int .i64 4), (153, .bool true), (154, .pointer (some ⟨b113, 0 + 3 * 4, none⟩)), (155, .agg (tlc (child t 3)).toArray), (156, .int .i64 ((((-(costP c_ t)) + (costP c_ (child t 0))) + (costP c_ (child t 1))) + (costP c_ (child t 2)))), (157, .agg (csc c_).toArray), (158, .agg (tlc (child t 3)).toArray), (159, .int .i64 (costP c_ (child t 3))), (160, .int .i64 (((((-(costP c_ t)) + (costP c_ (child t 0))) + (costP c_ (child t 1))) + (costP c_ (child t 2))) + (costP c_ (child t 3)))), (161, .int .i64 4)] ⟨litGet (by kernel_rfl), ⟨litGet (by kernel_rfl), ⟨litGet (by kernel_rfl), ⟨litGet (by kernel_rfl), ⟨litGet (by kernel_rfl), ⟨litGet (by kernel_rfl), ⟨litGet (by kernel_rfl), ⟨litGet (by kernel_rfl), ⟨litGet (by kernel_rfl), ⟨litGet (by kernel_rfl), ⟨litGet (by kernel_rfl), ⟨litGet (by kernel_rfl), ⟨litGet (by kernel_rfl), ⟨litGet (by kernel_rfl), ⟨litGet (by kernel_rfl), ⟨litGet (by kernel_rfl), ⟨litGet (by kernel_rfl), ⟨litGet (by kernel_rfl), ⟨litGet (by kernel_rfl), ⟨litGet (by kernel_rfl), ⟨litGet (by kernel_rfl), ⟨litGet (by kernel_rfl), ⟨litGet (by kernel_rfl), ⟨litGet (by kernel_rfl), ⟨litGet (by kernel_rfl), ⟨litGet (by kernel_rfl), ⟨litGet (by kernel_rfl), ⟨litGet (by kernel_rfl), ⟨litGet (by kernel_rfl), ⟨litGet (by kernel_rfl), ⟨litGet (by kernel_rfl), ⟨litGet (by kernel_rfl), ⟨litGet (by kernel_rfl), ⟨litGet (by kernel_rfl), ⟨litGet (by kernel_rfl), ⟨litGet (by kernel_rfl), ⟨litGet (by kernel_rfl), ⟨litGet (by kernel_rfl), ⟨litGet (by kernel_rfl), ⟨litGet (by kernel_rfl), ⟨litGet (by kernel_rfl), ⟨litGet (by kernel_rfl), ⟨litGet (by kernel_rfl), ⟨litGet (by kernel_rfl), ⟨litGet (by kernel_rfl), ⟨litGet (by kernel_rfl), ⟨litGet (by kernel_rfl), ⟨litGet (by kernel_rfl), ⟨litGet (by kernel_rfl), ⟨litGet (by kernel_rfl), ⟨litGet (by kernel_rfl), ⟨litGet (by kernel_rfl), ⟨litGet (by kernel_rfl), ⟨litGet (by kernel_rfl), ⟨litGet (by kernel_rfl), ⟨litGet (by kernel_rfl), ⟨litGet (by kernel_rfl), ⟨litGet (by kernel_rfl), ⟨litGet (by kernel_rfl), ⟨litGet (by kernel_rfl), trivial⟩⟩⟩⟩⟩⟩⟩⟩⟩⟩⟩⟩⟩⟩⟩⟩⟩⟩⟩⟩⟩⟩⟩⟩⟩⟩⟩⟩⟩⟩⟩⟩⟩⟩⟩⟩⟩⟩⟩⟩⟩⟩⟩⟩⟩⟩⟩⟩⟩⟩⟩⟩⟩⟩⟩⟩⟩⟩⟩⟩ (fun X170 => ?_)
     refine wp_seq_k fun K171 hK171 => ?_
     refine wp_cond_true (litEv (by kernel_rfl)) ?_
     refine wp_skip ?_
     refine then_normal (hK171 _ _ ?_)
     refine wp_seq_k fun K172 hK172 => ?_
     refine wp_block ?_
     refine wp_seq_k fun K173 hK173 => ?_
     refine plStart ?_
     refine litVal (v := .pointer (some ⟨b113, 0 + 4 * 4, none⟩)) rfl (wn rfl) (gIaSl (b := b113) (off := 0) (n := 8) (c := c112) (kk := .i64) (K := 4) (.tmp 150) (.tmp 152) 4 Ty.sl_L_api_Tile rfl (litEv (by kernel_rfl)) (litEv (by kernel_rfl)) (rfl) (by decide)) rfl (by decide) ?_
     refine litVal (v := .agg (tlc (child t 4)).toArray) rfl (wn rfl) (gLoadAgRd (vs := tlc (child t 4)) (m := 4 * 4) (hm168.rdRow 5 rfl) rfl (fun i_ u_ hu_ => tlsC_get (l := splitT t) (k := 4) rfl i_ u_ hu_) (by kernel_rfl) (by decide) (.tmp 154) Ty.ag_voxel_api_Tile rfl (litEv (by kernel_rfl))) rfl (by decide) ?_
     refine plAlloc (z := [.int .i64 0, .int .i64 0, .int .i64 0, .int .i64 0]) Ty.ag_voxel_api_Tile hm168 (i := 2) rfl (wn rfl) rfl ?_
     intro g174 w176 hm175
     clear hm168
     try simp only [List.cons_append, List.nil_append, List.set_cons_succ, List.set_cons_zero] at hm175
     refine qP rfl ?_
     refine plStore 6 Ty.ag_voxel_api_Tile hm175 rfl (i := 3) (cs := tlc (child t 4)) rfl (wn rfl) rfl (litEv (by kernel_rfl)) (litEv (by kernel_rfl)) rfl rfl (by kernel_rfl) ?_
     intro w178 hm177
     clear hm175
     try simp only [List.cons_append, List.nil_append, List.set_cons_succ, List.set_cons_zero] at hm177
     refine qNone rfl ?_
     refine plD ?_
     refine then_normal (hK173 _ _ ?_)
     refine plStart ?_
     refine lk (v := .int .i64 (((((-(costP c_ t)) + (costP c_ (child t 0))) + (costP c_ (child t 1))) + (costP c_ (child t 2))) + (costP c_ (child t 3)))) rfl rfl rfl ?_
     refine litVal (v := .agg (csc c_).toArray) rfl (wn rfl) (gLoadAg (vs := csc c_) (k := 0) 1 hm177 rfl (by kernel_rfl) (by kernel_rfl) (.tmp 5) Ty.ag_voxel_voxelref43_Costs rfl (litEv (by kernel_rfl))) rfl (by decide) ?_
     refine litVal (v := .agg (tlc (child t 4)).toArray) rfl (wn rfl) (gLoadAg (vs := tlc (child t 4)) (k := 0) 6 hm177 rfl (by kernel_rfl) (by kernel_rfl) (.tmp 22) Ty.ag_voxel_api_Tile rfl (litEv (by kernel_rfl))) rfl (by decide) ?_
     refine plCall (i := 3) 19 [.agg (csc c_).toArray, .agg (tlc (child t 4)).toArray] [] [] rfl (by kernel_rfl) (wn rfl) rfl (litEv (by kernel_rfl)) (litArgs (by kernel_rfl)) (cost_any c_ (child t 4) (htok.child h1_ 4).lv _) ?_
     rintro e w179 ⟨rfl, hbz⟩
     have hm180 := hm177.below hbz
     clear hbz hm177
     refine ⟨_, rfl, ?_⟩
     refine qP rfl ?_
     refine litVal (v := .int .i64 ((((((-(costP c_ t)) + (costP c_ (child t 0))) + (costP c_ (child t 1))) + (costP c_ (child t 2))) + (costP c_ (child t 3))) + (costP c_ (child t 4)))) rfl (wn rfl) (addRun (A := (((((-(costP c_ t)) + (costP c_ (child t 0))) + (costP c_ (child t 1))) + (costP c_ (child t 2))) + (costP c_ (child t 3)))) (B := (costP c_ (child t 4))) (C := (((((-(costP c_ t)) + (costP c_ (child t 0))) + (costP c_ (child t 1))) + (costP c_ (child t 2))) + (costP c_ (child t 3))) + (costP c_ (child t 4))) (.tmp 156) (.tmp 159) rfl (litEv (by kernel_rfl)) (litEv (by kernel_rfl)) rfl (by omega)) rfl (by decide) ?_
     refine lk (v := .int .i64 ((((((-(costP c_ t)) + (costP c_ (child t 0))) + (costP c_ (child t 1))) + (costP c_ (child t 2))) + (costP c_ (child t 3))) + (costP c_ (child t 4)))) rfl rfl rfl ?_
     refine plD ?_
     refine inBlock_normal ?_
     refine then_normal (hK172 _ _ ?_)
     refine plStart ?_
     refine lk (v := .int .i64 5) rfl rfl rfl ?_
     refine lk (v := .int .i64 5) rfl rfl rfl ?_
     refine plD ?_
     refine then_normal (roundsNext ?_)
     have hm181 : Mem w w179 [.arr g2 25 (vwc v), .arr g5 27 (csc c_), .row (.slice (some ⟨b53, 0, none⟩) ((planR (costP c_) depth v).tiles.length) c29) 38 4 ((planR (costP c_) depth v).tiles.length) (tlsC (planR (costP c_) depth v).tiles), .arr g30 31 (plnC (.slice (some ⟨b53, 0, none⟩) ((planR (costP c_) depth v).tiles.length) c29) (planR (costP c_) depth v)), .arr g90 38 (tlc t), .row (.slice (some ⟨b113, 0, none⟩) 8 c112) 38 4 8 (tlsC (splitT t))] := (hm180.sub (.cons_cons _ (.cons_cons _ (.cons_cons _ (.cons_cons _ (.cons_cons _ (.cons_cons _ (.cons _ .slnil))))))))
     clear hm180
     refine wp_seq_k fun K182 hK182 => ?_
     refine plStart ?_
     refine lk (v := .bool true) rfl rfl rfl ?_
     refine plD ?_
     refine then_normal (hK182 _ _ ?_)
     refine wp_seq_k fun K183 hK183 => ?_
     refine wp_cond_true (litEv (by kernel_rfl)) ?_
     refine wp_skip ?_
     refine then_normal (hK183 _ _ ?_)
     refine wp_seq_k fun K184 hK184 => ?_
     refine wp_block ?_
     refine wp_seq_k fun K185 hK185 => ?_
     refine plStart ?_
     refine litVal (v := .pointer (some ⟨b113, 0 + 5 * 4, none⟩)) rfl (wn rfl) (gIaSl (b := b113) (off := 0) (n := 8) (c := c112) (kk := .i64) (K := 5) (.tmp 150) (.tmp 152) 5 Ty.sl_L_api_Tile rfl (litEv (by kernel_rfl)) (litEv (by kernel_rfl)) (rfl) (by decide)) rfl (by decide) ?_
     refine litVal (v := .agg (tlc (child t 5)).toArray) rfl (wn rfl) (gLoadAgRd (vs := tlc (child t 5)) (m := 5 * 4) (hm181.rdRow 5 rfl) rfl (fun i_ u_ hu_ => tlsC_get (l := splitT t) (k := 5) rfl i_ u_ hu_) (by kernel_rfl) (by decide) (.tmp 154) Ty.ag_voxel_api_Tile rfl (litEv (by kernel_rfl))) rfl (by decide) ?_
     refine plAlloc (z := [.int .i64 0, .int .i64 0, .int .i64 0, .int .i64 0]) Ty.ag_voxel_api_Tile hm181 (i := 2) rfl (wn rfl) rfl ?_
     intro g186 w188 hm187
     clear hm181
     try simp only [List.cons_append, List.nil_append, List.set_cons_succ, List.set_cons_zero] at hm187
     refine qP rfl ?_
     refine plStore 6 Ty.ag_voxel_api_Tile hm187 rfl (i := 3) (cs := tlc (child t 5)) rfl (wn rfl) rfl (litEv (by kernel_rfl)) (litEv (by kernel_rfl)) rfl rfl (by kernel_rfl) ?_
     intro w190 hm189
     clear hm187
     try simp only [List.cons_append, List.nil_append, List.set_cons_succ, List.set_cons_zero] at hm189
     refine qNone rfl ?_
     refine plD ?_
     refine then_normal (hK185 _ _ ?_)
     refine wpPrune [(4, .pointer (some ⟨g2, 0, none⟩)), (5, .pointer (some ⟨g5, 0, none⟩)), (7, .pointer (some ⟨g30, 0, none⟩)), (10, .int .i64 ((planR (costP c_) depth v).cost)), (12, .int .i64 (max wst (err v t))), (16, .pointer (some ⟨g90, 0, none⟩)), (17, .int .i64 (err v t)), (18, .slice (some ⟨b113, 0, none⟩) 8 c112), (20, .int .i64 ((((((-(costP c_ t)) + (costP c_ (child t 0))) + (costP c_ (child t 1))) + (costP c_ (child t 2))) + (costP c_ (child t 3))) + (costP c_ (child t 4)))), (22, .pointer (some ⟨g186, 0, none⟩)), (112, .slice (some ⟨b53, 0, none⟩) ((planR (costP c_) depth v).tiles.length) c29), (113, .int .i64 ((planR (costP c_) depth v).tiles.length : Int)), (114, .int .i64 (i : Int)), (115, .bool true), (116, .pointer (some ⟨b53, 0 + i * 4, none⟩)), (117, .agg (tlc t).toArray), (118, .agg (vwc v).toArray), (119, .agg (tlc t).toArray), (120, .int .i64 (err v t)), (121, .int .i64 wst), (122, .int .i64 (err v t)), (123, .int .i64 (max wst (err v t))), (124, .pointer (some ⟨g90, 0, none⟩)), (125, .int .i64 t.lv), (126, .bool false), (127, .bool false), (128, .int .i64 (err v t)), (129, .pointer (some ⟨g2, 4, none⟩)), (130, .int .i64 v.tol), (131, .bool false), (132, .bool false), (133, .bool false), (134, .pointer (some ⟨g30, 0, none⟩)), (135, .slice (some ⟨b53, 0, none⟩) ((planR (costP c_) depth v).tiles.length) c29), (136, .int .i64 ((planR (costP c_) depth v).tiles.length : Int)), (137, .int .i64 (((planR (costP c_) depth v).tiles.length : Int) + 7)), (138, .bool false), (139, .bool false), (140, .tuple #[.slice (some ⟨b113, 0, none⟩) 8 c112, .int .i64 0]), (141, .agg (tlc t).toArray), (142, .slice (some ⟨g105, 0, none⟩) 1 1), (143, .tuple #[.slice (some ⟨b113, 0, none⟩) 8 c112, .int .i64 0]), (144, .slice (some ⟨b113, 0, none⟩) 8 c112), (145, .int .i64 0), (146, .agg (csc c_).toArray), (147, .agg (tlc t).toArray), (148, .int .i64 (costP c_ t)), (149, .int .i64 (-(costP c_ t))), (150, .slice (some ⟨b113, 0, none⟩) 8 c112), (151, .int .i64 8), (152, .int .i64 5), (153, .bool true), (154, .pointer (some ⟨b113, 0 + 5 * 4, none⟩)), (155, .agg (tlc (child t 5)).toArray), (156, .int .i64 (((((-(costP c_ t)) + (costP c_ (child t 0))) + (costP c_ (child t 1))) + (costP c_ (child t 2))) + (costP c_ (child t 3)))), (157, .agg (csc c_).toArray), (158, .agg (tlc (child t 4)).toArray), (159, .int .i64 (costP c_ (child t 4))), (160, .int .i64 ((((((-(costP c_ t)) + (costP c_ (child t 0))) + (costP c_ (child t 1))) + (costP c_ (child t 2))) + (costP c_ (child t 3))) + (costP c_ (child t 4)))), (161, .int .i64 5)] ⟨litGet (by kernel_rfl), ⟨litGet (by kernel_rfl), ⟨litGet (by kernel_rfl), ⟨litGet (by kernel_rfl), ⟨litGet (by kernel_rfl), ⟨litGet (by kernel_rfl), ⟨litGet (by kernel_rfl), ⟨litGet (by kernel_rfl), ⟨litGet (by kernel_rfl), ⟨litGet (by kernel_rfl), ⟨litGet (by kernel_rfl), ⟨litGet (by kernel_rfl), ⟨litGet (by kernel_rfl), ⟨litGet (by kernel_rfl), ⟨litGet (by kernel_rfl), ⟨litGet (by kernel_rfl), ⟨litGet (by kernel_rfl), ⟨litGet (by kernel_rfl), ⟨litGet (by kernel_rfl), ⟨litGet (by kernel_rfl), ⟨litGet (by kernel_rfl), ⟨litGet (by kernel_rfl), ⟨litGet (by kernel_rfl), ⟨litGet (by kernel_rfl), ⟨litGet (by kernel_rfl), ⟨litGet (by kernel_rfl), ⟨litGet (by kernel_rfl), ⟨litGet (by kernel_rfl), ⟨litGet (by kernel_rfl), ⟨litGet (by kernel_rfl), ⟨litGet (by kernel_rfl), ⟨litGet (by kernel_rfl), ⟨litGet (by kernel_rfl), ⟨litGet (by kernel_rfl), ⟨litGet (by kernel_rfl), ⟨litGet (by kernel_rfl), ⟨litGet (by kernel_rfl), ⟨litGet (by kernel_rfl), ⟨litGet (by kernel_rfl), ⟨litGet (by kernel_rfl), ⟨litGet (by kernel_rfl), ⟨litGet (by kernel_rfl), ⟨litGet (by kernel_rfl), ⟨litGet (by kernel_rfl), ⟨litGet (by kernel_rfl), ⟨litGet (by kernel_rfl), ⟨litGet (by kernel_rfl), ⟨litGet (by kernel_rfl), ⟨litGet (by kernel_rfl), ⟨litGet (by kernel_rfl), ⟨litGet (by kernel_rfl), ⟨litGet (by kernel_rfl), ⟨litGet (by kernel_rfl), ⟨litGet (by kernel_rfl), ⟨litGet (by kernel_rfl), ⟨litGet (by kernel_rfl), ⟨litGet (by kernel_rfl), ⟨litGet (by kernel_rfl), ⟨litGet (by kernel_rfl), ⟨litGet (by kernel_rfl), trivial⟩⟩⟩⟩⟩⟩⟩⟩⟩⟩⟩⟩⟩⟩⟩⟩⟩⟩⟩⟩⟩⟩⟩⟩⟩⟩⟩⟩⟩⟩⟩⟩⟩⟩⟩⟩⟩⟩⟩⟩⟩⟩⟩⟩⟩⟩⟩⟩⟩⟩⟩⟩⟩⟩⟩⟩⟩⟩⟩⟩ (fun X191 => ?_)
     refine plStart ?_
     refine lk (v := .int .i64 ((((((-(costP c_ t)) + (costP c_ (child t 0))) + (costP c_ (child t 1))) + (costP c_ (child t 2))) + (costP c_ (child t 3))) + (costP c_ (child t 4)))) rfl rfl rfl ?_
     refine litVal (v := .agg (csc c_).toArray) rfl (wn rfl) (gLoadAg (vs := csc c_) (k := 0) 1 hm189 rfl (by kernel_rfl) (by kernel_rfl) (.tmp 5) Ty.ag_voxel_voxelref43_Costs rfl (litEv (by kernel_rfl))) rfl (by decide) ?_
     refine litVal (v := .agg (tlc (child t 5)).toArray) rfl (wn rfl) (gLoadAg (vs := tlc (child t 5)) (k := 0) 6 hm189 rfl (by kernel_rfl) (by kernel_rfl) (.tmp 22) Ty.ag_voxel_api_Tile rfl (litEv (by kernel_rfl))) rfl (by decide) ?_
     refine plCall (i := 3) 19 [.agg (csc c_).toArray, .agg (tlc (child t 5)).toArray] [] [] rfl (by kernel_rfl) (wn rfl) rfl (litEv (by kernel_rfl)) (litArgs (by kernel_rfl)) (cost_any c_ (child t 5) (htok.child h1_ 5).lv _) ?_
     rintro e w192 ⟨rfl, hbz⟩
     have hm193 := hm189.below hbz
     clear hbz hm189
     refine ⟨_, rfl, ?_⟩
     refine qP rfl ?_
     refine litVal (v := .int .i64 (((((((-(costP c_ t)) + (costP c_ (child t 0))) + (costP c_ (child t 1))) + (costP c_ (child t 2))) + (costP c_ (child t 3))) + (costP c_ (child t 4))) + (costP c_ (child t 5)))) rfl (wn rfl) (addRun (A := ((((((-(costP c_ t)) + (costP c_ (child t 0))) + (costP c_ (child t 1))) + (costP c_ (child t 2))) + (costP c_ (child t 3))) + (costP c_ (child t 4)))) (B := (costP c_ (child t 5))) (C := ((((((-(costP c_ t)) + (costP c_ (child t 0))) + (costP c_ (child t 1))) + (costP c_ (child t 2))) + (costP c_ (child t 3))) + (costP c_ (child t 4))) + (costP c_ (child t 5))) (.tmp 156) (.tmp 159) rfl (litEv (by kernel_rfl)) (litEv (by kernel_rfl)) rfl (by omega)) rfl (by decide) ?_
     refine lk (v := .int .i64 (((((((-(costP c_ t)) + (costP c_ (child t 0))) + (costP c_ (child t 1))) + (costP c_ (child t 2))) + (costP c_ (child t 3))) + (costP c_ (child t 4))) + (costP c_ (child t 5)))) rfl rfl rfl ?_
     refine plD ?_
     refine inBlock_normal ?_
     refine then_normal (hK184 _ _ ?_)
     refine plStart ?_
     refine lk (v := .int .i64 6) rfl rfl rfl ?_
     refine lk (v := .int .i64 6) rfl rfl rfl ?_
     refine plD ?_
     refine then_normal (roundsNext ?_)
     have hm194 : Mem w w192 [.arr g2 25 (vwc v), .arr g5 27 (csc c_), .row (.slice (some ⟨b53, 0, none⟩) ((planR (costP c_) depth v).tiles.length) c29) 38 4 ((planR (costP c_) depth v).tiles.length) (tlsC (planR (costP c_) depth v).tiles), .arr g30 31 (plnC (.slice (some ⟨b53, 0, none⟩) ((planR (costP c_) depth v).tiles.length) c29) (planR (costP c_) depth v)), .arr g90 38 (tlc t), .row (.slice (some ⟨b113, 0, none⟩) 8 c112) 38 4 8 (tlsC (splitT t))] := (hm193.sub (.cons_cons _ (.cons_cons _ (.cons_cons _ (.cons_cons _ (.cons_cons _ (.cons_cons _ (.cons _ .slnil))))))))
     clear hm193
     refine wp_seq_k fun K195 hK195 => ?_
     refine plStart ?_
     refine lk (v := .bool true) rfl rfl rfl ?_
     refine plD ?_
     refine then_normal (hK195 _ _ ?_)
     refine wp_seq_k fun K196 hK196 => ?_
     refine wp_cond_true (litEv (by kernel_rfl)) ?_
     refine wp_skip ?_
     refine then_normal (hK196 _ _ ?_)
     refine wp_seq_k fun K197 hK197 => ?_
     refine wp_block ?_
     refine wp_seq_k fun K198 hK198 => ?_
     refine plStart ?_
     refine litVal (v := .pointer (some ⟨b113, 0 + 6 * 4, none⟩)) rfl (wn rfl) (gIaSl (b := b113) (off := 0) (n := 8) (c := c112) (kk := .i64) (K := 6) (.tmp 150) (.tmp 152) 6 Ty.sl_L_api_Tile rfl (litEv (by kernel_rfl)) (litEv (by kernel_rfl)) (rfl) (by decide)) rfl (by decide) ?_
     refine litVal (v := .agg (tlc (child t 6)).toArray) rfl (wn rfl) (gLoadAgRd (vs := tlc (child t 6)) (m := 6 * 4) (hm194.rdRow 5 rfl) rfl (fun i_ u_ hu_ => tlsC_get (l := splitT t) (k := 6) rfl i_ u_ hu_) (by kernel_rfl) (by decide) (.tmp 154) Ty.ag_voxel_api_Tile rfl (litEv (by kernel_rfl))) rfl (by decide) ?_
     refine plAlloc (z := [.int .i64 0, .int .i64 0, .int .i64 0, .int .i64 0]) Ty.ag_voxel_api_Tile hm194 (i := 2) rfl (wn rfl) rfl ?_
     intro g199 w201 hm200
     clear hm194
     try simp only [List.cons_append, List.nil_append, List.set_cons_succ, List.set_cons_zero] at hm200
     refine qP rfl ?_
     refine plStore 6 Ty.ag_voxel_api_Tile hm200 rfl (i := 3) (cs := tlc (child t 6)) rfl (wn rfl) rfl (litEv (by kernel_rfl)) (litEv (by kernel_rfl)) rfl rfl (by kernel_rfl) ?_
     intro w203 hm202
     clear hm200
     try simp only [List.cons_append, List.nil_append, List.set_cons_succ, List.set_cons_zero] at hm202
     refine qNone rfl ?_
     refine plD ?_
     refine then_normal (hK198 _ _ ?_)
     refine plStart ?_
     refine lk (v := .int .i64 (((((((-(costP c_ t)) + (costP c_ (child t 0))) + (costP c_ (child t 1))) + (costP c_ (child t 2))) + (costP c_ (child t 3))) + (costP c_ (child t 4))) + (costP c_ (child t 5)))) rfl rfl rfl ?_
     refine litVal (v := .agg (csc c_).toArray) rfl (wn rfl) (gLoadAg (vs := csc c_) (k := 0) 1 hm202 rfl (by kernel_rfl) (by kernel_rfl) (.tmp 5) Ty.ag_voxel_voxelref43_Costs rfl (litEv (by kernel_rfl))) rfl (by decide) ?_
     refine litVal (v := .agg (tlc (child t 6)).toArray) rfl (wn rfl) (gLoadAg (vs := tlc (child t 6)) (k := 0) 6 hm202 rfl (by kernel_rfl) (by kernel_rfl) (.tmp 22) Ty.ag_voxel_api_Tile rfl (litEv (by kernel_rfl))) rfl (by decide) ?_
     refine plCall (i := 3) 19 [.agg (csc c_).toArray, .agg (tlc (child t 6)).toArray] [] [] rfl (by kernel_rfl) (wn rfl) rfl (litEv (by kernel_rfl)) (litArgs (by kernel_rfl)) (cost_any c_ (child t 6) (htok.child h1_ 6).lv _) ?_
     rintro e w204 ⟨rfl, hbz⟩
     have hm205 := hm202.below hbz
     clear hbz hm202
     refine ⟨_, rfl, ?_⟩
     refine qP rfl ?_
     refine litVal (v := .int .i64 ((((((((-(costP c_ t)) + (costP c_ (child t 0))) + (costP c_ (child t 1))) + (costP c_ (child t 2))) + (costP c_ (child t 3))) + (costP c_ (child t 4))) + (costP c_ (child t 5))) + (costP c_ (child t 6)))) rfl (wn rfl) (addRun (A := (((((((-(costP c_ t)) + (costP c_ (child t 0))) + (costP c_ (child t 1))) + (costP c_ (child t 2))) + (costP c_ (child t 3))) + (costP c_ (child t 4))) + (costP c_ (child t 5)))) (B := (costP c_ (child t 6))) (C := (((((((-(costP c_ t)) + (costP c_ (child t 0))) + (costP c_ (child t 1))) + (costP c_ (child t 2))) + (costP c_ (child t 3))) + (costP c_ (child t 4))) + (costP c_ (child t 5))) + (costP c_ (child t 6))) (.tmp 156) (.tmp 159) rfl (litEv (by kernel_rfl)) (litEv (by kernel_rfl)) rfl (by omega)) rfl (by decide) ?_
     refine lk (v := .int .i64 ((((((((-(costP c_ t)) + (costP c_ (child t 0))) + (costP c_ (child t 1))) + (costP c_ (child t 2))) + (costP c_ (child t 3))) + (costP c_ (child t 4))) + (costP c_ (child t 5))) + (costP c_ (child t 6)))) rfl rfl rfl ?_
     refine plD ?_
     refine inBlock_normal ?_
     refine then_normal (hK197 _ _ ?_)
     refine wpPrune [(4, .pointer (some ⟨g2, 0, none⟩)), (5, .pointer (some ⟨g5, 0, none⟩)), (7, .pointer (some ⟨g30, 0, none⟩)), (10, .int .i64 ((planR (costP c_) depth v).cost)), (12, .int .i64 (max wst (err v t))), (16, .pointer (some ⟨g90, 0, none⟩)), (17, .int .i64 (err v t)), (18, .slice (some ⟨b113, 0, none⟩) 8 c112), (20, .int .i64 ((((((((-(costP c_ t)) + (costP c_ (child t 0))) + (costP c_ (child t 1))) + (costP c_ (child t 2))) + (costP c_ (child t 3))) + (costP c_ (child t 4))) + (costP c_ (child t 5))) + (costP c_ (child t 6)))), (22, .pointer (some ⟨g199, 0, none⟩)), (112, .slice (some ⟨b53, 0, none⟩) ((planR (costP c_) depth v).tiles.length) c29), (113, .int .i64 ((planR (costP c_) depth v).tiles.length : Int)), (114, .int .i64 (i : Int)), (115, .bool true), (116, .pointer (some ⟨b53, 0 + i * 4, none⟩)), (117, .agg (tlc t).toArray), (118, .agg (vwc v).toArray), (119, .agg (tlc t).toArray), (120, .int .i64 (err v t)), (121, .int .i64 wst), (122, .int .i64 (err v t)), (123, .int .i64 (max wst (err v t))), (124, .pointer (some ⟨g90, 0, none⟩)), (125, .int .i64 t.lv), (126, .bool false), (127, .bool false), (128, .int .i64 (err v t)), (129, .pointer (some ⟨g2, 4, none⟩)), (130, .int .i64 v.tol), (131, .bool false), (132, .bool false), (133, .bool false), (134, .pointer (some ⟨g30, 0, none⟩)), (135, .slice (some ⟨b53, 0, none⟩) ((planR (costP c_) depth v).tiles.length) c29), (136, .int .i64 ((planR (costP c_) depth v).tiles.length : Int)), (137, .int .i64 (((planR (costP c_) depth v).tiles.length : Int) + 7)), (138, .bool false), (139, .bool false), (140, .tuple #[.slice (some ⟨b113, 0, none⟩) 8 c112, .int .i64 0]), (141, .agg (tlc t).toArray), (142, .slice (some ⟨g105, 0, none⟩) 1 1), (143, .tuple #[.slice (some ⟨b113, 0, none⟩) 8 c112, .int .i64 0]), (144, .slice (some ⟨b113, 0, none⟩) 8 c112), (145, .int .i64 0), (146, .agg (csc c_).toArray), (147, .agg (tlc t).toArray), (148, .int .i64 (costP c_ t)), (149, .int .i64 (-(costP c_ t))), (150, .slice (some ⟨b113, 0, none⟩) 8 c112), (151, .int .i64 8), (152, .int .i64 6), (153, .bool true), (154, .pointer (some ⟨b113, 0 + 6 * 4, none⟩)), (155, .agg (tlc (child t 6)).toArray), (156, .int .i64 (((((((-(costP c_ t)) + (costP c_ (child t 0))) + (costP c_ (child t 1))) + (costP c_ (child t 2))) + (costP c_ (child t 3))) + (costP c_ (child t 4))) + (costP c_ (child t 5)))), (157, .agg (csc c_).toArray), (158, .agg (tlc (child t 6)).toArray), (159, .int .i64 (costP c_ (child t 6))), (160, .int .i64 ((((((((-(costP c_ t)) + (costP c_ (child t 0))) + (costP c_ (child t 1))) + (costP c_ (child t 2))) + (costP c_ (child t 3))) + (costP c_ (child t 4))) + (costP c_ (child t 5))) + (costP c_ (child t 6)))), (161, .int .i64 6)] ⟨litGet (by kernel_rfl), ⟨litGet (by kernel_rfl), ⟨litGet (by kernel_rfl), ⟨litGet (by kernel_rfl), ⟨litGet (by kernel_rfl), ⟨litGet (by kernel_rfl), ⟨litGet (by kernel_rfl), ⟨litGet (by kernel_rfl), ⟨litGet (by kernel_rfl), ⟨litGet (by kernel_rfl), ⟨litGet (by kernel_rfl), ⟨litGet (by kernel_rfl), ⟨litGet (by kernel_rfl), ⟨litGet (by kernel_rfl), ⟨litGet (by kernel_rfl), ⟨litGet (by kernel_rfl), ⟨litGet (by kernel_rfl), ⟨litGet (by kernel_rfl), ⟨litGet (by kernel_rfl), ⟨litGet (by kernel_rfl), ⟨litGet (by kernel_rfl), ⟨litGet (by kernel_rfl), ⟨litGet (by kernel_rfl), ⟨litGet (by kernel_rfl), ⟨litGet (by kernel_rfl), ⟨litGet (by kernel_rfl), ⟨litGet (by kernel_rfl), ⟨litGet (by kernel_rfl), ⟨litGet (by kernel_rfl), ⟨litGet (by kernel_rfl), ⟨litGet (by kernel_rfl), ⟨litGet (by kernel_rfl), ⟨litGet (by kernel_rfl), ⟨litGet (by kernel_rfl), ⟨litGet (by kernel_rfl), ⟨litGet (by kernel_rfl), ⟨litGet (by kernel_rfl), ⟨litGet (by kernel_rfl), ⟨litGet (by kernel_rfl), ⟨litGet (by kernel_rfl), ⟨litGet (by kernel_rfl), ⟨litGet (by kernel_rfl), ⟨litGet (by kernel_rfl), ⟨litGet (by kernel_rfl), ⟨litGet (by kernel_rfl), ⟨litGet (by kernel_rfl), ⟨litGet (by kernel_rfl), ⟨litGet (by kernel_rfl), ⟨litGet (by kernel_rfl), ⟨litGet (by kernel_rfl), ⟨litGet (by kernel_rfl), ⟨litGet (by kernel_rfl), ⟨litGet (by kernel_rfl), ⟨litGet (by kernel_rfl), ⟨litGet (by kernel_rfl), ⟨litGet (by kernel_rfl), ⟨litGet (by kernel_rfl), ⟨litGet (by kernel_rfl), ⟨litGet (by kernel_rfl), ⟨litGet (by kernel_rfl), trivial⟩⟩⟩⟩⟩⟩⟩⟩⟩⟩⟩⟩⟩⟩⟩⟩⟩⟩⟩⟩⟩⟩⟩⟩⟩⟩⟩⟩⟩⟩⟩⟩⟩⟩⟩⟩⟩⟩⟩⟩⟩⟩⟩⟩⟩⟩⟩⟩⟩⟩⟩⟩⟩⟩⟩⟩⟩⟩⟩⟩ (fun X206 => ?_)
     refine plStart ?_
     refine lk (v := .int .i64 7) rfl rfl rfl ?_
     refine lk (v := .int .i64 7) rfl rfl rfl ?_
     refine plD ?_
     refine then_normal (roundsNext ?_)
     have hm207 : Mem w w204 [.arr g2 25 (vwc v), .arr g5 27 (csc c_), .row (.slice (some ⟨b53, 0, none⟩) ((planR (costP c_) depth v).tiles.length) c29) 38 4 ((planR (costP c_) depth v).tiles.length) (tlsC (planR (costP c_) depth v).tiles), .arr g30 31 (plnC (.slice (some ⟨b53, 0, none⟩) ((planR (costP c_) depth v).tiles.length) c29) (planR (costP c_) depth v)), .arr g90 38 (tlc t), .row (.slice (some ⟨b113, 0, none⟩) 8 c112) 38 4 8 (tlsC (splitT t))] := (hm205.sub (.cons_cons _ (.cons_cons _ (.cons_cons _ (.cons_cons _ (.cons_cons _ (.cons_cons _ (.cons _ .slnil))))))))
     clear hm205
     refine wp_seq_k fun K208 hK208 => ?_
     refine plStart ?_
     refine lk (v := .bool true) rfl rfl rfl ?_
     refine plD ?_
     refine then_normal (hK208 _ _ ?_)
     refine wp_seq_k fun K209 hK209 => ?_
     refine wp_cond_true (litEv (by kernel_rfl)) ?_
     refine wp_skip ?_
     refine then_normal (hK209 _ _ ?_)
     refine wp_seq_k fun K210 hK210 => ?_
     refine wp_block ?_
     refine wp_seq_k fun K211 hK211 => ?_
     refine plStart ?_
     refine litVal (v := .pointer (some ⟨b113, 0 + 7 * 4, none⟩)) rfl (wn rfl) (gIaSl (b := b113) (off := 0) (n := 8) (c := c112) (kk := .i64) (K := 7) (.tmp 150) (.tmp 152) 7 Ty.sl_L_api_Tile rfl (litEv (by kernel_rfl)) (litEv (by kernel_rfl)) (rfl) (by decide)) rfl (by decide) ?_
     refine litVal (v := .agg (tlc (child t 7)).toArray) rfl (wn rfl) (gLoadAgRd (vs := tlc (child t 7)) (m := 7 * 4) (hm207.rdRow 5 rfl) rfl (fun i_ u_ hu_ => tlsC_get (l := splitT t) (k := 7) rfl i_ u_ hu_) (by kernel_rfl) (by decide) (.tmp 154) Ty.ag_voxel_api_Tile rfl (litEv (by kernel_rfl))) rfl (by decide) ?_
     refine plAlloc (z := [.int .i64 0, .int .i64 0, .int .i64 0, .int .i64 0]) Ty.ag_voxel_api_Tile hm207 (i := 2) rfl (wn rfl) rfl ?_
     intro g212 w214 hm213
     clear hm207
     try simp only [List.cons_append, List.nil_append, List.set_cons_succ, List.set_cons_zero] at hm213
     refine qP rfl ?_
     refine plStore 6 Ty.ag_voxel_api_Tile hm213 rfl (i := 3) (cs := tlc (child t 7)) rfl (wn rfl) rfl (litEv (by kernel_rfl)) (litEv (by kernel_rfl)) rfl rfl (by kernel_rfl) ?_
     intro w216 hm215
     clear hm213
     try simp only [List.cons_append, List.nil_append, List.set_cons_succ, List.set_cons_zero] at hm215
     refine qNone rfl ?_
     refine plD ?_
     refine then_normal (hK211 _ _ ?_)
     refine plStart ?_
     refine lk (v := .int .i64 ((((((((-(costP c_ t)) + (costP c_ (child t 0))) + (costP c_ (child t 1))) + (costP c_ (child t 2))) + (costP c_ (child t 3))) + (costP c_ (child t 4))) + (costP c_ (child t 5))) + (costP c_ (child t 6)))) rfl rfl rfl ?_
     refine litVal (v := .agg (csc c_).toArray) rfl (wn rfl) (gLoadAg (vs := csc c_) (k := 0) 1 hm215 rfl (by kernel_rfl) (by kernel_rfl) (.tmp 5) Ty.ag_voxel_voxelref43_Costs rfl (litEv (by kernel_rfl))) rfl (by decide) ?_
     refine litVal (v := .agg (tlc (child t 7)).toArray) rfl (wn rfl) (gLoadAg (vs := tlc (child t 7)) (k := 0) 6 hm215 rfl (by kernel_rfl) (by kernel_rfl) (.tmp 22) Ty.ag_voxel_api_Tile rfl (litEv (by kernel_rfl))) rfl (by decide) ?_
     refine plCall (i := 3) 19 [.agg (csc c_).toArray, .agg (tlc (child t 7)).toArray] [] [] rfl (by kernel_rfl) (wn rfl) rfl (litEv (by kernel_rfl)) (litArgs (by kernel_rfl)) (cost_any c_ (child t 7) (htok.child h1_ 7).lv _) ?_
     rintro e w217 ⟨rfl, hbz⟩
     have hm218 := hm215.below hbz
     clear hbz hm215
     refine ⟨_, rfl, ?_⟩
     refine qP rfl ?_
     refine litVal (v := .int .i64 (((((((((-(costP c_ t)) + (costP c_ (child t 0))) + (costP c_ (child t 1))) + (costP c_ (child t 2))) + (costP c_ (child t 3))) + (costP c_ (child t 4))) + (costP c_ (child t 5))) + (costP c_ (child t 6))) + (costP c_ (child t 7)))) rfl (wn rfl) (addRun (A := ((((((((-(costP c_ t)) + (costP c_ (child t 0))) + (costP c_ (child t 1))) + (costP c_ (child t 2))) + (costP c_ (child t 3))) + (costP c_ (child t 4))) + (costP c_ (child t 5))) + (costP c_ (child t 6)))) (B := (costP c_ (child t 7))) (C := ((((((((-(costP c_ t)) + (costP c_ (child t 0))) + (costP c_ (child t 1))) + (costP c_ (child t 2))) + (costP c_ (child t 3))) + (costP c_ (child t 4))) + (costP c_ (child t 5))) + (costP c_ (child t 6))) + (costP c_ (child t 7))) (.tmp 156) (.tmp 159) rfl (litEv (by kernel_rfl)) (litEv (by kernel_rfl)) rfl (by omega)) rfl (by decide) ?_
     refine lk (v := .int .i64 (((((((((-(costP c_ t)) + (costP c_ (child t 0))) + (costP c_ (child t 1))) + (costP c_ (child t 2))) + (costP c_ (child t 3))) + (costP c_ (child t 4))) + (costP c_ (child t 5))) + (costP c_ (child t 6))) + (costP c_ (child t 7)))) rfl rfl rfl ?_
     refine plD ?_
     refine inBlock_normal ?_
     refine then_normal (hK210 _ _ ?_)
     refine plStart ?_
     refine lk (v := .int .i64 8) rfl rfl rfl ?_
     refine lk (v := .int .i64 8) rfl rfl rfl ?_
     refine plD ?_
     refine then_normal (roundsNext ?_)
     have hm219 : Mem w w217 [.arr g2 25 (vwc v), .arr g5 27 (csc c_), .row (.slice (some ⟨b53, 0, none⟩) ((planR (costP c_) depth v).tiles.length) c29) 38 4 ((planR (costP c_) depth v).tiles.length) (tlsC (planR (costP c_) depth v).tiles), .arr g30 31 (plnC (.slice (some ⟨b53, 0, none⟩) ((planR (costP c_) depth v).tiles.length) c29) (planR (costP c_) depth v)), .arr g90 38 (tlc t), .row (.slice (some ⟨b113, 0, none⟩) 8 c112) 38 4 8 (tlsC (splitT t))] := (hm218.sub (.cons_cons _ (.cons_cons _ (.cons_cons _ (.cons_cons _ (.cons_cons _ (.cons_cons _ (.cons _ .slnil))))))))
     clear hm218
     refine wpPrune [(4, .pointer (some ⟨g2, 0, none⟩)), (5, .pointer (some ⟨g5, 0, none⟩)), (7, .pointer (some ⟨g30, 0, none⟩)), (10, .int .i64 ((planR (costP c_) depth v).cost)), (12, .int .i64 (max wst (err v t))), (16, .pointer (some ⟨g90, 0, none⟩)), (17, .int .i64 (err v t)), (18, .slice (some ⟨b113, 0, none⟩) 8 c112), (20, .int .i64 (((((((((-(costP c_ t)) + (costP c_ (child t 0))) + (costP c_ (child t 1))) + (costP c_ (child t 2))) + (costP c_ (child t 3))) + (costP c_ (child t 4))) + (costP c_ (child t 5))) + (costP c_ (child t 6))) + (costP c_ (child t 7)))), (22, .pointer (some ⟨g212, 0, none⟩)), (112, .slice (some ⟨b53, 0, none⟩) ((planR (costP c_) depth v).tiles.length) c29), (113, .int .i64 ((planR (costP c_) depth v).tiles.length : Int)), (114, .int .i64 (i : Int)), (115, .bool true), (116, .pointer (some ⟨b53, 0 + i * 4, none⟩)), (117, .agg (tlc t).toArray), (118, .agg (vwc v).toArray), (119, .agg (tlc t).toArray), (120, .int .i64 (err v t)), (121, .int .i64 wst), (122, .int .i64 (err v t)), (123, .int .i64 (max wst (err v t))), (124, .pointer (some ⟨g90, 0, none⟩)), (125, .int .i64 t.lv), (126, .bool false), (127, .bool false), (128, .int .i64 (err v t)), (129, .pointer (some ⟨g2, 4, none⟩)), (130, .int .i64 v.tol), (131, .bool false), (132, .bool false), (133, .bool false), (134, .pointer (some ⟨g30, 0, none⟩)), (135, .slice (some ⟨b53, 0, none⟩) ((planR (costP c_) depth v).tiles.length) c29), (136, .int .i64 ((planR (costP c_) depth v).tiles.length : Int)), (137, .int .i64 (((planR (costP c_) depth v).tiles.length : Int) + 7)), (138, .bool false), (139, .bool false), (140, .tuple #[.slice (some ⟨b113, 0, none⟩) 8 c112, .int .i64 0]), (141, .agg (tlc t).toArray), (142, .slice (some ⟨g105, 0, none⟩) 1 1), (143, .tuple #[.slice (some ⟨b113, 0, none⟩) 8 c112, .int .i64 0]), (144, .slice (some ⟨b113, 0, none⟩) 8 c112), (145, .int .i64 0), (146, .agg (csc c_).toArray), (147, .agg (tlc t).toArray), (148, .int .i64 (costP c_ t)), (149, .int .i64 (-(costP c_ t))), (150, .slice (some ⟨b113, 0, none⟩) 8 c112), (151, .int .i64 8), (152, .int .i64 8), (153, .bool true), (154, .pointer (some ⟨b113, 0 + 7 * 4, none⟩)), (155, .agg (tlc (child t 7)).toArray), (156, .int .i64 ((((((((-(costP c_ t)) + (costP c_ (child t 0))) + (costP c_ (child t 1))) + (costP c_ (child t 2))) + (costP c_ (child t 3))) + (costP c_ (child t 4))) + (costP c_ (child t 5))) + (costP c_ (child t 6)))), (157, .agg (csc c_).toArray), (158, .agg (tlc (child t 7)).toArray), (159, .int .i64 (costP c_ (child t 7))), (160, .int .i64 (((((((((-(costP c_ t)) + (costP c_ (child t 0))) + (costP c_ (child t 1))) + (costP c_ (child t 2))) + (costP c_ (child t 3))) + (costP c_ (child t 4))) + (costP c_ (child t 5))) + (costP c_ (child t 6))) + (costP c_ (child t 7)))), (161, .int .i64 8)] ⟨litGet (by kernel_rfl), ⟨litGet (by kernel_rfl), ⟨litGet (by kernel_rfl), ⟨litGet (by kernel_rfl), ⟨litGet (by kernel_rfl), ⟨litGet (by kernel_rfl), ⟨litGet (by kernel_rfl), ⟨litGet (by kernel_rfl), ⟨litGet (by kernel_rfl), ⟨litGet (by kernel_rfl), ⟨litGet (by kernel_rfl), ⟨litGet (by kernel_rfl), ⟨litGet (by kernel_rfl), ⟨litGet (by kernel_rfl), ⟨litGet (by kernel_rfl), ⟨litGet (by kernel_rfl), ⟨litGet (by kernel_rfl), ⟨litGet (by kernel_rfl), ⟨litGet (by kernel_rfl), ⟨litGet (by kernel_rfl), ⟨litGet (by kernel_rfl), ⟨litGet (by kernel_rfl), ⟨litGet (by kernel_rfl), ⟨litGet (by kernel_rfl), ⟨litGet (by kernel_rfl), ⟨litGet (by kernel_rfl), ⟨litGet (by kernel_rfl), ⟨litGet (by kernel_rfl), ⟨litGet (by kernel_rfl), ⟨litGet (by kernel_rfl), ⟨litGet (by kernel_rfl), ⟨litGet (by kernel_rfl), ⟨litGet (by kernel_rfl), ⟨litGet (by kernel_rfl), ⟨litGet (by kernel_rfl), ⟨litGet (by kernel_rfl), ⟨litGet (by kernel_rfl), ⟨litGet (by kernel_rfl), ⟨litGet (by kernel_rfl), ⟨litGet (by kernel_rfl), ⟨litGet (by kernel_rfl), ⟨litGet (by kernel_rfl), ⟨litGet (by kernel_rfl), ⟨litGet (by kernel_rfl), ⟨litGet (by kernel_rfl), ⟨litGet (by kernel_rfl), ⟨litGet (by kernel_rfl), ⟨litGet (by kernel_rfl), ⟨litGet (by kernel_rfl), ⟨litGet (by kernel_rfl), ⟨litGet (by kernel_rfl), ⟨litGet (by kernel_rfl), ⟨litGet (by kernel_rfl), ⟨litGet (by kernel_rfl), ⟨litGet (by kernel_rfl), ⟨litGet (by kernel_rfl), ⟨litGet (by kernel_rfl), ⟨litGet (by kernel_rfl), ⟨litGet (by kernel_rfl), ⟨litGet (by kernel_rfl), trivial⟩⟩⟩⟩⟩⟩⟩⟩⟩⟩⟩⟩⟩⟩⟩⟩⟩⟩⟩⟩⟩⟩⟩⟩⟩⟩⟩⟩⟩⟩⟩⟩⟩⟩⟩⟩⟩⟩⟩⟩⟩⟩⟩⟩⟩⟩⟩⟩⟩⟩⟩⟩⟩⟩⟩⟩⟩⟩⟩⟩ (fun X220 => ?_)
     refine wp_seq_k fun K221 hK221 => ?_
     refine plStart ?_
     refine lk (v := .bool false) rfl rfl rfl ?_
     refine plD ?_
     refine then_normal (hK221 _ _ ?_)
     refine wp_seq_k fun K222 hK222 => ?_
     refine wp_cond_false (litEv (by kernel_rfl)) ?_
     refine wp_exit ?_
     refine then_exit ?_
     refine then_exit ?_
     refine inBlock_exit ?_
     refine then_normal (hK117 _ _ ?_)
     refine wp_seq_k fun K223 hK223 => ?_
     refine plStart ?_
     refine lk (v := .int .i64 ((planR (costP c_) depth v).cost)) rfl rfl rfl ?_
     refine lk (v := .int .i64 (((((((((-(costP c_ t)) + (costP c_ (child t 0))) + (costP c_ (child t 1))) + (costP c_ (child t 2))) + (costP c_ (child t 3))) + (costP c_ (child t 4))) + (costP c_ (child t 5))) + (costP c_ (child t 6))) + (costP c_ (child t 7)))) rfl rfl rfl ?_
     refine litVal (v := .int .i64 (((planR (costP c_) depth v).cost) + (((((((((-(costP c_ t)) + (costP c_ (child t 0))) + (costP c_ (child t 1))) + (costP c_ (child t 2))) + (costP c_ (child t 3))) + (costP c_ (child t 4))) + (costP c_ (child t 5))) + (costP c_ (child t 6))) + (costP c_ (child t 7))))) rfl (wn rfl) (addRun (A := ((planR (costP c_) depth v).cost)) (B := (((((((((-(costP c_ t)) + (costP c_ (child t 0))) + (costP c_ (child t 1))) + (costP c_ (child t 2))) + (costP c_ (child t 3))) + (costP c_ (child t 4))) + (costP c_ (child t 5))) + (costP c_ (child t 6))) + (costP c_ (child t 7)))) (C := ((planR (costP c_) depth v).cost) + (((((((((-(costP c_ t)) + (costP c_ (child t 0))) + (costP c_ (child t 1))) + (costP c_ (child t 2))) + (costP c_ (child t 3))) + (costP c_ (child t 4))) + (costP c_ (child t 5))) + (costP c_ (child t 6))) + (costP c_ (child t 7)))) (.tmp 162) (.tmp 163) rfl (litEv (by kernel_rfl)) (litEv (by kernel_rfl)) rfl (by omega)) rfl (by decide) ?_
     refine lk (v := .pointer (some ⟨g2, 5, none⟩)) rfl rfl rfl ?_
     refine litVal (v := .int .i64 v.bud) rfl (wn rfl) (gLoad (v := .int .i64 v.bud) (k := 5) 0 hm219 rfl (by kernel_rfl) (.tmp 165) (by kernel_rfl) rfl (litEv (by kernel_rfl))) rfl (by decide) ?_
     refine litVal (v := .bool false) rfl (wn rfl) (boolTo (decide_eq_false (show ¬ (((planR (costP c_) depth v).cost) + (((((((((-(costP c_ t)) + (costP c_ (child t 0))) + (costP c_ (child t 1))) + (costP c_ (child t 2))) + (costP c_ (child t 3))) + (costP c_ (child t 4))) + (costP c_ (child t 5))) + (costP c_ (child t 6))) + (costP c_ (child t 7)))) ≤ v.bud by have h_ := planR_none hE_ (by omega) (List.mem_of_getElem? hkt); rw [more_eq] at h_; intro h2_; exact h_ ⟨by omega, by omega, by omega⟩)) (leqRun (A := (((planR (costP c_) depth v).cost) + (((((((((-(costP c_ t)) + (costP c_ (child t 0))) + (costP c_ (child t 1))) + (costP c_ (child t 2))) + (costP c_ (child t 3))) + (costP c_ (child t 4))) + (costP c_ (child t 5))) + (costP c_ (child t 6))) + (costP c_ (child t 7))))) (B := v.bud) (.tmp 164) (.tmp 166) rfl (litEv (by kernel_rfl)) (litEv (by kernel_rfl)))) rfl (by decide) ?_
     refine plD ?_
     refine then_normal (hK223 _ _ ?_)
     refine wp_cond_false (litEv (by kernel_rfl)) ?_
     refine wp_skip ?_
     refine inBlock_normal ?_
     refine then_normal (hK88 _ _ ?_)
     refine plStart ?_
     refine litVal (v := .int .i64 ((i : Int) + 1)) rfl (wn rfl) (addRun (A := (i : Int)) (B := 1) (C := (i : Int) + 1) (.tmp 114) (.const (.int .i64 1)) rfl (litEv (by kernel_rfl)) (litEv (by kernel_rfl)) rfl (by omega)) rfl (by decide) ?_
     refine lk (v := .int .i64 ((i : Int) + 1)) rfl rfl rfl ?_
     refine plD ?_
     refine then_normal ?_
     exact ⟨_, by omega, (i + 1), _, rfl, (by omega), (fold_next hkt hb2), ⟨litSize, rfl, ⟨litGet (by kernel_rfl), ⟨litGet (by kernel_rfl), ⟨litGet (by kernel_rfl), ⟨litGet (by kernel_rfl), ⟨litGet (by kernel_rfl), ⟨litGet (by kernel_rfl), ⟨litGet (by kernel_rfl), ⟨litGet (by kernel_rfl), trivial⟩⟩⟩⟩⟩⟩⟩⟩⟩, (hm219.sub (.cons_cons _ (.cons_cons _ (.cons_cons _ (.cons_cons _ (.cons _ (.cons _ .slnil)))))))⟩
   refine litVal (v := .bool false) rfl (wn rfl) (boolTo (decide_eq_false h86) (lssRun (A := (i : Int)) (B := ((planR (costP c_) depth v).tiles.length : Int)) (.tmp 114) (.tmp 113) rfl (litEv (by kernel_rfl)) (litEv (by kernel_rfl)))) rfl (by decide) ?_
   refine plD ?_
   refine then_normal (hK85 _ _ ?_)
   refine wp_seq_k fun K224 hK224 => ?_
   refine wp_cond_false (litEv (by kernel_rfl)) ?_
   refine wp_exit ?_
   refine then_exit ?_
   refine then_exit ?_
   refine inBlock_exit ?_
   refine then_normal (hK79 _ _ ?_)
   refine wp_seq_k fun K225 hK225 => ?_
   refine plStart ?_
   refine plCall (i := 0) 8 [] [] [] rfl (by kernel_rfl) (wn rfl) rfl (litEv (by kernel_rfl)) (litArgs (by kernel_rfl)) (sanity_any _) ?_
   rintro e w226 ⟨rfl, hbz⟩
   have hm227 := hm82.below hbz
   clear hbz hm82
   refine ⟨_, rfl, ?_⟩
   refine qP rfl ?_
   refine lk (v := .bool true) rfl rfl rfl ?_
   refine litVal (v := .int .i64 wst) rfl (wgY rfl rfl rfl (by decide) (by kernel_rfl)) (litRun (by kernel_rfl)) rfl (by decide) ?_
   refine litVal (v := .pointer (some ⟨g30, 3, none⟩)) rfl (wgY rfl rfl rfl (by decide) (by kernel_rfl)) (litRun (by kernel_rfl)) rfl (by decide) ?_
   refine litVal (v := .int .i64 ((planR (costP c_) depth v).worst)) rfl (wgY rfl rfl rfl (by decide) (by kernel_rfl)) (gLoad (v := .int .i64 ((planR (costP c_) depth v).worst)) (k := 3) 3 hm227 rfl (by kernel_rfl) (.tmp 172) (by kernel_rfl) rfl (litEv (by kernel_rfl))) rfl (by decide) ?_
   refine litVal (v := .bool true) rfl (wgY rfl rfl rfl (by decide) (by kernel_rfl)) (boolTo (decide_eq_true (show wst = (planR (costP c_) depth v).worst by rw [List.drop_of_length_le (by omega)] at hb2; rw [(planR_bound hE_).2]; exact hb2)) (eqlRun (A := wst) (B := ((planR (costP c_) depth v).worst)) (.tmp 171) (.tmp 173) rfl (litEv (by kernel_rfl)) (litEv (by kernel_rfl)))) rfl (by decide) ?_
   refine lk (v := .bool true) rfl rfl rfl ?_
   refine lk (v := .bool true) rfl rfl rfl ?_
   refine plD ?_
   refine then_normal (hK225 _ _ ?_)
   refine wpPrune [(6, .bool true)] ⟨litGet (by kernel_rfl), trivial⟩ (fun X228 => ?_)
   refine wp_ret ?_
   refine bodyPost_ret (v := .bool true) (gRes1 rfl (gResTmp (t := 6) (v := .bool true) (litGet (by kernel_rfl)))) rfl ?_
   exact ⟨rfl, hm227.bel⟩
 refine litVal (v := .bool true) rfl (wgY rfl rfl rfl (by decide) (by kernel_rfl)) (boolTo (by rw [decide_eq_false h22]; rfl) (neqRun (A := (ckV v)) (B := 0) (.tmp 31) (.const (.int .i64 0)) rfl (litEv (by kernel_rfl)) (litEv (by kernel_rfl)))) rfl (by decide) ?_
 refine lk (v := .bool true) rfl rfl rfl ?_
 refine plD ?_
 refine then_normal (hK9 _ _ ?_)
 refine wp_cond_true (litEv (by kernel_rfl)) ?_
 refine wp_seq_k fun K229 hK229 => ?_
 refine plStart ?_
 refine plCall (i := 0) 8 [] [] [] rfl (by kernel_rfl) (wn rfl) rfl (litEv (by kernel_rfl)) (litArgs (by kernel_rfl)) (sanity_any _) ?_
 rintro e w230 ⟨rfl, hbz⟩
 have hm231 := hm21.below hbz
 clear hbz hm21
 refine ⟨_, rfl, ?_⟩
 refine qP rfl ?_
 refine lk (v := .bool true) rfl rfl rfl ?_
 refine plD ?_
 refine then_normal (hK229 _ _ ?_)
 refine wpPrune [(0, .int .i64 depth), (4, .pointer (some ⟨g2, 0, none⟩)), (5, .pointer (some ⟨g5, 0, none⟩)), (6, .bool true)] ⟨litGet (by kernel_rfl), ⟨litGet (by kernel_rfl), ⟨litGet (by kernel_rfl), ⟨litGet (by kernel_rfl), trivial⟩⟩⟩⟩ (fun X232 => ?_)
 refine wp_ret ?_
 refine then_ret ?_
 refine bodyPost_ret (v := .bool true) (gRes1 rfl (gResTmp (t := 6) (v := .bool true) (litGet (by kernel_rfl)))) rfl ?_
 exact ⟨rfl, hm231.bel⟩
end Go.Proofs.Ytkmhjgdpkddbnaa
