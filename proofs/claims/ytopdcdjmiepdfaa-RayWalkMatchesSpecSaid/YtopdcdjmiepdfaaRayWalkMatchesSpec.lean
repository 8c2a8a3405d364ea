/-
  RayWalkMatchesSpec: Walk and Crosses return what the specification defines.
-/
import Derived.Test.YtopdcdjmiepdfaaRH
namespace Go.Proofs.Ytopdcdjmiepdfaa
open Go.RowKit
set_option linter.unusedVariables false
set_option linter.unusedSimpArgs false

set_option maxRecDepth 100000 in
set_option maxHeartbeats 4000000 in
theorem walk_RayWalkMatchesSpec (a b c : Pt) (w : World) (_b0_x : -9223372036854775808 ≤ a.x ∧ a.x ≤ 9223372036854775807) (_b0_y : -9223372036854775808 ≤ a.y ∧ a.y ≤ 9223372036854775807) (_b0_z : -9223372036854775808 ≤ a.z ∧ a.z ≤ 9223372036854775807) (_b1_x : -9223372036854775808 ≤ b.x ∧ b.x ≤ 9223372036854775807) (_b1_y : -9223372036854775808 ≤ b.y ∧ b.y ≤ 9223372036854775807) (_b1_z : -9223372036854775808 ≤ b.z ∧ b.z ≤ 9223372036854775807) (_b2_x : -9223372036854775808 ≤ c.x ∧ c.x ≤ 9223372036854775807) (_b2_y : -9223372036854775808 ≤ c.y ∧ c.y ≤ 9223372036854775807) (_b2_z : -9223372036854775808 ≤ c.z ∧ c.z ≤ 9223372036854775807) : Calls Try.prog 3 #[.agg (pcs a).toArray, .agg (pcs b).toArray, .agg (pcs c).toArray] w (RetB w true) := by
  have hm0 := Mem.nil w
  go_enter Try.func3, Try.ntmps3
  refine litStart 54 [(0, .agg (pcs a).toArray), (1, .agg (pcs b).toArray), (2, .agg (pcs c).toArray)] (by kernel_rfl) (fun X0 => ?_)
  refine wp_seq_k fun K1 hK1 => ?_
  refine plStart ?_
  refine plBox hm0 (cs := pcs a) (i := 0) rfl (wn rfl) rfl (litEv (by kernel_rfl)) ?_
  intro g2 w4 hm3
  clear hm0
  try simp only [List.cons_append, List.nil_append, List.set_cons_succ, List.set_cons_zero] at hm3
  refine qPut rfl (by decide) ?_
  refine plBox hm3 (cs := pcs b) (i := 1) rfl (wn rfl) rfl (litEv (by kernel_rfl)) ?_
  intro g5 w7 hm6
  clear hm3
  try simp only [List.cons_append, List.nil_append, List.set_cons_succ, List.set_cons_zero] at hm6
  refine qPut rfl (by decide) ?_
  refine plBox hm6 (cs := pcs c) (i := 2) rfl (wn rfl) rfl (litEv (by kernel_rfl)) ?_
  intro g8 w10 hm9
  clear hm6
  try simp only [List.cons_append, List.nil_append, List.set_cons_succ, List.set_cons_zero] at hm9
  refine qPut rfl (by decide) ?_
  refine litK (v := .bool false) rfl rfl (by kernel_rfl) rfl (by decide) ?_
  refine plDone (by decide) ?_
  refine then_normal (hK1 _ _ ?_)
  refine wp_seq_k fun K11 hK11 => ?_
  refine plStart ?_
  refine plCall (i := 0) 8 [] [] [] rfl (by kernel_rfl) (wn rfl) rfl (litEv (by kernel_rfl)) (litArgs (by kernel_rfl)) (sanity_any _) ?_
  rintro e w12 ⟨rfl, hbz⟩
  have hm13 := hm9.below hbz
  clear hbz hm9
  refine ⟨_, rfl, ?_⟩
  refine qPut rfl (by decide) ?_
  refine litK (v := .bool true) rfl rfl (by kernel_rfl) rfl (by decide) ?_
  refine plDone (by decide) ?_
  refine then_normal (hK11 _ _ ?_)
  refine wp_seq_k fun K14 hK14 => ?_
  refine wp_seq_k fun K15 hK15 => ?_
  refine plStart ?_
  refine litVal (v := .agg (pcs a).toArray) rfl (wn rfl) (gLoadAg (vs := pcs a) (k := 0) 0 hm13 rfl (by kernel_rfl) (by kernel_rfl) (.tmp 3) Ty.ag_voxel_api_Point rfl (litEv (by kernel_rfl))) rfl (by decide) ?_
  refine litVal (v := .agg (pcs b).toArray) rfl (wn rfl) (gLoadAg (vs := pcs b) (k := 0) 1 hm13 rfl (by kernel_rfl) (by kernel_rfl) (.tmp 4) Ty.ag_voxel_api_Point rfl (litEv (by kernel_rfl))) rfl (by decide) ?_
  refine plCall (i := 2) 9 [.agg (pcs a).toArray, .agg (pcs b).toArray] [] [] rfl (by kernel_rfl) (wn rfl) rfl (litEv (by kernel_rfl)) (litArgs (by kernel_rfl)) (short_any a b _) ?_
  rintro e w16 ⟨rfl, hbz⟩
  have hm17 := hm13.below hbz
  clear hbz hm13
  refine ⟨_, rfl, ?_⟩
  refine qPut rfl (by decide) ?_
  rcases bool_or (decide (ckE a b = 0 → a.dist b ≤ 12)) with h18 | h18
  · rw [h18]
    refine litK (v := .bool true) rfl rfl (by kernel_rfl) rfl (by decide) ?_
    refine plDone (by decide) ?_
    refine then_normal (hK15 _ _ ?_)
    refine wp_cond_true (litEv (by kernel_rfl)) ?_
    refine wp_seq_k fun K19 hK19 => ?_
    refine plStart ?_
    refine litK (v := .bool true) rfl rfl (by kernel_rfl) rfl (by decide) ?_
    refine litK (v := .bool true) rfl rfl (by kernel_rfl) rfl (by decide) ?_
    refine plDone (by decide) ?_
    refine then_normal (hK19 _ _ ?_)
    refine wp_ret ?_
    refine then_ret ?_
    refine bodyPost_ret (v := .bool true) (gRes1 rfl (gResTmp (t := 6) (v := .bool true) (litGet (by kernel_rfl)))) rfl ?_
    exact ⟨rfl, hm17.bel⟩
  rw [h18]
  refine litK (v := .bool false) rfl rfl (by kernel_rfl) rfl (by decide) ?_
  refine plDone (by decide) ?_
  refine then_normal (hK15 _ _ ?_)
  refine wp_cond_false (litEv (by kernel_rfl)) ?_
  refine wp_skip ?_
  refine then_normal (hK14 _ _ ?_)
  refine wp_seq_k fun K20 hK20 => ?_
  refine plStart ?_
  refine litVal (v := .agg (pcs a).toArray) rfl (wn rfl) (gLoadAg (vs := pcs a) (k := 0) 0 hm17 rfl (by kernel_rfl) (by kernel_rfl) (.tmp 3) Ty.ag_voxel_api_Point rfl (litEv (by kernel_rfl))) rfl (by decide) ?_
  refine litVal (v := .agg (pcs b).toArray) rfl (wn rfl) (gLoadAg (vs := pcs b) (k := 0) 1 hm17 rfl (by kernel_rfl) (by kernel_rfl) (.tmp 4) Ty.ag_voxel_api_Point rfl (litEv (by kernel_rfl))) rfl (by decide) ?_
  refine plCall (i := 2) 10 [.agg (pcs a).toArray, .agg (pcs b).toArray] [] [] rfl (by kernel_rfl) (wn rfl) rfl (litEv (by kernel_rfl)) (litArgs (by kernel_rfl)) (walk_any a b _) ?_
  rintro e w21 ⟨v23, rfl, hown_, hbz⟩
  obtain ⟨A24, c25, rfl, hrd_⟩ := Rd.of_own hown_
  clear hrd_
  have hm22 := hm17.newRow hbz hown_
  clear hown_ hbz hm17
  try simp only [List.cons_append, List.nil_append, List.set_cons_succ, List.set_cons_zero] at hm22
  refine ⟨_, rfl, ?_⟩
  refine qPut rfl (by decide) ?_
  refine litK (v := .tuple #[.slice A24 ((walkR a b).length) c25, .int .i64 (ckE a b)]) rfl rfl (by kernel_rfl) rfl (by decide) ?_
  refine litK (v := .slice A24 ((walkR a b).length) c25) rfl rfl (by kernel_rfl) rfl (by decide) ?_
  refine litK (v := .int .i64 (ckE a b)) rfl rfl (by kernel_rfl) rfl (by decide) ?_
  refine litK (v := .slice A24 ((walkR a b).length) c25) rfl rfl (by kernel_rfl) rfl (by decide) ?_
  refine litK (v := .int .i64 (ckE a b)) rfl rfl (by kernel_rfl) rfl (by decide) ?_
  refine plDone (by decide) ?_
  refine then_normal (hK20 _ _ ?_)
  refine wpPrune [(3, .pointer (some ⟨g2, 0, none⟩)), (4, .pointer (some ⟨g5, 0, none⟩)), (5, .pointer (some ⟨g8, 0, none⟩)), (6, .bool false), (7, .bool true), (8, .slice A24 ((walkR a b).length) c25), (9, .int .i64 (ckE a b))] ⟨litGet (by kernel_rfl), ⟨litGet (by kernel_rfl), ⟨litGet (by kernel_rfl), ⟨litGet (by kernel_rfl), ⟨litGet (by kernel_rfl), ⟨litGet (by kernel_rfl), ⟨litGet (by kernel_rfl), trivial⟩⟩⟩⟩⟩⟩⟩ (fun X26 => ?_)
  refine wp_seq_k fun K27 hK27 => ?_
  refine plStart ?_
  refine litVal (v := .agg (pcs a).toArray) rfl (wn rfl) (gLoadAg (vs := pcs a) (k := 0) 0 hm22 rfl (by kernel_rfl) (by kernel_rfl) (.tmp 3) Ty.ag_voxel_api_Point rfl (litEv (by kernel_rfl))) rfl (by decide) ?_
  refine litVal (v := .agg (pcs b).toArray) rfl (wn rfl) (gLoadAg (vs := pcs b) (k := 0) 1 hm22 rfl (by kernel_rfl) (by kernel_rfl) (.tmp 4) Ty.ag_voxel_api_Point rfl (litEv (by kernel_rfl))) rfl (by decide) ?_
  refine plCall (i := 2) 11 [.agg (pcs a).toArray, .agg (pcs b).toArray] [] [] rfl (by kernel_rfl) (wn rfl) rfl (litEv (by kernel_rfl)) (litArgs (by kernel_rfl)) (refWalk_any a b (of_decide_eq_true h18) _) ?_
  rintro e w28 ⟨v30, rfl, hown_, hbz⟩
  obtain ⟨A31, c32, rfl, hrd_⟩ := Rd.of_own hown_
  clear hrd_
  have hm29 := hm22.newRow hbz hown_
  clear hown_ hbz hm22
  try simp only [List.cons_append, List.nil_append, List.set_cons_succ, List.set_cons_zero] at hm29
  refine ⟨_, rfl, ?_⟩
  refine qPut rfl (by decide) ?_
  refine litK (v := .tuple #[.slice A31 ((walkR a b).length) c32, .int .i64 (ckE a b)]) rfl rfl (by kernel_rfl) rfl (by decide) ?_
  refine litK (v := .slice A31 ((walkR a b).length) c32) rfl rfl (by kernel_rfl) rfl (by decide) ?_
  refine litK (v := .int .i64 (ckE a b)) rfl rfl (by kernel_rfl) rfl (by decide) ?_
  refine litK (v := .slice A31 ((walkR a b).length) c32) rfl rfl (by kernel_rfl) rfl (by decide) ?_
  refine litK (v := .int .i64 (ckE a b)) rfl rfl (by kernel_rfl) rfl (by decide) ?_
  refine plDone (by decide) ?_
  refine then_normal (hK27 _ _ ?_)
  refine wp_seq_k fun K33 hK33 => ?_
  refine plStart ?_
  refine litK (v := .slice A24 ((walkR a b).length) c25) rfl rfl (by kernel_rfl) rfl (by decide) ?_
  refine litK (v := .slice A31 ((walkR a b).length) c32) rfl rfl (by kernel_rfl) rfl (by decide) ?_
  refine plCall (i := 2) 12 [.slice A24 ((walkR a b).length) c25, .slice A31 ((walkR a b).length) c32] [] [] rfl (by kernel_rfl) (wn rfl) rfl (litEv (by kernel_rfl)) (litArgs (by kernel_rfl)) (callsTo (congrArg Value.bool (decide_eq_true rfl)) (same_any (walkR a b) (walkR a b) (A24) (A31) c25 c32 _ (hm29.rdRow 3 rfl) (hm29.rdRow 4 rfl))) ?_
  rintro e w34 ⟨rfl, hbz⟩
  have hm35 := hm29.below hbz
  clear hbz hm29
  refine ⟨_, rfl, ?_⟩
  refine qPut rfl (by decide) ?_
  refine litK (v := .bool true) rfl rfl (by kernel_rfl) rfl (by decide) ?_
  refine plDone (by decide) ?_
  refine then_normal (hK33 _ _ ?_)
  refine wp_seq_k fun K36 hK36 => ?_
  refine mgStart hm35 (by kernel_rfl) ?_
  intro w38 hm37
  clear hm35
  refine mgK (i := 0) (v := .bool true) rfl (by kernel_rfl) rfl (fun _ _ _ h => h) hm37 (fun _ => by kernel_rfl) rfl (by decide) ?_
  refine mgK (i := 1) (v := .bool true) rfl (by kernel_rfl) rfl (fun _ _ _ h => h) hm37 (fun _ => by kernel_rfl) rfl (by decide) ?_
  refine mgTake (i := 2) (v := .bool true) rfl (by kernel_rfl) (wgY rfl rfl rfl (by decide) (by kernel_rfl)) (fun _ _ _ h => h) hm37 (fun w_ h_ => litRun (by kernel_rfl)) ?_
  refine mPut rfl (by decide) ?_
  refine mgK (i := 3) (v := .bool true) rfl (by kernel_rfl) rfl (fun _ _ _ h => h) hm37 (fun _ => by kernel_rfl) rfl (by decide) ?_
  refine mgK (i := 4) (v := .bool true) rfl (by kernel_rfl) rfl (fun _ _ _ h => h) hm37 (fun _ => by kernel_rfl) rfl (by decide) ?_
  refine mgTake (i := 5) (v := .int .i64 (ckE a b)) rfl (by kernel_rfl) (wgY rfl rfl rfl (by decide) (by kernel_rfl)) (fun _ _ _ h => h) hm37 (fun w_ h_ => litRun (by kernel_rfl)) ?_
  refine mPut rfl (by decide) ?_
  refine mgTake (i := 6) (v := .int .i64 (ckE a b)) rfl (by kernel_rfl) (wgY rfl rfl rfl (by decide) (by kernel_rfl)) (fun _ _ _ h => h) hm37 (fun w_ h_ => litRun (by kernel_rfl)) ?_
  refine mPut rfl (by decide) ?_
  refine mgTake (i := 7) (v := .bool true) rfl (by kernel_rfl) (wgY rfl rfl rfl (by decide) (by kernel_rfl)) (fun _ _ _ h => h) hm37 (fun w_ h_ => boolTo (by simp) (eqlRun (A := (ckE a b)) (B := (ckE a b)) (.tmp 39) (.tmp 40) rfl (litEv (by kernel_rfl)) (litEv (by kernel_rfl)))) ?_
  refine mPut rfl (by decide) ?_
  refine mgK (i := 8) (v := .bool true) rfl (by kernel_rfl) rfl (fun _ _ _ h => h) hm37 (fun _ => by kernel_rfl) rfl (by decide) ?_
  refine mgK (i := 9) (v := .bool true) rfl (by kernel_rfl) rfl (fun _ _ _ h => h) hm37 (fun _ => by kernel_rfl) rfl (by decide) ?_
  refine mgTake (i := 10) (v := .agg (pcs a).toArray) rfl (by kernel_rfl) (wgY rfl rfl rfl (by decide) (by kernel_rfl)) (fun _ _ _ h => h) hm37 (fun w_ h_ => gLoadAg (vs := pcs a) (k := 0) 0 h_ rfl (by kernel_rfl) (by kernel_rfl) (.tmp 3) Ty.ag_voxel_api_Point rfl (litEv (by kernel_rfl))) ?_
  refine mPut rfl (by decide) ?_
  refine mgTake (i := 11) (v := .agg (pcs b).toArray) rfl (by kernel_rfl) (wgY rfl rfl rfl (by decide) (by kernel_rfl)) (fun _ _ _ h => h) hm37 (fun w_ h_ => gLoadAg (vs := pcs b) (k := 0) 1 h_ rfl (by kernel_rfl) (by kernel_rfl) (.tmp 4) Ty.ag_voxel_api_Point rfl (litEv (by kernel_rfl))) ?_
  refine mPut rfl (by decide) ?_
  refine mgTake (i := 12) (v := .agg (pcs c).toArray) rfl (by kernel_rfl) (wgY rfl rfl rfl (by decide) (by kernel_rfl)) (fun _ _ _ h => h) hm37 (fun w_ h_ => gLoadAg (vs := pcs c) (k := 0) 2 h_ rfl (by kernel_rfl) (by kernel_rfl) (.tmp 5) Ty.ag_voxel_api_Point rfl (litEv (by kernel_rfl))) ?_
  refine mPut rfl (by decide) ?_
  refine mgTake (i := 14) (v := .agg (pcs a).toArray) rfl (by kernel_rfl) (wgY rfl rfl rfl (by decide) (by kernel_rfl)) (fun _ _ _ h => h) hm37 (fun w_ h_ => gLoadAg (vs := pcs a) (k := 0) 0 h_ rfl (by kernel_rfl) (by kernel_rfl) (.tmp 3) Ty.ag_voxel_api_Point rfl (litEv (by kernel_rfl))) ?_
  refine mPut rfl (by decide) ?_
  refine mgTake (i := 15) (v := .agg (pcs b).toArray) rfl (by kernel_rfl) (wgY rfl rfl rfl (by decide) (by kernel_rfl)) (fun _ _ _ h => h) hm37 (fun w_ h_ => gLoadAg (vs := pcs b) (k := 0) 1 h_ rfl (by kernel_rfl) (by kernel_rfl) (.tmp 4) Ty.ag_voxel_api_Point rfl (litEv (by kernel_rfl))) ?_
  refine mPut rfl (by decide) ?_
  refine mgTake (i := 16) (v := .agg (pcs c).toArray) rfl (by kernel_rfl) (wgY rfl rfl rfl (by decide) (by kernel_rfl)) (fun _ _ _ h => h) hm37 (fun w_ h_ => gLoadAg (vs := pcs c) (k := 0) 2 h_ rfl (by kernel_rfl) (by kernel_rfl) (.tmp 5) Ty.ag_voxel_api_Point rfl (litEv (by kernel_rfl))) ?_
  refine mPut rfl (by decide) ?_
  refine mgCall (i := 13) 13 [.agg (pcs a).toArray, .agg (pcs b).toArray, .agg (pcs c).toArray] [] [] (by kernel_rfl) rfl (by kernel_rfl) (wgY rfl rfl rfl (by decide) (by kernel_rfl)) rfl (litEv (by kernel_rfl)) (litArgs (by kernel_rfl)) (crosses_any a b c _) ?_
  rintro e w39 ⟨rfl, hbz⟩
  have hm40 := hm37.below hbz
  clear hbz hm37
  refine ⟨_, rfl, hm40, ?_⟩
  refine mPut rfl (by decide) ?_
  rcases bool_or ((decide (a.rng ∧ b.rng ∧ c.rng) && crossR a b c)) with h41 | h41
  · rw [h41]
    refine mgCall (i := 17) 14 [.agg (pcs a).toArray, .agg (pcs b).toArray, .agg (pcs c).toArray] [] [] (by kernel_rfl) rfl (by kernel_rfl) (wgY rfl rfl rfl (by decide) (by kernel_rfl)) rfl (litEv (by kernel_rfl)) (litArgs (by kernel_rfl)) (callsTo (congrArg (fun x_ => Value.bool (_ && x_)) (crossR_eq a b c).symm) (refCrosses_any a b c _)) ?_
    rintro e w42 ⟨rfl, hbz⟩
    have hm43 := hm40.below hbz
    clear hbz hm40
    rw [h41]
    refine ⟨_, rfl, hm43, ?_⟩
    refine mPut rfl (by decide) ?_
    refine mgTake (i := 18) (v := .bool true) rfl (by kernel_rfl) (wgY rfl rfl rfl (by decide) (by kernel_rfl)) (fun _ _ _ h => h) hm43 (fun w_ h_ => litRun (by kernel_rfl)) ?_
    refine mPut rfl (by decide) ?_
    refine mgK (i := 19) (v := .bool true) rfl (by kernel_rfl) rfl (fun _ _ _ h => h) hm43 (fun _ => by kernel_rfl) rfl (by decide) ?_
    refine mgK (i := 20) (v := .bool true) rfl (by kernel_rfl) rfl (fun _ _ _ h => h) hm43 (fun _ => by kernel_rfl) rfl (by decide) ?_
    refine mgDone (by kernel_rfl) ?_
    refine then_normal (hK36 _ _ ?_)
    refine wpPrune [(6, .bool true)] ⟨litGet (by kernel_rfl), trivial⟩ (fun X44 => ?_)
    refine wp_ret ?_
    refine bodyPost_ret (v := .bool true) (gRes1 rfl (gResTmp (t := 6) (v := .bool true) (litGet (by kernel_rfl)))) rfl ?_
    exact ⟨rfl, hm43.bel⟩
  rw [h41]
  refine mgCall (i := 17) 14 [.agg (pcs a).toArray, .agg (pcs b).toArray, .agg (pcs c).toArray] [] [] (by kernel_rfl) rfl (by kernel_rfl) (wgY rfl rfl rfl (by decide) (by kernel_rfl)) rfl (litEv (by kernel_rfl)) (litArgs (by kernel_rfl)) (callsTo (congrArg (fun x_ => Value.bool (_ && x_)) (crossR_eq a b c).symm) (refCrosses_any a b c _)) ?_
  rintro e w45 ⟨rfl, hbz⟩
  have hm46 := hm40.below hbz
  clear hbz hm40
  rw [h41]
  refine ⟨_, rfl, hm46, ?_⟩
  refine mPut rfl (by decide) ?_
  refine mgTake (i := 18) (v := .bool true) rfl (by kernel_rfl) (wgY rfl rfl rfl (by decide) (by kernel_rfl)) (fun _ _ _ h => h) hm46 (fun w_ h_ => litRun (by kernel_rfl)) ?_
  refine mPut rfl (by decide) ?_
  refine mgK (i := 19) (v := .bool true) rfl (by kernel_rfl) rfl (fun _ _ _ h => h) hm46 (fun _ => by kernel_rfl) rfl (by decide) ?_
  refine mgK (i := 20) (v := .bool true) rfl (by kernel_rfl) rfl (fun _ _ _ h => h) hm46 (fun _ => by kernel_rfl) rfl (by decide) ?_
  refine mgDone (by kernel_rfl) ?_
  refine then_normal (hK36 _ _ ?_)
  refine wpPrune [(6, .bool true)] ⟨litGet (by kernel_rfl), trivial⟩ (fun X47 => ?_)
  refine wp_ret ?_
  refine bodyPost_ret (v := .bool true) (gRes1 rfl (gResTmp (t := 6) (v := .bool true) (litGet (by kernel_rfl)))) rfl ?_
  exact ⟨rfl, hm46.bel⟩
end Go.Proofs.Ytopdcdjmiepdfaa
