/-
  MortonBoxesMatchSpec: Cubes, Runs and Next return what the specification returns.
-/
import Derived.Test.YtkfijpghjjnpkaaOE
namespace Go.Proofs.Ytkfijpghjjnpkaa
open Go.RowKit
set_option linter.unusedVariables false
set_option linter.unusedSimpArgs false

set_option maxRecDepth 100000 in
set_option maxHeartbeats 4000000 in
theorem walk_MortonBoxesMatchSpec (b : Bx) (n : Int) (w : World) (_b0 : -9223372036854775808 ≤ b.mn.x ∧ b.mn.x ≤ 9223372036854775807) (_b1 : -9223372036854775808 ≤ b.mn.y ∧ b.mn.y ≤ 9223372036854775807) (_b2 : -9223372036854775808 ≤ b.mn.z ∧ b.mn.z ≤ 9223372036854775807) (_b3 : -9223372036854775808 ≤ b.mx.x ∧ b.mx.x ≤ 9223372036854775807) (_b4 : -9223372036854775808 ≤ b.mx.y ∧ b.mx.y ≤ 9223372036854775807) (_b5 : -9223372036854775808 ≤ b.mx.z ∧ b.mx.z ≤ 9223372036854775807) (_b6 : -9223372036854775808 ≤ n ∧ n ≤ 9223372036854775807) : Calls Try.prog 4 #[.agg (bxs b).toArray, .int .i64 n] w (RetB w true) := by
  have hm0 := Mem.nil w
  go_enter Try.func4, Try.ntmps4
  refine wp_seq_k fun K1 hK1 => ?_
  refine plStart ?_
  refine plBox hm0 (cs := bxs b) (i := 0) rfl (by kernel_rfl) rfl (by kernel_rfl) ?_
  intro g2 w4 hm3
  clear hm0
  simp only [List.cons_append, List.nil_append, List.set_cons_succ, List.set_cons_zero] at hm3
  simp only [Act.put, List.setIfInBounds_toArray, List.set_cons_succ, List.set_cons_zero]
  refine plVal (i := 1) (v := .bool false) rfl (by kernel_rfl) (by kernel_rfl) ?_
  refine plDone (by decide) ?_
  simp only [Act.put, List.setIfInBounds_toArray, List.set_cons_succ, List.set_cons_zero]
  refine then_normal (hK1 _ _ ?_)
  refine wp_seq_k fun K5 hK5 => ?_
  refine plStart ?_
  refine plVal (i := 0) (v := .agg (bxs b).toArray) rfl (by kernel_rfl) (gLoadAg (vs := bxs b) (k := 0) 0 hm3 rfl (by kernel_rfl) (by kernel_rfl) (.tmp 2) Ty.ag_voxel_api_Box rfl (by kernel_rfl)) ?_
  simp only [Act.put, List.setIfInBounds_toArray, List.set_cons_succ, List.set_cons_zero]
  refine plCall (i := 1) 22 [.agg (bxs b).toArray] [] [] rfl (by kernel_rfl) (by kernel_rfl) rfl (by kernel_rfl) (by kernel_rfl) (cubes_any b _) ?_
  rintro e w6 ⟨v, rfl, hown, hbz⟩
  obtain ⟨A8, c9, rfl, hrd⟩ := Rd.of_own hown
  clear hrd
  have hm7 := hm3.newRow hbz hown
  clear hown hbz hm3
  simp only [List.cons_append, List.nil_append, List.set_cons_succ, List.set_cons_zero] at hm7
  refine ⟨_, rfl, ?_⟩
  simp only [Act.put, List.setIfInBounds_toArray, List.set_cons_succ, List.set_cons_zero]
  refine plVal (i := 2) (v := .tuple #[.slice A8 ((mCubes b).1.length) c9, .int .i64 ((mCubes b).2)]) rfl (by kernel_rfl) (by kernel_rfl) ?_
  simp only [Act.put, List.setIfInBounds_toArray, List.set_cons_succ, List.set_cons_zero]
  refine plVal (i := 3) (v := .slice A8 ((mCubes b).1.length) c9) rfl (by kernel_rfl) (by kernel_rfl) ?_
  simp only [Act.put, List.setIfInBounds_toArray, List.set_cons_succ, List.set_cons_zero]
  refine plVal (i := 4) (v := .int .i64 ((mCubes b).2)) rfl (by kernel_rfl) (by kernel_rfl) ?_
  simp only [Act.put, List.setIfInBounds_toArray, List.set_cons_succ, List.set_cons_zero]
  refine plVal (i := 5) (v := .slice A8 ((mCubes b).1.length) c9) rfl (by kernel_rfl) (by kernel_rfl) ?_
  simp only [Act.put, List.setIfInBounds_toArray, List.set_cons_succ, List.set_cons_zero]
  refine plVal (i := 6) (v := .int .i64 ((mCubes b).2)) rfl (by kernel_rfl) (by kernel_rfl) ?_
  refine plDone (by decide) ?_
  simp only [Act.put, List.setIfInBounds_toArray, List.set_cons_succ, List.set_cons_zero]
  refine then_normal (hK5 _ _ ?_)
  refine wp_seq_k fun K10 hK10 => ?_
  refine plStart ?_
  refine plVal (i := 0) (v := .agg (bxs b).toArray) rfl (by kernel_rfl) (gLoadAg (vs := bxs b) (k := 0) 0 hm7 rfl (by kernel_rfl) (by kernel_rfl) (.tmp 2) Ty.ag_voxel_api_Box rfl (by kernel_rfl)) ?_
  simp only [Act.put, List.setIfInBounds_toArray, List.set_cons_succ, List.set_cons_zero]
  refine plCall (i := 1) 23 [.agg (bxs b).toArray] [] [] rfl (by kernel_rfl) (by kernel_rfl) rfl (by kernel_rfl) (by kernel_rfl) (refCubes_any b _) ?_
  rintro e w11 ⟨v, rfl, hown, hbz⟩
  obtain ⟨A13, c14, rfl, hrd⟩ := Rd.of_own hown
  clear hrd
  have hm12 := hm7.newRow hbz hown
  clear hown hbz hm7
  simp only [List.cons_append, List.nil_append, List.set_cons_succ, List.set_cons_zero] at hm12
  refine ⟨_, rfl, ?_⟩
  simp only [Act.put, List.setIfInBounds_toArray, List.set_cons_succ, List.set_cons_zero]
  refine plVal (i := 2) (v := .tuple #[.slice A13 ((mCubes b).1.length) c14, .int .i64 ((mCubes b).2)]) rfl (by kernel_rfl) (by kernel_rfl) ?_
  simp only [Act.put, List.setIfInBounds_toArray, List.set_cons_succ, List.set_cons_zero]
  refine plVal (i := 3) (v := .slice A13 ((mCubes b).1.length) c14) rfl (by kernel_rfl) (by kernel_rfl) ?_
  simp only [Act.put, List.setIfInBounds_toArray, List.set_cons_succ, List.set_cons_zero]
  refine plVal (i := 4) (v := .int .i64 ((mCubes b).2)) rfl (by kernel_rfl) (by kernel_rfl) ?_
  simp only [Act.put, List.setIfInBounds_toArray, List.set_cons_succ, List.set_cons_zero]
  refine plVal (i := 5) (v := .slice A13 ((mCubes b).1.length) c14) rfl (by kernel_rfl) (by kernel_rfl) ?_
  simp only [Act.put, List.setIfInBounds_toArray, List.set_cons_succ, List.set_cons_zero]
  refine plVal (i := 6) (v := .int .i64 ((mCubes b).2)) rfl (by kernel_rfl) (by kernel_rfl) ?_
  refine plDone (by decide) ?_
  simp only [Act.put, List.setIfInBounds_toArray, List.set_cons_succ, List.set_cons_zero]
  refine then_normal (hK10 _ _ ?_)
  refine wp_seq_k fun K15 hK15 => ?_
  refine plStart ?_
  refine plVal (i := 0) (v := .agg (bxs b).toArray) rfl (by kernel_rfl) (gLoadAg (vs := bxs b) (k := 0) 0 hm12 rfl (by kernel_rfl) (by kernel_rfl) (.tmp 2) Ty.ag_voxel_api_Box rfl (by kernel_rfl)) ?_
  simp only [Act.put, List.setIfInBounds_toArray, List.set_cons_succ, List.set_cons_zero]
  refine plCall (i := 1) 24 [.agg (bxs b).toArray] [] [] rfl (by kernel_rfl) (by kernel_rfl) rfl (by kernel_rfl) (by kernel_rfl) (runs_any b _) ?_
  rintro e w16 ⟨v, rfl, hown, hbz⟩
  obtain ⟨A18, c19, rfl, hrd⟩ := Rd.of_own hown
  clear hrd
  have hm17 := hm12.newRow hbz hown
  clear hown hbz hm12
  simp only [List.cons_append, List.nil_append, List.set_cons_succ, List.set_cons_zero] at hm17
  refine ⟨_, rfl, ?_⟩
  simp only [Act.put, List.setIfInBounds_toArray, List.set_cons_succ, List.set_cons_zero]
  refine plVal (i := 2) (v := .tuple #[.slice A18 ((mRuns b).1.length) c19, .int .i64 ((mRuns b).2)]) rfl (by kernel_rfl) (by kernel_rfl) ?_
  simp only [Act.put, List.setIfInBounds_toArray, List.set_cons_succ, List.set_cons_zero]
  refine plVal (i := 3) (v := .slice A18 ((mRuns b).1.length) c19) rfl (by kernel_rfl) (by kernel_rfl) ?_
  simp only [Act.put, List.setIfInBounds_toArray, List.set_cons_succ, List.set_cons_zero]
  refine plVal (i := 4) (v := .int .i64 ((mRuns b).2)) rfl (by kernel_rfl) (by kernel_rfl) ?_
  simp only [Act.put, List.setIfInBounds_toArray, List.set_cons_succ, List.set_cons_zero]
  refine plVal (i := 5) (v := .slice A18 ((mRuns b).1.length) c19) rfl (by kernel_rfl) (by kernel_rfl) ?_
  simp only [Act.put, List.setIfInBounds_toArray, List.set_cons_succ, List.set_cons_zero]
  refine plVal (i := 6) (v := .int .i64 ((mRuns b).2)) rfl (by kernel_rfl) (by kernel_rfl) ?_
  refine plDone (by decide) ?_
  simp only [Act.put, List.setIfInBounds_toArray, List.set_cons_succ, List.set_cons_zero]
  refine then_normal (hK15 _ _ ?_)
  refine wp_seq_k fun K20 hK20 => ?_
  refine plStart ?_
  refine plVal (i := 0) (v := .agg (bxs b).toArray) rfl (by kernel_rfl) (gLoadAg (vs := bxs b) (k := 0) 0 hm17 rfl (by kernel_rfl) (by kernel_rfl) (.tmp 2) Ty.ag_voxel_api_Box rfl (by kernel_rfl)) ?_
  simp only [Act.put, List.setIfInBounds_toArray, List.set_cons_succ, List.set_cons_zero]
  refine plCall (i := 1) 25 [.agg (bxs b).toArray] [] [] rfl (by kernel_rfl) (by kernel_rfl) rfl (by kernel_rfl) (by kernel_rfl) (refRuns_any b _) ?_
  rintro e w21 ⟨v, rfl, hown, hbz⟩
  obtain ⟨A23, c24, rfl, hrd⟩ := Rd.of_own hown
  clear hrd
  have hm22 := hm17.newRow hbz hown
  clear hown hbz hm17
  simp only [List.cons_append, List.nil_append, List.set_cons_succ, List.set_cons_zero] at hm22
  refine ⟨_, rfl, ?_⟩
  simp only [Act.put, List.setIfInBounds_toArray, List.set_cons_succ, List.set_cons_zero]
  refine plVal (i := 2) (v := .tuple #[.slice A23 ((mRuns b).1.length) c24, .int .i64 ((mRuns b).2)]) rfl (by kernel_rfl) (by kernel_rfl) ?_
  simp only [Act.put, List.setIfInBounds_toArray, List.set_cons_succ, List.set_cons_zero]
  refine plVal (i := 3) (v := .slice A23 ((mRuns b).1.length) c24) rfl (by kernel_rfl) (by kernel_rfl) ?_
  simp only [Act.put, List.setIfInBounds_toArray, List.set_cons_succ, List.set_cons_zero]
  refine plVal (i := 4) (v := .int .i64 ((mRuns b).2)) rfl (by kernel_rfl) (by kernel_rfl) ?_
  simp only [Act.put, List.setIfInBounds_toArray, List.set_cons_succ, List.set_cons_zero]
  refine plVal (i := 5) (v := .slice A23 ((mRuns b).1.length) c24) rfl (by kernel_rfl) (by kernel_rfl) ?_
  simp only [Act.put, List.setIfInBounds_toArray, List.set_cons_succ, List.set_cons_zero]
  refine plVal (i := 6) (v := .int .i64 ((mRuns b).2)) rfl (by kernel_rfl) (by kernel_rfl) ?_
  refine plDone (by decide) ?_
  simp only [Act.put, List.setIfInBounds_toArray, List.set_cons_succ, List.set_cons_zero]
  refine then_normal (hK20 _ _ ?_)
  refine wp_seq_k fun K25 hK25 => ?_
  refine plStart ?_
  refine plVal (i := 0) (v := .slice A8 ((mCubes b).1.length) c9) rfl (by kernel_rfl) (by kernel_rfl) ?_
  simp only [Act.put, List.setIfInBounds_toArray, List.set_cons_succ, List.set_cons_zero]
  refine plVal (i := 1) (v := .slice A13 ((mCubes b).1.length) c14) rfl (by kernel_rfl) (by kernel_rfl) ?_
  simp only [Act.put, List.setIfInBounds_toArray, List.set_cons_succ, List.set_cons_zero]
  refine plCall (i := 2) 26 [.slice A8 ((mCubes b).1.length) c9, .slice A13 ((mCubes b).1.length) c14] [] [] rfl (by kernel_rfl) (by kernel_rfl) rfl (by kernel_rfl) (by kernel_rfl) (by have h := sameCu_any (mCubes b).1 (mCubes b).1 A8 A13 c9 c14 w21 (hm22.rdRow 1 rfl) (hm22.rdRow 2 rfl); rw [decide_eq_true rfl] at h; exact h) ?_
  rintro e w26 ⟨rfl, hbz⟩
  have hm27 := hm22.below hbz
  clear hbz hm22
  refine ⟨_, rfl, ?_⟩
  simp only [Act.put, List.setIfInBounds_toArray, List.set_cons_succ, List.set_cons_zero]
  refine plVal (i := 3) (v := .bool true) rfl (by kernel_rfl) (by kernel_rfl) ?_
  simp only [Act.put, List.setIfInBounds_toArray, List.set_cons_succ, List.set_cons_zero]
  refine plVal (i := 4) (v := .slice A18 ((mRuns b).1.length) c19) rfl (by kernel_rfl) (by kernel_rfl) ?_
  simp only [Act.put, List.setIfInBounds_toArray, List.set_cons_succ, List.set_cons_zero]
  refine plVal (i := 5) (v := .slice A23 ((mRuns b).1.length) c24) rfl (by kernel_rfl) (by kernel_rfl) ?_
  simp only [Act.put, List.setIfInBounds_toArray, List.set_cons_succ, List.set_cons_zero]
  refine plCall (i := 6) 27 [.slice A18 ((mRuns b).1.length) c19, .slice A23 ((mRuns b).1.length) c24] [] [] rfl (by kernel_rfl) (by kernel_rfl) rfl (by kernel_rfl) (by kernel_rfl) (by have h := sameRu_any (mRuns b).1 (mRuns b).1 A18 A23 c19 c24 w26 (hm27.rdRow 3 rfl) (hm27.rdRow 4 rfl); rw [decide_eq_true rfl] at h; exact h) ?_
  rintro e w28 ⟨rfl, hbz⟩
  have hm29 := hm27.below hbz
  clear hbz hm27
  refine ⟨_, rfl, ?_⟩
  simp only [Act.put, List.setIfInBounds_toArray, List.set_cons_succ, List.set_cons_zero]
  refine plVal (i := 7) (v := .bool true) rfl (by kernel_rfl) (by kernel_rfl) ?_
  simp only [Act.put, List.setIfInBounds_toArray, List.set_cons_succ, List.set_cons_zero]
  refine plVal (i := 8) (v := .bool true) rfl (by kernel_rfl) (by kernel_rfl) ?_
  refine plDone (by decide) ?_
  simp only [Act.put, List.setIfInBounds_toArray, List.set_cons_succ, List.set_cons_zero]
  refine then_normal (hK25 _ _ ?_)
  refine wp_seq_k fun K30 hK30 => ?_
  refine mgStart hm29 (by kernel_rfl) ?_
  intro w32 hm31
  clear hm29
  refine mgCall (i := 0) 21 [] [] [] (by kernel_rfl) rfl (by kernel_rfl) (by kernel_rfl) rfl (by kernel_rfl) (by kernel_rfl) (sanity_any _) ?_
  rintro e w33 ⟨rfl, hbz⟩
  have hm34 := hm31.below hbz
  clear hbz hm31
  refine ⟨_, rfl, hm34, ?_⟩
  simp only [Act.put, List.setIfInBounds_toArray, List.set_cons_succ, List.set_cons_zero]
  refine mgTake (i := 1) (v := .bool true) rfl (by kernel_rfl) (by kernel_rfl) (fun _ _ _ h => h) hm34 (fun w_ h_ => by kernel_rfl) ?_
  simp only [Act.put, List.setIfInBounds_toArray, List.set_cons_succ, List.set_cons_zero]
  refine mgTake (i := 2) (v := .bool true) rfl (by kernel_rfl) (by kernel_rfl) (fun _ _ _ h => h) hm34 (fun w_ h_ => by kernel_rfl) ?_
  simp only [Act.put, List.setIfInBounds_toArray, List.set_cons_succ, List.set_cons_zero]
  refine mgTake (i := 3) (v := .bool true) rfl (by kernel_rfl) (by kernel_rfl) (fun _ _ _ h => h) hm34 (fun w_ h_ => by kernel_rfl) ?_
  simp only [Act.put, List.setIfInBounds_toArray, List.set_cons_succ, List.set_cons_zero]
  refine mgTake (i := 4) (v := .bool true) rfl (by kernel_rfl) (by kernel_rfl) (fun _ _ _ h => h) hm34 (fun w_ h_ => by kernel_rfl) ?_
  simp only [Act.put, List.setIfInBounds_toArray, List.set_cons_succ, List.set_cons_zero]
  refine mgTake (i := 5) (v := .int .i64 ((mCubes b).2)) rfl (by kernel_rfl) (by kernel_rfl) (fun _ _ _ h => h) hm34 (fun w_ h_ => by kernel_rfl) ?_
  simp only [Act.put, List.setIfInBounds_toArray, List.set_cons_succ, List.set_cons_zero]
  refine mgTake (i := 6) (v := .int .i64 ((mCubes b).2)) rfl (by kernel_rfl) (by kernel_rfl) (fun _ _ _ h => h) hm34 (fun w_ h_ => by kernel_rfl) ?_
  simp only [Act.put, List.setIfInBounds_toArray, List.set_cons_succ, List.set_cons_zero]
  refine mgTake (i := 7) (v := .bool true) rfl (by kernel_rfl) (by kernel_rfl) (fun _ _ _ h => h) hm34 (fun w_ h_ => boolTo (by simp) (eqlRun (A := ((mCubes b).2)) (B := ((mCubes b).2)) (.tmp 47) (.tmp 48) rfl (by kernel_rfl) (by kernel_rfl))) ?_
  simp only [Act.put, List.setIfInBounds_toArray, List.set_cons_succ, List.set_cons_zero]
  refine mgTake (i := 8) (v := .bool true) rfl (by kernel_rfl) (by kernel_rfl) (fun _ _ _ h => h) hm34 (fun w_ h_ => by kernel_rfl) ?_
  simp only [Act.put, List.setIfInBounds_toArray, List.set_cons_succ, List.set_cons_zero]
  refine mgTake (i := 9) (v := .bool true) rfl (by kernel_rfl) (by kernel_rfl) (fun _ _ _ h => h) hm34 (fun w_ h_ => by kernel_rfl) ?_
  simp only [Act.put, List.setIfInBounds_toArray, List.set_cons_succ, List.set_cons_zero]
  refine mgTake (i := 10) (v := .int .i64 ((mRuns b).2)) rfl (by kernel_rfl) (by kernel_rfl) (fun _ _ _ h => h) hm34 (fun w_ h_ => by kernel_rfl) ?_
  simp only [Act.put, List.setIfInBounds_toArray, List.set_cons_succ, List.set_cons_zero]
  refine mgTake (i := 11) (v := .int .i64 ((mRuns b).2)) rfl (by kernel_rfl) (by kernel_rfl) (fun _ _ _ h => h) hm34 (fun w_ h_ => by kernel_rfl) ?_
  simp only [Act.put, List.setIfInBounds_toArray, List.set_cons_succ, List.set_cons_zero]
  refine mgTake (i := 12) (v := .bool true) rfl (by kernel_rfl) (by kernel_rfl) (fun _ _ _ h => h) hm34 (fun w_ h_ => boolTo (by simp) (eqlRun (A := ((mRuns b).2)) (B := ((mRuns b).2)) (.tmp 52) (.tmp 53) rfl (by kernel_rfl) (by kernel_rfl))) ?_
  simp only [Act.put, List.setIfInBounds_toArray, List.set_cons_succ, List.set_cons_zero]
  refine mgTake (i := 13) (v := .bool true) rfl (by kernel_rfl) (by kernel_rfl) (fun _ _ _ h => h) hm34 (fun w_ h_ => by kernel_rfl) ?_
  simp only [Act.put, List.setIfInBounds_toArray, List.set_cons_succ, List.set_cons_zero]
  refine mgTake (i := 14) (v := .bool true) rfl (by kernel_rfl) (by kernel_rfl) (fun _ _ _ h => h) hm34 (fun w_ h_ => by kernel_rfl) ?_
  simp only [Act.put, List.setIfInBounds_toArray, List.set_cons_succ, List.set_cons_zero]
  refine mgTake (i := 15) (v := .agg (bxs b).toArray) rfl (by kernel_rfl) (by kernel_rfl) (fun _ _ _ h => h) hm34 (fun w_ h_ => gLoadAg (vs := bxs b) (k := 0) 0 h_ rfl (by kernel_rfl) (by kernel_rfl) (.tmp 2) Ty.ag_voxel_api_Box rfl (by kernel_rfl)) ?_
  simp only [Act.put, List.setIfInBounds_toArray, List.set_cons_succ, List.set_cons_zero]
  refine mgTake (i := 16) (v := .int .i64 n) rfl (by kernel_rfl) (by kernel_rfl) (fun _ _ _ h => h) hm34 (fun w_ h_ => by kernel_rfl) ?_
  simp only [Act.put, List.setIfInBounds_toArray, List.set_cons_succ, List.set_cons_zero]
  refine mgTake (i := 18) (v := .agg (bxs b).toArray) rfl (by kernel_rfl) (by kernel_rfl) (fun _ _ _ h => h) hm34 (fun w_ h_ => gLoadAg (vs := bxs b) (k := 0) 0 h_ rfl (by kernel_rfl) (by kernel_rfl) (.tmp 2) Ty.ag_voxel_api_Box rfl (by kernel_rfl)) ?_
  simp only [Act.put, List.setIfInBounds_toArray, List.set_cons_succ, List.set_cons_zero]
  refine mgTake (i := 19) (v := .int .i64 n) rfl (by kernel_rfl) (by kernel_rfl) (fun _ _ _ h => h) hm34 (fun w_ h_ => by kernel_rfl) ?_
  simp only [Act.put, List.setIfInBounds_toArray, List.set_cons_succ, List.set_cons_zero]
  refine mgCall (i := 17) 28 [.agg (bxs b).toArray, .int .i64 n] [] [] (by kernel_rfl) rfl (by kernel_rfl) (by kernel_rfl) rfl (by kernel_rfl) (by kernel_rfl) (next_any b n _) ?_
  rintro e w35 ⟨rfl, hbz⟩
  have hm36 := hm34.below hbz
  clear hbz hm34
  refine ⟨_, rfl, hm36, ?_⟩
  simp only [Act.put, List.setIfInBounds_toArray, List.set_cons_succ, List.set_cons_zero]
  refine mgCall (i := 20) 29 [.agg (bxs b).toArray, .int .i64 n] [] [] (by kernel_rfl) rfl (by kernel_rfl) (by kernel_rfl) rfl (by kernel_rfl) (by kernel_rfl) (refNext_any b n _) ?_
  rintro e w37 ⟨rfl, hbz⟩
  have hm38 := hm36.below hbz
  clear hbz hm36
  refine ⟨_, rfl, hm38, ?_⟩
  simp only [Act.put, List.setIfInBounds_toArray, List.set_cons_succ, List.set_cons_zero]
  refine mgTake (i := 21) (v := .bool true) rfl (by kernel_rfl) (by kernel_rfl) (fun _ _ _ h => h) hm38 (fun w_ h_ => boolTo (by simp) (eqlRun (A := (mNext b n)) (B := (mNext b n)) (.tmp 59) (.tmp 62) rfl (by kernel_rfl) (by kernel_rfl))) ?_
  simp only [Act.put, List.setIfInBounds_toArray, List.set_cons_succ, List.set_cons_zero]
  refine mgTake (i := 22) (v := .bool true) rfl (by kernel_rfl) (by kernel_rfl) (fun _ _ _ h => h) hm38 (fun w_ h_ => by kernel_rfl) ?_
  simp only [Act.put, List.setIfInBounds_toArray, List.set_cons_succ, List.set_cons_zero]
  refine mgTake (i := 23) (v := .bool true) rfl (by kernel_rfl) (by kernel_rfl) (fun _ _ _ h => h) hm38 (fun w_ h_ => by kernel_rfl) ?_
  refine mgDone (by kernel_rfl) ?_
  simp only [Act.put, List.setIfInBounds_toArray, List.set_cons_succ, List.set_cons_zero]
  refine then_normal (hK30 _ _ ?_)
  refine wp_ret ?_
  refine bodyPost_ret (v := .bool true) (gRes1 rfl (gResTmp (t := 4) (v := .bool true) (by kernel_rfl))) rfl ?_
  exact ⟨by first | rfl | simp_all, hm38.bel⟩
end Go.Proofs.Ytkfijpghjjnpkaa
