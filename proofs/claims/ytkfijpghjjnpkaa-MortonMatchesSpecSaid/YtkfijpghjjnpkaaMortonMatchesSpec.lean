/-
  MortonMatchesSpec: Encode, Decode, Compare, Octant, Neighbour and Common return what the specification returns.
-/
import Derived.Test.YtkfijpghjjnpkaaOE
import Derived.Test.YtkfijpghjjnpkaaOC
namespace Go.Proofs.Ytkfijpghjjnpkaa
open Go.RowKit
set_option linter.unusedVariables false
set_option linter.unusedSimpArgs false

set_option maxRecDepth 100000 in
set_option maxHeartbeats 4000000 in
theorem walk_MortonMatchesSpec (a b : Pt) (n level axis : Int) (up : Bool) (w : World) (_b0 : -9223372036854775808 ≤ a.x ∧ a.x ≤ 9223372036854775807) (_b1 : -9223372036854775808 ≤ a.y ∧ a.y ≤ 9223372036854775807) (_b2 : -9223372036854775808 ≤ a.z ∧ a.z ≤ 9223372036854775807) (_b3 : -9223372036854775808 ≤ b.x ∧ b.x ≤ 9223372036854775807) (_b4 : -9223372036854775808 ≤ b.y ∧ b.y ≤ 9223372036854775807) (_b5 : -9223372036854775808 ≤ b.z ∧ b.z ≤ 9223372036854775807) (_b6 : -9223372036854775808 ≤ n ∧ n ≤ 9223372036854775807) (_b7 : -9223372036854775808 ≤ level ∧ level ≤ 9223372036854775807) (_b8 : -9223372036854775808 ≤ axis ∧ axis ≤ 9223372036854775807) : Calls Try.prog 3 #[.agg (pcs a).toArray, .agg (pcs b).toArray, .int .i64 n, .int .i64 level, .int .i64 axis, .bool up] w (RetB w true) := by
  have hm0 := Mem.nil w
  go_enter Try.func3, Try.ntmps3
  refine wp_seq_k fun K1 hK1 => ?_
  refine plStart ?_
  refine plBox hm0 (cs := pcs a) (i := 0) rfl (by kernel_rfl) rfl (by kernel_rfl) ?_
  intro g2 w4 hm3
  clear hm0
  simp only [List.cons_append, List.nil_append, List.set_cons_succ, List.set_cons_zero] at hm3
  refine plBox hm3 (cs := pcs b) (i := 1) rfl (by kernel_rfl) rfl (by kernel_rfl) ?_
  intro g5 w7 hm6
  clear hm3
  simp only [List.cons_append, List.nil_append, List.set_cons_succ, List.set_cons_zero] at hm6
  simp only [Act.put, List.setIfInBounds_toArray, List.set_cons_succ, List.set_cons_zero]
  refine plVal (i := 2) (v := .bool false) rfl (by kernel_rfl) (by kernel_rfl) ?_
  refine plDone (by decide) ?_
  simp only [Act.put, List.setIfInBounds_toArray, List.set_cons_succ, List.set_cons_zero]
  refine then_normal (hK1 _ _ ?_)
  refine wp_seq_k fun K8 hK8 => ?_
  refine plStart ?_
  refine plVal (i := 0) (v := .int .i64 n) rfl (by kernel_rfl) (by kernel_rfl) ?_
  simp only [Act.put, List.setIfInBounds_toArray, List.set_cons_succ, List.set_cons_zero]
  refine plCall (i := 1) 9 [.int .i64 n] [] [] rfl (by kernel_rfl) (by kernel_rfl) rfl (by kernel_rfl) (by kernel_rfl) (decode_any n _) ?_
  rintro e w9 ⟨rfl, hbz⟩
  have hm10 := hm6.below hbz
  clear hbz hm6
  refine ⟨_, rfl, ?_⟩
  simp only [Act.put, List.setIfInBounds_toArray, List.set_cons_succ, List.set_cons_zero]
  rcases bool_or ((mDec n).2) with h11 | h11
  · rw [h11]
    refine plVal (i := 2) (v := .tuple #[.agg (pcs ((mDec n).1)).toArray, .bool false]) rfl (by kernel_rfl) (by kernel_rfl) ?_
    refine plVal (i := 3) (v := .agg (pcs ((mDec n).1)).toArray) rfl (by kernel_rfl) (by kernel_rfl) ?_
    simp only [Act.put, List.setIfInBounds_toArray, List.set_cons_succ, List.set_cons_zero]
    refine plVal (i := 4) (v := .bool false) rfl (by kernel_rfl) (by kernel_rfl) ?_
    refine plAlloc (z := [.int .i64 0, .int .i64 0, .int .i64 0]) Ty.ag_voxel_api_Point hm10 (i := 5) rfl (by kernel_rfl) rfl ?_
    intro g12 w14 hm13
    clear hm10
    simp only [List.cons_append, List.nil_append, List.set_cons_succ, List.set_cons_zero] at hm13
    simp only [Act.put, List.setIfInBounds_toArray, List.set_cons_succ, List.set_cons_zero]
    refine plStore 2 Ty.ag_voxel_api_Point hm13 rfl (i := 6) (cs := pcs ((mDec n).1)) rfl (by kernel_rfl) rfl (by kernel_rfl) (by kernel_rfl) rfl rfl (by kernel_rfl) ?_
    intro w16 hm15
    clear hm13
    simp only [List.cons_append, List.nil_append, List.set_cons_succ, List.set_cons_zero] at hm15
    refine plVal (i := 7) (v := .bool false) rfl (by kernel_rfl) (by kernel_rfl) ?_
    refine plDone (by decide) ?_
    simp only [Act.put, List.setIfInBounds_toArray, List.set_cons_succ, List.set_cons_zero]
    refine then_normal (hK8 _ _ ?_)
    refine wp_seq_k fun K17 hK17 => ?_
    refine plStart ?_
    refine plVal (i := 0) (v := .int .i64 n) rfl (by kernel_rfl) (by kernel_rfl) ?_
    simp only [Act.put, List.setIfInBounds_toArray, List.set_cons_succ, List.set_cons_zero]
    refine plCall (i := 1) 10 [.int .i64 n] [] [] rfl (by kernel_rfl) (by kernel_rfl) rfl (by kernel_rfl) (by kernel_rfl) (refDecode_any n _) ?_
    rintro e w18 ⟨rfl, hbz⟩
    have hm19 := hm15.below hbz
    clear hbz hm15
    rw [h11]
    refine ⟨_, rfl, ?_⟩
    refine plVal (i := 2) (v := .tuple #[.agg (pcs ((mDec n).1)).toArray, .bool false]) rfl (by kernel_rfl) (by kernel_rfl) ?_
    simp only [Act.put, List.setIfInBounds_toArray, List.set_cons_succ, List.set_cons_zero]
    refine plVal (i := 3) (v := .agg (pcs ((mDec n).1)).toArray) rfl (by kernel_rfl) (by kernel_rfl) ?_
    refine plVal (i := 4) (v := .bool false) rfl (by kernel_rfl) (by kernel_rfl) ?_
    simp only [Act.put, List.setIfInBounds_toArray, List.set_cons_succ, List.set_cons_zero]
    refine plAlloc (z := [.int .i64 0, .int .i64 0, .int .i64 0]) Ty.ag_voxel_api_Point hm19 (i := 5) rfl (by kernel_rfl) rfl ?_
    intro g20 w22 hm21
    clear hm19
    simp only [List.cons_append, List.nil_append, List.set_cons_succ, List.set_cons_zero] at hm21
    refine plStore 3 Ty.ag_voxel_api_Point hm21 rfl (i := 6) (cs := pcs ((mDec n).1)) rfl (by kernel_rfl) rfl (by kernel_rfl) (by kernel_rfl) rfl rfl (by kernel_rfl) ?_
    intro w24 hm23
    clear hm21
    simp only [List.cons_append, List.nil_append, List.set_cons_succ, List.set_cons_zero] at hm23
    simp only [Act.put, List.setIfInBounds_toArray, List.set_cons_succ, List.set_cons_zero]
    refine plVal (i := 7) (v := .bool false) rfl (by kernel_rfl) (by kernel_rfl) ?_
    refine plDone (by decide) ?_
    simp only [Act.put, List.setIfInBounds_toArray, List.set_cons_succ, List.set_cons_zero]
    refine then_normal (hK17 _ _ ?_)
    refine wp_seq_k fun K25 hK25 => ?_
    refine plStart ?_
    refine plVal (i := 0) (v := .agg (pcs a).toArray) rfl (by kernel_rfl) (gLoadAg (vs := pcs a) (k := 0) 0 hm23 rfl (by kernel_rfl) (by kernel_rfl) (.tmp 6) Ty.ag_voxel_api_Point rfl (by kernel_rfl)) ?_
    refine plVal (i := 1) (v := .agg (pcs b).toArray) rfl (by kernel_rfl) (gLoadAg (vs := pcs b) (k := 0) 1 hm23 rfl (by kernel_rfl) (by kernel_rfl) (.tmp 7) Ty.ag_voxel_api_Point rfl (by kernel_rfl)) ?_
    simp only [Act.put, List.setIfInBounds_toArray, List.set_cons_succ, List.set_cons_zero]
    refine plCall (i := 2) 11 [.agg (pcs a).toArray, .agg (pcs b).toArray] [] [] rfl (by kernel_rfl) (by kernel_rfl) rfl (by kernel_rfl) (by kernel_rfl) (common_any a b _) ?_
    rintro e w26 ⟨rfl, hbz⟩
    have hm27 := hm23.below hbz
    clear hbz hm23
    refine ⟨_, rfl, ?_⟩
    simp only [Act.put, List.setIfInBounds_toArray, List.set_cons_succ, List.set_cons_zero]
    rcases bool_or ((mCommon a b).2) with h28 | h28
    · rw [h28]
      refine plVal (i := 3) (v := .tuple #[.agg (ccs ((mCommon a b).1)).toArray, .bool false]) rfl (by kernel_rfl) (by kernel_rfl) ?_
      refine plVal (i := 4) (v := .agg (ccs ((mCommon a b).1)).toArray) rfl (by kernel_rfl) (by kernel_rfl) ?_
      simp only [Act.put, List.setIfInBounds_toArray, List.set_cons_succ, List.set_cons_zero]
      refine plVal (i := 5) (v := .bool false) rfl (by kernel_rfl) (by kernel_rfl) ?_
      refine plAlloc (z := [.int .i64 0, .int .i64 0, .int .i64 0, .int .i64 0]) Ty.ag_voxel_api_Cube hm27 (i := 6) rfl (by kernel_rfl) rfl ?_
      intro g29 w31 hm30
      clear hm27
      simp only [List.cons_append, List.nil_append, List.set_cons_succ, List.set_cons_zero] at hm30
      simp only [Act.put, List.setIfInBounds_toArray, List.set_cons_succ, List.set_cons_zero]
      refine plStore 4 Ty.ag_voxel_api_Cube hm30 rfl (i := 7) (cs := ccs ((mCommon a b).1)) rfl (by kernel_rfl) rfl (by kernel_rfl) (by kernel_rfl) rfl rfl (by kernel_rfl) ?_
      intro w33 hm32
      clear hm30
      simp only [List.cons_append, List.nil_append, List.set_cons_succ, List.set_cons_zero] at hm32
      refine plVal (i := 8) (v := .bool false) rfl (by kernel_rfl) (by kernel_rfl) ?_
      refine plDone (by decide) ?_
      simp only [Act.put, List.setIfInBounds_toArray, List.set_cons_succ, List.set_cons_zero]
      refine then_normal (hK25 _ _ ?_)
      refine wp_seq_k fun K34 hK34 => ?_
      refine plStart ?_
      refine plVal (i := 0) (v := .agg (pcs a).toArray) rfl (by kernel_rfl) (gLoadAg (vs := pcs a) (k := 0) 0 hm32 rfl (by kernel_rfl) (by kernel_rfl) (.tmp 6) Ty.ag_voxel_api_Point rfl (by kernel_rfl)) ?_
      refine plVal (i := 1) (v := .agg (pcs b).toArray) rfl (by kernel_rfl) (gLoadAg (vs := pcs b) (k := 0) 1 hm32 rfl (by kernel_rfl) (by kernel_rfl) (.tmp 7) Ty.ag_voxel_api_Point rfl (by kernel_rfl)) ?_
      simp only [Act.put, List.setIfInBounds_toArray, List.set_cons_succ, List.set_cons_zero]
      refine plCall (i := 2) 12 [.agg (pcs a).toArray, .agg (pcs b).toArray] [] [] rfl (by kernel_rfl) (by kernel_rfl) rfl (by kernel_rfl) (by kernel_rfl) (refCommon_any a b _) ?_
      rintro e w35 ⟨rfl, hbz⟩
      have hm36 := hm32.below hbz
      clear hbz hm32
      rw [h28]
      refine ⟨_, rfl, ?_⟩
      refine plVal (i := 3) (v := .tuple #[.agg (ccs ((mCommon a b).1)).toArray, .bool false]) rfl (by kernel_rfl) (by kernel_rfl) ?_
      simp only [Act.put, List.setIfInBounds_toArray, List.set_cons_succ, List.set_cons_zero]
      refine plVal (i := 4) (v := .agg (ccs ((mCommon a b).1)).toArray) rfl (by kernel_rfl) (by kernel_rfl) ?_
      refine plVal (i := 5) (v := .bool false) rfl (by kernel_rfl) (by kernel_rfl) ?_
      simp only [Act.put, List.setIfInBounds_toArray, List.set_cons_succ, List.set_cons_zero]
      refine plAlloc (z := [.int .i64 0, .int .i64 0, .int .i64 0, .int .i64 0]) Ty.ag_voxel_api_Cube hm36 (i := 6) rfl (by kernel_rfl) rfl ?_
      intro g37 w39 hm38
      clear hm36
      simp only [List.cons_append, List.nil_append, List.set_cons_succ, List.set_cons_zero] at hm38
      refine plStore 5 Ty.ag_voxel_api_Cube hm38 rfl (i := 7) (cs := ccs ((mCommon a b).1)) rfl (by kernel_rfl) rfl (by kernel_rfl) (by kernel_rfl) rfl rfl (by kernel_rfl) ?_
      intro w41 hm40
      clear hm38
      simp only [List.cons_append, List.nil_append, List.set_cons_succ, List.set_cons_zero] at hm40
      simp only [Act.put, List.setIfInBounds_toArray, List.set_cons_succ, List.set_cons_zero]
      refine plVal (i := 8) (v := .bool false) rfl (by kernel_rfl) (by kernel_rfl) ?_
      refine plDone (by decide) ?_
      simp only [Act.put, List.setIfInBounds_toArray, List.set_cons_succ, List.set_cons_zero]
      refine then_normal (hK34 _ _ ?_)
      refine wp_seq_k fun K42 hK42 => ?_
      refine mgStart hm40 (by kernel_rfl) ?_
      intro w44 hm43
      clear hm40
      refine mgTake (i := 0) (v := .agg (pcs a).toArray) rfl (by kernel_rfl) (by kernel_rfl) (fun _ _ _ h => h) hm43 (fun w_ h_ => gLoadAg (vs := pcs a) (k := 0) 0 h_ rfl (by kernel_rfl) (by kernel_rfl) (.tmp 6) Ty.ag_voxel_api_Point rfl (by kernel_rfl)) ?_
      refine mgTake (i := 2) (v := .agg (pcs a).toArray) rfl (by kernel_rfl) (by kernel_rfl) (fun _ _ _ h => h) hm43 (fun w_ h_ => gLoadAg (vs := pcs a) (k := 0) 0 h_ rfl (by kernel_rfl) (by kernel_rfl) (.tmp 6) Ty.ag_voxel_api_Point rfl (by kernel_rfl)) ?_
      simp only [Act.put, List.setIfInBounds_toArray, List.set_cons_succ, List.set_cons_zero]
      refine mgCall (i := 1) 13 [.agg (pcs a).toArray] [] [] (by kernel_rfl) rfl (by kernel_rfl) (by kernel_rfl) rfl (by kernel_rfl) (by kernel_rfl) (encode_any a _) ?_
      rintro e w45 ⟨rfl, hbz⟩
      have hm46 := hm43.below hbz
      clear hbz hm43
      refine ⟨_, rfl, hm46, ?_⟩
      simp only [Act.put, List.setIfInBounds_toArray, List.set_cons_succ, List.set_cons_zero]
      refine mgCall (i := 3) 14 [.agg (pcs a).toArray] [] [] (by kernel_rfl) rfl (by kernel_rfl) (by kernel_rfl) rfl (by kernel_rfl) (by kernel_rfl) (refEncode_any a _) ?_
      rintro e w47 ⟨rfl, hbz⟩
      have hm48 := hm46.below hbz
      clear hbz hm46
      refine ⟨_, rfl, hm48, ?_⟩
      refine mgTake (i := 4) (v := .bool true) rfl (by kernel_rfl) (by kernel_rfl) (fun _ _ _ h => h) hm48 (fun w_ h_ => boolTo (by simp) (eqlRun (A := (mEnc a)) (B := (mEnc a)) (.tmp 46) (.tmp 48) rfl (by kernel_rfl) (by kernel_rfl))) ?_
      simp only [Act.put, List.setIfInBounds_toArray, List.set_cons_succ, List.set_cons_zero]
      refine mgTake (i := 5) (v := .bool true) rfl (by kernel_rfl) (by kernel_rfl) (fun _ _ _ h => h) hm48 (fun w_ h_ => by kernel_rfl) ?_
      refine mgTake (i := 6) (v := .agg (pcs ((mDec n).1)).toArray) rfl (by kernel_rfl) (by kernel_rfl) (fun _ _ _ h => h) hm48 (fun w_ h_ => gLoadAg (vs := pcs ((mDec n).1)) (k := 0) 2 h_ rfl (by kernel_rfl) (by kernel_rfl) (.tmp 13) Ty.ag_voxel_api_Point rfl (by kernel_rfl)) ?_
      simp only [Act.put, List.setIfInBounds_toArray, List.set_cons_succ, List.set_cons_zero]
      refine mgTake (i := 7) (v := .agg (pcs ((mDec n).1)).toArray) rfl (by kernel_rfl) (by kernel_rfl) (fun _ _ _ h => h) hm48 (fun w_ h_ => gLoadAg (vs := pcs ((mDec n).1)) (k := 0) 3 h_ rfl (by kernel_rfl) (by kernel_rfl) (.tmp 15) Ty.ag_voxel_api_Point rfl (by kernel_rfl)) ?_
      refine mgTake (i := 8) (v := .bool true) rfl (by kernel_rfl) (by kernel_rfl) (fun _ _ _ h => h) hm48 (fun w_ h_ => boolTo (decide_eq_true rfl) (eqPtRun (.tmp 51) (.tmp 52) ((mDec n).1) ((mDec n).1) rfl (by kernel_rfl) (by kernel_rfl))) ?_
      simp only [Act.put, List.setIfInBounds_toArray, List.set_cons_succ, List.set_cons_zero]
      refine mgTake (i := 9) (v := .bool true) rfl (by kernel_rfl) (by kernel_rfl) (fun _ _ _ h => h) hm48 (fun w_ h_ => by kernel_rfl) ?_
      refine mgTake (i := 10) (v := .bool true) rfl (by kernel_rfl) (by kernel_rfl) (fun _ _ _ h => h) hm48 (fun w_ h_ => by kernel_rfl) ?_
      simp only [Act.put, List.setIfInBounds_toArray, List.set_cons_succ, List.set_cons_zero]
      refine mgTake (i := 11) (v := .bool false) rfl (by kernel_rfl) (by kernel_rfl) (fun _ _ _ h => h) hm48 (fun w_ h_ => by kernel_rfl) ?_
      refine mgTake (i := 12) (v := .bool false) rfl (by kernel_rfl) (by kernel_rfl) (fun _ _ _ h => h) hm48 (fun w_ h_ => by kernel_rfl) ?_
      simp only [Act.put, List.setIfInBounds_toArray, List.set_cons_succ, List.set_cons_zero]
      refine mgTake (i := 13) (v := .bool true) rfl (by kernel_rfl) (by kernel_rfl) (fun _ _ _ h => h) hm48 (fun w_ h_ => by kernel_rfl) ?_
      refine mgTake (i := 14) (v := .bool true) rfl (by kernel_rfl) (by kernel_rfl) (fun _ _ _ h => h) hm48 (fun w_ h_ => by kernel_rfl) ?_
      simp only [Act.put, List.setIfInBounds_toArray, List.set_cons_succ, List.set_cons_zero]
      refine mgTake (i := 15) (v := .bool true) rfl (by kernel_rfl) (by kernel_rfl) (fun _ _ _ h => h) hm48 (fun w_ h_ => by kernel_rfl) ?_
      refine mgTake (i := 16) (v := .agg (pcs a).toArray) rfl (by kernel_rfl) (by kernel_rfl) (fun _ _ _ h => h) hm48 (fun w_ h_ => gLoadAg (vs := pcs a) (k := 0) 0 h_ rfl (by kernel_rfl) (by kernel_rfl) (.tmp 6) Ty.ag_voxel_api_Point rfl (by kernel_rfl)) ?_
      simp only [Act.put, List.setIfInBounds_toArray, List.set_cons_succ, List.set_cons_zero]
      refine mgTake (i := 17) (v := .agg (pcs b).toArray) rfl (by kernel_rfl) (by kernel_rfl) (fun _ _ _ h => h) hm48 (fun w_ h_ => gLoadAg (vs := pcs b) (k := 0) 1 h_ rfl (by kernel_rfl) (by kernel_rfl) (.tmp 7) Ty.ag_voxel_api_Point rfl (by kernel_rfl)) ?_
      refine mgTake (i := 19) (v := .agg (pcs a).toArray) rfl (by kernel_rfl) (by kernel_rfl) (fun _ _ _ h => h) hm48 (fun w_ h_ => gLoadAg (vs := pcs a) (k := 0) 0 h_ rfl (by kernel_rfl) (by kernel_rfl) (.tmp 6) Ty.ag_voxel_api_Point rfl (by kernel_rfl)) ?_
      simp only [Act.put, List.setIfInBounds_toArray, List.set_cons_succ, List.set_cons_zero]
      refine mgTake (i := 20) (v := .agg (pcs b).toArray) rfl (by kernel_rfl) (by kernel_rfl) (fun _ _ _ h => h) hm48 (fun w_ h_ => gLoadAg (vs := pcs b) (k := 0) 1 h_ rfl (by kernel_rfl) (by kernel_rfl) (.tmp 7) Ty.ag_voxel_api_Point rfl (by kernel_rfl)) ?_
      simp only [Act.put, List.setIfInBounds_toArray, List.set_cons_succ, List.set_cons_zero]
      refine mgCall (i := 18) 15 [.agg (pcs a).toArray, .agg (pcs b).toArray] [] [] (by kernel_rfl) rfl (by kernel_rfl) (by kernel_rfl) rfl (by kernel_rfl) (by kernel_rfl) (compare_any a b _) ?_
      rintro e w49 ⟨rfl, hbz⟩
      have hm50 := hm48.below hbz
      clear hbz hm48
      refine ⟨_, rfl, hm50, ?_⟩
      simp only [Act.put, List.setIfInBounds_toArray, List.set_cons_succ, List.set_cons_zero]
      refine mgCall (i := 21) 16 [.agg (pcs a).toArray, .agg (pcs b).toArray] [] [] (by kernel_rfl) rfl (by kernel_rfl) (by kernel_rfl) rfl (by kernel_rfl) (by kernel_rfl) (refCompare_any a b _) ?_
      rintro e w51 ⟨rfl, hbz⟩
      have hm52 := hm50.below hbz
      clear hbz hm50
      refine ⟨_, rfl, hm52, ?_⟩
      refine mgTake (i := 22) (v := .bool true) rfl (by kernel_rfl) (by kernel_rfl) (fun _ _ _ h => h) hm52 (fun w_ h_ => boolTo (by simp) (eqlRun (A := (mCmp a b)) (B := (mCmp a b)) (.tmp 63) (.tmp 66) rfl (by kernel_rfl) (by kernel_rfl))) ?_
      simp only [Act.put, List.setIfInBounds_toArray, List.set_cons_succ, List.set_cons_zero]
      refine mgTake (i := 23) (v := .bool true) rfl (by kernel_rfl) (by kernel_rfl) (fun _ _ _ h => h) hm52 (fun w_ h_ => by kernel_rfl) ?_
      refine mgTake (i := 24) (v := .bool true) rfl (by kernel_rfl) (by kernel_rfl) (fun _ _ _ h => h) hm52 (fun w_ h_ => by kernel_rfl) ?_
      refine mgDone (by kernel_rfl) ?_
      simp only [Act.put, List.setIfInBounds_toArray, List.set_cons_succ, List.set_cons_zero]
      refine then_normal (hK42 _ _ ?_)
      refine wp_seq_k fun K53 hK53 => ?_
      refine mgStart hm52 (by kernel_rfl) ?_
      intro w55 hm54
      clear hm52
      refine mgTake (i := 0) (v := .agg (pcs a).toArray) rfl (by kernel_rfl) (by kernel_rfl) (fun _ _ _ h => h) hm54 (fun w_ h_ => gLoadAg (vs := pcs a) (k := 0) 0 h_ rfl (by kernel_rfl) (by kernel_rfl) (.tmp 6) Ty.ag_voxel_api_Point rfl (by kernel_rfl)) ?_
      refine mgTake (i := 1) (v := .int .i64 level) rfl (by kernel_rfl) (by kernel_rfl) (fun _ _ _ h => h) hm54 (fun w_ h_ => by kernel_rfl) ?_
      simp only [Act.put, List.setIfInBounds_toArray, List.set_cons_succ, List.set_cons_zero]
      refine mgTake (i := 3) (v := .agg (pcs a).toArray) rfl (by kernel_rfl) (by kernel_rfl) (fun _ _ _ h => h) hm54 (fun w_ h_ => gLoadAg (vs := pcs a) (k := 0) 0 h_ rfl (by kernel_rfl) (by kernel_rfl) (.tmp 6) Ty.ag_voxel_api_Point rfl (by kernel_rfl)) ?_
      refine mgTake (i := 4) (v := .int .i64 level) rfl (by kernel_rfl) (by kernel_rfl) (fun _ _ _ h => h) hm54 (fun w_ h_ => by kernel_rfl) ?_
      simp only [Act.put, List.setIfInBounds_toArray, List.set_cons_succ, List.set_cons_zero]
      refine mgCall (i := 2) 17 [.agg (pcs a).toArray, .int .i64 level] [] [] (by kernel_rfl) rfl (by kernel_rfl) (by kernel_rfl) rfl (by kernel_rfl) (by kernel_rfl) (octant_any a level _) ?_
      rintro e w56 ⟨rfl, hbz⟩
      have hm57 := hm54.below hbz
      clear hbz hm54
      refine ⟨_, rfl, hm57, ?_⟩
      simp only [Act.put, List.setIfInBounds_toArray, List.set_cons_succ, List.set_cons_zero]
      refine mgCall (i := 5) 18 [.agg (pcs a).toArray, .int .i64 level] [] [] (by kernel_rfl) rfl (by kernel_rfl) (by kernel_rfl) rfl (by kernel_rfl) (by kernel_rfl) (refOctant_any a level _) ?_
      rintro e w58 ⟨rfl, hbz⟩
      have hm59 := hm57.below hbz
      clear hbz hm57
      refine ⟨_, rfl, hm59, ?_⟩
      refine mgTake (i := 6) (v := .bool true) rfl (by kernel_rfl) (by kernel_rfl) (fun _ _ _ h => h) hm59 (fun w_ h_ => boolTo (by simp) (eqlRun (A := (mOct a level)) (B := (mOct a level)) (.tmp 71) (.tmp 74) rfl (by kernel_rfl) (by kernel_rfl))) ?_
      simp only [Act.put, List.setIfInBounds_toArray, List.set_cons_succ, List.set_cons_zero]
      refine mgTake (i := 7) (v := .bool true) rfl (by kernel_rfl) (by kernel_rfl) (fun _ _ _ h => h) hm59 (fun w_ h_ => by kernel_rfl) ?_
      refine mgTake (i := 8) (v := .int .i64 n) rfl (by kernel_rfl) (by kernel_rfl) (fun _ _ _ h => h) hm59 (fun w_ h_ => by kernel_rfl) ?_
      simp only [Act.put, List.setIfInBounds_toArray, List.set_cons_succ, List.set_cons_zero]
      refine mgTake (i := 9) (v := .int .i64 axis) rfl (by kernel_rfl) (by kernel_rfl) (fun _ _ _ h => h) hm59 (fun w_ h_ => by kernel_rfl) ?_
      refine mgTake (i := 10) (v := .bool up) rfl (by kernel_rfl) (by kernel_rfl) (fun _ _ _ h => h) hm59 (fun w_ h_ => by kernel_rfl) ?_
      simp only [Act.put, List.setIfInBounds_toArray, List.set_cons_succ, List.set_cons_zero]
      refine mgTake (i := 12) (v := .int .i64 n) rfl (by kernel_rfl) (by kernel_rfl) (fun _ _ _ h => h) hm59 (fun w_ h_ => by kernel_rfl) ?_
      refine mgTake (i := 13) (v := .int .i64 axis) rfl (by kernel_rfl) (by kernel_rfl) (fun _ _ _ h => h) hm59 (fun w_ h_ => by kernel_rfl) ?_
      simp only [Act.put, List.setIfInBounds_toArray, List.set_cons_succ, List.set_cons_zero]
      refine mgTake (i := 14) (v := .bool up) rfl (by kernel_rfl) (by kernel_rfl) (fun _ _ _ h => h) hm59 (fun w_ h_ => by kernel_rfl) ?_
      simp only [Act.put, List.setIfInBounds_toArray, List.set_cons_succ, List.set_cons_zero]
      refine mgCall (i := 11) 19 [.int .i64 n, .int .i64 axis, .bool up] [] [] (by kernel_rfl) rfl (by kernel_rfl) (by kernel_rfl) rfl (by kernel_rfl) (by kernel_rfl) (neighbour_any n axis up _) ?_
      rintro e w60 ⟨rfl, hbz⟩
      have hm61 := hm59.below hbz
      clear hbz hm59
      refine ⟨_, rfl, hm61, ?_⟩
      simp only [Act.put, List.setIfInBounds_toArray, List.set_cons_succ, List.set_cons_zero]
      refine mgCall (i := 15) 20 [.int .i64 n, .int .i64 axis, .bool up] [] [] (by kernel_rfl) rfl (by kernel_rfl) (by kernel_rfl) rfl (by kernel_rfl) (by kernel_rfl) (refNeighbour_any n axis up _) ?_
      rintro e w62 ⟨rfl, hbz⟩
      have hm63 := hm61.below hbz
      clear hbz hm61
      refine ⟨_, rfl, hm63, ?_⟩
      refine mgTake (i := 16) (v := .bool true) rfl (by kernel_rfl) (by kernel_rfl) (fun _ _ _ h => h) hm63 (fun w_ h_ => boolTo (by simp) (eqlRun (A := (mNb n axis up)) (B := (mNb n axis up)) (.tmp 80) (.tmp 84) rfl (by kernel_rfl) (by kernel_rfl))) ?_
      simp only [Act.put, List.setIfInBounds_toArray, List.set_cons_succ, List.set_cons_zero]
      refine mgTake (i := 17) (v := .bool true) rfl (by kernel_rfl) (by kernel_rfl) (fun _ _ _ h => h) hm63 (fun w_ h_ => by kernel_rfl) ?_
      refine mgTake (i := 18) (v := .bool true) rfl (by kernel_rfl) (by kernel_rfl) (fun _ _ _ h => h) hm63 (fun w_ h_ => by kernel_rfl) ?_
      simp only [Act.put, List.setIfInBounds_toArray, List.set_cons_succ, List.set_cons_zero]
      refine mgTake (i := 19) (v := .agg (ccs ((mCommon a b).1)).toArray) rfl (by kernel_rfl) (by kernel_rfl) (fun _ _ _ h => h) hm63 (fun w_ h_ => gLoadAg (vs := ccs ((mCommon a b).1)) (k := 0) 4 h_ rfl (by kernel_rfl) (by kernel_rfl) (.tmp 17) Ty.ag_voxel_api_Cube rfl (by kernel_rfl)) ?_
      refine mgTake (i := 20) (v := .agg (ccs ((mCommon a b).1)).toArray) rfl (by kernel_rfl) (by kernel_rfl) (fun _ _ _ h => h) hm63 (fun w_ h_ => gLoadAg (vs := ccs ((mCommon a b).1)) (k := 0) 5 h_ rfl (by kernel_rfl) (by kernel_rfl) (.tmp 19) Ty.ag_voxel_api_Cube rfl (by kernel_rfl)) ?_
      simp only [Act.put, List.setIfInBounds_toArray, List.set_cons_succ, List.set_cons_zero]
      refine mgTake (i := 21) (v := .bool true) rfl (by kernel_rfl) (by kernel_rfl) (fun _ _ _ h => h) hm63 (fun w_ h_ => boolTo (decide_eq_true rfl) (eqlCuRun (.tmp 88) (.tmp 89) ((mCommon a b).1) ((mCommon a b).1) rfl (by kernel_rfl) (by kernel_rfl))) ?_
      refine mgTake (i := 22) (v := .bool true) rfl (by kernel_rfl) (by kernel_rfl) (fun _ _ _ h => h) hm63 (fun w_ h_ => by kernel_rfl) ?_
      simp only [Act.put, List.setIfInBounds_toArray, List.set_cons_succ, List.set_cons_zero]
      refine mgTake (i := 23) (v := .bool true) rfl (by kernel_rfl) (by kernel_rfl) (fun _ _ _ h => h) hm63 (fun w_ h_ => by kernel_rfl) ?_
      refine mgTake (i := 24) (v := .bool false) rfl (by kernel_rfl) (by kernel_rfl) (fun _ _ _ h => h) hm63 (fun w_ h_ => by kernel_rfl) ?_
      simp only [Act.put, List.setIfInBounds_toArray, List.set_cons_succ, List.set_cons_zero]
      refine mgTake (i := 25) (v := .bool false) rfl (by kernel_rfl) (by kernel_rfl) (fun _ _ _ h => h) hm63 (fun w_ h_ => by kernel_rfl) ?_
      refine mgTake (i := 26) (v := .bool true) rfl (by kernel_rfl) (by kernel_rfl) (fun _ _ _ h => h) hm63 (fun w_ h_ => by kernel_rfl) ?_
      simp only [Act.put, List.setIfInBounds_toArray, List.set_cons_succ, List.set_cons_zero]
      refine mgTake (i := 27) (v := .bool true) rfl (by kernel_rfl) (by kernel_rfl) (fun _ _ _ h => h) hm63 (fun w_ h_ => by kernel_rfl) ?_
      refine mgTake (i := 28) (v := .bool true) rfl (by kernel_rfl) (by kernel_rfl) (fun _ _ _ h => h) hm63 (fun w_ h_ => by kernel_rfl) ?_
      refine mgDone (by kernel_rfl) ?_
      simp only [Act.put, List.setIfInBounds_toArray, List.set_cons_succ, List.set_cons_zero]
      refine then_normal (hK53 _ _ ?_)
      refine wp_seq_k fun K64 hK64 => ?_
      refine plStart ?_
      refine plCall (i := 0) 21 [] [] [] rfl (by kernel_rfl) (by kernel_rfl) rfl (by kernel_rfl) (by kernel_rfl) (sanity_any _) ?_
      rintro e w65 ⟨rfl, hbz⟩
      have hm66 := hm63.below hbz
      clear hbz hm63
      refine ⟨_, rfl, ?_⟩
      refine plVal (i := 1) (v := .bool true) rfl (by kernel_rfl) (by kernel_rfl) ?_
      simp only [Act.put, List.setIfInBounds_toArray, List.set_cons_succ, List.set_cons_zero]
      refine plVal (i := 2) (v := .bool true) rfl (by kernel_rfl) (by kernel_rfl) ?_
      refine plVal (i := 3) (v := .bool true) rfl (by kernel_rfl) (by kernel_rfl) ?_
      simp only [Act.put, List.setIfInBounds_toArray, List.set_cons_succ, List.set_cons_zero]
      refine plVal (i := 4) (v := .bool true) rfl (by kernel_rfl) (by kernel_rfl) ?_
      refine plVal (i := 5) (v := .bool true) rfl (by kernel_rfl) (by kernel_rfl) ?_
      simp only [Act.put, List.setIfInBounds_toArray, List.set_cons_succ, List.set_cons_zero]
      refine plVal (i := 6) (v := .bool true) rfl (by kernel_rfl) (by kernel_rfl) ?_
      refine plVal (i := 7) (v := .bool true) rfl (by kernel_rfl) (by kernel_rfl) ?_
      refine plDone (by decide) ?_
      simp only [Act.put, List.setIfInBounds_toArray, List.set_cons_succ, List.set_cons_zero]
      refine then_normal (hK64 _ _ ?_)
      refine wp_ret ?_
      refine bodyPost_ret (v := .bool true) (gRes1 rfl (gResTmp (t := 12) (v := .bool true) (by kernel_rfl))) rfl ?_
      exact ⟨by first | rfl | simp_all, hm66.bel⟩
    · rw [h28]
      refine plVal (i := 3) (v := .tuple #[.agg (ccs ((mCommon a b).1)).toArray, .bool true]) rfl (by kernel_rfl) (by kernel_rfl) ?_
      refine plVal (i := 4) (v := .agg (ccs ((mCommon a b).1)).toArray) rfl (by kernel_rfl) (by kernel_rfl) ?_
      simp only [Act.put, List.setIfInBounds_toArray, List.set_cons_succ, List.set_cons_zero]
      refine plVal (i := 5) (v := .bool true) rfl (by kernel_rfl) (by kernel_rfl) ?_
      refine plAlloc (z := [.int .i64 0, .int .i64 0, .int .i64 0, .int .i64 0]) Ty.ag_voxel_api_Cube hm27 (i := 6) rfl (by kernel_rfl) rfl ?_
      intro g67 w69 hm68
      clear hm27
      simp only [List.cons_append, List.nil_append, List.set_cons_succ, List.set_cons_zero] at hm68
      simp only [Act.put, List.setIfInBounds_toArray, List.set_cons_succ, List.set_cons_zero]
      refine plStore 4 Ty.ag_voxel_api_Cube hm68 rfl (i := 7) (cs := ccs ((mCommon a b).1)) rfl (by kernel_rfl) rfl (by kernel_rfl) (by kernel_rfl) rfl rfl (by kernel_rfl) ?_
      intro w71 hm70
      clear hm68
      simp only [List.cons_append, List.nil_append, List.set_cons_succ, List.set_cons_zero] at hm70
      refine plVal (i := 8) (v := .bool true) rfl (by kernel_rfl) (by kernel_rfl) ?_
      refine plDone (by decide) ?_
      simp only [Act.put, List.setIfInBounds_toArray, List.set_cons_succ, List.set_cons_zero]
      refine then_normal (hK25 _ _ ?_)
      refine wp_seq_k fun K72 hK72 => ?_
      refine plStart ?_
      refine plVal (i := 0) (v := .agg (pcs a).toArray) rfl (by kernel_rfl) (gLoadAg (vs := pcs a) (k := 0) 0 hm70 rfl (by kernel_rfl) (by kernel_rfl) (.tmp 6) Ty.ag_voxel_api_Point rfl (by kernel_rfl)) ?_
      refine plVal (i := 1) (v := .agg (pcs b).toArray) rfl (by kernel_rfl) (gLoadAg (vs := pcs b) (k := 0) 1 hm70 rfl (by kernel_rfl) (by kernel_rfl) (.tmp 7) Ty.ag_voxel_api_Point rfl (by kernel_rfl)) ?_
      simp only [Act.put, List.setIfInBounds_toArray, List.set_cons_succ, List.set_cons_zero]
      refine plCall (i := 2) 12 [.agg (pcs a).toArray, .agg (pcs b).toArray] [] [] rfl (by kernel_rfl) (by kernel_rfl) rfl (by kernel_rfl) (by kernel_rfl) (refCommon_any a b _) ?_
      rintro e w73 ⟨rfl, hbz⟩
      have hm74 := hm70.below hbz
      clear hbz hm70
      rw [h28]
      refine ⟨_, rfl, ?_⟩
      refine plVal (i := 3) (v := .tuple #[.agg (ccs ((mCommon a b).1)).toArray, .bool true]) rfl (by kernel_rfl) (by kernel_rfl) ?_
      simp only [Act.put, List.setIfInBounds_toArray, List.set_cons_succ, List.set_cons_zero]
      refine plVal (i := 4) (v := .agg (ccs ((mCommon a b).1)).toArray) rfl (by kernel_rfl) (by kernel_rfl) ?_
      refine plVal (i := 5) (v := .bool true) rfl (by kernel_rfl) (by kernel_rfl) ?_
      simp only [Act.put, List.setIfInBounds_toArray, List.set_cons_succ, List.set_cons_zero]
      refine plAlloc (z := [.int .i64 0, .int .i64 0, .int .i64 0, .int .i64 0]) Ty.ag_voxel_api_Cube hm74 (i := 6) rfl (by kernel_rfl) rfl ?_
      intro g75 w77 hm76
      clear hm74
      simp only [List.cons_append, List.nil_append, List.set_cons_succ, List.set_cons_zero] at hm76
      refine plStore 5 Ty.ag_voxel_api_Cube hm76 rfl (i := 7) (cs := ccs ((mCommon a b).1)) rfl (by kernel_rfl) rfl (by kernel_rfl) (by kernel_rfl) rfl rfl (by kernel_rfl) ?_
      intro w79 hm78
      clear hm76
      simp only [List.cons_append, List.nil_append, List.set_cons_succ, List.set_cons_zero] at hm78
      simp only [Act.put, List.setIfInBounds_toArray, List.set_cons_succ, List.set_cons_zero]
      refine plVal (i := 8) (v := .bool true) rfl (by kernel_rfl) (by kernel_rfl) ?_
      refine plDone (by decide) ?_
      simp only [Act.put, List.setIfInBounds_toArray, List.set_cons_succ, List.set_cons_zero]
      refine then_normal (hK72 _ _ ?_)
      refine wp_seq_k fun K80 hK80 => ?_
      refine mgStart hm78 (by kernel_rfl) ?_
      intro w82 hm81
      clear hm78
      refine mgTake (i := 0) (v := .agg (pcs a).toArray) rfl (by kernel_rfl) (by kernel_rfl) (fun _ _ _ h => h) hm81 (fun w_ h_ => gLoadAg (vs := pcs a) (k := 0) 0 h_ rfl (by kernel_rfl) (by kernel_rfl) (.tmp 6) Ty.ag_voxel_api_Point rfl (by kernel_rfl)) ?_
      refine mgTake (i := 2) (v := .agg (pcs a).toArray) rfl (by kernel_rfl) (by kernel_rfl) (fun _ _ _ h => h) hm81 (fun w_ h_ => gLoadAg (vs := pcs a) (k := 0) 0 h_ rfl (by kernel_rfl) (by kernel_rfl) (.tmp 6) Ty.ag_voxel_api_Point rfl (by kernel_rfl)) ?_
      simp only [Act.put, List.setIfInBounds_toArray, List.set_cons_succ, List.set_cons_zero]
      refine mgCall (i := 1) 13 [.agg (pcs a).toArray] [] [] (by kernel_rfl) rfl (by kernel_rfl) (by kernel_rfl) rfl (by kernel_rfl) (by kernel_rfl) (encode_any a _) ?_
      rintro e w83 ⟨rfl, hbz⟩
      have hm84 := hm81.below hbz
      clear hbz hm81
      refine ⟨_, rfl, hm84, ?_⟩
      simp only [Act.put, List.setIfInBounds_toArray, List.set_cons_succ, List.set_cons_zero]
      refine mgCall (i := 3) 14 [.agg (pcs a).toArray] [] [] (by kernel_rfl) rfl (by kernel_rfl) (by kernel_rfl) rfl (by kernel_rfl) (by kernel_rfl) (refEncode_any a _) ?_
      rintro e w85 ⟨rfl, hbz⟩
      have hm86 := hm84.below hbz
      clear hbz hm84
      refine ⟨_, rfl, hm86, ?_⟩
      refine mgTake (i := 4) (v := .bool true) rfl (by kernel_rfl) (by kernel_rfl) (fun _ _ _ h => h) hm86 (fun w_ h_ => boolTo (by simp) (eqlRun (A := (mEnc a)) (B := (mEnc a)) (.tmp 46) (.tmp 48) rfl (by kernel_rfl) (by kernel_rfl))) ?_
      simp only [Act.put, List.setIfInBounds_toArray, List.set_cons_succ, List.set_cons_zero]
      refine mgTake (i := 5) (v := .bool true) rfl (by kernel_rfl) (by kernel_rfl) (fun _ _ _ h => h) hm86 (fun w_ h_ => by kernel_rfl) ?_
      refine mgTake (i := 6) (v := .agg (pcs ((mDec n).1)).toArray) rfl (by kernel_rfl) (by kernel_rfl) (fun _ _ _ h => h) hm86 (fun w_ h_ => gLoadAg (vs := pcs ((mDec n).1)) (k := 0) 2 h_ rfl (by kernel_rfl) (by kernel_rfl) (.tmp 13) Ty.ag_voxel_api_Point rfl (by kernel_rfl)) ?_
      simp only [Act.put, List.setIfInBounds_toArray, List.set_cons_succ, List.set_cons_zero]
      refine mgTake (i := 7) (v := .agg (pcs ((mDec n).1)).toArray) rfl (by kernel_rfl) (by kernel_rfl) (fun _ _ _ h => h) hm86 (fun w_ h_ => gLoadAg (vs := pcs ((mDec n).1)) (k := 0) 3 h_ rfl (by kernel_rfl) (by kernel_rfl) (.tmp 15) Ty.ag_voxel_api_Point rfl (by kernel_rfl)) ?_
      refine mgTake (i := 8) (v := .bool true) rfl (by kernel_rfl) (by kernel_rfl) (fun _ _ _ h => h) hm86 (fun w_ h_ => boolTo (decide_eq_true rfl) (eqPtRun (.tmp 51) (.tmp 52) ((mDec n).1) ((mDec n).1) rfl (by kernel_rfl) (by kernel_rfl))) ?_
      simp only [Act.put, List.setIfInBounds_toArray, List.set_cons_succ, List.set_cons_zero]
      refine mgTake (i := 9) (v := .bool true) rfl (by kernel_rfl) (by kernel_rfl) (fun _ _ _ h => h) hm86 (fun w_ h_ => by kernel_rfl) ?_
      refine mgTake (i := 10) (v := .bool true) rfl (by kernel_rfl) (by kernel_rfl) (fun _ _ _ h => h) hm86 (fun w_ h_ => by kernel_rfl) ?_
      simp only [Act.put, List.setIfInBounds_toArray, List.set_cons_succ, List.set_cons_zero]
      refine mgTake (i := 11) (v := .bool false) rfl (by kernel_rfl) (by kernel_rfl) (fun _ _ _ h => h) hm86 (fun w_ h_ => by kernel_rfl) ?_
      refine mgTake (i := 12) (v := .bool false) rfl (by kernel_rfl) (by kernel_rfl) (fun _ _ _ h => h) hm86 (fun w_ h_ => by kernel_rfl) ?_
      simp only [Act.put, List.setIfInBounds_toArray, List.set_cons_succ, List.set_cons_zero]
      refine mgTake (i := 13) (v := .bool true) rfl (by kernel_rfl) (by kernel_rfl) (fun _ _ _ h => h) hm86 (fun w_ h_ => by kernel_rfl) ?_
      refine mgTake (i := 14) (v := .bool true) rfl (by kernel_rfl) (by kernel_rfl) (fun _ _ _ h => h) hm86 (fun w_ h_ => by kernel_rfl) ?_
      simp only [Act.put, List.setIfInBounds_toArray, List.set_cons_succ, List.set_cons_zero]
      refine mgTake (i := 15) (v := .bool true) rfl (by kernel_rfl) (by kernel_rfl) (fun _ _ _ h => h) hm86 (fun w_ h_ => by kernel_rfl) ?_
      refine mgTake (i := 16) (v := .agg (pcs a).toArray) rfl (by kernel_rfl) (by kernel_rfl) (fun _ _ _ h => h) hm86 (fun w_ h_ => gLoadAg (vs := pcs a) (k := 0) 0 h_ rfl (by kernel_rfl) (by kernel_rfl) (.tmp 6) Ty.ag_voxel_api_Point rfl (by kernel_rfl)) ?_
      simp only [Act.put, List.setIfInBounds_toArray, List.set_cons_succ, List.set_cons_zero]
      refine mgTake (i := 17) (v := .agg (pcs b).toArray) rfl (by kernel_rfl) (by kernel_rfl) (fun _ _ _ h => h) hm86 (fun w_ h_ => gLoadAg (vs := pcs b) (k := 0) 1 h_ rfl (by kernel_rfl) (by kernel_rfl) (.tmp 7) Ty.ag_voxel_api_Point rfl (by kernel_rfl)) ?_
      refine mgTake (i := 19) (v := .agg (pcs a).toArray) rfl (by kernel_rfl) (by kernel_rfl) (fun _ _ _ h => h) hm86 (fun w_ h_ => gLoadAg (vs := pcs a) (k := 0) 0 h_ rfl (by kernel_rfl) (by kernel_rfl) (.tmp 6) Ty.ag_voxel_api_Point rfl (by kernel_rfl)) ?_
      simp only [Act.put, List.setIfInBounds_toArray, List.set_cons_succ, List.set_cons_zero]
      refine mgTake (i := 20) (v := .agg (pcs b).toArray) rfl (by kernel_rfl) (by kernel_rfl) (fun _ _ _ h => h) hm86 (fun w_ h_ => gLoadAg (vs := pcs b) (k := 0) 1 h_ rfl (by kernel_rfl) (by kernel_rfl) (.tmp 7) Ty.ag_voxel_api_Point rfl (by kernel_rfl)) ?_
      simp only [Act.put, List.setIfInBounds_toArray, List.set_cons_succ, List.set_cons_zero]
      refine mgCall (i := 18) 15 [.agg (pcs a).toArray, .agg (pcs b).toArray] [] [] (by kernel_rfl) rfl (by kernel_rfl) (by kernel_rfl) rfl (by kernel_rfl) (by kernel_rfl) (compare_any a b _) ?_
      rintro e w87 ⟨rfl, hbz⟩
      have hm88 := hm86.below hbz
      clear hbz hm86
      refine ⟨_, rfl, hm88, ?_⟩
      simp only [Act.put, List.setIfInBounds_toArray, List.set_cons_succ, List.set_cons_zero]
      refine mgCall (i := 21) 16 [.agg (pcs a).toArray, .agg (pcs b).toArray] [] [] (by kernel_rfl) rfl (by kernel_rfl) (by kernel_rfl) rfl (by kernel_rfl) (by kernel_rfl) (refCompare_any a b _) ?_
      rintro e w89 ⟨rfl, hbz⟩
      have hm90 := hm88.below hbz
      clear hbz hm88
      refine ⟨_, rfl, hm90, ?_⟩
      refine mgTake (i := 22) (v := .bool true) rfl (by kernel_rfl) (by kernel_rfl) (fun _ _ _ h => h) hm90 (fun w_ h_ => boolTo (by simp) (eqlRun (A := (mCmp a b)) (B := (mCmp a b)) (.tmp 63) (.tmp 66) rfl (by kernel_rfl) (by kernel_rfl))) ?_
      simp only [Act.put, List.setIfInBounds_toArray, List.set_cons_succ, List.set_cons_zero]
      refine mgTake (i := 23) (v := .bool true) rfl (by kernel_rfl) (by kernel_rfl) (fun _ _ _ h => h) hm90 (fun w_ h_ => by kernel_rfl) ?_
      refine mgTake (i := 24) (v := .bool true) rfl (by kernel_rfl) (by kernel_rfl) (fun _ _ _ h => h) hm90 (fun w_ h_ => by kernel_rfl) ?_
      refine mgDone (by kernel_rfl) ?_
      simp only [Act.put, List.setIfInBounds_toArray, List.set_cons_succ, List.set_cons_zero]
      refine then_normal (hK80 _ _ ?_)
      refine wp_seq_k fun K91 hK91 => ?_
      refine mgStart hm90 (by kernel_rfl) ?_
      intro w93 hm92
      clear hm90
      refine mgTake (i := 0) (v := .agg (pcs a).toArray) rfl (by kernel_rfl) (by kernel_rfl) (fun _ _ _ h => h) hm92 (fun w_ h_ => gLoadAg (vs := pcs a) (k := 0) 0 h_ rfl (by kernel_rfl) (by kernel_rfl) (.tmp 6) Ty.ag_voxel_api_Point rfl (by kernel_rfl)) ?_
      refine mgTake (i := 1) (v := .int .i64 level) rfl (by kernel_rfl) (by kernel_rfl) (fun _ _ _ h => h) hm92 (fun w_ h_ => by kernel_rfl) ?_
      simp only [Act.put, List.setIfInBounds_toArray, List.set_cons_succ, List.set_cons_zero]
      refine mgTake (i := 3) (v := .agg (pcs a).toArray) rfl (by kernel_rfl) (by kernel_rfl) (fun _ _ _ h => h) hm92 (fun w_ h_ => gLoadAg (vs := pcs a) (k := 0) 0 h_ rfl (by kernel_rfl) (by kernel_rfl) (.tmp 6) Ty.ag_voxel_api_Point rfl (by kernel_rfl)) ?_
      refine mgTake (i := 4) (v := .int .i64 level) rfl (by kernel_rfl) (by kernel_rfl) (fun _ _ _ h => h) hm92 (fun w_ h_ => by kernel_rfl) ?_
      simp only [Act.put, List.setIfInBounds_toArray, List.set_cons_succ, List.set_cons_zero]
      refine mgCall (i := 2) 17 [.agg (pcs a).toArray, .int .i64 level] [] [] (by kernel_rfl) rfl (by kernel_rfl) (by kernel_rfl) rfl (by kernel_rfl) (by kernel_rfl) (octant_any a level _) ?_
      rintro e w94 ⟨rfl, hbz⟩
      have hm95 := hm92.below hbz
      clear hbz hm92
      refine ⟨_, rfl, hm95, ?_⟩
      simp only [Act.put, List.setIfInBounds_toArray, List.set_cons_succ, List.set_cons_zero]
      refine mgCall (i := 5) 18 [.agg (pcs a).toArray, .int .i64 level] [] [] (by kernel_rfl) rfl (by kernel_rfl) (by kernel_rfl) rfl (by kernel_rfl) (by kernel_rfl) (refOctant_any a level _) ?_
      rintro e w96 ⟨rfl, hbz⟩
      have hm97 := hm95.below hbz
      clear hbz hm95
      refine ⟨_, rfl, hm97, ?_⟩
      refine mgTake (i := 6) (v := .bool true) rfl (by kernel_rfl) (by kernel_rfl) (fun _ _ _ h => h) hm97 (fun w_ h_ => boolTo (by simp) (eqlRun (A := (mOct a level)) (B := (mOct a level)) (.tmp 71) (.tmp 74) rfl (by kernel_rfl) (by kernel_rfl))) ?_
      simp only [Act.put, List.setIfInBounds_toArray, List.set_cons_succ, List.set_cons_zero]
      refine mgTake (i := 7) (v := .bool true) rfl (by kernel_rfl) (by kernel_rfl) (fun _ _ _ h => h) hm97 (fun w_ h_ => by kernel_rfl) ?_
      refine mgTake (i := 8) (v := .int .i64 n) rfl (by kernel_rfl) (by kernel_rfl) (fun _ _ _ h => h) hm97 (fun w_ h_ => by kernel_rfl) ?_
      simp only [Act.put, List.setIfInBounds_toArray, List.set_cons_succ, List.set_cons_zero]
      refine mgTake (i := 9) (v := .int .i64 axis) rfl (by kernel_rfl) (by kernel_rfl) (fun _ _ _ h => h) hm97 (fun w_ h_ => by kernel_rfl) ?_
      refine mgTake (i := 10) (v := .bool up) rfl (by kernel_rfl) (by kernel_rfl) (fun _ _ _ h => h) hm97 (fun w_ h_ => by kernel_rfl) ?_
      simp only [Act.put, List.setIfInBounds_toArray, List.set_cons_succ, List.set_cons_zero]
      refine mgTake (i := 12) (v := .int .i64 n) rfl (by kernel_rfl) (by kernel_rfl) (fun _ _ _ h => h) hm97 (fun w_ h_ => by kernel_rfl) ?_
      refine mgTake (i := 13) (v := .int .i64 axis) rfl (by kernel_rfl) (by kernel_rfl) (fun _ _ _ h => h) hm97 (fun w_ h_ => by kernel_rfl) ?_
      simp only [Act.put, List.setIfInBounds_toArray, List.set_cons_succ, List.set_cons_zero]
      refine mgTake (i := 14) (v := .bool up) rfl (by kernel_rfl) (by kernel_rfl) (fun _ _ _ h => h) hm97 (fun w_ h_ => by kernel_rfl) ?_
      simp only [Act.put, List.setIfInBounds_toArray, List.set_cons_succ, List.set_cons_zero]
      refine mgCall (i := 11) 19 [.int .i64 n, .int .i64 axis, .bool up] [] [] (by kernel_rfl) rfl (by kernel_rfl) (by kernel_rfl) rfl (by kernel_rfl) (by kernel_rfl) (neighbour_any n axis up _) ?_
      rintro e w98 ⟨rfl, hbz⟩
      have hm99 := hm97.below hbz
      clear hbz hm97
      refine ⟨_, rfl, hm99, ?_⟩
      simp only [Act.put, List.setIfInBounds_toArray, List.set_cons_succ, List.set_cons_zero]
      refine mgCall (i := 15) 20 [.int .i64 n, .int .i64 axis, .bool up] [] [] (by kernel_rfl) rfl (by kernel_rfl) (by kernel_rfl) rfl (by kernel_rfl) (by kernel_rfl) (refNeighbour_any n axis up _) ?_
      rintro e w100 ⟨rfl, hbz⟩
      have hm101 := hm99.below hbz
      clear hbz hm99
      refine ⟨_, rfl, hm101, ?_⟩
      refine mgTake (i := 16) (v := .bool true) rfl (by kernel_rfl) (by kernel_rfl) (fun _ _ _ h => h) hm101 (fun w_ h_ => boolTo (by simp) (eqlRun (A := (mNb n axis up)) (B := (mNb n axis up)) (.tmp 80) (.tmp 84) rfl (by kernel_rfl) (by kernel_rfl))) ?_
      simp only [Act.put, List.setIfInBounds_toArray, List.set_cons_succ, List.set_cons_zero]
      refine mgTake (i := 17) (v := .bool true) rfl (by kernel_rfl) (by kernel_rfl) (fun _ _ _ h => h) hm101 (fun w_ h_ => by kernel_rfl) ?_
      refine mgTake (i := 18) (v := .bool true) rfl (by kernel_rfl) (by kernel_rfl) (fun _ _ _ h => h) hm101 (fun w_ h_ => by kernel_rfl) ?_
      simp only [Act.put, List.setIfInBounds_toArray, List.set_cons_succ, List.set_cons_zero]
      refine mgTake (i := 19) (v := .agg (ccs ((mCommon a b).1)).toArray) rfl (by kernel_rfl) (by kernel_rfl) (fun _ _ _ h => h) hm101 (fun w_ h_ => gLoadAg (vs := ccs ((mCommon a b).1)) (k := 0) 4 h_ rfl (by kernel_rfl) (by kernel_rfl) (.tmp 17) Ty.ag_voxel_api_Cube rfl (by kernel_rfl)) ?_
      refine mgTake (i := 20) (v := .agg (ccs ((mCommon a b).1)).toArray) rfl (by kernel_rfl) (by kernel_rfl) (fun _ _ _ h => h) hm101 (fun w_ h_ => gLoadAg (vs := ccs ((mCommon a b).1)) (k := 0) 5 h_ rfl (by kernel_rfl) (by kernel_rfl) (.tmp 19) Ty.ag_voxel_api_Cube rfl (by kernel_rfl)) ?_
      simp only [Act.put, List.setIfInBounds_toArray, List.set_cons_succ, List.set_cons_zero]
      refine mgTake (i := 21) (v := .bool true) rfl (by kernel_rfl) (by kernel_rfl) (fun _ _ _ h => h) hm101 (fun w_ h_ => boolTo (decide_eq_true rfl) (eqlCuRun (.tmp 88) (.tmp 89) ((mCommon a b).1) ((mCommon a b).1) rfl (by kernel_rfl) (by kernel_rfl))) ?_
      refine mgTake (i := 22) (v := .bool true) rfl (by kernel_rfl) (by kernel_rfl) (fun _ _ _ h => h) hm101 (fun w_ h_ => by kernel_rfl) ?_
      simp only [Act.put, List.setIfInBounds_toArray, List.set_cons_succ, List.set_cons_zero]
      refine mgTake (i := 23) (v := .bool true) rfl (by kernel_rfl) (by kernel_rfl) (fun _ _ _ h => h) hm101 (fun w_ h_ => by kernel_rfl) ?_
      refine mgTake (i := 24) (v := .bool true) rfl (by kernel_rfl) (by kernel_rfl) (fun _ _ _ h => h) hm101 (fun w_ h_ => by kernel_rfl) ?_
      simp only [Act.put, List.setIfInBounds_toArray, List.set_cons_succ, List.set_cons_zero]
      refine mgTake (i := 25) (v := .bool true) rfl (by kernel_rfl) (by kernel_rfl) (fun _ _ _ h => h) hm101 (fun w_ h_ => by kernel_rfl) ?_
      refine mgTake (i := 26) (v := .bool true) rfl (by kernel_rfl) (by kernel_rfl) (fun _ _ _ h => h) hm101 (fun w_ h_ => by kernel_rfl) ?_
      simp only [Act.put, List.setIfInBounds_toArray, List.set_cons_succ, List.set_cons_zero]
      refine mgTake (i := 27) (v := .bool true) rfl (by kernel_rfl) (by kernel_rfl) (fun _ _ _ h => h) hm101 (fun w_ h_ => by kernel_rfl) ?_
      refine mgTake (i := 28) (v := .bool true) rfl (by kernel_rfl) (by kernel_rfl) (fun _ _ _ h => h) hm101 (fun w_ h_ => by kernel_rfl) ?_
      refine mgDone (by kernel_rfl) ?_
      simp only [Act.put, List.setIfInBounds_toArray, List.set_cons_succ, List.set_cons_zero]
      refine then_normal (hK91 _ _ ?_)
      refine wp_seq_k fun K102 hK102 => ?_
      refine plStart ?_
      refine plCall (i := 0) 21 [] [] [] rfl (by kernel_rfl) (by kernel_rfl) rfl (by kernel_rfl) (by kernel_rfl) (sanity_any _) ?_
      rintro e w103 ⟨rfl, hbz⟩
      have hm104 := hm101.below hbz
      clear hbz hm101
      refine ⟨_, rfl, ?_⟩
      refine plVal (i := 1) (v := .bool true) rfl (by kernel_rfl) (by kernel_rfl) ?_
      simp only [Act.put, List.setIfInBounds_toArray, List.set_cons_succ, List.set_cons_zero]
      refine plVal (i := 2) (v := .bool true) rfl (by kernel_rfl) (by kernel_rfl) ?_
      refine plVal (i := 3) (v := .bool true) rfl (by kernel_rfl) (by kernel_rfl) ?_
      simp only [Act.put, List.setIfInBounds_toArray, List.set_cons_succ, List.set_cons_zero]
      refine plVal (i := 4) (v := .bool true) rfl (by kernel_rfl) (by kernel_rfl) ?_
      refine plVal (i := 5) (v := .bool true) rfl (by kernel_rfl) (by kernel_rfl) ?_
      simp only [Act.put, List.setIfInBounds_toArray, List.set_cons_succ, List.set_cons_zero]
      refine plVal (i := 6) (v := .bool true) rfl (by kernel_rfl) (by kernel_rfl) ?_
      refine plVal (i := 7) (v := .bool true) rfl (by kernel_rfl) (by kernel_rfl) ?_
      refine plDone (by decide) ?_
      simp only [Act.put, List.setIfInBounds_toArray, List.set_cons_succ, List.set_cons_zero]
      refine then_normal (hK102 _ _ ?_)
      refine wp_ret ?_
      refine bodyPost_ret (v := .bool true) (gRes1 rfl (gResTmp (t := 12) (v := .bool true) (by kernel_rfl))) rfl ?_
      exact ⟨by first | rfl | simp_all, hm104.bel⟩
  · rw [h11]
    refine plVal (i := 2) (v := .tuple #[.agg (pcs ((mDec n).1)).toArray, .bool true]) rfl (by kernel_rfl) (by kernel_rfl) ?_
    refine plVal (i := 3) (v := .agg (pcs ((mDec n).1)).toArray) rfl (by kernel_rfl) (by kernel_rfl) ?_
    simp only [Act.put, List.setIfInBounds_toArray, List.set_cons_succ, List.set_cons_zero]
    refine plVal (i := 4) (v := .bool true) rfl (by kernel_rfl) (by kernel_rfl) ?_
    refine plAlloc (z := [.int .i64 0, .int .i64 0, .int .i64 0]) Ty.ag_voxel_api_Point hm10 (i := 5) rfl (by kernel_rfl) rfl ?_
    intro g105 w107 hm106
    clear hm10
    simp only [List.cons_append, List.nil_append, List.set_cons_succ, List.set_cons_zero] at hm106
    simp only [Act.put, List.setIfInBounds_toArray, List.set_cons_succ, List.set_cons_zero]
    refine plStore 2 Ty.ag_voxel_api_Point hm106 rfl (i := 6) (cs := pcs ((mDec n).1)) rfl (by kernel_rfl) rfl (by kernel_rfl) (by kernel_rfl) rfl rfl (by kernel_rfl) ?_
    intro w109 hm108
    clear hm106
    simp only [List.cons_append, List.nil_append, List.set_cons_succ, List.set_cons_zero] at hm108
    refine plVal (i := 7) (v := .bool true) rfl (by kernel_rfl) (by kernel_rfl) ?_
    refine plDone (by decide) ?_
    simp only [Act.put, List.setIfInBounds_toArray, List.set_cons_succ, List.set_cons_zero]
    refine then_normal (hK8 _ _ ?_)
    refine wp_seq_k fun K110 hK110 => ?_
    refine plStart ?_
    refine plVal (i := 0) (v := .int .i64 n) rfl (by kernel_rfl) (by kernel_rfl) ?_
    simp only [Act.put, List.setIfInBounds_toArray, List.set_cons_succ, List.set_cons_zero]
    refine plCall (i := 1) 10 [.int .i64 n] [] [] rfl (by kernel_rfl) (by kernel_rfl) rfl (by kernel_rfl) (by kernel_rfl) (refDecode_any n _) ?_
    rintro e w111 ⟨rfl, hbz⟩
    have hm112 := hm108.below hbz
    clear hbz hm108
    rw [h11]
    refine ⟨_, rfl, ?_⟩
    refine plVal (i := 2) (v := .tuple #[.agg (pcs ((mDec n).1)).toArray, .bool true]) rfl (by kernel_rfl) (by kernel_rfl) ?_
    simp only [Act.put, List.setIfInBounds_toArray, List.set_cons_succ, List.set_cons_zero]
    refine plVal (i := 3) (v := .agg (pcs ((mDec n).1)).toArray) rfl (by kernel_rfl) (by kernel_rfl) ?_
    refine plVal (i := 4) (v := .bool true) rfl (by kernel_rfl) (by kernel_rfl) ?_
    simp only [Act.put, List.setIfInBounds_toArray, List.set_cons_succ, List.set_cons_zero]
    refine plAlloc (z := [.int .i64 0, .int .i64 0, .int .i64 0]) Ty.ag_voxel_api_Point hm112 (i := 5) rfl (by kernel_rfl) rfl ?_
    intro g113 w115 hm114
    clear hm112
    simp only [List.cons_append, List.nil_append, List.set_cons_succ, List.set_cons_zero] at hm114
    refine plStore 3 Ty.ag_voxel_api_Point hm114 rfl (i := 6) (cs := pcs ((mDec n).1)) rfl (by kernel_rfl) rfl (by kernel_rfl) (by kernel_rfl) rfl rfl (by kernel_rfl) ?_
    intro w117 hm116
    clear hm114
    simp only [List.cons_append, List.nil_append, List.set_cons_succ, List.set_cons_zero] at hm116
    simp only [Act.put, List.setIfInBounds_toArray, List.set_cons_succ, List.set_cons_zero]
    refine plVal (i := 7) (v := .bool true) rfl (by kernel_rfl) (by kernel_rfl) ?_
    refine plDone (by decide) ?_
    simp only [Act.put, List.setIfInBounds_toArray, List.set_cons_succ, List.set_cons_zero]
    refine then_normal (hK110 _ _ ?_)
    refine wp_seq_k fun K118 hK118 => ?_
    refine plStart ?_
    refine plVal (i := 0) (v := .agg (pcs a).toArray) rfl (by kernel_rfl) (gLoadAg (vs := pcs a) (k := 0) 0 hm116 rfl (by kernel_rfl) (by kernel_rfl) (.tmp 6) Ty.ag_voxel_api_Point rfl (by kernel_rfl)) ?_
    refine plVal (i := 1) (v := .agg (pcs b).toArray) rfl (by kernel_rfl) (gLoadAg (vs := pcs b) (k := 0) 1 hm116 rfl (by kernel_rfl) (by kernel_rfl) (.tmp 7) Ty.ag_voxel_api_Point rfl (by kernel_rfl)) ?_
    simp only [Act.put, List.setIfInBounds_toArray, List.set_cons_succ, List.set_cons_zero]
    refine plCall (i := 2) 11 [.agg (pcs a).toArray, .agg (pcs b).toArray] [] [] rfl (by kernel_rfl) (by kernel_rfl) rfl (by kernel_rfl) (by kernel_rfl) (common_any a b _) ?_
    rintro e w119 ⟨rfl, hbz⟩
    have hm120 := hm116.below hbz
    clear hbz hm116
    refine ⟨_, rfl, ?_⟩
    simp only [Act.put, List.setIfInBounds_toArray, List.set_cons_succ, List.set_cons_zero]
    rcases bool_or ((mCommon a b).2) with h121 | h121
    · rw [h121]
      refine plVal (i := 3) (v := .tuple #[.agg (ccs ((mCommon a b).1)).toArray, .bool false]) rfl (by kernel_rfl) (by kernel_rfl) ?_
      refine plVal (i := 4) (v := .agg (ccs ((mCommon a b).1)).toArray) rfl (by kernel_rfl) (by kernel_rfl) ?_
      simp only [Act.put, List.setIfInBounds_toArray, List.set_cons_succ, List.set_cons_zero]
      refine plVal (i := 5) (v := .bool false) rfl (by kernel_rfl) (by kernel_rfl) ?_
      refine plAlloc (z := [.int .i64 0, .int .i64 0, .int .i64 0, .int .i64 0]) Ty.ag_voxel_api_Cube hm120 (i := 6) rfl (by kernel_rfl) rfl ?_
      intro g122 w124 hm123
      clear hm120
      simp only [List.cons_append, List.nil_append, List.set_cons_succ, List.set_cons_zero] at hm123
      simp only [Act.put, List.setIfInBounds_toArray, List.set_cons_succ, List.set_cons_zero]
      refine plStore 4 Ty.ag_voxel_api_Cube hm123 rfl (i := 7) (cs := ccs ((mCommon a b).1)) rfl (by kernel_rfl) rfl (by kernel_rfl) (by kernel_rfl) rfl rfl (by kernel_rfl) ?_
      intro w126 hm125
      clear hm123
      simp only [List.cons_append, List.nil_append, List.set_cons_succ, List.set_cons_zero] at hm125
      refine plVal (i := 8) (v := .bool false) rfl (by kernel_rfl) (by kernel_rfl) ?_
      refine plDone (by decide) ?_
      simp only [Act.put, List.setIfInBounds_toArray, List.set_cons_succ, List.set_cons_zero]
      refine then_normal (hK118 _ _ ?_)
      refine wp_seq_k fun K127 hK127 => ?_
      refine plStart ?_
      refine plVal (i := 0) (v := .agg (pcs a).toArray) rfl (by kernel_rfl) (gLoadAg (vs := pcs a) (k := 0) 0 hm125 rfl (by kernel_rfl) (by kernel_rfl) (.tmp 6) Ty.ag_voxel_api_Point rfl (by kernel_rfl)) ?_
      refine plVal (i := 1) (v := .agg (pcs b).toArray) rfl (by kernel_rfl) (gLoadAg (vs := pcs b) (k := 0) 1 hm125 rfl (by kernel_rfl) (by kernel_rfl) (.tmp 7) Ty.ag_voxel_api_Point rfl (by kernel_rfl)) ?_
      simp only [Act.put, List.setIfInBounds_toArray, List.set_cons_succ, List.set_cons_zero]
      refine plCall (i := 2) 12 [.agg (pcs a).toArray, .agg (pcs b).toArray] [] [] rfl (by kernel_rfl) (by kernel_rfl) rfl (by kernel_rfl) (by kernel_rfl) (refCommon_any a b _) ?_
      rintro e w128 ⟨rfl, hbz⟩
      have hm129 := hm125.below hbz
      clear hbz hm125
      rw [h121]
      refine ⟨_, rfl, ?_⟩
      refine plVal (i := 3) (v := .tuple #[.agg (ccs ((mCommon a b).1)).toArray, .bool false]) rfl (by kernel_rfl) (by kernel_rfl) ?_
      simp only [Act.put, List.setIfInBounds_toArray, List.set_cons_succ, List.set_cons_zero]
      refine plVal (i := 4) (v := .agg (ccs ((mCommon a b).1)).toArray) rfl (by kernel_rfl) (by kernel_rfl) ?_
      refine plVal (i := 5) (v := .bool false) rfl (by kernel_rfl) (by kernel_rfl) ?_
      simp only [Act.put, List.setIfInBounds_toArray, List.set_cons_succ, List.set_cons_zero]
      refine plAlloc (z := [.int .i64 0, .int .i64 0, .int .i64 0, .int .i64 0]) Ty.ag_voxel_api_Cube hm129 (i := 6) rfl (by kernel_rfl) rfl ?_
      intro g130 w132 hm131
      clear hm129
      simp only [List.cons_append, List.nil_append, List.set_cons_succ, List.set_cons_zero] at hm131
      refine plStore 5 Ty.ag_voxel_api_Cube hm131 rfl (i := 7) (cs := ccs ((mCommon a b).1)) rfl (by kernel_rfl) rfl (by kernel_rfl) (by kernel_rfl) rfl rfl (by kernel_rfl) ?_
      intro w134 hm133
      clear hm131
      simp only [List.cons_append, List.nil_append, List.set_cons_succ, List.set_cons_zero] at hm133
      simp only [Act.put, List.setIfInBounds_toArray, List.set_cons_succ, List.set_cons_zero]
      refine plVal (i := 8) (v := .bool false) rfl (by kernel_rfl) (by kernel_rfl) ?_
      refine plDone (by decide) ?_
      simp only [Act.put, List.setIfInBounds_toArray, List.set_cons_succ, List.set_cons_zero]
      refine then_normal (hK127 _ _ ?_)
      refine wp_seq_k fun K135 hK135 => ?_
      refine mgStart hm133 (by kernel_rfl) ?_
      intro w137 hm136
      clear hm133
      refine mgTake (i := 0) (v := .agg (pcs a).toArray) rfl (by kernel_rfl) (by kernel_rfl) (fun _ _ _ h => h) hm136 (fun w_ h_ => gLoadAg (vs := pcs a) (k := 0) 0 h_ rfl (by kernel_rfl) (by kernel_rfl) (.tmp 6) Ty.ag_voxel_api_Point rfl (by kernel_rfl)) ?_
      refine mgTake (i := 2) (v := .agg (pcs a).toArray) rfl (by kernel_rfl) (by kernel_rfl) (fun _ _ _ h => h) hm136 (fun w_ h_ => gLoadAg (vs := pcs a) (k := 0) 0 h_ rfl (by kernel_rfl) (by kernel_rfl) (.tmp 6) Ty.ag_voxel_api_Point rfl (by kernel_rfl)) ?_
      simp only [Act.put, List.setIfInBounds_toArray, List.set_cons_succ, List.set_cons_zero]
      refine mgCall (i := 1) 13 [.agg (pcs a).toArray] [] [] (by kernel_rfl) rfl (by kernel_rfl) (by kernel_rfl) rfl (by kernel_rfl) (by kernel_rfl) (encode_any a _) ?_
      rintro e w138 ⟨rfl, hbz⟩
      have hm139 := hm136.below hbz
      clear hbz hm136
      refine ⟨_, rfl, hm139, ?_⟩
      simp only [Act.put, List.setIfInBounds_toArray, List.set_cons_succ, List.set_cons_zero]
      refine mgCall (i := 3) 14 [.agg (pcs a).toArray] [] [] (by kernel_rfl) rfl (by kernel_rfl) (by kernel_rfl) rfl (by kernel_rfl) (by kernel_rfl) (refEncode_any a _) ?_
      rintro e w140 ⟨rfl, hbz⟩
      have hm141 := hm139.below hbz
      clear hbz hm139
      refine ⟨_, rfl, hm141, ?_⟩
      refine mgTake (i := 4) (v := .bool true) rfl (by kernel_rfl) (by kernel_rfl) (fun _ _ _ h => h) hm141 (fun w_ h_ => boolTo (by simp) (eqlRun (A := (mEnc a)) (B := (mEnc a)) (.tmp 46) (.tmp 48) rfl (by kernel_rfl) (by kernel_rfl))) ?_
      simp only [Act.put, List.setIfInBounds_toArray, List.set_cons_succ, List.set_cons_zero]
      refine mgTake (i := 5) (v := .bool true) rfl (by kernel_rfl) (by kernel_rfl) (fun _ _ _ h => h) hm141 (fun w_ h_ => by kernel_rfl) ?_
      refine mgTake (i := 6) (v := .agg (pcs ((mDec n).1)).toArray) rfl (by kernel_rfl) (by kernel_rfl) (fun _ _ _ h => h) hm141 (fun w_ h_ => gLoadAg (vs := pcs ((mDec n).1)) (k := 0) 2 h_ rfl (by kernel_rfl) (by kernel_rfl) (.tmp 13) Ty.ag_voxel_api_Point rfl (by kernel_rfl)) ?_
      simp only [Act.put, List.setIfInBounds_toArray, List.set_cons_succ, List.set_cons_zero]
      refine mgTake (i := 7) (v := .agg (pcs ((mDec n).1)).toArray) rfl (by kernel_rfl) (by kernel_rfl) (fun _ _ _ h => h) hm141 (fun w_ h_ => gLoadAg (vs := pcs ((mDec n).1)) (k := 0) 3 h_ rfl (by kernel_rfl) (by kernel_rfl) (.tmp 15) Ty.ag_voxel_api_Point rfl (by kernel_rfl)) ?_
      refine mgTake (i := 8) (v := .bool true) rfl (by kernel_rfl) (by kernel_rfl) (fun _ _ _ h => h) hm141 (fun w_ h_ => boolTo (decide_eq_true rfl) (eqPtRun (.tmp 51) (.tmp 52) ((mDec n).1) ((mDec n).1) rfl (by kernel_rfl) (by kernel_rfl))) ?_
      simp only [Act.put, List.setIfInBounds_toArray, List.set_cons_succ, List.set_cons_zero]
      refine mgTake (i := 9) (v := .bool true) rfl (by kernel_rfl) (by kernel_rfl) (fun _ _ _ h => h) hm141 (fun w_ h_ => by kernel_rfl) ?_
      refine mgTake (i := 10) (v := .bool true) rfl (by kernel_rfl) (by kernel_rfl) (fun _ _ _ h => h) hm141 (fun w_ h_ => by kernel_rfl) ?_
      simp only [Act.put, List.setIfInBounds_toArray, List.set_cons_succ, List.set_cons_zero]
      refine mgTake (i := 11) (v := .bool true) rfl (by kernel_rfl) (by kernel_rfl) (fun _ _ _ h => h) hm141 (fun w_ h_ => by kernel_rfl) ?_
      refine mgTake (i := 12) (v := .bool true) rfl (by kernel_rfl) (by kernel_rfl) (fun _ _ _ h => h) hm141 (fun w_ h_ => by kernel_rfl) ?_
      simp only [Act.put, List.setIfInBounds_toArray, List.set_cons_succ, List.set_cons_zero]
      refine mgTake (i := 13) (v := .bool true) rfl (by kernel_rfl) (by kernel_rfl) (fun _ _ _ h => h) hm141 (fun w_ h_ => by kernel_rfl) ?_
      refine mgTake (i := 14) (v := .bool true) rfl (by kernel_rfl) (by kernel_rfl) (fun _ _ _ h => h) hm141 (fun w_ h_ => by kernel_rfl) ?_
      simp only [Act.put, List.setIfInBounds_toArray, List.set_cons_succ, List.set_cons_zero]
      refine mgTake (i := 15) (v := .bool true) rfl (by kernel_rfl) (by kernel_rfl) (fun _ _ _ h => h) hm141 (fun w_ h_ => by kernel_rfl) ?_
      refine mgTake (i := 16) (v := .agg (pcs a).toArray) rfl (by kernel_rfl) (by kernel_rfl) (fun _ _ _ h => h) hm141 (fun w_ h_ => gLoadAg (vs := pcs a) (k := 0) 0 h_ rfl (by kernel_rfl) (by kernel_rfl) (.tmp 6) Ty.ag_voxel_api_Point rfl (by kernel_rfl)) ?_
      simp only [Act.put, List.setIfInBounds_toArray, List.set_cons_succ, List.set_cons_zero]
      refine mgTake (i := 17) (v := .agg (pcs b).toArray) rfl (by kernel_rfl) (by kernel_rfl) (fun _ _ _ h => h) hm141 (fun w_ h_ => gLoadAg (vs := pcs b) (k := 0) 1 h_ rfl (by kernel_rfl) (by kernel_rfl) (.tmp 7) Ty.ag_voxel_api_Point rfl (by kernel_rfl)) ?_
      refine mgTake (i := 19) (v := .agg (pcs a).toArray) rfl (by kernel_rfl) (by kernel_rfl) (fun _ _ _ h => h) hm141 (fun w_ h_ => gLoadAg (vs := pcs a) (k := 0) 0 h_ rfl (by kernel_rfl) (by kernel_rfl) (.tmp 6) Ty.ag_voxel_api_Point rfl (by kernel_rfl)) ?_
      simp only [Act.put, List.setIfInBounds_toArray, List.set_cons_succ, List.set_cons_zero]
      refine mgTake (i := 20) (v := .agg (pcs b).toArray) rfl (by kernel_rfl) (by kernel_rfl) (fun _ _ _ h => h) hm141 (fun w_ h_ => gLoadAg (vs := pcs b) (k := 0) 1 h_ rfl (by kernel_rfl) (by kernel_rfl) (.tmp 7) Ty.ag_voxel_api_Point rfl (by kernel_rfl)) ?_
      simp only [Act.put, List.setIfInBounds_toArray, List.set_cons_succ, List.set_cons_zero]
      refine mgCall (i := 18) 15 [.agg (pcs a).toArray, .agg (pcs b).toArray] [] [] (by kernel_rfl) rfl (by kernel_rfl) (by kernel_rfl) rfl (by kernel_rfl) (by kernel_rfl) (compare_any a b _) ?_
      rintro e w142 ⟨rfl, hbz⟩
      have hm143 := hm141.below hbz
      clear hbz hm141
      refine ⟨_, rfl, hm143, ?_⟩
      simp only [Act.put, List.setIfInBounds_toArray, List.set_cons_succ, List.set_cons_zero]
      refine mgCall (i := 21) 16 [.agg (pcs a).toArray, .agg (pcs b).toArray] [] [] (by kernel_rfl) rfl (by kernel_rfl) (by kernel_rfl) rfl (by kernel_rfl) (by kernel_rfl) (refCompare_any a b _) ?_
      rintro e w144 ⟨rfl, hbz⟩
      have hm145 := hm143.below hbz
      clear hbz hm143
      refine ⟨_, rfl, hm145, ?_⟩
      refine mgTake (i := 22) (v := .bool true) rfl (by kernel_rfl) (by kernel_rfl) (fun _ _ _ h => h) hm145 (fun w_ h_ => boolTo (by simp) (eqlRun (A := (mCmp a b)) (B := (mCmp a b)) (.tmp 63) (.tmp 66) rfl (by kernel_rfl) (by kernel_rfl))) ?_
      simp only [Act.put, List.setIfInBounds_toArray, List.set_cons_succ, List.set_cons_zero]
      refine mgTake (i := 23) (v := .bool true) rfl (by kernel_rfl) (by kernel_rfl) (fun _ _ _ h => h) hm145 (fun w_ h_ => by kernel_rfl) ?_
      refine mgTake (i := 24) (v := .bool true) rfl (by kernel_rfl) (by kernel_rfl) (fun _ _ _ h => h) hm145 (fun w_ h_ => by kernel_rfl) ?_
      refine mgDone (by kernel_rfl) ?_
      simp only [Act.put, List.setIfInBounds_toArray, List.set_cons_succ, List.set_cons_zero]
      refine then_normal (hK135 _ _ ?_)
      refine wp_seq_k fun K146 hK146 => ?_
      refine mgStart hm145 (by kernel_rfl) ?_
      intro w148 hm147
      clear hm145
      refine mgTake (i := 0) (v := .agg (pcs a).toArray) rfl (by kernel_rfl) (by kernel_rfl) (fun _ _ _ h => h) hm147 (fun w_ h_ => gLoadAg (vs := pcs a) (k := 0) 0 h_ rfl (by kernel_rfl) (by kernel_rfl) (.tmp 6) Ty.ag_voxel_api_Point rfl (by kernel_rfl)) ?_
      refine mgTake (i := 1) (v := .int .i64 level) rfl (by kernel_rfl) (by kernel_rfl) (fun _ _ _ h => h) hm147 (fun w_ h_ => by kernel_rfl) ?_
      simp only [Act.put, List.setIfInBounds_toArray, List.set_cons_succ, List.set_cons_zero]
      refine mgTake (i := 3) (v := .agg (pcs a).toArray) rfl (by kernel_rfl) (by kernel_rfl) (fun _ _ _ h => h) hm147 (fun w_ h_ => gLoadAg (vs := pcs a) (k := 0) 0 h_ rfl (by kernel_rfl) (by kernel_rfl) (.tmp 6) Ty.ag_voxel_api_Point rfl (by kernel_rfl)) ?_
      refine mgTake (i := 4) (v := .int .i64 level) rfl (by kernel_rfl) (by kernel_rfl) (fun _ _ _ h => h) hm147 (fun w_ h_ => by kernel_rfl) ?_
      simp only [Act.put, List.setIfInBounds_toArray, List.set_cons_succ, List.set_cons_zero]
      refine mgCall (i := 2) 17 [.agg (pcs a).toArray, .int .i64 level] [] [] (by kernel_rfl) rfl (by kernel_rfl) (by kernel_rfl) rfl (by kernel_rfl) (by kernel_rfl) (octant_any a level _) ?_
      rintro e w149 ⟨rfl, hbz⟩
      have hm150 := hm147.below hbz
      clear hbz hm147
      refine ⟨_, rfl, hm150, ?_⟩
      simp only [Act.put, List.setIfInBounds_toArray, List.set_cons_succ, List.set_cons_zero]
      refine mgCall (i := 5) 18 [.agg (pcs a).toArray, .int .i64 level] [] [] (by kernel_rfl) rfl (by kernel_rfl) (by kernel_rfl) rfl (by kernel_rfl) (by kernel_rfl) (refOctant_any a level _) ?_
      rintro e w151 ⟨rfl, hbz⟩
      have hm152 := hm150.below hbz
      clear hbz hm150
      refine ⟨_, rfl, hm152, ?_⟩
      refine mgTake (i := 6) (v := .bool true) rfl (by kernel_rfl) (by kernel_rfl) (fun _ _ _ h => h) hm152 (fun w_ h_ => boolTo (by simp) (eqlRun (A := (mOct a level)) (B := (mOct a level)) (.tmp 71) (.tmp 74) rfl (by kernel_rfl) (by kernel_rfl))) ?_
      simp only [Act.put, List.setIfInBounds_toArray, List.set_cons_succ, List.set_cons_zero]
      refine mgTake (i := 7) (v := .bool true) rfl (by kernel_rfl) (by kernel_rfl) (fun _ _ _ h => h) hm152 (fun w_ h_ => by kernel_rfl) ?_
      refine mgTake (i := 8) (v := .int .i64 n) rfl (by kernel_rfl) (by kernel_rfl) (fun _ _ _ h => h) hm152 (fun w_ h_ => by kernel_rfl) ?_
      simp only [Act.put, List.setIfInBounds_toArray, List.set_cons_succ, List.set_cons_zero]
      refine mgTake (i := 9) (v := .int .i64 axis) rfl (by kernel_rfl) (by kernel_rfl) (fun _ _ _ h => h) hm152 (fun w_ h_ => by kernel_rfl) ?_
      refine mgTake (i := 10) (v := .bool up) rfl (by kernel_rfl) (by kernel_rfl) (fun _ _ _ h => h) hm152 (fun w_ h_ => by kernel_rfl) ?_
      simp only [Act.put, List.setIfInBounds_toArray, List.set_cons_succ, List.set_cons_zero]
      refine mgTake (i := 12) (v := .int .i64 n) rfl (by kernel_rfl) (by kernel_rfl) (fun _ _ _ h => h) hm152 (fun w_ h_ => by kernel_rfl) ?_
      refine mgTake (i := 13) (v := .int .i64 axis) rfl (by kernel_rfl) (by kernel_rfl) (fun _ _ _ h => h) hm152 (fun w_ h_ => by kernel_rfl) ?_
      simp only [Act.put, List.setIfInBounds_toArray, List.set_cons_succ, List.set_cons_zero]
      refine mgTake (i := 14) (v := .bool up) rfl (by kernel_rfl) (by kernel_rfl) (fun _ _ _ h => h) hm152 (fun w_ h_ => by kernel_rfl) ?_
      simp only [Act.put, List.setIfInBounds_toArray, List.set_cons_succ, List.set_cons_zero]
      refine mgCall (i := 11) 19 [.int .i64 n, .int .i64 axis, .bool up] [] [] (by kernel_rfl) rfl (by kernel_rfl) (by kernel_rfl) rfl (by kernel_rfl) (by kernel_rfl) (neighbour_any n axis up _) ?_
      rintro e w153 ⟨rfl, hbz⟩
      have hm154 := hm152.below hbz
      clear hbz hm152
      refine ⟨_, rfl, hm154, ?_⟩
      simp only [Act.put, List.setIfInBounds_toArray, List.set_cons_succ, List.set_cons_zero]
      refine mgCall (i := 15) 20 [.int .i64 n, .int .i64 axis, .bool up] [] [] (by kernel_rfl) rfl (by kernel_rfl) (by kernel_rfl) rfl (by kernel_rfl) (by kernel_rfl) (refNeighbour_any n axis up _) ?_
      rintro e w155 ⟨rfl, hbz⟩
      have hm156 := hm154.below hbz
      clear hbz hm154
      refine ⟨_, rfl, hm156, ?_⟩
      refine mgTake (i := 16) (v := .bool true) rfl (by kernel_rfl) (by kernel_rfl) (fun _ _ _ h => h) hm156 (fun w_ h_ => boolTo (by simp) (eqlRun (A := (mNb n axis up)) (B := (mNb n axis up)) (.tmp 80) (.tmp 84) rfl (by kernel_rfl) (by kernel_rfl))) ?_
      simp only [Act.put, List.setIfInBounds_toArray, List.set_cons_succ, List.set_cons_zero]
      refine mgTake (i := 17) (v := .bool true) rfl (by kernel_rfl) (by kernel_rfl) (fun _ _ _ h => h) hm156 (fun w_ h_ => by kernel_rfl) ?_
      refine mgTake (i := 18) (v := .bool true) rfl (by kernel_rfl) (by kernel_rfl) (fun _ _ _ h => h) hm156 (fun w_ h_ => by kernel_rfl) ?_
      simp only [Act.put, List.setIfInBounds_toArray, List.set_cons_succ, List.set_cons_zero]
      refine mgTake (i := 19) (v := .agg (ccs ((mCommon a b).1)).toArray) rfl (by kernel_rfl) (by kernel_rfl) (fun _ _ _ h => h) hm156 (fun w_ h_ => gLoadAg (vs := ccs ((mCommon a b).1)) (k := 0) 4 h_ rfl (by kernel_rfl) (by kernel_rfl) (.tmp 17) Ty.ag_voxel_api_Cube rfl (by kernel_rfl)) ?_
      refine mgTake (i := 20) (v := .agg (ccs ((mCommon a b).1)).toArray) rfl (by kernel_rfl) (by kernel_rfl) (fun _ _ _ h => h) hm156 (fun w_ h_ => gLoadAg (vs := ccs ((mCommon a b).1)) (k := 0) 5 h_ rfl (by kernel_rfl) (by kernel_rfl) (.tmp 19) Ty.ag_voxel_api_Cube rfl (by kernel_rfl)) ?_
      simp only [Act.put, List.setIfInBounds_toArray, List.set_cons_succ, List.set_cons_zero]
      refine mgTake (i := 21) (v := .bool true) rfl (by kernel_rfl) (by kernel_rfl) (fun _ _ _ h => h) hm156 (fun w_ h_ => boolTo (decide_eq_true rfl) (eqlCuRun (.tmp 88) (.tmp 89) ((mCommon a b).1) ((mCommon a b).1) rfl (by kernel_rfl) (by kernel_rfl))) ?_
      refine mgTake (i := 22) (v := .bool true) rfl (by kernel_rfl) (by kernel_rfl) (fun _ _ _ h => h) hm156 (fun w_ h_ => by kernel_rfl) ?_
      simp only [Act.put, List.setIfInBounds_toArray, List.set_cons_succ, List.set_cons_zero]
      refine mgTake (i := 23) (v := .bool true) rfl (by kernel_rfl) (by kernel_rfl) (fun _ _ _ h => h) hm156 (fun w_ h_ => by kernel_rfl) ?_
      refine mgTake (i := 24) (v := .bool false) rfl (by kernel_rfl) (by kernel_rfl) (fun _ _ _ h => h) hm156 (fun w_ h_ => by kernel_rfl) ?_
      simp only [Act.put, List.setIfInBounds_toArray, List.set_cons_succ, List.set_cons_zero]
      refine mgTake (i := 25) (v := .bool false) rfl (by kernel_rfl) (by kernel_rfl) (fun _ _ _ h => h) hm156 (fun w_ h_ => by kernel_rfl) ?_
      refine mgTake (i := 26) (v := .bool true) rfl (by kernel_rfl) (by kernel_rfl) (fun _ _ _ h => h) hm156 (fun w_ h_ => by kernel_rfl) ?_
      simp only [Act.put, List.setIfInBounds_toArray, List.set_cons_succ, List.set_cons_zero]
      refine mgTake (i := 27) (v := .bool true) rfl (by kernel_rfl) (by kernel_rfl) (fun _ _ _ h => h) hm156 (fun w_ h_ => by kernel_rfl) ?_
      refine mgTake (i := 28) (v := .bool true) rfl (by kernel_rfl) (by kernel_rfl) (fun _ _ _ h => h) hm156 (fun w_ h_ => by kernel_rfl) ?_
      refine mgDone (by kernel_rfl) ?_
      simp only [Act.put, List.setIfInBounds_toArray, List.set_cons_succ, List.set_cons_zero]
      refine then_normal (hK146 _ _ ?_)
      refine wp_seq_k fun K157 hK157 => ?_
      refine plStart ?_
      refine plCall (i := 0) 21 [] [] [] rfl (by kernel_rfl) (by kernel_rfl) rfl (by kernel_rfl) (by kernel_rfl) (sanity_any _) ?_
      rintro e w158 ⟨rfl, hbz⟩
      have hm159 := hm156.below hbz
      clear hbz hm156
      refine ⟨_, rfl, ?_⟩
      refine plVal (i := 1) (v := .bool true) rfl (by kernel_rfl) (by kernel_rfl) ?_
      simp only [Act.put, List.setIfInBounds_toArray, List.set_cons_succ, List.set_cons_zero]
      refine plVal (i := 2) (v := .bool true) rfl (by kernel_rfl) (by kernel_rfl) ?_
      refine plVal (i := 3) (v := .bool true) rfl (by kernel_rfl) (by kernel_rfl) ?_
      simp only [Act.put, List.setIfInBounds_toArray, List.set_cons_succ, List.set_cons_zero]
      refine plVal (i := 4) (v := .bool true) rfl (by kernel_rfl) (by kernel_rfl) ?_
      refine plVal (i := 5) (v := .bool true) rfl (by kernel_rfl) (by kernel_rfl) ?_
      simp only [Act.put, List.setIfInBounds_toArray, List.set_cons_succ, List.set_cons_zero]
      refine plVal (i := 6) (v := .bool true) rfl (by kernel_rfl) (by kernel_rfl) ?_
      refine plVal (i := 7) (v := .bool true) rfl (by kernel_rfl) (by kernel_rfl) ?_
      refine plDone (by decide) ?_
      simp only [Act.put, List.setIfInBounds_toArray, List.set_cons_succ, List.set_cons_zero]
      refine then_normal (hK157 _ _ ?_)
      refine wp_ret ?_
      refine bodyPost_ret (v := .bool true) (gRes1 rfl (gResTmp (t := 12) (v := .bool true) (by kernel_rfl))) rfl ?_
      exact ⟨by first | rfl | simp_all, hm159.bel⟩
    · rw [h121]
      refine plVal (i := 3) (v := .tuple #[.agg (ccs ((mCommon a b).1)).toArray, .bool true]) rfl (by kernel_rfl) (by kernel_rfl) ?_
      refine plVal (i := 4) (v := .agg (ccs ((mCommon a b).1)).toArray) rfl (by kernel_rfl) (by kernel_rfl) ?_
      simp only [Act.put, List.setIfInBounds_toArray, List.set_cons_succ, List.set_cons_zero]
      refine plVal (i := 5) (v := .bool true) rfl (by kernel_rfl) (by kernel_rfl) ?_
      refine plAlloc (z := [.int .i64 0, .int .i64 0, .int .i64 0, .int .i64 0]) Ty.ag_voxel_api_Cube hm120 (i := 6) rfl (by kernel_rfl) rfl ?_
      intro g160 w162 hm161
      clear hm120
      simp only [List.cons_append, List.nil_append, List.set_cons_succ, List.set_cons_zero] at hm161
      simp only [Act.put, List.setIfInBounds_toArray, List.set_cons_succ, List.set_cons_zero]
      refine plStore 4 Ty.ag_voxel_api_Cube hm161 rfl (i := 7) (cs := ccs ((mCommon a b).1)) rfl (by kernel_rfl) rfl (by kernel_rfl) (by kernel_rfl) rfl rfl (by kernel_rfl) ?_
      intro w164 hm163
      clear hm161
      simp only [List.cons_append, List.nil_append, List.set_cons_succ, List.set_cons_zero] at hm163
      refine plVal (i := 8) (v := .bool true) rfl (by kernel_rfl) (by kernel_rfl) ?_
      refine plDone (by decide) ?_
      simp only [Act.put, List.setIfInBounds_toArray, List.set_cons_succ, List.set_cons_zero]
      refine then_normal (hK118 _ _ ?_)
      refine wp_seq_k fun K165 hK165 => ?_
      refine plStart ?_
      refine plVal (i := 0) (v := .agg (pcs a).toArray) rfl (by kernel_rfl) (gLoadAg (vs := pcs a) (k := 0) 0 hm163 rfl (by kernel_rfl) (by kernel_rfl) (.tmp 6) Ty.ag_voxel_api_Point rfl (by kernel_rfl)) ?_
      refine plVal (i := 1) (v := .agg (pcs b).toArray) rfl (by kernel_rfl) (gLoadAg (vs := pcs b) (k := 0) 1 hm163 rfl (by kernel_rfl) (by kernel_rfl) (.tmp 7) Ty.ag_voxel_api_Point rfl (by kernel_rfl)) ?_
      simp only [Act.put, List.setIfInBounds_toArray, List.set_cons_succ, List.set_cons_zero]
      refine plCall (i := 2) 12 [.agg (pcs a).toArray, .agg (pcs b).toArray] [] [] rfl (by kernel_rfl) (by kernel_rfl) rfl (by kernel_rfl) (by kernel_rfl) (refCommon_any a b _) ?_
      rintro e w166 ⟨rfl, hbz⟩
      have hm167 := hm163.below hbz
      clear hbz hm163
      rw [h121]
      refine ⟨_, rfl, ?_⟩
      refine plVal (i := 3) (v := .tuple #[.agg (ccs ((mCommon a b).1)).toArray, .bool true]) rfl (by kernel_rfl) (by kernel_rfl) ?_
      simp only [Act.put, List.setIfInBounds_toArray, List.set_cons_succ, List.set_cons_zero]
      refine plVal (i := 4) (v := .agg (ccs ((mCommon a b).1)).toArray) rfl (by kernel_rfl) (by kernel_rfl) ?_
      refine plVal (i := 5) (v := .bool true) rfl (by kernel_rfl) (by kernel_rfl) ?_
      simp only [Act.put, List.setIfInBounds_toArray, List.set_cons_succ, List.set_cons_zero]
      refine plAlloc (z := [.int .i64 0, .int .i64 0, .int .i64 0, .int .i64 0]) Ty.ag_voxel_api_Cube hm167 (i := 6) rfl (by kernel_rfl) rfl ?_
      intro g168 w170 hm169
      clear hm167
      simp only [List.cons_append, List.nil_append, List.set_cons_succ, List.set_cons_zero] at hm169
      refine plStore 5 Ty.ag_voxel_api_Cube hm169 rfl (i := 7) (cs := ccs ((mCommon a b).1)) rfl (by kernel_rfl) rfl (by kernel_rfl) (by kernel_rfl) rfl rfl (by kernel_rfl) ?_
      intro w172 hm171
      clear hm169
      simp only [List.cons_append, List.nil_append, List.set_cons_succ, List.set_cons_zero] at hm171
      simp only [Act.put, List.setIfInBounds_toArray, List.set_cons_succ, List.set_cons_zero]
      refine plVal (i := 8) (v := .bool true) rfl (by kernel_rfl) (by kernel_rfl) ?_
      refine plDone (by decide) ?_
      simp only [Act.put, List.setIfInBounds_toArray, List.set_cons_succ, List.set_cons_zero]
      refine then_normal (hK165 _ _ ?_)
      refine wp_seq_k fun K173 hK173 => ?_
      refine mgStart hm171 (by kernel_rfl) ?_
      intro w175 hm174
      clear hm171
      refine mgTake (i := 0) (v := .agg (pcs a).toArray) rfl (by kernel_rfl) (by kernel_rfl) (fun _ _ _ h => h) hm174 (fun w_ h_ => gLoadAg (vs := pcs a) (k := 0) 0 h_ rfl (by kernel_rfl) (by kernel_rfl) (.tmp 6) Ty.ag_voxel_api_Point rfl (by kernel_rfl)) ?_
      refine mgTake (i := 2) (v := .agg (pcs a).toArray) rfl (by kernel_rfl) (by kernel_rfl) (fun _ _ _ h => h) hm174 (fun w_ h_ => gLoadAg (vs := pcs a) (k := 0) 0 h_ rfl (by kernel_rfl) (by kernel_rfl) (.tmp 6) Ty.ag_voxel_api_Point rfl (by kernel_rfl)) ?_
      simp only [Act.put, List.setIfInBounds_toArray, List.set_cons_succ, List.set_cons_zero]
      refine mgCall (i := 1) 13 [.agg (pcs a).toArray] [] [] (by kernel_rfl) rfl (by kernel_rfl) (by kernel_rfl) rfl (by kernel_rfl) (by kernel_rfl) (encode_any a _) ?_
      rintro e w176 ⟨rfl, hbz⟩
      have hm177 := hm174.below hbz
      clear hbz hm174
      refine ⟨_, rfl, hm177, ?_⟩
      simp only [Act.put, List.setIfInBounds_toArray, List.set_cons_succ, List.set_cons_zero]
      refine mgCall (i := 3) 14 [.agg (pcs a).toArray] [] [] (by kernel_rfl) rfl (by kernel_rfl) (by kernel_rfl) rfl (by kernel_rfl) (by kernel_rfl) (refEncode_any a _) ?_
      rintro e w178 ⟨rfl, hbz⟩
      have hm179 := hm177.below hbz
      clear hbz hm177
      refine ⟨_, rfl, hm179, ?_⟩
      refine mgTake (i := 4) (v := .bool true) rfl (by kernel_rfl) (by kernel_rfl) (fun _ _ _ h => h) hm179 (fun w_ h_ => boolTo (by simp) (eqlRun (A := (mEnc a)) (B := (mEnc a)) (.tmp 46) (.tmp 48) rfl (by kernel_rfl) (by kernel_rfl))) ?_
      simp only [Act.put, List.setIfInBounds_toArray, List.set_cons_succ, List.set_cons_zero]
      refine mgTake (i := 5) (v := .bool true) rfl (by kernel_rfl) (by kernel_rfl) (fun _ _ _ h => h) hm179 (fun w_ h_ => by kernel_rfl) ?_
      refine mgTake (i := 6) (v := .agg (pcs ((mDec n).1)).toArray) rfl (by kernel_rfl) (by kernel_rfl) (fun _ _ _ h => h) hm179 (fun w_ h_ => gLoadAg (vs := pcs ((mDec n).1)) (k := 0) 2 h_ rfl (by kernel_rfl) (by kernel_rfl) (.tmp 13) Ty.ag_voxel_api_Point rfl (by kernel_rfl)) ?_
      simp only [Act.put, List.setIfInBounds_toArray, List.set_cons_succ, List.set_cons_zero]
      refine mgTake (i := 7) (v := .agg (pcs ((mDec n).1)).toArray) rfl (by kernel_rfl) (by kernel_rfl) (fun _ _ _ h => h) hm179 (fun w_ h_ => gLoadAg (vs := pcs ((mDec n).1)) (k := 0) 3 h_ rfl (by kernel_rfl) (by kernel_rfl) (.tmp 15) Ty.ag_voxel_api_Point rfl (by kernel_rfl)) ?_
      refine mgTake (i := 8) (v := .bool true) rfl (by kernel_rfl) (by kernel_rfl) (fun _ _ _ h => h) hm179 (fun w_ h_ => boolTo (decide_eq_true rfl) (eqPtRun (.tmp 51) (.tmp 52) ((mDec n).1) ((mDec n).1) rfl (by kernel_rfl) (by kernel_rfl))) ?_
      simp only [Act.put, List.setIfInBounds_toArray, List.set_cons_succ, List.set_cons_zero]
      refine mgTake (i := 9) (v := .bool true) rfl (by kernel_rfl) (by kernel_rfl) (fun _ _ _ h => h) hm179 (fun w_ h_ => by kernel_rfl) ?_
      refine mgTake (i := 10) (v := .bool true) rfl (by kernel_rfl) (by kernel_rfl) (fun _ _ _ h => h) hm179 (fun w_ h_ => by kernel_rfl) ?_
      simp only [Act.put, List.setIfInBounds_toArray, List.set_cons_succ, List.set_cons_zero]
      refine mgTake (i := 11) (v := .bool true) rfl (by kernel_rfl) (by kernel_rfl) (fun _ _ _ h => h) hm179 (fun w_ h_ => by kernel_rfl) ?_
      refine mgTake (i := 12) (v := .bool true) rfl (by kernel_rfl) (by kernel_rfl) (fun _ _ _ h => h) hm179 (fun w_ h_ => by kernel_rfl) ?_
      simp only [Act.put, List.setIfInBounds_toArray, List.set_cons_succ, List.set_cons_zero]
      refine mgTake (i := 13) (v := .bool true) rfl (by kernel_rfl) (by kernel_rfl) (fun _ _ _ h => h) hm179 (fun w_ h_ => by kernel_rfl) ?_
      refine mgTake (i := 14) (v := .bool true) rfl (by kernel_rfl) (by kernel_rfl) (fun _ _ _ h => h) hm179 (fun w_ h_ => by kernel_rfl) ?_
      simp only [Act.put, List.setIfInBounds_toArray, List.set_cons_succ, List.set_cons_zero]
      refine mgTake (i := 15) (v := .bool true) rfl (by kernel_rfl) (by kernel_rfl) (fun _ _ _ h => h) hm179 (fun w_ h_ => by kernel_rfl) ?_
      refine mgTake (i := 16) (v := .agg (pcs a).toArray) rfl (by kernel_rfl) (by kernel_rfl) (fun _ _ _ h => h) hm179 (fun w_ h_ => gLoadAg (vs := pcs a) (k := 0) 0 h_ rfl (by kernel_rfl) (by kernel_rfl) (.tmp 6) Ty.ag_voxel_api_Point rfl (by kernel_rfl)) ?_
      simp only [Act.put, List.setIfInBounds_toArray, List.set_cons_succ, List.set_cons_zero]
      refine mgTake (i := 17) (v := .agg (pcs b).toArray) rfl (by kernel_rfl) (by kernel_rfl) (fun _ _ _ h => h) hm179 (fun w_ h_ => gLoadAg (vs := pcs b) (k := 0) 1 h_ rfl (by kernel_rfl) (by kernel_rfl) (.tmp 7) Ty.ag_voxel_api_Point rfl (by kernel_rfl)) ?_
      refine mgTake (i := 19) (v := .agg (pcs a).toArray) rfl (by kernel_rfl) (by kernel_rfl) (fun _ _ _ h => h) hm179 (fun w_ h_ => gLoadAg (vs := pcs a) (k := 0) 0 h_ rfl (by kernel_rfl) (by kernel_rfl) (.tmp 6) Ty.ag_voxel_api_Point rfl (by kernel_rfl)) ?_
      simp only [Act.put, List.setIfInBounds_toArray, List.set_cons_succ, List.set_cons_zero]
      refine mgTake (i := 20) (v := .agg (pcs b).toArray) rfl (by kernel_rfl) (by kernel_rfl) (fun _ _ _ h => h) hm179 (fun w_ h_ => gLoadAg (vs := pcs b) (k := 0) 1 h_ rfl (by kernel_rfl) (by kernel_rfl) (.tmp 7) Ty.ag_voxel_api_Point rfl (by kernel_rfl)) ?_
      simp only [Act.put, List.setIfInBounds_toArray, List.set_cons_succ, List.set_cons_zero]
      refine mgCall (i := 18) 15 [.agg (pcs a).toArray, .agg (pcs b).toArray] [] [] (by kernel_rfl) rfl (by kernel_rfl) (by kernel_rfl) rfl (by kernel_rfl) (by kernel_rfl) (compare_any a b _) ?_
      rintro e w180 ⟨rfl, hbz⟩
      have hm181 := hm179.below hbz
      clear hbz hm179
      refine ⟨_, rfl, hm181, ?_⟩
      simp only [Act.put, List.setIfInBounds_toArray, List.set_cons_succ, List.set_cons_zero]
      refine mgCall (i := 21) 16 [.agg (pcs a).toArray, .agg (pcs b).toArray] [] [] (by kernel_rfl) rfl (by kernel_rfl) (by kernel_rfl) rfl (by kernel_rfl) (by kernel_rfl) (refCompare_any a b _) ?_
      rintro e w182 ⟨rfl, hbz⟩
      have hm183 := hm181.below hbz
      clear hbz hm181
      refine ⟨_, rfl, hm183, ?_⟩
      refine mgTake (i := 22) (v := .bool true) rfl (by kernel_rfl) (by kernel_rfl) (fun _ _ _ h => h) hm183 (fun w_ h_ => boolTo (by simp) (eqlRun (A := (mCmp a b)) (B := (mCmp a b)) (.tmp 63) (.tmp 66) rfl (by kernel_rfl) (by kernel_rfl))) ?_
      simp only [Act.put, List.setIfInBounds_toArray, List.set_cons_succ, List.set_cons_zero]
      refine mgTake (i := 23) (v := .bool true) rfl (by kernel_rfl) (by kernel_rfl) (fun _ _ _ h => h) hm183 (fun w_ h_ => by kernel_rfl) ?_
      refine mgTake (i := 24) (v := .bool true) rfl (by kernel_rfl) (by kernel_rfl) (fun _ _ _ h => h) hm183 (fun w_ h_ => by kernel_rfl) ?_
      refine mgDone (by kernel_rfl) ?_
      simp only [Act.put, List.setIfInBounds_toArray, List.set_cons_succ, List.set_cons_zero]
      refine then_normal (hK173 _ _ ?_)
      refine wp_seq_k fun K184 hK184 => ?_
      refine mgStart hm183 (by kernel_rfl) ?_
      intro w186 hm185
      clear hm183
      refine mgTake (i := 0) (v := .agg (pcs a).toArray) rfl (by kernel_rfl) (by kernel_rfl) (fun _ _ _ h => h) hm185 (fun w_ h_ => gLoadAg (vs := pcs a) (k := 0) 0 h_ rfl (by kernel_rfl) (by kernel_rfl) (.tmp 6) Ty.ag_voxel_api_Point rfl (by kernel_rfl)) ?_
      refine mgTake (i := 1) (v := .int .i64 level) rfl (by kernel_rfl) (by kernel_rfl) (fun _ _ _ h => h) hm185 (fun w_ h_ => by kernel_rfl) ?_
      simp only [Act.put, List.setIfInBounds_toArray, List.set_cons_succ, List.set_cons_zero]
      refine mgTake (i := 3) (v := .agg (pcs a).toArray) rfl (by kernel_rfl) (by kernel_rfl) (fun _ _ _ h => h) hm185 (fun w_ h_ => gLoadAg (vs := pcs a) (k := 0) 0 h_ rfl (by kernel_rfl) (by kernel_rfl) (.tmp 6) Ty.ag_voxel_api_Point rfl (by kernel_rfl)) ?_
      refine mgTake (i := 4) (v := .int .i64 level) rfl (by kernel_rfl) (by kernel_rfl) (fun _ _ _ h => h) hm185 (fun w_ h_ => by kernel_rfl) ?_
      simp only [Act.put, List.setIfInBounds_toArray, List.set_cons_succ, List.set_cons_zero]
      refine mgCall (i := 2) 17 [.agg (pcs a).toArray, .int .i64 level] [] [] (by kernel_rfl) rfl (by kernel_rfl) (by kernel_rfl) rfl (by kernel_rfl) (by kernel_rfl) (octant_any a level _) ?_
      rintro e w187 ⟨rfl, hbz⟩
      have hm188 := hm185.below hbz
      clear hbz hm185
      refine ⟨_, rfl, hm188, ?_⟩
      simp only [Act.put, List.setIfInBounds_toArray, List.set_cons_succ, List.set_cons_zero]
      refine mgCall (i := 5) 18 [.agg (pcs a).toArray, .int .i64 level] [] [] (by kernel_rfl) rfl (by kernel_rfl) (by kernel_rfl) rfl (by kernel_rfl) (by kernel_rfl) (refOctant_any a level _) ?_
      rintro e w189 ⟨rfl, hbz⟩
      have hm190 := hm188.below hbz
      clear hbz hm188
      refine ⟨_, rfl, hm190, ?_⟩
      refine mgTake (i := 6) (v := .bool true) rfl (by kernel_rfl) (by kernel_rfl) (fun _ _ _ h => h) hm190 (fun w_ h_ => boolTo (by simp) (eqlRun (A := (mOct a level)) (B := (mOct a level)) (.tmp 71) (.tmp 74) rfl (by kernel_rfl) (by kernel_rfl))) ?_
      simp only [Act.put, List.setIfInBounds_toArray, List.set_cons_succ, List.set_cons_zero]
      refine mgTake (i := 7) (v := .bool true) rfl (by kernel_rfl) (by kernel_rfl) (fun _ _ _ h => h) hm190 (fun w_ h_ => by kernel_rfl) ?_
      refine mgTake (i := 8) (v := .int .i64 n) rfl (by kernel_rfl) (by kernel_rfl) (fun _ _ _ h => h) hm190 (fun w_ h_ => by kernel_rfl) ?_
      simp only [Act.put, List.setIfInBounds_toArray, List.set_cons_succ, List.set_cons_zero]
      refine mgTake (i := 9) (v := .int .i64 axis) rfl (by kernel_rfl) (by kernel_rfl) (fun _ _ _ h => h) hm190 (fun w_ h_ => by kernel_rfl) ?_
      refine mgTake (i := 10) (v := .bool up) rfl (by kernel_rfl) (by kernel_rfl) (fun _ _ _ h => h) hm190 (fun w_ h_ => by kernel_rfl) ?_
      simp only [Act.put, List.setIfInBounds_toArray, List.set_cons_succ, List.set_cons_zero]
      refine mgTake (i := 12) (v := .int .i64 n) rfl (by kernel_rfl) (by kernel_rfl) (fun _ _ _ h => h) hm190 (fun w_ h_ => by kernel_rfl) ?_
      refine mgTake (i := 13) (v := .int .i64 axis) rfl (by kernel_rfl) (by kernel_rfl) (fun _ _ _ h => h) hm190 (fun w_ h_ => by kernel_rfl) ?_
      simp only [Act.put, List.setIfInBounds_toArray, List.set_cons_succ, List.set_cons_zero]
      refine mgTake (i := 14) (v := .bool up) rfl (by kernel_rfl) (by kernel_rfl) (fun _ _ _ h => h) hm190 (fun w_ h_ => by kernel_rfl) ?_
      simp only [Act.put, List.setIfInBounds_toArray, List.set_cons_succ, List.set_cons_zero]
      refine mgCall (i := 11) 19 [.int .i64 n, .int .i64 axis, .bool up] [] [] (by kernel_rfl) rfl (by kernel_rfl) (by kernel_rfl) rfl (by kernel_rfl) (by kernel_rfl) (neighbour_any n axis up _) ?_
      rintro e w191 ⟨rfl, hbz⟩
      have hm192 := hm190.below hbz
      clear hbz hm190
      refine ⟨_, rfl, hm192, ?_⟩
      simp only [Act.put, List.setIfInBounds_toArray, List.set_cons_succ, List.set_cons_zero]
      refine mgCall (i := 15) 20 [.int .i64 n, .int .i64 axis, .bool up] [] [] (by kernel_rfl) rfl (by kernel_rfl) (by kernel_rfl) rfl (by kernel_rfl) (by kernel_rfl) (refNeighbour_any n axis up _) ?_
      rintro e w193 ⟨rfl, hbz⟩
      have hm194 := hm192.below hbz
      clear hbz hm192
      refine ⟨_, rfl, hm194, ?_⟩
      refine mgTake (i := 16) (v := .bool true) rfl (by kernel_rfl) (by kernel_rfl) (fun _ _ _ h => h) hm194 (fun w_ h_ => boolTo (by simp) (eqlRun (A := (mNb n axis up)) (B := (mNb n axis up)) (.tmp 80) (.tmp 84) rfl (by kernel_rfl) (by kernel_rfl))) ?_
      simp only [Act.put, List.setIfInBounds_toArray, List.set_cons_succ, List.set_cons_zero]
      refine mgTake (i := 17) (v := .bool true) rfl (by kernel_rfl) (by kernel_rfl) (fun _ _ _ h => h) hm194 (fun w_ h_ => by kernel_rfl) ?_
      refine mgTake (i := 18) (v := .bool true) rfl (by kernel_rfl) (by kernel_rfl) (fun _ _ _ h => h) hm194 (fun w_ h_ => by kernel_rfl) ?_
      simp only [Act.put, List.setIfInBounds_toArray, List.set_cons_succ, List.set_cons_zero]
      refine mgTake (i := 19) (v := .agg (ccs ((mCommon a b).1)).toArray) rfl (by kernel_rfl) (by kernel_rfl) (fun _ _ _ h => h) hm194 (fun w_ h_ => gLoadAg (vs := ccs ((mCommon a b).1)) (k := 0) 4 h_ rfl (by kernel_rfl) (by kernel_rfl) (.tmp 17) Ty.ag_voxel_api_Cube rfl (by kernel_rfl)) ?_
      refine mgTake (i := 20) (v := .agg (ccs ((mCommon a b).1)).toArray) rfl (by kernel_rfl) (by kernel_rfl) (fun _ _ _ h => h) hm194 (fun w_ h_ => gLoadAg (vs := ccs ((mCommon a b).1)) (k := 0) 5 h_ rfl (by kernel_rfl) (by kernel_rfl) (.tmp 19) Ty.ag_voxel_api_Cube rfl (by kernel_rfl)) ?_
      simp only [Act.put, List.setIfInBounds_toArray, List.set_cons_succ, List.set_cons_zero]
      refine mgTake (i := 21) (v := .bool true) rfl (by kernel_rfl) (by kernel_rfl) (fun _ _ _ h => h) hm194 (fun w_ h_ => boolTo (decide_eq_true rfl) (eqlCuRun (.tmp 88) (.tmp 89) ((mCommon a b).1) ((mCommon a b).1) rfl (by kernel_rfl) (by kernel_rfl))) ?_
      refine mgTake (i := 22) (v := .bool true) rfl (by kernel_rfl) (by kernel_rfl) (fun _ _ _ h => h) hm194 (fun w_ h_ => by kernel_rfl) ?_
      simp only [Act.put, List.setIfInBounds_toArray, List.set_cons_succ, List.set_cons_zero]
      refine mgTake (i := 23) (v := .bool true) rfl (by kernel_rfl) (by kernel_rfl) (fun _ _ _ h => h) hm194 (fun w_ h_ => by kernel_rfl) ?_
      refine mgTake (i := 24) (v := .bool true) rfl (by kernel_rfl) (by kernel_rfl) (fun _ _ _ h => h) hm194 (fun w_ h_ => by kernel_rfl) ?_
      simp only [Act.put, List.setIfInBounds_toArray, List.set_cons_succ, List.set_cons_zero]
      refine mgTake (i := 25) (v := .bool true) rfl (by kernel_rfl) (by kernel_rfl) (fun _ _ _ h => h) hm194 (fun w_ h_ => by kernel_rfl) ?_
      refine mgTake (i := 26) (v := .bool true) rfl (by kernel_rfl) (by kernel_rfl) (fun _ _ _ h => h) hm194 (fun w_ h_ => by kernel_rfl) ?_
      simp only [Act.put, List.setIfInBounds_toArray, List.set_cons_succ, List.set_cons_zero]
      refine mgTake (i := 27) (v := .bool true) rfl (by kernel_rfl) (by kernel_rfl) (fun _ _ _ h => h) hm194 (fun w_ h_ => by kernel_rfl) ?_
      refine mgTake (i := 28) (v := .bool true) rfl (by kernel_rfl) (by kernel_rfl) (fun _ _ _ h => h) hm194 (fun w_ h_ => by kernel_rfl) ?_
      refine mgDone (by kernel_rfl) ?_
      simp only [Act.put, List.setIfInBounds_toArray, List.set_cons_succ, List.set_cons_zero]
      refine then_normal (hK184 _ _ ?_)
      refine wp_seq_k fun K195 hK195 => ?_
      refine plStart ?_
      refine plCall (i := 0) 21 [] [] [] rfl (by kernel_rfl) (by kernel_rfl) rfl (by kernel_rfl) (by kernel_rfl) (sanity_any _) ?_
      rintro e w196 ⟨rfl, hbz⟩
      have hm197 := hm194.below hbz
      clear hbz hm194
      refine ⟨_, rfl, ?_⟩
      refine plVal (i := 1) (v := .bool true) rfl (by kernel_rfl) (by kernel_rfl) ?_
      simp only [Act.put, List.setIfInBounds_toArray, List.set_cons_succ, List.set_cons_zero]
      refine plVal (i := 2) (v := .bool true) rfl (by kernel_rfl) (by kernel_rfl) ?_
      refine plVal (i := 3) (v := .bool true) rfl (by kernel_rfl) (by kernel_rfl) ?_
      simp only [Act.put, List.setIfInBounds_toArray, List.set_cons_succ, List.set_cons_zero]
      refine plVal (i := 4) (v := .bool true) rfl (by kernel_rfl) (by kernel_rfl) ?_
      refine plVal (i := 5) (v := .bool true) rfl (by kernel_rfl) (by kernel_rfl) ?_
      simp only [Act.put, List.setIfInBounds_toArray, List.set_cons_succ, List.set_cons_zero]
      refine plVal (i := 6) (v := .bool true) rfl (by kernel_rfl) (by kernel_rfl) ?_
      refine plVal (i := 7) (v := .bool true) rfl (by kernel_rfl) (by kernel_rfl) ?_
      refine plDone (by decide) ?_
      simp only [Act.put, List.setIfInBounds_toArray, List.set_cons_succ, List.set_cons_zero]
      refine then_normal (hK195 _ _ ?_)
      refine wp_ret ?_
      refine bodyPost_ret (v := .bool true) (gRes1 rfl (gResTmp (t := 12) (v := .bool true) (by kernel_rfl))) rfl ?_
      exact ⟨by first | rfl | simp_all, hm197.bel⟩
end Go.Proofs.Ytkfijpghjjnpkaa
