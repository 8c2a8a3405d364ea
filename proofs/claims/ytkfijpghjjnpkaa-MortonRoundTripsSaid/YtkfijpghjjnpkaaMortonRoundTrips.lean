/-
  MortonRoundTrips: Encode and Decode are inverse to each other, and Compare is the order of the codes.
-/
import Derived.Test.YtkfijpghjjnpkaaOE
namespace Go.Proofs.Ytkfijpghjjnpkaa
open Go.RowKit
set_option linter.unusedVariables false
set_option linter.unusedSimpArgs false

set_option maxRecDepth 100000 in
set_option maxHeartbeats 4000000 in
theorem walk_MortonRoundTrips (a b : Pt) (n : Int) (w : World) (_b0 : -9223372036854775808 ≤ a.x ∧ a.x ≤ 9223372036854775807) (_b1 : -9223372036854775808 ≤ a.y ∧ a.y ≤ 9223372036854775807) (_b2 : -9223372036854775808 ≤ a.z ∧ a.z ≤ 9223372036854775807) (_b3 : -9223372036854775808 ≤ b.x ∧ b.x ≤ 9223372036854775807) (_b4 : -9223372036854775808 ≤ b.y ∧ b.y ≤ 9223372036854775807) (_b5 : -9223372036854775808 ≤ b.z ∧ b.z ≤ 9223372036854775807) (_b6 : -9223372036854775808 ≤ n ∧ n ≤ 9223372036854775807) : Calls Try.prog 5 #[.agg (pcs a).toArray, .agg (pcs b).toArray, .int .i64 n] w (RetB w true) := by
  have hcs_ := mCmp_small a b
  have hm0 := Mem.nil w
  go_enter Try.func5, Try.ntmps5
  refine wp_seq_k fun K1 hK1 => ?_
  refine plStart ?_
  refine plBox hm0 (cs := pcs a) (i := 0) rfl (by kernel_rfl) rfl (by kernel_rfl) ?_
  intro g2 w4 hm3
  clear hm0
  simp only [List.cons_append, List.nil_append, List.set_cons_succ, List.set_cons_zero] at hm3
  simp only [Act.put, List.setIfInBounds_toArray, List.set_cons_succ, List.set_cons_zero]
  refine plBox hm3 (cs := pcs b) (i := 1) rfl (by kernel_rfl) rfl (by kernel_rfl) ?_
  intro g5 w7 hm6
  clear hm3
  simp only [List.cons_append, List.nil_append, List.set_cons_succ, List.set_cons_zero] at hm6
  simp only [Act.put, List.setIfInBounds_toArray, List.set_cons_succ, List.set_cons_zero]
  refine plVal (i := 2) (v := .bool false) rfl (by kernel_rfl) (by kernel_rfl) ?_
  refine plDone (by decide) ?_
  simp only [Act.put, List.setIfInBounds_toArray, List.set_cons_succ, List.set_cons_zero]
  refine then_normal (hK1 _ _ ?_)
  refine wp_seq_k fun K8 hK8 => ?_
  refine plStart ?_
  refine plVal (i := 0) (v := .int .i64 n) rfl (by kernel_rfl) (by kernel_rfl) ?_
  simp only [Act.put, List.setIfInBounds_toArray, List.set_cons_succ, List.set_cons_zero]
  refine plCall (i := 1) 9 [.int .i64 n] [] [] rfl (by kernel_rfl) (by kernel_rfl) rfl (by kernel_rfl) (by kernel_rfl) (decode_any n _) ?_
  rintro e w9 ⟨rfl, hbz⟩
  have hm10 := hm6.below hbz
  clear hbz hm6
  refine ⟨_, rfl, ?_⟩
  simp only [Act.put, List.setIfInBounds_toArray, List.set_cons_succ, List.set_cons_zero]
  rcases bool_or ((mDec n).2) with h11 | h11
  · rw [h11]
    refine plVal (i := 2) (v := .tuple #[.agg (pcs ((mDec n).1)).toArray, .bool false]) rfl (by kernel_rfl) (by kernel_rfl) ?_
    simp only [Act.put, List.setIfInBounds_toArray, List.set_cons_succ, List.set_cons_zero]
    refine plVal (i := 3) (v := .agg (pcs ((mDec n).1)).toArray) rfl (by kernel_rfl) (by kernel_rfl) ?_
    simp only [Act.put, List.setIfInBounds_toArray, List.set_cons_succ, List.set_cons_zero]
    refine plVal (i := 4) (v := .bool false) rfl (by kernel_rfl) (by kernel_rfl) ?_
    simp only [Act.put, List.setIfInBounds_toArray, List.set_cons_succ, List.set_cons_zero]
    refine plAlloc (z := [.int .i64 0, .int .i64 0, .int .i64 0]) Ty.ag_voxel_api_Point hm10 (i := 5) rfl (by kernel_rfl) rfl ?_
    intro g12 w14 hm13
    clear hm10
    simp only [List.cons_append, List.nil_append, List.set_cons_succ, List.set_cons_zero] at hm13
    simp only [Act.put, List.setIfInBounds_toArray, List.set_cons_succ, List.set_cons_zero]
    refine plStore 2 Ty.ag_voxel_api_Point hm13 rfl (i := 6) (cs := pcs ((mDec n).1)) rfl (by kernel_rfl) rfl (by kernel_rfl) (by kernel_rfl) rfl rfl (by kernel_rfl) ?_
    intro w16 hm15
    clear hm13
    simp only [List.cons_append, List.nil_append, List.set_cons_succ, List.set_cons_zero] at hm15
    simp only [Act.put, List.setIfInBounds_toArray, List.set_cons_succ, List.set_cons_zero]
    refine plVal (i := 7) (v := .bool false) rfl (by kernel_rfl) (by kernel_rfl) ?_
    refine plDone (by decide) ?_
    simp only [Act.put, List.setIfInBounds_toArray, List.set_cons_succ, List.set_cons_zero]
    refine then_normal (hK8 _ _ ?_)
    refine wp_seq_k fun K17 hK17 => ?_
    refine wp_seq_k fun K18 hK18 => ?_
    refine plStart ?_
    refine plVal (i := 0) (v := .bool false) rfl (by kernel_rfl) (by kernel_rfl) ?_
    simp only [Act.put, List.setIfInBounds_toArray, List.set_cons_succ, List.set_cons_zero]
    refine plVal (i := 1) (v := .bool false) rfl (by kernel_rfl) (by kernel_rfl) ?_
    simp only [Act.put, List.setIfInBounds_toArray, List.set_cons_succ, List.set_cons_zero]
    refine plSkip (i := 2) rfl (by kernel_rfl) ?_
    simp only [Act.put, List.setIfInBounds_toArray, List.set_cons_succ, List.set_cons_zero]
    refine plSkip (i := 3) rfl (by kernel_rfl) ?_
    simp only [Act.put, List.setIfInBounds_toArray, List.set_cons_succ, List.set_cons_zero]
    refine plSkip (i := 4) rfl (by kernel_rfl) ?_
    simp only [Act.put, List.setIfInBounds_toArray, List.set_cons_succ, List.set_cons_zero]
    refine plSkip (i := 5) rfl (by kernel_rfl) ?_
    simp only [Act.put, List.setIfInBounds_toArray, List.set_cons_succ, List.set_cons_zero]
    refine plVal (i := 6) (v := .bool false) rfl (by kernel_rfl) (by kernel_rfl) ?_
    refine plDone (by decide) ?_
    simp only [Act.put, List.setIfInBounds_toArray, List.set_cons_succ, List.set_cons_zero]
    refine then_normal (hK18 _ _ ?_)
    refine wp_cond_false (by kernel_rfl) ?_
    refine wp_skip ?_
    refine then_normal (hK17 _ _ ?_)
    refine wp_seq_k fun K19 hK19 => ?_
    refine plStart ?_
    refine plVal (i := 0) (v := .agg (pcs a).toArray) rfl (by kernel_rfl) (gLoadAg (vs := pcs a) (k := 0) 0 hm15 rfl (by kernel_rfl) (by kernel_rfl) (.tmp 3) Ty.ag_voxel_api_Point rfl (by kernel_rfl)) ?_
    simp only [Act.put, List.setIfInBounds_toArray, List.set_cons_succ, List.set_cons_zero]
    refine plCall (i := 1) 30 [.agg (pcs a).toArray] [] [] rfl (by kernel_rfl) (by kernel_rfl) rfl (by kernel_rfl) (by kernel_rfl) (refInside_any a _) ?_
    rintro e w20 ⟨rfl, hbz⟩
    have hm21 := hm15.below hbz
    clear hbz hm15
    refine ⟨_, rfl, ?_⟩
    simp only [Act.put, List.setIfInBounds_toArray, List.set_cons_succ, List.set_cons_zero]
    rcases bool_or (decide a.In) with h22 | h22
    · rw [h22]
      refine plVal (i := 2) (v := .bool false) rfl (by kernel_rfl) (by kernel_rfl) ?_
      refine plDone (by decide) ?_
      simp only [Act.put, List.setIfInBounds_toArray, List.set_cons_succ, List.set_cons_zero]
      refine then_normal (hK19 _ _ ?_)
      refine wp_seq_k fun K23 hK23 => ?_
      refine plStart ?_
      refine plVal (i := 0) (v := .agg (pcs a).toArray) rfl (by kernel_rfl) (gLoadAg (vs := pcs a) (k := 0) 0 hm21 rfl (by kernel_rfl) (by kernel_rfl) (.tmp 3) Ty.ag_voxel_api_Point rfl (by kernel_rfl)) ?_
      simp only [Act.put, List.setIfInBounds_toArray, List.set_cons_succ, List.set_cons_zero]
      refine plCall (i := 1) 13 [.agg (pcs a).toArray] [] [] rfl (by kernel_rfl) (by kernel_rfl) rfl (by kernel_rfl) (by kernel_rfl) (encode_any a _) ?_
      rintro e w24 ⟨rfl, hbz⟩
      have hm25 := hm21.below hbz
      clear hbz hm21
      refine ⟨_, rfl, ?_⟩
      simp only [Act.put, List.setIfInBounds_toArray, List.set_cons_succ, List.set_cons_zero]
      refine plVal (i := 2) (v := .int .i64 (mEnc a)) rfl (by kernel_rfl) (by kernel_rfl) ?_
      refine plDone (by decide) ?_
      simp only [Act.put, List.setIfInBounds_toArray, List.set_cons_succ, List.set_cons_zero]
      refine then_normal (hK23 _ _ ?_)
      refine wp_seq_k fun K26 hK26 => ?_
      refine plStart ?_
      refine plVal (i := 0) (v := .int .i64 (mEnc a)) rfl (by kernel_rfl) (by kernel_rfl) ?_
      simp only [Act.put, List.setIfInBounds_toArray, List.set_cons_succ, List.set_cons_zero]
      refine plCall (i := 1) 9 [.int .i64 (mEnc a)] [] [] rfl (by kernel_rfl) (by kernel_rfl) rfl (by kernel_rfl) (by kernel_rfl) (decode_any (mEnc a) _) ?_
      rintro e w27 ⟨rfl, hbz⟩
      have hm28 := hm25.below hbz
      clear hbz hm25
      rw [(dec_enc_out (of_decide_eq_false h22))]
      refine ⟨_, rfl, ?_⟩
      simp only [Act.put, List.setIfInBounds_toArray, List.set_cons_succ, List.set_cons_zero]
      refine plVal (i := 2) (v := .tuple #[.agg (pcs ((mDec (mEnc a)).1)).toArray, .bool false]) rfl (by kernel_rfl) (by kernel_rfl) ?_
      simp only [Act.put, List.setIfInBounds_toArray, List.set_cons_succ, List.set_cons_zero]
      refine plVal (i := 3) (v := .agg (pcs ((mDec (mEnc a)).1)).toArray) rfl (by kernel_rfl) (by kernel_rfl) ?_
      simp only [Act.put, List.setIfInBounds_toArray, List.set_cons_succ, List.set_cons_zero]
      refine plVal (i := 4) (v := .bool false) rfl (by kernel_rfl) (by kernel_rfl) ?_
      simp only [Act.put, List.setIfInBounds_toArray, List.set_cons_succ, List.set_cons_zero]
      refine plAlloc (z := [.int .i64 0, .int .i64 0, .int .i64 0]) Ty.ag_voxel_api_Point hm28 (i := 5) rfl (by kernel_rfl) rfl ?_
      intro g29 w31 hm30
      clear hm28
      simp only [List.cons_append, List.nil_append, List.set_cons_succ, List.set_cons_zero] at hm30
      simp only [Act.put, List.setIfInBounds_toArray, List.set_cons_succ, List.set_cons_zero]
      refine plStore 3 Ty.ag_voxel_api_Point hm30 rfl (i := 6) (cs := pcs ((mDec (mEnc a)).1)) rfl (by kernel_rfl) rfl (by kernel_rfl) (by kernel_rfl) rfl rfl (by kernel_rfl) ?_
      intro w33 hm32
      clear hm30
      simp only [List.cons_append, List.nil_append, List.set_cons_succ, List.set_cons_zero] at hm32
      simp only [Act.put, List.setIfInBounds_toArray, List.set_cons_succ, List.set_cons_zero]
      refine plVal (i := 7) (v := .bool false) rfl (by kernel_rfl) (by kernel_rfl) ?_
      refine plDone (by decide) ?_
      simp only [Act.put, List.setIfInBounds_toArray, List.set_cons_succ, List.set_cons_zero]
      refine then_normal (hK26 _ _ ?_)
      refine wp_seq_k fun K34 hK34 => ?_
      refine wp_seq_k fun K35 hK35 => ?_
      refine plStart ?_
      refine plVal (i := 0) (v := .bool false) rfl (by kernel_rfl) (by kernel_rfl) ?_
      simp only [Act.put, List.setIfInBounds_toArray, List.set_cons_succ, List.set_cons_zero]
      refine plVal (i := 1) (v := .bool false) rfl (by kernel_rfl) (by kernel_rfl) ?_
      simp only [Act.put, List.setIfInBounds_toArray, List.set_cons_succ, List.set_cons_zero]
      refine plVal (i := 2) (v := .bool false) rfl (by kernel_rfl) (by kernel_rfl) ?_
      simp only [Act.put, List.setIfInBounds_toArray, List.set_cons_succ, List.set_cons_zero]
      refine plVal (i := 3) (v := .bool false) rfl (by kernel_rfl) (by kernel_rfl) ?_
      simp only [Act.put, List.setIfInBounds_toArray, List.set_cons_succ, List.set_cons_zero]
      refine plVal (i := 4) (v := .bool false) rfl (by kernel_rfl) (by kernel_rfl) ?_
      simp only [Act.put, List.setIfInBounds_toArray, List.set_cons_succ, List.set_cons_zero]
      refine plVal (i := 5) (v := .bool false) rfl (by kernel_rfl) (by kernel_rfl) ?_
      simp only [Act.put, List.setIfInBounds_toArray, List.set_cons_succ, List.set_cons_zero]
      refine plSkip (i := 6) rfl (by kernel_rfl) ?_
      simp only [Act.put, List.setIfInBounds_toArray, List.set_cons_succ, List.set_cons_zero]
      refine plSkip (i := 7) rfl (by kernel_rfl) ?_
      simp only [Act.put, List.setIfInBounds_toArray, List.set_cons_succ, List.set_cons_zero]
      refine plSkip (i := 8) rfl (by kernel_rfl) ?_
      simp only [Act.put, List.setIfInBounds_toArray, List.set_cons_succ, List.set_cons_zero]
      refine plVal (i := 9) (v := .bool false) rfl (by kernel_rfl) (by kernel_rfl) ?_
      simp only [Act.put, List.setIfInBounds_toArray, List.set_cons_succ, List.set_cons_zero]
      refine plVal (i := 10) (v := .bool false) rfl (by kernel_rfl) (by kernel_rfl) ?_
      refine plDone (by decide) ?_
      simp only [Act.put, List.setIfInBounds_toArray, List.set_cons_succ, List.set_cons_zero]
      refine then_normal (hK35 _ _ ?_)
      refine wp_cond_false (by kernel_rfl) ?_
      refine wp_skip ?_
      refine then_normal (hK34 _ _ ?_)
      refine wp_seq_k fun K36 hK36 => ?_
      refine plStart ?_
      refine plVal (i := 0) (v := .agg (pcs b).toArray) rfl (by kernel_rfl) (gLoadAg (vs := pcs b) (k := 0) 1 hm32 rfl (by kernel_rfl) (by kernel_rfl) (.tmp 4) Ty.ag_voxel_api_Point rfl (by kernel_rfl)) ?_
      simp only [Act.put, List.setIfInBounds_toArray, List.set_cons_succ, List.set_cons_zero]
      refine plCall (i := 1) 13 [.agg (pcs b).toArray] [] [] rfl (by kernel_rfl) (by kernel_rfl) rfl (by kernel_rfl) (by kernel_rfl) (encode_any b _) ?_
      rintro e w37 ⟨rfl, hbz⟩
      have hm38 := hm32.below hbz
      clear hbz hm32
      refine ⟨_, rfl, ?_⟩
      simp only [Act.put, List.setIfInBounds_toArray, List.set_cons_succ, List.set_cons_zero]
      refine plVal (i := 2) (v := .int .i64 (mEnc b)) rfl (by kernel_rfl) (by kernel_rfl) ?_
      refine plDone (by decide) ?_
      simp only [Act.put, List.setIfInBounds_toArray, List.set_cons_succ, List.set_cons_zero]
      refine then_normal (hK36 _ _ ?_)
      refine wp_seq_k fun K39 hK39 => ?_
      refine plStart ?_
      refine plVal (i := 0) (v := .agg (pcs a).toArray) rfl (by kernel_rfl) (gLoadAg (vs := pcs a) (k := 0) 0 hm38 rfl (by kernel_rfl) (by kernel_rfl) (.tmp 3) Ty.ag_voxel_api_Point rfl (by kernel_rfl)) ?_
      simp only [Act.put, List.setIfInBounds_toArray, List.set_cons_succ, List.set_cons_zero]
      refine plVal (i := 1) (v := .agg (pcs b).toArray) rfl (by kernel_rfl) (gLoadAg (vs := pcs b) (k := 0) 1 hm38 rfl (by kernel_rfl) (by kernel_rfl) (.tmp 4) Ty.ag_voxel_api_Point rfl (by kernel_rfl)) ?_
      simp only [Act.put, List.setIfInBounds_toArray, List.set_cons_succ, List.set_cons_zero]
      refine plCall (i := 2) 15 [.agg (pcs a).toArray, .agg (pcs b).toArray] [] [] rfl (by kernel_rfl) (by kernel_rfl) rfl (by kernel_rfl) (by kernel_rfl) (compare_any a b _) ?_
      rintro e w40 ⟨rfl, hbz⟩
      have hm41 := hm38.below hbz
      clear hbz hm38
      refine ⟨_, rfl, ?_⟩
      simp only [Act.put, List.setIfInBounds_toArray, List.set_cons_succ, List.set_cons_zero]
      refine plVal (i := 3) (v := .int .i64 (mCmp a b)) rfl (by kernel_rfl) (by kernel_rfl) ?_
      refine plDone (by decide) ?_
      simp only [Act.put, List.setIfInBounds_toArray, List.set_cons_succ, List.set_cons_zero]
      refine then_normal (hK39 _ _ ?_)
      refine wp_seq_k fun K42 hK42 => ?_
      refine plStart ?_
      refine plCall (i := 0) 21 [] [] [] rfl (by kernel_rfl) (by kernel_rfl) rfl (by kernel_rfl) (by kernel_rfl) (sanity_any _) ?_
      rintro e w43 ⟨rfl, hbz⟩
      have hm44 := hm41.below hbz
      clear hbz hm41
      refine ⟨_, rfl, ?_⟩
      simp only [Act.put, List.setIfInBounds_toArray, List.set_cons_succ, List.set_cons_zero]
      refine plVal (i := 1) (v := .bool true) rfl (by kernel_rfl) (by kernel_rfl) ?_
      simp only [Act.put, List.setIfInBounds_toArray, List.set_cons_succ, List.set_cons_zero]
      refine plVal (i := 2) (v := .int .i64 (mCmp a b)) rfl (by kernel_rfl) (by kernel_rfl) ?_
      simp only [Act.put, List.setIfInBounds_toArray, List.set_cons_succ, List.set_cons_zero]
      by_cases h45 : (mCmp a b) < 0
      · refine plVal (i := 3) (v := .bool true) rfl (by kernel_rfl) (boolTo (decide_eq_true h45) (lssRun (A := (mCmp a b)) (B := 0) (.tmp 54) (.const (.int .i64 0)) rfl (by kernel_rfl) (by kernel_rfl))) ?_
        simp only [Act.put, List.setIfInBounds_toArray, List.set_cons_succ, List.set_cons_zero]
        refine plVal (i := 4) (v := .int .i64 (mEnc a)) rfl (by kernel_rfl) (by kernel_rfl) ?_
        simp only [Act.put, List.setIfInBounds_toArray, List.set_cons_succ, List.set_cons_zero]
        refine plVal (i := 5) (v := .int .i64 (mEnc b)) rfl (by kernel_rfl) (by kernel_rfl) ?_
        simp only [Act.put, List.setIfInBounds_toArray, List.set_cons_succ, List.set_cons_zero]
        refine plVal (i := 6) (v := .bool true) rfl (by kernel_rfl) (boolTo (decide_eq_true ((mCmp_neg a b).1 h45)) (lssRun (A := (mEnc a)) (B := (mEnc b)) (.tmp 56) (.tmp 57) rfl (by kernel_rfl) (by kernel_rfl))) ?_
        simp only [Act.put, List.setIfInBounds_toArray, List.set_cons_succ, List.set_cons_zero]
        refine plVal (i := 7) (v := .bool true) rfl (by kernel_rfl) (by kernel_rfl) ?_
        simp only [Act.put, List.setIfInBounds_toArray, List.set_cons_succ, List.set_cons_zero]
        refine plVal (i := 8) (v := .bool true) rfl (by kernel_rfl) (by kernel_rfl) ?_
        simp only [Act.put, List.setIfInBounds_toArray, List.set_cons_succ, List.set_cons_zero]
        refine plVal (i := 9) (v := .bool true) rfl (by kernel_rfl) (by kernel_rfl) ?_
        simp only [Act.put, List.setIfInBounds_toArray, List.set_cons_succ, List.set_cons_zero]
        refine plVal (i := 10) (v := .int .i64 (mCmp a b)) rfl (by kernel_rfl) (by kernel_rfl) ?_
        simp only [Act.put, List.setIfInBounds_toArray, List.set_cons_succ, List.set_cons_zero]
        by_cases h46 : (mCmp a b) = 0
        · refine plVal (i := 11) (v := .bool true) rfl (by kernel_rfl) (boolTo (decide_eq_true h46) (eqlRun (A := (mCmp a b)) (B := 0) (.tmp 62) (.const (.int .i64 0)) rfl (by kernel_rfl) (by kernel_rfl))) ?_
          simp only [Act.put, List.setIfInBounds_toArray, List.set_cons_succ, List.set_cons_zero]
          refine plVal (i := 12) (v := .int .i64 (mEnc a)) rfl (by kernel_rfl) (by kernel_rfl) ?_
          simp only [Act.put, List.setIfInBounds_toArray, List.set_cons_succ, List.set_cons_zero]
          refine plVal (i := 13) (v := .int .i64 (mEnc b)) rfl (by kernel_rfl) (by kernel_rfl) ?_
          simp only [Act.put, List.setIfInBounds_toArray, List.set_cons_succ, List.set_cons_zero]
          refine plVal (i := 14) (v := .bool true) rfl (by kernel_rfl) (boolTo (decide_eq_true ((mCmp_zero a b).1 h46)) (eqlRun (A := (mEnc a)) (B := (mEnc b)) (.tmp 64) (.tmp 65) rfl (by kernel_rfl) (by kernel_rfl))) ?_
          simp only [Act.put, List.setIfInBounds_toArray, List.set_cons_succ, List.set_cons_zero]
          refine plVal (i := 15) (v := .bool true) rfl (by kernel_rfl) (by kernel_rfl) ?_
          simp only [Act.put, List.setIfInBounds_toArray, List.set_cons_succ, List.set_cons_zero]
          refine plVal (i := 16) (v := .bool true) rfl (by kernel_rfl) (by kernel_rfl) ?_
          simp only [Act.put, List.setIfInBounds_toArray, List.set_cons_succ, List.set_cons_zero]
          refine plVal (i := 17) (v := .bool true) rfl (by kernel_rfl) (by kernel_rfl) ?_
          simp only [Act.put, List.setIfInBounds_toArray, List.set_cons_succ, List.set_cons_zero]
          refine plVal (i := 18) (v := .agg (pcs b).toArray) rfl (by kernel_rfl) (gLoadAg (vs := pcs b) (k := 0) 1 hm44 rfl (by kernel_rfl) (by kernel_rfl) (.tmp 4) Ty.ag_voxel_api_Point rfl (by kernel_rfl)) ?_
          simp only [Act.put, List.setIfInBounds_toArray, List.set_cons_succ, List.set_cons_zero]
          refine plVal (i := 19) (v := .agg (pcs a).toArray) rfl (by kernel_rfl) (gLoadAg (vs := pcs a) (k := 0) 0 hm44 rfl (by kernel_rfl) (by kernel_rfl) (.tmp 3) Ty.ag_voxel_api_Point rfl (by kernel_rfl)) ?_
          simp only [Act.put, List.setIfInBounds_toArray, List.set_cons_succ, List.set_cons_zero]
          refine plCall (i := 20) 15 [.agg (pcs b).toArray, .agg (pcs a).toArray] [] [] rfl (by kernel_rfl) (by kernel_rfl) rfl (by kernel_rfl) (by kernel_rfl) (compare_any b a _) ?_
          rintro e w47 ⟨rfl, hbz⟩
          have hm48 := hm44.below hbz
          clear hbz hm44
          refine ⟨_, rfl, ?_⟩
          simp only [Act.put, List.setIfInBounds_toArray, List.set_cons_succ, List.set_cons_zero]
          refine plVal (i := 21) (v := .int .i64 (mCmp a b)) rfl (by kernel_rfl) (by kernel_rfl) ?_
          simp only [Act.put, List.setIfInBounds_toArray, List.set_cons_succ, List.set_cons_zero]
          refine plVal (i := 22) (v := .int .i64 (-(mCmp a b))) rfl (by kernel_rfl) (gNeg (.tmp 73) rfl (by kernel_rfl) (by omega)) ?_
          simp only [Act.put, List.setIfInBounds_toArray, List.set_cons_succ, List.set_cons_zero]
          refine plVal (i := 23) (v := .bool true) rfl (by kernel_rfl) (boolTo (decide_eq_true (mCmp_swap a b)) (eqlRun (A := (mCmp b a)) (B := (-(mCmp a b))) (.tmp 72) (.tmp 74) rfl (by kernel_rfl) (by kernel_rfl))) ?_
          simp only [Act.put, List.setIfInBounds_toArray, List.set_cons_succ, List.set_cons_zero]
          refine plVal (i := 24) (v := .bool true) rfl (by kernel_rfl) (by kernel_rfl) ?_
          simp only [Act.put, List.setIfInBounds_toArray, List.set_cons_succ, List.set_cons_zero]
          refine plVal (i := 25) (v := .bool true) rfl (by kernel_rfl) (by kernel_rfl) ?_
          refine plDone (by decide) ?_
          simp only [Act.put, List.setIfInBounds_toArray, List.set_cons_succ, List.set_cons_zero]
          refine then_normal (hK42 _ _ ?_)
          refine wp_ret ?_
          refine bodyPost_ret (v := .bool true) (gRes1 rfl (gResTmp (t := 6) (v := .bool true) (by kernel_rfl))) rfl ?_
          exact ⟨by first | rfl | simp_all, hm48.bel⟩
        · refine plVal (i := 11) (v := .bool false) rfl (by kernel_rfl) (boolTo (decide_eq_false h46) (eqlRun (A := (mCmp a b)) (B := 0) (.tmp 62) (.const (.int .i64 0)) rfl (by kernel_rfl) (by kernel_rfl))) ?_
          simp only [Act.put, List.setIfInBounds_toArray, List.set_cons_succ, List.set_cons_zero]
          refine plVal (i := 12) (v := .int .i64 (mEnc a)) rfl (by kernel_rfl) (by kernel_rfl) ?_
          simp only [Act.put, List.setIfInBounds_toArray, List.set_cons_succ, List.set_cons_zero]
          refine plVal (i := 13) (v := .int .i64 (mEnc b)) rfl (by kernel_rfl) (by kernel_rfl) ?_
          simp only [Act.put, List.setIfInBounds_toArray, List.set_cons_succ, List.set_cons_zero]
          refine plVal (i := 14) (v := .bool false) rfl (by kernel_rfl) (boolTo (decide_eq_false (fun h => h46 ((mCmp_zero a b).2 h))) (eqlRun (A := (mEnc a)) (B := (mEnc b)) (.tmp 64) (.tmp 65) rfl (by kernel_rfl) (by kernel_rfl))) ?_
          simp only [Act.put, List.setIfInBounds_toArray, List.set_cons_succ, List.set_cons_zero]
          refine plVal (i := 15) (v := .bool true) rfl (by kernel_rfl) (by kernel_rfl) ?_
          simp only [Act.put, List.setIfInBounds_toArray, List.set_cons_succ, List.set_cons_zero]
          refine plVal (i := 16) (v := .bool true) rfl (by kernel_rfl) (by kernel_rfl) ?_
          simp only [Act.put, List.setIfInBounds_toArray, List.set_cons_succ, List.set_cons_zero]
          refine plVal (i := 17) (v := .bool true) rfl (by kernel_rfl) (by kernel_rfl) ?_
          simp only [Act.put, List.setIfInBounds_toArray, List.set_cons_succ, List.set_cons_zero]
          refine plVal (i := 18) (v := .agg (pcs b).toArray) rfl (by kernel_rfl) (gLoadAg (vs := pcs b) (k := 0) 1 hm44 rfl (by kernel_rfl) (by kernel_rfl) (.tmp 4) Ty.ag_voxel_api_Point rfl (by kernel_rfl)) ?_
          simp only [Act.put, List.setIfInBounds_toArray, List.set_cons_succ, List.set_cons_zero]
          refine plVal (i := 19) (v := .agg (pcs a).toArray) rfl (by kernel_rfl) (gLoadAg (vs := pcs a) (k := 0) 0 hm44 rfl (by kernel_rfl) (by kernel_rfl) (.tmp 3) Ty.ag_voxel_api_Point rfl (by kernel_rfl)) ?_
          simp only [Act.put, List.setIfInBounds_toArray, List.set_cons_succ, List.set_cons_zero]
          refine plCall (i := 20) 15 [.agg (pcs b).toArray, .agg (pcs a).toArray] [] [] rfl (by kernel_rfl) (by kernel_rfl) rfl (by kernel_rfl) (by kernel_rfl) (compare_any b a _) ?_
          rintro e w49 ⟨rfl, hbz⟩
          have hm50 := hm44.below hbz
          clear hbz hm44
          refine ⟨_, rfl, ?_⟩
          simp only [Act.put, List.setIfInBounds_toArray, List.set_cons_succ, List.set_cons_zero]
          refine plVal (i := 21) (v := .int .i64 (mCmp a b)) rfl (by kernel_rfl) (by kernel_rfl) ?_
          simp only [Act.put, List.setIfInBounds_toArray, List.set_cons_succ, List.set_cons_zero]
          refine plVal (i := 22) (v := .int .i64 (-(mCmp a b))) rfl (by kernel_rfl) (gNeg (.tmp 73) rfl (by kernel_rfl) (by omega)) ?_
          simp only [Act.put, List.setIfInBounds_toArray, List.set_cons_succ, List.set_cons_zero]
          refine plVal (i := 23) (v := .bool true) rfl (by kernel_rfl) (boolTo (decide_eq_true (mCmp_swap a b)) (eqlRun (A := (mCmp b a)) (B := (-(mCmp a b))) (.tmp 72) (.tmp 74) rfl (by kernel_rfl) (by kernel_rfl))) ?_
          simp only [Act.put, List.setIfInBounds_toArray, List.set_cons_succ, List.set_cons_zero]
          refine plVal (i := 24) (v := .bool true) rfl (by kernel_rfl) (by kernel_rfl) ?_
          simp only [Act.put, List.setIfInBounds_toArray, List.set_cons_succ, List.set_cons_zero]
          refine plVal (i := 25) (v := .bool true) rfl (by kernel_rfl) (by kernel_rfl) ?_
          refine plDone (by decide) ?_
          simp only [Act.put, List.setIfInBounds_toArray, List.set_cons_succ, List.set_cons_zero]
          refine then_normal (hK42 _ _ ?_)
          refine wp_ret ?_
          refine bodyPost_ret (v := .bool true) (gRes1 rfl (gResTmp (t := 6) (v := .bool true) (by kernel_rfl))) rfl ?_
          exact ⟨by first | rfl | simp_all, hm50.bel⟩
      · refine plVal (i := 3) (v := .bool false) rfl (by kernel_rfl) (boolTo (decide_eq_false h45) (lssRun (A := (mCmp a b)) (B := 0) (.tmp 54) (.const (.int .i64 0)) rfl (by kernel_rfl) (by kernel_rfl))) ?_
        simp only [Act.put, List.setIfInBounds_toArray, List.set_cons_succ, List.set_cons_zero]
        refine plVal (i := 4) (v := .int .i64 (mEnc a)) rfl (by kernel_rfl) (by kernel_rfl) ?_
        simp only [Act.put, List.setIfInBounds_toArray, List.set_cons_succ, List.set_cons_zero]
        refine plVal (i := 5) (v := .int .i64 (mEnc b)) rfl (by kernel_rfl) (by kernel_rfl) ?_
        simp only [Act.put, List.setIfInBounds_toArray, List.set_cons_succ, List.set_cons_zero]
        refine plVal (i := 6) (v := .bool false) rfl (by kernel_rfl) (boolTo (decide_eq_false (fun h => h45 ((mCmp_neg a b).2 h))) (lssRun (A := (mEnc a)) (B := (mEnc b)) (.tmp 56) (.tmp 57) rfl (by kernel_rfl) (by kernel_rfl))) ?_
        simp only [Act.put, List.setIfInBounds_toArray, List.set_cons_succ, List.set_cons_zero]
        refine plVal (i := 7) (v := .bool true) rfl (by kernel_rfl) (by kernel_rfl) ?_
        simp only [Act.put, List.setIfInBounds_toArray, List.set_cons_succ, List.set_cons_zero]
        refine plVal (i := 8) (v := .bool true) rfl (by kernel_rfl) (by kernel_rfl) ?_
        simp only [Act.put, List.setIfInBounds_toArray, List.set_cons_succ, List.set_cons_zero]
        refine plVal (i := 9) (v := .bool true) rfl (by kernel_rfl) (by kernel_rfl) ?_
        simp only [Act.put, List.setIfInBounds_toArray, List.set_cons_succ, List.set_cons_zero]
        refine plVal (i := 10) (v := .int .i64 (mCmp a b)) rfl (by kernel_rfl) (by kernel_rfl) ?_
        simp only [Act.put, List.setIfInBounds_toArray, List.set_cons_succ, List.set_cons_zero]
        by_cases h51 : (mCmp a b) = 0
        · refine plVal (i := 11) (v := .bool true) rfl (by kernel_rfl) (boolTo (decide_eq_true h51) (eqlRun (A := (mCmp a b)) (B := 0) (.tmp 62) (.const (.int .i64 0)) rfl (by kernel_rfl) (by kernel_rfl))) ?_
          simp only [Act.put, List.setIfInBounds_toArray, List.set_cons_succ, List.set_cons_zero]
          refine plVal (i := 12) (v := .int .i64 (mEnc a)) rfl (by kernel_rfl) (by kernel_rfl) ?_
          simp only [Act.put, List.setIfInBounds_toArray, List.set_cons_succ, List.set_cons_zero]
          refine plVal (i := 13) (v := .int .i64 (mEnc b)) rfl (by kernel_rfl) (by kernel_rfl) ?_
          simp only [Act.put, List.setIfInBounds_toArray, List.set_cons_succ, List.set_cons_zero]
          refine plVal (i := 14) (v := .bool true) rfl (by kernel_rfl) (boolTo (decide_eq_true ((mCmp_zero a b).1 h51)) (eqlRun (A := (mEnc a)) (B := (mEnc b)) (.tmp 64) (.tmp 65) rfl (by kernel_rfl) (by kernel_rfl))) ?_
          simp only [Act.put, List.setIfInBounds_toArray, List.set_cons_succ, List.set_cons_zero]
          refine plVal (i := 15) (v := .bool true) rfl (by kernel_rfl) (by kernel_rfl) ?_
          simp only [Act.put, List.setIfInBounds_toArray, List.set_cons_succ, List.set_cons_zero]
          refine plVal (i := 16) (v := .bool true) rfl (by kernel_rfl) (by kernel_rfl) ?_
          simp only [Act.put, List.setIfInBounds_toArray, List.set_cons_succ, List.set_cons_zero]
          refine plVal (i := 17) (v := .bool true) rfl (by kernel_rfl) (by kernel_rfl) ?_
          simp only [Act.put, List.setIfInBounds_toArray, List.set_cons_succ, List.set_cons_zero]
          refine plVal (i := 18) (v := .agg (pcs b).toArray) rfl (by kernel_rfl) (gLoadAg (vs := pcs b) (k := 0) 1 hm44 rfl (by kernel_rfl) (by kernel_rfl) (.tmp 4) Ty.ag_voxel_api_Point rfl (by kernel_rfl)) ?_
          simp only [Act.put, List.setIfInBounds_toArray, List.set_cons_succ, List.set_cons_zero]
          refine plVal (i := 19) (v := .agg (pcs a).toArray) rfl (by kernel_rfl) (gLoadAg (vs := pcs a) (k := 0) 0 hm44 rfl (by kernel_rfl) (by kernel_rfl) (.tmp 3) Ty.ag_voxel_api_Point rfl (by kernel_rfl)) ?_
          simp only [Act.put, List.setIfInBounds_toArray, List.set_cons_succ, List.set_cons_zero]
          refine plCall (i := 20) 15 [.agg (pcs b).toArray, .agg (pcs a).toArray] [] [] rfl (by kernel_rfl) (by kernel_rfl) rfl (by kernel_rfl) (by kernel_rfl) (compare_any b a _) ?_
          rintro e w52 ⟨rfl, hbz⟩
          have hm53 := hm44.below hbz
          clear hbz hm44
          refine ⟨_, rfl, ?_⟩
          simp only [Act.put, List.setIfInBounds_toArray, List.set_cons_succ, List.set_cons_zero]
          refine plVal (i := 21) (v := .int .i64 (mCmp a b)) rfl (by kernel_rfl) (by kernel_rfl) ?_
          simp only [Act.put, List.setIfInBounds_toArray, List.set_cons_succ, List.set_cons_zero]
          refine plVal (i := 22) (v := .int .i64 (-(mCmp a b))) rfl (by kernel_rfl) (gNeg (.tmp 73) rfl (by kernel_rfl) (by omega)) ?_
          simp only [Act.put, List.setIfInBounds_toArray, List.set_cons_succ, List.set_cons_zero]
          refine plVal (i := 23) (v := .bool true) rfl (by kernel_rfl) (boolTo (decide_eq_true (mCmp_swap a b)) (eqlRun (A := (mCmp b a)) (B := (-(mCmp a b))) (.tmp 72) (.tmp 74) rfl (by kernel_rfl) (by kernel_rfl))) ?_
          simp only [Act.put, List.setIfInBounds_toArray, List.set_cons_succ, List.set_cons_zero]
          refine plVal (i := 24) (v := .bool true) rfl (by kernel_rfl) (by kernel_rfl) ?_
          simp only [Act.put, List.setIfInBounds_toArray, List.set_cons_succ, List.set_cons_zero]
          refine plVal (i := 25) (v := .bool true) rfl (by kernel_rfl) (by kernel_rfl) ?_
          refine plDone (by decide) ?_
          simp only [Act.put, List.setIfInBounds_toArray, List.set_cons_succ, List.set_cons_zero]
          refine then_normal (hK42 _ _ ?_)
          refine wp_ret ?_
          refine bodyPost_ret (v := .bool true) (gRes1 rfl (gResTmp (t := 6) (v := .bool true) (by kernel_rfl))) rfl ?_
          exact ⟨by first | rfl | simp_all, hm53.bel⟩
        · refine plVal (i := 11) (v := .bool false) rfl (by kernel_rfl) (boolTo (decide_eq_false h51) (eqlRun (A := (mCmp a b)) (B := 0) (.tmp 62) (.const (.int .i64 0)) rfl (by kernel_rfl) (by kernel_rfl))) ?_
          simp only [Act.put, List.setIfInBounds_toArray, List.set_cons_succ, List.set_cons_zero]
          refine plVal (i := 12) (v := .int .i64 (mEnc a)) rfl (by kernel_rfl) (by kernel_rfl) ?_
          simp only [Act.put, List.setIfInBounds_toArray, List.set_cons_succ, List.set_cons_zero]
          refine plVal (i := 13) (v := .int .i64 (mEnc b)) rfl (by kernel_rfl) (by kernel_rfl) ?_
          simp only [Act.put, List.setIfInBounds_toArray, List.set_cons_succ, List.set_cons_zero]
          refine plVal (i := 14) (v := .bool false) rfl (by kernel_rfl) (boolTo (decide_eq_false (fun h => h51 ((mCmp_zero a b).2 h))) (eqlRun (A := (mEnc a)) (B := (mEnc b)) (.tmp 64) (.tmp 65) rfl (by kernel_rfl) (by kernel_rfl))) ?_
          simp only [Act.put, List.setIfInBounds_toArray, List.set_cons_succ, List.set_cons_zero]
          refine plVal (i := 15) (v := .bool true) rfl (by kernel_rfl) (by kernel_rfl) ?_
          simp only [Act.put, List.setIfInBounds_toArray, List.set_cons_succ, List.set_cons_zero]
          refine plVal (i := 16) (v := .bool true) rfl (by kernel_rfl) (by kernel_rfl) ?_
          simp only [Act.put, List.setIfInBounds_toArray, List.set_cons_succ, List.set_cons_zero]
          refine plVal (i := 17) (v := .bool true) rfl (by kernel_rfl) (by kernel_rfl) ?_
          simp only [Act.put, List.setIfInBounds_toArray, List.set_cons_succ, List.set_cons_zero]
          refine plVal (i := 18) (v := .agg (pcs b).toArray) rfl (by kernel_rfl) (gLoadAg (vs := pcs b) (k := 0) 1 hm44 rfl (by kernel_rfl) (by kernel_rfl) (.tmp 4) Ty.ag_voxel_api_Point rfl (by kernel_rfl)) ?_
          simp only [Act.put, List.setIfInBounds_toArray, List.set_cons_succ, List.set_cons_zero]
          refine plVal (i := 19) (v := .agg (pcs a).toArray) rfl (by kernel_rfl) (gLoadAg (vs := pcs a) (k := 0) 0 hm44 rfl (by kernel_rfl) (by kernel_rfl) (.tmp 3) Ty.ag_voxel_api_Point rfl (by kernel_rfl)) ?_
          simp only [Act.put, List.setIfInBounds_toArray, List.set_cons_succ, List.set_cons_zero]
          refine plCall (i := 20) 15 [.agg (pcs b).toArray, .agg (pcs a).toArray] [] [] rfl (by kernel_rfl) (by kernel_rfl) rfl (by kernel_rfl) (by kernel_rfl) (compare_any b a _) ?_
          rintro e w54 ⟨rfl, hbz⟩
          have hm55 := hm44.below hbz
          clear hbz hm44
          refine ⟨_, rfl, ?_⟩
          simp only [Act.put, List.setIfInBounds_toArray, List.set_cons_succ, List.set_cons_zero]
          refine plVal (i := 21) (v := .int .i64 (mCmp a b)) rfl (by kernel_rfl) (by kernel_rfl) ?_
          simp only [Act.put, List.setIfInBounds_toArray, List.set_cons_succ, List.set_cons_zero]
          refine plVal (i := 22) (v := .int .i64 (-(mCmp a b))) rfl (by kernel_rfl) (gNeg (.tmp 73) rfl (by kernel_rfl) (by omega)) ?_
          simp only [Act.put, List.setIfInBounds_toArray, List.set_cons_succ, List.set_cons_zero]
          refine plVal (i := 23) (v := .bool true) rfl (by kernel_rfl) (boolTo (decide_eq_true (mCmp_swap a b)) (eqlRun (A := (mCmp b a)) (B := (-(mCmp a b))) (.tmp 72) (.tmp 74) rfl (by kernel_rfl) (by kernel_rfl))) ?_
          simp only [Act.put, List.setIfInBounds_toArray, List.set_cons_succ, List.set_cons_zero]
          refine plVal (i := 24) (v := .bool true) rfl (by kernel_rfl) (by kernel_rfl) ?_
          simp only [Act.put, List.setIfInBounds_toArray, List.set_cons_succ, List.set_cons_zero]
          refine plVal (i := 25) (v := .bool true) rfl (by kernel_rfl) (by kernel_rfl) ?_
          refine plDone (by decide) ?_
          simp only [Act.put, List.setIfInBounds_toArray, List.set_cons_succ, List.set_cons_zero]
          refine then_normal (hK42 _ _ ?_)
          refine wp_ret ?_
          refine bodyPost_ret (v := .bool true) (gRes1 rfl (gResTmp (t := 6) (v := .bool true) (by kernel_rfl))) rfl ?_
          exact ⟨by first | rfl | simp_all, hm55.bel⟩
    · rw [h22]
      refine plVal (i := 2) (v := .bool true) rfl (by kernel_rfl) (by kernel_rfl) ?_
      refine plDone (by decide) ?_
      simp only [Act.put, List.setIfInBounds_toArray, List.set_cons_succ, List.set_cons_zero]
      refine then_normal (hK19 _ _ ?_)
      refine wp_seq_k fun K56 hK56 => ?_
      refine plStart ?_
      refine plVal (i := 0) (v := .agg (pcs a).toArray) rfl (by kernel_rfl) (gLoadAg (vs := pcs a) (k := 0) 0 hm21 rfl (by kernel_rfl) (by kernel_rfl) (.tmp 3) Ty.ag_voxel_api_Point rfl (by kernel_rfl)) ?_
      simp only [Act.put, List.setIfInBounds_toArray, List.set_cons_succ, List.set_cons_zero]
      refine plCall (i := 1) 13 [.agg (pcs a).toArray] [] [] rfl (by kernel_rfl) (by kernel_rfl) rfl (by kernel_rfl) (by kernel_rfl) (encode_any a _) ?_
      rintro e w57 ⟨rfl, hbz⟩
      have hm58 := hm21.below hbz
      clear hbz hm21
      refine ⟨_, rfl, ?_⟩
      simp only [Act.put, List.setIfInBounds_toArray, List.set_cons_succ, List.set_cons_zero]
      refine plVal (i := 2) (v := .int .i64 (mEnc a)) rfl (by kernel_rfl) (by kernel_rfl) ?_
      refine plDone (by decide) ?_
      simp only [Act.put, List.setIfInBounds_toArray, List.set_cons_succ, List.set_cons_zero]
      refine then_normal (hK56 _ _ ?_)
      refine wp_seq_k fun K59 hK59 => ?_
      refine plStart ?_
      refine plVal (i := 0) (v := .int .i64 (mEnc a)) rfl (by kernel_rfl) (by kernel_rfl) ?_
      simp only [Act.put, List.setIfInBounds_toArray, List.set_cons_succ, List.set_cons_zero]
      refine plCall (i := 1) 9 [.int .i64 (mEnc a)] [] [] rfl (by kernel_rfl) (by kernel_rfl) rfl (by kernel_rfl) (by kernel_rfl) (decode_any (mEnc a) _) ?_
      rintro e w60 ⟨rfl, hbz⟩
      have hm61 := hm58.below hbz
      clear hbz hm58
      rw [(dec_enc_in (of_decide_eq_true h22)).1]
      refine ⟨_, rfl, ?_⟩
      simp only [Act.put, List.setIfInBounds_toArray, List.set_cons_succ, List.set_cons_zero]
      refine plVal (i := 2) (v := .tuple #[.agg (pcs ((mDec (mEnc a)).1)).toArray, .bool true]) rfl (by kernel_rfl) (by kernel_rfl) ?_
      simp only [Act.put, List.setIfInBounds_toArray, List.set_cons_succ, List.set_cons_zero]
      refine plVal (i := 3) (v := .agg (pcs ((mDec (mEnc a)).1)).toArray) rfl (by kernel_rfl) (by kernel_rfl) ?_
      simp only [Act.put, List.setIfInBounds_toArray, List.set_cons_succ, List.set_cons_zero]
      refine plVal (i := 4) (v := .bool true) rfl (by kernel_rfl) (by kernel_rfl) ?_
      simp only [Act.put, List.setIfInBounds_toArray, List.set_cons_succ, List.set_cons_zero]
      refine plAlloc (z := [.int .i64 0, .int .i64 0, .int .i64 0]) Ty.ag_voxel_api_Point hm61 (i := 5) rfl (by kernel_rfl) rfl ?_
      intro g62 w64 hm63
      clear hm61
      simp only [List.cons_append, List.nil_append, List.set_cons_succ, List.set_cons_zero] at hm63
      simp only [Act.put, List.setIfInBounds_toArray, List.set_cons_succ, List.set_cons_zero]
      refine plStore 3 Ty.ag_voxel_api_Point hm63 rfl (i := 6) (cs := pcs ((mDec (mEnc a)).1)) rfl (by kernel_rfl) rfl (by kernel_rfl) (by kernel_rfl) rfl rfl (by kernel_rfl) ?_
      intro w66 hm65
      clear hm63
      simp only [List.cons_append, List.nil_append, List.set_cons_succ, List.set_cons_zero] at hm65
      simp only [Act.put, List.setIfInBounds_toArray, List.set_cons_succ, List.set_cons_zero]
      refine plVal (i := 7) (v := .bool true) rfl (by kernel_rfl) (by kernel_rfl) ?_
      refine plDone (by decide) ?_
      simp only [Act.put, List.setIfInBounds_toArray, List.set_cons_succ, List.set_cons_zero]
      refine then_normal (hK59 _ _ ?_)
      refine wp_seq_k fun K67 hK67 => ?_
      refine wp_seq_k fun K68 hK68 => ?_
      refine plStart ?_
      refine plVal (i := 0) (v := .bool true) rfl (by kernel_rfl) (by kernel_rfl) ?_
      simp only [Act.put, List.setIfInBounds_toArray, List.set_cons_succ, List.set_cons_zero]
      refine plVal (i := 1) (v := .bool true) rfl (by kernel_rfl) (by kernel_rfl) ?_
      simp only [Act.put, List.setIfInBounds_toArray, List.set_cons_succ, List.set_cons_zero]
      refine plVal (i := 2) (v := .bool false) rfl (by kernel_rfl) (by kernel_rfl) ?_
      simp only [Act.put, List.setIfInBounds_toArray, List.set_cons_succ, List.set_cons_zero]
      refine plVal (i := 3) (v := .bool false) rfl (by kernel_rfl) (by kernel_rfl) ?_
      simp only [Act.put, List.setIfInBounds_toArray, List.set_cons_succ, List.set_cons_zero]
      refine plVal (i := 4) (v := .bool true) rfl (by kernel_rfl) (by kernel_rfl) ?_
      simp only [Act.put, List.setIfInBounds_toArray, List.set_cons_succ, List.set_cons_zero]
      refine plVal (i := 5) (v := .bool true) rfl (by kernel_rfl) (by kernel_rfl) ?_
      simp only [Act.put, List.setIfInBounds_toArray, List.set_cons_succ, List.set_cons_zero]
      refine plVal (i := 6) (v := .agg (pcs ((mDec (mEnc a)).1)).toArray) rfl (by kernel_rfl) (gLoadAg (vs := pcs ((mDec (mEnc a)).1)) (k := 0) 3 hm65 rfl (by kernel_rfl) (by kernel_rfl) (.tmp 11) Ty.ag_voxel_api_Point rfl (by kernel_rfl)) ?_
      simp only [Act.put, List.setIfInBounds_toArray, List.set_cons_succ, List.set_cons_zero]
      refine plVal (i := 7) (v := .agg (pcs a).toArray) rfl (by kernel_rfl) (gLoadAg (vs := pcs a) (k := 0) 0 hm65 rfl (by kernel_rfl) (by kernel_rfl) (.tmp 3) Ty.ag_voxel_api_Point rfl (by kernel_rfl)) ?_
      simp only [Act.put, List.setIfInBounds_toArray, List.set_cons_succ, List.set_cons_zero]
      refine plVal (i := 8) (v := .bool false) rfl (by kernel_rfl) (boolTo (by rw [decide_eq_true (dec_enc_in (of_decide_eq_true h22)).2]; rfl) (neqPtRun (.tmp 42) (.tmp 43) ((mDec (mEnc a)).1) a rfl (by kernel_rfl) (by kernel_rfl))) ?_
      simp only [Act.put, List.setIfInBounds_toArray, List.set_cons_succ, List.set_cons_zero]
      refine plVal (i := 9) (v := .bool false) rfl (by kernel_rfl) (by kernel_rfl) ?_
      simp only [Act.put, List.setIfInBounds_toArray, List.set_cons_succ, List.set_cons_zero]
      refine plVal (i := 10) (v := .bool false) rfl (by kernel_rfl) (by kernel_rfl) ?_
      refine plDone (by decide) ?_
      simp only [Act.put, List.setIfInBounds_toArray, List.set_cons_succ, List.set_cons_zero]
      refine then_normal (hK68 _ _ ?_)
      refine wp_cond_false (by kernel_rfl) ?_
      refine wp_skip ?_
      refine then_normal (hK67 _ _ ?_)
      refine wp_seq_k fun K69 hK69 => ?_
      refine plStart ?_
      refine plVal (i := 0) (v := .agg (pcs b).toArray) rfl (by kernel_rfl) (gLoadAg (vs := pcs b) (k := 0) 1 hm65 rfl (by kernel_rfl) (by kernel_rfl) (.tmp 4) Ty.ag_voxel_api_Point rfl (by kernel_rfl)) ?_
      simp only [Act.put, List.setIfInBounds_toArray, List.set_cons_succ, List.set_cons_zero]
      refine plCall (i := 1) 13 [.agg (pcs b).toArray] [] [] rfl (by kernel_rfl) (by kernel_rfl) rfl (by kernel_rfl) (by kernel_rfl) (encode_any b _) ?_
      rintro e w70 ⟨rfl, hbz⟩
      have hm71 := hm65.below hbz
      clear hbz hm65
      refine ⟨_, rfl, ?_⟩
      simp only [Act.put, List.setIfInBounds_toArray, List.set_cons_succ, List.set_cons_zero]
      refine plVal (i := 2) (v := .int .i64 (mEnc b)) rfl (by kernel_rfl) (by kernel_rfl) ?_
      refine plDone (by decide) ?_
      simp only [Act.put, List.setIfInBounds_toArray, List.set_cons_succ, List.set_cons_zero]
      refine then_normal (hK69 _ _ ?_)
      refine wp_seq_k fun K72 hK72 => ?_
      refine plStart ?_
      refine plVal (i := 0) (v := .agg (pcs a).toArray) rfl (by kernel_rfl) (gLoadAg (vs := pcs a) (k := 0) 0 hm71 rfl (by kernel_rfl) (by kernel_rfl) (.tmp 3) Ty.ag_voxel_api_Point rfl (by kernel_rfl)) ?_
      simp only [Act.put, List.setIfInBounds_toArray, List.set_cons_succ, List.set_cons_zero]
      refine plVal (i := 1) (v := .agg (pcs b).toArray) rfl (by kernel_rfl) (gLoadAg (vs := pcs b) (k := 0) 1 hm71 rfl (by kernel_rfl) (by kernel_rfl) (.tmp 4) Ty.ag_voxel_api_Point rfl (by kernel_rfl)) ?_
      simp only [Act.put, List.setIfInBounds_toArray, List.set_cons_succ, List.set_cons_zero]
      refine plCall (i := 2) 15 [.agg (pcs a).toArray, .agg (pcs b).toArray] [] [] rfl (by kernel_rfl) (by kernel_rfl) rfl (by kernel_rfl) (by kernel_rfl) (compare_any a b _) ?_
      rintro e w73 ⟨rfl, hbz⟩
      have hm74 := hm71.below hbz
      clear hbz hm71
      refine ⟨_, rfl, ?_⟩
      simp only [Act.put, List.setIfInBounds_toArray, List.set_cons_succ, List.set_cons_zero]
      refine plVal (i := 3) (v := .int .i64 (mCmp a b)) rfl (by kernel_rfl) (by kernel_rfl) ?_
      refine plDone (by decide) ?_
      simp only [Act.put, List.setIfInBounds_toArray, List.set_cons_succ, List.set_cons_zero]
      refine then_normal (hK72 _ _ ?_)
      refine wp_seq_k fun K75 hK75 => ?_
      refine plStart ?_
      refine plCall (i := 0) 21 [] [] [] rfl (by kernel_rfl) (by kernel_rfl) rfl (by kernel_rfl) (by kernel_rfl) (sanity_any _) ?_
      rintro e w76 ⟨rfl, hbz⟩
      have hm77 := hm74.below hbz
      clear hbz hm74
      refine ⟨_, rfl, ?_⟩
      simp only [Act.put, List.setIfInBounds_toArray, List.set_cons_succ, List.set_cons_zero]
      refine plVal (i := 1) (v := .bool true) rfl (by kernel_rfl) (by kernel_rfl) ?_
      simp only [Act.put, List.setIfInBounds_toArray, List.set_cons_succ, List.set_cons_zero]
      refine plVal (i := 2) (v := .int .i64 (mCmp a b)) rfl (by kernel_rfl) (by kernel_rfl) ?_
      simp only [Act.put, List.setIfInBounds_toArray, List.set_cons_succ, List.set_cons_zero]
      by_cases h78 : (mCmp a b) < 0
      · refine plVal (i := 3) (v := .bool true) rfl (by kernel_rfl) (boolTo (decide_eq_true h78) (lssRun (A := (mCmp a b)) (B := 0) (.tmp 54) (.const (.int .i64 0)) rfl (by kernel_rfl) (by kernel_rfl))) ?_
        simp only [Act.put, List.setIfInBounds_toArray, List.set_cons_succ, List.set_cons_zero]
        refine plVal (i := 4) (v := .int .i64 (mEnc a)) rfl (by kernel_rfl) (by kernel_rfl) ?_
        simp only [Act.put, List.setIfInBounds_toArray, List.set_cons_succ, List.set_cons_zero]
        refine plVal (i := 5) (v := .int .i64 (mEnc b)) rfl (by kernel_rfl) (by kernel_rfl) ?_
        simp only [Act.put, List.setIfInBounds_toArray, List.set_cons_succ, List.set_cons_zero]
        refine plVal (i := 6) (v := .bool true) rfl (by kernel_rfl) (boolTo (decide_eq_true ((mCmp_neg a b).1 h78)) (lssRun (A := (mEnc a)) (B := (mEnc b)) (.tmp 56) (.tmp 57) rfl (by kernel_rfl) (by kernel_rfl))) ?_
        simp only [Act.put, List.setIfInBounds_toArray, List.set_cons_succ, List.set_cons_zero]
        refine plVal (i := 7) (v := .bool true) rfl (by kernel_rfl) (by kernel_rfl) ?_
        simp only [Act.put, List.setIfInBounds_toArray, List.set_cons_succ, List.set_cons_zero]
        refine plVal (i := 8) (v := .bool true) rfl (by kernel_rfl) (by kernel_rfl) ?_
        simp only [Act.put, List.setIfInBounds_toArray, List.set_cons_succ, List.set_cons_zero]
        refine plVal (i := 9) (v := .bool true) rfl (by kernel_rfl) (by kernel_rfl) ?_
        simp only [Act.put, List.setIfInBounds_toArray, List.set_cons_succ, List.set_cons_zero]
        refine plVal (i := 10) (v := .int .i64 (mCmp a b)) rfl (by kernel_rfl) (by kernel_rfl) ?_
        simp only [Act.put, List.setIfInBounds_toArray, List.set_cons_succ, List.set_cons_zero]
        by_cases h79 : (mCmp a b) = 0
        · refine plVal (i := 11) (v := .bool true) rfl (by kernel_rfl) (boolTo (decide_eq_true h79) (eqlRun (A := (mCmp a b)) (B := 0) (.tmp 62) (.const (.int .i64 0)) rfl (by kernel_rfl) (by kernel_rfl))) ?_
          simp only [Act.put, List.setIfInBounds_toArray, List.set_cons_succ, List.set_cons_zero]
          refine plVal (i := 12) (v := .int .i64 (mEnc a)) rfl (by kernel_rfl) (by kernel_rfl) ?_
          simp only [Act.put, List.setIfInBounds_toArray, List.set_cons_succ, List.set_cons_zero]
          refine plVal (i := 13) (v := .int .i64 (mEnc b)) rfl (by kernel_rfl) (by kernel_rfl) ?_
          simp only [Act.put, List.setIfInBounds_toArray, List.set_cons_succ, List.set_cons_zero]
          refine plVal (i := 14) (v := .bool true) rfl (by kernel_rfl) (boolTo (decide_eq_true ((mCmp_zero a b).1 h79)) (eqlRun (A := (mEnc a)) (B := (mEnc b)) (.tmp 64) (.tmp 65) rfl (by kernel_rfl) (by kernel_rfl))) ?_
          simp only [Act.put, List.setIfInBounds_toArray, List.set_cons_succ, List.set_cons_zero]
          refine plVal (i := 15) (v := .bool true) rfl (by kernel_rfl) (by kernel_rfl) ?_
          simp only [Act.put, List.setIfInBounds_toArray, List.set_cons_succ, List.set_cons_zero]
          refine plVal (i := 16) (v := .bool true) rfl (by kernel_rfl) (by kernel_rfl) ?_
          simp only [Act.put, List.setIfInBounds_toArray, List.set_cons_succ, List.set_cons_zero]
          refine plVal (i := 17) (v := .bool true) rfl (by kernel_rfl) (by kernel_rfl) ?_
          simp only [Act.put, List.setIfInBounds_toArray, List.set_cons_succ, List.set_cons_zero]
          refine plVal (i := 18) (v := .agg (pcs b).toArray) rfl (by kernel_rfl) (gLoadAg (vs := pcs b) (k := 0) 1 hm77 rfl (by kernel_rfl) (by kernel_rfl) (.tmp 4) Ty.ag_voxel_api_Point rfl (by kernel_rfl)) ?_
          simp only [Act.put, List.setIfInBounds_toArray, List.set_cons_succ, List.set_cons_zero]
          refine plVal (i := 19) (v := .agg (pcs a).toArray) rfl (by kernel_rfl) (gLoadAg (vs := pcs a) (k := 0) 0 hm77 rfl (by kernel_rfl) (by kernel_rfl) (.tmp 3) Ty.ag_voxel_api_Point rfl (by kernel_rfl)) ?_
          simp only [Act.put, List.setIfInBounds_toArray, List.set_cons_succ, List.set_cons_zero]
          refine plCall (i := 20) 15 [.agg (pcs b).toArray, .agg (pcs a).toArray] [] [] rfl (by kernel_rfl) (by kernel_rfl) rfl (by kernel_rfl) (by kernel_rfl) (compare_any b a _) ?_
          rintro e w80 ⟨rfl, hbz⟩
          have hm81 := hm77.below hbz
          clear hbz hm77
          refine ⟨_, rfl, ?_⟩
          simp only [Act.put, List.setIfInBounds_toArray, List.set_cons_succ, List.set_cons_zero]
          refine plVal (i := 21) (v := .int .i64 (mCmp a b)) rfl (by kernel_rfl) (by kernel_rfl) ?_
          simp only [Act.put, List.setIfInBounds_toArray, List.set_cons_succ, List.set_cons_zero]
          refine plVal (i := 22) (v := .int .i64 (-(mCmp a b))) rfl (by kernel_rfl) (gNeg (.tmp 73) rfl (by kernel_rfl) (by omega)) ?_
          simp only [Act.put, List.setIfInBounds_toArray, List.set_cons_succ, List.set_cons_zero]
          refine plVal (i := 23) (v := .bool true) rfl (by kernel_rfl) (boolTo (decide_eq_true (mCmp_swap a b)) (eqlRun (A := (mCmp b a)) (B := (-(mCmp a b))) (.tmp 72) (.tmp 74) rfl (by kernel_rfl) (by kernel_rfl))) ?_
          simp only [Act.put, List.setIfInBounds_toArray, List.set_cons_succ, List.set_cons_zero]
          refine plVal (i := 24) (v := .bool true) rfl (by kernel_rfl) (by kernel_rfl) ?_
          simp only [Act.put, List.setIfInBounds_toArray, List.set_cons_succ, List.set_cons_zero]
          refine plVal (i := 25) (v := .bool true) rfl (by kernel_rfl) (by kernel_rfl) ?_
          refine plDone (by decide) ?_
          simp only [Act.put, List.setIfInBounds_toArray, List.set_cons_succ, List.set_cons_zero]
          refine then_normal (hK75 _ _ ?_)
          refine wp_ret ?_
          refine bodyPost_ret (v := .bool true) (gRes1 rfl (gResTmp (t := 6) (v := .bool true) (by kernel_rfl))) rfl ?_
          exact ⟨by first | rfl | simp_all, hm81.bel⟩
        · refine plVal (i := 11) (v := .bool false) rfl (by kernel_rfl) (boolTo (decide_eq_false h79) (eqlRun (A := (mCmp a b)) (B := 0) (.tmp 62) (.const (.int .i64 0)) rfl (by kernel_rfl) (by kernel_rfl))) ?_
          simp only [Act.put, List.setIfInBounds_toArray, List.set_cons_succ, List.set_cons_zero]
          refine plVal (i := 12) (v := .int .i64 (mEnc a)) rfl (by kernel_rfl) (by kernel_rfl) ?_
          simp only [Act.put, List.setIfInBounds_toArray, List.set_cons_succ, List.set_cons_zero]
          refine plVal (i := 13) (v := .int .i64 (mEnc b)) rfl (by kernel_rfl) (by kernel_rfl) ?_
          simp only [Act.put, List.setIfInBounds_toArray, List.set_cons_succ, List.set_cons_zero]
          refine plVal (i := 14) (v := .bool false) rfl (by kernel_rfl) (boolTo (decide_eq_false (fun h => h79 ((mCmp_zero a b).2 h))) (eqlRun (A := (mEnc a)) (B := (mEnc b)) (.tmp 64) (.tmp 65) rfl (by kernel_rfl) (by kernel_rfl))) ?_
          simp only [Act.put, List.setIfInBounds_toArray, List.set_cons_succ, List.set_cons_zero]
          refine plVal (i := 15) (v := .bool true) rfl (by kernel_rfl) (by kernel_rfl) ?_
          simp only [Act.put, List.setIfInBounds_toArray, List.set_cons_succ, List.set_cons_zero]
          refine plVal (i := 16) (v := .bool true) rfl (by kernel_rfl) (by kernel_rfl) ?_
          simp only [Act.put, List.setIfInBounds_toArray, List.set_cons_succ, List.set_cons_zero]
          refine plVal (i := 17) (v := .bool true) rfl (by kernel_rfl) (by kernel_rfl) ?_
          simp only [Act.put, List.setIfInBounds_toArray, List.set_cons_succ, List.set_cons_zero]
          refine plVal (i := 18) (v := .agg (pcs b).toArray) rfl (by kernel_rfl) (gLoadAg (vs := pcs b) (k := 0) 1 hm77 rfl (by kernel_rfl) (by kernel_rfl) (.tmp 4) Ty.ag_voxel_api_Point rfl (by kernel_rfl)) ?_
          simp only [Act.put, List.setIfInBounds_toArray, List.set_cons_succ, List.set_cons_zero]
          refine plVal (i := 19) (v := .agg (pcs a).toArray) rfl (by kernel_rfl) (gLoadAg (vs := pcs a) (k := 0) 0 hm77 rfl (by kernel_rfl) (by kernel_rfl) (.tmp 3) Ty.ag_voxel_api_Point rfl (by kernel_rfl)) ?_
          simp only [Act.put, List.setIfInBounds_toArray, List.set_cons_succ, List.set_cons_zero]
          refine plCall (i := 20) 15 [.agg (pcs b).toArray, .agg (pcs a).toArray] [] [] rfl (by kernel_rfl) (by kernel_rfl) rfl (by kernel_rfl) (by kernel_rfl) (compare_any b a _) ?_
          rintro e w82 ⟨rfl, hbz⟩
          have hm83 := hm77.below hbz
          clear hbz hm77
          refine ⟨_, rfl, ?_⟩
          simp only [Act.put, List.setIfInBounds_toArray, List.set_cons_succ, List.set_cons_zero]
          refine plVal (i := 21) (v := .int .i64 (mCmp a b)) rfl (by kernel_rfl) (by kernel_rfl) ?_
          simp only [Act.put, List.setIfInBounds_toArray, List.set_cons_succ, List.set_cons_zero]
          refine plVal (i := 22) (v := .int .i64 (-(mCmp a b))) rfl (by kernel_rfl) (gNeg (.tmp 73) rfl (by kernel_rfl) (by omega)) ?_
          simp only [Act.put, List.setIfInBounds_toArray, List.set_cons_succ, List.set_cons_zero]
          refine plVal (i := 23) (v := .bool true) rfl (by kernel_rfl) (boolTo (decide_eq_true (mCmp_swap a b)) (eqlRun (A := (mCmp b a)) (B := (-(mCmp a b))) (.tmp 72) (.tmp 74) rfl (by kernel_rfl) (by kernel_rfl))) ?_
          simp only [Act.put, List.setIfInBounds_toArray, List.set_cons_succ, List.set_cons_zero]
          refine plVal (i := 24) (v := .bool true) rfl (by kernel_rfl) (by kernel_rfl) ?_
          simp only [Act.put, List.setIfInBounds_toArray, List.set_cons_succ, List.set_cons_zero]
          refine plVal (i := 25) (v := .bool true) rfl (by kernel_rfl) (by kernel_rfl) ?_
          refine plDone (by decide) ?_
          simp only [Act.put, List.setIfInBounds_toArray, List.set_cons_succ, List.set_cons_zero]
          refine then_normal (hK75 _ _ ?_)
          refine wp_ret ?_
          refine bodyPost_ret (v := .bool true) (gRes1 rfl (gResTmp (t := 6) (v := .bool true) (by kernel_rfl))) rfl ?_
          exact ⟨by first | rfl | simp_all, hm83.bel⟩
      · refine plVal (i := 3) (v := .bool false) rfl (by kernel_rfl) (boolTo (decide_eq_false h78) (lssRun (A := (mCmp a b)) (B := 0) (.tmp 54) (.const (.int .i64 0)) rfl (by kernel_rfl) (by kernel_rfl))) ?_
        simp only [Act.put, List.setIfInBounds_toArray, List.set_cons_succ, List.set_cons_zero]
        refine plVal (i := 4) (v := .int .i64 (mEnc a)) rfl (by kernel_rfl) (by kernel_rfl) ?_
        simp only [Act.put, List.setIfInBounds_toArray, List.set_cons_succ, List.set_cons_zero]
        refine plVal (i := 5) (v := .int .i64 (mEnc b)) rfl (by kernel_rfl) (by kernel_rfl) ?_
        simp only [Act.put, List.setIfInBounds_toArray, List.set_cons_succ, List.set_cons_zero]
        refine plVal (i := 6) (v := .bool false) rfl (by kernel_rfl) (boolTo (decide_eq_false (fun h => h78 ((mCmp_neg a b).2 h))) (lssRun (A := (mEnc a)) (B := (mEnc b)) (.tmp 56) (.tmp 57) rfl (by kernel_rfl) (by kernel_rfl))) ?_
        simp only [Act.put, List.setIfInBounds_toArray, List.set_cons_succ, List.set_cons_zero]
        refine plVal (i := 7) (v := .bool true) rfl (by kernel_rfl) (by kernel_rfl) ?_
        simp only [Act.put, List.setIfInBounds_toArray, List.set_cons_succ, List.set_cons_zero]
        refine plVal (i := 8) (v := .bool true) rfl (by kernel_rfl) (by kernel_rfl) ?_
        simp only [Act.put, List.setIfInBounds_toArray, List.set_cons_succ, List.set_cons_zero]
        refine plVal (i := 9) (v := .bool true) rfl (by kernel_rfl) (by kernel_rfl) ?_
        simp only [Act.put, List.setIfInBounds_toArray, List.set_cons_succ, List.set_cons_zero]
        refine plVal (i := 10) (v := .int .i64 (mCmp a b)) rfl (by kernel_rfl) (by kernel_rfl) ?_
        simp only [Act.put, List.setIfInBounds_toArray, List.set_cons_succ, List.set_cons_zero]
        by_cases h84 : (mCmp a b) = 0
        · refine plVal (i := 11) (v := .bool true) rfl (by kernel_rfl) (boolTo (decide_eq_true h84) (eqlRun (A := (mCmp a b)) (B := 0) (.tmp 62) (.const (.int .i64 0)) rfl (by kernel_rfl) (by kernel_rfl))) ?_
          simp only [Act.put, List.setIfInBounds_toArray, List.set_cons_succ, List.set_cons_zero]
          refine plVal (i := 12) (v := .int .i64 (mEnc a)) rfl (by kernel_rfl) (by kernel_rfl) ?_
          simp only [Act.put, List.setIfInBounds_toArray, List.set_cons_succ, List.set_cons_zero]
          refine plVal (i := 13) (v := .int .i64 (mEnc b)) rfl (by kernel_rfl) (by kernel_rfl) ?_
          simp only [Act.put, List.setIfInBounds_toArray, List.set_cons_succ, List.set_cons_zero]
          refine plVal (i := 14) (v := .bool true) rfl (by kernel_rfl) (boolTo (decide_eq_true ((mCmp_zero a b).1 h84)) (eqlRun (A := (mEnc a)) (B := (mEnc b)) (.tmp 64) (.tmp 65) rfl (by kernel_rfl) (by kernel_rfl))) ?_
          simp only [Act.put, List.setIfInBounds_toArray, List.set_cons_succ, List.set_cons_zero]
          refine plVal (i := 15) (v := .bool true) rfl (by kernel_rfl) (by kernel_rfl) ?_
          simp only [Act.put, List.setIfInBounds_toArray, List.set_cons_succ, List.set_cons_zero]
          refine plVal (i := 16) (v := .bool true) rfl (by kernel_rfl) (by kernel_rfl) ?_
          simp only [Act.put, List.setIfInBounds_toArray, List.set_cons_succ, List.set_cons_zero]
          refine plVal (i := 17) (v := .bool true) rfl (by kernel_rfl) (by kernel_rfl) ?_
          simp only [Act.put, List.setIfInBounds_toArray, List.set_cons_succ, List.set_cons_zero]
          refine plVal (i := 18) (v := .agg (pcs b).toArray) rfl (by kernel_rfl) (gLoadAg (vs := pcs b) (k := 0) 1 hm77 rfl (by kernel_rfl) (by kernel_rfl) (.tmp 4) Ty.ag_voxel_api_Point rfl (by kernel_rfl)) ?_
          simp only [Act.put, List.setIfInBounds_toArray, List.set_cons_succ, List.set_cons_zero]
          refine plVal (i := 19) (v := .agg (pcs a).toArray) rfl (by kernel_rfl) (gLoadAg (vs := pcs a) (k := 0) 0 hm77 rfl (by kernel_rfl) (by kernel_rfl) (.tmp 3) Ty.ag_voxel_api_Point rfl (by kernel_rfl)) ?_
          simp only [Act.put, List.setIfInBounds_toArray, List.set_cons_succ, List.set_cons_zero]
          refine plCall (i := 20) 15 [.agg (pcs b).toArray, .agg (pcs a).toArray] [] [] rfl (by kernel_rfl) (by kernel_rfl) rfl (by kernel_rfl) (by kernel_rfl) (compare_any b a _) ?_
          rintro e w85 ⟨rfl, hbz⟩
          have hm86 := hm77.below hbz
          clear hbz hm77
          refine ⟨_, rfl, ?_⟩
          simp only [Act.put, List.setIfInBounds_toArray, List.set_cons_succ, List.set_cons_zero]
          refine plVal (i := 21) (v := .int .i64 (mCmp a b)) rfl (by kernel_rfl) (by kernel_rfl) ?_
          simp only [Act.put, List.setIfInBounds_toArray, List.set_cons_succ, List.set_cons_zero]
          refine plVal (i := 22) (v := .int .i64 (-(mCmp a b))) rfl (by kernel_rfl) (gNeg (.tmp 73) rfl (by kernel_rfl) (by omega)) ?_
          simp only [Act.put, List.setIfInBounds_toArray, List.set_cons_succ, List.set_cons_zero]
          refine plVal (i := 23) (v := .bool true) rfl (by kernel_rfl) (boolTo (decide_eq_true (mCmp_swap a b)) (eqlRun (A := (mCmp b a)) (B := (-(mCmp a b))) (.tmp 72) (.tmp 74) rfl (by kernel_rfl) (by kernel_rfl))) ?_
          simp only [Act.put, List.setIfInBounds_toArray, List.set_cons_succ, List.set_cons_zero]
          refine plVal (i := 24) (v := .bool true) rfl (by kernel_rfl) (by kernel_rfl) ?_
          simp only [Act.put, List.setIfInBounds_toArray, List.set_cons_succ, List.set_cons_zero]
          refine plVal (i := 25) (v := .bool true) rfl (by kernel_rfl) (by kernel_rfl) ?_
          refine plDone (by decide) ?_
          simp only [Act.put, List.setIfInBounds_toArray, List.set_cons_succ, List.set_cons_zero]
          refine then_normal (hK75 _ _ ?_)
          refine wp_ret ?_
          refine bodyPost_ret (v := .bool true) (gRes1 rfl (gResTmp (t := 6) (v := .bool true) (by kernel_rfl))) rfl ?_
          exact ⟨by first | rfl | simp_all, hm86.bel⟩
        · refine plVal (i := 11) (v := .bool false) rfl (by kernel_rfl) (boolTo (decide_eq_false h84) (eqlRun (A := (mCmp a b)) (B := 0) (.tmp 62) (.const (.int .i64 0)) rfl (by kernel_rfl) (by kernel_rfl))) ?_
          simp only [Act.put, List.setIfInBounds_toArray, List.set_cons_succ, List.set_cons_zero]
          refine plVal (i := 12) (v := .int .i64 (mEnc a)) rfl (by kernel_rfl) (by kernel_rfl) ?_
          simp only [Act.put, List.setIfInBounds_toArray, List.set_cons_succ, List.set_cons_zero]
          refine plVal (i := 13) (v := .int .i64 (mEnc b)) rfl (by kernel_rfl) (by kernel_rfl) ?_
          simp only [Act.put, List.setIfInBounds_toArray, List.set_cons_succ, List.set_cons_zero]
          refine plVal (i := 14) (v := .bool false) rfl (by kernel_rfl) (boolTo (decide_eq_false (fun h => h84 ((mCmp_zero a b).2 h))) (eqlRun (A := (mEnc a)) (B := (mEnc b)) (.tmp 64) (.tmp 65) rfl (by kernel_rfl) (by kernel_rfl))) ?_
          simp only [Act.put, List.setIfInBounds_toArray, List.set_cons_succ, List.set_cons_zero]
          refine plVal (i := 15) (v := .bool true) rfl (by kernel_rfl) (by kernel_rfl) ?_
          simp only [Act.put, List.setIfInBounds_toArray, List.set_cons_succ, List.set_cons_zero]
          refine plVal (i := 16) (v := .bool true) rfl (by kernel_rfl) (by kernel_rfl) ?_
          simp only [Act.put, List.setIfInBounds_toArray, List.set_cons_succ, List.set_cons_zero]
          refine plVal (i := 17) (v := .bool true) rfl (by kernel_rfl) (by kernel_rfl) ?_
          simp only [Act.put, List.setIfInBounds_toArray, List.set_cons_succ, List.set_cons_zero]
          refine plVal (i := 18) (v := .agg (pcs b).toArray) rfl (by kernel_rfl) (gLoadAg (vs := pcs b) (k := 0) 1 hm77 rfl (by kernel_rfl) (by kernel_rfl) (.tmp 4) Ty.ag_voxel_api_Point rfl (by kernel_rfl)) ?_
          simp only [Act.put, List.setIfInBounds_toArray, List.set_cons_succ, List.set_cons_zero]
          refine plVal (i := 19) (v := .agg (pcs a).toArray) rfl (by kernel_rfl) (gLoadAg (vs := pcs a) (k := 0) 0 hm77 rfl (by kernel_rfl) (by kernel_rfl) (.tmp 3) Ty.ag_voxel_api_Point rfl (by kernel_rfl)) ?_
          simp only [Act.put, List.setIfInBounds_toArray, List.set_cons_succ, List.set_cons_zero]
          refine plCall (i := 20) 15 [.agg (pcs b).toArray, .agg (pcs a).toArray] [] [] rfl (by kernel_rfl) (by kernel_rfl) rfl (by kernel_rfl) (by kernel_rfl) (compare_any b a _) ?_
          rintro e w87 ⟨rfl, hbz⟩
          have hm88 := hm77.below hbz
          clear hbz hm77
          refine ⟨_, rfl, ?_⟩
          simp only [Act.put, List.setIfInBounds_toArray, List.set_cons_succ, List.set_cons_zero]
          refine plVal (i := 21) (v := .int .i64 (mCmp a b)) rfl (by kernel_rfl) (by kernel_rfl) ?_
          simp only [Act.put, List.setIfInBounds_toArray, List.set_cons_succ, List.set_cons_zero]
          refine plVal (i := 22) (v := .int .i64 (-(mCmp a b))) rfl (by kernel_rfl) (gNeg (.tmp 73) rfl (by kernel_rfl) (by omega)) ?_
          simp only [Act.put, List.setIfInBounds_toArray, List.set_cons_succ, List.set_cons_zero]
          refine plVal (i := 23) (v := .bool true) rfl (by kernel_rfl) (boolTo (decide_eq_true (mCmp_swap a b)) (eqlRun (A := (mCmp b a)) (B := (-(mCmp a b))) (.tmp 72) (.tmp 74) rfl (by kernel_rfl) (by kernel_rfl))) ?_
          simp only [Act.put, List.setIfInBounds_toArray, List.set_cons_succ, List.set_cons_zero]
          refine plVal (i := 24) (v := .bool true) rfl (by kernel_rfl) (by kernel_rfl) ?_
          simp only [Act.put, List.setIfInBounds_toArray, List.set_cons_succ, List.set_cons_zero]
          refine plVal (i := 25) (v := .bool true) rfl (by kernel_rfl) (by kernel_rfl) ?_
          refine plDone (by decide) ?_
          simp only [Act.put, List.setIfInBounds_toArray, List.set_cons_succ, List.set_cons_zero]
          refine then_normal (hK75 _ _ ?_)
          refine wp_ret ?_
          refine bodyPost_ret (v := .bool true) (gRes1 rfl (gResTmp (t := 6) (v := .bool true) (by kernel_rfl))) rfl ?_
          exact ⟨by first | rfl | simp_all, hm88.bel⟩
  · rw [h11]
    refine plVal (i := 2) (v := .tuple #[.agg (pcs ((mDec n).1)).toArray, .bool true]) rfl (by kernel_rfl) (by kernel_rfl) ?_
    simp only [Act.put, List.setIfInBounds_toArray, List.set_cons_succ, List.set_cons_zero]
    refine plVal (i := 3) (v := .agg (pcs ((mDec n).1)).toArray) rfl (by kernel_rfl) (by kernel_rfl) ?_
    simp only [Act.put, List.setIfInBounds_toArray, List.set_cons_succ, List.set_cons_zero]
    refine plVal (i := 4) (v := .bool true) rfl (by kernel_rfl) (by kernel_rfl) ?_
    simp only [Act.put, List.setIfInBounds_toArray, List.set_cons_succ, List.set_cons_zero]
    refine plAlloc (z := [.int .i64 0, .int .i64 0, .int .i64 0]) Ty.ag_voxel_api_Point hm10 (i := 5) rfl (by kernel_rfl) rfl ?_
    intro g89 w91 hm90
    clear hm10
    simp only [List.cons_append, List.nil_append, List.set_cons_succ, List.set_cons_zero] at hm90
    simp only [Act.put, List.setIfInBounds_toArray, List.set_cons_succ, List.set_cons_zero]
    refine plStore 2 Ty.ag_voxel_api_Point hm90 rfl (i := 6) (cs := pcs ((mDec n).1)) rfl (by kernel_rfl) rfl (by kernel_rfl) (by kernel_rfl) rfl rfl (by kernel_rfl) ?_
    intro w93 hm92
    clear hm90
    simp only [List.cons_append, List.nil_append, List.set_cons_succ, List.set_cons_zero] at hm92
    simp only [Act.put, List.setIfInBounds_toArray, List.set_cons_succ, List.set_cons_zero]
    refine plVal (i := 7) (v := .bool true) rfl (by kernel_rfl) (by kernel_rfl) ?_
    refine plDone (by decide) ?_
    simp only [Act.put, List.setIfInBounds_toArray, List.set_cons_succ, List.set_cons_zero]
    refine then_normal (hK8 _ _ ?_)
    refine wp_seq_k fun K94 hK94 => ?_
    refine wp_seq_k fun K95 hK95 => ?_
    refine plStart ?_
    refine plVal (i := 0) (v := .bool true) rfl (by kernel_rfl) (by kernel_rfl) ?_
    simp only [Act.put, List.setIfInBounds_toArray, List.set_cons_succ, List.set_cons_zero]
    refine plVal (i := 1) (v := .bool true) rfl (by kernel_rfl) (by kernel_rfl) ?_
    simp only [Act.put, List.setIfInBounds_toArray, List.set_cons_succ, List.set_cons_zero]
    refine plVal (i := 2) (v := .agg (pcs ((mDec n).1)).toArray) rfl (by kernel_rfl) (gLoadAg (vs := pcs ((mDec n).1)) (k := 0) 2 hm92 rfl (by kernel_rfl) (by kernel_rfl) (.tmp 7) Ty.ag_voxel_api_Point rfl (by kernel_rfl)) ?_
    simp only [Act.put, List.setIfInBounds_toArray, List.set_cons_succ, List.set_cons_zero]
    refine plCall (i := 3) 13 [.agg (pcs ((mDec n).1)).toArray] [] [] rfl (by kernel_rfl) (by kernel_rfl) rfl (by kernel_rfl) (by kernel_rfl) (encode_any ((mDec n).1) _) ?_
    rintro e w96 ⟨rfl, hbz⟩
    have hm97 := hm92.below hbz
    clear hbz hm92
    refine ⟨_, rfl, ?_⟩
    simp only [Act.put, List.setIfInBounds_toArray, List.set_cons_succ, List.set_cons_zero]
    refine plVal (i := 4) (v := .int .i64 n) rfl (by kernel_rfl) (by kernel_rfl) ?_
    simp only [Act.put, List.setIfInBounds_toArray, List.set_cons_succ, List.set_cons_zero]
    refine plVal (i := 5) (v := .bool false) rfl (by kernel_rfl) (boolTo (by rw [decide_eq_true (enc_of_dec h11)]; rfl) (neqRun (A := (mEnc ((mDec n).1))) (B := n) (.tmp 23) (.tmp 24) rfl (by kernel_rfl) (by kernel_rfl))) ?_
    simp only [Act.put, List.setIfInBounds_toArray, List.set_cons_succ, List.set_cons_zero]
    refine plVal (i := 6) (v := .bool false) rfl (by kernel_rfl) (by kernel_rfl) ?_
    refine plDone (by decide) ?_
    simp only [Act.put, List.setIfInBounds_toArray, List.set_cons_succ, List.set_cons_zero]
    refine then_normal (hK95 _ _ ?_)
    refine wp_cond_false (by kernel_rfl) ?_
    refine wp_skip ?_
    refine then_normal (hK94 _ _ ?_)
    refine wp_seq_k fun K98 hK98 => ?_
    refine plStart ?_
    refine plVal (i := 0) (v := .agg (pcs a).toArray) rfl (by kernel_rfl) (gLoadAg (vs := pcs a) (k := 0) 0 hm97 rfl (by kernel_rfl) (by kernel_rfl) (.tmp 3) Ty.ag_voxel_api_Point rfl (by kernel_rfl)) ?_
    simp only [Act.put, List.setIfInBounds_toArray, List.set_cons_succ, List.set_cons_zero]
    refine plCall (i := 1) 30 [.agg (pcs a).toArray] [] [] rfl (by kernel_rfl) (by kernel_rfl) rfl (by kernel_rfl) (by kernel_rfl) (refInside_any a _) ?_
    rintro e w99 ⟨rfl, hbz⟩
    have hm100 := hm97.below hbz
    clear hbz hm97
    refine ⟨_, rfl, ?_⟩
    simp only [Act.put, List.setIfInBounds_toArray, List.set_cons_succ, List.set_cons_zero]
    rcases bool_or (decide a.In) with h101 | h101
    · rw [h101]
      refine plVal (i := 2) (v := .bool false) rfl (by kernel_rfl) (by kernel_rfl) ?_
      refine plDone (by decide) ?_
      simp only [Act.put, List.setIfInBounds_toArray, List.set_cons_succ, List.set_cons_zero]
      refine then_normal (hK98 _ _ ?_)
      refine wp_seq_k fun K102 hK102 => ?_
      refine plStart ?_
      refine plVal (i := 0) (v := .agg (pcs a).toArray) rfl (by kernel_rfl) (gLoadAg (vs := pcs a) (k := 0) 0 hm100 rfl (by kernel_rfl) (by kernel_rfl) (.tmp 3) Ty.ag_voxel_api_Point rfl (by kernel_rfl)) ?_
      simp only [Act.put, List.setIfInBounds_toArray, List.set_cons_succ, List.set_cons_zero]
      refine plCall (i := 1) 13 [.agg (pcs a).toArray] [] [] rfl (by kernel_rfl) (by kernel_rfl) rfl (by kernel_rfl) (by kernel_rfl) (encode_any a _) ?_
      rintro e w103 ⟨rfl, hbz⟩
      have hm104 := hm100.below hbz
      clear hbz hm100
      refine ⟨_, rfl, ?_⟩
      simp only [Act.put, List.setIfInBounds_toArray, List.set_cons_succ, List.set_cons_zero]
      refine plVal (i := 2) (v := .int .i64 (mEnc a)) rfl (by kernel_rfl) (by kernel_rfl) ?_
      refine plDone (by decide) ?_
      simp only [Act.put, List.setIfInBounds_toArray, List.set_cons_succ, List.set_cons_zero]
      refine then_normal (hK102 _ _ ?_)
      refine wp_seq_k fun K105 hK105 => ?_
      refine plStart ?_
      refine plVal (i := 0) (v := .int .i64 (mEnc a)) rfl (by kernel_rfl) (by kernel_rfl) ?_
      simp only [Act.put, List.setIfInBounds_toArray, List.set_cons_succ, List.set_cons_zero]
      refine plCall (i := 1) 9 [.int .i64 (mEnc a)] [] [] rfl (by kernel_rfl) (by kernel_rfl) rfl (by kernel_rfl) (by kernel_rfl) (decode_any (mEnc a) _) ?_
      rintro e w106 ⟨rfl, hbz⟩
      have hm107 := hm104.below hbz
      clear hbz hm104
      rw [(dec_enc_out (of_decide_eq_false h101))]
      refine ⟨_, rfl, ?_⟩
      simp only [Act.put, List.setIfInBounds_toArray, List.set_cons_succ, List.set_cons_zero]
      refine plVal (i := 2) (v := .tuple #[.agg (pcs ((mDec (mEnc a)).1)).toArray, .bool false]) rfl (by kernel_rfl) (by kernel_rfl) ?_
      simp only [Act.put, List.setIfInBounds_toArray, List.set_cons_succ, List.set_cons_zero]
      refine plVal (i := 3) (v := .agg (pcs ((mDec (mEnc a)).1)).toArray) rfl (by kernel_rfl) (by kernel_rfl) ?_
      simp only [Act.put, List.setIfInBounds_toArray, List.set_cons_succ, List.set_cons_zero]
      refine plVal (i := 4) (v := .bool false) rfl (by kernel_rfl) (by kernel_rfl) ?_
      simp only [Act.put, List.setIfInBounds_toArray, List.set_cons_succ, List.set_cons_zero]
      refine plAlloc (z := [.int .i64 0, .int .i64 0, .int .i64 0]) Ty.ag_voxel_api_Point hm107 (i := 5) rfl (by kernel_rfl) rfl ?_
      intro g108 w110 hm109
      clear hm107
      simp only [List.cons_append, List.nil_append, List.set_cons_succ, List.set_cons_zero] at hm109
      simp only [Act.put, List.setIfInBounds_toArray, List.set_cons_succ, List.set_cons_zero]
      refine plStore 3 Ty.ag_voxel_api_Point hm109 rfl (i := 6) (cs := pcs ((mDec (mEnc a)).1)) rfl (by kernel_rfl) rfl (by kernel_rfl) (by kernel_rfl) rfl rfl (by kernel_rfl) ?_
      intro w112 hm111
      clear hm109
      simp only [List.cons_append, List.nil_append, List.set_cons_succ, List.set_cons_zero] at hm111
      simp only [Act.put, List.setIfInBounds_toArray, List.set_cons_succ, List.set_cons_zero]
      refine plVal (i := 7) (v := .bool false) rfl (by kernel_rfl) (by kernel_rfl) ?_
      refine plDone (by decide) ?_
      simp only [Act.put, List.setIfInBounds_toArray, List.set_cons_succ, List.set_cons_zero]
      refine then_normal (hK105 _ _ ?_)
      refine wp_seq_k fun K113 hK113 => ?_
      refine wp_seq_k fun K114 hK114 => ?_
      refine plStart ?_
      refine plVal (i := 0) (v := .bool false) rfl (by kernel_rfl) (by kernel_rfl) ?_
      simp only [Act.put, List.setIfInBounds_toArray, List.set_cons_succ, List.set_cons_zero]
      refine plVal (i := 1) (v := .bool false) rfl (by kernel_rfl) (by kernel_rfl) ?_
      simp only [Act.put, List.setIfInBounds_toArray, List.set_cons_succ, List.set_cons_zero]
      refine plVal (i := 2) (v := .bool false) rfl (by kernel_rfl) (by kernel_rfl) ?_
      simp only [Act.put, List.setIfInBounds_toArray, List.set_cons_succ, List.set_cons_zero]
      refine plVal (i := 3) (v := .bool false) rfl (by kernel_rfl) (by kernel_rfl) ?_
      simp only [Act.put, List.setIfInBounds_toArray, List.set_cons_succ, List.set_cons_zero]
      refine plVal (i := 4) (v := .bool false) rfl (by kernel_rfl) (by kernel_rfl) ?_
      simp only [Act.put, List.setIfInBounds_toArray, List.set_cons_succ, List.set_cons_zero]
      refine plVal (i := 5) (v := .bool false) rfl (by kernel_rfl) (by kernel_rfl) ?_
      simp only [Act.put, List.setIfInBounds_toArray, List.set_cons_succ, List.set_cons_zero]
      refine plSkip (i := 6) rfl (by kernel_rfl) ?_
      simp only [Act.put, List.setIfInBounds_toArray, List.set_cons_succ, List.set_cons_zero]
      refine plSkip (i := 7) rfl (by kernel_rfl) ?_
      simp only [Act.put, List.setIfInBounds_toArray, List.set_cons_succ, List.set_cons_zero]
      refine plSkip (i := 8) rfl (by kernel_rfl) ?_
      simp only [Act.put, List.setIfInBounds_toArray, List.set_cons_succ, List.set_cons_zero]
      refine plVal (i := 9) (v := .bool false) rfl (by kernel_rfl) (by kernel_rfl) ?_
      simp only [Act.put, List.setIfInBounds_toArray, List.set_cons_succ, List.set_cons_zero]
      refine plVal (i := 10) (v := .bool false) rfl (by kernel_rfl) (by kernel_rfl) ?_
      refine plDone (by decide) ?_
      simp only [Act.put, List.setIfInBounds_toArray, List.set_cons_succ, List.set_cons_zero]
      refine then_normal (hK114 _ _ ?_)
      refine wp_cond_false (by kernel_rfl) ?_
      refine wp_skip ?_
      refine then_normal (hK113 _ _ ?_)
      refine wp_seq_k fun K115 hK115 => ?_
      refine plStart ?_
      refine plVal (i := 0) (v := .agg (pcs b).toArray) rfl (by kernel_rfl) (gLoadAg (vs := pcs b) (k := 0) 1 hm111 rfl (by kernel_rfl) (by kernel_rfl) (.tmp 4) Ty.ag_voxel_api_Point rfl (by kernel_rfl)) ?_
      simp only [Act.put, List.setIfInBounds_toArray, List.set_cons_succ, List.set_cons_zero]
      refine plCall (i := 1) 13 [.agg (pcs b).toArray] [] [] rfl (by kernel_rfl) (by kernel_rfl) rfl (by kernel_rfl) (by kernel_rfl) (encode_any b _) ?_
      rintro e w116 ⟨rfl, hbz⟩
      have hm117 := hm111.below hbz
      clear hbz hm111
      refine ⟨_, rfl, ?_⟩
      simp only [Act.put, List.setIfInBounds_toArray, List.set_cons_succ, List.set_cons_zero]
      refine plVal (i := 2) (v := .int .i64 (mEnc b)) rfl (by kernel_rfl) (by kernel_rfl) ?_
      refine plDone (by decide) ?_
      simp only [Act.put, List.setIfInBounds_toArray, List.set_cons_succ, List.set_cons_zero]
      refine then_normal (hK115 _ _ ?_)
      refine wp_seq_k fun K118 hK118 => ?_
      refine plStart ?_
      refine plVal (i := 0) (v := .agg (pcs a).toArray) rfl (by kernel_rfl) (gLoadAg (vs := pcs a) (k := 0) 0 hm117 rfl (by kernel_rfl) (by kernel_rfl) (.tmp 3) Ty.ag_voxel_api_Point rfl (by kernel_rfl)) ?_
      simp only [Act.put, List.setIfInBounds_toArray, List.set_cons_succ, List.set_cons_zero]
      refine plVal (i := 1) (v := .agg (pcs b).toArray) rfl (by kernel_rfl) (gLoadAg (vs := pcs b) (k := 0) 1 hm117 rfl (by kernel_rfl) (by kernel_rfl) (.tmp 4) Ty.ag_voxel_api_Point rfl (by kernel_rfl)) ?_
      simp only [Act.put, List.setIfInBounds_toArray, List.set_cons_succ, List.set_cons_zero]
      refine plCall (i := 2) 15 [.agg (pcs a).toArray, .agg (pcs b).toArray] [] [] rfl (by kernel_rfl) (by kernel_rfl) rfl (by kernel_rfl) (by kernel_rfl) (compare_any a b _) ?_
      rintro e w119 ⟨rfl, hbz⟩
      have hm120 := hm117.below hbz
      clear hbz hm117
      refine ⟨_, rfl, ?_⟩
      simp only [Act.put, List.setIfInBounds_toArray, List.set_cons_succ, List.set_cons_zero]
      refine plVal (i := 3) (v := .int .i64 (mCmp a b)) rfl (by kernel_rfl) (by kernel_rfl) ?_
      refine plDone (by decide) ?_
      simp only [Act.put, List.setIfInBounds_toArray, List.set_cons_succ, List.set_cons_zero]
      refine then_normal (hK118 _ _ ?_)
      refine wp_seq_k fun K121 hK121 => ?_
      refine plStart ?_
      refine plCall (i := 0) 21 [] [] [] rfl (by kernel_rfl) (by kernel_rfl) rfl (by kernel_rfl) (by kernel_rfl) (sanity_any _) ?_
      rintro e w122 ⟨rfl, hbz⟩
      have hm123 := hm120.below hbz
      clear hbz hm120
      refine ⟨_, rfl, ?_⟩
      simp only [Act.put, List.setIfInBounds_toArray, List.set_cons_succ, List.set_cons_zero]
      refine plVal (i := 1) (v := .bool true) rfl (by kernel_rfl) (by kernel_rfl) ?_
      simp only [Act.put, List.setIfInBounds_toArray, List.set_cons_succ, List.set_cons_zero]
      refine plVal (i := 2) (v := .int .i64 (mCmp a b)) rfl (by kernel_rfl) (by kernel_rfl) ?_
      simp only [Act.put, List.setIfInBounds_toArray, List.set_cons_succ, List.set_cons_zero]
      by_cases h124 : (mCmp a b) < 0
      · refine plVal (i := 3) (v := .bool true) rfl (by kernel_rfl) (boolTo (decide_eq_true h124) (lssRun (A := (mCmp a b)) (B := 0) (.tmp 54) (.const (.int .i64 0)) rfl (by kernel_rfl) (by kernel_rfl))) ?_
        simp only [Act.put, List.setIfInBounds_toArray, List.set_cons_succ, List.set_cons_zero]
        refine plVal (i := 4) (v := .int .i64 (mEnc a)) rfl (by kernel_rfl) (by kernel_rfl) ?_
        simp only [Act.put, List.setIfInBounds_toArray, List.set_cons_succ, List.set_cons_zero]
        refine plVal (i := 5) (v := .int .i64 (mEnc b)) rfl (by kernel_rfl) (by kernel_rfl) ?_
        simp only [Act.put, List.setIfInBounds_toArray, List.set_cons_succ, List.set_cons_zero]
        refine plVal (i := 6) (v := .bool true) rfl (by kernel_rfl) (boolTo (decide_eq_true ((mCmp_neg a b).1 h124)) (lssRun (A := (mEnc a)) (B := (mEnc b)) (.tmp 56) (.tmp 57) rfl (by kernel_rfl) (by kernel_rfl))) ?_
        simp only [Act.put, List.setIfInBounds_toArray, List.set_cons_succ, List.set_cons_zero]
        refine plVal (i := 7) (v := .bool true) rfl (by kernel_rfl) (by kernel_rfl) ?_
        simp only [Act.put, List.setIfInBounds_toArray, List.set_cons_succ, List.set_cons_zero]
        refine plVal (i := 8) (v := .bool true) rfl (by kernel_rfl) (by kernel_rfl) ?_
        simp only [Act.put, List.setIfInBounds_toArray, List.set_cons_succ, List.set_cons_zero]
        refine plVal (i := 9) (v := .bool true) rfl (by kernel_rfl) (by kernel_rfl) ?_
        simp only [Act.put, List.setIfInBounds_toArray, List.set_cons_succ, List.set_cons_zero]
        refine plVal (i := 10) (v := .int .i64 (mCmp a b)) rfl (by kernel_rfl) (by kernel_rfl) ?_
        simp only [Act.put, List.setIfInBounds_toArray, List.set_cons_succ, List.set_cons_zero]
        by_cases h125 : (mCmp a b) = 0
        · refine plVal (i := 11) (v := .bool true) rfl (by kernel_rfl) (boolTo (decide_eq_true h125) (eqlRun (A := (mCmp a b)) (B := 0) (.tmp 62) (.const (.int .i64 0)) rfl (by kernel_rfl) (by kernel_rfl))) ?_
          simp only [Act.put, List.setIfInBounds_toArray, List.set_cons_succ, List.set_cons_zero]
          refine plVal (i := 12) (v := .int .i64 (mEnc a)) rfl (by kernel_rfl) (by kernel_rfl) ?_
          simp only [Act.put, List.setIfInBounds_toArray, List.set_cons_succ, List.set_cons_zero]
          refine plVal (i := 13) (v := .int .i64 (mEnc b)) rfl (by kernel_rfl) (by kernel_rfl) ?_
          simp only [Act.put, List.setIfInBounds_toArray, List.set_cons_succ, List.set_cons_zero]
          refine plVal (i := 14) (v := .bool true) rfl (by kernel_rfl) (boolTo (decide_eq_true ((mCmp_zero a b).1 h125)) (eqlRun (A := (mEnc a)) (B := (mEnc b)) (.tmp 64) (.tmp 65) rfl (by kernel_rfl) (by kernel_rfl))) ?_
          simp only [Act.put, List.setIfInBounds_toArray, List.set_cons_succ, List.set_cons_zero]
          refine plVal (i := 15) (v := .bool true) rfl (by kernel_rfl) (by kernel_rfl) ?_
          simp only [Act.put, List.setIfInBounds_toArray, List.set_cons_succ, List.set_cons_zero]
          refine plVal (i := 16) (v := .bool true) rfl (by kernel_rfl) (by kernel_rfl) ?_
          simp only [Act.put, List.setIfInBounds_toArray, List.set_cons_succ, List.set_cons_zero]
          refine plVal (i := 17) (v := .bool true) rfl (by kernel_rfl) (by kernel_rfl) ?_
          simp only [Act.put, List.setIfInBounds_toArray, List.set_cons_succ, List.set_cons_zero]
          refine plVal (i := 18) (v := .agg (pcs b).toArray) rfl (by kernel_rfl) (gLoadAg (vs := pcs b) (k := 0) 1 hm123 rfl (by kernel_rfl) (by kernel_rfl) (.tmp 4) Ty.ag_voxel_api_Point rfl (by kernel_rfl)) ?_
          simp only [Act.put, List.setIfInBounds_toArray, List.set_cons_succ, List.set_cons_zero]
          refine plVal (i := 19) (v := .agg (pcs a).toArray) rfl (by kernel_rfl) (gLoadAg (vs := pcs a) (k := 0) 0 hm123 rfl (by kernel_rfl) (by kernel_rfl) (.tmp 3) Ty.ag_voxel_api_Point rfl (by kernel_rfl)) ?_
          simp only [Act.put, List.setIfInBounds_toArray, List.set_cons_succ, List.set_cons_zero]
          refine plCall (i := 20) 15 [.agg (pcs b).toArray, .agg (pcs a).toArray] [] [] rfl (by kernel_rfl) (by kernel_rfl) rfl (by kernel_rfl) (by kernel_rfl) (compare_any b a _) ?_
          rintro e w126 ⟨rfl, hbz⟩
          have hm127 := hm123.below hbz
          clear hbz hm123
          refine ⟨_, rfl, ?_⟩
          simp only [Act.put, List.setIfInBounds_toArray, List.set_cons_succ, List.set_cons_zero]
          refine plVal (i := 21) (v := .int .i64 (mCmp a b)) rfl (by kernel_rfl) (by kernel_rfl) ?_
          simp only [Act.put, List.setIfInBounds_toArray, List.set_cons_succ, List.set_cons_zero]
          refine plVal (i := 22) (v := .int .i64 (-(mCmp a b))) rfl (by kernel_rfl) (gNeg (.tmp 73) rfl (by kernel_rfl) (by omega)) ?_
          simp only [Act.put, List.setIfInBounds_toArray, List.set_cons_succ, List.set_cons_zero]
          refine plVal (i := 23) (v := .bool true) rfl (by kernel_rfl) (boolTo (decide_eq_true (mCmp_swap a b)) (eqlRun (A := (mCmp b a)) (B := (-(mCmp a b))) (.tmp 72) (.tmp 74) rfl (by kernel_rfl) (by kernel_rfl))) ?_
          simp only [Act.put, List.setIfInBounds_toArray, List.set_cons_succ, List.set_cons_zero]
          refine plVal (i := 24) (v := .bool true) rfl (by kernel_rfl) (by kernel_rfl) ?_
          simp only [Act.put, List.setIfInBounds_toArray, List.set_cons_succ, List.set_cons_zero]
          refine plVal (i := 25) (v := .bool true) rfl (by kernel_rfl) (by kernel_rfl) ?_
          refine plDone (by decide) ?_
          simp only [Act.put, List.setIfInBounds_toArray, List.set_cons_succ, List.set_cons_zero]
          refine then_normal (hK121 _ _ ?_)
          refine wp_ret ?_
          refine bodyPost_ret (v := .bool true) (gRes1 rfl (gResTmp (t := 6) (v := .bool true) (by kernel_rfl))) rfl ?_
          exact ⟨by first | rfl | simp_all, hm127.bel⟩
        · refine plVal (i := 11) (v := .bool false) rfl (by kernel_rfl) (boolTo (decide_eq_false h125) (eqlRun (A := (mCmp a b)) (B := 0) (.tmp 62) (.const (.int .i64 0)) rfl (by kernel_rfl) (by kernel_rfl))) ?_
          simp only [Act.put, List.setIfInBounds_toArray, List.set_cons_succ, List.set_cons_zero]
          refine plVal (i := 12) (v := .int .i64 (mEnc a)) rfl (by kernel_rfl) (by kernel_rfl) ?_
          simp only [Act.put, List.setIfInBounds_toArray, List.set_cons_succ, List.set_cons_zero]
          refine plVal (i := 13) (v := .int .i64 (mEnc b)) rfl (by kernel_rfl) (by kernel_rfl) ?_
          simp only [Act.put, List.setIfInBounds_toArray, List.set_cons_succ, List.set_cons_zero]
          refine plVal (i := 14) (v := .bool false) rfl (by kernel_rfl) (boolTo (decide_eq_false (fun h => h125 ((mCmp_zero a b).2 h))) (eqlRun (A := (mEnc a)) (B := (mEnc b)) (.tmp 64) (.tmp 65) rfl (by kernel_rfl) (by kernel_rfl))) ?_
          simp only [Act.put, List.setIfInBounds_toArray, List.set_cons_succ, List.set_cons_zero]
          refine plVal (i := 15) (v := .bool true) rfl (by kernel_rfl) (by kernel_rfl) ?_
          simp only [Act.put, List.setIfInBounds_toArray, List.set_cons_succ, List.set_cons_zero]
          refine plVal (i := 16) (v := .bool true) rfl (by kernel_rfl) (by kernel_rfl) ?_
          simp only [Act.put, List.setIfInBounds_toArray, List.set_cons_succ, List.set_cons_zero]
          refine plVal (i := 17) (v := .bool true) rfl (by kernel_rfl) (by kernel_rfl) ?_
          simp only [Act.put, List.setIfInBounds_toArray, List.set_cons_succ, List.set_cons_zero]
          refine plVal (i := 18) (v := .agg (pcs b).toArray) rfl (by kernel_rfl) (gLoadAg (vs := pcs b) (k := 0) 1 hm123 rfl (by kernel_rfl) (by kernel_rfl) (.tmp 4) Ty.ag_voxel_api_Point rfl (by kernel_rfl)) ?_
          simp only [Act.put, List.setIfInBounds_toArray, List.set_cons_succ, List.set_cons_zero]
          refine plVal (i := 19) (v := .agg (pcs a).toArray) rfl (by kernel_rfl) (gLoadAg (vs := pcs a) (k := 0) 0 hm123 rfl (by kernel_rfl) (by kernel_rfl) (.tmp 3) Ty.ag_voxel_api_Point rfl (by kernel_rfl)) ?_
          simp only [Act.put, List.setIfInBounds_toArray, List.set_cons_succ, List.set_cons_zero]
          refine plCall (i := 20) 15 [.agg (pcs b).toArray, .agg (pcs a).toArray] [] [] rfl (by kernel_rfl) (by kernel_rfl) rfl (by kernel_rfl) (by kernel_rfl) (compare_any b a _) ?_
          rintro e w128 ⟨rfl, hbz⟩
          have hm129 := hm123.below hbz
          clear hbz hm123
          refine ⟨_, rfl, ?_⟩
          simp only [Act.put, List.setIfInBounds_toArray, List.set_cons_succ, List.set_cons_zero]
          refine plVal (i := 21) (v := .int .i64 (mCmp a b)) rfl (by kernel_rfl) (by kernel_rfl) ?_
          simp only [Act.put, List.setIfInBounds_toArray, List.set_cons_succ, List.set_cons_zero]
          refine plVal (i := 22) (v := .int .i64 (-(mCmp a b))) rfl (by kernel_rfl) (gNeg (.tmp 73) rfl (by kernel_rfl) (by omega)) ?_
          simp only [Act.put, List.setIfInBounds_toArray, List.set_cons_succ, List.set_cons_zero]
          refine plVal (i := 23) (v := .bool true) rfl (by kernel_rfl) (boolTo (decide_eq_true (mCmp_swap a b)) (eqlRun (A := (mCmp b a)) (B := (-(mCmp a b))) (.tmp 72) (.tmp 74) rfl (by kernel_rfl) (by kernel_rfl))) ?_
          simp only [Act.put, List.setIfInBounds_toArray, List.set_cons_succ, List.set_cons_zero]
          refine plVal (i := 24) (v := .bool true) rfl (by kernel_rfl) (by kernel_rfl) ?_
          simp only [Act.put, List.setIfInBounds_toArray, List.set_cons_succ, List.set_cons_zero]
          refine plVal (i := 25) (v := .bool true) rfl (by kernel_rfl) (by kernel_rfl) ?_
          refine plDone (by decide) ?_
          simp only [Act.put, List.setIfInBounds_toArray, List.set_cons_succ, List.set_cons_zero]
          refine then_normal (hK121 _ _ ?_)
          refine wp_ret ?_
          refine bodyPost_ret (v := .bool true) (gRes1 rfl (gResTmp (t := 6) (v := .bool true) (by kernel_rfl))) rfl ?_
          exact ⟨by first | rfl | simp_all, hm129.bel⟩
      · refine plVal (i := 3) (v := .bool false) rfl (by kernel_rfl) (boolTo (decide_eq_false h124) (lssRun (A := (mCmp a b)) (B := 0) (.tmp 54) (.const (.int .i64 0)) rfl (by kernel_rfl) (by kernel_rfl))) ?_
        simp only [Act.put, List.setIfInBounds_toArray, List.set_cons_succ, List.set_cons_zero]
        refine plVal (i := 4) (v := .int .i64 (mEnc a)) rfl (by kernel_rfl) (by kernel_rfl) ?_
        simp only [Act.put, List.setIfInBounds_toArray, List.set_cons_succ, List.set_cons_zero]
        refine plVal (i := 5) (v := .int .i64 (mEnc b)) rfl (by kernel_rfl) (by kernel_rfl) ?_
        simp only [Act.put, List.setIfInBounds_toArray, List.set_cons_succ, List.set_cons_zero]
        refine plVal (i := 6) (v := .bool false) rfl (by kernel_rfl) (boolTo (decide_eq_false (fun h => h124 ((mCmp_neg a b).2 h))) (lssRun (A := (mEnc a)) (B := (mEnc b)) (.tmp 56) (.tmp 57) rfl (by kernel_rfl) (by kernel_rfl))) ?_
        simp only [Act.put, List.setIfInBounds_toArray, List.set_cons_succ, List.set_cons_zero]
        refine plVal (i := 7) (v := .bool true) rfl (by kernel_rfl) (by kernel_rfl) ?_
        simp only [Act.put, List.setIfInBounds_toArray, List.set_cons_succ, List.set_cons_zero]
        refine plVal (i := 8) (v := .bool true) rfl (by kernel_rfl) (by kernel_rfl) ?_
        simp only [Act.put, List.setIfInBounds_toArray, List.set_cons_succ, List.set_cons_zero]
        refine plVal (i := 9) (v := .bool true) rfl (by kernel_rfl) (by kernel_rfl) ?_
        simp only [Act.put, List.setIfInBounds_toArray, List.set_cons_succ, List.set_cons_zero]
        refine plVal (i := 10) (v := .int .i64 (mCmp a b)) rfl (by kernel_rfl) (by kernel_rfl) ?_
        simp only [Act.put, List.setIfInBounds_toArray, List.set_cons_succ, List.set_cons_zero]
        by_cases h130 : (mCmp a b) = 0
        · refine plVal (i := 11) (v := .bool true) rfl (by kernel_rfl) (boolTo (decide_eq_true h130) (eqlRun (A := (mCmp a b)) (B := 0) (.tmp 62) (.const (.int .i64 0)) rfl (by kernel_rfl) (by kernel_rfl))) ?_
          simp only [Act.put, List.setIfInBounds_toArray, List.set_cons_succ, List.set_cons_zero]
          refine plVal (i := 12) (v := .int .i64 (mEnc a)) rfl (by kernel_rfl) (by kernel_rfl) ?_
          simp only [Act.put, List.setIfInBounds_toArray, List.set_cons_succ, List.set_cons_zero]
          refine plVal (i := 13) (v := .int .i64 (mEnc b)) rfl (by kernel_rfl) (by kernel_rfl) ?_
          simp only [Act.put, List.setIfInBounds_toArray, List.set_cons_succ, List.set_cons_zero]
          refine plVal (i := 14) (v := .bool true) rfl (by kernel_rfl) (boolTo (decide_eq_true ((mCmp_zero a b).1 h130)) (eqlRun (A := (mEnc a)) (B := (mEnc b)) (.tmp 64) (.tmp 65) rfl (by kernel_rfl) (by kernel_rfl))) ?_
          simp only [Act.put, List.setIfInBounds_toArray, List.set_cons_succ, List.set_cons_zero]
          refine plVal (i := 15) (v := .bool true) rfl (by kernel_rfl) (by kernel_rfl) ?_
          simp only [Act.put, List.setIfInBounds_toArray, List.set_cons_succ, List.set_cons_zero]
          refine plVal (i := 16) (v := .bool true) rfl (by kernel_rfl) (by kernel_rfl) ?_
          simp only [Act.put, List.setIfInBounds_toArray, List.set_cons_succ, List.set_cons_zero]
          refine plVal (i := 17) (v := .bool true) rfl (by kernel_rfl) (by kernel_rfl) ?_
          simp only [Act.put, List.setIfInBounds_toArray, List.set_cons_succ, List.set_cons_zero]
          refine plVal (i := 18) (v := .agg (pcs b).toArray) rfl (by kernel_rfl) (gLoadAg (vs := pcs b) (k := 0) 1 hm123 rfl (by kernel_rfl) (by kernel_rfl) (.tmp 4) Ty.ag_voxel_api_Point rfl (by kernel_rfl)) ?_
          simp only [Act.put, List.setIfInBounds_toArray, List.set_cons_succ, List.set_cons_zero]
          refine plVal (i := 19) (v := .agg (pcs a).toArray) rfl (by kernel_rfl) (gLoadAg (vs := pcs a) (k := 0) 0 hm123 rfl (by kernel_rfl) (by kernel_rfl) (.tmp 3) Ty.ag_voxel_api_Point rfl (by kernel_rfl)) ?_
          simp only [Act.put, List.setIfInBounds_toArray, List.set_cons_succ, List.set_cons_zero]
          refine plCall (i := 20) 15 [.agg (pcs b).toArray, .agg (pcs a).toArray] [] [] rfl (by kernel_rfl) (by kernel_rfl) rfl (by kernel_rfl) (by kernel_rfl) (compare_any b a _) ?_
          rintro e w131 ⟨rfl, hbz⟩
          have hm132 := hm123.below hbz
          clear hbz hm123
          refine ⟨_, rfl, ?_⟩
          simp only [Act.put, List.setIfInBounds_toArray, List.set_cons_succ, List.set_cons_zero]
          refine plVal (i := 21) (v := .int .i64 (mCmp a b)) rfl (by kernel_rfl) (by kernel_rfl) ?_
          simp only [Act.put, List.setIfInBounds_toArray, List.set_cons_succ, List.set_cons_zero]
          refine plVal (i := 22) (v := .int .i64 (-(mCmp a b))) rfl (by kernel_rfl) (gNeg (.tmp 73) rfl (by kernel_rfl) (by omega)) ?_
          simp only [Act.put, List.setIfInBounds_toArray, List.set_cons_succ, List.set_cons_zero]
          refine plVal (i := 23) (v := .bool true) rfl (by kernel_rfl) (boolTo (decide_eq_true (mCmp_swap a b)) (eqlRun (A := (mCmp b a)) (B := (-(mCmp a b))) (.tmp 72) (.tmp 74) rfl (by kernel_rfl) (by kernel_rfl))) ?_
          simp only [Act.put, List.setIfInBounds_toArray, List.set_cons_succ, List.set_cons_zero]
          refine plVal (i := 24) (v := .bool true) rfl (by kernel_rfl) (by kernel_rfl) ?_
          simp only [Act.put, List.setIfInBounds_toArray, List.set_cons_succ, List.set_cons_zero]
          refine plVal (i := 25) (v := .bool true) rfl (by kernel_rfl) (by kernel_rfl) ?_
          refine plDone (by decide) ?_
          simp only [Act.put, List.setIfInBounds_toArray, List.set_cons_succ, List.set_cons_zero]
          refine then_normal (hK121 _ _ ?_)
          refine wp_ret ?_
          refine bodyPost_ret (v := .bool true) (gRes1 rfl (gResTmp (t := 6) (v := .bool true) (by kernel_rfl))) rfl ?_
          exact ⟨by first | rfl | simp_all, hm132.bel⟩
        · refine plVal (i := 11) (v := .bool false) rfl (by kernel_rfl) (boolTo (decide_eq_false h130) (eqlRun (A := (mCmp a b)) (B := 0) (.tmp 62) (.const (.int .i64 0)) rfl (by kernel_rfl) (by kernel_rfl))) ?_
          simp only [Act.put, List.setIfInBounds_toArray, List.set_cons_succ, List.set_cons_zero]
          refine plVal (i := 12) (v := .int .i64 (mEnc a)) rfl (by kernel_rfl) (by kernel_rfl) ?_
          simp only [Act.put, List.setIfInBounds_toArray, List.set_cons_succ, List.set_cons_zero]
          refine plVal (i := 13) (v := .int .i64 (mEnc b)) rfl (by kernel_rfl) (by kernel_rfl) ?_
          simp only [Act.put, List.setIfInBounds_toArray, List.set_cons_succ, List.set_cons_zero]
          refine plVal (i := 14) (v := .bool false) rfl (by kernel_rfl) (boolTo (decide_eq_false (fun h => h130 ((mCmp_zero a b).2 h))) (eqlRun (A := (mEnc a)) (B := (mEnc b)) (.tmp 64) (.tmp 65) rfl (by kernel_rfl) (by kernel_rfl))) ?_
          simp only [Act.put, List.setIfInBounds_toArray, List.set_cons_succ, List.set_cons_zero]
          refine plVal (i := 15) (v := .bool true) rfl (by kernel_rfl) (by kernel_rfl) ?_
          simp only [Act.put, List.setIfInBounds_toArray, List.set_cons_succ, List.set_cons_zero]
          refine plVal (i := 16) (v := .bool true) rfl (by kernel_rfl) (by kernel_rfl) ?_
          simp only [Act.put, List.setIfInBounds_toArray, List.set_cons_succ, List.set_cons_zero]
          refine plVal (i := 17) (v := .bool true) rfl (by kernel_rfl) (by kernel_rfl) ?_
          simp only [Act.put, List.setIfInBounds_toArray, List.set_cons_succ, List.set_cons_zero]
          refine plVal (i := 18) (v := .agg (pcs b).toArray) rfl (by kernel_rfl) (gLoadAg (vs := pcs b) (k := 0) 1 hm123 rfl (by kernel_rfl) (by kernel_rfl) (.tmp 4) Ty.ag_voxel_api_Point rfl (by kernel_rfl)) ?_
          simp only [Act.put, List.setIfInBounds_toArray, List.set_cons_succ, List.set_cons_zero]
          refine plVal (i := 19) (v := .agg (pcs a).toArray) rfl (by kernel_rfl) (gLoadAg (vs := pcs a) (k := 0) 0 hm123 rfl (by kernel_rfl) (by kernel_rfl) (.tmp 3) Ty.ag_voxel_api_Point rfl (by kernel_rfl)) ?_
          simp only [Act.put, List.setIfInBounds_toArray, List.set_cons_succ, List.set_cons_zero]
          refine plCall (i := 20) 15 [.agg (pcs b).toArray, .agg (pcs a).toArray] [] [] rfl (by kernel_rfl) (by kernel_rfl) rfl (by kernel_rfl) (by kernel_rfl) (compare_any b a _) ?_
          rintro e w133 ⟨rfl, hbz⟩
          have hm134 := hm123.below hbz
          clear hbz hm123
          refine ⟨_, rfl, ?_⟩
          simp only [Act.put, List.setIfInBounds_toArray, List.set_cons_succ, List.set_cons_zero]
          refine plVal (i := 21) (v := .int .i64 (mCmp a b)) rfl (by kernel_rfl) (by kernel_rfl) ?_
          simp only [Act.put, List.setIfInBounds_toArray, List.set_cons_succ, List.set_cons_zero]
          refine plVal (i := 22) (v := .int .i64 (-(mCmp a b))) rfl (by kernel_rfl) (gNeg (.tmp 73) rfl (by kernel_rfl) (by omega)) ?_
          simp only [Act.put, List.setIfInBounds_toArray, List.set_cons_succ, List.set_cons_zero]
          refine plVal (i := 23) (v := .bool true) rfl (by kernel_rfl) (boolTo (decide_eq_true (mCmp_swap a b)) (eqlRun (A := (mCmp b a)) (B := (-(mCmp a b))) (.tmp 72) (.tmp 74) rfl (by kernel_rfl) (by kernel_rfl))) ?_
          simp only [Act.put, List.setIfInBounds_toArray, List.set_cons_succ, List.set_cons_zero]
          refine plVal (i := 24) (v := .bool true) rfl (by kernel_rfl) (by kernel_rfl) ?_
          simp only [Act.put, List.setIfInBounds_toArray, List.set_cons_succ, List.set_cons_zero]
          refine plVal (i := 25) (v := .bool true) rfl (by kernel_rfl) (by kernel_rfl) ?_
          refine plDone (by decide) ?_
          simp only [Act.put, List.setIfInBounds_toArray, List.set_cons_succ, List.set_cons_zero]
          refine then_normal (hK121 _ _ ?_)
          refine wp_ret ?_
          refine bodyPost_ret (v := .bool true) (gRes1 rfl (gResTmp (t := 6) (v := .bool true) (by kernel_rfl))) rfl ?_
          exact ⟨by first | rfl | simp_all, hm134.bel⟩
    · rw [h101]
      refine plVal (i := 2) (v := .bool true) rfl (by kernel_rfl) (by kernel_rfl) ?_
      refine plDone (by decide) ?_
      simp only [Act.put, List.setIfInBounds_toArray, List.set_cons_succ, List.set_cons_zero]
      refine then_normal (hK98 _ _ ?_)
      refine wp_seq_k fun K135 hK135 => ?_
      refine plStart ?_
      refine plVal (i := 0) (v := .agg (pcs a).toArray) rfl (by kernel_rfl) (gLoadAg (vs := pcs a) (k := 0) 0 hm100 rfl (by kernel_rfl) (by kernel_rfl) (.tmp 3) Ty.ag_voxel_api_Point rfl (by kernel_rfl)) ?_
      simp only [Act.put, List.setIfInBounds_toArray, List.set_cons_succ, List.set_cons_zero]
      refine plCall (i := 1) 13 [.agg (pcs a).toArray] [] [] rfl (by kernel_rfl) (by kernel_rfl) rfl (by kernel_rfl) (by kernel_rfl) (encode_any a _) ?_
      rintro e w136 ⟨rfl, hbz⟩
      have hm137 := hm100.below hbz
      clear hbz hm100
      refine ⟨_, rfl, ?_⟩
      simp only [Act.put, List.setIfInBounds_toArray, List.set_cons_succ, List.set_cons_zero]
      refine plVal (i := 2) (v := .int .i64 (mEnc a)) rfl (by kernel_rfl) (by kernel_rfl) ?_
      refine plDone (by decide) ?_
      simp only [Act.put, List.setIfInBounds_toArray, List.set_cons_succ, List.set_cons_zero]
      refine then_normal (hK135 _ _ ?_)
      refine wp_seq_k fun K138 hK138 => ?_
      refine plStart ?_
      refine plVal (i := 0) (v := .int .i64 (mEnc a)) rfl (by kernel_rfl) (by kernel_rfl) ?_
      simp only [Act.put, List.setIfInBounds_toArray, List.set_cons_succ, List.set_cons_zero]
      refine plCall (i := 1) 9 [.int .i64 (mEnc a)] [] [] rfl (by kernel_rfl) (by kernel_rfl) rfl (by kernel_rfl) (by kernel_rfl) (decode_any (mEnc a) _) ?_
      rintro e w139 ⟨rfl, hbz⟩
      have hm140 := hm137.below hbz
      clear hbz hm137
      rw [(dec_enc_in (of_decide_eq_true h101)).1]
      refine ⟨_, rfl, ?_⟩
      simp only [Act.put, List.setIfInBounds_toArray, List.set_cons_succ, List.set_cons_zero]
      refine plVal (i := 2) (v := .tuple #[.agg (pcs ((mDec (mEnc a)).1)).toArray, .bool true]) rfl (by kernel_rfl) (by kernel_rfl) ?_
      simp only [Act.put, List.setIfInBounds_toArray, List.set_cons_succ, List.set_cons_zero]
      refine plVal (i := 3) (v := .agg (pcs ((mDec (mEnc a)).1)).toArray) rfl (by kernel_rfl) (by kernel_rfl) ?_
      simp only [Act.put, List.setIfInBounds_toArray, List.set_cons_succ, List.set_cons_zero]
      refine plVal (i := 4) (v := .bool true) rfl (by kernel_rfl) (by kernel_rfl) ?_
      simp only [Act.put, List.setIfInBounds_toArray, List.set_cons_succ, List.set_cons_zero]
      refine plAlloc (z := [.int .i64 0, .int .i64 0, .int .i64 0]) Ty.ag_voxel_api_Point hm140 (i := 5) rfl (by kernel_rfl) rfl ?_
      intro g141 w143 hm142
      clear hm140
      simp only [List.cons_append, List.nil_append, List.set_cons_succ, List.set_cons_zero] at hm142
      simp only [Act.put, List.setIfInBounds_toArray, List.set_cons_succ, List.set_cons_zero]
      refine plStore 3 Ty.ag_voxel_api_Point hm142 rfl (i := 6) (cs := pcs ((mDec (mEnc a)).1)) rfl (by kernel_rfl) rfl (by kernel_rfl) (by kernel_rfl) rfl rfl (by kernel_rfl) ?_
      intro w145 hm144
      clear hm142
      simp only [List.cons_append, List.nil_append, List.set_cons_succ, List.set_cons_zero] at hm144
      simp only [Act.put, List.setIfInBounds_toArray, List.set_cons_succ, List.set_cons_zero]
      refine plVal (i := 7) (v := .bool true) rfl (by kernel_rfl) (by kernel_rfl) ?_
      refine plDone (by decide) ?_
      simp only [Act.put, List.setIfInBounds_toArray, List.set_cons_succ, List.set_cons_zero]
      refine then_normal (hK138 _ _ ?_)
      refine wp_seq_k fun K146 hK146 => ?_
      refine wp_seq_k fun K147 hK147 => ?_
      refine plStart ?_
      refine plVal (i := 0) (v := .bool true) rfl (by kernel_rfl) (by kernel_rfl) ?_
      simp only [Act.put, List.setIfInBounds_toArray, List.set_cons_succ, List.set_cons_zero]
      refine plVal (i := 1) (v := .bool true) rfl (by kernel_rfl) (by kernel_rfl) ?_
      simp only [Act.put, List.setIfInBounds_toArray, List.set_cons_succ, List.set_cons_zero]
      refine plVal (i := 2) (v := .bool false) rfl (by kernel_rfl) (by kernel_rfl) ?_
      simp only [Act.put, List.setIfInBounds_toArray, List.set_cons_succ, List.set_cons_zero]
      refine plVal (i := 3) (v := .bool false) rfl (by kernel_rfl) (by kernel_rfl) ?_
      simp only [Act.put, List.setIfInBounds_toArray, List.set_cons_succ, List.set_cons_zero]
      refine plVal (i := 4) (v := .bool true) rfl (by kernel_rfl) (by kernel_rfl) ?_
      simp only [Act.put, List.setIfInBounds_toArray, List.set_cons_succ, List.set_cons_zero]
      refine plVal (i := 5) (v := .bool true) rfl (by kernel_rfl) (by kernel_rfl) ?_
      simp only [Act.put, List.setIfInBounds_toArray, List.set_cons_succ, List.set_cons_zero]
      refine plVal (i := 6) (v := .agg (pcs ((mDec (mEnc a)).1)).toArray) rfl (by kernel_rfl) (gLoadAg (vs := pcs ((mDec (mEnc a)).1)) (k := 0) 3 hm144 rfl (by kernel_rfl) (by kernel_rfl) (.tmp 11) Ty.ag_voxel_api_Point rfl (by kernel_rfl)) ?_
      simp only [Act.put, List.setIfInBounds_toArray, List.set_cons_succ, List.set_cons_zero]
      refine plVal (i := 7) (v := .agg (pcs a).toArray) rfl (by kernel_rfl) (gLoadAg (vs := pcs a) (k := 0) 0 hm144 rfl (by kernel_rfl) (by kernel_rfl) (.tmp 3) Ty.ag_voxel_api_Point rfl (by kernel_rfl)) ?_
      simp only [Act.put, List.setIfInBounds_toArray, List.set_cons_succ, List.set_cons_zero]
      refine plVal (i := 8) (v := .bool false) rfl (by kernel_rfl) (boolTo (by rw [decide_eq_true (dec_enc_in (of_decide_eq_true h101)).2]; rfl) (neqPtRun (.tmp 42) (.tmp 43) ((mDec (mEnc a)).1) a rfl (by kernel_rfl) (by kernel_rfl))) ?_
      simp only [Act.put, List.setIfInBounds_toArray, List.set_cons_succ, List.set_cons_zero]
      refine plVal (i := 9) (v := .bool false) rfl (by kernel_rfl) (by kernel_rfl) ?_
      simp only [Act.put, List.setIfInBounds_toArray, List.set_cons_succ, List.set_cons_zero]
      refine plVal (i := 10) (v := .bool false) rfl (by kernel_rfl) (by kernel_rfl) ?_
      refine plDone (by decide) ?_
      simp only [Act.put, List.setIfInBounds_toArray, List.set_cons_succ, List.set_cons_zero]
      refine then_normal (hK147 _ _ ?_)
      refine wp_cond_false (by kernel_rfl) ?_
      refine wp_skip ?_
      refine then_normal (hK146 _ _ ?_)
      refine wp_seq_k fun K148 hK148 => ?_
      refine plStart ?_
      refine plVal (i := 0) (v := .agg (pcs b).toArray) rfl (by kernel_rfl) (gLoadAg (vs := pcs b) (k := 0) 1 hm144 rfl (by kernel_rfl) (by kernel_rfl) (.tmp 4) Ty.ag_voxel_api_Point rfl (by kernel_rfl)) ?_
      simp only [Act.put, List.setIfInBounds_toArray, List.set_cons_succ, List.set_cons_zero]
      refine plCall (i := 1) 13 [.agg (pcs b).toArray] [] [] rfl (by kernel_rfl) (by kernel_rfl) rfl (by kernel_rfl) (by kernel_rfl) (encode_any b _) ?_
      rintro e w149 ⟨rfl, hbz⟩
      have hm150 := hm144.below hbz
      clear hbz hm144
      refine ⟨_, rfl, ?_⟩
      simp only [Act.put, List.setIfInBounds_toArray, List.set_cons_succ, List.set_cons_zero]
      refine plVal (i := 2) (v := .int .i64 (mEnc b)) rfl (by kernel_rfl) (by kernel_rfl) ?_
      refine plDone (by decide) ?_
      simp only [Act.put, List.setIfInBounds_toArray, List.set_cons_succ, List.set_cons_zero]
      refine then_normal (hK148 _ _ ?_)
      refine wp_seq_k fun K151 hK151 => ?_
      refine plStart ?_
      refine plVal (i := 0) (v := .agg (pcs a).toArray) rfl (by kernel_rfl) (gLoadAg (vs := pcs a) (k := 0) 0 hm150 rfl (by kernel_rfl) (by kernel_rfl) (.tmp 3) Ty.ag_voxel_api_Point rfl (by kernel_rfl)) ?_
      simp only [Act.put, List.setIfInBounds_toArray, List.set_cons_succ, List.set_cons_zero]
      refine plVal (i := 1) (v := .agg (pcs b).toArray) rfl (by kernel_rfl) (gLoadAg (vs := pcs b) (k := 0) 1 hm150 rfl (by kernel_rfl) (by kernel_rfl) (.tmp 4) Ty.ag_voxel_api_Point rfl (by kernel_rfl)) ?_
      simp only [Act.put, List.setIfInBounds_toArray, List.set_cons_succ, List.set_cons_zero]
      refine plCall (i := 2) 15 [.agg (pcs a).toArray, .agg (pcs b).toArray] [] [] rfl (by kernel_rfl) (by kernel_rfl) rfl (by kernel_rfl) (by kernel_rfl) (compare_any a b _) ?_
      rintro e w152 ⟨rfl, hbz⟩
      have hm153 := hm150.below hbz
      clear hbz hm150
      refine ⟨_, rfl, ?_⟩
      simp only [Act.put, List.setIfInBounds_toArray, List.set_cons_succ, List.set_cons_zero]
      refine plVal (i := 3) (v := .int .i64 (mCmp a b)) rfl (by kernel_rfl) (by kernel_rfl) ?_
      refine plDone (by decide) ?_
      simp only [Act.put, List.setIfInBounds_toArray, List.set_cons_succ, List.set_cons_zero]
      refine then_normal (hK151 _ _ ?_)
      refine wp_seq_k fun K154 hK154 => ?_
      refine plStart ?_
      refine plCall (i := 0) 21 [] [] [] rfl (by kernel_rfl) (by kernel_rfl) rfl (by kernel_rfl) (by kernel_rfl) (sanity_any _) ?_
      rintro e w155 ⟨rfl, hbz⟩
      have hm156 := hm153.below hbz
      clear hbz hm153
      refine ⟨_, rfl, ?_⟩
      simp only [Act.put, List.setIfInBounds_toArray, List.set_cons_succ, List.set_cons_zero]
      refine plVal (i := 1) (v := .bool true) rfl (by kernel_rfl) (by kernel_rfl) ?_
      simp only [Act.put, List.setIfInBounds_toArray, List.set_cons_succ, List.set_cons_zero]
      refine plVal (i := 2) (v := .int .i64 (mCmp a b)) rfl (by kernel_rfl) (by kernel_rfl) ?_
      simp only [Act.put, List.setIfInBounds_toArray, List.set_cons_succ, List.set_cons_zero]
      by_cases h157 : (mCmp a b) < 0
      · refine plVal (i := 3) (v := .bool true) rfl (by kernel_rfl) (boolTo (decide_eq_true h157) (lssRun (A := (mCmp a b)) (B := 0) (.tmp 54) (.const (.int .i64 0)) rfl (by kernel_rfl) (by kernel_rfl))) ?_
        simp only [Act.put, List.setIfInBounds_toArray, List.set_cons_succ, List.set_cons_zero]
        refine plVal (i := 4) (v := .int .i64 (mEnc a)) rfl (by kernel_rfl) (by kernel_rfl) ?_
        simp only [Act.put, List.setIfInBounds_toArray, List.set_cons_succ, List.set_cons_zero]
        refine plVal (i := 5) (v := .int .i64 (mEnc b)) rfl (by kernel_rfl) (by kernel_rfl) ?_
        simp only [Act.put, List.setIfInBounds_toArray, List.set_cons_succ, List.set_cons_zero]
        refine plVal (i := 6) (v := .bool true) rfl (by kernel_rfl) (boolTo (decide_eq_true ((mCmp_neg a b).1 h157)) (lssRun (A := (mEnc a)) (B := (mEnc b)) (.tmp 56) (.tmp 57) rfl (by kernel_rfl) (by kernel_rfl))) ?_
        simp only [Act.put, List.setIfInBounds_toArray, List.set_cons_succ, List.set_cons_zero]
        refine plVal (i := 7) (v := .bool true) rfl (by kernel_rfl) (by kernel_rfl) ?_
        simp only [Act.put, List.setIfInBounds_toArray, List.set_cons_succ, List.set_cons_zero]
        refine plVal (i := 8) (v := .bool true) rfl (by kernel_rfl) (by kernel_rfl) ?_
        simp only [Act.put, List.setIfInBounds_toArray, List.set_cons_succ, List.set_cons_zero]
        refine plVal (i := 9) (v := .bool true) rfl (by kernel_rfl) (by kernel_rfl) ?_
        simp only [Act.put, List.setIfInBounds_toArray, List.set_cons_succ, List.set_cons_zero]
        refine plVal (i := 10) (v := .int .i64 (mCmp a b)) rfl (by kernel_rfl) (by kernel_rfl) ?_
        simp only [Act.put, List.setIfInBounds_toArray, List.set_cons_succ, List.set_cons_zero]
        by_cases h158 : (mCmp a b) = 0
        · refine plVal (i := 11) (v := .bool true) rfl (by kernel_rfl) (boolTo (decide_eq_true h158) (eqlRun (A := (mCmp a b)) (B := 0) (.tmp 62) (.const (.int .i64 0)) rfl (by kernel_rfl) (by kernel_rfl))) ?_
          simp only [Act.put, List.setIfInBounds_toArray, List.set_cons_succ, List.set_cons_zero]
          refine plVal (i := 12) (v := .int .i64 (mEnc a)) rfl (by kernel_rfl) (by kernel_rfl) ?_
          simp only [Act.put, List.setIfInBounds_toArray, List.set_cons_succ, List.set_cons_zero]
          refine plVal (i := 13) (v := .int .i64 (mEnc b)) rfl (by kernel_rfl) (by kernel_rfl) ?_
          simp only [Act.put, List.setIfInBounds_toArray, List.set_cons_succ, List.set_cons_zero]
          refine plVal (i := 14) (v := .bool true) rfl (by kernel_rfl) (boolTo (decide_eq_true ((mCmp_zero a b).1 h158)) (eqlRun (A := (mEnc a)) (B := (mEnc b)) (.tmp 64) (.tmp 65) rfl (by kernel_rfl) (by kernel_rfl))) ?_
          simp only [Act.put, List.setIfInBounds_toArray, List.set_cons_succ, List.set_cons_zero]
          refine plVal (i := 15) (v := .bool true) rfl (by kernel_rfl) (by kernel_rfl) ?_
          simp only [Act.put, List.setIfInBounds_toArray, List.set_cons_succ, List.set_cons_zero]
          refine plVal (i := 16) (v := .bool true) rfl (by kernel_rfl) (by kernel_rfl) ?_
          simp only [Act.put, List.setIfInBounds_toArray, List.set_cons_succ, List.set_cons_zero]
          refine plVal (i := 17) (v := .bool true) rfl (by kernel_rfl) (by kernel_rfl) ?_
          simp only [Act.put, List.setIfInBounds_toArray, List.set_cons_succ, List.set_cons_zero]
          refine plVal (i := 18) (v := .agg (pcs b).toArray) rfl (by kernel_rfl) (gLoadAg (vs := pcs b) (k := 0) 1 hm156 rfl (by kernel_rfl) (by kernel_rfl) (.tmp 4) Ty.ag_voxel_api_Point rfl (by kernel_rfl)) ?_
          simp only [Act.put, List.setIfInBounds_toArray, List.set_cons_succ, List.set_cons_zero]
          refine plVal (i := 19) (v := .agg (pcs a).toArray) rfl (by kernel_rfl) (gLoadAg (vs := pcs a) (k := 0) 0 hm156 rfl (by kernel_rfl) (by kernel_rfl) (.tmp 3) Ty.ag_voxel_api_Point rfl (by kernel_rfl)) ?_
          simp only [Act.put, List.setIfInBounds_toArray, List.set_cons_succ, List.set_cons_zero]
          refine plCall (i := 20) 15 [.agg (pcs b).toArray, .agg (pcs a).toArray] [] [] rfl (by kernel_rfl) (by kernel_rfl) rfl (by kernel_rfl) (by kernel_rfl) (compare_any b a _) ?_
          rintro e w159 ⟨rfl, hbz⟩
          have hm160 := hm156.below hbz
          clear hbz hm156
          refine ⟨_, rfl, ?_⟩
          simp only [Act.put, List.setIfInBounds_toArray, List.set_cons_succ, List.set_cons_zero]
          refine plVal (i := 21) (v := .int .i64 (mCmp a b)) rfl (by kernel_rfl) (by kernel_rfl) ?_
          simp only [Act.put, List.setIfInBounds_toArray, List.set_cons_succ, List.set_cons_zero]
          refine plVal (i := 22) (v := .int .i64 (-(mCmp a b))) rfl (by kernel_rfl) (gNeg (.tmp 73) rfl (by kernel_rfl) (by omega)) ?_
          simp only [Act.put, List.setIfInBounds_toArray, List.set_cons_succ, List.set_cons_zero]
          refine plVal (i := 23) (v := .bool true) rfl (by kernel_rfl) (boolTo (decide_eq_true (mCmp_swap a b)) (eqlRun (A := (mCmp b a)) (B := (-(mCmp a b))) (.tmp 72) (.tmp 74) rfl (by kernel_rfl) (by kernel_rfl))) ?_
          simp only [Act.put, List.setIfInBounds_toArray, List.set_cons_succ, List.set_cons_zero]
          refine plVal (i := 24) (v := .bool true) rfl (by kernel_rfl) (by kernel_rfl) ?_
          simp only [Act.put, List.setIfInBounds_toArray, List.set_cons_succ, List.set_cons_zero]
          refine plVal (i := 25) (v := .bool true) rfl (by kernel_rfl) (by kernel_rfl) ?_
          refine plDone (by decide) ?_
          simp only [Act.put, List.setIfInBounds_toArray, List.set_cons_succ, List.set_cons_zero]
          refine then_normal (hK154 _ _ ?_)
          refine wp_ret ?_
          refine bodyPost_ret (v := .bool true) (gRes1 rfl (gResTmp (t := 6) (v := .bool true) (by kernel_rfl))) rfl ?_
          exact ⟨by first | rfl | simp_all, hm160.bel⟩
        · refine plVal (i := 11) (v := .bool false) rfl (by kernel_rfl) (boolTo (decide_eq_false h158) (eqlRun (A := (mCmp a b)) (B := 0) (.tmp 62) (.const (.int .i64 0)) rfl (by kernel_rfl) (by kernel_rfl))) ?_
          simp only [Act.put, List.setIfInBounds_toArray, List.set_cons_succ, List.set_cons_zero]
          refine plVal (i := 12) (v := .int .i64 (mEnc a)) rfl (by kernel_rfl) (by kernel_rfl) ?_
          simp only [Act.put, List.setIfInBounds_toArray, List.set_cons_succ, List.set_cons_zero]
          refine plVal (i := 13) (v := .int .i64 (mEnc b)) rfl (by kernel_rfl) (by kernel_rfl) ?_
          simp only [Act.put, List.setIfInBounds_toArray, List.set_cons_succ, List.set_cons_zero]
          refine plVal (i := 14) (v := .bool false) rfl (by kernel_rfl) (boolTo (decide_eq_false (fun h => h158 ((mCmp_zero a b).2 h))) (eqlRun (A := (mEnc a)) (B := (mEnc b)) (.tmp 64) (.tmp 65) rfl (by kernel_rfl) (by kernel_rfl))) ?_
          simp only [Act.put, List.setIfInBounds_toArray, List.set_cons_succ, List.set_cons_zero]
          refine plVal (i := 15) (v := .bool true) rfl (by kernel_rfl) (by kernel_rfl) ?_
          simp only [Act.put, List.setIfInBounds_toArray, List.set_cons_succ, List.set_cons_zero]
          refine plVal (i := 16) (v := .bool true) rfl (by kernel_rfl) (by kernel_rfl) ?_
          simp only [Act.put, List.setIfInBounds_toArray, List.set_cons_succ, List.set_cons_zero]
          refine plVal (i := 17) (v := .bool true) rfl (by kernel_rfl) (by kernel_rfl) ?_
          simp only [Act.put, List.setIfInBounds_toArray, List.set_cons_succ, List.set_cons_zero]
          refine plVal (i := 18) (v := .agg (pcs b).toArray) rfl (by kernel_rfl) (gLoadAg (vs := pcs b) (k := 0) 1 hm156 rfl (by kernel_rfl) (by kernel_rfl) (.tmp 4) Ty.ag_voxel_api_Point rfl (by kernel_rfl)) ?_
          simp only [Act.put, List.setIfInBounds_toArray, List.set_cons_succ, List.set_cons_zero]
          refine plVal (i := 19) (v := .agg (pcs a).toArray) rfl (by kernel_rfl) (gLoadAg (vs := pcs a) (k := 0) 0 hm156 rfl (by kernel_rfl) (by kernel_rfl) (.tmp 3) Ty.ag_voxel_api_Point rfl (by kernel_rfl)) ?_
          simp only [Act.put, List.setIfInBounds_toArray, List.set_cons_succ, List.set_cons_zero]
          refine plCall (i := 20) 15 [.agg (pcs b).toArray, .agg (pcs a).toArray] [] [] rfl (by kernel_rfl) (by kernel_rfl) rfl (by kernel_rfl) (by kernel_rfl) (compare_any b a _) ?_
          rintro e w161 ⟨rfl, hbz⟩
          have hm162 := hm156.below hbz
          clear hbz hm156
          refine ⟨_, rfl, ?_⟩
          simp only [Act.put, List.setIfInBounds_toArray, List.set_cons_succ, List.set_cons_zero]
          refine plVal (i := 21) (v := .int .i64 (mCmp a b)) rfl (by kernel_rfl) (by kernel_rfl) ?_
          simp only [Act.put, List.setIfInBounds_toArray, List.set_cons_succ, List.set_cons_zero]
          refine plVal (i := 22) (v := .int .i64 (-(mCmp a b))) rfl (by kernel_rfl) (gNeg (.tmp 73) rfl (by kernel_rfl) (by omega)) ?_
          simp only [Act.put, List.setIfInBounds_toArray, List.set_cons_succ, List.set_cons_zero]
          refine plVal (i := 23) (v := .bool true) rfl (by kernel_rfl) (boolTo (decide_eq_true (mCmp_swap a b)) (eqlRun (A := (mCmp b a)) (B := (-(mCmp a b))) (.tmp 72) (.tmp 74) rfl (by kernel_rfl) (by kernel_rfl))) ?_
          simp only [Act.put, List.setIfInBounds_toArray, List.set_cons_succ, List.set_cons_zero]
          refine plVal (i := 24) (v := .bool true) rfl (by kernel_rfl) (by kernel_rfl) ?_
          simp only [Act.put, List.setIfInBounds_toArray, List.set_cons_succ, List.set_cons_zero]
          refine plVal (i := 25) (v := .bool true) rfl (by kernel_rfl) (by kernel_rfl) ?_
          refine plDone (by decide) ?_
          simp only [Act.put, List.setIfInBounds_toArray, List.set_cons_succ, List.set_cons_zero]
          refine then_normal (hK154 _ _ ?_)
          refine wp_ret ?_
          refine bodyPost_ret (v := .bool true) (gRes1 rfl (gResTmp (t := 6) (v := .bool true) (by kernel_rfl))) rfl ?_
          exact ⟨by first | rfl | simp_all, hm162.bel⟩
      · refine plVal (i := 3) (v := .bool false) rfl (by kernel_rfl) (boolTo (decide_eq_false h157) (lssRun (A := (mCmp a b)) (B := 0) (.tmp 54) (.const (.int .i64 0)) rfl (by kernel_rfl) (by kernel_rfl))) ?_
        simp only [Act.put, List.setIfInBounds_toArray, List.set_cons_succ, List.set_cons_zero]
        refine plVal (i := 4) (v := .int .i64 (mEnc a)) rfl (by kernel_rfl) (by kernel_rfl) ?_
        simp only [Act.put, List.setIfInBounds_toArray, List.set_cons_succ, List.set_cons_zero]
        refine plVal (i := 5) (v := .int .i64 (mEnc b)) rfl (by kernel_rfl) (by kernel_rfl) ?_
        simp only [Act.put, List.setIfInBounds_toArray, List.set_cons_succ, List.set_cons_zero]
        refine plVal (i := 6) (v := .bool false) rfl (by kernel_rfl) (boolTo (decide_eq_false (fun h => h157 ((mCmp_neg a b).2 h))) (lssRun (A := (mEnc a)) (B := (mEnc b)) (.tmp 56) (.tmp 57) rfl (by kernel_rfl) (by kernel_rfl))) ?_
        simp only [Act.put, List.setIfInBounds_toArray, List.set_cons_succ, List.set_cons_zero]
        refine plVal (i := 7) (v := .bool true) rfl (by kernel_rfl) (by kernel_rfl) ?_
        simp only [Act.put, List.setIfInBounds_toArray, List.set_cons_succ, List.set_cons_zero]
        refine plVal (i := 8) (v := .bool true) rfl (by kernel_rfl) (by kernel_rfl) ?_
        simp only [Act.put, List.setIfInBounds_toArray, List.set_cons_succ, List.set_cons_zero]
        refine plVal (i := 9) (v := .bool true) rfl (by kernel_rfl) (by kernel_rfl) ?_
        simp only [Act.put, List.setIfInBounds_toArray, List.set_cons_succ, List.set_cons_zero]
        refine plVal (i := 10) (v := .int .i64 (mCmp a b)) rfl (by kernel_rfl) (by kernel_rfl) ?_
        simp only [Act.put, List.setIfInBounds_toArray, List.set_cons_succ, List.set_cons_zero]
        by_cases h163 : (mCmp a b) = 0
        · refine plVal (i := 11) (v := .bool true) rfl (by kernel_rfl) (boolTo (decide_eq_true h163) (eqlRun (A := (mCmp a b)) (B := 0) (.tmp 62) (.const (.int .i64 0)) rfl (by kernel_rfl) (by kernel_rfl))) ?_
          simp only [Act.put, List.setIfInBounds_toArray, List.set_cons_succ, List.set_cons_zero]
          refine plVal (i := 12) (v := .int .i64 (mEnc a)) rfl (by kernel_rfl) (by kernel_rfl) ?_
          simp only [Act.put, List.setIfInBounds_toArray, List.set_cons_succ, List.set_cons_zero]
          refine plVal (i := 13) (v := .int .i64 (mEnc b)) rfl (by kernel_rfl) (by kernel_rfl) ?_
          simp only [Act.put, List.setIfInBounds_toArray, List.set_cons_succ, List.set_cons_zero]
          refine plVal (i := 14) (v := .bool true) rfl (by kernel_rfl) (boolTo (decide_eq_true ((mCmp_zero a b).1 h163)) (eqlRun (A := (mEnc a)) (B := (mEnc b)) (.tmp 64) (.tmp 65) rfl (by kernel_rfl) (by kernel_rfl))) ?_
          simp only [Act.put, List.setIfInBounds_toArray, List.set_cons_succ, List.set_cons_zero]
          refine plVal (i := 15) (v := .bool true) rfl (by kernel_rfl) (by kernel_rfl) ?_
          simp only [Act.put, List.setIfInBounds_toArray, List.set_cons_succ, List.set_cons_zero]
          refine plVal (i := 16) (v := .bool true) rfl (by kernel_rfl) (by kernel_rfl) ?_
          simp only [Act.put, List.setIfInBounds_toArray, List.set_cons_succ, List.set_cons_zero]
          refine plVal (i := 17) (v := .bool true) rfl (by kernel_rfl) (by kernel_rfl) ?_
          simp only [Act.put, List.setIfInBounds_toArray, List.set_cons_succ, List.set_cons_zero]
          refine plVal (i := 18) (v := .agg (pcs b).toArray) rfl (by kernel_rfl) (gLoadAg (vs := pcs b) (k := 0) 1 hm156 rfl (by kernel_rfl) (by kernel_rfl) (.tmp 4) Ty.ag_voxel_api_Point rfl (by kernel_rfl)) ?_
          simp only [Act.put, List.setIfInBounds_toArray, List.set_cons_succ, List.set_cons_zero]
          refine plVal (i := 19) (v := .agg (pcs a).toArray) rfl (by kernel_rfl) (gLoadAg (vs := pcs a) (k := 0) 0 hm156 rfl (by kernel_rfl) (by kernel_rfl) (.tmp 3) Ty.ag_voxel_api_Point rfl (by kernel_rfl)) ?_
          simp only [Act.put, List.setIfInBounds_toArray, List.set_cons_succ, List.set_cons_zero]
          refine plCall (i := 20) 15 [.agg (pcs b).toArray, .agg (pcs a).toArray] [] [] rfl (by kernel_rfl) (by kernel_rfl) rfl (by kernel_rfl) (by kernel_rfl) (compare_any b a _) ?_
          rintro e w164 ⟨rfl, hbz⟩
          have hm165 := hm156.below hbz
          clear hbz hm156
          refine ⟨_, rfl, ?_⟩
          simp only [Act.put, List.setIfInBounds_toArray, List.set_cons_succ, List.set_cons_zero]
          refine plVal (i := 21) (v := .int .i64 (mCmp a b)) rfl (by kernel_rfl) (by kernel_rfl) ?_
          simp only [Act.put, List.setIfInBounds_toArray, List.set_cons_succ, List.set_cons_zero]
          refine plVal (i := 22) (v := .int .i64 (-(mCmp a b))) rfl (by kernel_rfl) (gNeg (.tmp 73) rfl (by kernel_rfl) (by omega)) ?_
          simp only [Act.put, List.setIfInBounds_toArray, List.set_cons_succ, List.set_cons_zero]
          refine plVal (i := 23) (v := .bool true) rfl (by kernel_rfl) (boolTo (decide_eq_true (mCmp_swap a b)) (eqlRun (A := (mCmp b a)) (B := (-(mCmp a b))) (.tmp 72) (.tmp 74) rfl (by kernel_rfl) (by kernel_rfl))) ?_
          simp only [Act.put, List.setIfInBounds_toArray, List.set_cons_succ, List.set_cons_zero]
          refine plVal (i := 24) (v := .bool true) rfl (by kernel_rfl) (by kernel_rfl) ?_
          simp only [Act.put, List.setIfInBounds_toArray, List.set_cons_succ, List.set_cons_zero]
          refine plVal (i := 25) (v := .bool true) rfl (by kernel_rfl) (by kernel_rfl) ?_
          refine plDone (by decide) ?_
          simp only [Act.put, List.setIfInBounds_toArray, List.set_cons_succ, List.set_cons_zero]
          refine then_normal (hK154 _ _ ?_)
          refine wp_ret ?_
          refine bodyPost_ret (v := .bool true) (gRes1 rfl (gResTmp (t := 6) (v := .bool true) (by kernel_rfl))) rfl ?_
          exact ⟨by first | rfl | simp_all, hm165.bel⟩
        · refine plVal (i := 11) (v := .bool false) rfl (by kernel_rfl) (boolTo (decide_eq_false h163) (eqlRun (A := (mCmp a b)) (B := 0) (.tmp 62) (.const (.int .i64 0)) rfl (by kernel_rfl) (by kernel_rfl))) ?_
          simp only [Act.put, List.setIfInBounds_toArray, List.set_cons_succ, List.set_cons_zero]
          refine plVal (i := 12) (v := .int .i64 (mEnc a)) rfl (by kernel_rfl) (by kernel_rfl) ?_
          simp only [Act.put, List.setIfInBounds_toArray, List.set_cons_succ, List.set_cons_zero]
          refine plVal (i := 13) (v := .int .i64 (mEnc b)) rfl (by kernel_rfl) (by kernel_rfl) ?_
          simp only [Act.put, List.setIfInBounds_toArray, List.set_cons_succ, List.set_cons_zero]
          refine plVal (i := 14) (v := .bool false) rfl (by kernel_rfl) (boolTo (decide_eq_false (fun h => h163 ((mCmp_zero a b).2 h))) (eqlRun (A := (mEnc a)) (B := (mEnc b)) (.tmp 64) (.tmp 65) rfl (by kernel_rfl) (by kernel_rfl))) ?_
          simp only [Act.put, List.setIfInBounds_toArray, List.set_cons_succ, List.set_cons_zero]
          refine plVal (i := 15) (v := .bool true) rfl (by kernel_rfl) (by kernel_rfl) ?_
          simp only [Act.put, List.setIfInBounds_toArray, List.set_cons_succ, List.set_cons_zero]
          refine plVal (i := 16) (v := .bool true) rfl (by kernel_rfl) (by kernel_rfl) ?_
          simp only [Act.put, List.setIfInBounds_toArray, List.set_cons_succ, List.set_cons_zero]
          refine plVal (i := 17) (v := .bool true) rfl (by kernel_rfl) (by kernel_rfl) ?_
          simp only [Act.put, List.setIfInBounds_toArray, List.set_cons_succ, List.set_cons_zero]
          refine plVal (i := 18) (v := .agg (pcs b).toArray) rfl (by kernel_rfl) (gLoadAg (vs := pcs b) (k := 0) 1 hm156 rfl (by kernel_rfl) (by kernel_rfl) (.tmp 4) Ty.ag_voxel_api_Point rfl (by kernel_rfl)) ?_
          simp only [Act.put, List.setIfInBounds_toArray, List.set_cons_succ, List.set_cons_zero]
          refine plVal (i := 19) (v := .agg (pcs a).toArray) rfl (by kernel_rfl) (gLoadAg (vs := pcs a) (k := 0) 0 hm156 rfl (by kernel_rfl) (by kernel_rfl) (.tmp 3) Ty.ag_voxel_api_Point rfl (by kernel_rfl)) ?_
          simp only [Act.put, List.setIfInBounds_toArray, List.set_cons_succ, List.set_cons_zero]
          refine plCall (i := 20) 15 [.agg (pcs b).toArray, .agg (pcs a).toArray] [] [] rfl (by kernel_rfl) (by kernel_rfl) rfl (by kernel_rfl) (by kernel_rfl) (compare_any b a _) ?_
          rintro e w166 ⟨rfl, hbz⟩
          have hm167 := hm156.below hbz
          clear hbz hm156
          refine ⟨_, rfl, ?_⟩
          simp only [Act.put, List.setIfInBounds_toArray, List.set_cons_succ, List.set_cons_zero]
          refine plVal (i := 21) (v := .int .i64 (mCmp a b)) rfl (by kernel_rfl) (by kernel_rfl) ?_
          simp only [Act.put, List.setIfInBounds_toArray, List.set_cons_succ, List.set_cons_zero]
          refine plVal (i := 22) (v := .int .i64 (-(mCmp a b))) rfl (by kernel_rfl) (gNeg (.tmp 73) rfl (by kernel_rfl) (by omega)) ?_
          simp only [Act.put, List.setIfInBounds_toArray, List.set_cons_succ, List.set_cons_zero]
          refine plVal (i := 23) (v := .bool true) rfl (by kernel_rfl) (boolTo (decide_eq_true (mCmp_swap a b)) (eqlRun (A := (mCmp b a)) (B := (-(mCmp a b))) (.tmp 72) (.tmp 74) rfl (by kernel_rfl) (by kernel_rfl))) ?_
          simp only [Act.put, List.setIfInBounds_toArray, List.set_cons_succ, List.set_cons_zero]
          refine plVal (i := 24) (v := .bool true) rfl (by kernel_rfl) (by kernel_rfl) ?_
          simp only [Act.put, List.setIfInBounds_toArray, List.set_cons_succ, List.set_cons_zero]
          refine plVal (i := 25) (v := .bool true) rfl (by kernel_rfl) (by kernel_rfl) ?_
          refine plDone (by decide) ?_
          simp only [Act.put, List.setIfInBounds_toArray, List.set_cons_succ, List.set_cons_zero]
          refine then_normal (hK154 _ _ ?_)
          refine wp_ret ?_
          refine bodyPost_ret (v := .bool true) (gRes1 rfl (gResTmp (t := 6) (v := .bool true) (by kernel_rfl))) rfl ?_
          exact ⟨by first | rfl | simp_all, hm167.bel⟩
end Go.Proofs.Ytkfijpghjjnpkaa
