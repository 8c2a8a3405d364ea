/-
  MortonNeighbours: the neighbour of a neighbour, in the opposite direction, is the cell itself; and the least common cube of a cell and its neighbour contains both.
-/
import Derived.Test.YtkfijpghjjnpkaaOE
namespace Go.Proofs.Ytkfijpghjjnpkaa
open Go.RowKit
set_option linter.unusedVariables false
set_option linter.unusedSimpArgs false

set_option maxRecDepth 100000 in
set_option maxHeartbeats 4000000 in
theorem nb_yes (p q : Pt) (axis : Int) (up : Bool) (l S : Nat) (F : Int) (hF : F = mEnc (p.corner l)) (hS : S = 1 * 2 ^ l) (hS1 : S ≤ 16384) (hS2 : S * S ≤ 268435456) (hS3 : S * S * S ≤ 4398046511104) (E1 : mNb (mEnc p) axis up = mEnc q) (E2 : 0 ≤ mEnc q) (E3 : mDec (mEnc q) = (q, true)) (E4 : mNb (mEnc q) axis (!up) = mEnc p) (E5 : mCommon p q = (⟨p.corner l, (l : Int)⟩, true)) (E6 : 0 < l ∧ l ≤ 14) (E7 : -1 ≤ F ∧ F ≤ mEnc p) (E8 : mEnc p < F + ((S * S * S : Nat) : Int)) (E9 : F ≤ mEnc q) (E10 : mEnc q < F + ((S * S * S : Nat) : Int)) (E11 : mEnc p < 4398046511104) (w : World) : Calls Try.prog 8 #[.agg (pcs p).toArray, .int .i64 axis, .bool up] w (RetB w true) := by
  have hm0 := Mem.nil w
  go_enter Try.func8, Try.ntmps8
  refine wp_seq_k fun K1 hK1 => ?_
  refine plStart ?_
  refine plBox hm0 (cs := pcs p) (i := 0) rfl (by kernel_rfl) rfl (by kernel_rfl) ?_
  intro g2 w4 hm3
  clear hm0
  simp only [List.cons_append, List.nil_append, List.set_cons_succ, List.set_cons_zero] at hm3
  simp only [Act.put, List.setIfInBounds_toArray, List.set_cons_succ, List.set_cons_zero]
  refine plVal (i := 1) (v := .bool false) rfl (by kernel_rfl) (by kernel_rfl) ?_
  refine plDone (by decide) ?_
  simp only [Act.put, List.setIfInBounds_toArray, List.set_cons_succ, List.set_cons_zero]
  refine then_normal (hK1 _ _ ?_)
  refine wp_seq_k fun K5 hK5 => ?_
  refine plStart ?_
  refine plVal (i := 0) (v := .agg (pcs p).toArray) rfl (by kernel_rfl) (gLoadAg (vs := pcs p) (k := 0) 0 hm3 rfl (by kernel_rfl) (by kernel_rfl) (.tmp 3) Ty.ag_voxel_api_Point rfl (by kernel_rfl)) ?_
  simp only [Act.put, List.setIfInBounds_toArray, List.set_cons_succ, List.set_cons_zero]
  refine plCall (i := 1) 13 [.agg (pcs p).toArray] [] [] rfl (by kernel_rfl) (by kernel_rfl) rfl (by kernel_rfl) (by kernel_rfl) (encode_any p _) ?_
  rintro e w6 ⟨rfl, hbz⟩
  have hm7 := hm3.below hbz
  clear hbz hm3
  refine ⟨_, rfl, ?_⟩
  simp only [Act.put, List.setIfInBounds_toArray, List.set_cons_succ, List.set_cons_zero]
  refine plVal (i := 2) (v := .int .i64 (mEnc p)) rfl (by kernel_rfl) (by kernel_rfl) ?_
  refine plDone (by decide) ?_
  simp only [Act.put, List.setIfInBounds_toArray, List.set_cons_succ, List.set_cons_zero]
  refine then_normal (hK5 _ _ ?_)
  refine wp_seq_k fun K8 hK8 => ?_
  refine plStart ?_
  refine plVal (i := 0) (v := .int .i64 (mEnc p)) rfl (by kernel_rfl) (by kernel_rfl) ?_
  simp only [Act.put, List.setIfInBounds_toArray, List.set_cons_succ, List.set_cons_zero]
  refine plVal (i := 1) (v := .int .i64 axis) rfl (by kernel_rfl) (by kernel_rfl) ?_
  simp only [Act.put, List.setIfInBounds_toArray, List.set_cons_succ, List.set_cons_zero]
  refine plVal (i := 2) (v := .bool up) rfl (by kernel_rfl) (by kernel_rfl) ?_
  simp only [Act.put, List.setIfInBounds_toArray, List.set_cons_succ, List.set_cons_zero]
  refine plCall (i := 3) 19 [.int .i64 (mEnc p), .int .i64 axis, .bool up] [] [] rfl (by kernel_rfl) (by kernel_rfl) rfl (by kernel_rfl) (by kernel_rfl) (by have h := neighbour_any (mEnc p) axis up w6; rw [E1] at h; exact h) ?_
  rintro e w9 ⟨rfl, hbz⟩
  have hm10 := hm7.below hbz
  clear hbz hm7
  refine ⟨_, rfl, ?_⟩
  simp only [Act.put, List.setIfInBounds_toArray, List.set_cons_succ, List.set_cons_zero]
  refine plVal (i := 4) (v := .int .i64 (mEnc q)) rfl (by kernel_rfl) (by kernel_rfl) ?_
  refine plDone (by decide) ?_
  simp only [Act.put, List.setIfInBounds_toArray, List.set_cons_succ, List.set_cons_zero]
  refine then_normal (hK8 _ _ ?_)
  refine wp_seq_k fun K11 hK11 => ?_
  refine wp_seq_k fun K12 hK12 => ?_
  refine plStart ?_
  refine plVal (i := 0) (v := .int .i64 (mEnc q)) rfl (by kernel_rfl) (by kernel_rfl) ?_
  simp only [Act.put, List.setIfInBounds_toArray, List.set_cons_succ, List.set_cons_zero]
  refine plVal (i := 1) (v := .bool false) rfl (by kernel_rfl) (boolTo (decide_eq_false (Int.not_lt.2 E2)) (lssRun (A := (mEnc q)) (B := 0) (.tmp 21) (.const (.int .i64 0)) rfl (by kernel_rfl) (by kernel_rfl))) ?_
  refine plDone (by decide) ?_
  simp only [Act.put, List.setIfInBounds_toArray, List.set_cons_succ, List.set_cons_zero]
  refine then_normal (hK12 _ _ ?_)
  refine wp_cond_false (by kernel_rfl) ?_
  refine wp_skip ?_
  refine then_normal (hK11 _ _ ?_)
  refine wp_seq_k fun K13 hK13 => ?_
  refine plStart ?_
  refine plVal (i := 0) (v := .int .i64 (mEnc q)) rfl (by kernel_rfl) (by kernel_rfl) ?_
  simp only [Act.put, List.setIfInBounds_toArray, List.set_cons_succ, List.set_cons_zero]
  refine plCall (i := 1) 9 [.int .i64 (mEnc q)] [] [] rfl (by kernel_rfl) (by kernel_rfl) rfl (by kernel_rfl) (by kernel_rfl) (by have h := decode_any (mEnc q) w9; rw [E3] at h; exact h) ?_
  rintro e w14 ⟨rfl, hbz⟩
  have hm15 := hm10.below hbz
  clear hbz hm10
  refine ⟨_, rfl, ?_⟩
  simp only [Act.put, List.setIfInBounds_toArray, List.set_cons_succ, List.set_cons_zero]
  refine plVal (i := 2) (v := .tuple #[.agg (pcs q).toArray, .bool true]) rfl (by kernel_rfl) (by kernel_rfl) ?_
  simp only [Act.put, List.setIfInBounds_toArray, List.set_cons_succ, List.set_cons_zero]
  refine plVal (i := 3) (v := .agg (pcs q).toArray) rfl (by kernel_rfl) (by kernel_rfl) ?_
  simp only [Act.put, List.setIfInBounds_toArray, List.set_cons_succ, List.set_cons_zero]
  refine plVal (i := 4) (v := .bool true) rfl (by kernel_rfl) (by kernel_rfl) ?_
  simp only [Act.put, List.setIfInBounds_toArray, List.set_cons_succ, List.set_cons_zero]
  refine plAlloc (z := [.int .i64 0, .int .i64 0, .int .i64 0]) Ty.ag_voxel_api_Point hm15 (i := 5) rfl (by kernel_rfl) rfl ?_
  intro g16 w18 hm17
  clear hm15
  simp only [List.cons_append, List.nil_append, List.set_cons_succ, List.set_cons_zero] at hm17
  simp only [Act.put, List.setIfInBounds_toArray, List.set_cons_succ, List.set_cons_zero]
  refine plStore 1 Ty.ag_voxel_api_Point hm17 rfl (i := 6) (cs := pcs q) rfl (by kernel_rfl) rfl (by kernel_rfl) (by kernel_rfl) rfl rfl (by kernel_rfl) ?_
  intro w20 hm19
  clear hm17
  simp only [List.cons_append, List.nil_append, List.set_cons_succ, List.set_cons_zero] at hm19
  simp only [Act.put, List.setIfInBounds_toArray, List.set_cons_succ, List.set_cons_zero]
  refine plVal (i := 7) (v := .bool true) rfl (by kernel_rfl) (by kernel_rfl) ?_
  refine plDone (by decide) ?_
  simp only [Act.put, List.setIfInBounds_toArray, List.set_cons_succ, List.set_cons_zero]
  refine then_normal (hK13 _ _ ?_)
  refine wp_seq_k fun K21 hK21 => ?_
  refine plStart ?_
  refine plVal (i := 0) (v := .agg (pcs p).toArray) rfl (by kernel_rfl) (gLoadAg (vs := pcs p) (k := 0) 0 hm19 rfl (by kernel_rfl) (by kernel_rfl) (.tmp 3) Ty.ag_voxel_api_Point rfl (by kernel_rfl)) ?_
  simp only [Act.put, List.setIfInBounds_toArray, List.set_cons_succ, List.set_cons_zero]
  refine plVal (i := 1) (v := .agg (pcs q).toArray) rfl (by kernel_rfl) (gLoadAg (vs := pcs q) (k := 0) 1 hm19 rfl (by kernel_rfl) (by kernel_rfl) (.tmp 9) Ty.ag_voxel_api_Point rfl (by kernel_rfl)) ?_
  simp only [Act.put, List.setIfInBounds_toArray, List.set_cons_succ, List.set_cons_zero]
  refine plCall (i := 2) 11 [.agg (pcs p).toArray, .agg (pcs q).toArray] [] [] rfl (by kernel_rfl) (by kernel_rfl) rfl (by kernel_rfl) (by kernel_rfl) (by have h := common_any p q w20; rw [E5] at h; exact h) ?_
  rintro e w22 ⟨rfl, hbz⟩
  have hm23 := hm19.below hbz
  clear hbz hm19
  refine ⟨_, rfl, ?_⟩
  simp only [Act.put, List.setIfInBounds_toArray, List.set_cons_succ, List.set_cons_zero]
  refine plVal (i := 3) (v := .tuple #[.agg (ccs ⟨p.corner l, (l : Int)⟩).toArray, .bool true]) rfl (by kernel_rfl) (by kernel_rfl) ?_
  simp only [Act.put, List.setIfInBounds_toArray, List.set_cons_succ, List.set_cons_zero]
  refine plVal (i := 4) (v := .agg (ccs ⟨p.corner l, (l : Int)⟩).toArray) rfl (by kernel_rfl) (by kernel_rfl) ?_
  simp only [Act.put, List.setIfInBounds_toArray, List.set_cons_succ, List.set_cons_zero]
  refine plVal (i := 5) (v := .bool true) rfl (by kernel_rfl) (by kernel_rfl) ?_
  simp only [Act.put, List.setIfInBounds_toArray, List.set_cons_succ, List.set_cons_zero]
  refine plAlloc (z := [.int .i64 0, .int .i64 0, .int .i64 0, .int .i64 0]) Ty.ag_voxel_api_Cube hm23 (i := 6) rfl (by kernel_rfl) rfl ?_
  intro g24 w26 hm25
  clear hm23
  simp only [List.cons_append, List.nil_append, List.set_cons_succ, List.set_cons_zero] at hm25
  simp only [Act.put, List.setIfInBounds_toArray, List.set_cons_succ, List.set_cons_zero]
  refine plStore 2 Ty.ag_voxel_api_Cube hm25 rfl (i := 7) (cs := ccs ⟨p.corner l, (l : Int)⟩) rfl (by kernel_rfl) rfl (by kernel_rfl) (by kernel_rfl) rfl rfl (by kernel_rfl) ?_
  intro w28 hm27
  clear hm25
  simp only [List.cons_append, List.nil_append, List.set_cons_succ, List.set_cons_zero] at hm27
  simp only [Act.put, List.setIfInBounds_toArray, List.set_cons_succ, List.set_cons_zero]
  refine plVal (i := 8) (v := .bool true) rfl (by kernel_rfl) (by kernel_rfl) ?_
  refine plDone (by decide) ?_
  simp only [Act.put, List.setIfInBounds_toArray, List.set_cons_succ, List.set_cons_zero]
  refine then_normal (hK21 _ _ ?_)
  refine wp_seq_k fun K29 hK29 => ?_
  refine wp_seq_k fun K30 hK30 => ?_
  refine plStart ?_
  refine plVal (i := 0) (v := .bool true) rfl (by kernel_rfl) (by kernel_rfl) ?_
  simp only [Act.put, List.setIfInBounds_toArray, List.set_cons_succ, List.set_cons_zero]
  refine plVal (i := 1) (v := .bool false) rfl (by kernel_rfl) (by kernel_rfl) ?_
  simp only [Act.put, List.setIfInBounds_toArray, List.set_cons_succ, List.set_cons_zero]
  refine plVal (i := 2) (v := .bool false) rfl (by kernel_rfl) (by kernel_rfl) ?_
  simp only [Act.put, List.setIfInBounds_toArray, List.set_cons_succ, List.set_cons_zero]
  refine plVal (i := 3) (v := .bool true) rfl (by kernel_rfl) (by kernel_rfl) ?_
  simp only [Act.put, List.setIfInBounds_toArray, List.set_cons_succ, List.set_cons_zero]
  refine plVal (i := 4) (v := .bool false) rfl (by kernel_rfl) (by kernel_rfl) ?_
  simp only [Act.put, List.setIfInBounds_toArray, List.set_cons_succ, List.set_cons_zero]
  refine plVal (i := 5) (v := .bool false) rfl (by kernel_rfl) (by kernel_rfl) ?_
  simp only [Act.put, List.setIfInBounds_toArray, List.set_cons_succ, List.set_cons_zero]
  refine plVal (i := 6) (v := .bool false) rfl (by kernel_rfl) (by kernel_rfl) ?_
  simp only [Act.put, List.setIfInBounds_toArray, List.set_cons_succ, List.set_cons_zero]
  refine plVal (i := 7) (v := .int .i64 (mEnc q)) rfl (by kernel_rfl) (by kernel_rfl) ?_
  simp only [Act.put, List.setIfInBounds_toArray, List.set_cons_succ, List.set_cons_zero]
  refine plVal (i := 8) (v := .int .i64 axis) rfl (by kernel_rfl) (by kernel_rfl) ?_
  simp only [Act.put, List.setIfInBounds_toArray, List.set_cons_succ, List.set_cons_zero]
  refine plVal (i := 9) (v := .bool up) rfl (by kernel_rfl) (by kernel_rfl) ?_
  simp only [Act.put, List.setIfInBounds_toArray, List.set_cons_succ, List.set_cons_zero]
  refine plVal (i := 10) (v := .bool (!up)) rfl (by kernel_rfl) (by kernel_rfl) ?_
  simp only [Act.put, List.setIfInBounds_toArray, List.set_cons_succ, List.set_cons_zero]
  refine plCall (i := 11) 19 [.int .i64 (mEnc q), .int .i64 axis, .bool (!up)] [] [] rfl (by kernel_rfl) (by kernel_rfl) rfl (by kernel_rfl) (by kernel_rfl) (by have h := neighbour_any (mEnc q) axis (!up) w28; rw [E4] at h; exact h) ?_
  rintro e w31 ⟨rfl, hbz⟩
  have hm32 := hm27.below hbz
  clear hbz hm27
  refine ⟨_, rfl, ?_⟩
  simp only [Act.put, List.setIfInBounds_toArray, List.set_cons_succ, List.set_cons_zero]
  refine plVal (i := 12) (v := .int .i64 (mEnc p)) rfl (by kernel_rfl) (by kernel_rfl) ?_
  simp only [Act.put, List.setIfInBounds_toArray, List.set_cons_succ, List.set_cons_zero]
  refine plVal (i := 13) (v := .bool false) rfl (by kernel_rfl) (boolTo (by simp) (neqRun (A := (mEnc p)) (B := (mEnc p)) (.tmp 50) (.tmp 51) rfl (by kernel_rfl) (by kernel_rfl))) ?_
  simp only [Act.put, List.setIfInBounds_toArray, List.set_cons_succ, List.set_cons_zero]
  refine plVal (i := 14) (v := .bool false) rfl (by kernel_rfl) (by kernel_rfl) ?_
  refine plDone (by decide) ?_
  simp only [Act.put, List.setIfInBounds_toArray, List.set_cons_succ, List.set_cons_zero]
  refine then_normal (hK30 _ _ ?_)
  refine wp_cond_false (by kernel_rfl) ?_
  refine wp_skip ?_
  refine then_normal (hK29 _ _ ?_)
  refine wp_seq_k fun K33 hK33 => ?_
  refine plStart ?_
  refine plVal (i := 0) (v := .pointer (some ⟨g24, 3, none⟩)) rfl (by kernel_rfl) (by kernel_rfl) ?_
  simp only [Act.put, List.setIfInBounds_toArray, List.set_cons_succ, List.set_cons_zero]
  refine plVal (i := 1) (v := .int .i64 (l : Int)) rfl (by kernel_rfl) (gLoad (v := .int .i64 (l : Int)) (k := 3) 2 hm32 rfl (by kernel_rfl) (.tmp 54) (by kernel_rfl) rfl (by kernel_rfl)) ?_
  simp only [Act.put, List.setIfInBounds_toArray, List.set_cons_succ, List.set_cons_zero]
  refine plVal (i := 2) (v := .int .i64 (S : Int)) rfl (by kernel_rfl) (shlZ hS (.const (.int .i64 1)) (.tmp 55) rfl (by kernel_rfl) (by kernel_rfl) (by omega) (by omega)) ?_
  simp only [Act.put, List.setIfInBounds_toArray, List.set_cons_succ, List.set_cons_zero]
  refine plVal (i := 3) (v := .int .i64 (S : Int)) rfl (by kernel_rfl) (by kernel_rfl) ?_
  refine plDone (by decide) ?_
  simp only [Act.put, List.setIfInBounds_toArray, List.set_cons_succ, List.set_cons_zero]
  refine then_normal (hK33 _ _ ?_)
  refine wp_seq_k fun K34 hK34 => ?_
  refine plStart ?_
  refine plVal (i := 0) (v := .pointer (some ⟨g24, 0, none⟩)) rfl (by kernel_rfl) (by kernel_rfl) ?_
  simp only [Act.put, List.setIfInBounds_toArray, List.set_cons_succ, List.set_cons_zero]
  refine plVal (i := 1) (v := .agg ([.int .i64 ((p.corner l).x), .int .i64 ((p.corner l).y), .int .i64 ((p.corner l).z)]).toArray) rfl (by kernel_rfl) (gLoadAg (vs := [.int .i64 ((p.corner l).x), .int .i64 ((p.corner l).y), .int .i64 ((p.corner l).z)]) (k := 0) 2 hm32 rfl (by kernel_rfl) (by kernel_rfl) (.tmp 57) Ty.ag_voxel_api_Point rfl (by kernel_rfl)) ?_
  simp only [Act.put, List.setIfInBounds_toArray, List.set_cons_succ, List.set_cons_zero]
  refine plCall (i := 2) 13 [.agg ([.int .i64 ((p.corner l).x), .int .i64 ((p.corner l).y), .int .i64 ((p.corner l).z)]).toArray] [] [] rfl (by kernel_rfl) (by kernel_rfl) rfl (by kernel_rfl) (by kernel_rfl) (by have h := encode_any (p.corner l) w31; rw [← hF] at h; exact h) ?_
  rintro e w35 ⟨rfl, hbz⟩
  have hm36 := hm32.below hbz
  clear hbz hm32
  refine ⟨_, rfl, ?_⟩
  simp only [Act.put, List.setIfInBounds_toArray, List.set_cons_succ, List.set_cons_zero]
  refine plVal (i := 3) (v := .int .i64 F) rfl (by kernel_rfl) (by kernel_rfl) ?_
  refine plDone (by decide) ?_
  simp only [Act.put, List.setIfInBounds_toArray, List.set_cons_succ, List.set_cons_zero]
  refine then_normal (hK34 _ _ ?_)
  refine wp_seq_k fun K37 hK37 => ?_
  refine plStart ?_
  refine plCall (i := 0) 21 [] [] [] rfl (by kernel_rfl) (by kernel_rfl) rfl (by kernel_rfl) (by kernel_rfl) (sanity_any _) ?_
  rintro e w38 ⟨rfl, hbz⟩
  have hm39 := hm36.below hbz
  clear hbz hm36
  refine ⟨_, rfl, ?_⟩
  simp only [Act.put, List.setIfInBounds_toArray, List.set_cons_succ, List.set_cons_zero]
  refine plVal (i := 1) (v := .bool true) rfl (by kernel_rfl) (by kernel_rfl) ?_
  simp only [Act.put, List.setIfInBounds_toArray, List.set_cons_succ, List.set_cons_zero]
  refine plVal (i := 2) (v := .pointer (some ⟨g24, 3, none⟩)) rfl (by kernel_rfl) (by kernel_rfl) ?_
  simp only [Act.put, List.setIfInBounds_toArray, List.set_cons_succ, List.set_cons_zero]
  refine plVal (i := 3) (v := .int .i64 (l : Int)) rfl (by kernel_rfl) (gLoad (v := .int .i64 (l : Int)) (k := 3) 2 hm39 rfl (by kernel_rfl) (.tmp 62) (by kernel_rfl) rfl (by kernel_rfl)) ?_
  simp only [Act.put, List.setIfInBounds_toArray, List.set_cons_succ, List.set_cons_zero]
  refine plVal (i := 4) (v := .bool true) rfl (by kernel_rfl) (boolTo (decide_eq_true (by omega)) (gtrRun (A := (l : Int)) (B := 0) (.tmp 63) (.const (.int .i64 0)) rfl (by kernel_rfl) (by kernel_rfl))) ?_
  simp only [Act.put, List.setIfInBounds_toArray, List.set_cons_succ, List.set_cons_zero]
  refine plVal (i := 5) (v := .bool true) rfl (by kernel_rfl) (by kernel_rfl) ?_
  simp only [Act.put, List.setIfInBounds_toArray, List.set_cons_succ, List.set_cons_zero]
  refine plVal (i := 6) (v := .bool true) rfl (by kernel_rfl) (by kernel_rfl) ?_
  simp only [Act.put, List.setIfInBounds_toArray, List.set_cons_succ, List.set_cons_zero]
  refine plVal (i := 7) (v := .int .i64 (mEnc p)) rfl (by kernel_rfl) (by kernel_rfl) ?_
  simp only [Act.put, List.setIfInBounds_toArray, List.set_cons_succ, List.set_cons_zero]
  refine plVal (i := 8) (v := .int .i64 F) rfl (by kernel_rfl) (by kernel_rfl) ?_
  simp only [Act.put, List.setIfInBounds_toArray, List.set_cons_succ, List.set_cons_zero]
  refine plVal (i := 9) (v := .bool true) rfl (by kernel_rfl) (boolTo (decide_eq_true (by omega)) (gGeq (A := (mEnc p)) (B := F) (.tmp 67) (.tmp 68) rfl (by kernel_rfl) (by kernel_rfl))) ?_
  simp only [Act.put, List.setIfInBounds_toArray, List.set_cons_succ, List.set_cons_zero]
  refine plVal (i := 10) (v := .bool true) rfl (by kernel_rfl) (by kernel_rfl) ?_
  simp only [Act.put, List.setIfInBounds_toArray, List.set_cons_succ, List.set_cons_zero]
  refine plVal (i := 11) (v := .bool true) rfl (by kernel_rfl) (by kernel_rfl) ?_
  simp only [Act.put, List.setIfInBounds_toArray, List.set_cons_succ, List.set_cons_zero]
  refine plVal (i := 12) (v := .int .i64 (mEnc q)) rfl (by kernel_rfl) (by kernel_rfl) ?_
  simp only [Act.put, List.setIfInBounds_toArray, List.set_cons_succ, List.set_cons_zero]
  refine plVal (i := 13) (v := .int .i64 F) rfl (by kernel_rfl) (by kernel_rfl) ?_
  simp only [Act.put, List.setIfInBounds_toArray, List.set_cons_succ, List.set_cons_zero]
  refine plVal (i := 14) (v := .bool true) rfl (by kernel_rfl) (boolTo (decide_eq_true (by omega)) (gGeq (A := (mEnc q)) (B := F) (.tmp 72) (.tmp 73) rfl (by kernel_rfl) (by kernel_rfl))) ?_
  simp only [Act.put, List.setIfInBounds_toArray, List.set_cons_succ, List.set_cons_zero]
  refine plVal (i := 15) (v := .bool true) rfl (by kernel_rfl) (by kernel_rfl) ?_
  simp only [Act.put, List.setIfInBounds_toArray, List.set_cons_succ, List.set_cons_zero]
  refine plVal (i := 16) (v := .bool true) rfl (by kernel_rfl) (by kernel_rfl) ?_
  simp only [Act.put, List.setIfInBounds_toArray, List.set_cons_succ, List.set_cons_zero]
  refine plVal (i := 17) (v := .int .i64 (mEnc p)) rfl (by kernel_rfl) (by kernel_rfl) ?_
  simp only [Act.put, List.setIfInBounds_toArray, List.set_cons_succ, List.set_cons_zero]
  refine plVal (i := 18) (v := .int .i64 F) rfl (by kernel_rfl) (by kernel_rfl) ?_
  simp only [Act.put, List.setIfInBounds_toArray, List.set_cons_succ, List.set_cons_zero]
  refine plVal (i := 19) (v := .int .i64 (S : Int)) rfl (by kernel_rfl) (by kernel_rfl) ?_
  simp only [Act.put, List.setIfInBounds_toArray, List.set_cons_succ, List.set_cons_zero]
  refine plVal (i := 20) (v := .int .i64 (S : Int)) rfl (by kernel_rfl) (by kernel_rfl) ?_
  simp only [Act.put, List.setIfInBounds_toArray, List.set_cons_succ, List.set_cons_zero]
  refine plVal (i := 21) (v := .int .i64 ((S * S : Nat) : Int)) rfl (by kernel_rfl) (mulRun (A := (S : Int)) (B := (S : Int)) (C := ((S * S : Nat) : Int)) (.tmp 79) (.tmp 80) rfl (by kernel_rfl) (by kernel_rfl) (Int.natCast_mul S S).symm (by omega)) ?_
  simp only [Act.put, List.setIfInBounds_toArray, List.set_cons_succ, List.set_cons_zero]
  refine plVal (i := 22) (v := .int .i64 (S : Int)) rfl (by kernel_rfl) (by kernel_rfl) ?_
  simp only [Act.put, List.setIfInBounds_toArray, List.set_cons_succ, List.set_cons_zero]
  refine plVal (i := 23) (v := .int .i64 ((S * S * S : Nat) : Int)) rfl (by kernel_rfl) (mulRun (A := ((S * S : Nat) : Int)) (B := (S : Int)) (C := ((S * S * S : Nat) : Int)) (.tmp 81) (.tmp 82) rfl (by kernel_rfl) (by kernel_rfl) (Int.natCast_mul (S * S) S).symm (by omega)) ?_
  simp only [Act.put, List.setIfInBounds_toArray, List.set_cons_succ, List.set_cons_zero]
  refine plVal (i := 24) (v := .int .i64 (F + ((S * S * S : Nat) : Int))) rfl (by kernel_rfl) (addRun (A := F) (B := ((S * S * S : Nat) : Int)) (C := F + ((S * S * S : Nat) : Int)) (.tmp 78) (.tmp 83) rfl (by kernel_rfl) (by kernel_rfl) rfl (by omega)) ?_
  simp only [Act.put, List.setIfInBounds_toArray, List.set_cons_succ, List.set_cons_zero]
  refine plVal (i := 25) (v := .bool true) rfl (by kernel_rfl) (boolTo (decide_eq_true (by omega)) (lssRun (A := (mEnc p)) (B := (F + ((S * S * S : Nat) : Int))) (.tmp 77) (.tmp 84) rfl (by kernel_rfl) (by kernel_rfl))) ?_
  simp only [Act.put, List.setIfInBounds_toArray, List.set_cons_succ, List.set_cons_zero]
  refine plVal (i := 26) (v := .bool true) rfl (by kernel_rfl) (by kernel_rfl) ?_
  simp only [Act.put, List.setIfInBounds_toArray, List.set_cons_succ, List.set_cons_zero]
  refine plVal (i := 27) (v := .bool true) rfl (by kernel_rfl) (by kernel_rfl) ?_
  simp only [Act.put, List.setIfInBounds_toArray, List.set_cons_succ, List.set_cons_zero]
  refine plVal (i := 28) (v := .int .i64 (mEnc q)) rfl (by kernel_rfl) (by kernel_rfl) ?_
  simp only [Act.put, List.setIfInBounds_toArray, List.set_cons_succ, List.set_cons_zero]
  refine plVal (i := 29) (v := .int .i64 F) rfl (by kernel_rfl) (by kernel_rfl) ?_
  simp only [Act.put, List.setIfInBounds_toArray, List.set_cons_succ, List.set_cons_zero]
  refine plVal (i := 30) (v := .int .i64 (S : Int)) rfl (by kernel_rfl) (by kernel_rfl) ?_
  simp only [Act.put, List.setIfInBounds_toArray, List.set_cons_succ, List.set_cons_zero]
  refine plVal (i := 31) (v := .int .i64 (S : Int)) rfl (by kernel_rfl) (by kernel_rfl) ?_
  simp only [Act.put, List.setIfInBounds_toArray, List.set_cons_succ, List.set_cons_zero]
  refine plVal (i := 32) (v := .int .i64 ((S * S : Nat) : Int)) rfl (by kernel_rfl) (mulRun (A := (S : Int)) (B := (S : Int)) (C := ((S * S : Nat) : Int)) (.tmp 90) (.tmp 91) rfl (by kernel_rfl) (by kernel_rfl) (Int.natCast_mul S S).symm (by omega)) ?_
  simp only [Act.put, List.setIfInBounds_toArray, List.set_cons_succ, List.set_cons_zero]
  refine plVal (i := 33) (v := .int .i64 (S : Int)) rfl (by kernel_rfl) (by kernel_rfl) ?_
  simp only [Act.put, List.setIfInBounds_toArray, List.set_cons_succ, List.set_cons_zero]
  refine plVal (i := 34) (v := .int .i64 ((S * S * S : Nat) : Int)) rfl (by kernel_rfl) (mulRun (A := ((S * S : Nat) : Int)) (B := (S : Int)) (C := ((S * S * S : Nat) : Int)) (.tmp 92) (.tmp 93) rfl (by kernel_rfl) (by kernel_rfl) (Int.natCast_mul (S * S) S).symm (by omega)) ?_
  simp only [Act.put, List.setIfInBounds_toArray, List.set_cons_succ, List.set_cons_zero]
  refine plVal (i := 35) (v := .int .i64 (F + ((S * S * S : Nat) : Int))) rfl (by kernel_rfl) (addRun (A := F) (B := ((S * S * S : Nat) : Int)) (C := F + ((S * S * S : Nat) : Int)) (.tmp 89) (.tmp 94) rfl (by kernel_rfl) (by kernel_rfl) rfl (by omega)) ?_
  simp only [Act.put, List.setIfInBounds_toArray, List.set_cons_succ, List.set_cons_zero]
  refine plVal (i := 36) (v := .bool true) rfl (by kernel_rfl) (boolTo (decide_eq_true (by omega)) (lssRun (A := (mEnc q)) (B := (F + ((S * S * S : Nat) : Int))) (.tmp 88) (.tmp 95) rfl (by kernel_rfl) (by kernel_rfl))) ?_
  simp only [Act.put, List.setIfInBounds_toArray, List.set_cons_succ, List.set_cons_zero]
  refine plVal (i := 37) (v := .bool true) rfl (by kernel_rfl) (by kernel_rfl) ?_
  simp only [Act.put, List.setIfInBounds_toArray, List.set_cons_succ, List.set_cons_zero]
  refine plVal (i := 38) (v := .bool true) rfl (by kernel_rfl) (by kernel_rfl) ?_
  refine plDone (by decide) ?_
  simp only [Act.put, List.setIfInBounds_toArray, List.set_cons_succ, List.set_cons_zero]
  refine then_normal (hK37 _ _ ?_)
  refine wp_ret ?_
  refine bodyPost_ret (v := .bool true) (gRes1 rfl (gResTmp (t := 6) (v := .bool true) (by kernel_rfl))) rfl ?_
  exact ⟨by first | rfl | simp_all, hm39.bel⟩
set_option maxRecDepth 100000 in
set_option maxHeartbeats 4000000 in
theorem nb_no (p : Pt) (axis : Int) (up : Bool) (E1 : mNb (mEnc p) axis up = -1) (w : World) : Calls Try.prog 8 #[.agg (pcs p).toArray, .int .i64 axis, .bool up] w (RetB w true) := by
  have hm0 := Mem.nil w
  go_enter Try.func8, Try.ntmps8
  refine wp_seq_k fun K1 hK1 => ?_
  refine plStart ?_
  refine plBox hm0 (cs := pcs p) (i := 0) rfl (by kernel_rfl) rfl (by kernel_rfl) ?_
  intro g2 w4 hm3
  clear hm0
  simp only [List.cons_append, List.nil_append, List.set_cons_succ, List.set_cons_zero] at hm3
  simp only [Act.put, List.setIfInBounds_toArray, List.set_cons_succ, List.set_cons_zero]
  refine plVal (i := 1) (v := .bool false) rfl (by kernel_rfl) (by kernel_rfl) ?_
  refine plDone (by decide) ?_
  simp only [Act.put, List.setIfInBounds_toArray, List.set_cons_succ, List.set_cons_zero]
  refine then_normal (hK1 _ _ ?_)
  refine wp_seq_k fun K5 hK5 => ?_
  refine plStart ?_
  refine plVal (i := 0) (v := .agg (pcs p).toArray) rfl (by kernel_rfl) (gLoadAg (vs := pcs p) (k := 0) 0 hm3 rfl (by kernel_rfl) (by kernel_rfl) (.tmp 3) Ty.ag_voxel_api_Point rfl (by kernel_rfl)) ?_
  simp only [Act.put, List.setIfInBounds_toArray, List.set_cons_succ, List.set_cons_zero]
  refine plCall (i := 1) 13 [.agg (pcs p).toArray] [] [] rfl (by kernel_rfl) (by kernel_rfl) rfl (by kernel_rfl) (by kernel_rfl) (encode_any p _) ?_
  rintro e w6 ⟨rfl, hbz⟩
  have hm7 := hm3.below hbz
  clear hbz hm3
  refine ⟨_, rfl, ?_⟩
  simp only [Act.put, List.setIfInBounds_toArray, List.set_cons_succ, List.set_cons_zero]
  refine plVal (i := 2) (v := .int .i64 (mEnc p)) rfl (by kernel_rfl) (by kernel_rfl) ?_
  refine plDone (by decide) ?_
  simp only [Act.put, List.setIfInBounds_toArray, List.set_cons_succ, List.set_cons_zero]
  refine then_normal (hK5 _ _ ?_)
  refine wp_seq_k fun K8 hK8 => ?_
  refine plStart ?_
  refine plVal (i := 0) (v := .int .i64 (mEnc p)) rfl (by kernel_rfl) (by kernel_rfl) ?_
  simp only [Act.put, List.setIfInBounds_toArray, List.set_cons_succ, List.set_cons_zero]
  refine plVal (i := 1) (v := .int .i64 axis) rfl (by kernel_rfl) (by kernel_rfl) ?_
  simp only [Act.put, List.setIfInBounds_toArray, List.set_cons_succ, List.set_cons_zero]
  refine plVal (i := 2) (v := .bool up) rfl (by kernel_rfl) (by kernel_rfl) ?_
  simp only [Act.put, List.setIfInBounds_toArray, List.set_cons_succ, List.set_cons_zero]
  refine plCall (i := 3) 19 [.int .i64 (mEnc p), .int .i64 axis, .bool up] [] [] rfl (by kernel_rfl) (by kernel_rfl) rfl (by kernel_rfl) (by kernel_rfl) (by have h := neighbour_any (mEnc p) axis up w6; rw [E1] at h; exact h) ?_
  rintro e w9 ⟨rfl, hbz⟩
  have hm10 := hm7.below hbz
  clear hbz hm7
  refine ⟨_, rfl, ?_⟩
  simp only [Act.put, List.setIfInBounds_toArray, List.set_cons_succ, List.set_cons_zero]
  refine plVal (i := 4) (v := .int .i64 (-1)) rfl (by kernel_rfl) (by kernel_rfl) ?_
  refine plDone (by decide) ?_
  simp only [Act.put, List.setIfInBounds_toArray, List.set_cons_succ, List.set_cons_zero]
  refine then_normal (hK8 _ _ ?_)
  refine wp_seq_k fun K11 hK11 => ?_
  refine wp_seq_k fun K12 hK12 => ?_
  refine plStart ?_
  refine plVal (i := 0) (v := .int .i64 (-1)) rfl (by kernel_rfl) (by kernel_rfl) ?_
  simp only [Act.put, List.setIfInBounds_toArray, List.set_cons_succ, List.set_cons_zero]
  refine plVal (i := 1) (v := .bool true) rfl (by kernel_rfl) (by kernel_rfl) ?_
  refine plDone (by decide) ?_
  simp only [Act.put, List.setIfInBounds_toArray, List.set_cons_succ, List.set_cons_zero]
  refine then_normal (hK12 _ _ ?_)
  refine wp_cond_true (by kernel_rfl) ?_
  refine wp_seq_k fun K13 hK13 => ?_
  refine plStart ?_
  refine plCall (i := 0) 21 [] [] [] rfl (by kernel_rfl) (by kernel_rfl) rfl (by kernel_rfl) (by kernel_rfl) (sanity_any _) ?_
  rintro e w14 ⟨rfl, hbz⟩
  have hm15 := hm10.below hbz
  clear hbz hm10
  refine ⟨_, rfl, ?_⟩
  simp only [Act.put, List.setIfInBounds_toArray, List.set_cons_succ, List.set_cons_zero]
  refine plVal (i := 1) (v := .bool true) rfl (by kernel_rfl) (by kernel_rfl) ?_
  simp only [Act.put, List.setIfInBounds_toArray, List.set_cons_succ, List.set_cons_zero]
  refine plVal (i := 2) (v := .int .i64 (-1)) rfl (by kernel_rfl) (by kernel_rfl) ?_
  simp only [Act.put, List.setIfInBounds_toArray, List.set_cons_succ, List.set_cons_zero]
  refine plVal (i := 3) (v := .bool true) rfl (by kernel_rfl) (by kernel_rfl) ?_
  simp only [Act.put, List.setIfInBounds_toArray, List.set_cons_succ, List.set_cons_zero]
  refine plVal (i := 4) (v := .bool true) rfl (by kernel_rfl) (by kernel_rfl) ?_
  simp only [Act.put, List.setIfInBounds_toArray, List.set_cons_succ, List.set_cons_zero]
  refine plVal (i := 5) (v := .bool true) rfl (by kernel_rfl) (by kernel_rfl) ?_
  refine plDone (by decide) ?_
  simp only [Act.put, List.setIfInBounds_toArray, List.set_cons_succ, List.set_cons_zero]
  refine then_normal (hK13 _ _ ?_)
  refine wp_ret ?_
  refine then_ret ?_
  refine bodyPost_ret (v := .bool true) (gRes1 rfl (gResTmp (t := 6) (v := .bool true) (by kernel_rfl))) rfl ?_
  exact ⟨by first | rfl | simp_all, hm15.bel⟩
theorem walk_MortonNeighbours (p : Pt) (axis : Int) (up : Bool) (w : World) (_b0 : -9223372036854775808 ≤ p.x ∧ p.x ≤ 9223372036854775807) (_b1 : -9223372036854775808 ≤ p.y ∧ p.y ≤ 9223372036854775807) (_b2 : -9223372036854775808 ≤ p.z ∧ p.z ≤ 9223372036854775807) (_b3 : -9223372036854775808 ≤ axis ∧ axis ≤ 9223372036854775807) : Calls Try.prog 8 #[.agg (pcs p).toArray, .int .i64 axis, .bool up] w (RetB w true) := by
  rcases nb_case p axis up with h | ⟨q, l, e1, e2, e3, e4, e5, e6, e7, e8, e9, e10, e11, e12, e13⟩
  · exact nb_no p axis up h w
  · have hS1 := cube_side e7
    have hS3 := cube_size l
    have hF1 : -1 ≤ mEnc (p.corner l) := by
      by_cases hp : (p.corner l).In
      · have := (mEnc_in hp).1; omega
      · rw [mEnc_out hp]; omega
    have h8 : 8 ^ l ≤ 8 ^ 14 := Nat.pow_le_pow_right (by decide) e7
    rw [← hS3] at e9 e11 h8
    exact nb_yes p q axis up l (1 * 2 ^ l) _ rfl rfl hS1 (Nat.mul_le_mul hS1 hS1) h8 e1 e2 e3 e4 e5 ⟨e6, e7⟩ ⟨hF1, e8⟩ e9 e10 e11 e12 w
end Go.Proofs.Ytkfijpghjjnpkaa
