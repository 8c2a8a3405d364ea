/-
  MortonNextVisits: Next, called again and again, each time with the last code plus 1, visits exactly as many codes as the box has cells, all of them cells of the box, in increasing order (boxes with sizes of at most 10).
-/
import Derived.Test.YtkfijpghjjnpkaaOE
import Derived.Test.YtkfijpghjjnpkaaOF
namespace Go.Proofs.Ytkfijpghjjnpkaa
open Go.RowKit
set_option linter.unusedVariables false
set_option linter.unusedSimpArgs false

open Go.RowKit
set_option maxRecDepth 100000 in
set_option maxHeartbeats 4000000 in
theorem visit_yes (b : Bx) (hs : b.small) (hw : wrap64 (b.mx.x - b.mn.x) ≤ 10 ∧ wrap64 (b.mx.y - b.mn.y) ≤ 10 ∧ wrap64 (b.mx.z - b.mn.z) ≤ 10) (hlow : (-100000 ≤ b.mn.x ∧ b.mx.x ≤ 100000) ∧ (-100000 ≤ b.mn.y ∧ b.mx.y ≤ 100000) ∧ (-100000 ≤ b.mn.z ∧ b.mx.z ≤ 100000)) (hd : (b.mx.x - b.mn.x).toNat ≤ 10 ∧ (b.mx.y - b.mn.y).toNat ≤ 10 ∧ (b.mx.z - b.mn.z).toNat ≤ 10) (w : World) : Calls Try.prog 7 #[.agg (bxs b).toArray] w (RetB w true) := by
  obtain ⟨hw1, hw2, hw3⟩ := hw
  obtain ⟨hl1, hl2, hl3⟩ := hlow
  obtain ⟨hd1, hd2, hd3⟩ := hd
  have hm0 := Mem.nil w
  go_enter Try.func7, Try.ntmps7
  refine wp_seq_k fun K1 hK1 => ?_
  refine plStart ?_
  refine plBox hm0 (cs := bxs b) (i := 0) rfl (by kernel_rfl) rfl (by kernel_rfl) ?_
  intro g2 w4 hm3
  clear hm0
  simp only [List.cons_append, List.nil_append, List.set_cons_succ, List.set_cons_zero] at hm3
  simp only [Act.put, List.setIfInBounds_toArray, List.set_cons_succ, List.set_cons_zero]
  refine plVal (i := 1) (v := .bool false) rfl (by kernel_rfl) (by kernel_rfl) ?_
  refine plDone (by decide) ?_
  simp only [Act.put, List.setIfInBounds_toArray, List.set_cons_succ, List.set_cons_zero]
  refine then_normal (hK1 _ _ ?_)
  refine wp_seq_k fun K5 hK5 => ?_
  refine plStart ?_
  refine plVal (i := 0) (v := .agg (bxs b).toArray) rfl (by kernel_rfl) (gLoadAg (vs := bxs b) (k := 0) 0 hm3 rfl (by kernel_rfl) (by kernel_rfl) (.tmp 1) Ty.ag_voxel_api_Box rfl (by kernel_rfl)) ?_
  simp only [Act.put, List.setIfInBounds_toArray, List.set_cons_succ, List.set_cons_zero]
  refine plCall (i := 1) 31 [.agg (bxs b).toArray] [] [] rfl (by kernel_rfl) (by kernel_rfl) rfl (by kernel_rfl) (by kernel_rfl) (small_any b _) ?_
  rintro e w6 ⟨rfl, hbz⟩
  have hm7 := hm3.below hbz
  clear hbz hm3
  rw [(decide_eq_true hs)]
  refine ⟨_, rfl, ?_⟩
  simp only [Act.put, List.setIfInBounds_toArray, List.set_cons_succ, List.set_cons_zero]
  refine plVal (i := 2) (v := .bool true) rfl (by kernel_rfl) (by kernel_rfl) ?_
  refine plDone (by decide) ?_
  simp only [Act.put, List.setIfInBounds_toArray, List.set_cons_succ, List.set_cons_zero]
  refine then_normal (hK5 _ _ ?_)
  refine wp_seq_k fun K8 hK8 => ?_
  refine wp_seq_k fun K9 hK9 => ?_
  refine plStart ?_
  refine plVal (i := 0) (v := .bool true) rfl (by kernel_rfl) (by kernel_rfl) ?_
  simp only [Act.put, List.setIfInBounds_toArray, List.set_cons_succ, List.set_cons_zero]
  refine plVal (i := 1) (v := .bool false) rfl (by kernel_rfl) (by kernel_rfl) ?_
  simp only [Act.put, List.setIfInBounds_toArray, List.set_cons_succ, List.set_cons_zero]
  refine plVal (i := 2) (v := .bool false) rfl (by kernel_rfl) (by kernel_rfl) ?_
  simp only [Act.put, List.setIfInBounds_toArray, List.set_cons_succ, List.set_cons_zero]
  refine plVal (i := 3) (v := .pointer (some ⟨g2, 3, none⟩)) rfl (by kernel_rfl) (by kernel_rfl) ?_
  simp only [Act.put, List.setIfInBounds_toArray, List.set_cons_succ, List.set_cons_zero]
  refine plVal (i := 4) (v := .pointer (some ⟨g2, 3, none⟩)) rfl (by kernel_rfl) (by kernel_rfl) ?_
  simp only [Act.put, List.setIfInBounds_toArray, List.set_cons_succ, List.set_cons_zero]
  refine plVal (i := 5) (v := .int .i64 b.mx.x) rfl (by kernel_rfl) (gLoad (v := .int .i64 b.mx.x) (k := 3) 0 hm7 rfl (by kernel_rfl) (.tmp 21) (by kernel_rfl) rfl (by kernel_rfl)) ?_
  simp only [Act.put, List.setIfInBounds_toArray, List.set_cons_succ, List.set_cons_zero]
  refine plVal (i := 6) (v := .pointer (some ⟨g2, 0, none⟩)) rfl (by kernel_rfl) (by kernel_rfl) ?_
  simp only [Act.put, List.setIfInBounds_toArray, List.set_cons_succ, List.set_cons_zero]
  refine plVal (i := 7) (v := .pointer (some ⟨g2, 0, none⟩)) rfl (by kernel_rfl) (by kernel_rfl) ?_
  simp only [Act.put, List.setIfInBounds_toArray, List.set_cons_succ, List.set_cons_zero]
  refine plVal (i := 8) (v := .int .i64 b.mn.x) rfl (by kernel_rfl) (gLoad (v := .int .i64 b.mn.x) (k := 0) 0 hm7 rfl (by kernel_rfl) (.tmp 24) (by kernel_rfl) rfl (by kernel_rfl)) ?_
  simp only [Act.put, List.setIfInBounds_toArray, List.set_cons_succ, List.set_cons_zero]
  refine plVal (i := 9) (v := .int .i64 (wrap64 (b.mx.x - b.mn.x))) rfl (by kernel_rfl) (gSubW (A := b.mx.x) (B := b.mn.x) (.tmp 22) (.tmp 25) rfl (by kernel_rfl) (by kernel_rfl)) ?_
  simp only [Act.put, List.setIfInBounds_toArray, List.set_cons_succ, List.set_cons_zero]
  refine plVal (i := 10) (v := .bool false) rfl (by kernel_rfl) (boolTo (decide_eq_false (by omega)) (gtrRun (A := (wrap64 (b.mx.x - b.mn.x))) (B := 10) (.tmp 26) (.const (.int .i64 10)) rfl (by kernel_rfl) (by kernel_rfl))) ?_
  simp only [Act.put, List.setIfInBounds_toArray, List.set_cons_succ, List.set_cons_zero]
  refine plVal (i := 11) (v := .bool false) rfl (by kernel_rfl) (by kernel_rfl) ?_
  simp only [Act.put, List.setIfInBounds_toArray, List.set_cons_succ, List.set_cons_zero]
  refine plVal (i := 12) (v := .bool false) rfl (by kernel_rfl) (by kernel_rfl) ?_
  simp only [Act.put, List.setIfInBounds_toArray, List.set_cons_succ, List.set_cons_zero]
  refine plVal (i := 13) (v := .pointer (some ⟨g2, 3, none⟩)) rfl (by kernel_rfl) (by kernel_rfl) ?_
  simp only [Act.put, List.setIfInBounds_toArray, List.set_cons_succ, List.set_cons_zero]
  refine plVal (i := 14) (v := .pointer (some ⟨g2, 4, none⟩)) rfl (by kernel_rfl) (by kernel_rfl) ?_
  simp only [Act.put, List.setIfInBounds_toArray, List.set_cons_succ, List.set_cons_zero]
  refine plVal (i := 15) (v := .int .i64 b.mx.y) rfl (by kernel_rfl) (gLoad (v := .int .i64 b.mx.y) (k := 4) 0 hm7 rfl (by kernel_rfl) (.tmp 31) (by kernel_rfl) rfl (by kernel_rfl)) ?_
  simp only [Act.put, List.setIfInBounds_toArray, List.set_cons_succ, List.set_cons_zero]
  refine plVal (i := 16) (v := .pointer (some ⟨g2, 0, none⟩)) rfl (by kernel_rfl) (by kernel_rfl) ?_
  simp only [Act.put, List.setIfInBounds_toArray, List.set_cons_succ, List.set_cons_zero]
  refine plVal (i := 17) (v := .pointer (some ⟨g2, 1, none⟩)) rfl (by kernel_rfl) (by kernel_rfl) ?_
  simp only [Act.put, List.setIfInBounds_toArray, List.set_cons_succ, List.set_cons_zero]
  refine plVal (i := 18) (v := .int .i64 b.mn.y) rfl (by kernel_rfl) (gLoad (v := .int .i64 b.mn.y) (k := 1) 0 hm7 rfl (by kernel_rfl) (.tmp 34) (by kernel_rfl) rfl (by kernel_rfl)) ?_
  simp only [Act.put, List.setIfInBounds_toArray, List.set_cons_succ, List.set_cons_zero]
  refine plVal (i := 19) (v := .int .i64 (wrap64 (b.mx.y - b.mn.y))) rfl (by kernel_rfl) (gSubW (A := b.mx.y) (B := b.mn.y) (.tmp 32) (.tmp 35) rfl (by kernel_rfl) (by kernel_rfl)) ?_
  simp only [Act.put, List.setIfInBounds_toArray, List.set_cons_succ, List.set_cons_zero]
  refine plVal (i := 20) (v := .bool false) rfl (by kernel_rfl) (boolTo (decide_eq_false (by omega)) (gtrRun (A := (wrap64 (b.mx.y - b.mn.y))) (B := 10) (.tmp 36) (.const (.int .i64 10)) rfl (by kernel_rfl) (by kernel_rfl))) ?_
  simp only [Act.put, List.setIfInBounds_toArray, List.set_cons_succ, List.set_cons_zero]
  refine plVal (i := 21) (v := .bool false) rfl (by kernel_rfl) (by kernel_rfl) ?_
  simp only [Act.put, List.setIfInBounds_toArray, List.set_cons_succ, List.set_cons_zero]
  refine plVal (i := 22) (v := .bool false) rfl (by kernel_rfl) (by kernel_rfl) ?_
  simp only [Act.put, List.setIfInBounds_toArray, List.set_cons_succ, List.set_cons_zero]
  refine plVal (i := 23) (v := .pointer (some ⟨g2, 3, none⟩)) rfl (by kernel_rfl) (by kernel_rfl) ?_
  simp only [Act.put, List.setIfInBounds_toArray, List.set_cons_succ, List.set_cons_zero]
  refine plVal (i := 24) (v := .pointer (some ⟨g2, 5, none⟩)) rfl (by kernel_rfl) (by kernel_rfl) ?_
  simp only [Act.put, List.setIfInBounds_toArray, List.set_cons_succ, List.set_cons_zero]
  refine plVal (i := 25) (v := .int .i64 b.mx.z) rfl (by kernel_rfl) (gLoad (v := .int .i64 b.mx.z) (k := 5) 0 hm7 rfl (by kernel_rfl) (.tmp 41) (by kernel_rfl) rfl (by kernel_rfl)) ?_
  simp only [Act.put, List.setIfInBounds_toArray, List.set_cons_succ, List.set_cons_zero]
  refine plVal (i := 26) (v := .pointer (some ⟨g2, 0, none⟩)) rfl (by kernel_rfl) (by kernel_rfl) ?_
  simp only [Act.put, List.setIfInBounds_toArray, List.set_cons_succ, List.set_cons_zero]
  refine plVal (i := 27) (v := .pointer (some ⟨g2, 2, none⟩)) rfl (by kernel_rfl) (by kernel_rfl) ?_
  simp only [Act.put, List.setIfInBounds_toArray, List.set_cons_succ, List.set_cons_zero]
  refine plVal (i := 28) (v := .int .i64 b.mn.z) rfl (by kernel_rfl) (gLoad (v := .int .i64 b.mn.z) (k := 2) 0 hm7 rfl (by kernel_rfl) (.tmp 44) (by kernel_rfl) rfl (by kernel_rfl)) ?_
  simp only [Act.put, List.setIfInBounds_toArray, List.set_cons_succ, List.set_cons_zero]
  refine plVal (i := 29) (v := .int .i64 (wrap64 (b.mx.z - b.mn.z))) rfl (by kernel_rfl) (gSubW (A := b.mx.z) (B := b.mn.z) (.tmp 42) (.tmp 45) rfl (by kernel_rfl) (by kernel_rfl)) ?_
  simp only [Act.put, List.setIfInBounds_toArray, List.set_cons_succ, List.set_cons_zero]
  refine plVal (i := 30) (v := .bool false) rfl (by kernel_rfl) (boolTo (decide_eq_false (by omega)) (gtrRun (A := (wrap64 (b.mx.z - b.mn.z))) (B := 10) (.tmp 46) (.const (.int .i64 10)) rfl (by kernel_rfl) (by kernel_rfl))) ?_
  simp only [Act.put, List.setIfInBounds_toArray, List.set_cons_succ, List.set_cons_zero]
  refine plVal (i := 31) (v := .bool false) rfl (by kernel_rfl) (by kernel_rfl) ?_
  refine plDone (by decide) ?_
  simp only [Act.put, List.setIfInBounds_toArray, List.set_cons_succ, List.set_cons_zero]
  refine then_normal (hK9 _ _ ?_)
  refine wp_cond_false (by kernel_rfl) ?_
  refine wp_skip ?_
  refine then_normal (hK8 _ _ ?_)
  refine wp_seq_k fun K10 hK10 => ?_
  refine plStart ?_
  refine plVal (i := 0) (v := .int .i64 0) rfl (by kernel_rfl) (by kernel_rfl) ?_
  refine plDone (by decide) ?_
  simp only [Act.put, List.setIfInBounds_toArray, List.set_cons_succ, List.set_cons_zero]
  refine then_normal (hK10 _ _ ?_)
  refine wp_seq_k fun K11 hK11 => ?_
  refine wp_seq_k fun K12 hK12 => ?_
  refine plStart ?_
  refine plVal (i := 0) (v := .pointer (some ⟨g2, 0, none⟩)) rfl (by kernel_rfl) (by kernel_rfl) ?_
  simp only [Act.put, List.setIfInBounds_toArray, List.set_cons_succ, List.set_cons_zero]
  refine plVal (i := 1) (v := .pointer (some ⟨g2, 0, none⟩)) rfl (by kernel_rfl) (by kernel_rfl) ?_
  simp only [Act.put, List.setIfInBounds_toArray, List.set_cons_succ, List.set_cons_zero]
  refine plVal (i := 2) (v := .int .i64 b.mn.x) rfl (by kernel_rfl) (gLoad (v := .int .i64 b.mn.x) (k := 0) 0 hm7 rfl (by kernel_rfl) (.tmp 51) (by kernel_rfl) rfl (by kernel_rfl)) ?_
  simp only [Act.put, List.setIfInBounds_toArray, List.set_cons_succ, List.set_cons_zero]
  refine plVal (i := 3) (v := .int .i64 b.mn.x) rfl (by kernel_rfl) (by kernel_rfl) ?_
  refine plDone (by decide) ?_
  simp only [Act.put, List.setIfInBounds_toArray, List.set_cons_succ, List.set_cons_zero]
  refine then_normal (hK12 _ _ ?_)
  refine wp_block ?_
  refine gwLoop (fun n_ a_ w_ => ∃ (i : Nat) (x : Int) (n : Nat), n_ = (b.mx.x - b.mn.x).toNat - i ∧ (x = b.mn.x + (i : Int)) ∧ (i ≤ (b.mx.x - b.mn.x).toNat) ∧ (n = cxN b i) ∧ Fr a_ 131 [(1, .pointer (some ⟨g2, 0, none⟩)), (2, .bool false), (4, .int .i64 (n : Int)), (5, .int .i64 x)] ∧ Mem w w_ [.arr g2 37 (bxs b)]) ((b.mx.x - b.mn.x).toNat - 0) ⟨0, b.mn.x, 0, rfl, by omega, Nat.zero_le _, rfl, ⟨by kernel_rfl, rfl, ⟨by kernel_rfl, ⟨by kernel_rfl, ⟨by kernel_rfl, ⟨by kernel_rfl, trivial⟩⟩⟩⟩⟩, hm7⟩ ?_
  clear hm7
  intro n_ a15 w13 hI_
  obtain ⟨i, x, n, rfl, hx, hi, hn, hF_, hm14⟩ := hI_
  obtain ⟨X16, hX_⟩ := hF_.lit
  have hX2_ : a15 = ({ tmps := #[X16 0, .pointer (some ⟨g2, 0, none⟩), .bool false, X16 3, .int .i64 (n : Int), .int .i64 x, X16 6, X16 7, X16 8, X16 9, X16 10, X16 11, X16 12, X16 13, X16 14, X16 15, X16 16, X16 17, X16 18, X16 19, X16 20, X16 21, X16 22, X16 23, X16 24, X16 25, X16 26, X16 27, X16 28, X16 29, X16 30, X16 31, X16 32, X16 33, X16 34, X16 35, X16 36, X16 37, X16 38, X16 39, X16 40, X16 41, X16 42, X16 43, X16 44, X16 45, X16 46, X16 47, X16 48, X16 49, X16 50, X16 51, X16 52, X16 53, X16 54, X16 55, X16 56, X16 57, X16 58, X16 59, X16 60, X16 61, X16 62, X16 63, X16 64, X16 65, X16 66, X16 67, X16 68, X16 69, X16 70, X16 71, X16 72, X16 73, X16 74, X16 75, X16 76, X16 77, X16 78, X16 79, X16 80, X16 81, X16 82, X16 83, X16 84, X16 85, X16 86, X16 87, X16 88, X16 89, X16 90, X16 91, X16 92, X16 93, X16 94, X16 95, X16 96, X16 97, X16 98, X16 99, X16 100, X16 101, X16 102, X16 103, X16 104, X16 105, X16 106, X16 107, X16 108, X16 109, X16 110, X16 111, X16 112, X16 113, X16 114, X16 115, X16 116, X16 117, X16 118, X16 119, X16 120, X16 121, X16 122, X16 123, X16 124, X16 125, X16 126, X16 127, X16 128, X16 129, X16 130], defers := [] } : Act) := hX_.trans (by kernel_rfl)
  clear hX_ hF_
  subst hX2_
  have hb1 := cxN_le b (by omega) (by omega) i
  refine wp_seq_k fun K17 hK17 => ?_
  refine wp_seq_k fun K18 hK18 => ?_
  refine plStart ?_
  refine plVal (i := 0) (v := .int .i64 x) rfl (by kernel_rfl) (by kernel_rfl) ?_
  simp only [Act.put, List.setIfInBounds_toArray, List.set_cons_succ, List.set_cons_zero]
  refine plVal (i := 1) (v := .pointer (some ⟨g2, 3, none⟩)) rfl (by kernel_rfl) (by kernel_rfl) ?_
  simp only [Act.put, List.setIfInBounds_toArray, List.set_cons_succ, List.set_cons_zero]
  refine plVal (i := 2) (v := .pointer (some ⟨g2, 3, none⟩)) rfl (by kernel_rfl) (by kernel_rfl) ?_
  simp only [Act.put, List.setIfInBounds_toArray, List.set_cons_succ, List.set_cons_zero]
  refine plVal (i := 3) (v := .int .i64 b.mx.x) rfl (by kernel_rfl) (gLoad (v := .int .i64 b.mx.x) (k := 3) 0 hm14 rfl (by kernel_rfl) (.tmp 55) (by kernel_rfl) rfl (by kernel_rfl)) ?_
  simp only [Act.put, List.setIfInBounds_toArray, List.set_cons_succ, List.set_cons_zero]
  by_cases h19 : x < b.mx.x
  · refine plVal (i := 4) (v := .bool true) rfl (by kernel_rfl) (boolTo (decide_eq_true h19) (lssRun (A := x) (B := b.mx.x) (.tmp 53) (.tmp 56) rfl (by kernel_rfl) (by kernel_rfl))) ?_
    refine plDone (by decide) ?_
    simp only [Act.put, List.setIfInBounds_toArray, List.set_cons_succ, List.set_cons_zero]
    refine then_normal (hK18 _ _ ?_)
    refine wp_cond_true (by kernel_rfl) ?_
    refine wp_skip ?_
    refine then_normal (hK17 _ _ ?_)
    refine wp_seq_k fun K20 hK20 => ?_
    refine wp_block ?_
    refine wp_seq_k fun K21 hK21 => ?_
    refine plStart ?_
    refine plVal (i := 0) (v := .pointer (some ⟨g2, 0, none⟩)) rfl (by kernel_rfl) (by kernel_rfl) ?_
    simp only [Act.put, List.setIfInBounds_toArray, List.set_cons_succ, List.set_cons_zero]
    refine plVal (i := 1) (v := .pointer (some ⟨g2, 1, none⟩)) rfl (by kernel_rfl) (by kernel_rfl) ?_
    simp only [Act.put, List.setIfInBounds_toArray, List.set_cons_succ, List.set_cons_zero]
    refine plVal (i := 2) (v := .int .i64 b.mn.y) rfl (by kernel_rfl) (gLoad (v := .int .i64 b.mn.y) (k := 1) 0 hm14 rfl (by kernel_rfl) (.tmp 61) (by kernel_rfl) rfl (by kernel_rfl)) ?_
    simp only [Act.put, List.setIfInBounds_toArray, List.set_cons_succ, List.set_cons_zero]
    refine plVal (i := 3) (v := .int .i64 b.mn.y) rfl (by kernel_rfl) (by kernel_rfl) ?_
    refine plDone (by decide) ?_
    simp only [Act.put, List.setIfInBounds_toArray, List.set_cons_succ, List.set_cons_zero]
    refine then_normal (hK21 _ _ ?_)
    refine wp_block ?_
    refine gwLoop (fun n_ a_ w_ => ∃ (j : Nat) (y : Int) (n : Nat), n_ = (b.mx.y - b.mn.y).toNat - j ∧ (y = b.mn.y + (j : Int)) ∧ (j ≤ (b.mx.y - b.mn.y).toNat) ∧ (n = cxN b i + cyN b x j) ∧ Fr a_ 131 [(1, .pointer (some ⟨g2, 0, none⟩)), (2, .bool false), (4, .int .i64 (n : Int)), (5, .int .i64 x), (6, .int .i64 y), (9, X16 9), (10, X16 10), (11, X16 11), (12, X16 12), (13, X16 13), (14, X16 14), (53, .int .i64 x), (54, .pointer (some ⟨g2, 3, none⟩)), (55, .pointer (some ⟨g2, 3, none⟩)), (56, .int .i64 b.mx.x), (57, .bool true), (58, X16 58), (59, X16 59), (60, .pointer (some ⟨g2, 0, none⟩)), (61, .pointer (some ⟨g2, 1, none⟩)), (62, .int .i64 b.mn.y), (88, X16 88), (89, X16 89), (90, X16 90), (91, X16 91), (92, X16 92), (93, X16 93), (94, X16 94), (95, X16 95), (96, X16 96), (97, X16 97), (98, X16 98), (99, X16 99), (100, X16 100), (101, X16 101), (102, X16 102), (103, X16 103), (104, X16 104), (105, X16 105), (106, X16 106), (107, X16 107), (108, X16 108), (109, X16 109), (110, X16 110), (111, X16 111), (112, X16 112), (113, X16 113), (114, X16 114), (115, X16 115), (116, X16 116), (117, X16 117), (118, X16 118), (119, X16 119), (120, X16 120), (121, X16 121), (122, X16 122), (123, X16 123), (124, X16 124), (125, X16 125), (126, X16 126), (127, X16 127), (128, X16 128), (129, X16 129), (130, X16 130)] ∧ Mem w w_ [.arr g2 37 (bxs b)]) ((b.mx.y - b.mn.y).toNat - 0) ⟨0, b.mn.y, _, rfl, by omega, Nat.zero_le _, hn, ⟨by kernel_rfl, rfl, ⟨by kernel_rfl, ⟨by kernel_rfl, ⟨by kernel_rfl, ⟨by kernel_rfl, ⟨by kernel_rfl, ⟨by kernel_rfl, ⟨by kernel_rfl, ⟨by kernel_rfl, ⟨by kernel_rfl, ⟨by kernel_rfl, ⟨by kernel_rfl, ⟨by kernel_rfl, ⟨by kernel_rfl, ⟨by kernel_rfl, ⟨by kernel_rfl, ⟨by kernel_rfl, ⟨by kernel_rfl, ⟨by kernel_rfl, ⟨by kernel_rfl, ⟨by kernel_rfl, ⟨by kernel_rfl, ⟨by kernel_rfl, ⟨by kernel_rfl, ⟨by kernel_rfl, ⟨by kernel_rfl, ⟨by kernel_rfl, ⟨by kernel_rfl, ⟨by kernel_rfl, ⟨by kernel_rfl, ⟨by kernel_rfl, ⟨by kernel_rfl, ⟨by kernel_rfl, ⟨by kernel_rfl, ⟨by kernel_rfl, ⟨by kernel_rfl, ⟨by kernel_rfl, ⟨by kernel_rfl, ⟨by kernel_rfl, ⟨by kernel_rfl, ⟨by kernel_rfl, ⟨by kernel_rfl, ⟨by kernel_rfl, ⟨by kernel_rfl, ⟨by kernel_rfl, ⟨by kernel_rfl, ⟨by kernel_rfl, ⟨by kernel_rfl, ⟨by kernel_rfl, ⟨by kernel_rfl, ⟨by kernel_rfl, ⟨by kernel_rfl, ⟨by kernel_rfl, ⟨by kernel_rfl, ⟨by kernel_rfl, ⟨by kernel_rfl, ⟨by kernel_rfl, ⟨by kernel_rfl, ⟨by kernel_rfl, ⟨by kernel_rfl, ⟨by kernel_rfl, ⟨by kernel_rfl, ⟨by kernel_rfl, ⟨by kernel_rfl, ⟨by kernel_rfl, trivial⟩⟩⟩⟩⟩⟩⟩⟩⟩⟩⟩⟩⟩⟩⟩⟩⟩⟩⟩⟩⟩⟩⟩⟩⟩⟩⟩⟩⟩⟩⟩⟩⟩⟩⟩⟩⟩⟩⟩⟩⟩⟩⟩⟩⟩⟩⟩⟩⟩⟩⟩⟩⟩⟩⟩⟩⟩⟩⟩⟩⟩⟩⟩⟩⟩, hm14⟩ ?_
    clear hm14
    intro n_ a24 w22 hI_
    obtain ⟨j, y, n, rfl, hy, hj, hn, hF_, hm23⟩ := hI_
    obtain ⟨X25, hX_⟩ := hF_.lit
    have hX2_ : a24 = ({ tmps := #[X25 0, .pointer (some ⟨g2, 0, none⟩), .bool false, X25 3, .int .i64 (n : Int), .int .i64 x, .int .i64 y, X25 7, X25 8, X16 9, X16 10, X16 11, X16 12, X16 13, X16 14, X25 15, X25 16, X25 17, X25 18, X25 19, X25 20, X25 21, X25 22, X25 23, X25 24, X25 25, X25 26, X25 27, X25 28, X25 29, X25 30, X25 31, X25 32, X25 33, X25 34, X25 35, X25 36, X25 37, X25 38, X25 39, X25 40, X25 41, X25 42, X25 43, X25 44, X25 45, X25 46, X25 47, X25 48, X25 49, X25 50, X25 51, X25 52, .int .i64 x, .pointer (some ⟨g2, 3, none⟩), .pointer (some ⟨g2, 3, none⟩), .int .i64 b.mx.x, .bool true, X16 58, X16 59, .pointer (some ⟨g2, 0, none⟩), .pointer (some ⟨g2, 1, none⟩), .int .i64 b.mn.y, X25 63, X25 64, X25 65, X25 66, X25 67, X25 68, X25 69, X25 70, X25 71, X25 72, X25 73, X25 74, X25 75, X25 76, X25 77, X25 78, X25 79, X25 80, X25 81, X25 82, X25 83, X25 84, X25 85, X25 86, X25 87, X16 88, X16 89, X16 90, X16 91, X16 92, X16 93, X16 94, X16 95, X16 96, X16 97, X16 98, X16 99, X16 100, X16 101, X16 102, X16 103, X16 104, X16 105, X16 106, X16 107, X16 108, X16 109, X16 110, X16 111, X16 112, X16 113, X16 114, X16 115, X16 116, X16 117, X16 118, X16 119, X16 120, X16 121, X16 122, X16 123, X16 124, X16 125, X16 126, X16 127, X16 128, X16 129, X16 130], defers := [] } : Act) := hX_.trans (by kernel_rfl)
    clear hX_ hF_
    subst hX2_
    have hb2 := cyN_le b x (by omega) j
    refine wp_seq_k fun K26 hK26 => ?_
    refine wp_seq_k fun K27 hK27 => ?_
    refine plStart ?_
    refine plVal (i := 0) (v := .int .i64 y) rfl (by kernel_rfl) (by kernel_rfl) ?_
    simp only [Act.put, List.setIfInBounds_toArray, List.set_cons_succ, List.set_cons_zero]
    refine plVal (i := 1) (v := .pointer (some ⟨g2, 3, none⟩)) rfl (by kernel_rfl) (by kernel_rfl) ?_
    simp only [Act.put, List.setIfInBounds_toArray, List.set_cons_succ, List.set_cons_zero]
    refine plVal (i := 2) (v := .pointer (some ⟨g2, 4, none⟩)) rfl (by kernel_rfl) (by kernel_rfl) ?_
    simp only [Act.put, List.setIfInBounds_toArray, List.set_cons_succ, List.set_cons_zero]
    refine plVal (i := 3) (v := .int .i64 b.mx.y) rfl (by kernel_rfl) (gLoad (v := .int .i64 b.mx.y) (k := 4) 0 hm23 rfl (by kernel_rfl) (.tmp 65) (by kernel_rfl) rfl (by kernel_rfl)) ?_
    simp only [Act.put, List.setIfInBounds_toArray, List.set_cons_succ, List.set_cons_zero]
    by_cases h28 : y < b.mx.y
    · refine plVal (i := 4) (v := .bool true) rfl (by kernel_rfl) (boolTo (decide_eq_true h28) (lssRun (A := y) (B := b.mx.y) (.tmp 63) (.tmp 66) rfl (by kernel_rfl) (by kernel_rfl))) ?_
      refine plDone (by decide) ?_
      simp only [Act.put, List.setIfInBounds_toArray, List.set_cons_succ, List.set_cons_zero]
      refine then_normal (hK27 _ _ ?_)
      refine wp_cond_true (by kernel_rfl) ?_
      refine wp_skip ?_
      refine then_normal (hK26 _ _ ?_)
      refine wp_seq_k fun K29 hK29 => ?_
      refine wp_block ?_
      refine wp_seq_k fun K30 hK30 => ?_
      refine plStart ?_
      refine plVal (i := 0) (v := .pointer (some ⟨g2, 0, none⟩)) rfl (by kernel_rfl) (by kernel_rfl) ?_
      simp only [Act.put, List.setIfInBounds_toArray, List.set_cons_succ, List.set_cons_zero]
      refine plVal (i := 1) (v := .pointer (some ⟨g2, 2, none⟩)) rfl (by kernel_rfl) (by kernel_rfl) ?_
      simp only [Act.put, List.setIfInBounds_toArray, List.set_cons_succ, List.set_cons_zero]
      refine plVal (i := 2) (v := .int .i64 b.mn.z) rfl (by kernel_rfl) (gLoad (v := .int .i64 b.mn.z) (k := 2) 0 hm23 rfl (by kernel_rfl) (.tmp 71) (by kernel_rfl) rfl (by kernel_rfl)) ?_
      simp only [Act.put, List.setIfInBounds_toArray, List.set_cons_succ, List.set_cons_zero]
      refine plVal (i := 3) (v := .int .i64 b.mn.z) rfl (by kernel_rfl) (by kernel_rfl) ?_
      refine plDone (by decide) ?_
      simp only [Act.put, List.setIfInBounds_toArray, List.set_cons_succ, List.set_cons_zero]
      refine then_normal (hK30 _ _ ?_)
      refine wp_block ?_
      refine gwLoop (fun n_ a_ w_ => ∃ (k : Nat) (z : Int) (n : Nat), n_ = (b.mx.z - b.mn.z).toNat - k ∧ (z = b.mn.z + (k : Int)) ∧ (k ≤ (b.mx.z - b.mn.z).toNat) ∧ (n = cxN b i + cyN b x j + czN b x y k) ∧ Fr a_ 131 [(1, .pointer (some ⟨g2, 0, none⟩)), (2, .bool false), (4, .int .i64 (n : Int)), (5, .int .i64 x), (6, .int .i64 y), (7, .int .i64 z), (9, X16 9), (10, X16 10), (11, X16 11), (12, X16 12), (13, X16 13), (14, X16 14), (53, .int .i64 x), (54, .pointer (some ⟨g2, 3, none⟩)), (55, .pointer (some ⟨g2, 3, none⟩)), (56, .int .i64 b.mx.x), (57, .bool true), (58, X16 58), (59, X16 59), (60, .pointer (some ⟨g2, 0, none⟩)), (61, .pointer (some ⟨g2, 1, none⟩)), (62, .int .i64 b.mn.y), (63, .int .i64 y), (64, .pointer (some ⟨g2, 3, none⟩)), (65, .pointer (some ⟨g2, 4, none⟩)), (66, .int .i64 b.mx.y), (67, .bool true), (68, X25 68), (69, X25 69), (70, .pointer (some ⟨g2, 0, none⟩)), (71, .pointer (some ⟨g2, 2, none⟩)), (72, .int .i64 b.mn.z), (88, X16 88), (89, X16 89), (90, X16 90), (91, X16 91), (92, X16 92), (93, X16 93), (94, X16 94), (95, X16 95), (96, X16 96), (97, X16 97), (98, X16 98), (99, X16 99), (100, X16 100), (101, X16 101), (102, X16 102), (103, X16 103), (104, X16 104), (105, X16 105), (106, X16 106), (107, X16 107), (108, X16 108), (109, X16 109), (110, X16 110), (111, X16 111), (112, X16 112), (113, X16 113), (114, X16 114), (115, X16 115), (116, X16 116), (117, X16 117), (118, X16 118), (119, X16 119), (120, X16 120), (121, X16 121), (122, X16 122), (123, X16 123), (124, X16 124), (125, X16 125), (126, X16 126), (127, X16 127), (128, X16 128), (129, X16 129), (130, X16 130)] ∧ Mem w w_ [.arr g2 37 (bxs b)]) ((b.mx.z - b.mn.z).toNat - 0) ⟨0, b.mn.z, _, rfl, by omega, Nat.zero_le _, hn, ⟨by kernel_rfl, rfl, ⟨by kernel_rfl, ⟨by kernel_rfl, ⟨by kernel_rfl, ⟨by kernel_rfl, ⟨by kernel_rfl, ⟨by kernel_rfl, ⟨by kernel_rfl, ⟨by kernel_rfl, ⟨by kernel_rfl, ⟨by kernel_rfl, ⟨by kernel_rfl, ⟨by kernel_rfl, ⟨by kernel_rfl, ⟨by kernel_rfl, ⟨by kernel_rfl, ⟨by kernel_rfl, ⟨by kernel_rfl, ⟨by kernel_rfl, ⟨by kernel_rfl, ⟨by kernel_rfl, ⟨by kernel_rfl, ⟨by kernel_rfl, ⟨by kernel_rfl, ⟨by kernel_rfl, ⟨by kernel_rfl, ⟨by kernel_rfl, ⟨by kernel_rfl, ⟨by kernel_rfl, ⟨by kernel_rfl, ⟨by kernel_rfl, ⟨by kernel_rfl, ⟨by kernel_rfl, ⟨by kernel_rfl, ⟨by kernel_rfl, ⟨by kernel_rfl, ⟨by kernel_rfl, ⟨by kernel_rfl, ⟨by kernel_rfl, ⟨by kernel_rfl, ⟨by kernel_rfl, ⟨by kernel_rfl, ⟨by kernel_rfl, ⟨by kernel_rfl, ⟨by kernel_rfl, ⟨by kernel_rfl, ⟨by kernel_rfl, ⟨by kernel_rfl, ⟨by kernel_rfl, ⟨by kernel_rfl, ⟨by kernel_rfl, ⟨by kernel_rfl, ⟨by kernel_rfl, ⟨by kernel_rfl, ⟨by kernel_rfl, ⟨by kernel_rfl, ⟨by kernel_rfl, ⟨by kernel_rfl, ⟨by kernel_rfl, ⟨by kernel_rfl, ⟨by kernel_rfl, ⟨by kernel_rfl, ⟨by kernel_rfl, ⟨by kernel_rfl, ⟨by kernel_rfl, ⟨by kernel_rfl, ⟨by kernel_rfl, ⟨by kernel_rfl, ⟨by kernel_rfl, ⟨by kernel_rfl, ⟨by kernel_rfl, ⟨by kernel_rfl, ⟨by kernel_rfl, ⟨by kernel_rfl, ⟨by kernel_rfl, ⟨by kernel_rfl, trivial⟩⟩⟩⟩⟩⟩⟩⟩⟩⟩⟩⟩⟩⟩⟩⟩⟩⟩⟩⟩⟩⟩⟩⟩⟩⟩⟩⟩⟩⟩⟩⟩⟩⟩⟩⟩⟩⟩⟩⟩⟩⟩⟩⟩⟩⟩⟩⟩⟩⟩⟩⟩⟩⟩⟩⟩⟩⟩⟩⟩⟩⟩⟩⟩⟩⟩⟩⟩⟩⟩⟩⟩⟩⟩⟩⟩, hm23⟩ ?_
      clear hm23
      intro n_ a33 w31 hI_
      obtain ⟨k, z, n, rfl, hz, hk, hn, hF_, hm32⟩ := hI_
      obtain ⟨X34, hX_⟩ := hF_.lit
      have hX2_ : a33 = ({ tmps := #[X34 0, .pointer (some ⟨g2, 0, none⟩), .bool false, X34 3, .int .i64 (n : Int), .int .i64 x, .int .i64 y, .int .i64 z, X34 8, X16 9, X16 10, X16 11, X16 12, X16 13, X16 14, X34 15, X34 16, X34 17, X34 18, X34 19, X34 20, X34 21, X34 22, X34 23, X34 24, X34 25, X34 26, X34 27, X34 28, X34 29, X34 30, X34 31, X34 32, X34 33, X34 34, X34 35, X34 36, X34 37, X34 38, X34 39, X34 40, X34 41, X34 42, X34 43, X34 44, X34 45, X34 46, X34 47, X34 48, X34 49, X34 50, X34 51, X34 52, .int .i64 x, .pointer (some ⟨g2, 3, none⟩), .pointer (some ⟨g2, 3, none⟩), .int .i64 b.mx.x, .bool true, X16 58, X16 59, .pointer (some ⟨g2, 0, none⟩), .pointer (some ⟨g2, 1, none⟩), .int .i64 b.mn.y, .int .i64 y, .pointer (some ⟨g2, 3, none⟩), .pointer (some ⟨g2, 4, none⟩), .int .i64 b.mx.y, .bool true, X25 68, X25 69, .pointer (some ⟨g2, 0, none⟩), .pointer (some ⟨g2, 2, none⟩), .int .i64 b.mn.z, X34 73, X34 74, X34 75, X34 76, X34 77, X34 78, X34 79, X34 80, X34 81, X34 82, X34 83, X34 84, X34 85, X34 86, X34 87, X16 88, X16 89, X16 90, X16 91, X16 92, X16 93, X16 94, X16 95, X16 96, X16 97, X16 98, X16 99, X16 100, X16 101, X16 102, X16 103, X16 104, X16 105, X16 106, X16 107, X16 108, X16 109, X16 110, X16 111, X16 112, X16 113, X16 114, X16 115, X16 116, X16 117, X16 118, X16 119, X16 120, X16 121, X16 122, X16 123, X16 124, X16 125, X16 126, X16 127, X16 128, X16 129, X16 130], defers := [] } : Act) := hX_.trans (by kernel_rfl)
      clear hX_ hF_
      subst hX2_
      have hb3 := czN_le b x y k
      refine wp_seq_k fun K35 hK35 => ?_
      refine wp_seq_k fun K36 hK36 => ?_
      refine plStart ?_
      refine plVal (i := 0) (v := .int .i64 z) rfl (by kernel_rfl) (by kernel_rfl) ?_
      simp only [Act.put, List.setIfInBounds_toArray, List.set_cons_succ, List.set_cons_zero]
      refine plVal (i := 1) (v := .pointer (some ⟨g2, 3, none⟩)) rfl (by kernel_rfl) (by kernel_rfl) ?_
      simp only [Act.put, List.setIfInBounds_toArray, List.set_cons_succ, List.set_cons_zero]
      refine plVal (i := 2) (v := .pointer (some ⟨g2, 5, none⟩)) rfl (by kernel_rfl) (by kernel_rfl) ?_
      simp only [Act.put, List.setIfInBounds_toArray, List.set_cons_succ, List.set_cons_zero]
      refine plVal (i := 3) (v := .int .i64 b.mx.z) rfl (by kernel_rfl) (gLoad (v := .int .i64 b.mx.z) (k := 5) 0 hm32 rfl (by kernel_rfl) (.tmp 75) (by kernel_rfl) rfl (by kernel_rfl)) ?_
      simp only [Act.put, List.setIfInBounds_toArray, List.set_cons_succ, List.set_cons_zero]
      by_cases h37 : z < b.mx.z
      · refine plVal (i := 4) (v := .bool true) rfl (by kernel_rfl) (boolTo (decide_eq_true h37) (lssRun (A := z) (B := b.mx.z) (.tmp 73) (.tmp 76) rfl (by kernel_rfl) (by kernel_rfl))) ?_
        refine plDone (by decide) ?_
        simp only [Act.put, List.setIfInBounds_toArray, List.set_cons_succ, List.set_cons_zero]
        refine then_normal (hK36 _ _ ?_)
        refine wp_cond_true (by kernel_rfl) ?_
        refine wp_skip ?_
        refine then_normal (hK35 _ _ ?_)
        refine wp_seq_k fun K38 hK38 => ?_
        refine wp_block ?_
        refine wp_seq_k fun K39 hK39 => ?_
        refine plStart ?_
        refine plVal (i := 0) (v := .int .i64 x) rfl (by kernel_rfl) (by kernel_rfl) ?_
        simp only [Act.put, List.setIfInBounds_toArray, List.set_cons_succ, List.set_cons_zero]
        refine plVal (i := 1) (v := .int .i64 y) rfl (by kernel_rfl) (by kernel_rfl) ?_
        simp only [Act.put, List.setIfInBounds_toArray, List.set_cons_succ, List.set_cons_zero]
        refine plVal (i := 2) (v := .int .i64 z) rfl (by kernel_rfl) (by kernel_rfl) ?_
        simp only [Act.put, List.setIfInBounds_toArray, List.set_cons_succ, List.set_cons_zero]
        refine plCall (i := 3) 32 [.int .i64 x, .int .i64 y, .int .i64 z] [] [] rfl (by kernel_rfl) (by kernel_rfl) rfl (by kernel_rfl) (by kernel_rfl) (at_any x y z _) ?_
        rintro e w40 ⟨rfl, hbz⟩
        have hm41 := hm32.below hbz
        clear hbz hm32
        refine ⟨_, rfl, ?_⟩
        simp only [Act.put, List.setIfInBounds_toArray, List.set_cons_succ, List.set_cons_zero]
        refine plCall (i := 4) 30 [.agg (pcs ⟨x, y, z⟩).toArray] [] [] rfl (by kernel_rfl) (by kernel_rfl) rfl (by kernel_rfl) (by kernel_rfl) (refInside_any ⟨x, y, z⟩ _) ?_
        rintro e w42 ⟨rfl, hbz⟩
        have hm43 := hm41.below hbz
        clear hbz hm41
        refine ⟨_, rfl, ?_⟩
        simp only [Act.put, List.setIfInBounds_toArray, List.set_cons_succ, List.set_cons_zero]
        rcases bool_or (decide (⟨x, y, z⟩ : Pt).In) with h44 | h44
        · rw [h44]
          refine plVal (i := 5) (v := .bool false) rfl (by kernel_rfl) (by kernel_rfl) ?_
          refine plDone (by decide) ?_
          simp only [Act.put, List.setIfInBounds_toArray, List.set_cons_succ, List.set_cons_zero]
          refine then_normal (hK39 _ _ ?_)
          refine wp_seq_k fun K45 hK45 => ?_
          refine plStart ?_
          refine plVal (i := 0) (v := .bool false) rfl (by kernel_rfl) (by kernel_rfl) ?_
          refine plDone (by decide) ?_
          simp only [Act.put, List.setIfInBounds_toArray, List.set_cons_succ, List.set_cons_zero]
          refine then_normal (hK45 _ _ ?_)
          refine wp_cond_false (by kernel_rfl) ?_
          refine wp_skip ?_
          refine inBlock_normal ?_
          refine then_normal (hK38 _ _ ?_)
          refine plStart ?_
          refine plVal (i := 0) (v := .int .i64 z) rfl (by kernel_rfl) (by kernel_rfl) ?_
          simp only [Act.put, List.setIfInBounds_toArray, List.set_cons_succ, List.set_cons_zero]
          refine plVal (i := 1) (v := .int .i64 (z + 1)) rfl (by kernel_rfl) (addRun (A := z) (B := 1) (C := z + 1) (.tmp 78) (.const (.int .i64 1)) rfl (by kernel_rfl) (by kernel_rfl) rfl (by omega)) ?_
          simp only [Act.put, List.setIfInBounds_toArray, List.set_cons_succ, List.set_cons_zero]
          refine plVal (i := 2) (v := .int .i64 (z + 1)) rfl (by kernel_rfl) (by kernel_rfl) ?_
          refine plDone (by decide) ?_
          simp only [Act.put, List.setIfInBounds_toArray, List.set_cons_succ, List.set_cons_zero]
          refine then_normal ?_
          exact ⟨_, by omega, (k + 1), (z + 1), n, rfl, by omega, by omega, by rw [hn]; show _ = cxN b i + cyN b x j + (czN b x y k + inN x y (b.mn.z + (k : Int))); unfold inN; rw [← hz, if_neg (of_decide_eq_false h44)]; omega, ⟨by kernel_rfl, rfl, ⟨by kernel_rfl, ⟨by kernel_rfl, ⟨by kernel_rfl, ⟨by kernel_rfl, ⟨by kernel_rfl, ⟨by kernel_rfl, ⟨by kernel_rfl, ⟨by kernel_rfl, ⟨by kernel_rfl, ⟨by kernel_rfl, ⟨by kernel_rfl, ⟨by kernel_rfl, ⟨by kernel_rfl, ⟨by kernel_rfl, ⟨by kernel_rfl, ⟨by kernel_rfl, ⟨by kernel_rfl, ⟨by kernel_rfl, ⟨by kernel_rfl, ⟨by kernel_rfl, ⟨by kernel_rfl, ⟨by kernel_rfl, ⟨by kernel_rfl, ⟨by kernel_rfl, ⟨by kernel_rfl, ⟨by kernel_rfl, ⟨by kernel_rfl, ⟨by kernel_rfl, ⟨by kernel_rfl, ⟨by kernel_rfl, ⟨by kernel_rfl, ⟨by kernel_rfl, ⟨by kernel_rfl, ⟨by kernel_rfl, ⟨by kernel_rfl, ⟨by kernel_rfl, ⟨by kernel_rfl, ⟨by kernel_rfl, ⟨by kernel_rfl, ⟨by kernel_rfl, ⟨by kernel_rfl, ⟨by kernel_rfl, ⟨by kernel_rfl, ⟨by kernel_rfl, ⟨by kernel_rfl, ⟨by kernel_rfl, ⟨by kernel_rfl, ⟨by kernel_rfl, ⟨by kernel_rfl, ⟨by kernel_rfl, ⟨by kernel_rfl, ⟨by kernel_rfl, ⟨by kernel_rfl, ⟨by kernel_rfl, ⟨by kernel_rfl, ⟨by kernel_rfl, ⟨by kernel_rfl, ⟨by kernel_rfl, ⟨by kernel_rfl, ⟨by kernel_rfl, ⟨by kernel_rfl, ⟨by kernel_rfl, ⟨by kernel_rfl, ⟨by kernel_rfl, ⟨by kernel_rfl, ⟨by kernel_rfl, ⟨by kernel_rfl, ⟨by kernel_rfl, ⟨by kernel_rfl, ⟨by kernel_rfl, ⟨by kernel_rfl, ⟨by kernel_rfl, ⟨by kernel_rfl, ⟨by kernel_rfl, ⟨by kernel_rfl, trivial⟩⟩⟩⟩⟩⟩⟩⟩⟩⟩⟩⟩⟩⟩⟩⟩⟩⟩⟩⟩⟩⟩⟩⟩⟩⟩⟩⟩⟩⟩⟩⟩⟩⟩⟩⟩⟩⟩⟩⟩⟩⟩⟩⟩⟩⟩⟩⟩⟩⟩⟩⟩⟩⟩⟩⟩⟩⟩⟩⟩⟩⟩⟩⟩⟩⟩⟩⟩⟩⟩⟩⟩⟩⟩⟩⟩, hm43⟩
        · rw [h44]
          refine plVal (i := 5) (v := .bool true) rfl (by kernel_rfl) (by kernel_rfl) ?_
          refine plDone (by decide) ?_
          simp only [Act.put, List.setIfInBounds_toArray, List.set_cons_succ, List.set_cons_zero]
          refine then_normal (hK39 _ _ ?_)
          refine wp_seq_k fun K46 hK46 => ?_
          refine plStart ?_
          refine plVal (i := 0) (v := .bool true) rfl (by kernel_rfl) (by kernel_rfl) ?_
          refine plDone (by decide) ?_
          simp only [Act.put, List.setIfInBounds_toArray, List.set_cons_succ, List.set_cons_zero]
          refine then_normal (hK46 _ _ ?_)
          refine wp_cond_true (by kernel_rfl) ?_
          refine plStart ?_
          refine plVal (i := 0) (v := .int .i64 (n : Int)) rfl (by kernel_rfl) (by kernel_rfl) ?_
          simp only [Act.put, List.setIfInBounds_toArray, List.set_cons_succ, List.set_cons_zero]
          refine plVal (i := 1) (v := .int .i64 ((n : Int) + 1)) rfl (by kernel_rfl) (addRun (A := (n : Int)) (B := 1) (C := (n : Int) + 1) (.tmp 86) (.const (.int .i64 1)) rfl (by kernel_rfl) (by kernel_rfl) rfl (by omega)) ?_
          simp only [Act.put, List.setIfInBounds_toArray, List.set_cons_succ, List.set_cons_zero]
          refine plVal (i := 2) (v := .int .i64 ((n : Int) + 1)) rfl (by kernel_rfl) (by kernel_rfl) ?_
          refine plDone (by decide) ?_
          simp only [Act.put, List.setIfInBounds_toArray, List.set_cons_succ, List.set_cons_zero]
          refine inBlock_normal ?_
          refine then_normal (hK38 _ _ ?_)
          refine plStart ?_
          refine plVal (i := 0) (v := .int .i64 z) rfl (by kernel_rfl) (by kernel_rfl) ?_
          simp only [Act.put, List.setIfInBounds_toArray, List.set_cons_succ, List.set_cons_zero]
          refine plVal (i := 1) (v := .int .i64 (z + 1)) rfl (by kernel_rfl) (addRun (A := z) (B := 1) (C := z + 1) (.tmp 78) (.const (.int .i64 1)) rfl (by kernel_rfl) (by kernel_rfl) rfl (by omega)) ?_
          simp only [Act.put, List.setIfInBounds_toArray, List.set_cons_succ, List.set_cons_zero]
          refine plVal (i := 2) (v := .int .i64 (z + 1)) rfl (by kernel_rfl) (by kernel_rfl) ?_
          refine plDone (by decide) ?_
          simp only [Act.put, List.setIfInBounds_toArray, List.set_cons_succ, List.set_cons_zero]
          refine then_normal ?_
          exact ⟨_, by omega, (k + 1), (z + 1), (n + 1), rfl, by omega, by omega, by rw [hn]; show _ = cxN b i + cyN b x j + (czN b x y k + inN x y (b.mn.z + (k : Int))); unfold inN; rw [← hz, if_pos (of_decide_eq_true h44)]; omega, ⟨by kernel_rfl, rfl, ⟨by kernel_rfl, ⟨by kernel_rfl, ⟨by kernel_rfl, ⟨by kernel_rfl, ⟨by kernel_rfl, ⟨by kernel_rfl, ⟨by kernel_rfl, ⟨by kernel_rfl, ⟨by kernel_rfl, ⟨by kernel_rfl, ⟨by kernel_rfl, ⟨by kernel_rfl, ⟨by kernel_rfl, ⟨by kernel_rfl, ⟨by kernel_rfl, ⟨by kernel_rfl, ⟨by kernel_rfl, ⟨by kernel_rfl, ⟨by kernel_rfl, ⟨by kernel_rfl, ⟨by kernel_rfl, ⟨by kernel_rfl, ⟨by kernel_rfl, ⟨by kernel_rfl, ⟨by kernel_rfl, ⟨by kernel_rfl, ⟨by kernel_rfl, ⟨by kernel_rfl, ⟨by kernel_rfl, ⟨by kernel_rfl, ⟨by kernel_rfl, ⟨by kernel_rfl, ⟨by kernel_rfl, ⟨by kernel_rfl, ⟨by kernel_rfl, ⟨by kernel_rfl, ⟨by kernel_rfl, ⟨by kernel_rfl, ⟨by kernel_rfl, ⟨by kernel_rfl, ⟨by kernel_rfl, ⟨by kernel_rfl, ⟨by kernel_rfl, ⟨by kernel_rfl, ⟨by kernel_rfl, ⟨by kernel_rfl, ⟨by kernel_rfl, ⟨by kernel_rfl, ⟨by kernel_rfl, ⟨by kernel_rfl, ⟨by kernel_rfl, ⟨by kernel_rfl, ⟨by kernel_rfl, ⟨by kernel_rfl, ⟨by kernel_rfl, ⟨by kernel_rfl, ⟨by kernel_rfl, ⟨by kernel_rfl, ⟨by kernel_rfl, ⟨by kernel_rfl, ⟨by kernel_rfl, ⟨by kernel_rfl, ⟨by kernel_rfl, ⟨by kernel_rfl, ⟨by kernel_rfl, ⟨by kernel_rfl, ⟨by kernel_rfl, ⟨by kernel_rfl, ⟨by kernel_rfl, ⟨by kernel_rfl, ⟨by kernel_rfl, ⟨by kernel_rfl, ⟨by kernel_rfl, ⟨by kernel_rfl, ⟨by kernel_rfl, trivial⟩⟩⟩⟩⟩⟩⟩⟩⟩⟩⟩⟩⟩⟩⟩⟩⟩⟩⟩⟩⟩⟩⟩⟩⟩⟩⟩⟩⟩⟩⟩⟩⟩⟩⟩⟩⟩⟩⟩⟩⟩⟩⟩⟩⟩⟩⟩⟩⟩⟩⟩⟩⟩⟩⟩⟩⟩⟩⟩⟩⟩⟩⟩⟩⟩⟩⟩⟩⟩⟩⟩⟩⟩⟩⟩⟩, hm43⟩
      · refine plVal (i := 4) (v := .bool false) rfl (by kernel_rfl) (boolTo (decide_eq_false h37) (lssRun (A := z) (B := b.mx.z) (.tmp 73) (.tmp 76) rfl (by kernel_rfl) (by kernel_rfl))) ?_
        refine plDone (by decide) ?_
        simp only [Act.put, List.setIfInBounds_toArray, List.set_cons_succ, List.set_cons_zero]
        refine then_normal (hK36 _ _ ?_)
        refine wp_cond_false (by kernel_rfl) ?_
        refine wp_exit ?_
        refine then_exit ?_
        refine then_exit ?_
        refine inBlock_exit ?_
        refine inBlock_normal ?_
        refine then_normal (hK29 _ _ ?_)
        refine plStart ?_
        refine plVal (i := 0) (v := .int .i64 y) rfl (by kernel_rfl) (by kernel_rfl) ?_
        simp only [Act.put, List.setIfInBounds_toArray, List.set_cons_succ, List.set_cons_zero]
        refine plVal (i := 1) (v := .int .i64 (y + 1)) rfl (by kernel_rfl) (addRun (A := y) (B := 1) (C := y + 1) (.tmp 68) (.const (.int .i64 1)) rfl (by kernel_rfl) (by kernel_rfl) rfl (by omega)) ?_
        simp only [Act.put, List.setIfInBounds_toArray, List.set_cons_succ, List.set_cons_zero]
        refine plVal (i := 2) (v := .int .i64 (y + 1)) rfl (by kernel_rfl) (by kernel_rfl) ?_
        refine plDone (by decide) ?_
        simp only [Act.put, List.setIfInBounds_toArray, List.set_cons_succ, List.set_cons_zero]
        refine then_normal ?_
        exact ⟨_, by omega, (j + 1), (y + 1), n, rfl, by omega, by omega, by rw [hn, show k = (b.mx.z - b.mn.z).toNat by omega, hy]; show _ = cxN b i + (cyN b x j + _); omega, ⟨by kernel_rfl, rfl, ⟨by kernel_rfl, ⟨by kernel_rfl, ⟨by kernel_rfl, ⟨by kernel_rfl, ⟨by kernel_rfl, ⟨by kernel_rfl, ⟨by kernel_rfl, ⟨by kernel_rfl, ⟨by kernel_rfl, ⟨by kernel_rfl, ⟨by kernel_rfl, ⟨by kernel_rfl, ⟨by kernel_rfl, ⟨by kernel_rfl, ⟨by kernel_rfl, ⟨by kernel_rfl, ⟨by kernel_rfl, ⟨by kernel_rfl, ⟨by kernel_rfl, ⟨by kernel_rfl, ⟨by kernel_rfl, ⟨by kernel_rfl, ⟨by kernel_rfl, ⟨by kernel_rfl, ⟨by kernel_rfl, ⟨by kernel_rfl, ⟨by kernel_rfl, ⟨by kernel_rfl, ⟨by kernel_rfl, ⟨by kernel_rfl, ⟨by kernel_rfl, ⟨by kernel_rfl, ⟨by kernel_rfl, ⟨by kernel_rfl, ⟨by kernel_rfl, ⟨by kernel_rfl, ⟨by kernel_rfl, ⟨by kernel_rfl, ⟨by kernel_rfl, ⟨by kernel_rfl, ⟨by kernel_rfl, ⟨by kernel_rfl, ⟨by kernel_rfl, ⟨by kernel_rfl, ⟨by kernel_rfl, ⟨by kernel_rfl, ⟨by kernel_rfl, ⟨by kernel_rfl, ⟨by kernel_rfl, ⟨by kernel_rfl, ⟨by kernel_rfl, ⟨by kernel_rfl, ⟨by kernel_rfl, ⟨by kernel_rfl, ⟨by kernel_rfl, ⟨by kernel_rfl, ⟨by kernel_rfl, ⟨by kernel_rfl, ⟨by kernel_rfl, ⟨by kernel_rfl, ⟨by kernel_rfl, ⟨by kernel_rfl, ⟨by kernel_rfl, ⟨by kernel_rfl, trivial⟩⟩⟩⟩⟩⟩⟩⟩⟩⟩⟩⟩⟩⟩⟩⟩⟩⟩⟩⟩⟩⟩⟩⟩⟩⟩⟩⟩⟩⟩⟩⟩⟩⟩⟩⟩⟩⟩⟩⟩⟩⟩⟩⟩⟩⟩⟩⟩⟩⟩⟩⟩⟩⟩⟩⟩⟩⟩⟩⟩⟩⟩⟩⟩⟩, hm32⟩
    · refine plVal (i := 4) (v := .bool false) rfl (by kernel_rfl) (boolTo (decide_eq_false h28) (lssRun (A := y) (B := b.mx.y) (.tmp 63) (.tmp 66) rfl (by kernel_rfl) (by kernel_rfl))) ?_
      refine plDone (by decide) ?_
      simp only [Act.put, List.setIfInBounds_toArray, List.set_cons_succ, List.set_cons_zero]
      refine then_normal (hK27 _ _ ?_)
      refine wp_cond_false (by kernel_rfl) ?_
      refine wp_exit ?_
      refine then_exit ?_
      refine then_exit ?_
      refine inBlock_exit ?_
      refine inBlock_normal ?_
      refine then_normal (hK20 _ _ ?_)
      refine plStart ?_
      refine plVal (i := 0) (v := .int .i64 x) rfl (by kernel_rfl) (by kernel_rfl) ?_
      simp only [Act.put, List.setIfInBounds_toArray, List.set_cons_succ, List.set_cons_zero]
      refine plVal (i := 1) (v := .int .i64 (x + 1)) rfl (by kernel_rfl) (addRun (A := x) (B := 1) (C := x + 1) (.tmp 58) (.const (.int .i64 1)) rfl (by kernel_rfl) (by kernel_rfl) rfl (by omega)) ?_
      simp only [Act.put, List.setIfInBounds_toArray, List.set_cons_succ, List.set_cons_zero]
      refine plVal (i := 2) (v := .int .i64 (x + 1)) rfl (by kernel_rfl) (by kernel_rfl) ?_
      refine plDone (by decide) ?_
      simp only [Act.put, List.setIfInBounds_toArray, List.set_cons_succ, List.set_cons_zero]
      refine then_normal ?_
      exact ⟨_, by omega, (i + 1), (x + 1), n, rfl, by omega, by omega, by rw [hn, show j = (b.mx.y - b.mn.y).toNat by omega, hx]; rfl, ⟨by kernel_rfl, rfl, ⟨by kernel_rfl, ⟨by kernel_rfl, ⟨by kernel_rfl, ⟨by kernel_rfl, trivial⟩⟩⟩⟩⟩, hm23⟩
  · refine plVal (i := 4) (v := .bool false) rfl (by kernel_rfl) (boolTo (decide_eq_false h19) (lssRun (A := x) (B := b.mx.x) (.tmp 53) (.tmp 56) rfl (by kernel_rfl) (by kernel_rfl))) ?_
    refine plDone (by decide) ?_
    simp only [Act.put, List.setIfInBounds_toArray, List.set_cons_succ, List.set_cons_zero]
    refine then_normal (hK18 _ _ ?_)
    refine wp_cond_false (by kernel_rfl) ?_
    refine wp_exit ?_
    refine then_exit ?_
    refine then_exit ?_
    refine inBlock_exit ?_
    refine then_normal (hK11 _ _ ?_)
    refine wp_seq_k fun K47 hK47 => ?_
    refine plStart ?_
    refine plVal (i := 0) (v := .int .i64 0) rfl (by kernel_rfl) (by kernel_rfl) ?_
    refine plDone (by decide) ?_
    simp only [Act.put, List.setIfInBounds_toArray, List.set_cons_succ, List.set_cons_zero]
    refine then_normal (hK47 _ _ ?_)
    refine wp_seq_k fun K48 hK48 => ?_
    refine plStart ?_
    refine plVal (i := 0) (v := .agg (bxs b).toArray) rfl (by kernel_rfl) (gLoadAg (vs := bxs b) (k := 0) 0 hm14 rfl (by kernel_rfl) (by kernel_rfl) (.tmp 1) Ty.ag_voxel_api_Box rfl (by kernel_rfl)) ?_
    simp only [Act.put, List.setIfInBounds_toArray, List.set_cons_succ, List.set_cons_zero]
    refine plCall (i := 1) 28 [.agg (bxs b).toArray, .int .i64 0] [] [] rfl (by kernel_rfl) (by kernel_rfl) rfl (by kernel_rfl) (by kernel_rfl) (next_any b 0 _) ?_
    rintro e w49 ⟨rfl, hbz⟩
    have hm50 := hm14.below hbz
    clear hbz hm14
    refine ⟨_, rfl, ?_⟩
    simp only [Act.put, List.setIfInBounds_toArray, List.set_cons_succ, List.set_cons_zero]
    refine plVal (i := 2) (v := .int .i64 (mNext b ((0 : Nat) : Int))) rfl (by kernel_rfl) (by kernel_rfl) ?_
    refine plDone (by decide) ?_
    simp only [Act.put, List.setIfInBounds_toArray, List.set_cons_succ, List.set_cons_zero]
    refine then_normal (hK48 _ _ ?_)
    refine wp_seq_k fun K51 hK51 => ?_
    refine wp_block ?_
    obtain ⟨N, hN⟩ : ∃ N, N = n := ⟨_, rfl⟩
    have hNc : N = cellsN b := by rw [hN, hn, show i = (b.mx.x - b.mn.x).toNat by omega]; rfl
    have hN1 : N ≤ 1000 := by omega
    rw [← hN]
    clear hn hN hb1
    refine gwLoop (fun n_ a_ w_ => ∃ (V : List Nat) (s : Nat) (nn : Int) (v : Nat), n_ = N - v ∧ (v = V.length) ∧ (nn = mNext b (s : Int)) ∧ (Vis b V s) ∧ Fr a_ 131 [(1, .pointer (some ⟨g2, 0, none⟩)), (4, .int .i64 (N : Int)), (9, .int .i64 (v : Int)), (10, .int .i64 nn), (125, X16 125), (126, X16 126), (127, X16 127), (128, X16 128), (129, X16 129), (130, X16 130)] ∧ Mem w w_ [.arr g2 37 (bxs b)]) (N - 0) ⟨[], 0, (mNext b ((0 : Nat) : Int)), 0, rfl, rfl, rfl, Vis.nil b, ⟨by kernel_rfl, rfl, ⟨by kernel_rfl, ⟨by kernel_rfl, ⟨by kernel_rfl, ⟨by kernel_rfl, ⟨by kernel_rfl, ⟨by kernel_rfl, ⟨by kernel_rfl, ⟨by kernel_rfl, ⟨by kernel_rfl, ⟨by kernel_rfl, trivial⟩⟩⟩⟩⟩⟩⟩⟩⟩⟩⟩, hm50⟩ ?_
    clear hm50
    intro n_ a54 w52 hI_
    obtain ⟨V, s, nn, v, rfl, hv, hnn, hV, hF_, hm53⟩ := hI_
    obtain ⟨X55, hX_⟩ := hF_.lit
    have hX2_ : a54 = ({ tmps := #[X55 0, .pointer (some ⟨g2, 0, none⟩), X55 2, X55 3, .int .i64 (N : Int), X55 5, X55 6, X55 7, X55 8, .int .i64 (v : Int), .int .i64 nn, X55 11, X55 12, X55 13, X55 14, X55 15, X55 16, X55 17, X55 18, X55 19, X55 20, X55 21, X55 22, X55 23, X55 24, X55 25, X55 26, X55 27, X55 28, X55 29, X55 30, X55 31, X55 32, X55 33, X55 34, X55 35, X55 36, X55 37, X55 38, X55 39, X55 40, X55 41, X55 42, X55 43, X55 44, X55 45, X55 46, X55 47, X55 48, X55 49, X55 50, X55 51, X55 52, X55 53, X55 54, X55 55, X55 56, X55 57, X55 58, X55 59, X55 60, X55 61, X55 62, X55 63, X55 64, X55 65, X55 66, X55 67, X55 68, X55 69, X55 70, X55 71, X55 72, X55 73, X55 74, X55 75, X55 76, X55 77, X55 78, X55 79, X55 80, X55 81, X55 82, X55 83, X55 84, X55 85, X55 86, X55 87, X55 88, X55 89, X55 90, X55 91, X55 92, X55 93, X55 94, X55 95, X55 96, X55 97, X55 98, X55 99, X55 100, X55 101, X55 102, X55 103, X55 104, X55 105, X55 106, X55 107, X55 108, X55 109, X55 110, X55 111, X55 112, X55 113, X55 114, X55 115, X55 116, X55 117, X55 118, X55 119, X55 120, X55 121, X55 122, X55 123, X55 124, X16 125, X16 126, X16 127, X16 128, X16 129, X16 130], defers := [] } : Act) := hX_.trans (by kernel_rfl)
    clear hX_ hF_
    subst hX2_
    refine wp_seq_k fun K56 hK56 => ?_
    refine wp_seq_k fun K57 hK57 => ?_
    refine plStart ?_
    refine plVal (i := 0) (v := .int .i64 nn) rfl (by kernel_rfl) (by kernel_rfl) ?_
    simp only [Act.put, List.setIfInBounds_toArray, List.set_cons_succ, List.set_cons_zero]
    by_cases h58 : 0 ≤ nn
    · obtain ⟨c, hc, hc42, hdec, hcell, hV2⟩ := hV.step (hnn ▸ h58)
      have hle := hV.le
      have hle2 := hV2.le
      have hnx := next_after (b := b) (s := c + 1)
      rw [List.length_append, List.length_singleton] at hle2
      rw [hc] at hnn
      subst hnn
      by_cases h59 : 0 ≤ (c : Int)
      · refine plVal (i := 1) (v := .bool true) rfl (by kernel_rfl) (boolTo (decide_eq_true h59) (gGeq (A := (c : Int)) (B := 0) (.tmp 90) (.const (.int .i64 0)) rfl (by kernel_rfl) (by kernel_rfl))) ?_
        simp only [Act.put, List.setIfInBounds_toArray, List.set_cons_succ, List.set_cons_zero]
        refine plVal (i := 2) (v := .bool true) rfl (by kernel_rfl) (by kernel_rfl) ?_
        simp only [Act.put, List.setIfInBounds_toArray, List.set_cons_succ, List.set_cons_zero]
        refine plVal (i := 3) (v := .int .i64 (v : Int)) rfl (by kernel_rfl) (by kernel_rfl) ?_
        simp only [Act.put, List.setIfInBounds_toArray, List.set_cons_succ, List.set_cons_zero]
        refine plVal (i := 4) (v := .int .i64 (N : Int)) rfl (by kernel_rfl) (by kernel_rfl) ?_
        simp only [Act.put, List.setIfInBounds_toArray, List.set_cons_succ, List.set_cons_zero]
        refine plVal (i := 5) (v := .bool true) rfl (by kernel_rfl) (boolTo (decide_eq_true (by omega)) (leqRun (A := (v : Int)) (B := (N : Int)) (.tmp 93) (.tmp 94) rfl (by kernel_rfl) (by kernel_rfl))) ?_
        simp only [Act.put, List.setIfInBounds_toArray, List.set_cons_succ, List.set_cons_zero]
        refine plVal (i := 6) (v := .bool true) rfl (by kernel_rfl) (by kernel_rfl) ?_
        refine plDone (by decide) ?_
        simp only [Act.put, List.setIfInBounds_toArray, List.set_cons_succ, List.set_cons_zero]
        refine then_normal (hK57 _ _ ?_)
        refine wp_cond_true (by kernel_rfl) ?_
        refine wp_skip ?_
        refine then_normal (hK56 _ _ ?_)
        refine wp_block ?_
        refine wp_seq_k fun K60 hK60 => ?_
        refine plStart ?_
        refine plVal (i := 0) (v := .int .i64 (c : Int)) rfl (by kernel_rfl) (by kernel_rfl) ?_
        simp only [Act.put, List.setIfInBounds_toArray, List.set_cons_succ, List.set_cons_zero]
        refine plCall (i := 1) 9 [.int .i64 (c : Int)] [] [] rfl (by kernel_rfl) (by kernel_rfl) rfl (by kernel_rfl) (by kernel_rfl) (by have h := decode_any (c : Int) w52; rw [hdec] at h; exact h) ?_
        rintro e w61 ⟨rfl, hbz⟩
        have hm62 := hm53.below hbz
        clear hbz hm53
        refine ⟨_, rfl, ?_⟩
        simp only [Act.put, List.setIfInBounds_toArray, List.set_cons_succ, List.set_cons_zero]
        refine plVal (i := 2) (v := .tuple #[.agg (pcs (mDecP c)).toArray, .bool true]) rfl (by kernel_rfl) (by kernel_rfl) ?_
        simp only [Act.put, List.setIfInBounds_toArray, List.set_cons_succ, List.set_cons_zero]
        refine plVal (i := 3) (v := .agg (pcs (mDecP c)).toArray) rfl (by kernel_rfl) (by kernel_rfl) ?_
        simp only [Act.put, List.setIfInBounds_toArray, List.set_cons_succ, List.set_cons_zero]
        refine plVal (i := 4) (v := .bool true) rfl (by kernel_rfl) (by kernel_rfl) ?_
        simp only [Act.put, List.setIfInBounds_toArray, List.set_cons_succ, List.set_cons_zero]
        refine plAlloc (z := [.int .i64 0, .int .i64 0, .int .i64 0]) Ty.ag_voxel_api_Point hm62 (i := 5) rfl (by kernel_rfl) rfl ?_
        intro g63 w65 hm64
        clear hm62
        simp only [List.cons_append, List.nil_append, List.set_cons_succ, List.set_cons_zero] at hm64
        simp only [Act.put, List.setIfInBounds_toArray, List.set_cons_succ, List.set_cons_zero]
        refine plStore 1 Ty.ag_voxel_api_Point hm64 rfl (i := 6) (cs := pcs (mDecP c)) rfl (by kernel_rfl) rfl (by kernel_rfl) (by kernel_rfl) rfl rfl (by kernel_rfl) ?_
        intro w67 hm66
        clear hm64
        simp only [List.cons_append, List.nil_append, List.set_cons_succ, List.set_cons_zero] at hm66
        simp only [Act.put, List.setIfInBounds_toArray, List.set_cons_succ, List.set_cons_zero]
        refine plVal (i := 7) (v := .bool true) rfl (by kernel_rfl) (by kernel_rfl) ?_
        refine plDone (by decide) ?_
        simp only [Act.put, List.setIfInBounds_toArray, List.set_cons_succ, List.set_cons_zero]
        refine then_normal (hK60 _ _ ?_)
        refine wp_seq_k fun K68 hK68 => ?_
        refine plStart ?_
        refine plVal (i := 0) (v := .agg (bxs b).toArray) rfl (by kernel_rfl) (gLoadAg (vs := bxs b) (k := 0) 0 hm66 rfl (by kernel_rfl) (by kernel_rfl) (.tmp 1) Ty.ag_voxel_api_Box rfl (by kernel_rfl)) ?_
        simp only [Act.put, List.setIfInBounds_toArray, List.set_cons_succ, List.set_cons_zero]
        refine plVal (i := 1) (v := .agg (pcs (mDecP c)).toArray) rfl (by kernel_rfl) (gLoadAg (vs := pcs (mDecP c)) (k := 0) 1 hm66 rfl (by kernel_rfl) (by kernel_rfl) (.tmp 11) Ty.ag_voxel_api_Point rfl (by kernel_rfl)) ?_
        simp only [Act.put, List.setIfInBounds_toArray, List.set_cons_succ, List.set_cons_zero]
        refine plCall (i := 2) 33 [.agg (bxs b).toArray, .agg (pcs (mDecP c)).toArray] [] [] rfl (by kernel_rfl) (by kernel_rfl) rfl (by kernel_rfl) (by kernel_rfl) (by have h := refCell_any b (mDecP c) w67; rw [decide_eq_true hcell] at h; exact h) ?_
        rintro e w69 ⟨rfl, hbz⟩
        have hm70 := hm66.below hbz
        clear hbz hm66
        refine ⟨_, rfl, ?_⟩
        simp only [Act.put, List.setIfInBounds_toArray, List.set_cons_succ, List.set_cons_zero]
        refine plVal (i := 3) (v := .bool true) rfl (by kernel_rfl) (by kernel_rfl) ?_
        refine plDone (by decide) ?_
        simp only [Act.put, List.setIfInBounds_toArray, List.set_cons_succ, List.set_cons_zero]
        refine then_normal (hK68 _ _ ?_)
        refine wp_seq_k fun K71 hK71 => ?_
        refine wp_seq_k fun K72 hK72 => ?_
        refine plStart ?_
        refine plVal (i := 0) (v := .bool true) rfl (by kernel_rfl) (by kernel_rfl) ?_
        simp only [Act.put, List.setIfInBounds_toArray, List.set_cons_succ, List.set_cons_zero]
        refine plVal (i := 1) (v := .bool false) rfl (by kernel_rfl) (by kernel_rfl) ?_
        simp only [Act.put, List.setIfInBounds_toArray, List.set_cons_succ, List.set_cons_zero]
        refine plVal (i := 2) (v := .bool false) rfl (by kernel_rfl) (by kernel_rfl) ?_
        simp only [Act.put, List.setIfInBounds_toArray, List.set_cons_succ, List.set_cons_zero]
        refine plVal (i := 3) (v := .bool true) rfl (by kernel_rfl) (by kernel_rfl) ?_
        simp only [Act.put, List.setIfInBounds_toArray, List.set_cons_succ, List.set_cons_zero]
        refine plVal (i := 4) (v := .bool false) rfl (by kernel_rfl) (by kernel_rfl) ?_
        simp only [Act.put, List.setIfInBounds_toArray, List.set_cons_succ, List.set_cons_zero]
        refine plVal (i := 5) (v := .bool false) rfl (by kernel_rfl) (by kernel_rfl) ?_
        refine plDone (by decide) ?_
        simp only [Act.put, List.setIfInBounds_toArray, List.set_cons_succ, List.set_cons_zero]
        refine then_normal (hK72 _ _ ?_)
        refine wp_cond_false (by kernel_rfl) ?_
        refine wp_skip ?_
        refine then_normal (hK71 _ _ ?_)
        refine wp_seq_k fun K73 hK73 => ?_
        refine plStart ?_
        refine plVal (i := 0) (v := .int .i64 (v : Int)) rfl (by kernel_rfl) (by kernel_rfl) ?_
        simp only [Act.put, List.setIfInBounds_toArray, List.set_cons_succ, List.set_cons_zero]
        refine plVal (i := 1) (v := .int .i64 ((v : Int) + 1)) rfl (by kernel_rfl) (addRun (A := (v : Int)) (B := 1) (C := (v : Int) + 1) (.tmp 111) (.const (.int .i64 1)) rfl (by kernel_rfl) (by kernel_rfl) rfl (by omega)) ?_
        simp only [Act.put, List.setIfInBounds_toArray, List.set_cons_succ, List.set_cons_zero]
        refine plVal (i := 2) (v := .int .i64 ((v : Int) + 1)) rfl (by kernel_rfl) (by kernel_rfl) ?_
        refine plDone (by decide) ?_
        simp only [Act.put, List.setIfInBounds_toArray, List.set_cons_succ, List.set_cons_zero]
        refine then_normal (hK73 _ _ ?_)
        refine wp_seq_k fun K74 hK74 => ?_
        refine plStart ?_
        refine plVal (i := 0) (v := .int .i64 (c : Int)) rfl (by kernel_rfl) (by kernel_rfl) ?_
        simp only [Act.put, List.setIfInBounds_toArray, List.set_cons_succ, List.set_cons_zero]
        refine plVal (i := 1) (v := .int .i64 (c : Int)) rfl (by kernel_rfl) (by kernel_rfl) ?_
        refine plDone (by decide) ?_
        simp only [Act.put, List.setIfInBounds_toArray, List.set_cons_succ, List.set_cons_zero]
        refine then_normal (hK74 _ _ ?_)
        refine wp_seq_k fun K75 hK75 => ?_
        refine plStart ?_
        refine plVal (i := 0) (v := .agg (bxs b).toArray) rfl (by kernel_rfl) (gLoadAg (vs := bxs b) (k := 0) 0 hm70 rfl (by kernel_rfl) (by kernel_rfl) (.tmp 1) Ty.ag_voxel_api_Box rfl (by kernel_rfl)) ?_
        simp only [Act.put, List.setIfInBounds_toArray, List.set_cons_succ, List.set_cons_zero]
        refine plVal (i := 1) (v := .int .i64 (c : Int)) rfl (by kernel_rfl) (by kernel_rfl) ?_
        simp only [Act.put, List.setIfInBounds_toArray, List.set_cons_succ, List.set_cons_zero]
        refine plVal (i := 2) (v := .int .i64 ((c : Int) + 1)) rfl (by kernel_rfl) (addRun (A := (c : Int)) (B := 1) (C := (c : Int) + 1) (.tmp 115) (.const (.int .i64 1)) rfl (by kernel_rfl) (by kernel_rfl) rfl (by omega)) ?_
        simp only [Act.put, List.setIfInBounds_toArray, List.set_cons_succ, List.set_cons_zero]
        refine plCall (i := 3) 28 [.agg (bxs b).toArray, .int .i64 ((c : Int) + 1)] [] [] rfl (by kernel_rfl) (by kernel_rfl) rfl (by kernel_rfl) (by kernel_rfl) (by have h := next_any b ((c : Int) + 1) w69; rw [show (c : Int) + 1 = ((c + 1 : Nat) : Int) by omega] at h; exact h) ?_
        rintro e w76 ⟨rfl, hbz⟩
        have hm77 := hm70.below hbz
        clear hbz hm70
        refine ⟨_, rfl, ?_⟩
        simp only [Act.put, List.setIfInBounds_toArray, List.set_cons_succ, List.set_cons_zero]
        refine plVal (i := 4) (v := .int .i64 (mNext b ((c + 1 : Nat) : Int))) rfl (by kernel_rfl) (by kernel_rfl) ?_
        refine plDone (by decide) ?_
        simp only [Act.put, List.setIfInBounds_toArray, List.set_cons_succ, List.set_cons_zero]
        refine then_normal (hK75 _ _ ?_)
        refine wp_seq_k fun K78 hK78 => ?_
        refine plStart ?_
        refine plVal (i := 0) (v := .int .i64 (mNext b ((c + 1 : Nat) : Int))) rfl (by kernel_rfl) (by kernel_rfl) ?_
        simp only [Act.put, List.setIfInBounds_toArray, List.set_cons_succ, List.set_cons_zero]
        by_cases h79 : 0 ≤ (mNext b ((c + 1 : Nat) : Int))
        · refine plVal (i := 1) (v := .bool true) rfl (by kernel_rfl) (boolTo (decide_eq_true h79) (gGeq (A := (mNext b ((c + 1 : Nat) : Int))) (B := 0) (.tmp 118) (.const (.int .i64 0)) rfl (by kernel_rfl) (by kernel_rfl))) ?_
          simp only [Act.put, List.setIfInBounds_toArray, List.set_cons_succ, List.set_cons_zero]
          refine plVal (i := 2) (v := .bool true) rfl (by kernel_rfl) (by kernel_rfl) ?_
          simp only [Act.put, List.setIfInBounds_toArray, List.set_cons_succ, List.set_cons_zero]
          refine plVal (i := 3) (v := .int .i64 (mNext b ((c + 1 : Nat) : Int))) rfl (by kernel_rfl) (by kernel_rfl) ?_
          simp only [Act.put, List.setIfInBounds_toArray, List.set_cons_succ, List.set_cons_zero]
          refine plVal (i := 4) (v := .int .i64 (c : Int)) rfl (by kernel_rfl) (by kernel_rfl) ?_
          simp only [Act.put, List.setIfInBounds_toArray, List.set_cons_succ, List.set_cons_zero]
          refine plVal (i := 5) (v := .bool false) rfl (by kernel_rfl) (boolTo (decide_eq_false (by omega)) (leqRun (A := (mNext b ((c + 1 : Nat) : Int))) (B := (c : Int)) (.tmp 121) (.tmp 122) rfl (by kernel_rfl) (by kernel_rfl))) ?_
          simp only [Act.put, List.setIfInBounds_toArray, List.set_cons_succ, List.set_cons_zero]
          refine plVal (i := 6) (v := .bool false) rfl (by kernel_rfl) (by kernel_rfl) ?_
          refine plDone (by decide) ?_
          simp only [Act.put, List.setIfInBounds_toArray, List.set_cons_succ, List.set_cons_zero]
          refine then_normal (hK78 _ _ ?_)
          refine wp_cond_false (by kernel_rfl) ?_
          refine wp_skip ?_
          refine inBlock_normal ?_
          refine then_normal ?_
          exact ⟨_, by omega, (V ++ [c]), (c + 1), (mNext b ((c + 1 : Nat) : Int)), (v + 1), rfl, by rw [List.length_append, List.length_singleton]; omega, rfl, hV2, ⟨by kernel_rfl, rfl, ⟨by kernel_rfl, ⟨by kernel_rfl, ⟨by kernel_rfl, ⟨by kernel_rfl, ⟨by kernel_rfl, ⟨by kernel_rfl, ⟨by kernel_rfl, ⟨by kernel_rfl, ⟨by kernel_rfl, ⟨by kernel_rfl, trivial⟩⟩⟩⟩⟩⟩⟩⟩⟩⟩⟩, (hm77.firsts 1)⟩
        · refine plVal (i := 1) (v := .bool false) rfl (by kernel_rfl) (boolTo (decide_eq_false h79) (gGeq (A := (mNext b ((c + 1 : Nat) : Int))) (B := 0) (.tmp 118) (.const (.int .i64 0)) rfl (by kernel_rfl) (by kernel_rfl))) ?_
          simp only [Act.put, List.setIfInBounds_toArray, List.set_cons_succ, List.set_cons_zero]
          refine plVal (i := 2) (v := .bool false) rfl (by kernel_rfl) (by kernel_rfl) ?_
          simp only [Act.put, List.setIfInBounds_toArray, List.set_cons_succ, List.set_cons_zero]
          refine plSkip (i := 3) rfl (by kernel_rfl) ?_
          simp only [Act.put, List.setIfInBounds_toArray, List.set_cons_succ, List.set_cons_zero]
          refine plSkip (i := 4) rfl (by kernel_rfl) ?_
          simp only [Act.put, List.setIfInBounds_toArray, List.set_cons_succ, List.set_cons_zero]
          refine plSkip (i := 5) rfl (by kernel_rfl) ?_
          simp only [Act.put, List.setIfInBounds_toArray, List.set_cons_succ, List.set_cons_zero]
          refine plVal (i := 6) (v := .bool false) rfl (by kernel_rfl) (by kernel_rfl) ?_
          refine plDone (by decide) ?_
          simp only [Act.put, List.setIfInBounds_toArray, List.set_cons_succ, List.set_cons_zero]
          refine then_normal (hK78 _ _ ?_)
          refine wp_cond_false (by kernel_rfl) ?_
          refine wp_skip ?_
          refine inBlock_normal ?_
          refine then_normal ?_
          exact ⟨_, by omega, (V ++ [c]), (c + 1), (mNext b ((c + 1 : Nat) : Int)), (v + 1), rfl, by rw [List.length_append, List.length_singleton]; omega, rfl, hV2, ⟨by kernel_rfl, rfl, ⟨by kernel_rfl, ⟨by kernel_rfl, ⟨by kernel_rfl, ⟨by kernel_rfl, ⟨by kernel_rfl, ⟨by kernel_rfl, ⟨by kernel_rfl, ⟨by kernel_rfl, ⟨by kernel_rfl, ⟨by kernel_rfl, trivial⟩⟩⟩⟩⟩⟩⟩⟩⟩⟩⟩, (hm77.firsts 1)⟩
      · refine plVal (i := 1) (v := .bool false) rfl (by kernel_rfl) (boolTo (decide_eq_false h59) (gGeq (A := (c : Int)) (B := 0) (.tmp 90) (.const (.int .i64 0)) rfl (by kernel_rfl) (by kernel_rfl))) ?_
        simp only [Act.put, List.setIfInBounds_toArray, List.set_cons_succ, List.set_cons_zero]
        refine plVal (i := 2) (v := .bool false) rfl (by kernel_rfl) (by kernel_rfl) ?_
        simp only [Act.put, List.setIfInBounds_toArray, List.set_cons_succ, List.set_cons_zero]
        refine plSkip (i := 3) rfl (by kernel_rfl) ?_
        simp only [Act.put, List.setIfInBounds_toArray, List.set_cons_succ, List.set_cons_zero]
        refine plSkip (i := 4) rfl (by kernel_rfl) ?_
        simp only [Act.put, List.setIfInBounds_toArray, List.set_cons_succ, List.set_cons_zero]
        refine plSkip (i := 5) rfl (by kernel_rfl) ?_
        simp only [Act.put, List.setIfInBounds_toArray, List.set_cons_succ, List.set_cons_zero]
        refine plVal (i := 6) (v := .bool false) rfl (by kernel_rfl) (by kernel_rfl) ?_
        refine plDone (by decide) ?_
        simp only [Act.put, List.setIfInBounds_toArray, List.set_cons_succ, List.set_cons_zero]
        refine then_normal (hK57 _ _ ?_)
        refine wp_cond_false (by kernel_rfl) ?_
        refine wp_exit ?_
        refine then_exit ?_
        refine then_exit ?_
        refine inBlock_exit ?_
        refine then_normal (hK51 _ _ ?_)
        refine wp_seq_k fun K80 hK80 => ?_
        refine plStart ?_
        refine plCall (i := 0) 21 [] [] [] rfl (by kernel_rfl) (by kernel_rfl) rfl (by kernel_rfl) (by kernel_rfl) (sanity_any _) ?_
        rintro e w81 ⟨rfl, hbz⟩
        have hm82 := hm53.below hbz
        clear hbz hm53
        refine ⟨_, rfl, ?_⟩
        simp only [Act.put, List.setIfInBounds_toArray, List.set_cons_succ, List.set_cons_zero]
        refine plVal (i := 1) (v := .bool true) rfl (by kernel_rfl) (by kernel_rfl) ?_
        simp only [Act.put, List.setIfInBounds_toArray, List.set_cons_succ, List.set_cons_zero]
        refine plVal (i := 2) (v := .int .i64 (v : Int)) rfl (by kernel_rfl) (by kernel_rfl) ?_
        simp only [Act.put, List.setIfInBounds_toArray, List.set_cons_succ, List.set_cons_zero]
        refine plVal (i := 3) (v := .int .i64 (N : Int)) rfl (by kernel_rfl) (by kernel_rfl) ?_
        simp only [Act.put, List.setIfInBounds_toArray, List.set_cons_succ, List.set_cons_zero]
        refine plVal (i := 4) (v := .bool true) rfl (by kernel_rfl) (boolTo (decide_eq_true (by omega)) (eqlRun (A := (v : Int)) (B := (N : Int)) (.tmp 127) (.tmp 128) rfl (by kernel_rfl) (by kernel_rfl))) ?_
        simp only [Act.put, List.setIfInBounds_toArray, List.set_cons_succ, List.set_cons_zero]
        refine plVal (i := 5) (v := .bool true) rfl (by kernel_rfl) (by kernel_rfl) ?_
        simp only [Act.put, List.setIfInBounds_toArray, List.set_cons_succ, List.set_cons_zero]
        refine plVal (i := 6) (v := .bool true) rfl (by kernel_rfl) (by kernel_rfl) ?_
        refine plDone (by decide) ?_
        simp only [Act.put, List.setIfInBounds_toArray, List.set_cons_succ, List.set_cons_zero]
        refine then_normal (hK80 _ _ ?_)
        refine wp_ret ?_
        refine bodyPost_ret (v := .bool true) (gRes1 rfl (gResTmp (t := 2) (v := .bool true) (by kernel_rfl))) rfl ?_
        exact ⟨by first | rfl | simp_all, hm82.bel⟩
    · have hdone := hV.done (hnn ▸ Int.not_le.1 h58)
      refine plVal (i := 1) (v := .bool false) rfl (by kernel_rfl) (boolTo (decide_eq_false h58) (gGeq (A := nn) (B := 0) (.tmp 90) (.const (.int .i64 0)) rfl (by kernel_rfl) (by kernel_rfl))) ?_
      simp only [Act.put, List.setIfInBounds_toArray, List.set_cons_succ, List.set_cons_zero]
      refine plVal (i := 2) (v := .bool false) rfl (by kernel_rfl) (by kernel_rfl) ?_
      simp only [Act.put, List.setIfInBounds_toArray, List.set_cons_succ, List.set_cons_zero]
      refine plSkip (i := 3) rfl (by kernel_rfl) ?_
      simp only [Act.put, List.setIfInBounds_toArray, List.set_cons_succ, List.set_cons_zero]
      refine plSkip (i := 4) rfl (by kernel_rfl) ?_
      simp only [Act.put, List.setIfInBounds_toArray, List.set_cons_succ, List.set_cons_zero]
      refine plSkip (i := 5) rfl (by kernel_rfl) ?_
      simp only [Act.put, List.setIfInBounds_toArray, List.set_cons_succ, List.set_cons_zero]
      refine plVal (i := 6) (v := .bool false) rfl (by kernel_rfl) (by kernel_rfl) ?_
      refine plDone (by decide) ?_
      simp only [Act.put, List.setIfInBounds_toArray, List.set_cons_succ, List.set_cons_zero]
      refine then_normal (hK57 _ _ ?_)
      refine wp_cond_false (by kernel_rfl) ?_
      refine wp_exit ?_
      refine then_exit ?_
      refine then_exit ?_
      refine inBlock_exit ?_
      refine then_normal (hK51 _ _ ?_)
      refine wp_seq_k fun K83 hK83 => ?_
      refine plStart ?_
      refine plCall (i := 0) 21 [] [] [] rfl (by kernel_rfl) (by kernel_rfl) rfl (by kernel_rfl) (by kernel_rfl) (sanity_any _) ?_
      rintro e w84 ⟨rfl, hbz⟩
      have hm85 := hm53.below hbz
      clear hbz hm53
      refine ⟨_, rfl, ?_⟩
      simp only [Act.put, List.setIfInBounds_toArray, List.set_cons_succ, List.set_cons_zero]
      refine plVal (i := 1) (v := .bool true) rfl (by kernel_rfl) (by kernel_rfl) ?_
      simp only [Act.put, List.setIfInBounds_toArray, List.set_cons_succ, List.set_cons_zero]
      refine plVal (i := 2) (v := .int .i64 (v : Int)) rfl (by kernel_rfl) (by kernel_rfl) ?_
      simp only [Act.put, List.setIfInBounds_toArray, List.set_cons_succ, List.set_cons_zero]
      refine plVal (i := 3) (v := .int .i64 (N : Int)) rfl (by kernel_rfl) (by kernel_rfl) ?_
      simp only [Act.put, List.setIfInBounds_toArray, List.set_cons_succ, List.set_cons_zero]
      refine plVal (i := 4) (v := .bool true) rfl (by kernel_rfl) (boolTo (decide_eq_true (by omega)) (eqlRun (A := (v : Int)) (B := (N : Int)) (.tmp 127) (.tmp 128) rfl (by kernel_rfl) (by kernel_rfl))) ?_
      simp only [Act.put, List.setIfInBounds_toArray, List.set_cons_succ, List.set_cons_zero]
      refine plVal (i := 5) (v := .bool true) rfl (by kernel_rfl) (by kernel_rfl) ?_
      simp only [Act.put, List.setIfInBounds_toArray, List.set_cons_succ, List.set_cons_zero]
      refine plVal (i := 6) (v := .bool true) rfl (by kernel_rfl) (by kernel_rfl) ?_
      refine plDone (by decide) ?_
      simp only [Act.put, List.setIfInBounds_toArray, List.set_cons_succ, List.set_cons_zero]
      refine then_normal (hK83 _ _ ?_)
      refine wp_ret ?_
      refine bodyPost_ret (v := .bool true) (gRes1 rfl (gResTmp (t := 2) (v := .bool true) (by kernel_rfl))) rfl ?_
      exact ⟨by first | rfl | simp_all, hm85.bel⟩
set_option maxRecDepth 100000 in
set_option maxHeartbeats 4000000 in
theorem visit_no (b : Bx) (hno : ¬ (b.small ∧ wrap64 (b.mx.x - b.mn.x) ≤ 10 ∧ wrap64 (b.mx.y - b.mn.y) ≤ 10 ∧ wrap64 (b.mx.z - b.mn.z) ≤ 10)) (w : World) : Calls Try.prog 7 #[.agg (bxs b).toArray] w (RetB w true) := by
  have hm0 := Mem.nil w
  go_enter Try.func7, Try.ntmps7
  refine wp_seq_k fun K1 hK1 => ?_
  refine plStart ?_
  refine plBox hm0 (cs := bxs b) (i := 0) rfl (by kernel_rfl) rfl (by kernel_rfl) ?_
  intro g2 w4 hm3
  clear hm0
  simp only [List.cons_append, List.nil_append, List.set_cons_succ, List.set_cons_zero] at hm3
  simp only [Act.put, List.setIfInBounds_toArray, List.set_cons_succ, List.set_cons_zero]
  refine plVal (i := 1) (v := .bool false) rfl (by kernel_rfl) (by kernel_rfl) ?_
  refine plDone (by decide) ?_
  simp only [Act.put, List.setIfInBounds_toArray, List.set_cons_succ, List.set_cons_zero]
  refine then_normal (hK1 _ _ ?_)
  refine wp_seq_k fun K5 hK5 => ?_
  refine plStart ?_
  refine plVal (i := 0) (v := .agg (bxs b).toArray) rfl (by kernel_rfl) (gLoadAg (vs := bxs b) (k := 0) 0 hm3 rfl (by kernel_rfl) (by kernel_rfl) (.tmp 1) Ty.ag_voxel_api_Box rfl (by kernel_rfl)) ?_
  simp only [Act.put, List.setIfInBounds_toArray, List.set_cons_succ, List.set_cons_zero]
  refine plCall (i := 1) 31 [.agg (bxs b).toArray] [] [] rfl (by kernel_rfl) (by kernel_rfl) rfl (by kernel_rfl) (by kernel_rfl) (small_any b _) ?_
  rintro e w6 ⟨rfl, hbz⟩
  have hm7 := hm3.below hbz
  clear hbz hm3
  refine ⟨_, rfl, ?_⟩
  simp only [Act.put, List.setIfInBounds_toArray, List.set_cons_succ, List.set_cons_zero]
  rcases bool_or (decide b.small) with h8 | h8
  · rw [h8]
    refine plVal (i := 2) (v := .bool false) rfl (by kernel_rfl) (by kernel_rfl) ?_
    refine plDone (by decide) ?_
    simp only [Act.put, List.setIfInBounds_toArray, List.set_cons_succ, List.set_cons_zero]
    refine then_normal (hK5 _ _ ?_)
    refine wp_seq_k fun K9 hK9 => ?_
    refine wp_seq_k fun K10 hK10 => ?_
    refine plStart ?_
    refine plVal (i := 0) (v := .bool false) rfl (by kernel_rfl) (by kernel_rfl) ?_
    simp only [Act.put, List.setIfInBounds_toArray, List.set_cons_succ, List.set_cons_zero]
    refine plVal (i := 1) (v := .bool true) rfl (by kernel_rfl) (by kernel_rfl) ?_
    simp only [Act.put, List.setIfInBounds_toArray, List.set_cons_succ, List.set_cons_zero]
    refine plVal (i := 2) (v := .bool true) rfl (by kernel_rfl) (by kernel_rfl) ?_
    simp only [Act.put, List.setIfInBounds_toArray, List.set_cons_succ, List.set_cons_zero]
    refine plSkip (i := 3) rfl (by kernel_rfl) ?_
    simp only [Act.put, List.setIfInBounds_toArray, List.set_cons_succ, List.set_cons_zero]
    refine plSkip (i := 4) rfl (by kernel_rfl) ?_
    simp only [Act.put, List.setIfInBounds_toArray, List.set_cons_succ, List.set_cons_zero]
    refine plSkip (i := 5) rfl (by kernel_rfl) ?_
    simp only [Act.put, List.setIfInBounds_toArray, List.set_cons_succ, List.set_cons_zero]
    refine plSkip (i := 6) rfl (by kernel_rfl) ?_
    simp only [Act.put, List.setIfInBounds_toArray, List.set_cons_succ, List.set_cons_zero]
    refine plSkip (i := 7) rfl (by kernel_rfl) ?_
    simp only [Act.put, List.setIfInBounds_toArray, List.set_cons_succ, List.set_cons_zero]
    refine plSkip (i := 8) rfl (by kernel_rfl) ?_
    simp only [Act.put, List.setIfInBounds_toArray, List.set_cons_succ, List.set_cons_zero]
    refine plSkip (i := 9) rfl (by kernel_rfl) ?_
    simp only [Act.put, List.setIfInBounds_toArray, List.set_cons_succ, List.set_cons_zero]
    refine plSkip (i := 10) rfl (by kernel_rfl) ?_
    simp only [Act.put, List.setIfInBounds_toArray, List.set_cons_succ, List.set_cons_zero]
    refine plVal (i := 11) (v := .bool true) rfl (by kernel_rfl) (by kernel_rfl) ?_
    simp only [Act.put, List.setIfInBounds_toArray, List.set_cons_succ, List.set_cons_zero]
    refine plVal (i := 12) (v := .bool true) rfl (by kernel_rfl) (by kernel_rfl) ?_
    simp only [Act.put, List.setIfInBounds_toArray, List.set_cons_succ, List.set_cons_zero]
    refine plSkip (i := 13) rfl (by kernel_rfl) ?_
    simp only [Act.put, List.setIfInBounds_toArray, List.set_cons_succ, List.set_cons_zero]
    refine plSkip (i := 14) rfl (by kernel_rfl) ?_
    simp only [Act.put, List.setIfInBounds_toArray, List.set_cons_succ, List.set_cons_zero]
    refine plSkip (i := 15) rfl (by kernel_rfl) ?_
    simp only [Act.put, List.setIfInBounds_toArray, List.set_cons_succ, List.set_cons_zero]
    refine plSkip (i := 16) rfl (by kernel_rfl) ?_
    simp only [Act.put, List.setIfInBounds_toArray, List.set_cons_succ, List.set_cons_zero]
    refine plSkip (i := 17) rfl (by kernel_rfl) ?_
    simp only [Act.put, List.setIfInBounds_toArray, List.set_cons_succ, List.set_cons_zero]
    refine plSkip (i := 18) rfl (by kernel_rfl) ?_
    simp only [Act.put, List.setIfInBounds_toArray, List.set_cons_succ, List.set_cons_zero]
    refine plSkip (i := 19) rfl (by kernel_rfl) ?_
    simp only [Act.put, List.setIfInBounds_toArray, List.set_cons_succ, List.set_cons_zero]
    refine plSkip (i := 20) rfl (by kernel_rfl) ?_
    simp only [Act.put, List.setIfInBounds_toArray, List.set_cons_succ, List.set_cons_zero]
    refine plVal (i := 21) (v := .bool true) rfl (by kernel_rfl) (by kernel_rfl) ?_
    simp only [Act.put, List.setIfInBounds_toArray, List.set_cons_succ, List.set_cons_zero]
    refine plVal (i := 22) (v := .bool true) rfl (by kernel_rfl) (by kernel_rfl) ?_
    simp only [Act.put, List.setIfInBounds_toArray, List.set_cons_succ, List.set_cons_zero]
    refine plSkip (i := 23) rfl (by kernel_rfl) ?_
    simp only [Act.put, List.setIfInBounds_toArray, List.set_cons_succ, List.set_cons_zero]
    refine plSkip (i := 24) rfl (by kernel_rfl) ?_
    simp only [Act.put, List.setIfInBounds_toArray, List.set_cons_succ, List.set_cons_zero]
    refine plSkip (i := 25) rfl (by kernel_rfl) ?_
    simp only [Act.put, List.setIfInBounds_toArray, List.set_cons_succ, List.set_cons_zero]
    refine plSkip (i := 26) rfl (by kernel_rfl) ?_
    simp only [Act.put, List.setIfInBounds_toArray, List.set_cons_succ, List.set_cons_zero]
    refine plSkip (i := 27) rfl (by kernel_rfl) ?_
    simp only [Act.put, List.setIfInBounds_toArray, List.set_cons_succ, List.set_cons_zero]
    refine plSkip (i := 28) rfl (by kernel_rfl) ?_
    simp only [Act.put, List.setIfInBounds_toArray, List.set_cons_succ, List.set_cons_zero]
    refine plSkip (i := 29) rfl (by kernel_rfl) ?_
    simp only [Act.put, List.setIfInBounds_toArray, List.set_cons_succ, List.set_cons_zero]
    refine plSkip (i := 30) rfl (by kernel_rfl) ?_
    simp only [Act.put, List.setIfInBounds_toArray, List.set_cons_succ, List.set_cons_zero]
    refine plVal (i := 31) (v := .bool true) rfl (by kernel_rfl) (by kernel_rfl) ?_
    refine plDone (by decide) ?_
    simp only [Act.put, List.setIfInBounds_toArray, List.set_cons_succ, List.set_cons_zero]
    refine then_normal (hK10 _ _ ?_)
    refine wp_cond_true (by kernel_rfl) ?_
    refine wp_seq_k fun K11 hK11 => ?_
    refine plStart ?_
    refine plCall (i := 0) 21 [] [] [] rfl (by kernel_rfl) (by kernel_rfl) rfl (by kernel_rfl) (by kernel_rfl) (sanity_any _) ?_
    rintro e w12 ⟨rfl, hbz⟩
    have hm13 := hm7.below hbz
    clear hbz hm7
    refine ⟨_, rfl, ?_⟩
    simp only [Act.put, List.setIfInBounds_toArray, List.set_cons_succ, List.set_cons_zero]
    refine plVal (i := 1) (v := .bool true) rfl (by kernel_rfl) (by kernel_rfl) ?_
    refine plDone (by decide) ?_
    simp only [Act.put, List.setIfInBounds_toArray, List.set_cons_succ, List.set_cons_zero]
    refine then_normal (hK11 _ _ ?_)
    refine wp_ret ?_
    refine then_ret ?_
    refine bodyPost_ret (v := .bool true) (gRes1 rfl (gResTmp (t := 2) (v := .bool true) (by kernel_rfl))) rfl ?_
    exact ⟨by first | rfl | simp_all, hm13.bel⟩
  · rw [h8]
    refine plVal (i := 2) (v := .bool true) rfl (by kernel_rfl) (by kernel_rfl) ?_
    refine plDone (by decide) ?_
    simp only [Act.put, List.setIfInBounds_toArray, List.set_cons_succ, List.set_cons_zero]
    refine then_normal (hK5 _ _ ?_)
    refine wp_seq_k fun K14 hK14 => ?_
    refine wp_seq_k fun K15 hK15 => ?_
    refine plStart ?_
    refine plVal (i := 0) (v := .bool true) rfl (by kernel_rfl) (by kernel_rfl) ?_
    simp only [Act.put, List.setIfInBounds_toArray, List.set_cons_succ, List.set_cons_zero]
    refine plVal (i := 1) (v := .bool false) rfl (by kernel_rfl) (by kernel_rfl) ?_
    simp only [Act.put, List.setIfInBounds_toArray, List.set_cons_succ, List.set_cons_zero]
    refine plVal (i := 2) (v := .bool false) rfl (by kernel_rfl) (by kernel_rfl) ?_
    simp only [Act.put, List.setIfInBounds_toArray, List.set_cons_succ, List.set_cons_zero]
    refine plVal (i := 3) (v := .pointer (some ⟨g2, 3, none⟩)) rfl (by kernel_rfl) (by kernel_rfl) ?_
    simp only [Act.put, List.setIfInBounds_toArray, List.set_cons_succ, List.set_cons_zero]
    refine plVal (i := 4) (v := .pointer (some ⟨g2, 3, none⟩)) rfl (by kernel_rfl) (by kernel_rfl) ?_
    simp only [Act.put, List.setIfInBounds_toArray, List.set_cons_succ, List.set_cons_zero]
    refine plVal (i := 5) (v := .int .i64 b.mx.x) rfl (by kernel_rfl) (gLoad (v := .int .i64 b.mx.x) (k := 3) 0 hm7 rfl (by kernel_rfl) (.tmp 21) (by kernel_rfl) rfl (by kernel_rfl)) ?_
    simp only [Act.put, List.setIfInBounds_toArray, List.set_cons_succ, List.set_cons_zero]
    refine plVal (i := 6) (v := .pointer (some ⟨g2, 0, none⟩)) rfl (by kernel_rfl) (by kernel_rfl) ?_
    simp only [Act.put, List.setIfInBounds_toArray, List.set_cons_succ, List.set_cons_zero]
    refine plVal (i := 7) (v := .pointer (some ⟨g2, 0, none⟩)) rfl (by kernel_rfl) (by kernel_rfl) ?_
    simp only [Act.put, List.setIfInBounds_toArray, List.set_cons_succ, List.set_cons_zero]
    refine plVal (i := 8) (v := .int .i64 b.mn.x) rfl (by kernel_rfl) (gLoad (v := .int .i64 b.mn.x) (k := 0) 0 hm7 rfl (by kernel_rfl) (.tmp 24) (by kernel_rfl) rfl (by kernel_rfl)) ?_
    simp only [Act.put, List.setIfInBounds_toArray, List.set_cons_succ, List.set_cons_zero]
    refine plVal (i := 9) (v := .int .i64 (wrap64 (b.mx.x - b.mn.x))) rfl (by kernel_rfl) (gSubW (A := b.mx.x) (B := b.mn.x) (.tmp 22) (.tmp 25) rfl (by kernel_rfl) (by kernel_rfl)) ?_
    simp only [Act.put, List.setIfInBounds_toArray, List.set_cons_succ, List.set_cons_zero]
    by_cases h16 : 10 < (wrap64 (b.mx.x - b.mn.x))
    · refine plVal (i := 10) (v := .bool true) rfl (by kernel_rfl) (boolTo (decide_eq_true h16) (gtrRun (A := (wrap64 (b.mx.x - b.mn.x))) (B := 10) (.tmp 26) (.const (.int .i64 10)) rfl (by kernel_rfl) (by kernel_rfl))) ?_
      simp only [Act.put, List.setIfInBounds_toArray, List.set_cons_succ, List.set_cons_zero]
      refine plVal (i := 11) (v := .bool true) rfl (by kernel_rfl) (by kernel_rfl) ?_
      simp only [Act.put, List.setIfInBounds_toArray, List.set_cons_succ, List.set_cons_zero]
      refine plVal (i := 12) (v := .bool true) rfl (by kernel_rfl) (by kernel_rfl) ?_
      simp only [Act.put, List.setIfInBounds_toArray, List.set_cons_succ, List.set_cons_zero]
      refine plSkip (i := 13) rfl (by kernel_rfl) ?_
      simp only [Act.put, List.setIfInBounds_toArray, List.set_cons_succ, List.set_cons_zero]
      refine plSkip (i := 14) rfl (by kernel_rfl) ?_
      simp only [Act.put, List.setIfInBounds_toArray, List.set_cons_succ, List.set_cons_zero]
      refine plSkip (i := 15) rfl (by kernel_rfl) ?_
      simp only [Act.put, List.setIfInBounds_toArray, List.set_cons_succ, List.set_cons_zero]
      refine plSkip (i := 16) rfl (by kernel_rfl) ?_
      simp only [Act.put, List.setIfInBounds_toArray, List.set_cons_succ, List.set_cons_zero]
      refine plSkip (i := 17) rfl (by kernel_rfl) ?_
      simp only [Act.put, List.setIfInBounds_toArray, List.set_cons_succ, List.set_cons_zero]
      refine plSkip (i := 18) rfl (by kernel_rfl) ?_
      simp only [Act.put, List.setIfInBounds_toArray, List.set_cons_succ, List.set_cons_zero]
      refine plSkip (i := 19) rfl (by kernel_rfl) ?_
      simp only [Act.put, List.setIfInBounds_toArray, List.set_cons_succ, List.set_cons_zero]
      refine plSkip (i := 20) rfl (by kernel_rfl) ?_
      simp only [Act.put, List.setIfInBounds_toArray, List.set_cons_succ, List.set_cons_zero]
      refine plVal (i := 21) (v := .bool true) rfl (by kernel_rfl) (by kernel_rfl) ?_
      simp only [Act.put, List.setIfInBounds_toArray, List.set_cons_succ, List.set_cons_zero]
      refine plVal (i := 22) (v := .bool true) rfl (by kernel_rfl) (by kernel_rfl) ?_
      simp only [Act.put, List.setIfInBounds_toArray, List.set_cons_succ, List.set_cons_zero]
      refine plSkip (i := 23) rfl (by kernel_rfl) ?_
      simp only [Act.put, List.setIfInBounds_toArray, List.set_cons_succ, List.set_cons_zero]
      refine plSkip (i := 24) rfl (by kernel_rfl) ?_
      simp only [Act.put, List.setIfInBounds_toArray, List.set_cons_succ, List.set_cons_zero]
      refine plSkip (i := 25) rfl (by kernel_rfl) ?_
      simp only [Act.put, List.setIfInBounds_toArray, List.set_cons_succ, List.set_cons_zero]
      refine plSkip (i := 26) rfl (by kernel_rfl) ?_
      simp only [Act.put, List.setIfInBounds_toArray, List.set_cons_succ, List.set_cons_zero]
      refine plSkip (i := 27) rfl (by kernel_rfl) ?_
      simp only [Act.put, List.setIfInBounds_toArray, List.set_cons_succ, List.set_cons_zero]
      refine plSkip (i := 28) rfl (by kernel_rfl) ?_
      simp only [Act.put, List.setIfInBounds_toArray, List.set_cons_succ, List.set_cons_zero]
      refine plSkip (i := 29) rfl (by kernel_rfl) ?_
      simp only [Act.put, List.setIfInBounds_toArray, List.set_cons_succ, List.set_cons_zero]
      refine plSkip (i := 30) rfl (by kernel_rfl) ?_
      simp only [Act.put, List.setIfInBounds_toArray, List.set_cons_succ, List.set_cons_zero]
      refine plVal (i := 31) (v := .bool true) rfl (by kernel_rfl) (by kernel_rfl) ?_
      refine plDone (by decide) ?_
      simp only [Act.put, List.setIfInBounds_toArray, List.set_cons_succ, List.set_cons_zero]
      refine then_normal (hK15 _ _ ?_)
      refine wp_cond_true (by kernel_rfl) ?_
      refine wp_seq_k fun K17 hK17 => ?_
      refine plStart ?_
      refine plCall (i := 0) 21 [] [] [] rfl (by kernel_rfl) (by kernel_rfl) rfl (by kernel_rfl) (by kernel_rfl) (sanity_any _) ?_
      rintro e w18 ⟨rfl, hbz⟩
      have hm19 := hm7.below hbz
      clear hbz hm7
      refine ⟨_, rfl, ?_⟩
      simp only [Act.put, List.setIfInBounds_toArray, List.set_cons_succ, List.set_cons_zero]
      refine plVal (i := 1) (v := .bool true) rfl (by kernel_rfl) (by kernel_rfl) ?_
      refine plDone (by decide) ?_
      simp only [Act.put, List.setIfInBounds_toArray, List.set_cons_succ, List.set_cons_zero]
      refine then_normal (hK17 _ _ ?_)
      refine wp_ret ?_
      refine then_ret ?_
      refine bodyPost_ret (v := .bool true) (gRes1 rfl (gResTmp (t := 2) (v := .bool true) (by kernel_rfl))) rfl ?_
      exact ⟨by first | rfl | simp_all, hm19.bel⟩
    · refine plVal (i := 10) (v := .bool false) rfl (by kernel_rfl) (boolTo (decide_eq_false h16) (gtrRun (A := (wrap64 (b.mx.x - b.mn.x))) (B := 10) (.tmp 26) (.const (.int .i64 10)) rfl (by kernel_rfl) (by kernel_rfl))) ?_
      simp only [Act.put, List.setIfInBounds_toArray, List.set_cons_succ, List.set_cons_zero]
      refine plVal (i := 11) (v := .bool false) rfl (by kernel_rfl) (by kernel_rfl) ?_
      simp only [Act.put, List.setIfInBounds_toArray, List.set_cons_succ, List.set_cons_zero]
      refine plVal (i := 12) (v := .bool false) rfl (by kernel_rfl) (by kernel_rfl) ?_
      simp only [Act.put, List.setIfInBounds_toArray, List.set_cons_succ, List.set_cons_zero]
      refine plVal (i := 13) (v := .pointer (some ⟨g2, 3, none⟩)) rfl (by kernel_rfl) (by kernel_rfl) ?_
      simp only [Act.put, List.setIfInBounds_toArray, List.set_cons_succ, List.set_cons_zero]
      refine plVal (i := 14) (v := .pointer (some ⟨g2, 4, none⟩)) rfl (by kernel_rfl) (by kernel_rfl) ?_
      simp only [Act.put, List.setIfInBounds_toArray, List.set_cons_succ, List.set_cons_zero]
      refine plVal (i := 15) (v := .int .i64 b.mx.y) rfl (by kernel_rfl) (gLoad (v := .int .i64 b.mx.y) (k := 4) 0 hm7 rfl (by kernel_rfl) (.tmp 31) (by kernel_rfl) rfl (by kernel_rfl)) ?_
      simp only [Act.put, List.setIfInBounds_toArray, List.set_cons_succ, List.set_cons_zero]
      refine plVal (i := 16) (v := .pointer (some ⟨g2, 0, none⟩)) rfl (by kernel_rfl) (by kernel_rfl) ?_
      simp only [Act.put, List.setIfInBounds_toArray, List.set_cons_succ, List.set_cons_zero]
      refine plVal (i := 17) (v := .pointer (some ⟨g2, 1, none⟩)) rfl (by kernel_rfl) (by kernel_rfl) ?_
      simp only [Act.put, List.setIfInBounds_toArray, List.set_cons_succ, List.set_cons_zero]
      refine plVal (i := 18) (v := .int .i64 b.mn.y) rfl (by kernel_rfl) (gLoad (v := .int .i64 b.mn.y) (k := 1) 0 hm7 rfl (by kernel_rfl) (.tmp 34) (by kernel_rfl) rfl (by kernel_rfl)) ?_
      simp only [Act.put, List.setIfInBounds_toArray, List.set_cons_succ, List.set_cons_zero]
      refine plVal (i := 19) (v := .int .i64 (wrap64 (b.mx.y - b.mn.y))) rfl (by kernel_rfl) (gSubW (A := b.mx.y) (B := b.mn.y) (.tmp 32) (.tmp 35) rfl (by kernel_rfl) (by kernel_rfl)) ?_
      simp only [Act.put, List.setIfInBounds_toArray, List.set_cons_succ, List.set_cons_zero]
      by_cases h20 : 10 < (wrap64 (b.mx.y - b.mn.y))
      · refine plVal (i := 20) (v := .bool true) rfl (by kernel_rfl) (boolTo (decide_eq_true h20) (gtrRun (A := (wrap64 (b.mx.y - b.mn.y))) (B := 10) (.tmp 36) (.const (.int .i64 10)) rfl (by kernel_rfl) (by kernel_rfl))) ?_
        simp only [Act.put, List.setIfInBounds_toArray, List.set_cons_succ, List.set_cons_zero]
        refine plVal (i := 21) (v := .bool true) rfl (by kernel_rfl) (by kernel_rfl) ?_
        simp only [Act.put, List.setIfInBounds_toArray, List.set_cons_succ, List.set_cons_zero]
        refine plVal (i := 22) (v := .bool true) rfl (by kernel_rfl) (by kernel_rfl) ?_
        simp only [Act.put, List.setIfInBounds_toArray, List.set_cons_succ, List.set_cons_zero]
        refine plSkip (i := 23) rfl (by kernel_rfl) ?_
        simp only [Act.put, List.setIfInBounds_toArray, List.set_cons_succ, List.set_cons_zero]
        refine plSkip (i := 24) rfl (by kernel_rfl) ?_
        simp only [Act.put, List.setIfInBounds_toArray, List.set_cons_succ, List.set_cons_zero]
        refine plSkip (i := 25) rfl (by kernel_rfl) ?_
        simp only [Act.put, List.setIfInBounds_toArray, List.set_cons_succ, List.set_cons_zero]
        refine plSkip (i := 26) rfl (by kernel_rfl) ?_
        simp only [Act.put, List.setIfInBounds_toArray, List.set_cons_succ, List.set_cons_zero]
        refine plSkip (i := 27) rfl (by kernel_rfl) ?_
        simp only [Act.put, List.setIfInBounds_toArray, List.set_cons_succ, List.set_cons_zero]
        refine plSkip (i := 28) rfl (by kernel_rfl) ?_
        simp only [Act.put, List.setIfInBounds_toArray, List.set_cons_succ, List.set_cons_zero]
        refine plSkip (i := 29) rfl (by kernel_rfl) ?_
        simp only [Act.put, List.setIfInBounds_toArray, List.set_cons_succ, List.set_cons_zero]
        refine plSkip (i := 30) rfl (by kernel_rfl) ?_
        simp only [Act.put, List.setIfInBounds_toArray, List.set_cons_succ, List.set_cons_zero]
        refine plVal (i := 31) (v := .bool true) rfl (by kernel_rfl) (by kernel_rfl) ?_
        refine plDone (by decide) ?_
        simp only [Act.put, List.setIfInBounds_toArray, List.set_cons_succ, List.set_cons_zero]
        refine then_normal (hK15 _ _ ?_)
        refine wp_cond_true (by kernel_rfl) ?_
        refine wp_seq_k fun K21 hK21 => ?_
        refine plStart ?_
        refine plCall (i := 0) 21 [] [] [] rfl (by kernel_rfl) (by kernel_rfl) rfl (by kernel_rfl) (by kernel_rfl) (sanity_any _) ?_
        rintro e w22 ⟨rfl, hbz⟩
        have hm23 := hm7.below hbz
        clear hbz hm7
        refine ⟨_, rfl, ?_⟩
        simp only [Act.put, List.setIfInBounds_toArray, List.set_cons_succ, List.set_cons_zero]
        refine plVal (i := 1) (v := .bool true) rfl (by kernel_rfl) (by kernel_rfl) ?_
        refine plDone (by decide) ?_
        simp only [Act.put, List.setIfInBounds_toArray, List.set_cons_succ, List.set_cons_zero]
        refine then_normal (hK21 _ _ ?_)
        refine wp_ret ?_
        refine then_ret ?_
        refine bodyPost_ret (v := .bool true) (gRes1 rfl (gResTmp (t := 2) (v := .bool true) (by kernel_rfl))) rfl ?_
        exact ⟨by first | rfl | simp_all, hm23.bel⟩
      · refine plVal (i := 20) (v := .bool false) rfl (by kernel_rfl) (boolTo (decide_eq_false h20) (gtrRun (A := (wrap64 (b.mx.y - b.mn.y))) (B := 10) (.tmp 36) (.const (.int .i64 10)) rfl (by kernel_rfl) (by kernel_rfl))) ?_
        simp only [Act.put, List.setIfInBounds_toArray, List.set_cons_succ, List.set_cons_zero]
        refine plVal (i := 21) (v := .bool false) rfl (by kernel_rfl) (by kernel_rfl) ?_
        simp only [Act.put, List.setIfInBounds_toArray, List.set_cons_succ, List.set_cons_zero]
        refine plVal (i := 22) (v := .bool false) rfl (by kernel_rfl) (by kernel_rfl) ?_
        simp only [Act.put, List.setIfInBounds_toArray, List.set_cons_succ, List.set_cons_zero]
        refine plVal (i := 23) (v := .pointer (some ⟨g2, 3, none⟩)) rfl (by kernel_rfl) (by kernel_rfl) ?_
        simp only [Act.put, List.setIfInBounds_toArray, List.set_cons_succ, List.set_cons_zero]
        refine plVal (i := 24) (v := .pointer (some ⟨g2, 5, none⟩)) rfl (by kernel_rfl) (by kernel_rfl) ?_
        simp only [Act.put, List.setIfInBounds_toArray, List.set_cons_succ, List.set_cons_zero]
        refine plVal (i := 25) (v := .int .i64 b.mx.z) rfl (by kernel_rfl) (gLoad (v := .int .i64 b.mx.z) (k := 5) 0 hm7 rfl (by kernel_rfl) (.tmp 41) (by kernel_rfl) rfl (by kernel_rfl)) ?_
        simp only [Act.put, List.setIfInBounds_toArray, List.set_cons_succ, List.set_cons_zero]
        refine plVal (i := 26) (v := .pointer (some ⟨g2, 0, none⟩)) rfl (by kernel_rfl) (by kernel_rfl) ?_
        simp only [Act.put, List.setIfInBounds_toArray, List.set_cons_succ, List.set_cons_zero]
        refine plVal (i := 27) (v := .pointer (some ⟨g2, 2, none⟩)) rfl (by kernel_rfl) (by kernel_rfl) ?_
        simp only [Act.put, List.setIfInBounds_toArray, List.set_cons_succ, List.set_cons_zero]
        refine plVal (i := 28) (v := .int .i64 b.mn.z) rfl (by kernel_rfl) (gLoad (v := .int .i64 b.mn.z) (k := 2) 0 hm7 rfl (by kernel_rfl) (.tmp 44) (by kernel_rfl) rfl (by kernel_rfl)) ?_
        simp only [Act.put, List.setIfInBounds_toArray, List.set_cons_succ, List.set_cons_zero]
        refine plVal (i := 29) (v := .int .i64 (wrap64 (b.mx.z - b.mn.z))) rfl (by kernel_rfl) (gSubW (A := b.mx.z) (B := b.mn.z) (.tmp 42) (.tmp 45) rfl (by kernel_rfl) (by kernel_rfl)) ?_
        simp only [Act.put, List.setIfInBounds_toArray, List.set_cons_succ, List.set_cons_zero]
        refine plVal (i := 30) (v := .bool true) rfl (by kernel_rfl) (boolTo (decide_eq_true (by have h0 := hno; rw [eq_true (of_decide_eq_true h8), true_and] at h0; omega)) (gtrRun (A := (wrap64 (b.mx.z - b.mn.z))) (B := 10) (.tmp 46) (.const (.int .i64 10)) rfl (by kernel_rfl) (by kernel_rfl))) ?_
        simp only [Act.put, List.setIfInBounds_toArray, List.set_cons_succ, List.set_cons_zero]
        refine plVal (i := 31) (v := .bool true) rfl (by kernel_rfl) (by kernel_rfl) ?_
        refine plDone (by decide) ?_
        simp only [Act.put, List.setIfInBounds_toArray, List.set_cons_succ, List.set_cons_zero]
        refine then_normal (hK15 _ _ ?_)
        refine wp_cond_true (by kernel_rfl) ?_
        refine wp_seq_k fun K24 hK24 => ?_
        refine plStart ?_
        refine plCall (i := 0) 21 [] [] [] rfl (by kernel_rfl) (by kernel_rfl) rfl (by kernel_rfl) (by kernel_rfl) (sanity_any _) ?_
        rintro e w25 ⟨rfl, hbz⟩
        have hm26 := hm7.below hbz
        clear hbz hm7
        refine ⟨_, rfl, ?_⟩
        simp only [Act.put, List.setIfInBounds_toArray, List.set_cons_succ, List.set_cons_zero]
        refine plVal (i := 1) (v := .bool true) rfl (by kernel_rfl) (by kernel_rfl) ?_
        refine plDone (by decide) ?_
        simp only [Act.put, List.setIfInBounds_toArray, List.set_cons_succ, List.set_cons_zero]
        refine then_normal (hK24 _ _ ?_)
        refine wp_ret ?_
        refine then_ret ?_
        refine bodyPost_ret (v := .bool true) (gRes1 rfl (gResTmp (t := 2) (v := .bool true) (by kernel_rfl))) rfl ?_
        exact ⟨by first | rfl | simp_all, hm26.bel⟩
theorem wrap_small {a b : Int} (h1 : -100000 ≤ a) (h2 : b ≤ 100000) (h3 : wrap64 (b - a) ≤ 10) (ha : a ≤ 9223372036854775807) (hb : -9223372036854775808 ≤ b) : (b - a).toNat ≤ 10 := by
  unfold wrap64 at h3
  omega
theorem walk_MortonNextVisits (b : Bx) (w : World) (_b0 : -9223372036854775808 ≤ b.mn.x ∧ b.mn.x ≤ 9223372036854775807) (_b1 : -9223372036854775808 ≤ b.mn.y ∧ b.mn.y ≤ 9223372036854775807) (_b2 : -9223372036854775808 ≤ b.mn.z ∧ b.mn.z ≤ 9223372036854775807) (_b3 : -9223372036854775808 ≤ b.mx.x ∧ b.mx.x ≤ 9223372036854775807) (_b4 : -9223372036854775808 ≤ b.mx.y ∧ b.mx.y ≤ 9223372036854775807) (_b5 : -9223372036854775808 ≤ b.mx.z ∧ b.mx.z ≤ 9223372036854775807) : Calls Try.prog 7 #[.agg (bxs b).toArray] w (RetB w true) := by
  by_cases h : b.small ∧ wrap64 (b.mx.x - b.mn.x) ≤ 10 ∧ wrap64 (b.mx.y - b.mn.y) ≤ 10 ∧ wrap64 (b.mx.z - b.mn.z) ≤ 10
  · obtain ⟨hs, hw⟩ := h
    have hs2 := hs
    unfold Bx.small at hs2
    obtain ⟨h1, h2, h3, h4, h5, h6, _⟩ := hs2
    exact visit_yes b hs hw ⟨⟨h1, h4⟩, ⟨h2, h5⟩, h3, h6⟩ ⟨wrap_small h1 h4 hw.1 _b0.2 _b3.1, wrap_small h2 h5 hw.2.1 _b1.2 _b4.1, wrap_small h3 h6 hw.2.2 _b2.2 _b5.1⟩ w
  · exact visit_no b h w
end Go.Proofs.Ytkfijpghjjnpkaa
