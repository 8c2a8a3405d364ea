/-
  PlannerSeesLess: errors do not decrease with the level, and do not grow with the distance.
-/
import Derived.Test.YtkmhjgdpkddbnaaPH
import Derived.Test.YtkmhjgdpkddbnaaPC
namespace Go.Proofs.Ytkmhjgdpkddbnaa
open Go.RowKit
set_option linter.unusedVariables false
set_option linter.unusedSimpArgs false

theorem pow14 {l : Int} (h : 2 ≤ l ∧ l ≤ 14) : 4 ≤ (2 : Int) ^ l.toNat ∧ (2 : Int) ^ l.toNat ≤ 16384 := by
  rcases (by omega : l = 2 ∨ l = 3 ∨ l = 4 ∨ l = 5 ∨ l = 6 ∨ l = 7 ∨ l = 8 ∨ l = 9 ∨ l = 10 ∨ l = 11 ∨ l = 12 ∨ l = 13 ∨ l = 14) with rfl | rfl | rfl | rfl | rfl | rfl | rfl | rfl | rfl | rfl | rfl | rfl | rfl <;> decide
set_option maxRecDepth 100000 in
set_option maxHeartbeats 4000000 in
theorem walk_PlannerSeesLess (v : Vw) (depth : Int) (p : Pt) (dx : Int) (w : World) (_b0 : -9223372036854775808 ≤ v.p.x ∧ v.p.x ≤ 9223372036854775807) (_b1 : -9223372036854775808 ≤ v.p.y ∧ v.p.y ≤ 9223372036854775807) (_b2 : -9223372036854775808 ≤ v.p.z ∧ v.p.z ≤ 9223372036854775807) (_b3 : -9223372036854775808 ≤ v.sc ∧ v.sc ≤ 9223372036854775807) (_b4 : -9223372036854775808 ≤ v.tol ∧ v.tol ≤ 9223372036854775807) (_b5 : -9223372036854775808 ≤ v.bud ∧ v.bud ≤ 9223372036854775807) (_b6 : -9223372036854775808 ≤ depth ∧ depth ≤ 9223372036854775807) (_b7 : -9223372036854775808 ≤ p.x ∧ p.x ≤ 9223372036854775807) (_b8 : -9223372036854775808 ≤ p.y ∧ p.y ≤ 9223372036854775807) (_b9 : -9223372036854775808 ≤ p.z ∧ p.z ≤ 9223372036854775807) (_bd : 0 ≤ dx ∧ dx ≤ 65535) : Calls Try.prog 7 #[.agg (vwc v).toArray, .int .i64 depth, .agg (pcs p).toArray, .int .u16 dx] w (RetB w true) := by
  have hm0 := Mem.nil w
  go_enter Try.func7, Try.ntmps7
  refine litStart 118 [(0, .agg (vwc v).toArray), (1, .int .i64 depth), (2, .agg (pcs p).toArray), (3, .int .u16 dx)] (by kernel_rfl) (fun X0 => ?_)
  refine wp_seq_k fun K1 hK1 => ?_
  refine plStart ?_
  refine plBox hm0 (cs := vwc v) (i := 0) rfl (wn rfl) rfl (litEv (by kernel_rfl)) ?_
  intro g2 w4 hm3
  clear hm0
  try simp only [List.cons_append, List.nil_append, List.set_cons_succ, List.set_cons_zero] at hm3
  refine qP rfl ?_
  refine plBox hm3 (cs := pcs p) (i := 1) rfl (wn rfl) rfl (litEv (by kernel_rfl)) ?_
  intro g5 w7 hm6
  clear hm3
  try simp only [List.cons_append, List.nil_append, List.set_cons_succ, List.set_cons_zero] at hm6
  refine qP rfl ?_
  refine lk (v := .bool false) rfl rfl rfl ?_
  refine plD ?_
  refine then_normal (hK1 _ _ ?_)
  refine wp_seq_k fun K8 hK8 => ?_
  refine wp_seq_k fun K9 hK9 => ?_
  refine mgStart hm6 (by kernel_rfl) ?_
  intro w11 hm10
  clear hm6
  refine mgTake (i := 0) (v := .agg (vwc v).toArray) rfl (by kernel_rfl) (wn rfl) (fun _ _ _ h => h) hm10 (fun w_ h_ => gLoadAg (vs := vwc v) (k := 0) 0 h_ rfl (by kernel_rfl) (by kernel_rfl) (.tmp 4) Ty.ag_voxel_api_Viewer rfl (litEv (by kernel_rfl))) ?_
  refine mP rfl ?_
  refine mgCall (i := 1) 13 [.agg (vwc v).toArray] [] [] (by kernel_rfl) rfl (by kernel_rfl) (wn rfl) rfl (litEv (by kernel_rfl)) (litArgs (by kernel_rfl)) (rcheck_any v _) ?_
  rintro e w12 ⟨rfl, hbz⟩
  have hm13 := hm10.below hbz
  clear hbz hm10
  refine ⟨_, rfl, hm13, ?_⟩
  refine mP rfl ?_
  by_cases h14 : (ckV v) = 0
  · have hv_ : ckV v = 0 := h14
    have hck_ := ckV_ok hv_
    have hrg_ := hck_.1
    unfold Pt.rng at hrg_
    refine mgTake (i := 2) (v := .bool false) rfl (by kernel_rfl) (wn rfl) (fun _ _ _ h => h) hm13 (fun w_ h_ => boolTo (by rw [decide_eq_true h14]; rfl) (neqRun (A := (ckV v)) (B := 0) (.tmp 16) (.const (.int .i64 0)) rfl (litEv (by kernel_rfl)) (litEv (by kernel_rfl)))) ?_
    refine mP rfl ?_
    refine mk_ (i := 3) (v := .bool false) rfl rfl (fun _ _ _ h => h) hm13 rfl ?_
    refine mgTake (i := 4) (v := .int .i64 depth) rfl (by kernel_rfl) (wgY rfl rfl rfl (by decide) (by kernel_rfl)) (fun _ _ _ h => h) hm13 (fun w_ h_ => litRun (by kernel_rfl)) ?_
    refine mP rfl ?_
    by_cases h15 : depth < 2
    · refine mgTake (i := 5) (v := .bool true) rfl (by kernel_rfl) (wgY rfl rfl rfl (by decide) (by kernel_rfl)) (fun _ _ _ h => h) hm13 (fun w_ h_ => boolTo (decide_eq_true h15) (lssRun (A := depth) (B := 2) (.tmp 19) (.const (.int .i64 2)) rfl (litEv (by kernel_rfl)) (litEv (by kernel_rfl)))) ?_
      refine mP rfl ?_
      refine mk_ (i := 6) (v := .bool true) rfl rfl (fun _ _ _ h => h) hm13 rfl ?_
      refine mk_ (i := 7) (v := .bool true) rfl rfl (fun _ _ _ h => h) hm13 rfl ?_
      refine mgSkip (i := 8) rfl (by kernel_rfl) (wgN rfl rfl rfl (by decide) (by kernel_rfl)) (fun _ _ _ h => h) hm13 ?_
      refine mP rfl ?_
      refine mgSkip (i := 9) rfl (by kernel_rfl) (wgN rfl rfl rfl (by decide) (by kernel_rfl)) (fun _ _ _ h => h) hm13 ?_
      refine mP rfl ?_
      refine mk_ (i := 10) (v := .bool true) rfl rfl (fun _ _ _ h => h) hm13 rfl ?_
      refine mk_ (i := 11) (v := .bool true) rfl rfl (fun _ _ _ h => h) hm13 rfl ?_
      refine mgSkip (i := 12) rfl (by kernel_rfl) (wgN rfl rfl rfl (by decide) (by kernel_rfl)) (fun _ _ _ h => h) hm13 ?_
      refine mP rfl ?_
      refine mgSkip (i := 13) rfl (by kernel_rfl) (wgN rfl rfl rfl (by decide) (by kernel_rfl)) (fun _ _ _ h => h) hm13 ?_
      refine mP rfl ?_
      refine mgSkip (i := 14) rfl (by kernel_rfl) (wgN rfl rfl rfl (by decide) (by kernel_rfl)) (fun _ _ _ h => h) hm13 ?_
      refine mP rfl ?_
      refine mgSkip (i := 15) rfl (by kernel_rfl) (wgN rfl rfl rfl (by decide) (by kernel_rfl)) (fun _ _ _ h => h) hm13 ?_
      refine mP rfl ?_
      refine mgSkip (i := 16) rfl (by kernel_rfl) (wgN rfl rfl rfl (by decide) (by kernel_rfl)) (fun _ _ _ h => h) hm13 ?_
      refine mP rfl ?_
      refine mgSkip (i := 17) rfl (by kernel_rfl) (wgN rfl rfl rfl (by decide) (by kernel_rfl)) (fun _ _ _ h => h) hm13 ?_
      refine mP rfl ?_
      refine mk_ (i := 18) (v := .bool true) rfl rfl (fun _ _ _ h => h) hm13 rfl ?_
      refine mk_ (i := 19) (v := .bool true) rfl rfl (fun _ _ _ h => h) hm13 rfl ?_
      refine mgSkip (i := 20) rfl (by kernel_rfl) (wgN rfl rfl rfl (by decide) (by kernel_rfl)) (fun _ _ _ h => h) hm13 ?_
      refine mP rfl ?_
      refine mgSkip (i := 21) rfl (by kernel_rfl) (wgN rfl rfl rfl (by decide) (by kernel_rfl)) (fun _ _ _ h => h) hm13 ?_
      refine mP rfl ?_
      refine mgSkip (i := 22) rfl (by kernel_rfl) (wgN rfl rfl rfl (by decide) (by kernel_rfl)) (fun _ _ _ h => h) hm13 ?_
      refine mP rfl ?_
      refine mgSkip (i := 23) rfl (by kernel_rfl) (wgN rfl rfl rfl (by decide) (by kernel_rfl)) (fun _ _ _ h => h) hm13 ?_
      refine mP rfl ?_
      refine mgSkip (i := 24) rfl (by kernel_rfl) (wgN rfl rfl rfl (by decide) (by kernel_rfl)) (fun _ _ _ h => h) hm13 ?_
      refine mP rfl ?_
      refine mgSkip (i := 25) rfl (by kernel_rfl) (wgN rfl rfl rfl (by decide) (by kernel_rfl)) (fun _ _ _ h => h) hm13 ?_
      refine mP rfl ?_
      refine mgSkip (i := 26) rfl (by kernel_rfl) (wgN rfl rfl rfl (by decide) (by kernel_rfl)) (fun _ _ _ h => h) hm13 ?_
      refine mP rfl ?_
      refine mk_ (i := 27) (v := .bool true) rfl rfl (fun _ _ _ h => h) hm13 rfl ?_
      refine mgDone (by kernel_rfl) ?_
      refine then_normal (hK9 _ _ ?_)
      refine wpPrune [(1, .int .i64 depth), (3, .int .u16 dx), (4, .pointer (some ⟨g2, 0, none⟩)), (6, .pointer (some ⟨g5, 0, none⟩)), (8, .bool false), (42, .bool true)] ⟨litGet (by kernel_rfl), ⟨litGet (by kernel_rfl), ⟨litGet (by kernel_rfl), ⟨litGet (by kernel_rfl), ⟨litGet (by kernel_rfl), ⟨litGet (by kernel_rfl), trivial⟩⟩⟩⟩⟩⟩ (fun X16 => ?_)
      refine wp_cond_true (litEv (by kernel_rfl)) ?_
      refine wp_seq_k fun K17 hK17 => ?_
      refine plStart ?_
      refine plCall (i := 0) 8 [] [] [] rfl (by kernel_rfl) (wn rfl) rfl (litEv (by kernel_rfl)) (litArgs (by kernel_rfl)) (sanity_any _) ?_
      rintro e w18 ⟨rfl, hbz⟩
      have hm19 := hm13.below hbz
      clear hbz hm13
      refine ⟨_, rfl, ?_⟩
      refine qP rfl ?_
      refine lk (v := .bool true) rfl rfl rfl ?_
      refine plD ?_
      refine then_normal (hK17 _ _ ?_)
      refine wp_ret ?_
      refine then_ret ?_
      refine bodyPost_ret (v := .bool true) (gRes1 rfl (gResTmp (t := 8) (v := .bool true) (litGet (by kernel_rfl)))) rfl ?_
      exact ⟨rfl, hm19.bel⟩
    refine mgTake (i := 5) (v := .bool false) rfl (by kernel_rfl) (wgY rfl rfl rfl (by decide) (by kernel_rfl)) (fun _ _ _ h => h) hm13 (fun w_ h_ => boolTo (decide_eq_false h15) (lssRun (A := depth) (B := 2) (.tmp 19) (.const (.int .i64 2)) rfl (litEv (by kernel_rfl)) (litEv (by kernel_rfl)))) ?_
    refine mP rfl ?_
    refine mk_ (i := 6) (v := .bool false) rfl rfl (fun _ _ _ h => h) hm13 rfl ?_
    refine mk_ (i := 7) (v := .bool false) rfl rfl (fun _ _ _ h => h) hm13 rfl ?_
    refine mgTake (i := 8) (v := .int .i64 depth) rfl (by kernel_rfl) (wgY rfl rfl rfl (by decide) (by kernel_rfl)) (fun _ _ _ h => h) hm13 (fun w_ h_ => litRun (by kernel_rfl)) ?_
    refine mP rfl ?_
    by_cases h20 : 14 < depth
    · refine mgTake (i := 9) (v := .bool true) rfl (by kernel_rfl) (wgY rfl rfl rfl (by decide) (by kernel_rfl)) (fun _ _ _ h => h) hm13 (fun w_ h_ => boolTo (decide_eq_true h20) (gtrRun (A := depth) (B := 14) (.tmp 23) (.const (.int .i64 14)) rfl (litEv (by kernel_rfl)) (litEv (by kernel_rfl)))) ?_
      refine mP rfl ?_
      refine mk_ (i := 10) (v := .bool true) rfl rfl (fun _ _ _ h => h) hm13 rfl ?_
      refine mk_ (i := 11) (v := .bool true) rfl rfl (fun _ _ _ h => h) hm13 rfl ?_
      refine mgSkip (i := 12) rfl (by kernel_rfl) (wgN rfl rfl rfl (by decide) (by kernel_rfl)) (fun _ _ _ h => h) hm13 ?_
      refine mP rfl ?_
      refine mgSkip (i := 13) rfl (by kernel_rfl) (wgN rfl rfl rfl (by decide) (by kernel_rfl)) (fun _ _ _ h => h) hm13 ?_
      refine mP rfl ?_
      refine mgSkip (i := 14) rfl (by kernel_rfl) (wgN rfl rfl rfl (by decide) (by kernel_rfl)) (fun _ _ _ h => h) hm13 ?_
      refine mP rfl ?_
      refine mgSkip (i := 15) rfl (by kernel_rfl) (wgN rfl rfl rfl (by decide) (by kernel_rfl)) (fun _ _ _ h => h) hm13 ?_
      refine mP rfl ?_
      refine mgSkip (i := 16) rfl (by kernel_rfl) (wgN rfl rfl rfl (by decide) (by kernel_rfl)) (fun _ _ _ h => h) hm13 ?_
      refine mP rfl ?_
      refine mgSkip (i := 17) rfl (by kernel_rfl) (wgN rfl rfl rfl (by decide) (by kernel_rfl)) (fun _ _ _ h => h) hm13 ?_
      refine mP rfl ?_
      refine mk_ (i := 18) (v := .bool true) rfl rfl (fun _ _ _ h => h) hm13 rfl ?_
      refine mk_ (i := 19) (v := .bool true) rfl rfl (fun _ _ _ h => h) hm13 rfl ?_
      refine mgSkip (i := 20) rfl (by kernel_rfl) (wgN rfl rfl rfl (by decide) (by kernel_rfl)) (fun _ _ _ h => h) hm13 ?_
      refine mP rfl ?_
      refine mgSkip (i := 21) rfl (by kernel_rfl) (wgN rfl rfl rfl (by decide) (by kernel_rfl)) (fun _ _ _ h => h) hm13 ?_
      refine mP rfl ?_
      refine mgSkip (i := 22) rfl (by kernel_rfl) (wgN rfl rfl rfl (by decide) (by kernel_rfl)) (fun _ _ _ h => h) hm13 ?_
      refine mP rfl ?_
      refine mgSkip (i := 23) rfl (by kernel_rfl) (wgN rfl rfl rfl (by decide) (by kernel_rfl)) (fun _ _ _ h => h) hm13 ?_
      refine mP rfl ?_
      refine mgSkip (i := 24) rfl (by kernel_rfl) (wgN rfl rfl rfl (by decide) (by kernel_rfl)) (fun _ _ _ h => h) hm13 ?_
      refine mP rfl ?_
      refine mgSkip (i := 25) rfl (by kernel_rfl) (wgN rfl rfl rfl (by decide) (by kernel_rfl)) (fun _ _ _ h => h) hm13 ?_
      refine mP rfl ?_
      refine mgSkip (i := 26) rfl (by kernel_rfl) (wgN rfl rfl rfl (by decide) (by kernel_rfl)) (fun _ _ _ h => h) hm13 ?_
      refine mP rfl ?_
      refine mk_ (i := 27) (v := .bool true) rfl rfl (fun _ _ _ h => h) hm13 rfl ?_
      refine mgDone (by kernel_rfl) ?_
      refine then_normal (hK9 _ _ ?_)
      refine wpPrune [(1, .int .i64 depth), (3, .int .u16 dx), (4, .pointer (some ⟨g2, 0, none⟩)), (6, .pointer (some ⟨g5, 0, none⟩)), (8, .bool false), (42, .bool true)] ⟨litGet (by kernel_rfl), ⟨litGet (by kernel_rfl), ⟨litGet (by kernel_rfl), ⟨litGet (by kernel_rfl), ⟨litGet (by kernel_rfl), ⟨litGet (by kernel_rfl), trivial⟩⟩⟩⟩⟩⟩ (fun X21 => ?_)
      refine wp_cond_true (litEv (by kernel_rfl)) ?_
      refine wp_seq_k fun K22 hK22 => ?_
      refine plStart ?_
      refine plCall (i := 0) 8 [] [] [] rfl (by kernel_rfl) (wn rfl) rfl (litEv (by kernel_rfl)) (litArgs (by kernel_rfl)) (sanity_any _) ?_
      rintro e w23 ⟨rfl, hbz⟩
      have hm24 := hm13.below hbz
      clear hbz hm13
      refine ⟨_, rfl, ?_⟩
      refine qP rfl ?_
      refine lk (v := .bool true) rfl rfl rfl ?_
      refine plD ?_
      refine then_normal (hK22 _ _ ?_)
      refine wp_ret ?_
      refine then_ret ?_
      refine bodyPost_ret (v := .bool true) (gRes1 rfl (gResTmp (t := 8) (v := .bool true) (litGet (by kernel_rfl)))) rfl ?_
      exact ⟨rfl, hm24.bel⟩
    have hd_ : 2 ≤ depth ∧ depth ≤ 14 := by omega
    have h2p_ := pow14 hd_
    refine mgTake (i := 9) (v := .bool false) rfl (by kernel_rfl) (wgY rfl rfl rfl (by decide) (by kernel_rfl)) (fun _ _ _ h => h) hm13 (fun w_ h_ => boolTo (decide_eq_false h20) (gtrRun (A := depth) (B := 14) (.tmp 23) (.const (.int .i64 14)) rfl (litEv (by kernel_rfl)) (litEv (by kernel_rfl)))) ?_
    refine mP rfl ?_
    refine mk_ (i := 10) (v := .bool false) rfl rfl (fun _ _ _ h => h) hm13 rfl ?_
    refine mk_ (i := 11) (v := .bool false) rfl rfl (fun _ _ _ h => h) hm13 rfl ?_
    refine mgTake (i := 12) (v := .agg (pcs p).toArray) rfl (by kernel_rfl) (wgY rfl rfl rfl (by decide) (by kernel_rfl)) (fun _ _ _ h => h) hm13 (fun w_ h_ => gLoadAg (vs := pcs p) (k := 0) 1 h_ rfl (by kernel_rfl) (by kernel_rfl) (.tmp 6) Ty.ag_voxel_api_Point rfl (litEv (by kernel_rfl))) ?_
    refine mP rfl ?_
    refine mgTake (i := 13) (v := .int .i64 depth) rfl (by kernel_rfl) (wgY rfl rfl rfl (by decide) (by kernel_rfl)) (fun _ _ _ h => h) hm13 (fun w_ h_ => litRun (by kernel_rfl)) ?_
    refine mP rfl ?_
    refine mgTake (i := 14) (v := .int .i64 (2 ^ depth.toNat)) rfl (by kernel_rfl) (wgY rfl rfl rfl (by decide) (by kernel_rfl)) (fun _ _ _ h => h) hm13 (fun w_ h_ => gShl (A := 1) (N := depth) (C := 2 ^ depth.toNat) (.const (.int .i64 1)) (.tmp 28) rfl (litEv (by kernel_rfl)) (litEv (by kernel_rfl)) (Int.one_mul _) (by omega) (by omega) (by omega)) ?_
    refine mP rfl ?_
    refine mgCall (i := 15) 27 [.int .i64 (2 ^ depth.toNat)] [] [] (by kernel_rfl) rfl (by kernel_rfl) (wgY rfl rfl rfl (by decide) (by kernel_rfl)) rfl (litEv (by kernel_rfl)) (litArgs (by kernel_rfl)) (rcube_any (2 ^ depth.toNat) _) ?_
    rintro e w25 ⟨rfl, hbz⟩
    have hm26 := hm13.below hbz
    clear hbz hm13
    refine ⟨_, rfl, hm26, ?_⟩
    refine mP rfl ?_
    refine mgCall (i := 16) 26 [.agg (pcs p).toArray, .agg (bxs (cubeB (2 ^ depth.toNat))).toArray] [] [] (by kernel_rfl) rfl (by kernel_rfl) (wgY rfl rfl rfl (by decide) (by kernel_rfl)) rfl (litEv (by kernel_rfl)) (litArgs (by kernel_rfl)) (rin_any p (cubeB (2 ^ depth.toNat)) _) ?_
    rintro e w27 ⟨rfl, hbz⟩
    have hm28 := hm26.below hbz
    clear hbz hm26
    refine ⟨_, rfl, hm28, ?_⟩
    refine mP rfl ?_
    rcases bool_or (decide (Bx.has (cubeB (2 ^ depth.toNat)) p)) with h29 | h29
    · rw [h29]
      refine mgTake (i := 17) (v := .bool true) rfl (by kernel_rfl) (wgY rfl rfl rfl (by decide) (by kernel_rfl)) (fun _ _ _ h => h) hm28 (fun w_ h_ => litRun (by kernel_rfl)) ?_
      refine mP rfl ?_
      refine mk_ (i := 18) (v := .bool true) rfl rfl (fun _ _ _ h => h) hm28 rfl ?_
      refine mk_ (i := 19) (v := .bool true) rfl rfl (fun _ _ _ h => h) hm28 rfl ?_
      refine mgSkip (i := 20) rfl (by kernel_rfl) (wgN rfl rfl rfl (by decide) (by kernel_rfl)) (fun _ _ _ h => h) hm28 ?_
      refine mP rfl ?_
      refine mgSkip (i := 21) rfl (by kernel_rfl) (wgN rfl rfl rfl (by decide) (by kernel_rfl)) (fun _ _ _ h => h) hm28 ?_
      refine mP rfl ?_
      refine mgSkip (i := 22) rfl (by kernel_rfl) (wgN rfl rfl rfl (by decide) (by kernel_rfl)) (fun _ _ _ h => h) hm28 ?_
      refine mP rfl ?_
      refine mgSkip (i := 23) rfl (by kernel_rfl) (wgN rfl rfl rfl (by decide) (by kernel_rfl)) (fun _ _ _ h => h) hm28 ?_
      refine mP rfl ?_
      refine mgSkip (i := 24) rfl (by kernel_rfl) (wgN rfl rfl rfl (by decide) (by kernel_rfl)) (fun _ _ _ h => h) hm28 ?_
      refine mP rfl ?_
      refine mgSkip (i := 25) rfl (by kernel_rfl) (wgN rfl rfl rfl (by decide) (by kernel_rfl)) (fun _ _ _ h => h) hm28 ?_
      refine mP rfl ?_
      refine mgSkip (i := 26) rfl (by kernel_rfl) (wgN rfl rfl rfl (by decide) (by kernel_rfl)) (fun _ _ _ h => h) hm28 ?_
      refine mP rfl ?_
      refine mk_ (i := 27) (v := .bool true) rfl rfl (fun _ _ _ h => h) hm28 rfl ?_
      refine mgDone (by kernel_rfl) ?_
      refine then_normal (hK9 _ _ ?_)
      refine wpPrune [(1, .int .i64 depth), (3, .int .u16 dx), (4, .pointer (some ⟨g2, 0, none⟩)), (6, .pointer (some ⟨g5, 0, none⟩)), (8, .bool false), (42, .bool true)] ⟨litGet (by kernel_rfl), ⟨litGet (by kernel_rfl), ⟨litGet (by kernel_rfl), ⟨litGet (by kernel_rfl), ⟨litGet (by kernel_rfl), ⟨litGet (by kernel_rfl), trivial⟩⟩⟩⟩⟩⟩ (fun X30 => ?_)
      refine wp_cond_true (litEv (by kernel_rfl)) ?_
      refine wp_seq_k fun K31 hK31 => ?_
      refine plStart ?_
      refine plCall (i := 0) 8 [] [] [] rfl (by kernel_rfl) (wn rfl) rfl (litEv (by kernel_rfl)) (litArgs (by kernel_rfl)) (sanity_any _) ?_
      rintro e w32 ⟨rfl, hbz⟩
      have hm33 := hm28.below hbz
      clear hbz hm28
      refine ⟨_, rfl, ?_⟩
      refine qP rfl ?_
      refine lk (v := .bool true) rfl rfl rfl ?_
      refine plD ?_
      refine then_normal (hK31 _ _ ?_)
      refine wp_ret ?_
      refine then_ret ?_
      refine bodyPost_ret (v := .bool true) (gRes1 rfl (gResTmp (t := 8) (v := .bool true) (litGet (by kernel_rfl)))) rfl ?_
      exact ⟨rfl, hm33.bel⟩
    rw [h29]
    refine mgTake (i := 17) (v := .bool false) rfl (by kernel_rfl) (wgY rfl rfl rfl (by decide) (by kernel_rfl)) (fun _ _ _ h => h) hm28 (fun w_ h_ => litRun (by kernel_rfl)) ?_
    refine mP rfl ?_
    refine mk_ (i := 18) (v := .bool false) rfl rfl (fun _ _ _ h => h) hm28 rfl ?_
    refine mk_ (i := 19) (v := .bool false) rfl rfl (fun _ _ _ h => h) hm28 rfl ?_
    refine mgTake (i := 20) (v := .pointer (some ⟨g2, 0, none⟩)) rfl (by kernel_rfl) (wgY rfl rfl rfl (by decide) (by kernel_rfl)) (fun _ _ _ h => h) hm28 (fun w_ h_ => litRun (by kernel_rfl)) ?_
    refine mP rfl ?_
    refine mgTake (i := 21) (v := .pointer (some ⟨g2, 0, none⟩)) rfl (by kernel_rfl) (wgY rfl rfl rfl (by decide) (by kernel_rfl)) (fun _ _ _ h => h) hm28 (fun w_ h_ => litRun (by kernel_rfl)) ?_
    refine mP rfl ?_
    refine mgTake (i := 22) (v := .int .i64 v.p.x) rfl (by kernel_rfl) (wgY rfl rfl rfl (by decide) (by kernel_rfl)) (fun _ _ _ h => h) hm28 (fun w_ h_ => gLoad (v := .int .i64 v.p.x) (k := 0) 0 h_ rfl (by kernel_rfl) (.tmp 36) (by kernel_rfl) rfl (litEv (by kernel_rfl))) ?_
    refine mP rfl ?_
    refine mgTake (i := 23) (v := .int .u16 dx) rfl (by kernel_rfl) (wgY rfl rfl rfl (by decide) (by kernel_rfl)) (fun _ _ _ h => h) hm28 (fun w_ h_ => litRun (by kernel_rfl)) ?_
    refine mP rfl ?_
    refine mgTake (i := 24) (v := .int .i64 dx) rfl (by kernel_rfl) (wgY rfl rfl rfl (by decide) (by kernel_rfl)) (fun _ _ _ h => h) hm28 (fun w_ h_ => convIntRun (k := .u16) (A := dx) (.tmp 38) (by kernel_rfl) (by kernel_rfl) rfl (litEv (by kernel_rfl)) (by omega)) ?_
    refine mP rfl ?_
    refine mgTake (i := 25) (v := .int .i64 (v.p.x + dx)) rfl (by kernel_rfl) (wgY rfl rfl rfl (by decide) (by kernel_rfl)) (fun _ _ _ h => h) hm28 (fun w_ h_ => addRun (A := v.p.x) (B := dx) (C := v.p.x + dx) (.tmp 37) (.tmp 39) rfl (litEv (by kernel_rfl)) (litEv (by kernel_rfl)) rfl (by omega)) ?_
    refine mP rfl ?_
    by_cases h34 : 1048575 < (v.p.x + dx)
    · refine mgTake (i := 26) (v := .bool true) rfl (by kernel_rfl) (wgY rfl rfl rfl (by decide) (by kernel_rfl)) (fun _ _ _ h => h) hm28 (fun w_ h_ => boolTo (decide_eq_true h34) (gtrRun (A := (v.p.x + dx)) (B := 1048575) (.tmp 40) (.const (.int .i64 1048575)) rfl (litEv (by kernel_rfl)) (litEv (by kernel_rfl)))) ?_
      refine mP rfl ?_
      refine mk_ (i := 27) (v := .bool true) rfl rfl (fun _ _ _ h => h) hm28 rfl ?_
      refine mgDone (by kernel_rfl) ?_
      refine then_normal (hK9 _ _ ?_)
      refine wpPrune [(1, .int .i64 depth), (3, .int .u16 dx), (4, .pointer (some ⟨g2, 0, none⟩)), (6, .pointer (some ⟨g5, 0, none⟩)), (8, .bool false), (42, .bool true)] ⟨litGet (by kernel_rfl), ⟨litGet (by kernel_rfl), ⟨litGet (by kernel_rfl), ⟨litGet (by kernel_rfl), ⟨litGet (by kernel_rfl), ⟨litGet (by kernel_rfl), trivial⟩⟩⟩⟩⟩⟩ (fun X35 => ?_)
      refine wp_cond_true (litEv (by kernel_rfl)) ?_
      refine wp_seq_k fun K36 hK36 => ?_
      refine plStart ?_
      refine plCall (i := 0) 8 [] [] [] rfl (by kernel_rfl) (wn rfl) rfl (litEv (by kernel_rfl)) (litArgs (by kernel_rfl)) (sanity_any _) ?_
      rintro e w37 ⟨rfl, hbz⟩
      have hm38 := hm28.below hbz
      clear hbz hm28
      refine ⟨_, rfl, ?_⟩
      refine qP rfl ?_
      refine lk (v := .bool true) rfl rfl rfl ?_
      refine plD ?_
      refine then_normal (hK36 _ _ ?_)
      refine wp_ret ?_
      refine then_ret ?_
      refine bodyPost_ret (v := .bool true) (gRes1 rfl (gResTmp (t := 8) (v := .bool true) (litGet (by kernel_rfl)))) rfl ?_
      exact ⟨rfl, hm38.bel⟩
    refine mgTake (i := 26) (v := .bool false) rfl (by kernel_rfl) (wgY rfl rfl rfl (by decide) (by kernel_rfl)) (fun _ _ _ h => h) hm28 (fun w_ h_ => boolTo (decide_eq_false h34) (gtrRun (A := (v.p.x + dx)) (B := 1048575) (.tmp 40) (.const (.int .i64 1048575)) rfl (litEv (by kernel_rfl)) (litEv (by kernel_rfl)))) ?_
    refine mP rfl ?_
    refine mk_ (i := 27) (v := .bool false) rfl rfl (fun _ _ _ h => h) hm28 rfl ?_
    refine mgDone (by kernel_rfl) ?_
    refine then_normal (hK9 _ _ ?_)
    refine wpPrune [(1, .int .i64 depth), (3, .int .u16 dx), (4, .pointer (some ⟨g2, 0, none⟩)), (6, .pointer (some ⟨g5, 0, none⟩)), (8, .bool false), (42, .bool false)] ⟨litGet (by kernel_rfl), ⟨litGet (by kernel_rfl), ⟨litGet (by kernel_rfl), ⟨litGet (by kernel_rfl), ⟨litGet (by kernel_rfl), ⟨litGet (by kernel_rfl), trivial⟩⟩⟩⟩⟩⟩ (fun X39 => ?_)
    refine wp_cond_false (litEv (by kernel_rfl)) ?_
    refine wp_skip ?_
    refine then_normal (hK8 _ _ ?_)
    refine wp_seq_k fun K40 hK40 => ?_
    refine plStart ?_
    have hpb0_ := of_decide_eq_true h29
    unfold Bx.has cubeB at hpb0_
    simp only at hpb0_
    have hpb_ : (0 ≤ p.x ∧ p.x < 16384) ∧ (0 ≤ p.y ∧ p.y < 16384) ∧ (0 ≤ p.z ∧ p.z < 16384) := by omega
    have hpin_ : p.In := hpb_
    refine lk (v := .int .i64 (-1)) rfl rfl rfl ?_
    refine plD ?_
    refine then_normal (hK40 _ _ ?_)
    refine wp_seq_k fun K41 hK41 => ?_
    refine wp_seq_k fun K42 hK42 => ?_
    refine plStart ?_
    refine lk (v := .int .i64 0) rfl rfl rfl ?_
    refine plD ?_
    refine then_normal (hK42 _ _ ?_)
    refine wp_block ?_
    refine gwLoop (fun n_ a_ w_ => ∃ (k : Nat) (last : Int), n_ = (depth - (k : Int)).toNat ∧ ((k : Int) ≤ depth - 1) ∧ ((k : Int) ≤ depth - 2 → last ≤ err v (tileAt (k : Int) p)) ∧ Fr a_ 118 [(1, .int .i64 depth), (3, .int .u16 dx), (4, .pointer (some ⟨g2, 0, none⟩)), (6, .pointer (some ⟨g5, 0, none⟩)), (9, .int .i64 last), (10, .int .i64 (k : Int))] ∧ Mem w w_ [.arr g2 25 (vwc v), .arr g5 23 (pcs p)]) ((depth - ((0 : Nat) : Int)).toNat) ⟨0, (-1), rfl, (by omega), (fun _ => by have h_ := (err_bd (v := v) (t := tileAt ((0 : Nat) : Int) p) hv_ (show 0 ≤ ((0 : Nat) : Int) ∧ ((0 : Nat) : Int) ≤ 12 by decide)).1; omega), ⟨litSize, rfl, ⟨litGet (by kernel_rfl), ⟨litGet (by kernel_rfl), ⟨litGet (by kernel_rfl), ⟨litGet (by kernel_rfl), ⟨litGet (by kernel_rfl), ⟨litGet (by kernel_rfl), trivial⟩⟩⟩⟩⟩⟩⟩, (hm28.sub (.cons_cons _ (.cons_cons _ .slnil)))⟩ ?_
    clear hm28
    intro n_ a45 w43 hI_
    obtain ⟨k, last, rfl, hkd, hlast, hF_, hm44⟩ := hI_
    obtain ⟨X46, rfl⟩ := frLit hF_
    clear hF_
    refine wp_seq_k fun K47 hK47 => ?_
    refine wp_seq_k fun K48 hK48 => ?_
    refine plStart ?_
    refine lk (v := .int .i64 (k : Int)) rfl rfl rfl ?_
    refine lk (v := .int .i64 depth) rfl rfl rfl ?_
    refine litVal (v := .int .i64 (depth - 2)) rfl (wn rfl) (subRun (A := depth) (B := 2) (C := depth - 2) (.tmp 45) (.const (.int .i64 2)) rfl (litEv (by kernel_rfl)) (litEv (by kernel_rfl)) rfl (by omega)) rfl (by decide) ?_
    by_cases h49 : (k : Int) ≤ (depth - 2)
    · have hk12 : 0 ≤ (k : Int) ∧ (k : Int) ≤ 12 := by omega
      have htok := tileAt_ok hk12 hpin_
      have hS_ := side_bd hk12
      have hsc_ := sc_bd hv_ hk12
      have hax_ := al1 hS_.1 (side_dvd hk12) hpb_.1
      have hay_ := al1 hS_.1 (side_dvd hk12) hpb_.2.1
      have haz_ := al1 hS_.1 (side_dvd hk12) hpb_.2.2
      have heb_ : 0 ≤ err v (tileAt (k : Int) p) ∧ err v (tileAt (k : Int) p) ≤ v.sc * 2 ^ (k : Int).toNat := err_bd hv_ hk12
      refine litVal (v := .bool true) rfl (wn rfl) (boolTo (decide_eq_true h49) (leqRun (A := (k : Int)) (B := (depth - 2)) (.tmp 44) (.tmp 46) rfl (litEv (by kernel_rfl)) (litEv (by kernel_rfl)))) rfl (by decide) ?_
      refine plD ?_
      refine then_normal (hK48 _ _ ?_)
      refine wp_cond_true (litEv (by kernel_rfl)) ?_
      refine wp_skip ?_
      refine then_normal (hK47 _ _ ?_)
      refine wp_seq_k fun K50 hK50 => ?_
      refine wp_block ?_
      refine wp_seq_k fun K51 hK51 => ?_
      refine plStart ?_
      refine lk (v := .int .i64 (k : Int)) rfl rfl rfl ?_
      refine litVal (v := .int .i64 (sideL (k : Int))) rfl (wn rfl) (gShl (A := 4) (N := (k : Int)) (C := sideL (k : Int)) (.const (.int .i64 4)) (.tmp 50) rfl (litEv (by kernel_rfl)) (litEv (by kernel_rfl)) (rfl) (by omega) (by omega) (by omega)) rfl (by decide) ?_
      refine lk (v := .int .i64 (sideL (k : Int))) rfl rfl rfl ?_
      refine plD ?_
      refine then_normal (hK51 _ _ ?_)
      refine wp_seq_k fun K52 hK52 => ?_
      refine aoStart (aoV [fun _ => .int .i64 (k : Int), fun _ => .pointer (some ⟨g5, 0, none⟩), fun _ => .int .i64 p.x, fun _ => .int .i64 (sideL (k : Int)), fun _ => .int .i64 (p.x / (sideL (k : Int))), fun _ => .int .i64 (sideL (k : Int)), fun _ => .int .i64 ((p.x / (sideL (k : Int))) * (sideL (k : Int))), fun _ => .pointer (some ⟨g5, 1, none⟩), fun _ => .int .i64 p.y, fun _ => .int .i64 (sideL (k : Int)), fun _ => .int .i64 (p.y / (sideL (k : Int))), fun _ => .int .i64 (sideL (k : Int)), fun _ => .int .i64 ((p.y / (sideL (k : Int))) * (sideL (k : Int))), fun _ => .pointer (some ⟨g5, 2, none⟩), fun _ => .int .i64 p.z, fun _ => .int .i64 (sideL (k : Int)), fun _ => .int .i64 (p.z / (sideL (k : Int))), fun _ => .int .i64 (sideL (k : Int)), fun _ => .int .i64 ((p.z / (sideL (k : Int))) * (sideL (k : Int))), fun _ => .agg (pcs ⟨(p.x / (sideL (k : Int))) * (sideL (k : Int)), (p.y / (sideL (k : Int))) * (sideL (k : Int)), (p.z / (sideL (k : Int))) * (sideL (k : Int))⟩).toArray, fun _ => .agg (tlc ⟨(k : Int), ⟨(p.x / (sideL (k : Int))) * (sideL (k : Int)), (p.y / (sideL (k : Int))) * (sideL (k : Int)), (p.z / (sideL (k : Int))) * (sideL (k : Int))⟩⟩).toArray, fun γ_ => .pointer (some ⟨γ_, 0, none⟩), fun _ => undef]) (aoA [0, 1, 2, 3, 4, 5, 6, 7, 8, 9, 10, 11, 12, 13, 14, 15, 16, 17, 18, 19, 20, 21, 22]) (fun b_ g_ => ((.arr g2 25 (vwc v)) :: (.arr g5 23 (pcs p)) :: (bsel (b_ 21) (.arr (g_ 21) 38 (bsel (b_ 22) [.int .i64 (k : Int), .int .i64 ((p.x / (sideL (k : Int))) * (sideL (k : Int))), .int .i64 ((p.y / (sideL (k : Int))) * (sideL (k : Int))), .int .i64 ((p.z / (sideL (k : Int))) * (sideL (k : Int)))] [.int .i64 0, .int .i64 0, .int .i64 0, .int .i64 0])) .free) :: [])) hm44 (by kernel_rfl) (by kernel_rfl) (fun w_ h_ => h_.pushFree) (fun b_ g_ h_ => by show (fun (x21_ x22_ : Bool) => (((.arr g2 25 (vwc v)) :: (.arr g5 23 (pcs p)) :: (bsel x21_ (.arr (g_ 21) 38 (bsel x22_ [.int .i64 (k : Int), .int .i64 ((p.x / (sideL (k : Int))) * (sideL (k : Int))), .int .i64 ((p.y / (sideL (k : Int))) * (sideL (k : Int))), .int .i64 ((p.z / (sideL (k : Int))) * (sideL (k : Int)))] [.int .i64 0, .int .i64 0, .int .i64 0, .int .i64 0])) .free) :: []) : List Res)) (b_ 21) (b_ 22) = _; rw [h_ 21 (by decide), h_ 22 (by decide)]) ?_ ?_
      · refine aoNext rfl (aoVal (fun g_ => [(10, .int .i64 (k : Int))]) (fun g_ a_ h_k => ⟨(h_k.out 10 (by kernel_rfl)).trans (litGet (by kernel_rfl)), trivial⟩) (fun g_ X_ => (wn rfl)) (fun b_ g_ => by kernel_rfl) (fun b_ g_ X_ w_ h_b h_ => valTo (b := .int .i64 (k : Int)) (by kernel_rfl) (litRun (by kernel_rfl)))) ?_
        refine aoNext rfl (aoVal (fun g_ => [(6, .pointer (some ⟨g5, 0, none⟩))]) (fun g_ a_ h_k => ⟨(h_k.out 6 (by kernel_rfl)).trans (litGet (by kernel_rfl)), trivial⟩) (fun g_ X_ => (wn rfl)) (fun b_ g_ => by kernel_rfl) (fun b_ g_ X_ w_ h_b h_ => valTo (b := .pointer (some ⟨g5, 0, none⟩)) (by kernel_rfl) (litRun (by kernel_rfl)))) ?_
        refine aoNext rfl (aoVal (fun g_ => [(53, .pointer (some ⟨g5, 0, none⟩))]) (fun g_ a_ h_k => ⟨(h_k.inn 1 _ _ (by kernel_rfl) rfl rfl).trans (by kernel_rfl), trivial⟩) (fun g_ X_ => (wn rfl)) (fun b_ g_ => by kernel_rfl) (fun b_ g_ X_ w_ h_b h_ => valTo (b := .int .i64 p.x) (by kernel_rfl) (gLoad (v := .int .i64 p.x) (k := 0) 1 h_ rfl (by kernel_rfl) (.tmp 53) (by kernel_rfl) rfl (litEv (by kernel_rfl))))) ?_
        refine aoNext rfl (aoVal (fun g_ => [(11, .int .i64 (sideL (k : Int)))]) (fun g_ a_ h_k => ⟨(h_k.out 11 (by kernel_rfl)).trans (litGet (by kernel_rfl)), trivial⟩) (fun g_ X_ => (wn rfl)) (fun b_ g_ => by kernel_rfl) (fun b_ g_ X_ w_ h_b h_ => valTo (b := .int .i64 (sideL (k : Int))) (by kernel_rfl) (litRun (by kernel_rfl)))) ?_
        refine aoNext rfl (aoVal (fun g_ => [(54, .int .i64 p.x), (55, .int .i64 (sideL (k : Int)))]) (fun g_ a_ h_k => ⟨(h_k.inn 2 _ _ (by kernel_rfl) rfl rfl).trans (by kernel_rfl), (h_k.inn 3 _ _ (by kernel_rfl) rfl rfl).trans (by kernel_rfl), trivial⟩) (fun g_ X_ => (wn rfl)) (fun b_ g_ => by kernel_rfl) (fun b_ g_ X_ w_ h_b h_ => valTo (b := .int .i64 (p.x / (sideL (k : Int)))) (by kernel_rfl) (gQuo (A := p.x) (B := (sideL (k : Int))) (C := p.x / (sideL (k : Int))) (.tmp 54) (.tmp 55) rfl (litEv (by kernel_rfl)) (litEv (by kernel_rfl)) rfl (by omega) (by omega)))) ?_
        refine aoNext rfl (aoVal (fun g_ => [(11, .int .i64 (sideL (k : Int)))]) (fun g_ a_ h_k => ⟨(h_k.out 11 (by kernel_rfl)).trans (litGet (by kernel_rfl)), trivial⟩) (fun g_ X_ => (wn rfl)) (fun b_ g_ => by kernel_rfl) (fun b_ g_ X_ w_ h_b h_ => valTo (b := .int .i64 (sideL (k : Int))) (by kernel_rfl) (litRun (by kernel_rfl)))) ?_
        refine aoNext rfl (aoVal (fun g_ => [(56, .int .i64 (p.x / (sideL (k : Int)))), (57, .int .i64 (sideL (k : Int)))]) (fun g_ a_ h_k => ⟨(h_k.inn 4 _ _ (by kernel_rfl) rfl rfl).trans (by kernel_rfl), (h_k.inn 5 _ _ (by kernel_rfl) rfl rfl).trans (by kernel_rfl), trivial⟩) (fun g_ X_ => (wn rfl)) (fun b_ g_ => by kernel_rfl) (fun b_ g_ X_ w_ h_b h_ => valTo (b := .int .i64 ((p.x / (sideL (k : Int))) * (sideL (k : Int)))) (by kernel_rfl) (mulRun' (A := (p.x / (sideL (k : Int)))) (B := (sideL (k : Int))) (C := (p.x / (sideL (k : Int))) * (sideL (k : Int))) (.tmp 56) (.tmp 57) rfl (litEv (by kernel_rfl)) (litEv (by kernel_rfl)) rfl (by omega)))) ?_
        refine aoNext rfl (aoVal (fun g_ => [(6, .pointer (some ⟨g5, 0, none⟩))]) (fun g_ a_ h_k => ⟨(h_k.out 6 (by kernel_rfl)).trans (litGet (by kernel_rfl)), trivial⟩) (fun g_ X_ => (wn rfl)) (fun b_ g_ => by kernel_rfl) (fun b_ g_ X_ w_ h_b h_ => valTo (b := .pointer (some ⟨g5, 1, none⟩)) (by kernel_rfl) (litRun (by kernel_rfl)))) ?_
        refine aoNext rfl (aoVal (fun g_ => [(59, .pointer (some ⟨g5, 1, none⟩))]) (fun g_ a_ h_k => ⟨(h_k.inn 7 _ _ (by kernel_rfl) rfl rfl).trans (by kernel_rfl), trivial⟩) (fun g_ X_ => (wn rfl)) (fun b_ g_ => by kernel_rfl) (fun b_ g_ X_ w_ h_b h_ => valTo (b := .int .i64 p.y) (by kernel_rfl) (gLoad (v := .int .i64 p.y) (k := 1) 1 h_ rfl (by kernel_rfl) (.tmp 59) (by kernel_rfl) rfl (litEv (by kernel_rfl))))) ?_
        refine aoNext rfl (aoVal (fun g_ => [(11, .int .i64 (sideL (k : Int)))]) (fun g_ a_ h_k => ⟨(h_k.out 11 (by kernel_rfl)).trans (litGet (by kernel_rfl)), trivial⟩) (fun g_ X_ => (wn rfl)) (fun b_ g_ => by kernel_rfl) (fun b_ g_ X_ w_ h_b h_ => valTo (b := .int .i64 (sideL (k : Int))) (by kernel_rfl) (litRun (by kernel_rfl)))) ?_
        refine aoNext rfl (aoVal (fun g_ => [(60, .int .i64 p.y), (61, .int .i64 (sideL (k : Int)))]) (fun g_ a_ h_k => ⟨(h_k.inn 8 _ _ (by kernel_rfl) rfl rfl).trans (by kernel_rfl), (h_k.inn 9 _ _ (by kernel_rfl) rfl rfl).trans (by kernel_rfl), trivial⟩) (fun g_ X_ => (wn rfl)) (fun b_ g_ => by kernel_rfl) (fun b_ g_ X_ w_ h_b h_ => valTo (b := .int .i64 (p.y / (sideL (k : Int)))) (by kernel_rfl) (gQuo (A := p.y) (B := (sideL (k : Int))) (C := p.y / (sideL (k : Int))) (.tmp 60) (.tmp 61) rfl (litEv (by kernel_rfl)) (litEv (by kernel_rfl)) rfl (by omega) (by omega)))) ?_
        refine aoNext rfl (aoVal (fun g_ => [(11, .int .i64 (sideL (k : Int)))]) (fun g_ a_ h_k => ⟨(h_k.out 11 (by kernel_rfl)).trans (litGet (by kernel_rfl)), trivial⟩) (fun g_ X_ => (wn rfl)) (fun b_ g_ => by kernel_rfl) (fun b_ g_ X_ w_ h_b h_ => valTo (b := .int .i64 (sideL (k : Int))) (by kernel_rfl) (litRun (by kernel_rfl)))) ?_
        refine aoNext rfl (aoVal (fun g_ => [(62, .int .i64 (p.y / (sideL (k : Int)))), (63, .int .i64 (sideL (k : Int)))]) (fun g_ a_ h_k => ⟨(h_k.inn 10 _ _ (by kernel_rfl) rfl rfl).trans (by kernel_rfl), (h_k.inn 11 _ _ (by kernel_rfl) rfl rfl).trans (by kernel_rfl), trivial⟩) (fun g_ X_ => (wn rfl)) (fun b_ g_ => by kernel_rfl) (fun b_ g_ X_ w_ h_b h_ => valTo (b := .int .i64 ((p.y / (sideL (k : Int))) * (sideL (k : Int)))) (by kernel_rfl) (mulRun' (A := (p.y / (sideL (k : Int)))) (B := (sideL (k : Int))) (C := (p.y / (sideL (k : Int))) * (sideL (k : Int))) (.tmp 62) (.tmp 63) rfl (litEv (by kernel_rfl)) (litEv (by kernel_rfl)) rfl (by omega)))) ?_
        refine aoNext rfl (aoVal (fun g_ => [(6, .pointer (some ⟨g5, 0, none⟩))]) (fun g_ a_ h_k => ⟨(h_k.out 6 (by kernel_rfl)).trans (litGet (by kernel_rfl)), trivial⟩) (fun g_ X_ => (wn rfl)) (fun b_ g_ => by kernel_rfl) (fun b_ g_ X_ w_ h_b h_ => valTo (b := .pointer (some ⟨g5, 2, none⟩)) (by kernel_rfl) (litRun (by kernel_rfl)))) ?_
        refine aoNext rfl (aoVal (fun g_ => [(65, .pointer (some ⟨g5, 2, none⟩))]) (fun g_ a_ h_k => ⟨(h_k.inn 13 _ _ (by kernel_rfl) rfl rfl).trans (by kernel_rfl), trivial⟩) (fun g_ X_ => (wn rfl)) (fun b_ g_ => by kernel_rfl) (fun b_ g_ X_ w_ h_b h_ => valTo (b := .int .i64 p.z) (by kernel_rfl) (gLoad (v := .int .i64 p.z) (k := 2) 1 h_ rfl (by kernel_rfl) (.tmp 65) (by kernel_rfl) rfl (litEv (by kernel_rfl))))) ?_
        refine aoNext rfl (aoVal (fun g_ => [(11, .int .i64 (sideL (k : Int)))]) (fun g_ a_ h_k => ⟨(h_k.out 11 (by kernel_rfl)).trans (litGet (by kernel_rfl)), trivial⟩) (fun g_ X_ => (wn rfl)) (fun b_ g_ => by kernel_rfl) (fun b_ g_ X_ w_ h_b h_ => valTo (b := .int .i64 (sideL (k : Int))) (by kernel_rfl) (litRun (by kernel_rfl)))) ?_
        refine aoNext rfl (aoVal (fun g_ => [(66, .int .i64 p.z), (67, .int .i64 (sideL (k : Int)))]) (fun g_ a_ h_k => ⟨(h_k.inn 14 _ _ (by kernel_rfl) rfl rfl).trans (by kernel_rfl), (h_k.inn 15 _ _ (by kernel_rfl) rfl rfl).trans (by kernel_rfl), trivial⟩) (fun g_ X_ => (wn rfl)) (fun b_ g_ => by kernel_rfl) (fun b_ g_ X_ w_ h_b h_ => valTo (b := .int .i64 (p.z / (sideL (k : Int)))) (by kernel_rfl) (gQuo (A := p.z) (B := (sideL (k : Int))) (C := p.z / (sideL (k : Int))) (.tmp 66) (.tmp 67) rfl (litEv (by kernel_rfl)) (litEv (by kernel_rfl)) rfl (by omega) (by omega)))) ?_
        refine aoNext rfl (aoVal (fun g_ => [(11, .int .i64 (sideL (k : Int)))]) (fun g_ a_ h_k => ⟨(h_k.out 11 (by kernel_rfl)).trans (litGet (by kernel_rfl)), trivial⟩) (fun g_ X_ => (wn rfl)) (fun b_ g_ => by kernel_rfl) (fun b_ g_ X_ w_ h_b h_ => valTo (b := .int .i64 (sideL (k : Int))) (by kernel_rfl) (litRun (by kernel_rfl)))) ?_
        refine aoNext rfl (aoVal (fun g_ => [(68, .int .i64 (p.z / (sideL (k : Int)))), (69, .int .i64 (sideL (k : Int)))]) (fun g_ a_ h_k => ⟨(h_k.inn 16 _ _ (by kernel_rfl) rfl rfl).trans (by kernel_rfl), (h_k.inn 17 _ _ (by kernel_rfl) rfl rfl).trans (by kernel_rfl), trivial⟩) (fun g_ X_ => (wn rfl)) (fun b_ g_ => by kernel_rfl) (fun b_ g_ X_ w_ h_b h_ => valTo (b := .int .i64 ((p.z / (sideL (k : Int))) * (sideL (k : Int)))) (by kernel_rfl) (mulRun' (A := (p.z / (sideL (k : Int)))) (B := (sideL (k : Int))) (C := (p.z / (sideL (k : Int))) * (sideL (k : Int))) (.tmp 68) (.tmp 69) rfl (litEv (by kernel_rfl)) (litEv (by kernel_rfl)) rfl (by omega)))) ?_
        refine aoNext rfl (aoVal (fun g_ => [(58, .int .i64 ((p.x / (sideL (k : Int))) * (sideL (k : Int)))), (64, .int .i64 ((p.y / (sideL (k : Int))) * (sideL (k : Int)))), (70, .int .i64 ((p.z / (sideL (k : Int))) * (sideL (k : Int))))]) (fun g_ a_ h_k => ⟨(h_k.inn 6 _ _ (by kernel_rfl) rfl rfl).trans (by kernel_rfl), (h_k.inn 12 _ _ (by kernel_rfl) rfl rfl).trans (by kernel_rfl), (h_k.inn 18 _ _ (by kernel_rfl) rfl rfl).trans (by kernel_rfl), trivial⟩) (fun g_ X_ => (wn rfl)) (fun b_ g_ => by kernel_rfl) (fun b_ g_ X_ w_ h_b h_ => valTo (b := .agg (pcs ⟨(p.x / (sideL (k : Int))) * (sideL (k : Int)), (p.y / (sideL (k : Int))) * (sideL (k : Int)), (p.z / (sideL (k : Int))) * (sideL (k : Int))⟩).toArray) (by kernel_rfl) (litRun (by kernel_rfl)))) ?_
        refine aoNext rfl (aoVal (fun g_ => [(52, .int .i64 (k : Int)), (71, .agg (pcs ⟨(p.x / (sideL (k : Int))) * (sideL (k : Int)), (p.y / (sideL (k : Int))) * (sideL (k : Int)), (p.z / (sideL (k : Int))) * (sideL (k : Int))⟩).toArray)]) (fun g_ a_ h_k => ⟨(h_k.inn 0 _ _ (by kernel_rfl) rfl rfl).trans (by kernel_rfl), (h_k.inn 19 _ _ (by kernel_rfl) rfl rfl).trans (by kernel_rfl), trivial⟩) (fun g_ X_ => (wn rfl)) (fun b_ g_ => by kernel_rfl) (fun b_ g_ X_ w_ h_b h_ => valTo (b := .agg (tlc ⟨(k : Int), ⟨(p.x / (sideL (k : Int))) * (sideL (k : Int)), (p.y / (sideL (k : Int))) * (sideL (k : Int)), (p.z / (sideL (k : Int))) * (sideL (k : Int))⟩⟩).toArray) (by kernel_rfl) (litRun (by kernel_rfl)))) ?_
        refine aoNext rfl (aoNewAg (z := [.int .i64 0, .int .i64 0, .int .i64 0, .int .i64 0]) 2 Ty.ag_voxel_api_Tile rfl rfl (fun _ _ _ => ⟨_, rfl⟩) (fun b_ g_ γ_ h_b => Eq.trans (by kernel_rfl) (congrArg (fun x_ => List.set _ 2 (Res.arr γ_ 38 x_)) (bselF (α := List Value) (h_b.post 22 (by kernel_rfl)) [.int .i64 (k : Int), .int .i64 ((p.x / (sideL (k : Int))) * (sideL (k : Int))), .int .i64 ((p.y / (sideL (k : Int))) * (sideL (k : Int))), .int .i64 ((p.z / (sideL (k : Int))) * (sideL (k : Int)))] [.int .i64 0, .int .i64 0, .int .i64 0, .int .i64 0]))) (fun _ => by kernel_rfl) (by kernel_rfl)) ?_
        refine aoNext rfl (aoStore (gb := fun g_ => (g_ 21)) (k := 0) (cur := fun g_ => [.int .i64 0, .int .i64 0, .int .i64 0, .int .i64 0]) (vs := fun g_ => tlc ⟨(k : Int), ⟨(p.x / (sideL (k : Int))) * (sideL (k : Int)), (p.y / (sideL (k : Int))) * (sideL (k : Int)), (p.z / (sideL (k : Int))) * (sideL (k : Int))⟩⟩) 2 (fun g_ => [(12, .pointer (some ⟨(g_ 21), 0, none⟩)), (72, .agg (tlc ⟨(k : Int), ⟨(p.x / (sideL (k : Int))) * (sideL (k : Int)), (p.y / (sideL (k : Int))) * (sideL (k : Int)), (p.z / (sideL (k : Int))) * (sideL (k : Int))⟩⟩).toArray)]) (fun g_ a_ h_k => ⟨(h_k.inn 21 _ _ (by kernel_rfl) rfl rfl).trans (by kernel_rfl), (h_k.inn 20 _ _ (by kernel_rfl) rfl rfl).trans (by kernel_rfl), trivial⟩) Ty.ag_voxel_api_Tile (fun b_ g_ h_b => by show some (bsel (b_ 21) (Res.arr (g_ 21) 38 (bsel (b_ 22) [.int .i64 (k : Int), .int .i64 ((p.x / (sideL (k : Int))) * (sideL (k : Int))), .int .i64 ((p.y / (sideL (k : Int))) * (sideL (k : Int))), .int .i64 ((p.z / (sideL (k : Int))) * (sideL (k : Int)))] [.int .i64 0, .int .i64 0, .int .i64 0, .int .i64 0])) Res.free) = some (Res.arr (g_ 21) 38 ([.int .i64 0, .int .i64 0, .int .i64 0, .int .i64 0])); rw [bselT (h_b.pre 21 (by kernel_rfl)), bselF h_b.no]) (fun g_ X_ => (wn rfl)) rfl (fun g_ X_ => litEv (by kernel_rfl)) (fun g_ X_ => litEv (by kernel_rfl)) (fun _ => by kernel_rfl) (fun _ => by kernel_rfl) (fun _ => by kernel_rfl) (fun b_ g_ h_b => Eq.trans (b := List.set (((.arr g2 25 (vwc v)) :: (.arr g5 23 (pcs p)) :: (bsel (b_ 21) (.arr (g_ 21) 38 (bsel (b_ 22) [.int .i64 (k : Int), .int .i64 ((p.x / (sideL (k : Int))) * (sideL (k : Int))), .int .i64 ((p.y / (sideL (k : Int))) * (sideL (k : Int))), .int .i64 ((p.z / (sideL (k : Int))) * (sideL (k : Int)))] [.int .i64 0, .int .i64 0, .int .i64 0, .int .i64 0])) .free) :: [])) 2 (bsel (b_ 21) (Res.arr (g_ 21) 38 ([.int .i64 (k : Int), .int .i64 ((p.x / (sideL (k : Int))) * (sideL (k : Int))), .int .i64 ((p.y / (sideL (k : Int))) * (sideL (k : Int))), .int .i64 ((p.z / (sideL (k : Int))) * (sideL (k : Int)))])) Res.free)) (by kernel_rfl) (congrArg (fun x_ => List.set _ 2 x_) (bselT (h_b.pre 21 (by kernel_rfl)) _ _))) rfl) ?_
        exact aoDone (by decide)
      intro g_ a_ w54 hF_ hm53
      obtain ⟨X55, rfl⟩ := frLit (⟨hF_.size, hF_.defers, ⟨(hF_.out 1 (by kernel_rfl)).trans (litGet (by kernel_rfl)), (hF_.out 3 (by kernel_rfl)).trans (litGet (by kernel_rfl)), (hF_.out 4 (by kernel_rfl)).trans (litGet (by kernel_rfl)), (hF_.out 6 (by kernel_rfl)).trans (litGet (by kernel_rfl)), (hF_.out 9 (by kernel_rfl)).trans (litGet (by kernel_rfl)), (hF_.out 10 (by kernel_rfl)).trans (litGet (by kernel_rfl)), (hF_.out 11 (by kernel_rfl)).trans (litGet (by kernel_rfl)), (hF_.inn 21 _ _ rfl rfl).trans (by kernel_rfl), (hF_.out 44 (by kernel_rfl)).trans (litGet (by kernel_rfl)), (hF_.out 45 (by kernel_rfl)).trans (litGet (by kernel_rfl)), (hF_.out 46 (by kernel_rfl)).trans (litGet (by kernel_rfl)), (hF_.out 47 (by kernel_rfl)).trans (litGet (by kernel_rfl)), (hF_.out 50 (by kernel_rfl)).trans (litGet (by kernel_rfl)), (hF_.out 51 (by kernel_rfl)).trans (litGet (by kernel_rfl)), (hF_.inn 0 _ _ rfl rfl).trans (by kernel_rfl), (hF_.inn 1 _ _ rfl rfl).trans (by kernel_rfl), (hF_.inn 2 _ _ rfl rfl).trans (by kernel_rfl), (hF_.inn 3 _ _ rfl rfl).trans (by kernel_rfl), (hF_.inn 4 _ _ rfl rfl).trans (by kernel_rfl), (hF_.inn 5 _ _ rfl rfl).trans (by kernel_rfl), (hF_.inn 6 _ _ rfl rfl).trans (by kernel_rfl), (hF_.inn 7 _ _ rfl rfl).trans (by kernel_rfl), (hF_.inn 8 _ _ rfl rfl).trans (by kernel_rfl), (hF_.inn 9 _ _ rfl rfl).trans (by kernel_rfl), (hF_.inn 10 _ _ rfl rfl).trans (by kernel_rfl), (hF_.inn 11 _ _ rfl rfl).trans (by kernel_rfl), (hF_.inn 12 _ _ rfl rfl).trans (by kernel_rfl), (hF_.inn 13 _ _ rfl rfl).trans (by kernel_rfl), (hF_.inn 14 _ _ rfl rfl).trans (by kernel_rfl), (hF_.inn 15 _ _ rfl rfl).trans (by kernel_rfl), (hF_.inn 16 _ _ rfl rfl).trans (by kernel_rfl), (hF_.inn 17 _ _ rfl rfl).trans (by kernel_rfl), (hF_.inn 18 _ _ rfl rfl).trans (by kernel_rfl), (hF_.inn 19 _ _ rfl rfl).trans (by kernel_rfl), (hF_.inn 20 _ _ rfl rfl).trans (by kernel_rfl), trivial⟩⟩ : Fr _ 118 [(1, .int .i64 depth), (3, .int .u16 dx), (4, .pointer (some ⟨g2, 0, none⟩)), (6, .pointer (some ⟨g5, 0, none⟩)), (9, .int .i64 last), (10, .int .i64 (k : Int)), (11, .int .i64 (sideL (k : Int))), (12, .pointer (some ⟨(g_ 21), 0, none⟩)), (44, .int .i64 (k : Int)), (45, .int .i64 depth), (46, .int .i64 (depth - 2)), (47, .bool true), (50, .int .i64 (k : Int)), (51, .int .i64 (sideL (k : Int))), (52, .int .i64 (k : Int)), (53, .pointer (some ⟨g5, 0, none⟩)), (54, .int .i64 p.x), (55, .int .i64 (sideL (k : Int))), (56, .int .i64 (p.x / (sideL (k : Int)))), (57, .int .i64 (sideL (k : Int))), (58, .int .i64 ((p.x / (sideL (k : Int))) * (sideL (k : Int)))), (59, .pointer (some ⟨g5, 1, none⟩)), (60, .int .i64 p.y), (61, .int .i64 (sideL (k : Int))), (62, .int .i64 (p.y / (sideL (k : Int)))), (63, .int .i64 (sideL (k : Int))), (64, .int .i64 ((p.y / (sideL (k : Int))) * (sideL (k : Int)))), (65, .pointer (some ⟨g5, 2, none⟩)), (66, .int .i64 p.z), (67, .int .i64 (sideL (k : Int))), (68, .int .i64 (p.z / (sideL (k : Int)))), (69, .int .i64 (sideL (k : Int))), (70, .int .i64 ((p.z / (sideL (k : Int))) * (sideL (k : Int)))), (71, .agg (pcs ⟨(p.x / (sideL (k : Int))) * (sideL (k : Int)), (p.y / (sideL (k : Int))) * (sideL (k : Int)), (p.z / (sideL (k : Int))) * (sideL (k : Int))⟩).toArray), (72, .agg (tlc ⟨(k : Int), ⟨(p.x / (sideL (k : Int))) * (sideL (k : Int)), (p.y / (sideL (k : Int))) * (sideL (k : Int)), (p.z / (sideL (k : Int))) * (sideL (k : Int))⟩⟩).toArray)])
      clear hF_
      have hm56 : Mem w w54 [.arr g2 25 (vwc v), .arr g5 23 (pcs p), .arr (g_ 21) 38 (tlc ⟨(k : Int), ⟨(p.x / (sideL (k : Int))) * (sideL (k : Int)), (p.y / (sideL (k : Int))) * (sideL (k : Int)), (p.z / (sideL (k : Int))) * (sideL (k : Int))⟩⟩)] := hm53
      clear hm53 hm44
      generalize g_ 21 = g57 at hm56 ⊢
      clear g_
      refine then_normal (hK52 _ _ ?_)
      refine wp_seq_k fun K58 hK58 => ?_
      refine plStart ?_
      refine litVal (v := .agg (vwc v).toArray) rfl (wn rfl) (gLoadAg (vs := vwc v) (k := 0) 0 hm56 rfl (by kernel_rfl) (by kernel_rfl) (.tmp 4) Ty.ag_voxel_api_Viewer rfl (litEv (by kernel_rfl))) rfl (by decide) ?_
      refine litVal (v := .agg (tlc ⟨(k : Int), ⟨(p.x / (sideL (k : Int))) * (sideL (k : Int)), (p.y / (sideL (k : Int))) * (sideL (k : Int)), (p.z / (sideL (k : Int))) * (sideL (k : Int))⟩⟩).toArray) rfl (wn rfl) (gLoadAg (vs := tlc ⟨(k : Int), ⟨(p.x / (sideL (k : Int))) * (sideL (k : Int)), (p.y / (sideL (k : Int))) * (sideL (k : Int)), (p.z / (sideL (k : Int))) * (sideL (k : Int))⟩⟩) (k := 0) 2 hm56 rfl (by kernel_rfl) (by kernel_rfl) (.tmp 12) Ty.ag_voxel_api_Tile rfl (litEv (by kernel_rfl))) rfl (by decide) ?_
      refine plCall (i := 2) 14 [.agg (vwc v).toArray, .agg (tlc ⟨(k : Int), ⟨(p.x / (sideL (k : Int))) * (sideL (k : Int)), (p.y / (sideL (k : Int))) * (sideL (k : Int)), (p.z / (sideL (k : Int))) * (sideL (k : Int))⟩⟩).toArray] [] [] rfl (by kernel_rfl) (wn rfl) rfl (litEv (by kernel_rfl)) (litArgs (by kernel_rfl)) (err_any v (tileAt (k : Int) p) hv_ htok _) ?_
      rintro e w59 ⟨rfl, hbz⟩
      have hm60 := hm56.below hbz
      clear hbz hm56
      refine ⟨_, rfl, ?_⟩
      refine qP rfl ?_
      refine lk (v := .int .i64 (err v (tileAt (k : Int) p))) rfl rfl rfl ?_
      refine plD ?_
      refine then_normal (hK58 _ _ ?_)
      refine wp_seq_k fun K61 hK61 => ?_
      refine wp_seq_k fun K62 hK62 => ?_
      refine plStart ?_
      refine lk (v := .int .i64 (err v (tileAt (k : Int) p))) rfl rfl rfl ?_
      refine lk (v := .int .i64 last) rfl rfl rfl ?_
      refine litVal (v := .bool false) rfl (wn rfl) (boolTo (decide_eq_false (Int.not_lt.2 (hlast (by omega)))) (lssRun (A := (err v (tileAt (k : Int) p))) (B := last) (.tmp 76) (.tmp 77) rfl (litEv (by kernel_rfl)) (litEv (by kernel_rfl)))) rfl (by decide) ?_
      refine lk (v := .bool false) rfl rfl rfl ?_
      refine litVal (v := .int .i64 (err v (tileAt (k : Int) p))) rfl (wgY rfl rfl rfl (by decide) (by kernel_rfl)) (litRun (by kernel_rfl)) rfl (by decide) ?_
      refine litVal (v := .bool false) rfl (wgY rfl rfl rfl (by decide) (by kernel_rfl)) (boolTo (decide_eq_false (Int.not_lt.2 heb_.1)) (lssRun (A := (err v (tileAt (k : Int) p))) (B := 0) (.tmp 80) (.const (.int .i64 0)) rfl (litEv (by kernel_rfl)) (litEv (by kernel_rfl)))) rfl (by decide) ?_
      refine lk (v := .bool false) rfl rfl rfl ?_
      refine lk (v := .bool false) rfl rfl rfl ?_
      refine litVal (v := .int .i64 (err v (tileAt (k : Int) p))) rfl (wgY rfl rfl rfl (by decide) (by kernel_rfl)) (litRun (by kernel_rfl)) rfl (by decide) ?_
      refine litVal (v := .pointer (some ⟨g2, 3, none⟩)) rfl (wgY rfl rfl rfl (by decide) (by kernel_rfl)) (litRun (by kernel_rfl)) rfl (by decide) ?_
      refine litVal (v := .int .i64 v.sc) rfl (wgY rfl rfl rfl (by decide) (by kernel_rfl)) (gLoad (v := .int .i64 v.sc) (k := 3) 0 hm60 rfl (by kernel_rfl) (.tmp 85) (by kernel_rfl) rfl (litEv (by kernel_rfl))) rfl (by decide) ?_
      refine litVal (v := .int .i64 (k : Int)) rfl (wgY rfl rfl rfl (by decide) (by kernel_rfl)) (litRun (by kernel_rfl)) rfl (by decide) ?_
      refine litVal (v := .int .i64 (v.sc * 2 ^ (k : Int).toNat)) rfl (wgY rfl rfl rfl (by decide) (by kernel_rfl)) (gShl (A := v.sc) (N := (k : Int)) (C := v.sc * 2 ^ (k : Int).toNat) (.tmp 86) (.tmp 87) rfl (litEv (by kernel_rfl)) (litEv (by kernel_rfl)) (rfl) (by omega) (by omega) (by omega)) rfl (by decide) ?_
      refine litVal (v := .bool false) rfl (wgY rfl rfl rfl (by decide) (by kernel_rfl)) (boolTo (decide_eq_false (Int.not_lt.2 heb_.2)) (gtrRun (A := (err v (tileAt (k : Int) p))) (B := (v.sc * 2 ^ (k : Int).toNat)) (.tmp 84) (.tmp 88) rfl (litEv (by kernel_rfl)) (litEv (by kernel_rfl)))) rfl (by decide) ?_
      refine lk (v := .bool false) rfl rfl rfl ?_
      refine plD ?_
      refine then_normal (hK62 _ _ ?_)
      refine wp_cond_false (litEv (by kernel_rfl)) ?_
      refine wp_skip ?_
      refine then_normal (hK61 _ _ ?_)
      refine wp_seq_k fun K63 hK63 => ?_
      refine plStart ?_
      refine lk (v := .int .i64 (err v (tileAt (k : Int) p))) rfl rfl rfl ?_
      refine lk (v := .int .i64 (err v (tileAt (k : Int) p))) rfl rfl rfl ?_
      refine plD ?_
      refine then_normal (hK63 _ _ ?_)
      refine wp_seq_k fun K64 hK64 => ?_
      refine plStart ?_
      refine litVal (v := .agg (vwc v).toArray) rfl (wn rfl) (gLoadAg (vs := vwc v) (k := 0) 0 hm60 rfl (by kernel_rfl) (by kernel_rfl) (.tmp 4) Ty.ag_voxel_api_Viewer rfl (litEv (by kernel_rfl))) rfl (by decide) ?_
      refine plAlloc (z := [.int .i64 0, .int .i64 0, .int .i64 0, .int .i64 0, .int .i64 0, .int .i64 0]) Ty.ag_voxel_api_Viewer hm60 (i := 1) rfl (wn rfl) rfl ?_
      intro g65 w67 hm66
      clear hm60
      try simp only [List.cons_append, List.nil_append, List.set_cons_succ, List.set_cons_zero] at hm66
      refine qP rfl ?_
      refine plStore 3 Ty.ag_voxel_api_Viewer hm66 rfl (i := 2) (cs := vwc v) rfl (wn rfl) rfl (litEv (by kernel_rfl)) (litEv (by kernel_rfl)) rfl rfl (by kernel_rfl) ?_
      intro w69 hm68
      clear hm66
      try simp only [List.cons_append, List.nil_append, List.set_cons_succ, List.set_cons_zero] at hm68
      refine qNone rfl ?_
      refine plD ?_
      refine then_normal (hK64 _ _ ?_)
      refine wp_seq_k fun K70 hK70 => ?_
      refine plStart ?_
      refine lk (v := .pointer (some ⟨g65, 0, none⟩)) rfl rfl rfl ?_
      refine lk (v := .pointer (some ⟨g65, 0, none⟩)) rfl rfl rfl ?_
      refine litVal (v := .int .i64 v.p.x) rfl (wn rfl) (gLoad (v := .int .i64 v.p.x) (k := 0) 3 hm68 rfl (by kernel_rfl) (.tmp 94) (by kernel_rfl) rfl (litEv (by kernel_rfl))) rfl (by decide) ?_
      refine lk (v := .int .u16 dx) rfl rfl rfl ?_
      refine litVal (v := .int .i64 dx) rfl (wn rfl) (convIntRun (k := .u16) (A := dx) (.tmp 96) (by kernel_rfl) (by kernel_rfl) rfl (litEv (by kernel_rfl)) (by omega)) rfl (by decide) ?_
      refine litVal (v := .int .i64 (v.p.x + dx)) rfl (wn rfl) (addRun (A := v.p.x) (B := dx) (C := v.p.x + dx) (.tmp 95) (.tmp 97) rfl (litEv (by kernel_rfl)) (litEv (by kernel_rfl)) rfl (by omega)) rfl (by decide) ?_
      refine lk (v := .pointer (some ⟨g65, 0, none⟩)) rfl rfl rfl ?_
      refine lk (v := .pointer (some ⟨g65, 0, none⟩)) rfl rfl rfl ?_
      refine plStore1 (v := .int .i64 (v.p.x + dx)) (k := 0) 3 (by kernel_rfl) hm68 rfl (i := 8) rfl (wn rfl) rfl (litEv (by kernel_rfl)) (litEv (by kernel_rfl)) rfl rfl rfl ?_
      intro w72 hm71
      clear hm68
      try simp only [List.cons_append, List.nil_append, List.set_cons_succ, List.set_cons_zero] at hm71
      refine qNone rfl ?_
      refine plD ?_
      refine then_normal (hK70 _ _ ?_)
      refine wp_seq_k fun K73 hK73 => ?_
      refine plStart ?_
      have hfar_ : ckV (v.right dx) = 0 := ckV_right hv_ (by omega) (by omega)
      refine lk (v := .pointer (some ⟨g2, 0, none⟩)) rfl rfl rfl ?_
      refine lk (v := .pointer (some ⟨g2, 0, none⟩)) rfl rfl rfl ?_
      refine litVal (v := .int .i64 v.p.x) rfl (wn rfl) (gLoad (v := .int .i64 v.p.x) (k := 0) 0 hm71 rfl (by kernel_rfl) (.tmp 102) (by kernel_rfl) rfl (litEv (by kernel_rfl))) rfl (by decide) ?_
      refine lk (v := .pointer (some ⟨g57, 1, none⟩)) rfl rfl rfl ?_
      refine lk (v := .pointer (some ⟨g57, 1, none⟩)) rfl rfl rfl ?_
      refine litVal (v := .int .i64 ((p.x / (sideL (k : Int))) * (sideL (k : Int)))) rfl (wn rfl) (gLoad (v := .int .i64 ((p.x / (sideL (k : Int))) * (sideL (k : Int)))) (k := 1) 2 hm71 rfl (by kernel_rfl) (.tmp 105) (by kernel_rfl) rfl (litEv (by kernel_rfl))) rfl (by decide) ?_
      refine lk (v := .int .i64 (sideL (k : Int))) rfl rfl rfl ?_
      refine litVal (v := .int .i64 (((p.x / (sideL (k : Int))) * (sideL (k : Int))) + (sideL (k : Int)))) rfl (wn rfl) (addRun (A := ((p.x / (sideL (k : Int))) * (sideL (k : Int)))) (B := (sideL (k : Int))) (C := ((p.x / (sideL (k : Int))) * (sideL (k : Int))) + (sideL (k : Int))) (.tmp 106) (.tmp 107) rfl (litEv (by kernel_rfl)) (litEv (by kernel_rfl)) rfl (by omega)) rfl (by decide) ?_
      by_cases h74 : (((p.x / (sideL (k : Int))) * (sideL (k : Int))) + (sideL (k : Int))) ≤ v.p.x
      · refine litVal (v := .bool true) rfl (wn rfl) (boolTo (decide_eq_true h74) (gGeq (A := v.p.x) (B := (((p.x / (sideL (k : Int))) * (sideL (k : Int))) + (sideL (k : Int)))) (.tmp 103) (.tmp 108) rfl (litEv (by kernel_rfl)) (litEv (by kernel_rfl)))) rfl (by decide) ?_
        refine lk (v := .bool true) rfl rfl rfl ?_
        refine litVal (v := .agg ([.int .i64 (v.p.x + dx), .int .i64 v.p.y, .int .i64 v.p.z, .int .i64 v.sc, .int .i64 v.tol, .int .i64 v.bud]).toArray) rfl (wgY rfl rfl rfl (by decide) (by kernel_rfl)) (gLoadAg (vs := [.int .i64 (v.p.x + dx), .int .i64 v.p.y, .int .i64 v.p.z, .int .i64 v.sc, .int .i64 v.tol, .int .i64 v.bud]) (k := 0) 3 hm71 rfl (by kernel_rfl) (by kernel_rfl) (.tmp 14) Ty.ag_voxel_api_Viewer rfl (litEv (by kernel_rfl))) rfl (by decide) ?_
        refine litVal (v := .agg (tlc ⟨(k : Int), ⟨(p.x / (sideL (k : Int))) * (sideL (k : Int)), (p.y / (sideL (k : Int))) * (sideL (k : Int)), (p.z / (sideL (k : Int))) * (sideL (k : Int))⟩⟩).toArray) rfl (wgY rfl rfl rfl (by decide) (by kernel_rfl)) (gLoadAg (vs := tlc ⟨(k : Int), ⟨(p.x / (sideL (k : Int))) * (sideL (k : Int)), (p.y / (sideL (k : Int))) * (sideL (k : Int)), (p.z / (sideL (k : Int))) * (sideL (k : Int))⟩⟩) (k := 0) 2 hm71 rfl (by kernel_rfl) (by kernel_rfl) (.tmp 12) Ty.ag_voxel_api_Tile rfl (litEv (by kernel_rfl))) rfl (by decide) ?_
        refine plCall (i := 12) 14 [.agg ([.int .i64 (v.p.x + dx), .int .i64 v.p.y, .int .i64 v.p.z, .int .i64 v.sc, .int .i64 v.tol, .int .i64 v.bud]).toArray, .agg (tlc ⟨(k : Int), ⟨(p.x / (sideL (k : Int))) * (sideL (k : Int)), (p.y / (sideL (k : Int))) * (sideL (k : Int)), (p.z / (sideL (k : Int))) * (sideL (k : Int))⟩⟩).toArray] [] [] rfl (by kernel_rfl) (wgY rfl rfl rfl (by decide) (by kernel_rfl)) rfl (litEv (by kernel_rfl)) (litArgs (by kernel_rfl)) (err_any (v.right dx) (tileAt (k : Int) p) hfar_ htok _) ?_
        rintro e w75 ⟨rfl, hbz⟩
        have hm76 := hm71.below hbz
        clear hbz hm71
        refine ⟨_, rfl, ?_⟩
        refine qP rfl ?_
        refine litVal (v := .int .i64 (err v (tileAt (k : Int) p))) rfl (wgY rfl rfl rfl (by decide) (by kernel_rfl)) (litRun (by kernel_rfl)) rfl (by decide) ?_
        refine litVal (v := .bool false) rfl (wgY rfl rfl rfl (by decide) (by kernel_rfl)) (boolTo (decide_eq_false (Int.not_lt.2 (err_right hv_ htok (by omega) (show (p.x / sideL (k : Int)) * sideL (k : Int) + sideL (k : Int) ≤ v.p.x by omega)))) (gtrRun (A := (err (v.right dx) (tileAt (k : Int) p))) (B := (err v (tileAt (k : Int) p))) (.tmp 113) (.tmp 114) rfl (litEv (by kernel_rfl)) (litEv (by kernel_rfl)))) rfl (by decide) ?_
        refine lk (v := .bool false) rfl rfl rfl ?_
        refine plD ?_
        refine then_normal (hK73 _ _ ?_)
        refine wp_cond_false (litEv (by kernel_rfl)) ?_
        refine wp_skip ?_
        refine inBlock_normal ?_
        refine then_normal (hK50 _ _ ?_)
        refine plStart ?_
        refine lk (v := .int .i64 (k : Int)) rfl rfl rfl ?_
        refine litVal (v := .int .i64 ((k : Int) + 1)) rfl (wn rfl) (addRun (A := (k : Int)) (B := 1) (C := (k : Int) + 1) (.tmp 48) (.const (.int .i64 1)) rfl (litEv (by kernel_rfl)) (litEv (by kernel_rfl)) rfl (by omega)) rfl (by decide) ?_
        refine lk (v := .int .i64 ((k : Int) + 1)) rfl rfl rfl ?_
        refine plD ?_
        refine then_normal ?_
        exact ⟨_, by omega, (k + 1), _, rfl, (by omega), (by intro h_; have h2_ := err_mono (l := (k : Int)) hv_ ⟨by omega, by omega⟩ hpin_; rw [show ((k + 1 : Nat) : Int) = (k : Int) + 1 from by omega]; exact h2_), ⟨litSize, rfl, ⟨litGet (by kernel_rfl), ⟨litGet (by kernel_rfl), ⟨litGet (by kernel_rfl), ⟨litGet (by kernel_rfl), ⟨litGet (by kernel_rfl), ⟨litGet (by kernel_rfl), trivial⟩⟩⟩⟩⟩⟩⟩, (hm76.sub (.cons_cons _ (.cons_cons _ (.cons _ (.cons _ .slnil)))))⟩
      refine litVal (v := .bool false) rfl (wn rfl) (boolTo (decide_eq_false h74) (gGeq (A := v.p.x) (B := (((p.x / (sideL (k : Int))) * (sideL (k : Int))) + (sideL (k : Int)))) (.tmp 103) (.tmp 108) rfl (litEv (by kernel_rfl)) (litEv (by kernel_rfl)))) rfl (by decide) ?_
      refine lk (v := .bool false) rfl rfl rfl ?_
      refine plSkip (i := 10) rfl (wgN rfl rfl rfl (by decide) (by kernel_rfl)) ?_
      refine qP rfl ?_
      refine plSkip (i := 11) rfl (wgN rfl rfl rfl (by decide) (by kernel_rfl)) ?_
      refine qP rfl ?_
      refine plSkip (i := 12) rfl (wgN rfl rfl rfl (by decide) (by kernel_rfl)) ?_
      refine qP rfl ?_
      refine plSkip (i := 13) rfl (wgN rfl rfl rfl (by decide) (by kernel_rfl)) ?_
      refine qP rfl ?_
      refine plSkip (i := 14) rfl (wgN rfl rfl rfl (by decide) (by kernel_rfl)) ?_
      refine qP rfl ?_
      refine lk (v := .bool false) rfl rfl rfl ?_
      refine plD ?_
      refine then_normal (hK73 _ _ ?_)
      refine wp_cond_false (litEv (by kernel_rfl)) ?_
      refine wp_skip ?_
      refine inBlock_normal ?_
      refine then_normal (hK50 _ _ ?_)
      refine plStart ?_
      refine lk (v := .int .i64 (k : Int)) rfl rfl rfl ?_
      refine litVal (v := .int .i64 ((k : Int) + 1)) rfl (wn rfl) (addRun (A := (k : Int)) (B := 1) (C := (k : Int) + 1) (.tmp 48) (.const (.int .i64 1)) rfl (litEv (by kernel_rfl)) (litEv (by kernel_rfl)) rfl (by omega)) rfl (by decide) ?_
      refine lk (v := .int .i64 ((k : Int) + 1)) rfl rfl rfl ?_
      refine plD ?_
      refine then_normal ?_
      exact ⟨_, by omega, (k + 1), _, rfl, (by omega), (by intro h_; have h2_ := err_mono (l := (k : Int)) hv_ ⟨by omega, by omega⟩ hpin_; rw [show ((k + 1 : Nat) : Int) = (k : Int) + 1 from by omega]; exact h2_), ⟨litSize, rfl, ⟨litGet (by kernel_rfl), ⟨litGet (by kernel_rfl), ⟨litGet (by kernel_rfl), ⟨litGet (by kernel_rfl), ⟨litGet (by kernel_rfl), ⟨litGet (by kernel_rfl), trivial⟩⟩⟩⟩⟩⟩⟩, (hm71.sub (.cons_cons _ (.cons_cons _ (.cons _ (.cons _ .slnil)))))⟩
    refine litVal (v := .bool false) rfl (wn rfl) (boolTo (decide_eq_false h49) (leqRun (A := (k : Int)) (B := (depth - 2)) (.tmp 44) (.tmp 46) rfl (litEv (by kernel_rfl)) (litEv (by kernel_rfl)))) rfl (by decide) ?_
    refine plD ?_
    refine then_normal (hK48 _ _ ?_)
    refine wp_cond_false (litEv (by kernel_rfl)) ?_
    refine wp_exit ?_
    refine then_exit ?_
    refine then_exit ?_
    refine inBlock_exit ?_
    refine then_normal (hK41 _ _ ?_)
    refine wp_seq_k fun K77 hK77 => ?_
    refine plStart ?_
    refine plCall (i := 0) 8 [] [] [] rfl (by kernel_rfl) (wn rfl) rfl (litEv (by kernel_rfl)) (litArgs (by kernel_rfl)) (sanity_any _) ?_
    rintro e w78 ⟨rfl, hbz⟩
    have hm79 := hm44.below hbz
    clear hbz hm44
    refine ⟨_, rfl, ?_⟩
    refine qP rfl ?_
    refine lk (v := .bool true) rfl rfl rfl ?_
    refine plD ?_
    refine then_normal (hK77 _ _ ?_)
    refine wp_ret ?_
    refine bodyPost_ret (v := .bool true) (gRes1 rfl (gResTmp (t := 8) (v := .bool true) (litGet (by kernel_rfl)))) rfl ?_
    exact ⟨rfl, hm79.bel⟩
  refine mgTake (i := 2) (v := .bool true) rfl (by kernel_rfl) (wn rfl) (fun _ _ _ h => h) hm13 (fun w_ h_ => boolTo (by rw [decide_eq_false h14]; rfl) (neqRun (A := (ckV v)) (B := 0) (.tmp 16) (.const (.int .i64 0)) rfl (litEv (by kernel_rfl)) (litEv (by kernel_rfl)))) ?_
  refine mP rfl ?_
  refine mk_ (i := 3) (v := .bool true) rfl rfl (fun _ _ _ h => h) hm13 rfl ?_
  refine mgSkip (i := 4) rfl (by kernel_rfl) (wgN rfl rfl rfl (by decide) (by kernel_rfl)) (fun _ _ _ h => h) hm13 ?_
  refine mP rfl ?_
  refine mgSkip (i := 5) rfl (by kernel_rfl) (wgN rfl rfl rfl (by decide) (by kernel_rfl)) (fun _ _ _ h => h) hm13 ?_
  refine mP rfl ?_
  refine mk_ (i := 6) (v := .bool true) rfl rfl (fun _ _ _ h => h) hm13 rfl ?_
  refine mk_ (i := 7) (v := .bool true) rfl rfl (fun _ _ _ h => h) hm13 rfl ?_
  refine mgSkip (i := 8) rfl (by kernel_rfl) (wgN rfl rfl rfl (by decide) (by kernel_rfl)) (fun _ _ _ h => h) hm13 ?_
  refine mP rfl ?_
  refine mgSkip (i := 9) rfl (by kernel_rfl) (wgN rfl rfl rfl (by decide) (by kernel_rfl)) (fun _ _ _ h => h) hm13 ?_
  refine mP rfl ?_
  refine mk_ (i := 10) (v := .bool true) rfl rfl (fun _ _ _ h => h) hm13 rfl ?_
  refine mk_ (i := 11) (v := .bool true) rfl rfl (fun _ _ _ h => h) hm13 rfl ?_
  refine mgSkip (i := 12) rfl (by kernel_rfl) (wgN rfl rfl rfl (by decide) (by kernel_rfl)) (fun _ _ _ h => h) hm13 ?_
  refine mP rfl ?_
  refine mgSkip (i := 13) rfl (by kernel_rfl) (wgN rfl rfl rfl (by decide) (by kernel_rfl)) (fun _ _ _ h => h) hm13 ?_
  refine mP rfl ?_
  refine mgSkip (i := 14) rfl (by kernel_rfl) (wgN rfl rfl rfl (by decide) (by kernel_rfl)) (fun _ _ _ h => h) hm13 ?_
  refine mP rfl ?_
  refine mgSkip (i := 15) rfl (by kernel_rfl) (wgN rfl rfl rfl (by decide) (by kernel_rfl)) (fun _ _ _ h => h) hm13 ?_
  refine mP rfl ?_
  refine mgSkip (i := 16) rfl (by kernel_rfl) (wgN rfl rfl rfl (by decide) (by kernel_rfl)) (fun _ _ _ h => h) hm13 ?_
  refine mP rfl ?_
  refine mgSkip (i := 17) rfl (by kernel_rfl) (wgN rfl rfl rfl (by decide) (by kernel_rfl)) (fun _ _ _ h => h) hm13 ?_
  refine mP rfl ?_
  refine mk_ (i := 18) (v := .bool true) rfl rfl (fun _ _ _ h => h) hm13 rfl ?_
  refine mk_ (i := 19) (v := .bool true) rfl rfl (fun _ _ _ h => h) hm13 rfl ?_
  refine mgSkip (i := 20) rfl (by kernel_rfl) (wgN rfl rfl rfl (by decide) (by kernel_rfl)) (fun _ _ _ h => h) hm13 ?_
  refine mP rfl ?_
  refine mgSkip (i := 21) rfl (by kernel_rfl) (wgN rfl rfl rfl (by decide) (by kernel_rfl)) (fun _ _ _ h => h) hm13 ?_
  refine mP rfl ?_
  refine mgSkip (i := 22) rfl (by kernel_rfl) (wgN rfl rfl rfl (by decide) (by kernel_rfl)) (fun _ _ _ h => h) hm13 ?_
  refine mP rfl ?_
  refine mgSkip (i := 23) rfl (by kernel_rfl) (wgN rfl rfl rfl (by decide) (by kernel_rfl)) (fun _ _ _ h => h) hm13 ?_
  refine mP rfl ?_
  refine mgSkip (i := 24) rfl (by kernel_rfl) (wgN rfl rfl rfl (by decide) (by kernel_rfl)) (fun _ _ _ h => h) hm13 ?_
  refine mP rfl ?_
  refine mgSkip (i := 25) rfl (by kernel_rfl) (wgN rfl rfl rfl (by decide) (by kernel_rfl)) (fun _ _ _ h => h) hm13 ?_
  refine mP rfl ?_
  refine mgSkip (i := 26) rfl (by kernel_rfl) (wgN rfl rfl rfl (by decide) (by kernel_rfl)) (fun _ _ _ h => h) hm13 ?_
  refine mP rfl ?_
  refine mk_ (i := 27) (v := .bool true) rfl rfl (fun _ _ _ h => h) hm13 rfl ?_
  refine mgDone (by kernel_rfl) ?_
  refine then_normal (hK9 _ _ ?_)
  refine wpPrune [(1, .int .i64 depth), (3, .int .u16 dx), (4, .pointer (some ⟨g2, 0, none⟩)), (6, .pointer (some ⟨g5, 0, none⟩)), (8, .bool false), (42, .bool true)] ⟨litGet (by kernel_rfl), ⟨litGet (by kernel_rfl), ⟨litGet (by kernel_rfl), ⟨litGet (by kernel_rfl), ⟨litGet (by kernel_rfl), ⟨litGet (by kernel_rfl), trivial⟩⟩⟩⟩⟩⟩ (fun X80 => ?_)
  refine wp_cond_true (litEv (by kernel_rfl)) ?_
  refine wp_seq_k fun K81 hK81 => ?_
  refine plStart ?_
  refine plCall (i := 0) 8 [] [] [] rfl (by kernel_rfl) (wn rfl) rfl (litEv (by kernel_rfl)) (litArgs (by kernel_rfl)) (sanity_any _) ?_
  rintro e w82 ⟨rfl, hbz⟩
  have hm83 := hm13.below hbz
  clear hbz hm13
  refine ⟨_, rfl, ?_⟩
  refine qP rfl ?_
  refine lk (v := .bool true) rfl rfl rfl ?_
  refine plD ?_
  refine then_normal (hK81 _ _ ?_)
  refine wp_ret ?_
  refine then_ret ?_
  refine bodyPost_ret (v := .bool true) (gRes1 rfl (gResTmp (t := 8) (v := .bool true) (litGet (by kernel_rfl)))) rfl ?_
  exact ⟨rfl, hm83.bel⟩
end Go.Proofs.Ytkmhjgdpkddbnaa
