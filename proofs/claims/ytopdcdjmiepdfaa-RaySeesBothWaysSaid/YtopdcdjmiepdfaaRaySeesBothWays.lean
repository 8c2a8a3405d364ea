/-
  RaySeesBothWays: who sees whom.
-/
import Derived.Test.YtopdcdjmiepdfaaRI
import Derived.Test.YtopdcdjmiepdfaaRH
namespace Go.Proofs.Ytopdcdjmiepdfaa
open Go.RowKit
set_option linter.unusedVariables false
set_option linter.unusedSimpArgs false

set_option maxRecDepth 100000 in
set_option maxHeartbeats 4000000 in
theorem walk_RaySeesBothWays (g : Gr) (A : Option Addr) (c : Nat) (T : List Mat) (A2 : Option Addr) (c2 : Nat) (a b : Pt) (w : World) (hrd : Rd w w.heap.size 1 A g.cells.length c (ics g.cells)) (htb : Rd w w.heap.size 8 A2 T.length c2 (mts T)) (_b0_x : -9223372036854775808 ≤ a.x ∧ a.x ≤ 9223372036854775807) (_b0_y : -9223372036854775808 ≤ a.y ∧ a.y ≤ 9223372036854775807) (_b0_z : -9223372036854775808 ≤ a.z ∧ a.z ≤ 9223372036854775807) (_b1_x : -9223372036854775808 ≤ b.x ∧ b.x ≤ 9223372036854775807) (_b1_y : -9223372036854775808 ≤ b.y ∧ b.y ≤ 9223372036854775807) (_b1_z : -9223372036854775808 ≤ b.z ∧ b.z ≤ 9223372036854775807) : Calls Try.prog 7 #[.agg (gcs g A c).toArray, .slice A2 T.length c2, .agg (pcs a).toArray, .agg (pcs b).toArray] w (RetB w true) := by
  have hm0 := memRd2 hrd htb
  go_enter Try.func7, Try.ntmps7
  refine litStart 129 [(0, .agg (gcs g A c).toArray), (1, .slice A2 T.length c2), (2, .agg (pcs a).toArray), (3, .agg (pcs b).toArray)] (by kernel_rfl) (fun X0 => ?_)
  refine wp_seq_k fun K1 hK1 => ?_
  refine plStart ?_
  refine plBox hm0 (cs := gcs g A c) (i := 0) rfl (wn rfl) rfl (litEv (by kernel_rfl)) ?_
  intro g2 w4 hm3
  clear hm0
  try simp only [List.cons_append, List.nil_append, List.set_cons_succ, List.set_cons_zero] at hm3
  refine qPut rfl (by decide) ?_
  refine plBox hm3 (cs := pcs a) (i := 1) rfl (wn rfl) rfl (litEv (by kernel_rfl)) ?_
  intro g5 w7 hm6
  clear hm3
  try simp only [List.cons_append, List.nil_append, List.set_cons_succ, List.set_cons_zero] at hm6
  refine qPut rfl (by decide) ?_
  refine plBox hm6 (cs := pcs b) (i := 2) rfl (wn rfl) rfl (litEv (by kernel_rfl)) ?_
  intro g8 w10 hm9
  clear hm6
  try simp only [List.cons_append, List.nil_append, List.set_cons_succ, List.set_cons_zero] at hm9
  refine qPut rfl (by decide) ?_
  refine litK (v := .bool false) rfl rfl (by kernel_rfl) rfl (by decide) ?_
  refine plDone (by decide) ?_
  refine then_normal (hK1 _ _ ?_)
  refine wp_seq_k fun K11 hK11 => ?_
  refine plStart ?_
  refine plCall (i := 0) 8 [] [] [] rfl (by kernel_rfl) (wn rfl) rfl (litEv (by kernel_rfl)) (litArgs (by kernel_rfl)) (sanity_any _) ?_
  rintro e w12 ⟨rfl, hbz⟩
  have hm13 := hm9.below hbz
  clear hbz hm9
  refine ⟨_, rfl, ?_⟩
  refine qPut rfl (by decide) ?_
  refine litK (v := .bool true) rfl rfl (by kernel_rfl) rfl (by decide) ?_
  refine plDone (by decide) ?_
  refine then_normal (hK11 _ _ ?_)
  refine wp_seq_k fun K14 hK14 => ?_
  refine wp_seq_k fun K15 hK15 => ?_
  refine plStart ?_
  refine litVal (v := .agg (pcs a).toArray) rfl (wn rfl) (gLoadAg (vs := pcs a) (k := 0) 3 hm13 rfl (by kernel_rfl) (by kernel_rfl) (.tmp 6) Ty.ag_voxel_api_Point rfl (litEv (by kernel_rfl))) rfl (by decide) ?_
  refine plCall (i := 1) 20 [.agg (pcs a).toArray] [] [] rfl (by kernel_rfl) (wn rfl) rfl (litEv (by kernel_rfl)) (litArgs (by kernel_rfl)) (inRange1_any a _) ?_
  rintro e w16 ⟨rfl, hbz⟩
  have hm17 := hm13.below hbz
  clear hbz hm13
  refine ⟨_, rfl, ?_⟩
  refine qPut rfl (by decide) ?_
  rcases bool_or (decide a.rng) with h18 | h18
  · rw [h18]
    refine litK (v := .bool true) rfl rfl (by kernel_rfl) rfl (by decide) ?_
    refine litK (v := .bool true) rfl rfl (by kernel_rfl) rfl (by decide) ?_
    refine plSkip (i := 4) rfl (wgN rfl rfl rfl (by decide) (by kernel_rfl)) ?_
    refine qPut rfl (by decide) ?_
    refine plSkip (i := 5) rfl (wgN rfl rfl rfl (by decide) (by kernel_rfl)) ?_
    refine qPut rfl (by decide) ?_
    refine plSkip (i := 6) rfl (wgN rfl rfl rfl (by decide) (by kernel_rfl)) ?_
    refine qPut rfl (by decide) ?_
    refine litK (v := .bool true) rfl rfl (by kernel_rfl) rfl (by decide) ?_
    refine litK (v := .bool true) rfl rfl (by kernel_rfl) rfl (by decide) ?_
    refine plSkip (i := 9) rfl (wgN rfl rfl rfl (by decide) (by kernel_rfl)) ?_
    refine qPut rfl (by decide) ?_
    refine plSkip (i := 10) rfl (wgN rfl rfl rfl (by decide) (by kernel_rfl)) ?_
    refine qPut rfl (by decide) ?_
    refine plSkip (i := 11) rfl (wgN rfl rfl rfl (by decide) (by kernel_rfl)) ?_
    refine qPut rfl (by decide) ?_
    refine plSkip (i := 12) rfl (wgN rfl rfl rfl (by decide) (by kernel_rfl)) ?_
    refine qPut rfl (by decide) ?_
    refine litK (v := .bool true) rfl rfl (by kernel_rfl) rfl (by decide) ?_
    refine litK (v := .bool true) rfl rfl (by kernel_rfl) rfl (by decide) ?_
    refine plSkip (i := 15) rfl (wgN rfl rfl rfl (by decide) (by kernel_rfl)) ?_
    refine qPut rfl (by decide) ?_
    refine plSkip (i := 16) rfl (wgN rfl rfl rfl (by decide) (by kernel_rfl)) ?_
    refine qPut rfl (by decide) ?_
    refine plSkip (i := 17) rfl (wgN rfl rfl rfl (by decide) (by kernel_rfl)) ?_
    refine qPut rfl (by decide) ?_
    refine plSkip (i := 18) rfl (wgN rfl rfl rfl (by decide) (by kernel_rfl)) ?_
    refine qPut rfl (by decide) ?_
    refine litK (v := .bool true) rfl rfl (by kernel_rfl) rfl (by decide) ?_
    refine litK (v := .bool true) rfl rfl (by kernel_rfl) rfl (by decide) ?_
    refine plSkip (i := 21) rfl (wgN rfl rfl rfl (by decide) (by kernel_rfl)) ?_
    refine qPut rfl (by decide) ?_
    refine plSkip (i := 22) rfl (wgN rfl rfl rfl (by decide) (by kernel_rfl)) ?_
    refine qPut rfl (by decide) ?_
    refine plSkip (i := 23) rfl (wgN rfl rfl rfl (by decide) (by kernel_rfl)) ?_
    refine qPut rfl (by decide) ?_
    refine litK (v := .bool true) rfl rfl (by kernel_rfl) rfl (by decide) ?_
    refine litK (v := .bool true) rfl rfl (by kernel_rfl) rfl (by decide) ?_
    refine plSkip (i := 26) rfl (wgN rfl rfl rfl (by decide) (by kernel_rfl)) ?_
    refine qPut rfl (by decide) ?_
    refine plSkip (i := 27) rfl (wgN rfl rfl rfl (by decide) (by kernel_rfl)) ?_
    refine qPut rfl (by decide) ?_
    refine plSkip (i := 28) rfl (wgN rfl rfl rfl (by decide) (by kernel_rfl)) ?_
    refine qPut rfl (by decide) ?_
    refine litK (v := .bool true) rfl rfl (by kernel_rfl) rfl (by decide) ?_
    refine plDone (by decide) ?_
    refine then_normal (hK15 _ _ ?_)
    refine wpPrune [(1, .slice A2 T.length c2), (4, .pointer (some ⟨g2, 0, none⟩)), (6, .pointer (some ⟨g5, 0, none⟩)), (7, .pointer (some ⟨g8, 0, none⟩)), (8, .bool false), (9, .bool true), (48, .bool true)] ⟨litGet (by kernel_rfl), ⟨litGet (by kernel_rfl), ⟨litGet (by kernel_rfl), ⟨litGet (by kernel_rfl), ⟨litGet (by kernel_rfl), ⟨litGet (by kernel_rfl), ⟨litGet (by kernel_rfl), trivial⟩⟩⟩⟩⟩⟩⟩ (fun X19 => ?_)
    refine wp_cond_true (litEv (by kernel_rfl)) ?_
    refine wp_seq_k fun K20 hK20 => ?_
    refine plStart ?_
    refine litK (v := .bool true) rfl rfl (by kernel_rfl) rfl (by decide) ?_
    refine litK (v := .bool true) rfl rfl (by kernel_rfl) rfl (by decide) ?_
    refine plDone (by decide) ?_
    refine then_normal (hK20 _ _ ?_)
    refine wp_ret ?_
    refine then_ret ?_
    refine bodyPost_ret (v := .bool true) (gRes1 rfl (gResTmp (t := 8) (v := .bool true) (litGet (by kernel_rfl)))) rfl ?_
    exact ⟨rfl, hm17.bel⟩
  rw [h18]
  refine litK (v := .bool false) rfl rfl (by kernel_rfl) rfl (by decide) ?_
  refine litK (v := .bool false) rfl rfl (by kernel_rfl) rfl (by decide) ?_
  refine litVal (v := .agg (pcs b).toArray) rfl (wgY rfl rfl rfl (by decide) (by kernel_rfl)) (gLoadAg (vs := pcs b) (k := 0) 4 hm17 rfl (by kernel_rfl) (by kernel_rfl) (.tmp 7) Ty.ag_voxel_api_Point rfl (litEv (by kernel_rfl))) rfl (by decide) ?_
  refine plCall (i := 5) 20 [.agg (pcs b).toArray] [] [] rfl (by kernel_rfl) (wgY rfl rfl rfl (by decide) (by kernel_rfl)) rfl (litEv (by kernel_rfl)) (litArgs (by kernel_rfl)) (inRange1_any b _) ?_
  rintro e w21 ⟨rfl, hbz⟩
  have hm22 := hm17.below hbz
  clear hbz hm17
  refine ⟨_, rfl, ?_⟩
  refine qPut rfl (by decide) ?_
  rcases bool_or (decide b.rng) with h23 | h23
  · rw [h23]
    refine litVal (v := .bool true) rfl (wgY rfl rfl rfl (by decide) (by kernel_rfl)) (litRun (by kernel_rfl)) rfl (by decide) ?_
    refine litK (v := .bool true) rfl rfl (by kernel_rfl) rfl (by decide) ?_
    refine litK (v := .bool true) rfl rfl (by kernel_rfl) rfl (by decide) ?_
    refine plSkip (i := 9) rfl (wgN rfl rfl rfl (by decide) (by kernel_rfl)) ?_
    refine qPut rfl (by decide) ?_
    refine plSkip (i := 10) rfl (wgN rfl rfl rfl (by decide) (by kernel_rfl)) ?_
    refine qPut rfl (by decide) ?_
    refine plSkip (i := 11) rfl (wgN rfl rfl rfl (by decide) (by kernel_rfl)) ?_
    refine qPut rfl (by decide) ?_
    refine plSkip (i := 12) rfl (wgN rfl rfl rfl (by decide) (by kernel_rfl)) ?_
    refine qPut rfl (by decide) ?_
    refine litK (v := .bool true) rfl rfl (by kernel_rfl) rfl (by decide) ?_
    refine litK (v := .bool true) rfl rfl (by kernel_rfl) rfl (by decide) ?_
    refine plSkip (i := 15) rfl (wgN rfl rfl rfl (by decide) (by kernel_rfl)) ?_
    refine qPut rfl (by decide) ?_
    refine plSkip (i := 16) rfl (wgN rfl rfl rfl (by decide) (by kernel_rfl)) ?_
    refine qPut rfl (by decide) ?_
    refine plSkip (i := 17) rfl (wgN rfl rfl rfl (by decide) (by kernel_rfl)) ?_
    refine qPut rfl (by decide) ?_
    refine plSkip (i := 18) rfl (wgN rfl rfl rfl (by decide) (by kernel_rfl)) ?_
    refine qPut rfl (by decide) ?_
    refine litK (v := .bool true) rfl rfl (by kernel_rfl) rfl (by decide) ?_
    refine litK (v := .bool true) rfl rfl (by kernel_rfl) rfl (by decide) ?_
    refine plSkip (i := 21) rfl (wgN rfl rfl rfl (by decide) (by kernel_rfl)) ?_
    refine qPut rfl (by decide) ?_
    refine plSkip (i := 22) rfl (wgN rfl rfl rfl (by decide) (by kernel_rfl)) ?_
    refine qPut rfl (by decide) ?_
    refine plSkip (i := 23) rfl (wgN rfl rfl rfl (by decide) (by kernel_rfl)) ?_
    refine qPut rfl (by decide) ?_
    refine litK (v := .bool true) rfl rfl (by kernel_rfl) rfl (by decide) ?_
    refine litK (v := .bool true) rfl rfl (by kernel_rfl) rfl (by decide) ?_
    refine plSkip (i := 26) rfl (wgN rfl rfl rfl (by decide) (by kernel_rfl)) ?_
    refine qPut rfl (by decide) ?_
    refine plSkip (i := 27) rfl (wgN rfl rfl rfl (by decide) (by kernel_rfl)) ?_
    refine qPut rfl (by decide) ?_
    refine plSkip (i := 28) rfl (wgN rfl rfl rfl (by decide) (by kernel_rfl)) ?_
    refine qPut rfl (by decide) ?_
    refine litK (v := .bool true) rfl rfl (by kernel_rfl) rfl (by decide) ?_
    refine plDone (by decide) ?_
    refine then_normal (hK15 _ _ ?_)
    refine wpPrune [(1, .slice A2 T.length c2), (4, .pointer (some ⟨g2, 0, none⟩)), (6, .pointer (some ⟨g5, 0, none⟩)), (7, .pointer (some ⟨g8, 0, none⟩)), (8, .bool false), (9, .bool true), (48, .bool true)] ⟨litGet (by kernel_rfl), ⟨litGet (by kernel_rfl), ⟨litGet (by kernel_rfl), ⟨litGet (by kernel_rfl), ⟨litGet (by kernel_rfl), ⟨litGet (by kernel_rfl), ⟨litGet (by kernel_rfl), trivial⟩⟩⟩⟩⟩⟩⟩ (fun X24 => ?_)
    refine wp_cond_true (litEv (by kernel_rfl)) ?_
    refine wp_seq_k fun K25 hK25 => ?_
    refine plStart ?_
    refine litK (v := .bool true) rfl rfl (by kernel_rfl) rfl (by decide) ?_
    refine litK (v := .bool true) rfl rfl (by kernel_rfl) rfl (by decide) ?_
    refine plDone (by decide) ?_
    refine then_normal (hK25 _ _ ?_)
    refine wp_ret ?_
    refine then_ret ?_
    refine bodyPost_ret (v := .bool true) (gRes1 rfl (gResTmp (t := 8) (v := .bool true) (litGet (by kernel_rfl)))) rfl ?_
    exact ⟨rfl, hm22.bel⟩
  rw [h23]
  refine litVal (v := .bool false) rfl (wgY rfl rfl rfl (by decide) (by kernel_rfl)) (litRun (by kernel_rfl)) rfl (by decide) ?_
  refine litK (v := .bool false) rfl rfl (by kernel_rfl) rfl (by decide) ?_
  refine litK (v := .bool false) rfl rfl (by kernel_rfl) rfl (by decide) ?_
  refine litVal (v := .agg (pcs a).toArray) rfl (wgY rfl rfl rfl (by decide) (by kernel_rfl)) (gLoadAg (vs := pcs a) (k := 0) 3 hm22 rfl (by kernel_rfl) (by kernel_rfl) (.tmp 6) Ty.ag_voxel_api_Point rfl (litEv (by kernel_rfl))) rfl (by decide) ?_
  refine litVal (v := .agg (pcs b).toArray) rfl (wgY rfl rfl rfl (by decide) (by kernel_rfl)) (gLoadAg (vs := pcs b) (k := 0) 4 hm22 rfl (by kernel_rfl) (by kernel_rfl) (.tmp 7) Ty.ag_voxel_api_Point rfl (litEv (by kernel_rfl))) rfl (by decide) ?_
  refine plCall (i := 11) 21 [.agg (pcs a).toArray, .agg (pcs b).toArray] [] [] rfl (by kernel_rfl) (wgY rfl rfl rfl (by decide) (by kernel_rfl)) rfl (litEv (by kernel_rfl)) (litArgs (by kernel_rfl)) (dist_any a b (of_decide_eq_true h18) (of_decide_eq_true h23) _) ?_
  rintro e w26 ⟨rfl, hbz⟩
  have hm27 := hm22.below hbz
  clear hbz hm22
  refine ⟨_, rfl, ?_⟩
  refine qPut rfl (by decide) ?_
  by_cases h28 : 100 < (a.dist b)
  · refine litVal (v := .bool true) rfl (wgY rfl rfl rfl (by decide) (by kernel_rfl)) (boolTo (decide_eq_true h28) (gtrRun (A := (a.dist b)) (B := 100) (.tmp 30) (.const (.int .i64 100)) rfl (litEv (by kernel_rfl)) (litEv (by kernel_rfl)))) rfl (by decide) ?_
    refine litK (v := .bool true) rfl rfl (by kernel_rfl) rfl (by decide) ?_
    refine litK (v := .bool true) rfl rfl (by kernel_rfl) rfl (by decide) ?_
    refine plSkip (i := 15) rfl (wgN rfl rfl rfl (by decide) (by kernel_rfl)) ?_
    refine qPut rfl (by decide) ?_
    refine plSkip (i := 16) rfl (wgN rfl rfl rfl (by decide) (by kernel_rfl)) ?_
    refine qPut rfl (by decide) ?_
    refine plSkip (i := 17) rfl (wgN rfl rfl rfl (by decide) (by kernel_rfl)) ?_
    refine qPut rfl (by decide) ?_
    refine plSkip (i := 18) rfl (wgN rfl rfl rfl (by decide) (by kernel_rfl)) ?_
    refine qPut rfl (by decide) ?_
    refine litK (v := .bool true) rfl rfl (by kernel_rfl) rfl (by decide) ?_
    refine litK (v := .bool true) rfl rfl (by kernel_rfl) rfl (by decide) ?_
    refine plSkip (i := 21) rfl (wgN rfl rfl rfl (by decide) (by kernel_rfl)) ?_
    refine qPut rfl (by decide) ?_
    refine plSkip (i := 22) rfl (wgN rfl rfl rfl (by decide) (by kernel_rfl)) ?_
    refine qPut rfl (by decide) ?_
    refine plSkip (i := 23) rfl (wgN rfl rfl rfl (by decide) (by kernel_rfl)) ?_
    refine qPut rfl (by decide) ?_
    refine litK (v := .bool true) rfl rfl (by kernel_rfl) rfl (by decide) ?_
    refine litK (v := .bool true) rfl rfl (by kernel_rfl) rfl (by decide) ?_
    refine plSkip (i := 26) rfl (wgN rfl rfl rfl (by decide) (by kernel_rfl)) ?_
    refine qPut rfl (by decide) ?_
    refine plSkip (i := 27) rfl (wgN rfl rfl rfl (by decide) (by kernel_rfl)) ?_
    refine qPut rfl (by decide) ?_
    refine plSkip (i := 28) rfl (wgN rfl rfl rfl (by decide) (by kernel_rfl)) ?_
    refine qPut rfl (by decide) ?_
    refine litK (v := .bool true) rfl rfl (by kernel_rfl) rfl (by decide) ?_
    refine plDone (by decide) ?_
    refine then_normal (hK15 _ _ ?_)
    refine wpPrune [(1, .slice A2 T.length c2), (4, .pointer (some ⟨g2, 0, none⟩)), (6, .pointer (some ⟨g5, 0, none⟩)), (7, .pointer (some ⟨g8, 0, none⟩)), (8, .bool false), (9, .bool true), (48, .bool true)] ⟨litGet (by kernel_rfl), ⟨litGet (by kernel_rfl), ⟨litGet (by kernel_rfl), ⟨litGet (by kernel_rfl), ⟨litGet (by kernel_rfl), ⟨litGet (by kernel_rfl), ⟨litGet (by kernel_rfl), trivial⟩⟩⟩⟩⟩⟩⟩ (fun X29 => ?_)
    refine wp_cond_true (litEv (by kernel_rfl)) ?_
    refine wp_seq_k fun K30 hK30 => ?_
    refine plStart ?_
    refine litK (v := .bool true) rfl rfl (by kernel_rfl) rfl (by decide) ?_
    refine litK (v := .bool true) rfl rfl (by kernel_rfl) rfl (by decide) ?_
    refine plDone (by decide) ?_
    refine then_normal (hK30 _ _ ?_)
    refine wp_ret ?_
    refine then_ret ?_
    refine bodyPost_ret (v := .bool true) (gRes1 rfl (gResTmp (t := 8) (v := .bool true) (litGet (by kernel_rfl)))) rfl ?_
    exact ⟨rfl, hm27.bel⟩
  have ha := of_decide_eq_true h18
  have hb := of_decide_eq_true h23
  have hck := dist_ck ha hb (by omega)
  have hck2 : ckE b a = 0 := dist_ck hb ha (by rw [dist_back]; omega)
  refine litVal (v := .bool false) rfl (wgY rfl rfl rfl (by decide) (by kernel_rfl)) (boolTo (decide_eq_false h28) (gtrRun (A := (a.dist b)) (B := 100) (.tmp 30) (.const (.int .i64 100)) rfl (litEv (by kernel_rfl)) (litEv (by kernel_rfl)))) rfl (by decide) ?_
  refine litK (v := .bool false) rfl rfl (by kernel_rfl) rfl (by decide) ?_
  refine litK (v := .bool false) rfl rfl (by kernel_rfl) rfl (by decide) ?_
  refine litVal (v := .pointer (some ⟨g2, 6, none⟩)) rfl (wgY rfl rfl rfl (by decide) (by kernel_rfl)) (litRun (by kernel_rfl)) rfl (by decide) ?_
  refine litVal (v := .slice A g.cells.length c) rfl (wgY rfl rfl rfl (by decide) (by kernel_rfl)) (gLoad (v := .slice A g.cells.length c) (k := 6) 2 hm27 rfl (by kernel_rfl) (.tmp 34) (by kernel_rfl) rfl (litEv (by kernel_rfl))) rfl (by decide) ?_
  refine litVal (v := .int .i64 (g.cells.length : Int)) rfl (wgY rfl rfl rfl (by decide) (by kernel_rfl)) (lenSlRun (A := A) (n := g.cells.length) (c := c) (.tmp 35) Ty.und_L_int rfl (litEv (by kernel_rfl))) rfl (by decide) ?_
  by_cases h31 : 1000 < (g.cells.length : Int)
  · refine litVal (v := .bool true) rfl (wgY rfl rfl rfl (by decide) (by kernel_rfl)) (boolTo (decide_eq_true h31) (gtrRun (A := (g.cells.length : Int)) (B := 1000) (.tmp 36) (.const (.int .i64 1000)) rfl (litEv (by kernel_rfl)) (litEv (by kernel_rfl)))) rfl (by decide) ?_
    refine litK (v := .bool true) rfl rfl (by kernel_rfl) rfl (by decide) ?_
    refine litK (v := .bool true) rfl rfl (by kernel_rfl) rfl (by decide) ?_
    refine plSkip (i := 21) rfl (wgN rfl rfl rfl (by decide) (by kernel_rfl)) ?_
    refine qPut rfl (by decide) ?_
    refine plSkip (i := 22) rfl (wgN rfl rfl rfl (by decide) (by kernel_rfl)) ?_
    refine qPut rfl (by decide) ?_
    refine plSkip (i := 23) rfl (wgN rfl rfl rfl (by decide) (by kernel_rfl)) ?_
    refine qPut rfl (by decide) ?_
    refine litK (v := .bool true) rfl rfl (by kernel_rfl) rfl (by decide) ?_
    refine litK (v := .bool true) rfl rfl (by kernel_rfl) rfl (by decide) ?_
    refine plSkip (i := 26) rfl (wgN rfl rfl rfl (by decide) (by kernel_rfl)) ?_
    refine qPut rfl (by decide) ?_
    refine plSkip (i := 27) rfl (wgN rfl rfl rfl (by decide) (by kernel_rfl)) ?_
    refine qPut rfl (by decide) ?_
    refine plSkip (i := 28) rfl (wgN rfl rfl rfl (by decide) (by kernel_rfl)) ?_
    refine qPut rfl (by decide) ?_
    refine litK (v := .bool true) rfl rfl (by kernel_rfl) rfl (by decide) ?_
    refine plDone (by decide) ?_
    refine then_normal (hK15 _ _ ?_)
    refine wpPrune [(1, .slice A2 T.length c2), (4, .pointer (some ⟨g2, 0, none⟩)), (6, .pointer (some ⟨g5, 0, none⟩)), (7, .pointer (some ⟨g8, 0, none⟩)), (8, .bool false), (9, .bool true), (48, .bool true)] ⟨litGet (by kernel_rfl), ⟨litGet (by kernel_rfl), ⟨litGet (by kernel_rfl), ⟨litGet (by kernel_rfl), ⟨litGet (by kernel_rfl), ⟨litGet (by kernel_rfl), ⟨litGet (by kernel_rfl), trivial⟩⟩⟩⟩⟩⟩⟩ (fun X32 => ?_)
    refine wp_cond_true (litEv (by kernel_rfl)) ?_
    refine wp_seq_k fun K33 hK33 => ?_
    refine plStart ?_
    refine litK (v := .bool true) rfl rfl (by kernel_rfl) rfl (by decide) ?_
    refine litK (v := .bool true) rfl rfl (by kernel_rfl) rfl (by decide) ?_
    refine plDone (by decide) ?_
    refine then_normal (hK33 _ _ ?_)
    refine wp_ret ?_
    refine then_ret ?_
    refine bodyPost_ret (v := .bool true) (gRes1 rfl (gResTmp (t := 8) (v := .bool true) (litGet (by kernel_rfl)))) rfl ?_
    exact ⟨rfl, hm27.bel⟩
  refine litVal (v := .bool false) rfl (wgY rfl rfl rfl (by decide) (by kernel_rfl)) (boolTo (decide_eq_false h31) (gtrRun (A := (g.cells.length : Int)) (B := 1000) (.tmp 36) (.const (.int .i64 1000)) rfl (litEv (by kernel_rfl)) (litEv (by kernel_rfl)))) rfl (by decide) ?_
  refine litK (v := .bool false) rfl rfl (by kernel_rfl) rfl (by decide) ?_
  refine litK (v := .bool false) rfl rfl (by kernel_rfl) rfl (by decide) ?_
  refine litVal (v := .agg (gcs g A c).toArray) rfl (wgY rfl rfl rfl (by decide) (by kernel_rfl)) (gLoadAg (vs := gcs g A c) (k := 0) 2 hm27 rfl (by kernel_rfl) (by kernel_rfl) (.tmp 4) Ty.ag_voxel_api_Grid rfl (litEv (by kernel_rfl))) rfl (by decide) ?_
  refine plCall (i := 22) 15 [.agg (gcs g A c).toArray] [] [] rfl (by kernel_rfl) (wgY rfl rfl rfl (by decide) (by kernel_rfl)) rfl (litEv (by kernel_rfl)) (litArgs (by kernel_rfl)) (valid_any g A c _ (hm27.rd 0 rfl)) ?_
  rintro e w34 ⟨rfl, hbz⟩
  have hm35 := hm27.below hbz
  clear hbz hm27
  refine ⟨_, rfl, ?_⟩
  refine qPut rfl (by decide) ?_
  rcases bool_or (decide g.Valid) with h36 | h36
  · rw [h36]
    refine litVal (v := .bool true) rfl (wgY rfl rfl rfl (by decide) (by kernel_rfl)) (litRun (by kernel_rfl)) rfl (by decide) ?_
    refine litK (v := .bool true) rfl rfl (by kernel_rfl) rfl (by decide) ?_
    refine litK (v := .bool true) rfl rfl (by kernel_rfl) rfl (by decide) ?_
    refine plSkip (i := 26) rfl (wgN rfl rfl rfl (by decide) (by kernel_rfl)) ?_
    refine qPut rfl (by decide) ?_
    refine plSkip (i := 27) rfl (wgN rfl rfl rfl (by decide) (by kernel_rfl)) ?_
    refine qPut rfl (by decide) ?_
    refine plSkip (i := 28) rfl (wgN rfl rfl rfl (by decide) (by kernel_rfl)) ?_
    refine qPut rfl (by decide) ?_
    refine litK (v := .bool true) rfl rfl (by kernel_rfl) rfl (by decide) ?_
    refine plDone (by decide) ?_
    refine then_normal (hK15 _ _ ?_)
    refine wpPrune [(1, .slice A2 T.length c2), (4, .pointer (some ⟨g2, 0, none⟩)), (6, .pointer (some ⟨g5, 0, none⟩)), (7, .pointer (some ⟨g8, 0, none⟩)), (8, .bool false), (9, .bool true), (48, .bool true)] ⟨litGet (by kernel_rfl), ⟨litGet (by kernel_rfl), ⟨litGet (by kernel_rfl), ⟨litGet (by kernel_rfl), ⟨litGet (by kernel_rfl), ⟨litGet (by kernel_rfl), ⟨litGet (by kernel_rfl), trivial⟩⟩⟩⟩⟩⟩⟩ (fun X37 => ?_)
    refine wp_cond_true (litEv (by kernel_rfl)) ?_
    refine wp_seq_k fun K38 hK38 => ?_
    refine plStart ?_
    refine litK (v := .bool true) rfl rfl (by kernel_rfl) rfl (by decide) ?_
    refine litK (v := .bool true) rfl rfl (by kernel_rfl) rfl (by decide) ?_
    refine plDone (by decide) ?_
    refine then_normal (hK38 _ _ ?_)
    refine wp_ret ?_
    refine then_ret ?_
    refine bodyPost_ret (v := .bool true) (gRes1 rfl (gResTmp (t := 8) (v := .bool true) (litGet (by kernel_rfl)))) rfl ?_
    exact ⟨rfl, hm35.bel⟩
  rw [h36]
  refine litVal (v := .bool false) rfl (wgY rfl rfl rfl (by decide) (by kernel_rfl)) (litRun (by kernel_rfl)) rfl (by decide) ?_
  refine litK (v := .bool false) rfl rfl (by kernel_rfl) rfl (by decide) ?_
  refine litK (v := .bool false) rfl rfl (by kernel_rfl) rfl (by decide) ?_
  refine litVal (v := .slice A2 T.length c2) rfl (wgY rfl rfl rfl (by decide) (by kernel_rfl)) (litRun (by kernel_rfl)) rfl (by decide) ?_
  refine litVal (v := .int .i64 (T.length : Int)) rfl (wgY rfl rfl rfl (by decide) (by kernel_rfl)) (lenSlRun (A := A2) (n := T.length) (c := c2) (.tmp 45) Ty.und_L_api_Material rfl (litEv (by kernel_rfl))) rfl (by decide) ?_
  by_cases h39 : 300 < (T.length : Int)
  · refine litVal (v := .bool true) rfl (wgY rfl rfl rfl (by decide) (by kernel_rfl)) (boolTo (decide_eq_true h39) (gtrRun (A := (T.length : Int)) (B := 300) (.tmp 46) (.const (.int .i64 300)) rfl (litEv (by kernel_rfl)) (litEv (by kernel_rfl)))) rfl (by decide) ?_
    refine litK (v := .bool true) rfl rfl (by kernel_rfl) rfl (by decide) ?_
    refine plDone (by decide) ?_
    refine then_normal (hK15 _ _ ?_)
    refine wpPrune [(1, .slice A2 T.length c2), (4, .pointer (some ⟨g2, 0, none⟩)), (6, .pointer (some ⟨g5, 0, none⟩)), (7, .pointer (some ⟨g8, 0, none⟩)), (8, .bool false), (9, .bool true), (48, .bool true)] ⟨litGet (by kernel_rfl), ⟨litGet (by kernel_rfl), ⟨litGet (by kernel_rfl), ⟨litGet (by kernel_rfl), ⟨litGet (by kernel_rfl), ⟨litGet (by kernel_rfl), ⟨litGet (by kernel_rfl), trivial⟩⟩⟩⟩⟩⟩⟩ (fun X40 => ?_)
    refine wp_cond_true (litEv (by kernel_rfl)) ?_
    refine wp_seq_k fun K41 hK41 => ?_
    refine plStart ?_
    refine litK (v := .bool true) rfl rfl (by kernel_rfl) rfl (by decide) ?_
    refine litK (v := .bool true) rfl rfl (by kernel_rfl) rfl (by decide) ?_
    refine plDone (by decide) ?_
    refine then_normal (hK41 _ _ ?_)
    refine wp_ret ?_
    refine then_ret ?_
    refine bodyPost_ret (v := .bool true) (gRes1 rfl (gResTmp (t := 8) (v := .bool true) (litGet (by kernel_rfl)))) rfl ?_
    exact ⟨rfl, hm35.bel⟩
  refine litVal (v := .bool false) rfl (wgY rfl rfl rfl (by decide) (by kernel_rfl)) (boolTo (decide_eq_false h39) (gtrRun (A := (T.length : Int)) (B := 300) (.tmp 46) (.const (.int .i64 300)) rfl (litEv (by kernel_rfl)) (litEv (by kernel_rfl)))) rfl (by decide) ?_
  refine litK (v := .bool false) rfl rfl (by kernel_rfl) rfl (by decide) ?_
  refine plDone (by decide) ?_
  refine then_normal (hK15 _ _ ?_)
  refine wpPrune [(1, .slice A2 T.length c2), (4, .pointer (some ⟨g2, 0, none⟩)), (6, .pointer (some ⟨g5, 0, none⟩)), (7, .pointer (some ⟨g8, 0, none⟩)), (8, .bool false), (9, .bool true), (48, .bool false)] ⟨litGet (by kernel_rfl), ⟨litGet (by kernel_rfl), ⟨litGet (by kernel_rfl), ⟨litGet (by kernel_rfl), ⟨litGet (by kernel_rfl), ⟨litGet (by kernel_rfl), ⟨litGet (by kernel_rfl), trivial⟩⟩⟩⟩⟩⟩⟩ (fun X42 => ?_)
  refine wp_cond_false (litEv (by kernel_rfl)) ?_
  refine wp_skip ?_
  refine then_normal (hK14 _ _ ?_)
  refine wp_seq_k fun K43 hK43 => ?_
  refine plStart ?_
  have hv := of_decide_eq_true h36
  refine litVal (v := .agg (gcs g A c).toArray) rfl (wn rfl) (gLoadAg (vs := gcs g A c) (k := 0) 2 hm35 rfl (by kernel_rfl) (by kernel_rfl) (.tmp 4) Ty.ag_voxel_api_Grid rfl (litEv (by kernel_rfl))) rfl (by decide) ?_
  refine litK (v := .agg ([.int .i64 g.box.mn.x, .int .i64 g.box.mn.y, .int .i64 g.box.mn.z, .int .i64 g.box.mx.x, .int .i64 g.box.mx.y, .int .i64 g.box.mx.z, .slice A g.cells.length c, .int .i64 0, .int .i64 0, .int .i64 0]).toArray) rfl rfl (by kernel_rfl) rfl (by decide) ?_
  refine plBox hm35 (cs := [.int .i64 g.box.mn.x, .int .i64 g.box.mn.y, .int .i64 g.box.mn.z, .int .i64 g.box.mx.x, .int .i64 g.box.mx.y, .int .i64 g.box.mx.z, .slice A g.cells.length c, .int .i64 0, .int .i64 0, .int .i64 0]) (i := 2) rfl (wn rfl) rfl (litEv (by kernel_rfl)) ?_
  intro g44 w46 hm45
  clear hm35
  try simp only [List.cons_append, List.nil_append, List.set_cons_succ, List.set_cons_zero] at hm45
  refine qPut rfl (by decide) ?_
  refine litK (v := .pointer (some ⟨g44, 0, none⟩)) rfl rfl (by kernel_rfl) rfl (by decide) ?_
  refine plDone (by decide) ?_
  refine then_normal (hK43 _ _ ?_)
  refine wp_seq_k fun K47 hK47 => ?_
  refine plStart ?_
  refine litK (v := .pointer (some ⟨g44, 0, none⟩)) rfl rfl (by kernel_rfl) rfl (by decide) ?_
  refine litK (v := .iface 39 (.pointer (some ⟨g44, 0, none⟩))) rfl rfl (by kernel_rfl) rfl (by decide) ?_
  refine litK (v := .slice A2 T.length c2) rfl rfl (by kernel_rfl) rfl (by decide) ?_
  refine litVal (v := .agg (pcs a).toArray) rfl (wn rfl) (gLoadAg (vs := pcs a) (k := 0) 3 hm45 rfl (by kernel_rfl) (by kernel_rfl) (.tmp 6) Ty.ag_voxel_api_Point rfl (litEv (by kernel_rfl))) rfl (by decide) ?_
  refine litVal (v := .agg (pcs b).toArray) rfl (wn rfl) (gLoadAg (vs := pcs b) (k := 0) 4 hm45 rfl (by kernel_rfl) (by kernel_rfl) (.tmp 7) Ty.ag_voxel_api_Point rfl (litEv (by kernel_rfl))) rfl (by decide) ?_
  have hm48 : Mem w w46 [.rd A2 8 T.length c2 (mts T), .rd A 1 g.cells.length c (ics g.cells), .arr g2 36 (gcs g A c), .arr g5 23 (pcs a), .arr g8 23 (pcs b), .arr g44 41 ([.int .i64 g.box.mn.x, .int .i64 g.box.mn.y, .int .i64 g.box.mn.z, .int .i64 g.box.mx.x, .int .i64 g.box.mx.y, .int .i64 g.box.mx.z, .slice A g.cells.length c, .int .i64 0, .int .i64 0, .int .i64 0])] := Mem.front 1 hm45 rfl
  clear hm45
  have hm49 : Mem w w46 [.rd A 1 g.cells.length c (ics g.cells), .rd A2 8 T.length c2 (mts T), .arr g2 36 (gcs g A c), .arr g5 23 (pcs a), .arr g8 23 (pcs b), .arr g44 41 ([.int .i64 g.box.mn.x, .int .i64 g.box.mn.y, .int .i64 g.box.mn.z, .int .i64 g.box.mx.x, .int .i64 g.box.mx.y, .int .i64 g.box.mx.z, .slice A g.cells.length c, .int .i64 0, .int .i64 0, .int .i64 0])] := Mem.front 1 hm48 rfl
  clear hm48
  have hm50 : Mem w w46 [.arr g44 41 ([.int .i64 g.box.mn.x, .int .i64 g.box.mn.y, .int .i64 g.box.mn.z, .int .i64 g.box.mx.x, .int .i64 g.box.mx.y, .int .i64 g.box.mx.z, .slice A g.cells.length c, .int .i64 0, .int .i64 0, .int .i64 0]), .rd A 1 g.cells.length c (ics g.cells), .rd A2 8 T.length c2 (mts T), .arr g2 36 (gcs g A c), .arr g5 23 (pcs a), .arr g8 23 (pcs b)] := Mem.front 5 hm49 rfl
  clear hm49
  refine plCall (i := 5) 18 [.iface 39 (.pointer (some ⟨g44, 0, none⟩)), .slice A2 T.length c2, .agg (pcs a).toArray, .agg (pcs b).toArray] [] [] rfl (by kernel_rfl) (wn rfl) rfl (litEv (by kernel_rfl)) (litArgs (by kernel_rfl)) (by have h := visible_any (M := [.arr g2 36 (gcs g A c), .arr g5 23 (pcs a), .arr g8 23 (pcs b)]) g hv T A c A2 c2 g44 p0 a b hm50; rw [hck] at h; exact h) ?_
  rintro e w51 ⟨last53, rfl, hm52⟩
  clear hm50
  refine ⟨_, rfl, ?_⟩
  refine qPut rfl (by decide) ?_
  rcases bool_or (visR g T a b) with h54 | h54
  · rw [h54]
    refine litK (v := .tuple #[.bool false, .int .i64 0]) rfl rfl (by kernel_rfl) rfl (by decide) ?_
    refine litK (v := .bool false) rfl rfl (by kernel_rfl) rfl (by decide) ?_
    refine litK (v := .int .i64 0) rfl rfl (by kernel_rfl) rfl (by decide) ?_
    refine litK (v := .bool false) rfl rfl (by kernel_rfl) rfl (by decide) ?_
    refine litK (v := .int .i64 0) rfl rfl (by kernel_rfl) rfl (by decide) ?_
    refine plDone (by decide) ?_
    refine then_normal (hK47 _ _ ?_)
    refine wpPrune [(1, .slice A2 T.length c2), (6, .pointer (some ⟨g5, 0, none⟩)), (7, .pointer (some ⟨g8, 0, none⟩)), (8, .bool false), (9, .bool true), (10, .pointer (some ⟨g44, 0, none⟩)), (11, .bool false), (12, .int .i64 0)] ⟨litGet (by kernel_rfl), ⟨litGet (by kernel_rfl), ⟨litGet (by kernel_rfl), ⟨litGet (by kernel_rfl), ⟨litGet (by kernel_rfl), ⟨litGet (by kernel_rfl), ⟨litGet (by kernel_rfl), ⟨litGet (by kernel_rfl), trivial⟩⟩⟩⟩⟩⟩⟩⟩ (fun X55 => ?_)
    refine wp_seq_k fun K56 hK56 => ?_
    refine plStart ?_
    refine litK (v := .pointer (some ⟨g44, 0, none⟩)) rfl rfl (by kernel_rfl) rfl (by decide) ?_
    refine litK (v := .iface 39 (.pointer (some ⟨g44, 0, none⟩))) rfl rfl (by kernel_rfl) rfl (by decide) ?_
    refine litK (v := .slice A2 T.length c2) rfl rfl (by kernel_rfl) rfl (by decide) ?_
    refine litVal (v := .agg (pcs b).toArray) rfl (wn rfl) (gLoadAg (vs := pcs b) (k := 0) 5 hm52 rfl (by kernel_rfl) (by kernel_rfl) (.tmp 7) Ty.ag_voxel_api_Point rfl (litEv (by kernel_rfl))) rfl (by decide) ?_
    refine litVal (v := .agg (pcs a).toArray) rfl (wn rfl) (gLoadAg (vs := pcs a) (k := 0) 4 hm52 rfl (by kernel_rfl) (by kernel_rfl) (.tmp 6) Ty.ag_voxel_api_Point rfl (litEv (by kernel_rfl))) rfl (by decide) ?_
    refine plCall (i := 5) 18 [.iface 39 (.pointer (some ⟨g44, 0, none⟩)), .slice A2 T.length c2, .agg (pcs b).toArray, .agg (pcs a).toArray] [] [] rfl (by kernel_rfl) (wn rfl) rfl (litEv (by kernel_rfl)) (litArgs (by kernel_rfl)) (by have h := visible_any (M := [.arr g2 36 (gcs g A c), .arr g5 23 (pcs a), .arr g8 23 (pcs b)]) g hv T A c A2 c2 g44 last53 b a hm52; rw [vis_back hck hck2, hck2] at h; exact h) ?_
    rintro e w57 ⟨last59, rfl, hm58⟩
    clear hm52
    rw [h54]
    refine ⟨_, rfl, ?_⟩
    refine qPut rfl (by decide) ?_
    refine litK (v := .tuple #[.bool false, .int .i64 0]) rfl rfl (by kernel_rfl) rfl (by decide) ?_
    refine litK (v := .bool false) rfl rfl (by kernel_rfl) rfl (by decide) ?_
    refine litK (v := .int .i64 0) rfl rfl (by kernel_rfl) rfl (by decide) ?_
    refine litK (v := .bool false) rfl rfl (by kernel_rfl) rfl (by decide) ?_
    refine litK (v := .int .i64 0) rfl rfl (by kernel_rfl) rfl (by decide) ?_
    refine plDone (by decide) ?_
    refine then_normal (hK56 _ _ ?_)
    refine wp_seq_k fun K60 hK60 => ?_
    refine plStart ?_
    rcases hfs : firstSol (solidAt g T) (walk a b) 0 with _ | ⟨k, q⟩
    · refine litK (v := .pointer (some ⟨g44, 0, none⟩)) rfl rfl (by kernel_rfl) rfl (by decide) ?_
      refine litK (v := .iface 39 (.pointer (some ⟨g44, 0, none⟩))) rfl rfl (by kernel_rfl) rfl (by decide) ?_
      refine litK (v := .slice A2 T.length c2) rfl rfl (by kernel_rfl) rfl (by decide) ?_
      refine litVal (v := .agg (pcs a).toArray) rfl (wn rfl) (gLoadAg (vs := pcs a) (k := 0) 4 hm58 rfl (by kernel_rfl) (by kernel_rfl) (.tmp 6) Ty.ag_voxel_api_Point rfl (litEv (by kernel_rfl))) rfl (by decide) ?_
      refine litVal (v := .agg (pcs b).toArray) rfl (wn rfl) (gLoadAg (vs := pcs b) (k := 0) 5 hm58 rfl (by kernel_rfl) (by kernel_rfl) (.tmp 7) Ty.ag_voxel_api_Point rfl (litEv (by kernel_rfl))) rfl (by decide) ?_
      refine plCall (i := 5) 16 [.iface 39 (.pointer (some ⟨g44, 0, none⟩)), .slice A2 T.length c2, .agg (pcs a).toArray, .agg (pcs b).toArray] [] [] rfl (by kernel_rfl) (wn rfl) rfl (litEv (by kernel_rfl)) (litArgs (by kernel_rfl)) (by have h := first_any (M := [.arr g2 36 (gcs g A c), .arr g5 23 (pcs a), .arr g8 23 (pcs b)]) g hv T A c A2 c2 g44 last59 a b hm58; rw [firstH_none hck hfs, firstE_none hck hfs] at h; exact h) ?_
      rintro e w61 ⟨last63, rfl, hm62, _⟩
      clear hm58
      refine ⟨_, rfl, ?_⟩
      refine qPut rfl (by decide) ?_
      refine litK (v := .tuple #[.agg (hcs p0 p0 0).toArray, .int .i64 9]) rfl rfl (by kernel_rfl) rfl (by decide) ?_
      refine litK (v := .agg (hcs p0 p0 0).toArray) rfl rfl (by kernel_rfl) rfl (by decide) ?_
      refine litK (v := .int .i64 9) rfl rfl (by kernel_rfl) rfl (by decide) ?_
      refine plAlloc (z := [.int .i64 0, .int .i64 0, .int .i64 0, .int .i64 0, .int .i64 0, .int .i64 0, .int .i64 0]) Ty.ag_voxel_ray_Hit hm62 (i := 9) rfl (wn rfl) rfl ?_
      intro g64 w66 hm65
      clear hm62
      try simp only [List.cons_append, List.nil_append, List.set_cons_succ, List.set_cons_zero] at hm65
      refine qPut rfl (by decide) ?_
      refine plStore 6 Ty.ag_voxel_ray_Hit hm65 rfl (i := 10) (cs := hcs p0 p0 0) rfl (wn rfl) rfl (litEv (by kernel_rfl)) (litEv (by kernel_rfl)) rfl rfl (by kernel_rfl) ?_
      intro w68 hm67
      clear hm65
      try simp only [List.cons_append, List.nil_append, List.set_cons_succ, List.set_cons_zero] at hm67
      refine qNone rfl ?_
      refine litK (v := .int .i64 9) rfl rfl (by kernel_rfl) rfl (by decide) ?_
      refine plDone (by decide) ?_
      refine then_normal (hK60 _ _ ?_)
      refine wpPrune [(6, .pointer (some ⟨g5, 0, none⟩)), (7, .pointer (some ⟨g8, 0, none⟩)), (8, .bool false), (9, .bool true), (11, .bool false), (12, .int .i64 0), (13, .bool false), (14, .int .i64 0), (15, .pointer (some ⟨g64, 0, none⟩)), (16, .int .i64 9)] ⟨litGet (by kernel_rfl), ⟨litGet (by kernel_rfl), ⟨litGet (by kernel_rfl), ⟨litGet (by kernel_rfl), ⟨litGet (by kernel_rfl), ⟨litGet (by kernel_rfl), ⟨litGet (by kernel_rfl), ⟨litGet (by kernel_rfl), ⟨litGet (by kernel_rfl), ⟨litGet (by kernel_rfl), trivial⟩⟩⟩⟩⟩⟩⟩⟩⟩⟩ (fun X69 => ?_)
      refine wp_seq_k fun K70 hK70 => ?_
      refine wp_seq_k fun K71 hK71 => ?_
      refine plStart ?_
      refine litK (v := .int .i64 0) rfl rfl (by kernel_rfl) rfl (by decide) ?_
      refine litK (v := .bool false) rfl rfl (by kernel_rfl) rfl (by decide) ?_
      refine litK (v := .bool false) rfl rfl (by kernel_rfl) rfl (by decide) ?_
      refine litVal (v := .int .i64 0) rfl (wgY rfl rfl rfl (by decide) (by kernel_rfl)) (litRun (by kernel_rfl)) rfl (by decide) ?_
      refine litVal (v := .bool false) rfl (wgY rfl rfl rfl (by decide) (by kernel_rfl)) (litRun (by kernel_rfl)) rfl (by decide) ?_
      refine litK (v := .bool false) rfl rfl (by kernel_rfl) rfl (by decide) ?_
      refine litK (v := .bool false) rfl rfl (by kernel_rfl) rfl (by decide) ?_
      refine litVal (v := .bool false) rfl (wgY rfl rfl rfl (by decide) (by kernel_rfl)) (litRun (by kernel_rfl)) rfl (by decide) ?_
      refine litVal (v := .bool false) rfl (wgY rfl rfl rfl (by decide) (by kernel_rfl)) (litRun (by kernel_rfl)) rfl (by decide) ?_
      refine litVal (v := .bool false) rfl (wgY rfl rfl rfl (by decide) (by kernel_rfl)) (litRun (by kernel_rfl)) rfl (by decide) ?_
      refine litK (v := .bool false) rfl rfl (by kernel_rfl) rfl (by decide) ?_
      refine litK (v := .bool false) rfl rfl (by kernel_rfl) rfl (by decide) ?_
      refine litVal (v := .int .i64 9) rfl (wgY rfl rfl rfl (by decide) (by kernel_rfl)) (litRun (by kernel_rfl)) rfl (by decide) ?_
      refine litVal (v := .bool true) rfl (wgY rfl rfl rfl (by decide) (by kernel_rfl)) (litRun (by kernel_rfl)) rfl (by decide) ?_
      refine litVal (v := .bool true) rfl (wgY rfl rfl rfl (by decide) (by kernel_rfl)) (litRun (by kernel_rfl)) rfl (by decide) ?_
      refine litVal (v := .int .i64 9) rfl (wgY rfl rfl rfl (by decide) (by kernel_rfl)) (litRun (by kernel_rfl)) rfl (by decide) ?_
      refine litVal (v := .bool false) rfl (wgY rfl rfl rfl (by decide) (by kernel_rfl)) (litRun (by kernel_rfl)) rfl (by decide) ?_
      refine litVal (v := .bool false) rfl (wgY rfl rfl rfl (by decide) (by kernel_rfl)) (litRun (by kernel_rfl)) rfl (by decide) ?_
      refine litK (v := .bool false) rfl rfl (by kernel_rfl) rfl (by decide) ?_
      refine plDone (by decide) ?_
      refine then_normal (hK71 _ _ ?_)
      refine wpPrune [(6, .pointer (some ⟨g5, 0, none⟩)), (7, .pointer (some ⟨g8, 0, none⟩)), (8, .bool false), (9, .bool true), (11, .bool false), (15, .pointer (some ⟨g64, 0, none⟩)), (16, .int .i64 9), (98, .bool false)] ⟨litGet (by kernel_rfl), ⟨litGet (by kernel_rfl), ⟨litGet (by kernel_rfl), ⟨litGet (by kernel_rfl), ⟨litGet (by kernel_rfl), ⟨litGet (by kernel_rfl), ⟨litGet (by kernel_rfl), ⟨litGet (by kernel_rfl), trivial⟩⟩⟩⟩⟩⟩⟩⟩ (fun X72 => ?_)
      refine wp_cond_false (litEv (by kernel_rfl)) ?_
      refine wp_skip ?_
      refine then_normal (hK70 _ _ ?_)
      refine wp_seq_k fun K73 hK73 => ?_
      refine plStart ?_
      refine litK (v := .int .i64 9) rfl rfl (by kernel_rfl) rfl (by decide) ?_
      refine litK (v := .bool false) rfl rfl (by kernel_rfl) rfl (by decide) ?_
      refine litK (v := .bool false) rfl rfl (by kernel_rfl) rfl (by decide) ?_
      refine plSkip (i := 3) rfl (wgN rfl rfl rfl (by decide) (by kernel_rfl)) ?_
      refine qPut rfl (by decide) ?_
      refine plSkip (i := 4) rfl (wgN rfl rfl rfl (by decide) (by kernel_rfl)) ?_
      refine qPut rfl (by decide) ?_
      refine plSkip (i := 5) rfl (wgN rfl rfl rfl (by decide) (by kernel_rfl)) ?_
      refine qPut rfl (by decide) ?_
      refine plSkip (i := 6) rfl (wgN rfl rfl rfl (by decide) (by kernel_rfl)) ?_
      refine qPut rfl (by decide) ?_
      refine litK (v := .bool false) rfl rfl (by kernel_rfl) rfl (by decide) ?_
      refine litK (v := .bool false) rfl rfl (by kernel_rfl) rfl (by decide) ?_
      refine plSkip (i := 9) rfl (wgN rfl rfl rfl (by decide) (by kernel_rfl)) ?_
      refine qPut rfl (by decide) ?_
      refine plSkip (i := 10) rfl (wgN rfl rfl rfl (by decide) (by kernel_rfl)) ?_
      refine qPut rfl (by decide) ?_
      refine plSkip (i := 11) rfl (wgN rfl rfl rfl (by decide) (by kernel_rfl)) ?_
      refine qPut rfl (by decide) ?_
      refine plSkip (i := 12) rfl (wgN rfl rfl rfl (by decide) (by kernel_rfl)) ?_
      refine qPut rfl (by decide) ?_
      refine litK (v := .bool false) rfl rfl (by kernel_rfl) rfl (by decide) ?_
      refine litK (v := .bool false) rfl rfl (by kernel_rfl) rfl (by decide) ?_
      refine plDone (by decide) ?_
      refine then_normal (hK73 _ _ ?_)
      refine wpPrune [(8, .bool false), (9, .bool true), (11, .bool false), (16, .int .i64 9), (17, .bool false)] ⟨litGet (by kernel_rfl), ⟨litGet (by kernel_rfl), ⟨litGet (by kernel_rfl), ⟨litGet (by kernel_rfl), ⟨litGet (by kernel_rfl), trivial⟩⟩⟩⟩⟩ (fun X74 => ?_)
      refine wp_seq_k fun K75 hK75 => ?_
      refine plStart ?_
      refine litK (v := .bool true) rfl rfl (by kernel_rfl) rfl (by decide) ?_
      refine litK (v := .bool true) rfl rfl (by kernel_rfl) rfl (by decide) ?_
      refine litVal (v := .bool false) rfl (wgY rfl rfl rfl (by decide) (by kernel_rfl)) (litRun (by kernel_rfl)) rfl (by decide) ?_
      refine litVal (v := .bool true) rfl (wgY rfl rfl rfl (by decide) (by kernel_rfl)) (litRun (by kernel_rfl)) rfl (by decide) ?_
      refine litVal (v := .bool true) rfl (wgY rfl rfl rfl (by decide) (by kernel_rfl)) (litRun (by kernel_rfl)) rfl (by decide) ?_
      refine plSkip (i := 5) rfl (wgN rfl rfl rfl (by decide) (by kernel_rfl)) ?_
      refine qPut rfl (by decide) ?_
      refine plSkip (i := 6) rfl (wgN rfl rfl rfl (by decide) (by kernel_rfl)) ?_
      refine qPut rfl (by decide) ?_
      refine litVal (v := .bool true) rfl (wgY rfl rfl rfl (by decide) (by kernel_rfl)) (litRun (by kernel_rfl)) rfl (by decide) ?_
      refine litK (v := .bool true) rfl rfl (by kernel_rfl) rfl (by decide) ?_
      refine litK (v := .bool true) rfl rfl (by kernel_rfl) rfl (by decide) ?_
      refine litVal (v := .int .i64 9) rfl (wgY rfl rfl rfl (by decide) (by kernel_rfl)) (litRun (by kernel_rfl)) rfl (by decide) ?_
      refine litVal (v := .bool false) rfl (wgY rfl rfl rfl (by decide) (by kernel_rfl)) (litRun (by kernel_rfl)) rfl (by decide) ?_
      refine litVal (v := .bool false) rfl (wgY rfl rfl rfl (by decide) (by kernel_rfl)) (litRun (by kernel_rfl)) rfl (by decide) ?_
      refine litVal (v := .bool false) rfl (wgY rfl rfl rfl (by decide) (by kernel_rfl)) (litRun (by kernel_rfl)) rfl (by decide) ?_
      refine litVal (v := .bool false) rfl (wgY rfl rfl rfl (by decide) (by kernel_rfl)) (litRun (by kernel_rfl)) rfl (by decide) ?_
      refine litK (v := .bool false) rfl rfl (by kernel_rfl) rfl (by decide) ?_
      refine litK (v := .bool false) rfl rfl (by kernel_rfl) rfl (by decide) ?_
      refine plDone (by decide) ?_
      refine then_normal (hK75 _ _ ?_)
      refine wpPrune [(8, .bool false)] ⟨litGet (by kernel_rfl), trivial⟩ (fun X76 => ?_)
      refine wp_ret ?_
      refine bodyPost_ret (v := .bool false) (gRes1 rfl (gResTmp (t := 8) (v := .bool false) (litGet (by kernel_rfl)))) rfl ?_
      exact absurd (h54.symm.trans (vis_free hck hfs)) (by decide)
    refine litK (v := .pointer (some ⟨g44, 0, none⟩)) rfl rfl (by kernel_rfl) rfl (by decide) ?_
    refine litK (v := .iface 39 (.pointer (some ⟨g44, 0, none⟩))) rfl rfl (by kernel_rfl) rfl (by decide) ?_
    refine litK (v := .slice A2 T.length c2) rfl rfl (by kernel_rfl) rfl (by decide) ?_
    refine litVal (v := .agg (pcs a).toArray) rfl (wn rfl) (gLoadAg (vs := pcs a) (k := 0) 4 hm58 rfl (by kernel_rfl) (by kernel_rfl) (.tmp 6) Ty.ag_voxel_api_Point rfl (litEv (by kernel_rfl))) rfl (by decide) ?_
    refine litVal (v := .agg (pcs b).toArray) rfl (wn rfl) (gLoadAg (vs := pcs b) (k := 0) 5 hm58 rfl (by kernel_rfl) (by kernel_rfl) (.tmp 7) Ty.ag_voxel_api_Point rfl (litEv (by kernel_rfl))) rfl (by decide) ?_
    refine plCall (i := 5) 16 [.iface 39 (.pointer (some ⟨g44, 0, none⟩)), .slice A2 T.length c2, .agg (pcs a).toArray, .agg (pcs b).toArray] [] [] rfl (by kernel_rfl) (wn rfl) rfl (litEv (by kernel_rfl)) (litArgs (by kernel_rfl)) (by have h := first_any (M := [.arr g2 36 (gcs g A c), .arr g5 23 (pcs a), .arr g8 23 (pcs b)]) g hv T A c A2 c2 g44 last59 a b hm58; rw [firstH_some hck hfs, firstE_some hck hfs] at h; exact h) ?_
    rintro e w77 ⟨last79, rfl, hm78, _⟩
    clear hm58
    refine ⟨_, rfl, ?_⟩
    refine qPut rfl (by decide) ?_
    refine litK (v := .tuple #[.agg (hcs q (befOf (walk a b) a k) (k : Int)).toArray, .int .i64 0]) rfl rfl (by kernel_rfl) rfl (by decide) ?_
    refine litK (v := .agg (hcs q (befOf (walk a b) a k) (k : Int)).toArray) rfl rfl (by kernel_rfl) rfl (by decide) ?_
    refine litK (v := .int .i64 0) rfl rfl (by kernel_rfl) rfl (by decide) ?_
    refine plAlloc (z := [.int .i64 0, .int .i64 0, .int .i64 0, .int .i64 0, .int .i64 0, .int .i64 0, .int .i64 0]) Ty.ag_voxel_ray_Hit hm78 (i := 9) rfl (wn rfl) rfl ?_
    intro g80 w82 hm81
    clear hm78
    try simp only [List.cons_append, List.nil_append, List.set_cons_succ, List.set_cons_zero] at hm81
    refine qPut rfl (by decide) ?_
    refine plStore 6 Ty.ag_voxel_ray_Hit hm81 rfl (i := 10) (cs := hcs q (befOf (walk a b) a k) (k : Int)) rfl (wn rfl) rfl (litEv (by kernel_rfl)) (litEv (by kernel_rfl)) rfl rfl (by kernel_rfl) ?_
    intro w84 hm83
    clear hm81
    try simp only [List.cons_append, List.nil_append, List.set_cons_succ, List.set_cons_zero] at hm83
    refine qNone rfl ?_
    refine litK (v := .int .i64 0) rfl rfl (by kernel_rfl) rfl (by decide) ?_
    refine plDone (by decide) ?_
    refine then_normal (hK60 _ _ ?_)
    refine wpPrune [(6, .pointer (some ⟨g5, 0, none⟩)), (7, .pointer (some ⟨g8, 0, none⟩)), (8, .bool false), (9, .bool true), (11, .bool false), (12, .int .i64 0), (13, .bool false), (14, .int .i64 0), (15, .pointer (some ⟨g80, 0, none⟩)), (16, .int .i64 0)] ⟨litGet (by kernel_rfl), ⟨litGet (by kernel_rfl), ⟨litGet (by kernel_rfl), ⟨litGet (by kernel_rfl), ⟨litGet (by kernel_rfl), ⟨litGet (by kernel_rfl), ⟨litGet (by kernel_rfl), ⟨litGet (by kernel_rfl), ⟨litGet (by kernel_rfl), ⟨litGet (by kernel_rfl), trivial⟩⟩⟩⟩⟩⟩⟩⟩⟩⟩ (fun X85 => ?_)
    refine wp_seq_k fun K86 hK86 => ?_
    refine wp_seq_k fun K87 hK87 => ?_
    refine plStart ?_
    refine litK (v := .int .i64 0) rfl rfl (by kernel_rfl) rfl (by decide) ?_
    refine litK (v := .bool false) rfl rfl (by kernel_rfl) rfl (by decide) ?_
    refine litK (v := .bool false) rfl rfl (by kernel_rfl) rfl (by decide) ?_
    refine litVal (v := .int .i64 0) rfl (wgY rfl rfl rfl (by decide) (by kernel_rfl)) (litRun (by kernel_rfl)) rfl (by decide) ?_
    refine litVal (v := .bool false) rfl (wgY rfl rfl rfl (by decide) (by kernel_rfl)) (litRun (by kernel_rfl)) rfl (by decide) ?_
    refine litK (v := .bool false) rfl rfl (by kernel_rfl) rfl (by decide) ?_
    refine litK (v := .bool false) rfl rfl (by kernel_rfl) rfl (by decide) ?_
    refine litVal (v := .bool false) rfl (wgY rfl rfl rfl (by decide) (by kernel_rfl)) (litRun (by kernel_rfl)) rfl (by decide) ?_
    refine litVal (v := .bool false) rfl (wgY rfl rfl rfl (by decide) (by kernel_rfl)) (litRun (by kernel_rfl)) rfl (by decide) ?_
    refine litVal (v := .bool false) rfl (wgY rfl rfl rfl (by decide) (by kernel_rfl)) (litRun (by kernel_rfl)) rfl (by decide) ?_
    refine litK (v := .bool false) rfl rfl (by kernel_rfl) rfl (by decide) ?_
    refine litK (v := .bool false) rfl rfl (by kernel_rfl) rfl (by decide) ?_
    refine litVal (v := .int .i64 0) rfl (wgY rfl rfl rfl (by decide) (by kernel_rfl)) (litRun (by kernel_rfl)) rfl (by decide) ?_
    refine litVal (v := .bool false) rfl (wgY rfl rfl rfl (by decide) (by kernel_rfl)) (litRun (by kernel_rfl)) rfl (by decide) ?_
    refine litVal (v := .bool false) rfl (wgY rfl rfl rfl (by decide) (by kernel_rfl)) (litRun (by kernel_rfl)) rfl (by decide) ?_
    refine plSkip (i := 15) rfl (wgN rfl rfl rfl (by decide) (by kernel_rfl)) ?_
    refine qPut rfl (by decide) ?_
    refine plSkip (i := 16) rfl (wgN rfl rfl rfl (by decide) (by kernel_rfl)) ?_
    refine qPut rfl (by decide) ?_
    refine litVal (v := .bool false) rfl (wgY rfl rfl rfl (by decide) (by kernel_rfl)) (litRun (by kernel_rfl)) rfl (by decide) ?_
    refine litK (v := .bool false) rfl rfl (by kernel_rfl) rfl (by decide) ?_
    refine plDone (by decide) ?_
    refine then_normal (hK87 _ _ ?_)
    refine wpPrune [(6, .pointer (some ⟨g5, 0, none⟩)), (7, .pointer (some ⟨g8, 0, none⟩)), (8, .bool false), (9, .bool true), (11, .bool false), (15, .pointer (some ⟨g80, 0, none⟩)), (16, .int .i64 0), (98, .bool false)] ⟨litGet (by kernel_rfl), ⟨litGet (by kernel_rfl), ⟨litGet (by kernel_rfl), ⟨litGet (by kernel_rfl), ⟨litGet (by kernel_rfl), ⟨litGet (by kernel_rfl), ⟨litGet (by kernel_rfl), ⟨litGet (by kernel_rfl), trivial⟩⟩⟩⟩⟩⟩⟩⟩ (fun X88 => ?_)
    refine wp_cond_false (litEv (by kernel_rfl)) ?_
    refine wp_skip ?_
    refine then_normal (hK86 _ _ ?_)
    refine wp_seq_k fun K89 hK89 => ?_
    refine plStart ?_
    refine litK (v := .int .i64 0) rfl rfl (by kernel_rfl) rfl (by decide) ?_
    refine litK (v := .bool true) rfl rfl (by kernel_rfl) rfl (by decide) ?_
    refine litK (v := .bool true) rfl rfl (by kernel_rfl) rfl (by decide) ?_
    refine litVal (v := .pointer (some ⟨g80, 0, none⟩)) rfl (wgY rfl rfl rfl (by decide) (by kernel_rfl)) (litRun (by kernel_rfl)) rfl (by decide) ?_
    refine litVal (v := .agg (pcs q).toArray) rfl (wgY rfl rfl rfl (by decide) (by kernel_rfl)) (gLoadAg (vs := pcs q) (k := 0) 6 hm83 rfl (by kernel_rfl) (by kernel_rfl) (.tmp 102) Ty.ag_voxel_api_Point rfl (litEv (by kernel_rfl))) rfl (by decide) ?_
    refine litVal (v := .agg (pcs a).toArray) rfl (wgY rfl rfl rfl (by decide) (by kernel_rfl)) (gLoadAg (vs := pcs a) (k := 0) 4 hm83 rfl (by kernel_rfl) (by kernel_rfl) (.tmp 6) Ty.ag_voxel_api_Point rfl (litEv (by kernel_rfl))) rfl (by decide) ?_
    by_cases h90 : q = a
    · refine litVal (v := .bool false) rfl (wgY rfl rfl rfl (by decide) (by kernel_rfl)) (boolTo (by rw [decide_eq_true h90]; rfl) (neqPtRun (.tmp 103) (.tmp 104) q a (by kernel_rfl) (by kernel_rfl) (by kernel_rfl) (by kernel_rfl) rfl (litEv (by kernel_rfl)) (litEv (by kernel_rfl)))) rfl (by decide) ?_
      refine litK (v := .bool false) rfl rfl (by kernel_rfl) rfl (by decide) ?_
      refine litK (v := .bool false) rfl rfl (by kernel_rfl) rfl (by decide) ?_
      refine plSkip (i := 9) rfl (wgN rfl rfl rfl (by decide) (by kernel_rfl)) ?_
      refine qPut rfl (by decide) ?_
      refine plSkip (i := 10) rfl (wgN rfl rfl rfl (by decide) (by kernel_rfl)) ?_
      refine qPut rfl (by decide) ?_
      refine plSkip (i := 11) rfl (wgN rfl rfl rfl (by decide) (by kernel_rfl)) ?_
      refine qPut rfl (by decide) ?_
      refine plSkip (i := 12) rfl (wgN rfl rfl rfl (by decide) (by kernel_rfl)) ?_
      refine qPut rfl (by decide) ?_
      refine litK (v := .bool false) rfl rfl (by kernel_rfl) rfl (by decide) ?_
      refine litK (v := .bool false) rfl rfl (by kernel_rfl) rfl (by decide) ?_
      refine plDone (by decide) ?_
      refine then_normal (hK89 _ _ ?_)
      refine wpPrune [(8, .bool false), (9, .bool true), (11, .bool false), (16, .int .i64 0), (17, .bool false)] ⟨litGet (by kernel_rfl), ⟨litGet (by kernel_rfl), ⟨litGet (by kernel_rfl), ⟨litGet (by kernel_rfl), ⟨litGet (by kernel_rfl), trivial⟩⟩⟩⟩⟩ (fun X91 => ?_)
      refine wp_seq_k fun K92 hK92 => ?_
      refine plStart ?_
      refine litK (v := .bool true) rfl rfl (by kernel_rfl) rfl (by decide) ?_
      refine litK (v := .bool true) rfl rfl (by kernel_rfl) rfl (by decide) ?_
      refine litVal (v := .bool false) rfl (wgY rfl rfl rfl (by decide) (by kernel_rfl)) (litRun (by kernel_rfl)) rfl (by decide) ?_
      refine litVal (v := .bool true) rfl (wgY rfl rfl rfl (by decide) (by kernel_rfl)) (litRun (by kernel_rfl)) rfl (by decide) ?_
      refine litVal (v := .bool true) rfl (wgY rfl rfl rfl (by decide) (by kernel_rfl)) (litRun (by kernel_rfl)) rfl (by decide) ?_
      refine plSkip (i := 5) rfl (wgN rfl rfl rfl (by decide) (by kernel_rfl)) ?_
      refine qPut rfl (by decide) ?_
      refine plSkip (i := 6) rfl (wgN rfl rfl rfl (by decide) (by kernel_rfl)) ?_
      refine qPut rfl (by decide) ?_
      refine litVal (v := .bool true) rfl (wgY rfl rfl rfl (by decide) (by kernel_rfl)) (litRun (by kernel_rfl)) rfl (by decide) ?_
      refine litK (v := .bool true) rfl rfl (by kernel_rfl) rfl (by decide) ?_
      refine litK (v := .bool true) rfl rfl (by kernel_rfl) rfl (by decide) ?_
      refine litVal (v := .int .i64 0) rfl (wgY rfl rfl rfl (by decide) (by kernel_rfl)) (litRun (by kernel_rfl)) rfl (by decide) ?_
      refine litVal (v := .bool true) rfl (wgY rfl rfl rfl (by decide) (by kernel_rfl)) (litRun (by kernel_rfl)) rfl (by decide) ?_
      refine litVal (v := .bool true) rfl (wgY rfl rfl rfl (by decide) (by kernel_rfl)) (litRun (by kernel_rfl)) rfl (by decide) ?_
      refine plSkip (i := 13) rfl (wgN rfl rfl rfl (by decide) (by kernel_rfl)) ?_
      refine qPut rfl (by decide) ?_
      refine litVal (v := .bool true) rfl (wgY rfl rfl rfl (by decide) (by kernel_rfl)) (litRun (by kernel_rfl)) rfl (by decide) ?_
      refine litK (v := .bool true) rfl rfl (by kernel_rfl) rfl (by decide) ?_
      refine litK (v := .bool true) rfl rfl (by kernel_rfl) rfl (by decide) ?_
      refine plDone (by decide) ?_
      refine then_normal (hK92 _ _ ?_)
      refine wpPrune [(8, .bool true)] ⟨litGet (by kernel_rfl), trivial⟩ (fun X93 => ?_)
      refine wp_ret ?_
      refine bodyPost_ret (v := .bool true) (gRes1 rfl (gResTmp (t := 8) (v := .bool true) (litGet (by kernel_rfl)))) rfl ?_
      exact ⟨rfl, hm83.bel⟩
    refine litVal (v := .bool true) rfl (wgY rfl rfl rfl (by decide) (by kernel_rfl)) (boolTo (by rw [decide_eq_false h90]; rfl) (neqPtRun (.tmp 103) (.tmp 104) q a (by kernel_rfl) (by kernel_rfl) (by kernel_rfl) (by kernel_rfl) rfl (litEv (by kernel_rfl)) (litEv (by kernel_rfl)))) rfl (by decide) ?_
    refine litK (v := .bool true) rfl rfl (by kernel_rfl) rfl (by decide) ?_
    refine litK (v := .bool true) rfl rfl (by kernel_rfl) rfl (by decide) ?_
    refine litVal (v := .pointer (some ⟨g80, 0, none⟩)) rfl (wgY rfl rfl rfl (by decide) (by kernel_rfl)) (litRun (by kernel_rfl)) rfl (by decide) ?_
    refine litVal (v := .agg (pcs q).toArray) rfl (wgY rfl rfl rfl (by decide) (by kernel_rfl)) (gLoadAg (vs := pcs q) (k := 0) 6 hm83 rfl (by kernel_rfl) (by kernel_rfl) (.tmp 108) Ty.ag_voxel_api_Point rfl (litEv (by kernel_rfl))) rfl (by decide) ?_
    refine litVal (v := .agg (pcs b).toArray) rfl (wgY rfl rfl rfl (by decide) (by kernel_rfl)) (gLoadAg (vs := pcs b) (k := 0) 5 hm83 rfl (by kernel_rfl) (by kernel_rfl) (.tmp 7) Ty.ag_voxel_api_Point rfl (litEv (by kernel_rfl))) rfl (by decide) ?_
    by_cases h94 : q = b
    · refine litVal (v := .bool false) rfl (wgY rfl rfl rfl (by decide) (by kernel_rfl)) (boolTo (by rw [decide_eq_true h94]; rfl) (neqPtRun (.tmp 109) (.tmp 110) q b (by kernel_rfl) (by kernel_rfl) (by kernel_rfl) (by kernel_rfl) rfl (litEv (by kernel_rfl)) (litEv (by kernel_rfl)))) rfl (by decide) ?_
      refine litK (v := .bool false) rfl rfl (by kernel_rfl) rfl (by decide) ?_
      refine litK (v := .bool false) rfl rfl (by kernel_rfl) rfl (by decide) ?_
      refine plDone (by decide) ?_
      refine then_normal (hK89 _ _ ?_)
      refine wpPrune [(8, .bool false), (9, .bool true), (11, .bool false), (16, .int .i64 0), (17, .bool false)] ⟨litGet (by kernel_rfl), ⟨litGet (by kernel_rfl), ⟨litGet (by kernel_rfl), ⟨litGet (by kernel_rfl), ⟨litGet (by kernel_rfl), trivial⟩⟩⟩⟩⟩ (fun X95 => ?_)
      refine wp_seq_k fun K96 hK96 => ?_
      refine plStart ?_
      refine litK (v := .bool true) rfl rfl (by kernel_rfl) rfl (by decide) ?_
      refine litK (v := .bool true) rfl rfl (by kernel_rfl) rfl (by decide) ?_
      refine litVal (v := .bool false) rfl (wgY rfl rfl rfl (by decide) (by kernel_rfl)) (litRun (by kernel_rfl)) rfl (by decide) ?_
      refine litVal (v := .bool true) rfl (wgY rfl rfl rfl (by decide) (by kernel_rfl)) (litRun (by kernel_rfl)) rfl (by decide) ?_
      refine litVal (v := .bool true) rfl (wgY rfl rfl rfl (by decide) (by kernel_rfl)) (litRun (by kernel_rfl)) rfl (by decide) ?_
      refine plSkip (i := 5) rfl (wgN rfl rfl rfl (by decide) (by kernel_rfl)) ?_
      refine qPut rfl (by decide) ?_
      refine plSkip (i := 6) rfl (wgN rfl rfl rfl (by decide) (by kernel_rfl)) ?_
      refine qPut rfl (by decide) ?_
      refine litVal (v := .bool true) rfl (wgY rfl rfl rfl (by decide) (by kernel_rfl)) (litRun (by kernel_rfl)) rfl (by decide) ?_
      refine litK (v := .bool true) rfl rfl (by kernel_rfl) rfl (by decide) ?_
      refine litK (v := .bool true) rfl rfl (by kernel_rfl) rfl (by decide) ?_
      refine litVal (v := .int .i64 0) rfl (wgY rfl rfl rfl (by decide) (by kernel_rfl)) (litRun (by kernel_rfl)) rfl (by decide) ?_
      refine litVal (v := .bool true) rfl (wgY rfl rfl rfl (by decide) (by kernel_rfl)) (litRun (by kernel_rfl)) rfl (by decide) ?_
      refine litVal (v := .bool true) rfl (wgY rfl rfl rfl (by decide) (by kernel_rfl)) (litRun (by kernel_rfl)) rfl (by decide) ?_
      refine plSkip (i := 13) rfl (wgN rfl rfl rfl (by decide) (by kernel_rfl)) ?_
      refine qPut rfl (by decide) ?_
      refine litVal (v := .bool true) rfl (wgY rfl rfl rfl (by decide) (by kernel_rfl)) (litRun (by kernel_rfl)) rfl (by decide) ?_
      refine litK (v := .bool true) rfl rfl (by kernel_rfl) rfl (by decide) ?_
      refine litK (v := .bool true) rfl rfl (by kernel_rfl) rfl (by decide) ?_
      refine plDone (by decide) ?_
      refine then_normal (hK96 _ _ ?_)
      refine wpPrune [(8, .bool true)] ⟨litGet (by kernel_rfl), trivial⟩ (fun X97 => ?_)
      refine wp_ret ?_
      refine bodyPost_ret (v := .bool true) (gRes1 rfl (gResTmp (t := 8) (v := .bool true) (litGet (by kernel_rfl)))) rfl ?_
      exact ⟨rfl, hm83.bel⟩
    refine litVal (v := .bool true) rfl (wgY rfl rfl rfl (by decide) (by kernel_rfl)) (boolTo (by rw [decide_eq_false h94]; rfl) (neqPtRun (.tmp 109) (.tmp 110) q b (by kernel_rfl) (by kernel_rfl) (by kernel_rfl) (by kernel_rfl) rfl (litEv (by kernel_rfl)) (litEv (by kernel_rfl)))) rfl (by decide) ?_
    refine litK (v := .bool true) rfl rfl (by kernel_rfl) rfl (by decide) ?_
    refine litK (v := .bool true) rfl rfl (by kernel_rfl) rfl (by decide) ?_
    refine plDone (by decide) ?_
    refine then_normal (hK89 _ _ ?_)
    refine wpPrune [(8, .bool false), (9, .bool true), (11, .bool false), (16, .int .i64 0), (17, .bool true)] ⟨litGet (by kernel_rfl), ⟨litGet (by kernel_rfl), ⟨litGet (by kernel_rfl), ⟨litGet (by kernel_rfl), ⟨litGet (by kernel_rfl), trivial⟩⟩⟩⟩⟩ (fun X98 => ?_)
    refine wp_seq_k fun K99 hK99 => ?_
    refine plStart ?_
    refine litK (v := .bool true) rfl rfl (by kernel_rfl) rfl (by decide) ?_
    refine litK (v := .bool true) rfl rfl (by kernel_rfl) rfl (by decide) ?_
    refine litVal (v := .bool true) rfl (wgY rfl rfl rfl (by decide) (by kernel_rfl)) (litRun (by kernel_rfl)) rfl (by decide) ?_
    refine litVal (v := .bool false) rfl (wgY rfl rfl rfl (by decide) (by kernel_rfl)) (litRun (by kernel_rfl)) rfl (by decide) ?_
    refine litVal (v := .bool false) rfl (wgY rfl rfl rfl (by decide) (by kernel_rfl)) (litRun (by kernel_rfl)) rfl (by decide) ?_
    refine litVal (v := .bool false) rfl (wgY rfl rfl rfl (by decide) (by kernel_rfl)) (litRun (by kernel_rfl)) rfl (by decide) ?_
    refine litVal (v := .bool true) rfl (wgY rfl rfl rfl (by decide) (by kernel_rfl)) (litRun (by kernel_rfl)) rfl (by decide) ?_
    refine litVal (v := .bool true) rfl (wgY rfl rfl rfl (by decide) (by kernel_rfl)) (litRun (by kernel_rfl)) rfl (by decide) ?_
    refine litK (v := .bool true) rfl rfl (by kernel_rfl) rfl (by decide) ?_
    refine litK (v := .bool true) rfl rfl (by kernel_rfl) rfl (by decide) ?_
    refine litVal (v := .int .i64 0) rfl (wgY rfl rfl rfl (by decide) (by kernel_rfl)) (litRun (by kernel_rfl)) rfl (by decide) ?_
    refine litVal (v := .bool true) rfl (wgY rfl rfl rfl (by decide) (by kernel_rfl)) (litRun (by kernel_rfl)) rfl (by decide) ?_
    refine litVal (v := .bool true) rfl (wgY rfl rfl rfl (by decide) (by kernel_rfl)) (litRun (by kernel_rfl)) rfl (by decide) ?_
    refine plSkip (i := 13) rfl (wgN rfl rfl rfl (by decide) (by kernel_rfl)) ?_
    refine qPut rfl (by decide) ?_
    refine litVal (v := .bool true) rfl (wgY rfl rfl rfl (by decide) (by kernel_rfl)) (litRun (by kernel_rfl)) rfl (by decide) ?_
    refine litK (v := .bool true) rfl rfl (by kernel_rfl) rfl (by decide) ?_
    refine litK (v := .bool true) rfl rfl (by kernel_rfl) rfl (by decide) ?_
    refine plDone (by decide) ?_
    refine then_normal (hK99 _ _ ?_)
    refine wpPrune [(8, .bool true)] ⟨litGet (by kernel_rfl), trivial⟩ (fun X100 => ?_)
    refine wp_ret ?_
    refine bodyPost_ret (v := .bool true) (gRes1 rfl (gResTmp (t := 8) (v := .bool true) (litGet (by kernel_rfl)))) rfl ?_
    exact ⟨rfl, hm83.bel⟩
  rw [h54]
  refine litK (v := .tuple #[.bool true, .int .i64 0]) rfl rfl (by kernel_rfl) rfl (by decide) ?_
  refine litK (v := .bool true) rfl rfl (by kernel_rfl) rfl (by decide) ?_
  refine litK (v := .int .i64 0) rfl rfl (by kernel_rfl) rfl (by decide) ?_
  refine litK (v := .bool true) rfl rfl (by kernel_rfl) rfl (by decide) ?_
  refine litK (v := .int .i64 0) rfl rfl (by kernel_rfl) rfl (by decide) ?_
  refine plDone (by decide) ?_
  refine then_normal (hK47 _ _ ?_)
  refine wpPrune [(1, .slice A2 T.length c2), (6, .pointer (some ⟨g5, 0, none⟩)), (7, .pointer (some ⟨g8, 0, none⟩)), (8, .bool false), (9, .bool true), (10, .pointer (some ⟨g44, 0, none⟩)), (11, .bool true), (12, .int .i64 0)] ⟨litGet (by kernel_rfl), ⟨litGet (by kernel_rfl), ⟨litGet (by kernel_rfl), ⟨litGet (by kernel_rfl), ⟨litGet (by kernel_rfl), ⟨litGet (by kernel_rfl), ⟨litGet (by kernel_rfl), ⟨litGet (by kernel_rfl), trivial⟩⟩⟩⟩⟩⟩⟩⟩ (fun X101 => ?_)
  refine wp_seq_k fun K102 hK102 => ?_
  refine plStart ?_
  refine litK (v := .pointer (some ⟨g44, 0, none⟩)) rfl rfl (by kernel_rfl) rfl (by decide) ?_
  refine litK (v := .iface 39 (.pointer (some ⟨g44, 0, none⟩))) rfl rfl (by kernel_rfl) rfl (by decide) ?_
  refine litK (v := .slice A2 T.length c2) rfl rfl (by kernel_rfl) rfl (by decide) ?_
  refine litVal (v := .agg (pcs b).toArray) rfl (wn rfl) (gLoadAg (vs := pcs b) (k := 0) 5 hm52 rfl (by kernel_rfl) (by kernel_rfl) (.tmp 7) Ty.ag_voxel_api_Point rfl (litEv (by kernel_rfl))) rfl (by decide) ?_
  refine litVal (v := .agg (pcs a).toArray) rfl (wn rfl) (gLoadAg (vs := pcs a) (k := 0) 4 hm52 rfl (by kernel_rfl) (by kernel_rfl) (.tmp 6) Ty.ag_voxel_api_Point rfl (litEv (by kernel_rfl))) rfl (by decide) ?_
  refine plCall (i := 5) 18 [.iface 39 (.pointer (some ⟨g44, 0, none⟩)), .slice A2 T.length c2, .agg (pcs b).toArray, .agg (pcs a).toArray] [] [] rfl (by kernel_rfl) (wn rfl) rfl (litEv (by kernel_rfl)) (litArgs (by kernel_rfl)) (by have h := visible_any (M := [.arr g2 36 (gcs g A c), .arr g5 23 (pcs a), .arr g8 23 (pcs b)]) g hv T A c A2 c2 g44 last53 b a hm52; rw [vis_back hck hck2, hck2] at h; exact h) ?_
  rintro e w103 ⟨last105, rfl, hm104⟩
  clear hm52
  rw [h54]
  refine ⟨_, rfl, ?_⟩
  refine qPut rfl (by decide) ?_
  refine litK (v := .tuple #[.bool true, .int .i64 0]) rfl rfl (by kernel_rfl) rfl (by decide) ?_
  refine litK (v := .bool true) rfl rfl (by kernel_rfl) rfl (by decide) ?_
  refine litK (v := .int .i64 0) rfl rfl (by kernel_rfl) rfl (by decide) ?_
  refine litK (v := .bool true) rfl rfl (by kernel_rfl) rfl (by decide) ?_
  refine litK (v := .int .i64 0) rfl rfl (by kernel_rfl) rfl (by decide) ?_
  refine plDone (by decide) ?_
  refine then_normal (hK102 _ _ ?_)
  refine wp_seq_k fun K106 hK106 => ?_
  refine plStart ?_
  rcases hfs : firstSol (solidAt g T) (walk a b) 0 with _ | ⟨k, q⟩
  · refine litK (v := .pointer (some ⟨g44, 0, none⟩)) rfl rfl (by kernel_rfl) rfl (by decide) ?_
    refine litK (v := .iface 39 (.pointer (some ⟨g44, 0, none⟩))) rfl rfl (by kernel_rfl) rfl (by decide) ?_
    refine litK (v := .slice A2 T.length c2) rfl rfl (by kernel_rfl) rfl (by decide) ?_
    refine litVal (v := .agg (pcs a).toArray) rfl (wn rfl) (gLoadAg (vs := pcs a) (k := 0) 4 hm104 rfl (by kernel_rfl) (by kernel_rfl) (.tmp 6) Ty.ag_voxel_api_Point rfl (litEv (by kernel_rfl))) rfl (by decide) ?_
    refine litVal (v := .agg (pcs b).toArray) rfl (wn rfl) (gLoadAg (vs := pcs b) (k := 0) 5 hm104 rfl (by kernel_rfl) (by kernel_rfl) (.tmp 7) Ty.ag_voxel_api_Point rfl (litEv (by kernel_rfl))) rfl (by decide) ?_
    refine plCall (i := 5) 16 [.iface 39 (.pointer (some ⟨g44, 0, none⟩)), .slice A2 T.length c2, .agg (pcs a).toArray, .agg (pcs b).toArray] [] [] rfl (by kernel_rfl) (wn rfl) rfl (litEv (by kernel_rfl)) (litArgs (by kernel_rfl)) (by have h := first_any (M := [.arr g2 36 (gcs g A c), .arr g5 23 (pcs a), .arr g8 23 (pcs b)]) g hv T A c A2 c2 g44 last105 a b hm104; rw [firstH_none hck hfs, firstE_none hck hfs] at h; exact h) ?_
    rintro e w107 ⟨last109, rfl, hm108, _⟩
    clear hm104
    refine ⟨_, rfl, ?_⟩
    refine qPut rfl (by decide) ?_
    refine litK (v := .tuple #[.agg (hcs p0 p0 0).toArray, .int .i64 9]) rfl rfl (by kernel_rfl) rfl (by decide) ?_
    refine litK (v := .agg (hcs p0 p0 0).toArray) rfl rfl (by kernel_rfl) rfl (by decide) ?_
    refine litK (v := .int .i64 9) rfl rfl (by kernel_rfl) rfl (by decide) ?_
    refine plAlloc (z := [.int .i64 0, .int .i64 0, .int .i64 0, .int .i64 0, .int .i64 0, .int .i64 0, .int .i64 0]) Ty.ag_voxel_ray_Hit hm108 (i := 9) rfl (wn rfl) rfl ?_
    intro g110 w112 hm111
    clear hm108
    try simp only [List.cons_append, List.nil_append, List.set_cons_succ, List.set_cons_zero] at hm111
    refine qPut rfl (by decide) ?_
    refine plStore 6 Ty.ag_voxel_ray_Hit hm111 rfl (i := 10) (cs := hcs p0 p0 0) rfl (wn rfl) rfl (litEv (by kernel_rfl)) (litEv (by kernel_rfl)) rfl rfl (by kernel_rfl) ?_
    intro w114 hm113
    clear hm111
    try simp only [List.cons_append, List.nil_append, List.set_cons_succ, List.set_cons_zero] at hm113
    refine qNone rfl ?_
    refine litK (v := .int .i64 9) rfl rfl (by kernel_rfl) rfl (by decide) ?_
    refine plDone (by decide) ?_
    refine then_normal (hK106 _ _ ?_)
    refine wpPrune [(6, .pointer (some ⟨g5, 0, none⟩)), (7, .pointer (some ⟨g8, 0, none⟩)), (8, .bool false), (9, .bool true), (11, .bool true), (12, .int .i64 0), (13, .bool true), (14, .int .i64 0), (15, .pointer (some ⟨g110, 0, none⟩)), (16, .int .i64 9)] ⟨litGet (by kernel_rfl), ⟨litGet (by kernel_rfl), ⟨litGet (by kernel_rfl), ⟨litGet (by kernel_rfl), ⟨litGet (by kernel_rfl), ⟨litGet (by kernel_rfl), ⟨litGet (by kernel_rfl), ⟨litGet (by kernel_rfl), ⟨litGet (by kernel_rfl), ⟨litGet (by kernel_rfl), trivial⟩⟩⟩⟩⟩⟩⟩⟩⟩⟩ (fun X115 => ?_)
    refine wp_seq_k fun K116 hK116 => ?_
    refine wp_seq_k fun K117 hK117 => ?_
    refine plStart ?_
    refine litK (v := .int .i64 0) rfl rfl (by kernel_rfl) rfl (by decide) ?_
    refine litK (v := .bool false) rfl rfl (by kernel_rfl) rfl (by decide) ?_
    refine litK (v := .bool false) rfl rfl (by kernel_rfl) rfl (by decide) ?_
    refine litVal (v := .int .i64 0) rfl (wgY rfl rfl rfl (by decide) (by kernel_rfl)) (litRun (by kernel_rfl)) rfl (by decide) ?_
    refine litVal (v := .bool false) rfl (wgY rfl rfl rfl (by decide) (by kernel_rfl)) (litRun (by kernel_rfl)) rfl (by decide) ?_
    refine litK (v := .bool false) rfl rfl (by kernel_rfl) rfl (by decide) ?_
    refine litK (v := .bool false) rfl rfl (by kernel_rfl) rfl (by decide) ?_
    refine litVal (v := .bool true) rfl (wgY rfl rfl rfl (by decide) (by kernel_rfl)) (litRun (by kernel_rfl)) rfl (by decide) ?_
    refine litVal (v := .bool true) rfl (wgY rfl rfl rfl (by decide) (by kernel_rfl)) (litRun (by kernel_rfl)) rfl (by decide) ?_
    refine litVal (v := .bool false) rfl (wgY rfl rfl rfl (by decide) (by kernel_rfl)) (litRun (by kernel_rfl)) rfl (by decide) ?_
    refine litK (v := .bool false) rfl rfl (by kernel_rfl) rfl (by decide) ?_
    refine litK (v := .bool false) rfl rfl (by kernel_rfl) rfl (by decide) ?_
    refine litVal (v := .int .i64 9) rfl (wgY rfl rfl rfl (by decide) (by kernel_rfl)) (litRun (by kernel_rfl)) rfl (by decide) ?_
    refine litVal (v := .bool true) rfl (wgY rfl rfl rfl (by decide) (by kernel_rfl)) (litRun (by kernel_rfl)) rfl (by decide) ?_
    refine litVal (v := .bool true) rfl (wgY rfl rfl rfl (by decide) (by kernel_rfl)) (litRun (by kernel_rfl)) rfl (by decide) ?_
    refine litVal (v := .int .i64 9) rfl (wgY rfl rfl rfl (by decide) (by kernel_rfl)) (litRun (by kernel_rfl)) rfl (by decide) ?_
    refine litVal (v := .bool false) rfl (wgY rfl rfl rfl (by decide) (by kernel_rfl)) (litRun (by kernel_rfl)) rfl (by decide) ?_
    refine litVal (v := .bool false) rfl (wgY rfl rfl rfl (by decide) (by kernel_rfl)) (litRun (by kernel_rfl)) rfl (by decide) ?_
    refine litK (v := .bool false) rfl rfl (by kernel_rfl) rfl (by decide) ?_
    refine plDone (by decide) ?_
    refine then_normal (hK117 _ _ ?_)
    refine wpPrune [(6, .pointer (some ⟨g5, 0, none⟩)), (7, .pointer (some ⟨g8, 0, none⟩)), (8, .bool false), (9, .bool true), (11, .bool true), (15, .pointer (some ⟨g110, 0, none⟩)), (16, .int .i64 9), (98, .bool false)] ⟨litGet (by kernel_rfl), ⟨litGet (by kernel_rfl), ⟨litGet (by kernel_rfl), ⟨litGet (by kernel_rfl), ⟨litGet (by kernel_rfl), ⟨litGet (by kernel_rfl), ⟨litGet (by kernel_rfl), ⟨litGet (by kernel_rfl), trivial⟩⟩⟩⟩⟩⟩⟩⟩ (fun X118 => ?_)
    refine wp_cond_false (litEv (by kernel_rfl)) ?_
    refine wp_skip ?_
    refine then_normal (hK116 _ _ ?_)
    refine wp_seq_k fun K119 hK119 => ?_
    refine plStart ?_
    refine litK (v := .int .i64 9) rfl rfl (by kernel_rfl) rfl (by decide) ?_
    refine litK (v := .bool false) rfl rfl (by kernel_rfl) rfl (by decide) ?_
    refine litK (v := .bool false) rfl rfl (by kernel_rfl) rfl (by decide) ?_
    refine plSkip (i := 3) rfl (wgN rfl rfl rfl (by decide) (by kernel_rfl)) ?_
    refine qPut rfl (by decide) ?_
    refine plSkip (i := 4) rfl (wgN rfl rfl rfl (by decide) (by kernel_rfl)) ?_
    refine qPut rfl (by decide) ?_
    refine plSkip (i := 5) rfl (wgN rfl rfl rfl (by decide) (by kernel_rfl)) ?_
    refine qPut rfl (by decide) ?_
    refine plSkip (i := 6) rfl (wgN rfl rfl rfl (by decide) (by kernel_rfl)) ?_
    refine qPut rfl (by decide) ?_
    refine litK (v := .bool false) rfl rfl (by kernel_rfl) rfl (by decide) ?_
    refine litK (v := .bool false) rfl rfl (by kernel_rfl) rfl (by decide) ?_
    refine plSkip (i := 9) rfl (wgN rfl rfl rfl (by decide) (by kernel_rfl)) ?_
    refine qPut rfl (by decide) ?_
    refine plSkip (i := 10) rfl (wgN rfl rfl rfl (by decide) (by kernel_rfl)) ?_
    refine qPut rfl (by decide) ?_
    refine plSkip (i := 11) rfl (wgN rfl rfl rfl (by decide) (by kernel_rfl)) ?_
    refine qPut rfl (by decide) ?_
    refine plSkip (i := 12) rfl (wgN rfl rfl rfl (by decide) (by kernel_rfl)) ?_
    refine qPut rfl (by decide) ?_
    refine litK (v := .bool false) rfl rfl (by kernel_rfl) rfl (by decide) ?_
    refine litK (v := .bool false) rfl rfl (by kernel_rfl) rfl (by decide) ?_
    refine plDone (by decide) ?_
    refine then_normal (hK119 _ _ ?_)
    refine wpPrune [(8, .bool false), (9, .bool true), (11, .bool true), (16, .int .i64 9), (17, .bool false)] ⟨litGet (by kernel_rfl), ⟨litGet (by kernel_rfl), ⟨litGet (by kernel_rfl), ⟨litGet (by kernel_rfl), ⟨litGet (by kernel_rfl), trivial⟩⟩⟩⟩⟩ (fun X120 => ?_)
    refine wp_seq_k fun K121 hK121 => ?_
    refine plStart ?_
    refine litK (v := .bool true) rfl rfl (by kernel_rfl) rfl (by decide) ?_
    refine litK (v := .bool true) rfl rfl (by kernel_rfl) rfl (by decide) ?_
    refine litVal (v := .bool false) rfl (wgY rfl rfl rfl (by decide) (by kernel_rfl)) (litRun (by kernel_rfl)) rfl (by decide) ?_
    refine litVal (v := .bool true) rfl (wgY rfl rfl rfl (by decide) (by kernel_rfl)) (litRun (by kernel_rfl)) rfl (by decide) ?_
    refine litVal (v := .bool true) rfl (wgY rfl rfl rfl (by decide) (by kernel_rfl)) (litRun (by kernel_rfl)) rfl (by decide) ?_
    refine plSkip (i := 5) rfl (wgN rfl rfl rfl (by decide) (by kernel_rfl)) ?_
    refine qPut rfl (by decide) ?_
    refine plSkip (i := 6) rfl (wgN rfl rfl rfl (by decide) (by kernel_rfl)) ?_
    refine qPut rfl (by decide) ?_
    refine litVal (v := .bool true) rfl (wgY rfl rfl rfl (by decide) (by kernel_rfl)) (litRun (by kernel_rfl)) rfl (by decide) ?_
    refine litK (v := .bool true) rfl rfl (by kernel_rfl) rfl (by decide) ?_
    refine litK (v := .bool true) rfl rfl (by kernel_rfl) rfl (by decide) ?_
    refine litVal (v := .int .i64 9) rfl (wgY rfl rfl rfl (by decide) (by kernel_rfl)) (litRun (by kernel_rfl)) rfl (by decide) ?_
    refine litVal (v := .bool false) rfl (wgY rfl rfl rfl (by decide) (by kernel_rfl)) (litRun (by kernel_rfl)) rfl (by decide) ?_
    refine litVal (v := .bool false) rfl (wgY rfl rfl rfl (by decide) (by kernel_rfl)) (litRun (by kernel_rfl)) rfl (by decide) ?_
    refine litVal (v := .bool true) rfl (wgY rfl rfl rfl (by decide) (by kernel_rfl)) (litRun (by kernel_rfl)) rfl (by decide) ?_
    refine litVal (v := .bool true) rfl (wgY rfl rfl rfl (by decide) (by kernel_rfl)) (litRun (by kernel_rfl)) rfl (by decide) ?_
    refine litK (v := .bool true) rfl rfl (by kernel_rfl) rfl (by decide) ?_
    refine litK (v := .bool true) rfl rfl (by kernel_rfl) rfl (by decide) ?_
    refine plDone (by decide) ?_
    refine then_normal (hK121 _ _ ?_)
    refine wpPrune [(8, .bool true)] ⟨litGet (by kernel_rfl), trivial⟩ (fun X122 => ?_)
    refine wp_ret ?_
    refine bodyPost_ret (v := .bool true) (gRes1 rfl (gResTmp (t := 8) (v := .bool true) (litGet (by kernel_rfl)))) rfl ?_
    exact ⟨rfl, hm113.bel⟩
  refine litK (v := .pointer (some ⟨g44, 0, none⟩)) rfl rfl (by kernel_rfl) rfl (by decide) ?_
  refine litK (v := .iface 39 (.pointer (some ⟨g44, 0, none⟩))) rfl rfl (by kernel_rfl) rfl (by decide) ?_
  refine litK (v := .slice A2 T.length c2) rfl rfl (by kernel_rfl) rfl (by decide) ?_
  refine litVal (v := .agg (pcs a).toArray) rfl (wn rfl) (gLoadAg (vs := pcs a) (k := 0) 4 hm104 rfl (by kernel_rfl) (by kernel_rfl) (.tmp 6) Ty.ag_voxel_api_Point rfl (litEv (by kernel_rfl))) rfl (by decide) ?_
  refine litVal (v := .agg (pcs b).toArray) rfl (wn rfl) (gLoadAg (vs := pcs b) (k := 0) 5 hm104 rfl (by kernel_rfl) (by kernel_rfl) (.tmp 7) Ty.ag_voxel_api_Point rfl (litEv (by kernel_rfl))) rfl (by decide) ?_
  refine plCall (i := 5) 16 [.iface 39 (.pointer (some ⟨g44, 0, none⟩)), .slice A2 T.length c2, .agg (pcs a).toArray, .agg (pcs b).toArray] [] [] rfl (by kernel_rfl) (wn rfl) rfl (litEv (by kernel_rfl)) (litArgs (by kernel_rfl)) (by have h := first_any (M := [.arr g2 36 (gcs g A c), .arr g5 23 (pcs a), .arr g8 23 (pcs b)]) g hv T A c A2 c2 g44 last105 a b hm104; rw [firstH_some hck hfs, firstE_some hck hfs] at h; exact h) ?_
  rintro e w123 ⟨last125, rfl, hm124, _⟩
  clear hm104
  refine ⟨_, rfl, ?_⟩
  refine qPut rfl (by decide) ?_
  refine litK (v := .tuple #[.agg (hcs q (befOf (walk a b) a k) (k : Int)).toArray, .int .i64 0]) rfl rfl (by kernel_rfl) rfl (by decide) ?_
  refine litK (v := .agg (hcs q (befOf (walk a b) a k) (k : Int)).toArray) rfl rfl (by kernel_rfl) rfl (by decide) ?_
  refine litK (v := .int .i64 0) rfl rfl (by kernel_rfl) rfl (by decide) ?_
  refine plAlloc (z := [.int .i64 0, .int .i64 0, .int .i64 0, .int .i64 0, .int .i64 0, .int .i64 0, .int .i64 0]) Ty.ag_voxel_ray_Hit hm124 (i := 9) rfl (wn rfl) rfl ?_
  intro g126 w128 hm127
  clear hm124
  try simp only [List.cons_append, List.nil_append, List.set_cons_succ, List.set_cons_zero] at hm127
  refine qPut rfl (by decide) ?_
  refine plStore 6 Ty.ag_voxel_ray_Hit hm127 rfl (i := 10) (cs := hcs q (befOf (walk a b) a k) (k : Int)) rfl (wn rfl) rfl (litEv (by kernel_rfl)) (litEv (by kernel_rfl)) rfl rfl (by kernel_rfl) ?_
  intro w130 hm129
  clear hm127
  try simp only [List.cons_append, List.nil_append, List.set_cons_succ, List.set_cons_zero] at hm129
  refine qNone rfl ?_
  refine litK (v := .int .i64 0) rfl rfl (by kernel_rfl) rfl (by decide) ?_
  refine plDone (by decide) ?_
  refine then_normal (hK106 _ _ ?_)
  refine wpPrune [(6, .pointer (some ⟨g5, 0, none⟩)), (7, .pointer (some ⟨g8, 0, none⟩)), (8, .bool false), (9, .bool true), (11, .bool true), (12, .int .i64 0), (13, .bool true), (14, .int .i64 0), (15, .pointer (some ⟨g126, 0, none⟩)), (16, .int .i64 0)] ⟨litGet (by kernel_rfl), ⟨litGet (by kernel_rfl), ⟨litGet (by kernel_rfl), ⟨litGet (by kernel_rfl), ⟨litGet (by kernel_rfl), ⟨litGet (by kernel_rfl), ⟨litGet (by kernel_rfl), ⟨litGet (by kernel_rfl), ⟨litGet (by kernel_rfl), ⟨litGet (by kernel_rfl), trivial⟩⟩⟩⟩⟩⟩⟩⟩⟩⟩ (fun X131 => ?_)
  refine wp_seq_k fun K132 hK132 => ?_
  refine wp_seq_k fun K133 hK133 => ?_
  refine plStart ?_
  refine litK (v := .int .i64 0) rfl rfl (by kernel_rfl) rfl (by decide) ?_
  refine litK (v := .bool false) rfl rfl (by kernel_rfl) rfl (by decide) ?_
  refine litK (v := .bool false) rfl rfl (by kernel_rfl) rfl (by decide) ?_
  refine litVal (v := .int .i64 0) rfl (wgY rfl rfl rfl (by decide) (by kernel_rfl)) (litRun (by kernel_rfl)) rfl (by decide) ?_
  refine litVal (v := .bool false) rfl (wgY rfl rfl rfl (by decide) (by kernel_rfl)) (litRun (by kernel_rfl)) rfl (by decide) ?_
  refine litK (v := .bool false) rfl rfl (by kernel_rfl) rfl (by decide) ?_
  refine litK (v := .bool false) rfl rfl (by kernel_rfl) rfl (by decide) ?_
  refine litVal (v := .bool true) rfl (wgY rfl rfl rfl (by decide) (by kernel_rfl)) (litRun (by kernel_rfl)) rfl (by decide) ?_
  refine litVal (v := .bool true) rfl (wgY rfl rfl rfl (by decide) (by kernel_rfl)) (litRun (by kernel_rfl)) rfl (by decide) ?_
  refine litVal (v := .bool false) rfl (wgY rfl rfl rfl (by decide) (by kernel_rfl)) (litRun (by kernel_rfl)) rfl (by decide) ?_
  refine litK (v := .bool false) rfl rfl (by kernel_rfl) rfl (by decide) ?_
  refine litK (v := .bool false) rfl rfl (by kernel_rfl) rfl (by decide) ?_
  refine litVal (v := .int .i64 0) rfl (wgY rfl rfl rfl (by decide) (by kernel_rfl)) (litRun (by kernel_rfl)) rfl (by decide) ?_
  refine litVal (v := .bool false) rfl (wgY rfl rfl rfl (by decide) (by kernel_rfl)) (litRun (by kernel_rfl)) rfl (by decide) ?_
  refine litVal (v := .bool false) rfl (wgY rfl rfl rfl (by decide) (by kernel_rfl)) (litRun (by kernel_rfl)) rfl (by decide) ?_
  refine plSkip (i := 15) rfl (wgN rfl rfl rfl (by decide) (by kernel_rfl)) ?_
  refine qPut rfl (by decide) ?_
  refine plSkip (i := 16) rfl (wgN rfl rfl rfl (by decide) (by kernel_rfl)) ?_
  refine qPut rfl (by decide) ?_
  refine litVal (v := .bool false) rfl (wgY rfl rfl rfl (by decide) (by kernel_rfl)) (litRun (by kernel_rfl)) rfl (by decide) ?_
  refine litK (v := .bool false) rfl rfl (by kernel_rfl) rfl (by decide) ?_
  refine plDone (by decide) ?_
  refine then_normal (hK133 _ _ ?_)
  refine wpPrune [(6, .pointer (some ⟨g5, 0, none⟩)), (7, .pointer (some ⟨g8, 0, none⟩)), (8, .bool false), (9, .bool true), (11, .bool true), (15, .pointer (some ⟨g126, 0, none⟩)), (16, .int .i64 0), (98, .bool false)] ⟨litGet (by kernel_rfl), ⟨litGet (by kernel_rfl), ⟨litGet (by kernel_rfl), ⟨litGet (by kernel_rfl), ⟨litGet (by kernel_rfl), ⟨litGet (by kernel_rfl), ⟨litGet (by kernel_rfl), ⟨litGet (by kernel_rfl), trivial⟩⟩⟩⟩⟩⟩⟩⟩ (fun X134 => ?_)
  refine wp_cond_false (litEv (by kernel_rfl)) ?_
  refine wp_skip ?_
  refine then_normal (hK132 _ _ ?_)
  refine wp_seq_k fun K135 hK135 => ?_
  refine plStart ?_
  refine litK (v := .int .i64 0) rfl rfl (by kernel_rfl) rfl (by decide) ?_
  refine litK (v := .bool true) rfl rfl (by kernel_rfl) rfl (by decide) ?_
  refine litK (v := .bool true) rfl rfl (by kernel_rfl) rfl (by decide) ?_
  refine litVal (v := .pointer (some ⟨g126, 0, none⟩)) rfl (wgY rfl rfl rfl (by decide) (by kernel_rfl)) (litRun (by kernel_rfl)) rfl (by decide) ?_
  refine litVal (v := .agg (pcs q).toArray) rfl (wgY rfl rfl rfl (by decide) (by kernel_rfl)) (gLoadAg (vs := pcs q) (k := 0) 6 hm129 rfl (by kernel_rfl) (by kernel_rfl) (.tmp 102) Ty.ag_voxel_api_Point rfl (litEv (by kernel_rfl))) rfl (by decide) ?_
  refine litVal (v := .agg (pcs a).toArray) rfl (wgY rfl rfl rfl (by decide) (by kernel_rfl)) (gLoadAg (vs := pcs a) (k := 0) 4 hm129 rfl (by kernel_rfl) (by kernel_rfl) (.tmp 6) Ty.ag_voxel_api_Point rfl (litEv (by kernel_rfl))) rfl (by decide) ?_
  by_cases h136 : q = a
  · refine litVal (v := .bool false) rfl (wgY rfl rfl rfl (by decide) (by kernel_rfl)) (boolTo (by rw [decide_eq_true h136]; rfl) (neqPtRun (.tmp 103) (.tmp 104) q a (by kernel_rfl) (by kernel_rfl) (by kernel_rfl) (by kernel_rfl) rfl (litEv (by kernel_rfl)) (litEv (by kernel_rfl)))) rfl (by decide) ?_
    refine litK (v := .bool false) rfl rfl (by kernel_rfl) rfl (by decide) ?_
    refine litK (v := .bool false) rfl rfl (by kernel_rfl) rfl (by decide) ?_
    refine plSkip (i := 9) rfl (wgN rfl rfl rfl (by decide) (by kernel_rfl)) ?_
    refine qPut rfl (by decide) ?_
    refine plSkip (i := 10) rfl (wgN rfl rfl rfl (by decide) (by kernel_rfl)) ?_
    refine qPut rfl (by decide) ?_
    refine plSkip (i := 11) rfl (wgN rfl rfl rfl (by decide) (by kernel_rfl)) ?_
    refine qPut rfl (by decide) ?_
    refine plSkip (i := 12) rfl (wgN rfl rfl rfl (by decide) (by kernel_rfl)) ?_
    refine qPut rfl (by decide) ?_
    refine litK (v := .bool false) rfl rfl (by kernel_rfl) rfl (by decide) ?_
    refine litK (v := .bool false) rfl rfl (by kernel_rfl) rfl (by decide) ?_
    refine plDone (by decide) ?_
    refine then_normal (hK135 _ _ ?_)
    refine wpPrune [(8, .bool false), (9, .bool true), (11, .bool true), (16, .int .i64 0), (17, .bool false)] ⟨litGet (by kernel_rfl), ⟨litGet (by kernel_rfl), ⟨litGet (by kernel_rfl), ⟨litGet (by kernel_rfl), ⟨litGet (by kernel_rfl), trivial⟩⟩⟩⟩⟩ (fun X137 => ?_)
    refine wp_seq_k fun K138 hK138 => ?_
    refine plStart ?_
    refine litK (v := .bool true) rfl rfl (by kernel_rfl) rfl (by decide) ?_
    refine litK (v := .bool true) rfl rfl (by kernel_rfl) rfl (by decide) ?_
    refine litVal (v := .bool false) rfl (wgY rfl rfl rfl (by decide) (by kernel_rfl)) (litRun (by kernel_rfl)) rfl (by decide) ?_
    refine litVal (v := .bool true) rfl (wgY rfl rfl rfl (by decide) (by kernel_rfl)) (litRun (by kernel_rfl)) rfl (by decide) ?_
    refine litVal (v := .bool true) rfl (wgY rfl rfl rfl (by decide) (by kernel_rfl)) (litRun (by kernel_rfl)) rfl (by decide) ?_
    refine plSkip (i := 5) rfl (wgN rfl rfl rfl (by decide) (by kernel_rfl)) ?_
    refine qPut rfl (by decide) ?_
    refine plSkip (i := 6) rfl (wgN rfl rfl rfl (by decide) (by kernel_rfl)) ?_
    refine qPut rfl (by decide) ?_
    refine litVal (v := .bool true) rfl (wgY rfl rfl rfl (by decide) (by kernel_rfl)) (litRun (by kernel_rfl)) rfl (by decide) ?_
    refine litK (v := .bool true) rfl rfl (by kernel_rfl) rfl (by decide) ?_
    refine litK (v := .bool true) rfl rfl (by kernel_rfl) rfl (by decide) ?_
    refine litVal (v := .int .i64 0) rfl (wgY rfl rfl rfl (by decide) (by kernel_rfl)) (litRun (by kernel_rfl)) rfl (by decide) ?_
    refine litVal (v := .bool true) rfl (wgY rfl rfl rfl (by decide) (by kernel_rfl)) (litRun (by kernel_rfl)) rfl (by decide) ?_
    refine litVal (v := .bool true) rfl (wgY rfl rfl rfl (by decide) (by kernel_rfl)) (litRun (by kernel_rfl)) rfl (by decide) ?_
    refine plSkip (i := 13) rfl (wgN rfl rfl rfl (by decide) (by kernel_rfl)) ?_
    refine qPut rfl (by decide) ?_
    refine litVal (v := .bool true) rfl (wgY rfl rfl rfl (by decide) (by kernel_rfl)) (litRun (by kernel_rfl)) rfl (by decide) ?_
    refine litK (v := .bool true) rfl rfl (by kernel_rfl) rfl (by decide) ?_
    refine litK (v := .bool true) rfl rfl (by kernel_rfl) rfl (by decide) ?_
    refine plDone (by decide) ?_
    refine then_normal (hK138 _ _ ?_)
    refine wpPrune [(8, .bool true)] ⟨litGet (by kernel_rfl), trivial⟩ (fun X139 => ?_)
    refine wp_ret ?_
    refine bodyPost_ret (v := .bool true) (gRes1 rfl (gResTmp (t := 8) (v := .bool true) (litGet (by kernel_rfl)))) rfl ?_
    exact ⟨rfl, hm129.bel⟩
  refine litVal (v := .bool true) rfl (wgY rfl rfl rfl (by decide) (by kernel_rfl)) (boolTo (by rw [decide_eq_false h136]; rfl) (neqPtRun (.tmp 103) (.tmp 104) q a (by kernel_rfl) (by kernel_rfl) (by kernel_rfl) (by kernel_rfl) rfl (litEv (by kernel_rfl)) (litEv (by kernel_rfl)))) rfl (by decide) ?_
  refine litK (v := .bool true) rfl rfl (by kernel_rfl) rfl (by decide) ?_
  refine litK (v := .bool true) rfl rfl (by kernel_rfl) rfl (by decide) ?_
  refine litVal (v := .pointer (some ⟨g126, 0, none⟩)) rfl (wgY rfl rfl rfl (by decide) (by kernel_rfl)) (litRun (by kernel_rfl)) rfl (by decide) ?_
  refine litVal (v := .agg (pcs q).toArray) rfl (wgY rfl rfl rfl (by decide) (by kernel_rfl)) (gLoadAg (vs := pcs q) (k := 0) 6 hm129 rfl (by kernel_rfl) (by kernel_rfl) (.tmp 108) Ty.ag_voxel_api_Point rfl (litEv (by kernel_rfl))) rfl (by decide) ?_
  refine litVal (v := .agg (pcs b).toArray) rfl (wgY rfl rfl rfl (by decide) (by kernel_rfl)) (gLoadAg (vs := pcs b) (k := 0) 5 hm129 rfl (by kernel_rfl) (by kernel_rfl) (.tmp 7) Ty.ag_voxel_api_Point rfl (litEv (by kernel_rfl))) rfl (by decide) ?_
  by_cases h140 : q = b
  · refine litVal (v := .bool false) rfl (wgY rfl rfl rfl (by decide) (by kernel_rfl)) (boolTo (by rw [decide_eq_true h140]; rfl) (neqPtRun (.tmp 109) (.tmp 110) q b (by kernel_rfl) (by kernel_rfl) (by kernel_rfl) (by kernel_rfl) rfl (litEv (by kernel_rfl)) (litEv (by kernel_rfl)))) rfl (by decide) ?_
    refine litK (v := .bool false) rfl rfl (by kernel_rfl) rfl (by decide) ?_
    refine litK (v := .bool false) rfl rfl (by kernel_rfl) rfl (by decide) ?_
    refine plDone (by decide) ?_
    refine then_normal (hK135 _ _ ?_)
    refine wpPrune [(8, .bool false), (9, .bool true), (11, .bool true), (16, .int .i64 0), (17, .bool false)] ⟨litGet (by kernel_rfl), ⟨litGet (by kernel_rfl), ⟨litGet (by kernel_rfl), ⟨litGet (by kernel_rfl), ⟨litGet (by kernel_rfl), trivial⟩⟩⟩⟩⟩ (fun X141 => ?_)
    refine wp_seq_k fun K142 hK142 => ?_
    refine plStart ?_
    refine litK (v := .bool true) rfl rfl (by kernel_rfl) rfl (by decide) ?_
    refine litK (v := .bool true) rfl rfl (by kernel_rfl) rfl (by decide) ?_
    refine litVal (v := .bool false) rfl (wgY rfl rfl rfl (by decide) (by kernel_rfl)) (litRun (by kernel_rfl)) rfl (by decide) ?_
    refine litVal (v := .bool true) rfl (wgY rfl rfl rfl (by decide) (by kernel_rfl)) (litRun (by kernel_rfl)) rfl (by decide) ?_
    refine litVal (v := .bool true) rfl (wgY rfl rfl rfl (by decide) (by kernel_rfl)) (litRun (by kernel_rfl)) rfl (by decide) ?_
    refine plSkip (i := 5) rfl (wgN rfl rfl rfl (by decide) (by kernel_rfl)) ?_
    refine qPut rfl (by decide) ?_
    refine plSkip (i := 6) rfl (wgN rfl rfl rfl (by decide) (by kernel_rfl)) ?_
    refine qPut rfl (by decide) ?_
    refine litVal (v := .bool true) rfl (wgY rfl rfl rfl (by decide) (by kernel_rfl)) (litRun (by kernel_rfl)) rfl (by decide) ?_
    refine litK (v := .bool true) rfl rfl (by kernel_rfl) rfl (by decide) ?_
    refine litK (v := .bool true) rfl rfl (by kernel_rfl) rfl (by decide) ?_
    refine litVal (v := .int .i64 0) rfl (wgY rfl rfl rfl (by decide) (by kernel_rfl)) (litRun (by kernel_rfl)) rfl (by decide) ?_
    refine litVal (v := .bool true) rfl (wgY rfl rfl rfl (by decide) (by kernel_rfl)) (litRun (by kernel_rfl)) rfl (by decide) ?_
    refine litVal (v := .bool true) rfl (wgY rfl rfl rfl (by decide) (by kernel_rfl)) (litRun (by kernel_rfl)) rfl (by decide) ?_
    refine plSkip (i := 13) rfl (wgN rfl rfl rfl (by decide) (by kernel_rfl)) ?_
    refine qPut rfl (by decide) ?_
    refine litVal (v := .bool true) rfl (wgY rfl rfl rfl (by decide) (by kernel_rfl)) (litRun (by kernel_rfl)) rfl (by decide) ?_
    refine litK (v := .bool true) rfl rfl (by kernel_rfl) rfl (by decide) ?_
    refine litK (v := .bool true) rfl rfl (by kernel_rfl) rfl (by decide) ?_
    refine plDone (by decide) ?_
    refine then_normal (hK142 _ _ ?_)
    refine wpPrune [(8, .bool true)] ⟨litGet (by kernel_rfl), trivial⟩ (fun X143 => ?_)
    refine wp_ret ?_
    refine bodyPost_ret (v := .bool true) (gRes1 rfl (gResTmp (t := 8) (v := .bool true) (litGet (by kernel_rfl)))) rfl ?_
    exact ⟨rfl, hm129.bel⟩
  refine litVal (v := .bool true) rfl (wgY rfl rfl rfl (by decide) (by kernel_rfl)) (boolTo (by rw [decide_eq_false h140]; rfl) (neqPtRun (.tmp 109) (.tmp 110) q b (by kernel_rfl) (by kernel_rfl) (by kernel_rfl) (by kernel_rfl) rfl (litEv (by kernel_rfl)) (litEv (by kernel_rfl)))) rfl (by decide) ?_
  refine litK (v := .bool true) rfl rfl (by kernel_rfl) rfl (by decide) ?_
  refine litK (v := .bool true) rfl rfl (by kernel_rfl) rfl (by decide) ?_
  refine plDone (by decide) ?_
  refine then_normal (hK135 _ _ ?_)
  refine wpPrune [(8, .bool false), (9, .bool true), (11, .bool true), (16, .int .i64 0), (17, .bool true)] ⟨litGet (by kernel_rfl), ⟨litGet (by kernel_rfl), ⟨litGet (by kernel_rfl), ⟨litGet (by kernel_rfl), ⟨litGet (by kernel_rfl), trivial⟩⟩⟩⟩⟩ (fun X144 => ?_)
  refine wp_seq_k fun K145 hK145 => ?_
  refine plStart ?_
  refine litK (v := .bool true) rfl rfl (by kernel_rfl) rfl (by decide) ?_
  refine litK (v := .bool true) rfl rfl (by kernel_rfl) rfl (by decide) ?_
  refine litVal (v := .bool true) rfl (wgY rfl rfl rfl (by decide) (by kernel_rfl)) (litRun (by kernel_rfl)) rfl (by decide) ?_
  refine litVal (v := .bool false) rfl (wgY rfl rfl rfl (by decide) (by kernel_rfl)) (litRun (by kernel_rfl)) rfl (by decide) ?_
  refine litVal (v := .bool false) rfl (wgY rfl rfl rfl (by decide) (by kernel_rfl)) (litRun (by kernel_rfl)) rfl (by decide) ?_
  refine litVal (v := .bool true) rfl (wgY rfl rfl rfl (by decide) (by kernel_rfl)) (litRun (by kernel_rfl)) rfl (by decide) ?_
  refine litVal (v := .bool false) rfl (wgY rfl rfl rfl (by decide) (by kernel_rfl)) (litRun (by kernel_rfl)) rfl (by decide) ?_
  refine litVal (v := .bool false) rfl (wgY rfl rfl rfl (by decide) (by kernel_rfl)) (litRun (by kernel_rfl)) rfl (by decide) ?_
  refine litK (v := .bool false) rfl rfl (by kernel_rfl) rfl (by decide) ?_
  refine litK (v := .bool false) rfl rfl (by kernel_rfl) rfl (by decide) ?_
  refine plSkip (i := 10) rfl (wgN rfl rfl rfl (by decide) (by kernel_rfl)) ?_
  refine qPut rfl (by decide) ?_
  refine plSkip (i := 11) rfl (wgN rfl rfl rfl (by decide) (by kernel_rfl)) ?_
  refine qPut rfl (by decide) ?_
  refine plSkip (i := 12) rfl (wgN rfl rfl rfl (by decide) (by kernel_rfl)) ?_
  refine qPut rfl (by decide) ?_
  refine plSkip (i := 13) rfl (wgU rfl rfl rfl (by decide) (by kernel_rfl)) ?_
  refine qPut rfl (by decide) ?_
  refine plSkip (i := 14) rfl (wgN rfl rfl rfl (by decide) (by kernel_rfl)) ?_
  refine qPut rfl (by decide) ?_
  refine litK (v := .bool false) rfl rfl (by kernel_rfl) rfl (by decide) ?_
  refine litK (v := .bool false) rfl rfl (by kernel_rfl) rfl (by decide) ?_
  refine plDone (by decide) ?_
  refine then_normal (hK145 _ _ ?_)
  refine wpPrune [(8, .bool false)] ⟨litGet (by kernel_rfl), trivial⟩ (fun X146 => ?_)
  refine wp_ret ?_
  refine bodyPost_ret (v := .bool false) (gRes1 rfl (gResTmp (t := 8) (v := .bool false) (litGet (by kernel_rfl)))) rfl ?_
  exact absurd (h54.symm.trans (vis_blocked hck hfs h136 h140)) (by decide)
end Go.Proofs.Ytopdcdjmiepdfaa
