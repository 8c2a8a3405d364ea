/-
  RayFirstMatchesSpec: First and Visible return what the specification defines, and First asks for no cell behind the one that it returns.
-/
import Derived.Test.YtopdcdjmiepdfaaRJ
import Derived.Test.YtopdcdjmiepdfaaRH
namespace Go.Proofs.Ytopdcdjmiepdfaa
open Go.RowKit
set_option linter.unusedVariables false
set_option linter.unusedSimpArgs false

set_option maxRecDepth 100000 in
set_option maxHeartbeats 4000000 in
theorem walk_RayFirstMatchesSpec (g : Gr) (A : Option Addr) (c : Nat) (T : List Mat) (A2 : Option Addr) (c2 : Nat) (a b : Pt) (w : World) (hrd : Rd w w.heap.size 1 A g.cells.length c (ics g.cells)) (htb : Rd w w.heap.size 8 A2 T.length c2 (mts T)) (_b0_x : -9223372036854775808 ≤ a.x ∧ a.x ≤ 9223372036854775807) (_b0_y : -9223372036854775808 ≤ a.y ∧ a.y ≤ 9223372036854775807) (_b0_z : -9223372036854775808 ≤ a.z ∧ a.z ≤ 9223372036854775807) (_b1_x : -9223372036854775808 ≤ b.x ∧ b.x ≤ 9223372036854775807) (_b1_y : -9223372036854775808 ≤ b.y ∧ b.y ≤ 9223372036854775807) (_b1_z : -9223372036854775808 ≤ b.z ∧ b.z ≤ 9223372036854775807) : Calls Try.prog 4 #[.agg (gcs g A c).toArray, .slice A2 T.length c2, .agg (pcs a).toArray, .agg (pcs b).toArray] w (RetB w true) := by
  have hm0 := memRd2 hrd htb
  go_enter Try.func4, Try.ntmps4
  refine litStart 128 [(0, .agg (gcs g A c).toArray), (1, .slice A2 T.length c2), (2, .agg (pcs a).toArray), (3, .agg (pcs b).toArray)] (by kernel_rfl) (fun X0 => ?_)
  refine wp_seq_k fun K1 hK1 => ?_
  refine plStart ?_
  refine plBox hm0 (cs := gcs g A c) (i := 0) rfl (wn rfl) rfl (litEv (by kernel_rfl)) ?_
  intro g2 w4 hm3
  clear hm0
  try simp only [List.cons_append, List.nil_append, List.set_cons_succ, List.set_cons_zero] at hm3
  refine qP rfl ?_
  refine plBox hm3 (cs := pcs a) (i := 1) rfl (wn rfl) rfl (litEv (by kernel_rfl)) ?_
  intro g5 w7 hm6
  clear hm3
  try simp only [List.cons_append, List.nil_append, List.set_cons_succ, List.set_cons_zero] at hm6
  refine qP rfl ?_
  refine plBox hm6 (cs := pcs b) (i := 2) rfl (wn rfl) rfl (litEv (by kernel_rfl)) ?_
  intro g8 w10 hm9
  clear hm6
  try simp only [List.cons_append, List.nil_append, List.set_cons_succ, List.set_cons_zero] at hm9
  refine qP rfl ?_
  refine lk (v := .bool false) rfl rfl rfl ?_
  refine plD ?_
  refine then_normal (hK1 _ _ ?_)
  refine wp_seq_k fun K11 hK11 => ?_
  refine plStart ?_
  refine plCall (i := 0) 8 [] [] [] rfl (by kernel_rfl) (wn rfl) rfl (litEv (by kernel_rfl)) (litArgs (by kernel_rfl)) (sanity_any _) ?_
  rintro e w12 ⟨rfl, hbz⟩
  have hm13 := hm9.below hbz
  clear hbz hm9
  refine ⟨_, rfl, ?_⟩
  refine qP rfl ?_
  refine lk (v := .bool true) rfl rfl rfl ?_
  refine plD ?_
  refine then_normal (hK11 _ _ ?_)
  refine wp_seq_k fun K14 hK14 => ?_
  refine wp_seq_k fun K15 hK15 => ?_
  refine plStart ?_
  refine litVal (v := .agg (pcs a).toArray) rfl (wn rfl) (gLoadAg (vs := pcs a) (k := 0) 3 hm13 rfl (by kernel_rfl) (by kernel_rfl) (.tmp 6) Ty.ag_voxel_api_Point rfl (litEv (by kernel_rfl))) rfl (by decide) ?_
  refine litVal (v := .agg (pcs b).toArray) rfl (wn rfl) (gLoadAg (vs := pcs b) (k := 0) 4 hm13 rfl (by kernel_rfl) (by kernel_rfl) (.tmp 7) Ty.ag_voxel_api_Point rfl (litEv (by kernel_rfl))) rfl (by decide) ?_
  refine plCall (i := 2) 9 [.agg (pcs a).toArray, .agg (pcs b).toArray] [] [] rfl (by kernel_rfl) (wn rfl) rfl (litEv (by kernel_rfl)) (litArgs (by kernel_rfl)) (short_any a b _) ?_
  rintro e w16 ⟨rfl, hbz⟩
  have hm17 := hm13.below hbz
  clear hbz hm13
  refine ⟨_, rfl, ?_⟩
  refine qP rfl ?_
  rcases bool_or (decide (ckE a b = 0 → a.dist b ≤ 12)) with h18 | h18
  · rw [h18]
    refine lk (v := .bool true) rfl rfl rfl ?_
    refine lk (v := .bool true) rfl rfl rfl ?_
    refine plSkip (i := 5) rfl (wgN rfl rfl rfl (by decide) (by kernel_rfl)) ?_
    refine qP rfl ?_
    refine plSkip (i := 6) rfl (wgN rfl rfl rfl (by decide) (by kernel_rfl)) ?_
    refine qP rfl ?_
    refine plSkip (i := 7) rfl (wgN rfl rfl rfl (by decide) (by kernel_rfl)) ?_
    refine qP rfl ?_
    refine plSkip (i := 8) rfl (wgN rfl rfl rfl (by decide) (by kernel_rfl)) ?_
    refine qP rfl ?_
    refine lk (v := .bool true) rfl rfl rfl ?_
    refine lk (v := .bool true) rfl rfl rfl ?_
    refine plSkip (i := 11) rfl (wgN rfl rfl rfl (by decide) (by kernel_rfl)) ?_
    refine qP rfl ?_
    refine plSkip (i := 12) rfl (wgN rfl rfl rfl (by decide) (by kernel_rfl)) ?_
    refine qP rfl ?_
    refine plSkip (i := 13) rfl (wgN rfl rfl rfl (by decide) (by kernel_rfl)) ?_
    refine qP rfl ?_
    refine lk (v := .bool true) rfl rfl rfl ?_
    refine lk (v := .bool true) rfl rfl rfl ?_
    refine plSkip (i := 16) rfl (wgN rfl rfl rfl (by decide) (by kernel_rfl)) ?_
    refine qP rfl ?_
    refine plSkip (i := 17) rfl (wgN rfl rfl rfl (by decide) (by kernel_rfl)) ?_
    refine qP rfl ?_
    refine plSkip (i := 18) rfl (wgN rfl rfl rfl (by decide) (by kernel_rfl)) ?_
    refine qP rfl ?_
    refine lk (v := .bool true) rfl rfl rfl ?_
    refine plD ?_
    refine then_normal (hK15 _ _ ?_)
    refine wpPrune [(1, .slice A2 T.length c2), (4, .pointer (some ⟨g2, 0, none⟩)), (6, .pointer (some ⟨g5, 0, none⟩)), (7, .pointer (some ⟨g8, 0, none⟩)), (8, .bool false), (9, .bool true), (40, .bool true)] ⟨litGet (by kernel_rfl), ⟨litGet (by kernel_rfl), ⟨litGet (by kernel_rfl), ⟨litGet (by kernel_rfl), ⟨litGet (by kernel_rfl), ⟨litGet (by kernel_rfl), ⟨litGet (by kernel_rfl), trivial⟩⟩⟩⟩⟩⟩⟩ (fun X19 => ?_)
    refine wp_cond_true (litEv (by kernel_rfl)) ?_
    refine wp_seq_k fun K20 hK20 => ?_
    refine plStart ?_
    refine lk (v := .bool true) rfl rfl rfl ?_
    refine lk (v := .bool true) rfl rfl rfl ?_
    refine plD ?_
    refine then_normal (hK20 _ _ ?_)
    refine wp_ret ?_
    refine then_ret ?_
    refine bodyPost_ret (v := .bool true) (gRes1 rfl (gResTmp (t := 8) (v := .bool true) (litGet (by kernel_rfl)))) rfl ?_
    exact ⟨rfl, hm17.bel⟩
  rw [h18]
  refine lk (v := .bool false) rfl rfl rfl ?_
  refine lk (v := .bool false) rfl rfl rfl ?_
  refine litVal (v := .pointer (some ⟨g2, 6, none⟩)) rfl (wgY rfl rfl rfl (by decide) (by kernel_rfl)) (litRun (by kernel_rfl)) rfl (by decide) ?_
  refine litVal (v := .slice A g.cells.length c) rfl (wgY rfl rfl rfl (by decide) (by kernel_rfl)) (gLoad (v := .slice A g.cells.length c) (k := 6) 2 hm17 rfl (by kernel_rfl) (.tmp 26) (by kernel_rfl) rfl (litEv (by kernel_rfl))) rfl (by decide) ?_
  refine litVal (v := .int .i64 (g.cells.length : Int)) rfl (wgY rfl rfl rfl (by decide) (by kernel_rfl)) (lenSlRun (A := A) (n := g.cells.length) (c := c) (.tmp 27) Ty.und_L_int rfl (litEv (by kernel_rfl))) rfl (by decide) ?_
  by_cases h21 : 1000 < (g.cells.length : Int)
  · refine litVal (v := .bool true) rfl (wgY rfl rfl rfl (by decide) (by kernel_rfl)) (boolTo (decide_eq_true h21) (gtrRun (A := (g.cells.length : Int)) (B := 1000) (.tmp 28) (.const (.int .i64 1000)) rfl (litEv (by kernel_rfl)) (litEv (by kernel_rfl)))) rfl (by decide) ?_
    refine lk (v := .bool true) rfl rfl rfl ?_
    refine lk (v := .bool true) rfl rfl rfl ?_
    refine plSkip (i := 11) rfl (wgN rfl rfl rfl (by decide) (by kernel_rfl)) ?_
    refine qP rfl ?_
    refine plSkip (i := 12) rfl (wgN rfl rfl rfl (by decide) (by kernel_rfl)) ?_
    refine qP rfl ?_
    refine plSkip (i := 13) rfl (wgN rfl rfl rfl (by decide) (by kernel_rfl)) ?_
    refine qP rfl ?_
    refine lk (v := .bool true) rfl rfl rfl ?_
    refine lk (v := .bool true) rfl rfl rfl ?_
    refine plSkip (i := 16) rfl (wgN rfl rfl rfl (by decide) (by kernel_rfl)) ?_
    refine qP rfl ?_
    refine plSkip (i := 17) rfl (wgN rfl rfl rfl (by decide) (by kernel_rfl)) ?_
    refine qP rfl ?_
    refine plSkip (i := 18) rfl (wgN rfl rfl rfl (by decide) (by kernel_rfl)) ?_
    refine qP rfl ?_
    refine lk (v := .bool true) rfl rfl rfl ?_
    refine plD ?_
    refine then_normal (hK15 _ _ ?_)
    refine wpPrune [(1, .slice A2 T.length c2), (4, .pointer (some ⟨g2, 0, none⟩)), (6, .pointer (some ⟨g5, 0, none⟩)), (7, .pointer (some ⟨g8, 0, none⟩)), (8, .bool false), (9, .bool true), (40, .bool true)] ⟨litGet (by kernel_rfl), ⟨litGet (by kernel_rfl), ⟨litGet (by kernel_rfl), ⟨litGet (by kernel_rfl), ⟨litGet (by kernel_rfl), ⟨litGet (by kernel_rfl), ⟨litGet (by kernel_rfl), trivial⟩⟩⟩⟩⟩⟩⟩ (fun X22 => ?_)
    refine wp_cond_true (litEv (by kernel_rfl)) ?_
    refine wp_seq_k fun K23 hK23 => ?_
    refine plStart ?_
    refine lk (v := .bool true) rfl rfl rfl ?_
    refine lk (v := .bool true) rfl rfl rfl ?_
    refine plD ?_
    refine then_normal (hK23 _ _ ?_)
    refine wp_ret ?_
    refine then_ret ?_
    refine bodyPost_ret (v := .bool true) (gRes1 rfl (gResTmp (t := 8) (v := .bool true) (litGet (by kernel_rfl)))) rfl ?_
    exact ⟨rfl, hm17.bel⟩
  refine litVal (v := .bool false) rfl (wgY rfl rfl rfl (by decide) (by kernel_rfl)) (boolTo (decide_eq_false h21) (gtrRun (A := (g.cells.length : Int)) (B := 1000) (.tmp 28) (.const (.int .i64 1000)) rfl (litEv (by kernel_rfl)) (litEv (by kernel_rfl)))) rfl (by decide) ?_
  refine lk (v := .bool false) rfl rfl rfl ?_
  refine lk (v := .bool false) rfl rfl rfl ?_
  refine litVal (v := .agg (gcs g A c).toArray) rfl (wgY rfl rfl rfl (by decide) (by kernel_rfl)) (gLoadAg (vs := gcs g A c) (k := 0) 2 hm17 rfl (by kernel_rfl) (by kernel_rfl) (.tmp 4) Ty.ag_voxel_api_Grid rfl (litEv (by kernel_rfl))) rfl (by decide) ?_
  refine plCall (i := 12) 15 [.agg (gcs g A c).toArray] [] [] rfl (by kernel_rfl) (wgY rfl rfl rfl (by decide) (by kernel_rfl)) rfl (litEv (by kernel_rfl)) (litArgs (by kernel_rfl)) (valid_any g A c _ (hm17.rd 0 rfl)) ?_
  rintro e w24 ⟨rfl, hbz⟩
  have hm25 := hm17.below hbz
  clear hbz hm17
  refine ⟨_, rfl, ?_⟩
  refine qP rfl ?_
  rcases bool_or (decide g.Valid) with h26 | h26
  · rw [h26]
    refine litVal (v := .bool true) rfl (wgY rfl rfl rfl (by decide) (by kernel_rfl)) (litRun (by kernel_rfl)) rfl (by decide) ?_
    refine lk (v := .bool true) rfl rfl rfl ?_
    refine lk (v := .bool true) rfl rfl rfl ?_
    refine plSkip (i := 16) rfl (wgN rfl rfl rfl (by decide) (by kernel_rfl)) ?_
    refine qP rfl ?_
    refine plSkip (i := 17) rfl (wgN rfl rfl rfl (by decide) (by kernel_rfl)) ?_
    refine qP rfl ?_
    refine plSkip (i := 18) rfl (wgN rfl rfl rfl (by decide) (by kernel_rfl)) ?_
    refine qP rfl ?_
    refine lk (v := .bool true) rfl rfl rfl ?_
    refine plD ?_
    refine then_normal (hK15 _ _ ?_)
    refine wpPrune [(1, .slice A2 T.length c2), (4, .pointer (some ⟨g2, 0, none⟩)), (6, .pointer (some ⟨g5, 0, none⟩)), (7, .pointer (some ⟨g8, 0, none⟩)), (8, .bool false), (9, .bool true), (40, .bool true)] ⟨litGet (by kernel_rfl), ⟨litGet (by kernel_rfl), ⟨litGet (by kernel_rfl), ⟨litGet (by kernel_rfl), ⟨litGet (by kernel_rfl), ⟨litGet (by kernel_rfl), ⟨litGet (by kernel_rfl), trivial⟩⟩⟩⟩⟩⟩⟩ (fun X27 => ?_)
    refine wp_cond_true (litEv (by kernel_rfl)) ?_
    refine wp_seq_k fun K28 hK28 => ?_
    refine plStart ?_
    refine lk (v := .bool true) rfl rfl rfl ?_
    refine lk (v := .bool true) rfl rfl rfl ?_
    refine plD ?_
    refine then_normal (hK28 _ _ ?_)
    refine wp_ret ?_
    refine then_ret ?_
    refine bodyPost_ret (v := .bool true) (gRes1 rfl (gResTmp (t := 8) (v := .bool true) (litGet (by kernel_rfl)))) rfl ?_
    exact ⟨rfl, hm25.bel⟩
  rw [h26]
  refine litVal (v := .bool false) rfl (wgY rfl rfl rfl (by decide) (by kernel_rfl)) (litRun (by kernel_rfl)) rfl (by decide) ?_
  refine lk (v := .bool false) rfl rfl rfl ?_
  refine lk (v := .bool false) rfl rfl rfl ?_
  refine litVal (v := .slice A2 T.length c2) rfl (wgY rfl rfl rfl (by decide) (by kernel_rfl)) (litRun (by kernel_rfl)) rfl (by decide) ?_
  refine litVal (v := .int .i64 (T.length : Int)) rfl (wgY rfl rfl rfl (by decide) (by kernel_rfl)) (lenSlRun (A := A2) (n := T.length) (c := c2) (.tmp 37) Ty.und_L_api_Material rfl (litEv (by kernel_rfl))) rfl (by decide) ?_
  by_cases h29 : 300 < (T.length : Int)
  · refine litVal (v := .bool true) rfl (wgY rfl rfl rfl (by decide) (by kernel_rfl)) (boolTo (decide_eq_true h29) (gtrRun (A := (T.length : Int)) (B := 300) (.tmp 38) (.const (.int .i64 300)) rfl (litEv (by kernel_rfl)) (litEv (by kernel_rfl)))) rfl (by decide) ?_
    refine lk (v := .bool true) rfl rfl rfl ?_
    refine plD ?_
    refine then_normal (hK15 _ _ ?_)
    refine wpPrune [(1, .slice A2 T.length c2), (4, .pointer (some ⟨g2, 0, none⟩)), (6, .pointer (some ⟨g5, 0, none⟩)), (7, .pointer (some ⟨g8, 0, none⟩)), (8, .bool false), (9, .bool true), (40, .bool true)] ⟨litGet (by kernel_rfl), ⟨litGet (by kernel_rfl), ⟨litGet (by kernel_rfl), ⟨litGet (by kernel_rfl), ⟨litGet (by kernel_rfl), ⟨litGet (by kernel_rfl), ⟨litGet (by kernel_rfl), trivial⟩⟩⟩⟩⟩⟩⟩ (fun X30 => ?_)
    refine wp_cond_true (litEv (by kernel_rfl)) ?_
    refine wp_seq_k fun K31 hK31 => ?_
    refine plStart ?_
    refine lk (v := .bool true) rfl rfl rfl ?_
    refine lk (v := .bool true) rfl rfl rfl ?_
    refine plD ?_
    refine then_normal (hK31 _ _ ?_)
    refine wp_ret ?_
    refine then_ret ?_
    refine bodyPost_ret (v := .bool true) (gRes1 rfl (gResTmp (t := 8) (v := .bool true) (litGet (by kernel_rfl)))) rfl ?_
    exact ⟨rfl, hm25.bel⟩
  refine litVal (v := .bool false) rfl (wgY rfl rfl rfl (by decide) (by kernel_rfl)) (boolTo (decide_eq_false h29) (gtrRun (A := (T.length : Int)) (B := 300) (.tmp 38) (.const (.int .i64 300)) rfl (litEv (by kernel_rfl)) (litEv (by kernel_rfl)))) rfl (by decide) ?_
  refine lk (v := .bool false) rfl rfl rfl ?_
  refine plD ?_
  refine then_normal (hK15 _ _ ?_)
  refine wpPrune [(1, .slice A2 T.length c2), (4, .pointer (some ⟨g2, 0, none⟩)), (6, .pointer (some ⟨g5, 0, none⟩)), (7, .pointer (some ⟨g8, 0, none⟩)), (8, .bool false), (9, .bool true), (40, .bool false)] ⟨litGet (by kernel_rfl), ⟨litGet (by kernel_rfl), ⟨litGet (by kernel_rfl), ⟨litGet (by kernel_rfl), ⟨litGet (by kernel_rfl), ⟨litGet (by kernel_rfl), ⟨litGet (by kernel_rfl), trivial⟩⟩⟩⟩⟩⟩⟩ (fun X32 => ?_)
  refine wp_cond_false (litEv (by kernel_rfl)) ?_
  refine wp_skip ?_
  refine then_normal (hK14 _ _ ?_)
  refine wp_seq_k fun K33 hK33 => ?_
  refine plStart ?_
  have hv := of_decide_eq_true h26
  refine litVal (v := .agg (gcs g A c).toArray) rfl (wn rfl) (gLoadAg (vs := gcs g A c) (k := 0) 2 hm25 rfl (by kernel_rfl) (by kernel_rfl) (.tmp 4) Ty.ag_voxel_api_Grid rfl (litEv (by kernel_rfl))) rfl (by decide) ?_
  refine lk (v := .agg ([.int .i64 g.box.mn.x, .int .i64 g.box.mn.y, .int .i64 g.box.mn.z, .int .i64 g.box.mx.x, .int .i64 g.box.mx.y, .int .i64 g.box.mx.z, .slice A g.cells.length c, .int .i64 0, .int .i64 0, .int .i64 0]).toArray) rfl rfl rfl ?_
  refine plBox hm25 (cs := [.int .i64 g.box.mn.x, .int .i64 g.box.mn.y, .int .i64 g.box.mn.z, .int .i64 g.box.mx.x, .int .i64 g.box.mx.y, .int .i64 g.box.mx.z, .slice A g.cells.length c, .int .i64 0, .int .i64 0, .int .i64 0]) (i := 2) rfl (wn rfl) rfl (litEv (by kernel_rfl)) ?_
  intro g34 w36 hm35
  clear hm25
  try simp only [List.cons_append, List.nil_append, List.set_cons_succ, List.set_cons_zero] at hm35
  refine qP rfl ?_
  refine lk (v := .pointer (some ⟨g34, 0, none⟩)) rfl rfl rfl ?_
  refine plD ?_
  refine then_normal (hK33 _ _ ?_)
  refine wp_seq_k fun K37 hK37 => ?_
  refine plStart ?_
  by_cases hck : ckE a b = 0
  · rcases hfs : firstSol (solidAt g T) (walk a b) 0 with _ | ⟨k, q⟩
    · refine lk (v := .pointer (some ⟨g34, 0, none⟩)) rfl rfl rfl ?_
      refine lk (v := .iface 39 (.pointer (some ⟨g34, 0, none⟩))) rfl rfl rfl ?_
      refine lk (v := .slice A2 T.length c2) rfl rfl rfl ?_
      refine litVal (v := .agg (pcs a).toArray) rfl (wn rfl) (gLoadAg (vs := pcs a) (k := 0) 3 hm35 rfl (by kernel_rfl) (by kernel_rfl) (.tmp 6) Ty.ag_voxel_api_Point rfl (litEv (by kernel_rfl))) rfl (by decide) ?_
      refine litVal (v := .agg (pcs b).toArray) rfl (wn rfl) (gLoadAg (vs := pcs b) (k := 0) 4 hm35 rfl (by kernel_rfl) (by kernel_rfl) (.tmp 7) Ty.ag_voxel_api_Point rfl (litEv (by kernel_rfl))) rfl (by decide) ?_
      have hm38 : Mem w w36 [.rd A2 8 T.length c2 (mts T), .rd A 1 g.cells.length c (ics g.cells), .arr g2 36 (gcs g A c), .arr g5 23 (pcs a), .arr g8 23 (pcs b), .arr g34 41 ([.int .i64 g.box.mn.x, .int .i64 g.box.mn.y, .int .i64 g.box.mn.z, .int .i64 g.box.mx.x, .int .i64 g.box.mx.y, .int .i64 g.box.mx.z, .slice A g.cells.length c, .int .i64 0, .int .i64 0, .int .i64 0])] := Mem.front 1 hm35 rfl
      clear hm35
      have hm39 : Mem w w36 [.rd A 1 g.cells.length c (ics g.cells), .rd A2 8 T.length c2 (mts T), .arr g2 36 (gcs g A c), .arr g5 23 (pcs a), .arr g8 23 (pcs b), .arr g34 41 ([.int .i64 g.box.mn.x, .int .i64 g.box.mn.y, .int .i64 g.box.mn.z, .int .i64 g.box.mx.x, .int .i64 g.box.mx.y, .int .i64 g.box.mx.z, .slice A g.cells.length c, .int .i64 0, .int .i64 0, .int .i64 0])] := Mem.front 1 hm38 rfl
      clear hm38
      have hm40 : Mem w w36 [.arr g34 41 ([.int .i64 g.box.mn.x, .int .i64 g.box.mn.y, .int .i64 g.box.mn.z, .int .i64 g.box.mx.x, .int .i64 g.box.mx.y, .int .i64 g.box.mx.z, .slice A g.cells.length c, .int .i64 0, .int .i64 0, .int .i64 0]), .rd A 1 g.cells.length c (ics g.cells), .rd A2 8 T.length c2 (mts T), .arr g2 36 (gcs g A c), .arr g5 23 (pcs a), .arr g8 23 (pcs b)] := Mem.front 5 hm39 rfl
      clear hm39
      refine plCall (i := 5) 16 [.iface 39 (.pointer (some ⟨g34, 0, none⟩)), .slice A2 T.length c2, .agg (pcs a).toArray, .agg (pcs b).toArray] [] [] rfl (by kernel_rfl) (wn rfl) rfl (litEv (by kernel_rfl)) (litArgs (by kernel_rfl)) (by have h := first_any (M := [.arr g2 36 (gcs g A c), .arr g5 23 (pcs a), .arr g8 23 (pcs b)]) g hv T A c A2 c2 g34 p0 a b hm40; rw [firstH_none hck hfs, firstE_none hck hfs] at h; exact h) ?_
      rintro e w41 ⟨last43, rfl, hm42, hl44⟩
      clear hm40
      refine ⟨_, rfl, ?_⟩
      refine qP rfl ?_
      refine lk (v := .tuple #[.agg (hcs p0 p0 0).toArray, .int .i64 9]) rfl rfl rfl ?_
      refine lk (v := .agg (hcs p0 p0 0).toArray) rfl rfl rfl ?_
      refine lk (v := .int .i64 9) rfl rfl rfl ?_
      refine plAlloc (z := [.int .i64 0, .int .i64 0, .int .i64 0, .int .i64 0, .int .i64 0, .int .i64 0, .int .i64 0]) Ty.ag_voxel_ray_Hit hm42 (i := 9) rfl (wn rfl) rfl ?_
      intro g45 w47 hm46
      clear hm42
      try simp only [List.cons_append, List.nil_append, List.set_cons_succ, List.set_cons_zero] at hm46
      refine qP rfl ?_
      refine plStore 6 Ty.ag_voxel_ray_Hit hm46 rfl (i := 10) (cs := hcs p0 p0 0) rfl (wn rfl) rfl (litEv (by kernel_rfl)) (litEv (by kernel_rfl)) rfl rfl (by kernel_rfl) ?_
      intro w49 hm48
      clear hm46
      try simp only [List.cons_append, List.nil_append, List.set_cons_succ, List.set_cons_zero] at hm48
      refine qNone rfl ?_
      refine lk (v := .int .i64 9) rfl rfl rfl ?_
      refine plD ?_
      refine then_normal (hK37 _ _ ?_)
      refine wpPrune [(1, .slice A2 T.length c2), (4, .pointer (some ⟨g2, 0, none⟩)), (6, .pointer (some ⟨g5, 0, none⟩)), (7, .pointer (some ⟨g8, 0, none⟩)), (8, .bool false), (9, .bool true), (10, .pointer (some ⟨g34, 0, none⟩)), (11, .pointer (some ⟨g45, 0, none⟩)), (12, .int .i64 9)] ⟨litGet (by kernel_rfl), ⟨litGet (by kernel_rfl), ⟨litGet (by kernel_rfl), ⟨litGet (by kernel_rfl), ⟨litGet (by kernel_rfl), ⟨litGet (by kernel_rfl), ⟨litGet (by kernel_rfl), ⟨litGet (by kernel_rfl), ⟨litGet (by kernel_rfl), trivial⟩⟩⟩⟩⟩⟩⟩⟩⟩ (fun X50 => ?_)
      refine wp_seq_k fun K51 hK51 => ?_
      refine plStart ?_
      refine litVal (v := .agg (gcs g A c).toArray) rfl (wn rfl) (gLoadAg (vs := gcs g A c) (k := 0) 3 hm48 rfl (by kernel_rfl) (by kernel_rfl) (.tmp 4) Ty.ag_voxel_api_Grid rfl (litEv (by kernel_rfl))) rfl (by decide) ?_
      refine lk (v := .slice A2 T.length c2) rfl rfl rfl ?_
      refine litVal (v := .agg (pcs a).toArray) rfl (wn rfl) (gLoadAg (vs := pcs a) (k := 0) 4 hm48 rfl (by kernel_rfl) (by kernel_rfl) (.tmp 6) Ty.ag_voxel_api_Point rfl (litEv (by kernel_rfl))) rfl (by decide) ?_
      refine litVal (v := .agg (pcs b).toArray) rfl (wn rfl) (gLoadAg (vs := pcs b) (k := 0) 5 hm48 rfl (by kernel_rfl) (by kernel_rfl) (.tmp 7) Ty.ag_voxel_api_Point rfl (litEv (by kernel_rfl))) rfl (by decide) ?_
      refine plCall (i := 4) 17 [.agg (gcs g A c).toArray, .slice A2 T.length c2, .agg (pcs a).toArray, .agg (pcs b).toArray] [] [] rfl (by kernel_rfl) (wn rfl) rfl (litEv (by kernel_rfl)) (litArgs (by kernel_rfl)) (by have h := refFirst_any g hv T A c A2 c2 a b (of_decide_eq_true h18) w49 (hm48.rd 1 rfl) (hm48.rd 2 rfl); rw [firstH_none hck hfs, firstE_none hck hfs] at h; exact h) ?_
      rintro e w52 ⟨rfl, hbz⟩
      have hm53 := hm48.below hbz
      clear hbz hm48
      refine ⟨_, rfl, ?_⟩
      refine qP rfl ?_
      refine lk (v := .tuple #[.agg (hcs p0 p0 0).toArray, .int .i64 9]) rfl rfl rfl ?_
      refine lk (v := .agg (hcs p0 p0 0).toArray) rfl rfl rfl ?_
      refine lk (v := .int .i64 9) rfl rfl rfl ?_
      refine plAlloc (z := [.int .i64 0, .int .i64 0, .int .i64 0, .int .i64 0, .int .i64 0, .int .i64 0, .int .i64 0]) Ty.ag_voxel_voxelref42_Hit hm53 (i := 8) rfl (wn rfl) rfl ?_
      intro g54 w56 hm55
      clear hm53
      try simp only [List.cons_append, List.nil_append, List.set_cons_succ, List.set_cons_zero] at hm55
      refine qP rfl ?_
      refine plStore 7 Ty.ag_voxel_voxelref42_Hit hm55 rfl (i := 9) (cs := hcs p0 p0 0) rfl (wn rfl) rfl (litEv (by kernel_rfl)) (litEv (by kernel_rfl)) rfl rfl (by kernel_rfl) ?_
      intro w58 hm57
      clear hm55
      try simp only [List.cons_append, List.nil_append, List.set_cons_succ, List.set_cons_zero] at hm57
      refine qNone rfl ?_
      refine lk (v := .int .i64 9) rfl rfl rfl ?_
      refine plD ?_
      refine then_normal (hK51 _ _ ?_)
      refine wp_seq_k fun K59 hK59 => ?_
      refine plStart ?_
      refine lk (v := .pointer (some ⟨g34, 0, none⟩)) rfl rfl rfl ?_
      refine lk (v := .pointer (some ⟨g34, 0, none⟩)) rfl rfl rfl ?_
      refine lk (v := .pointer (some ⟨g34, 7, none⟩)) rfl rfl rfl ?_
      refine litVal (v := .agg (pcs last43).toArray) rfl (wn rfl) (gLoadAg (vs := pcs last43) (k := 7) 0 hm57 rfl (by kernel_rfl) (by kernel_rfl) (.tmp 64) Ty.ag_voxel_api_Point rfl (litEv (by kernel_rfl))) rfl (by decide) ?_
      refine plAlloc (z := [.int .i64 0, .int .i64 0, .int .i64 0]) Ty.ag_voxel_api_Point hm57 (i := 4) rfl (wn rfl) rfl ?_
      intro g60 w62 hm61
      clear hm57
      try simp only [List.cons_append, List.nil_append, List.set_cons_succ, List.set_cons_zero] at hm61
      refine qP rfl ?_
      refine plStore 8 Ty.ag_voxel_api_Point hm61 rfl (i := 5) (cs := pcs last43) rfl (wn rfl) rfl (litEv (by kernel_rfl)) (litEv (by kernel_rfl)) rfl rfl (by kernel_rfl) ?_
      intro w64 hm63
      clear hm61
      try simp only [List.cons_append, List.nil_append, List.set_cons_succ, List.set_cons_zero] at hm63
      refine qNone rfl ?_
      refine plD ?_
      refine then_normal (hK59 _ _ ?_)
      refine wp_seq_k fun K65 hK65 => ?_
      refine plStart ?_
      refine lk (v := .pointer (some ⟨g34, 0, none⟩)) rfl rfl rfl ?_
      refine lk (v := .iface 39 (.pointer (some ⟨g34, 0, none⟩))) rfl rfl rfl ?_
      refine lk (v := .slice A2 T.length c2) rfl rfl rfl ?_
      refine litVal (v := .agg (pcs a).toArray) rfl (wn rfl) (gLoadAg (vs := pcs a) (k := 0) 4 hm63 rfl (by kernel_rfl) (by kernel_rfl) (.tmp 6) Ty.ag_voxel_api_Point rfl (litEv (by kernel_rfl))) rfl (by decide) ?_
      refine litVal (v := .agg (pcs b).toArray) rfl (wn rfl) (gLoadAg (vs := pcs b) (k := 0) 5 hm63 rfl (by kernel_rfl) (by kernel_rfl) (.tmp 7) Ty.ag_voxel_api_Point rfl (litEv (by kernel_rfl))) rfl (by decide) ?_
      refine plCall (i := 5) 18 [.iface 39 (.pointer (some ⟨g34, 0, none⟩)), .slice A2 T.length c2, .agg (pcs a).toArray, .agg (pcs b).toArray] [] [] rfl (by kernel_rfl) (wn rfl) rfl (litEv (by kernel_rfl)) (litArgs (by kernel_rfl)) (by have h := visible_any (M := [.arr g2 36 (gcs g A c), .arr g5 23 (pcs a), .arr g8 23 (pcs b), .arr g45 43 (hcs p0 p0 0), .arr g54 46 (hcs p0 p0 0), .arr g60 23 (pcs last43)]) g hv T A c A2 c2 g34 last43 a b hm63; rw [hck] at h; exact h) ?_
      rintro e w66 ⟨last68, rfl, hm67⟩
      clear hm63
      refine ⟨_, rfl, ?_⟩
      refine qP rfl ?_
      rcases bool_or (visR g T a b) with h69 | h69
      · rw [h69]
        refine lk (v := .tuple #[.bool false, .int .i64 0]) rfl rfl rfl ?_
        refine lk (v := .bool false) rfl rfl rfl ?_
        refine lk (v := .int .i64 0) rfl rfl rfl ?_
        refine lk (v := .bool false) rfl rfl rfl ?_
        refine lk (v := .int .i64 0) rfl rfl rfl ?_
        refine plD ?_
        refine then_normal (hK65 _ _ ?_)
        refine wpPrune [(1, .slice A2 T.length c2), (4, .pointer (some ⟨g2, 0, none⟩)), (6, .pointer (some ⟨g5, 0, none⟩)), (7, .pointer (some ⟨g8, 0, none⟩)), (8, .bool false), (9, .bool true), (11, .pointer (some ⟨g45, 0, none⟩)), (12, .int .i64 9), (13, .pointer (some ⟨g54, 0, none⟩)), (14, .int .i64 9), (15, .pointer (some ⟨g60, 0, none⟩)), (16, .bool false), (17, .int .i64 0)] ⟨litGet (by kernel_rfl), ⟨litGet (by kernel_rfl), ⟨litGet (by kernel_rfl), ⟨litGet (by kernel_rfl), ⟨litGet (by kernel_rfl), ⟨litGet (by kernel_rfl), ⟨litGet (by kernel_rfl), ⟨litGet (by kernel_rfl), ⟨litGet (by kernel_rfl), ⟨litGet (by kernel_rfl), ⟨litGet (by kernel_rfl), ⟨litGet (by kernel_rfl), ⟨litGet (by kernel_rfl), trivial⟩⟩⟩⟩⟩⟩⟩⟩⟩⟩⟩⟩⟩ (fun X70 => ?_)
        refine wp_seq_k fun K71 hK71 => ?_
        refine plStart ?_
        refine litVal (v := .agg (gcs g A c).toArray) rfl (wn rfl) (gLoadAg (vs := gcs g A c) (k := 0) 3 hm67 rfl (by kernel_rfl) (by kernel_rfl) (.tmp 4) Ty.ag_voxel_api_Grid rfl (litEv (by kernel_rfl))) rfl (by decide) ?_
        refine lk (v := .slice A2 T.length c2) rfl rfl rfl ?_
        refine litVal (v := .agg (pcs a).toArray) rfl (wn rfl) (gLoadAg (vs := pcs a) (k := 0) 4 hm67 rfl (by kernel_rfl) (by kernel_rfl) (.tmp 6) Ty.ag_voxel_api_Point rfl (litEv (by kernel_rfl))) rfl (by decide) ?_
        refine litVal (v := .agg (pcs b).toArray) rfl (wn rfl) (gLoadAg (vs := pcs b) (k := 0) 5 hm67 rfl (by kernel_rfl) (by kernel_rfl) (.tmp 7) Ty.ag_voxel_api_Point rfl (litEv (by kernel_rfl))) rfl (by decide) ?_
        refine plCall (i := 4) 19 [.agg (gcs g A c).toArray, .slice A2 T.length c2, .agg (pcs a).toArray, .agg (pcs b).toArray] [] [] rfl (by kernel_rfl) (wn rfl) rfl (litEv (by kernel_rfl)) (litArgs (by kernel_rfl)) (by have h := refVisible_any g hv T A c A2 c2 a b (of_decide_eq_true h18) w66 (hm67.rd 1 rfl) (hm67.rd 2 rfl); rw [hck] at h; exact h) ?_
        rintro e w72 ⟨rfl, hbz⟩
        have hm73 := hm67.below hbz
        clear hbz hm67
        rw [h69]
        refine ⟨_, rfl, ?_⟩
        refine qP rfl ?_
        refine lk (v := .tuple #[.bool false, .int .i64 0]) rfl rfl rfl ?_
        refine lk (v := .bool false) rfl rfl rfl ?_
        refine lk (v := .int .i64 0) rfl rfl rfl ?_
        refine lk (v := .bool false) rfl rfl rfl ?_
        refine lk (v := .int .i64 0) rfl rfl rfl ?_
        refine plD ?_
        refine then_normal (hK71 _ _ ?_)
        refine wp_seq_k fun K74 hK74 => ?_
        refine wp_seq_k fun K75 hK75 => ?_
        refine plStart ?_
        refine lk (v := .int .i64 9) rfl rfl rfl ?_
        refine lk (v := .bool false) rfl rfl rfl ?_
        refine lk (v := .bool false) rfl rfl rfl ?_
        refine plSkip (i := 3) rfl (wgN rfl rfl rfl (by decide) (by kernel_rfl)) ?_
        refine qP rfl ?_
        refine plSkip (i := 4) rfl (wgN rfl rfl rfl (by decide) (by kernel_rfl)) ?_
        refine qP rfl ?_
        refine plSkip (i := 5) rfl (wgN rfl rfl rfl (by decide) (by kernel_rfl)) ?_
        refine qP rfl ?_
        refine plSkip (i := 6) rfl (wgN rfl rfl rfl (by decide) (by kernel_rfl)) ?_
        refine qP rfl ?_
        refine lk (v := .bool false) rfl rfl rfl ?_
        refine plD ?_
        refine then_normal (hK75 _ _ ?_)
        refine wpPrune [(8, .bool false), (9, .bool true), (11, .pointer (some ⟨g45, 0, none⟩)), (12, .int .i64 9), (13, .pointer (some ⟨g54, 0, none⟩)), (14, .int .i64 9), (16, .bool false), (17, .int .i64 0), (18, .bool false), (19, .int .i64 0), (90, .bool false)] ⟨litGet (by kernel_rfl), ⟨litGet (by kernel_rfl), ⟨litGet (by kernel_rfl), ⟨litGet (by kernel_rfl), ⟨litGet (by kernel_rfl), ⟨litGet (by kernel_rfl), ⟨litGet (by kernel_rfl), ⟨litGet (by kernel_rfl), ⟨litGet (by kernel_rfl), ⟨litGet (by kernel_rfl), ⟨litGet (by kernel_rfl), trivial⟩⟩⟩⟩⟩⟩⟩⟩⟩⟩⟩ (fun X76 => ?_)
        refine wp_cond_false (litEv (by kernel_rfl)) ?_
        refine wp_skip ?_
        refine then_normal (hK74 _ _ ?_)
        refine wp_seq_k fun K77 hK77 => ?_
        refine plStart ?_
        refine lk (v := .bool true) rfl rfl rfl ?_
        refine lk (v := .bool true) rfl rfl rfl ?_
        refine litVal (v := .pointer (some ⟨g45, 0, none⟩)) rfl (wgY rfl rfl rfl (by decide) (by kernel_rfl)) (litRun (by kernel_rfl)) rfl (by decide) ?_
        refine litVal (v := .agg (pcs ⟨0, 0, 0⟩).toArray) rfl (wgY rfl rfl rfl (by decide) (by kernel_rfl)) (gLoadAg (vs := pcs ⟨0, 0, 0⟩) (k := 0) 6 hm73 rfl (by kernel_rfl) (by kernel_rfl) (.tmp 93) Ty.ag_voxel_api_Point rfl (litEv (by kernel_rfl))) rfl (by decide) ?_
        refine litVal (v := .pointer (some ⟨g54, 0, none⟩)) rfl (wgY rfl rfl rfl (by decide) (by kernel_rfl)) (litRun (by kernel_rfl)) rfl (by decide) ?_
        refine litVal (v := .agg (pcs ⟨0, 0, 0⟩).toArray) rfl (wgY rfl rfl rfl (by decide) (by kernel_rfl)) (gLoadAg (vs := pcs ⟨0, 0, 0⟩) (k := 0) 7 hm73 rfl (by kernel_rfl) (by kernel_rfl) (.tmp 95) Ty.ag_voxel_api_Point rfl (litEv (by kernel_rfl))) rfl (by decide) ?_
        refine litVal (v := .bool true) rfl (wgY rfl rfl rfl (by decide) (by kernel_rfl)) (boolTo (decide_eq_true rfl) (eqPtRun (.tmp 94) (.tmp 96) (⟨0, 0, 0⟩) (⟨0, 0, 0⟩) (by kernel_rfl) (by kernel_rfl) (by kernel_rfl) (by kernel_rfl) rfl (litEv (by kernel_rfl)) (litEv (by kernel_rfl)))) rfl (by decide) ?_
        refine lk (v := .bool true) rfl rfl rfl ?_
        refine lk (v := .bool true) rfl rfl rfl ?_
        refine litVal (v := .pointer (some ⟨g45, 3, none⟩)) rfl (wgY rfl rfl rfl (by decide) (by kernel_rfl)) (litRun (by kernel_rfl)) rfl (by decide) ?_
        refine litVal (v := .agg (pcs ⟨0, 0, 0⟩).toArray) rfl (wgY rfl rfl rfl (by decide) (by kernel_rfl)) (gLoadAg (vs := pcs ⟨0, 0, 0⟩) (k := 3) 6 hm73 rfl (by kernel_rfl) (by kernel_rfl) (.tmp 100) Ty.ag_voxel_api_Point rfl (litEv (by kernel_rfl))) rfl (by decide) ?_
        refine litVal (v := .pointer (some ⟨g54, 3, none⟩)) rfl (wgY rfl rfl rfl (by decide) (by kernel_rfl)) (litRun (by kernel_rfl)) rfl (by decide) ?_
        refine litVal (v := .agg (pcs ⟨0, 0, 0⟩).toArray) rfl (wgY rfl rfl rfl (by decide) (by kernel_rfl)) (gLoadAg (vs := pcs ⟨0, 0, 0⟩) (k := 3) 7 hm73 rfl (by kernel_rfl) (by kernel_rfl) (.tmp 102) Ty.ag_voxel_api_Point rfl (litEv (by kernel_rfl))) rfl (by decide) ?_
        refine litVal (v := .bool true) rfl (wgY rfl rfl rfl (by decide) (by kernel_rfl)) (boolTo (decide_eq_true rfl) (eqPtRun (.tmp 101) (.tmp 103) (⟨0, 0, 0⟩) (⟨0, 0, 0⟩) (by kernel_rfl) (by kernel_rfl) (by kernel_rfl) (by kernel_rfl) rfl (litEv (by kernel_rfl)) (litEv (by kernel_rfl)))) rfl (by decide) ?_
        refine lk (v := .bool true) rfl rfl rfl ?_
        refine lk (v := .bool true) rfl rfl rfl ?_
        refine litVal (v := .pointer (some ⟨g45, 6, none⟩)) rfl (wgY rfl rfl rfl (by decide) (by kernel_rfl)) (litRun (by kernel_rfl)) rfl (by decide) ?_
        refine litVal (v := .int .i64 0) rfl (wgY rfl rfl rfl (by decide) (by kernel_rfl)) (gLoad (v := .int .i64 0) (k := 6) 6 hm73 rfl (by kernel_rfl) (.tmp 107) (by kernel_rfl) rfl (litEv (by kernel_rfl))) rfl (by decide) ?_
        refine litVal (v := .pointer (some ⟨g54, 6, none⟩)) rfl (wgY rfl rfl rfl (by decide) (by kernel_rfl)) (litRun (by kernel_rfl)) rfl (by decide) ?_
        refine litVal (v := .int .i64 0) rfl (wgY rfl rfl rfl (by decide) (by kernel_rfl)) (gLoad (v := .int .i64 0) (k := 6) 7 hm73 rfl (by kernel_rfl) (.tmp 109) (by kernel_rfl) rfl (litEv (by kernel_rfl))) rfl (by decide) ?_
        refine litVal (v := .bool true) rfl (wgY rfl rfl rfl (by decide) (by kernel_rfl)) (litRun (by kernel_rfl)) rfl (by decide) ?_
        refine lk (v := .bool true) rfl rfl rfl ?_
        refine lk (v := .bool true) rfl rfl rfl ?_
        refine litVal (v := .int .i64 9) rfl (wgY rfl rfl rfl (by decide) (by kernel_rfl)) (litRun (by kernel_rfl)) rfl (by decide) ?_
        refine litVal (v := .int .i64 9) rfl (wgY rfl rfl rfl (by decide) (by kernel_rfl)) (litRun (by kernel_rfl)) rfl (by decide) ?_
        refine litVal (v := .bool true) rfl (wgY rfl rfl rfl (by decide) (by kernel_rfl)) (litRun (by kernel_rfl)) rfl (by decide) ?_
        refine lk (v := .bool true) rfl rfl rfl ?_
        refine lk (v := .bool true) rfl rfl rfl ?_
        refine litVal (v := .bool false) rfl (wgY rfl rfl rfl (by decide) (by kernel_rfl)) (litRun (by kernel_rfl)) rfl (by decide) ?_
        refine litVal (v := .bool false) rfl (wgY rfl rfl rfl (by decide) (by kernel_rfl)) (litRun (by kernel_rfl)) rfl (by decide) ?_
        refine litVal (v := .bool true) rfl (wgY rfl rfl rfl (by decide) (by kernel_rfl)) (litRun (by kernel_rfl)) rfl (by decide) ?_
        refine lk (v := .bool true) rfl rfl rfl ?_
        refine lk (v := .bool true) rfl rfl rfl ?_
        refine litVal (v := .int .i64 0) rfl (wgY rfl rfl rfl (by decide) (by kernel_rfl)) (litRun (by kernel_rfl)) rfl (by decide) ?_
        refine litVal (v := .int .i64 0) rfl (wgY rfl rfl rfl (by decide) (by kernel_rfl)) (litRun (by kernel_rfl)) rfl (by decide) ?_
        refine litVal (v := .bool true) rfl (wgY rfl rfl rfl (by decide) (by kernel_rfl)) (litRun (by kernel_rfl)) rfl (by decide) ?_
        refine lk (v := .bool true) rfl rfl rfl ?_
        refine lk (v := .bool true) rfl rfl rfl ?_
        refine plD ?_
        refine then_normal (hK77 _ _ ?_)
        refine wpPrune [(8, .bool true)] ⟨litGet (by kernel_rfl), trivial⟩ (fun X78 => ?_)
        refine wp_ret ?_
        refine bodyPost_ret (v := .bool true) (gRes1 rfl (gResTmp (t := 8) (v := .bool true) (litGet (by kernel_rfl)))) rfl ?_
        exact ⟨rfl, hm73.bel⟩
      rw [h69]
      refine lk (v := .tuple #[.bool true, .int .i64 0]) rfl rfl rfl ?_
      refine lk (v := .bool true) rfl rfl rfl ?_
      refine lk (v := .int .i64 0) rfl rfl rfl ?_
      refine lk (v := .bool true) rfl rfl rfl ?_
      refine lk (v := .int .i64 0) rfl rfl rfl ?_
      refine plD ?_
      refine then_normal (hK65 _ _ ?_)
      refine wpPrune [(1, .slice A2 T.length c2), (4, .pointer (some ⟨g2, 0, none⟩)), (6, .pointer (some ⟨g5, 0, none⟩)), (7, .pointer (some ⟨g8, 0, none⟩)), (8, .bool false), (9, .bool true), (11, .pointer (some ⟨g45, 0, none⟩)), (12, .int .i64 9), (13, .pointer (some ⟨g54, 0, none⟩)), (14, .int .i64 9), (15, .pointer (some ⟨g60, 0, none⟩)), (16, .bool true), (17, .int .i64 0)] ⟨litGet (by kernel_rfl), ⟨litGet (by kernel_rfl), ⟨litGet (by kernel_rfl), ⟨litGet (by kernel_rfl), ⟨litGet (by kernel_rfl), ⟨litGet (by kernel_rfl), ⟨litGet (by kernel_rfl), ⟨litGet (by kernel_rfl), ⟨litGet (by kernel_rfl), ⟨litGet (by kernel_rfl), ⟨litGet (by kernel_rfl), ⟨litGet (by kernel_rfl), ⟨litGet (by kernel_rfl), trivial⟩⟩⟩⟩⟩⟩⟩⟩⟩⟩⟩⟩⟩ (fun X79 => ?_)
      refine wp_seq_k fun K80 hK80 => ?_
      refine plStart ?_
      refine litVal (v := .agg (gcs g A c).toArray) rfl (wn rfl) (gLoadAg (vs := gcs g A c) (k := 0) 3 hm67 rfl (by kernel_rfl) (by kernel_rfl) (.tmp 4) Ty.ag_voxel_api_Grid rfl (litEv (by kernel_rfl))) rfl (by decide) ?_
      refine lk (v := .slice A2 T.length c2) rfl rfl rfl ?_
      refine litVal (v := .agg (pcs a).toArray) rfl (wn rfl) (gLoadAg (vs := pcs a) (k := 0) 4 hm67 rfl (by kernel_rfl) (by kernel_rfl) (.tmp 6) Ty.ag_voxel_api_Point rfl (litEv (by kernel_rfl))) rfl (by decide) ?_
      refine litVal (v := .agg (pcs b).toArray) rfl (wn rfl) (gLoadAg (vs := pcs b) (k := 0) 5 hm67 rfl (by kernel_rfl) (by kernel_rfl) (.tmp 7) Ty.ag_voxel_api_Point rfl (litEv (by kernel_rfl))) rfl (by decide) ?_
      refine plCall (i := 4) 19 [.agg (gcs g A c).toArray, .slice A2 T.length c2, .agg (pcs a).toArray, .agg (pcs b).toArray] [] [] rfl (by kernel_rfl) (wn rfl) rfl (litEv (by kernel_rfl)) (litArgs (by kernel_rfl)) (by have h := refVisible_any g hv T A c A2 c2 a b (of_decide_eq_true h18) w66 (hm67.rd 1 rfl) (hm67.rd 2 rfl); rw [hck] at h; exact h) ?_
      rintro e w81 ⟨rfl, hbz⟩
      have hm82 := hm67.below hbz
      clear hbz hm67
      rw [h69]
      refine ⟨_, rfl, ?_⟩
      refine qP rfl ?_
      refine lk (v := .tuple #[.bool true, .int .i64 0]) rfl rfl rfl ?_
      refine lk (v := .bool true) rfl rfl rfl ?_
      refine lk (v := .int .i64 0) rfl rfl rfl ?_
      refine lk (v := .bool true) rfl rfl rfl ?_
      refine lk (v := .int .i64 0) rfl rfl rfl ?_
      refine plD ?_
      refine then_normal (hK80 _ _ ?_)
      refine wp_seq_k fun K83 hK83 => ?_
      refine wp_seq_k fun K84 hK84 => ?_
      refine plStart ?_
      refine lk (v := .int .i64 9) rfl rfl rfl ?_
      refine lk (v := .bool false) rfl rfl rfl ?_
      refine lk (v := .bool false) rfl rfl rfl ?_
      refine plSkip (i := 3) rfl (wgN rfl rfl rfl (by decide) (by kernel_rfl)) ?_
      refine qP rfl ?_
      refine plSkip (i := 4) rfl (wgN rfl rfl rfl (by decide) (by kernel_rfl)) ?_
      refine qP rfl ?_
      refine plSkip (i := 5) rfl (wgN rfl rfl rfl (by decide) (by kernel_rfl)) ?_
      refine qP rfl ?_
      refine plSkip (i := 6) rfl (wgN rfl rfl rfl (by decide) (by kernel_rfl)) ?_
      refine qP rfl ?_
      refine lk (v := .bool false) rfl rfl rfl ?_
      refine plD ?_
      refine then_normal (hK84 _ _ ?_)
      refine wpPrune [(8, .bool false), (9, .bool true), (11, .pointer (some ⟨g45, 0, none⟩)), (12, .int .i64 9), (13, .pointer (some ⟨g54, 0, none⟩)), (14, .int .i64 9), (16, .bool true), (17, .int .i64 0), (18, .bool true), (19, .int .i64 0), (90, .bool false)] ⟨litGet (by kernel_rfl), ⟨litGet (by kernel_rfl), ⟨litGet (by kernel_rfl), ⟨litGet (by kernel_rfl), ⟨litGet (by kernel_rfl), ⟨litGet (by kernel_rfl), ⟨litGet (by kernel_rfl), ⟨litGet (by kernel_rfl), ⟨litGet (by kernel_rfl), ⟨litGet (by kernel_rfl), ⟨litGet (by kernel_rfl), trivial⟩⟩⟩⟩⟩⟩⟩⟩⟩⟩⟩ (fun X85 => ?_)
      refine wp_cond_false (litEv (by kernel_rfl)) ?_
      refine wp_skip ?_
      refine then_normal (hK83 _ _ ?_)
      refine wp_seq_k fun K86 hK86 => ?_
      refine plStart ?_
      refine lk (v := .bool true) rfl rfl rfl ?_
      refine lk (v := .bool true) rfl rfl rfl ?_
      refine litVal (v := .pointer (some ⟨g45, 0, none⟩)) rfl (wgY rfl rfl rfl (by decide) (by kernel_rfl)) (litRun (by kernel_rfl)) rfl (by decide) ?_
      refine litVal (v := .agg (pcs ⟨0, 0, 0⟩).toArray) rfl (wgY rfl rfl rfl (by decide) (by kernel_rfl)) (gLoadAg (vs := pcs ⟨0, 0, 0⟩) (k := 0) 6 hm82 rfl (by kernel_rfl) (by kernel_rfl) (.tmp 93) Ty.ag_voxel_api_Point rfl (litEv (by kernel_rfl))) rfl (by decide) ?_
      refine litVal (v := .pointer (some ⟨g54, 0, none⟩)) rfl (wgY rfl rfl rfl (by decide) (by kernel_rfl)) (litRun (by kernel_rfl)) rfl (by decide) ?_
      refine litVal (v := .agg (pcs ⟨0, 0, 0⟩).toArray) rfl (wgY rfl rfl rfl (by decide) (by kernel_rfl)) (gLoadAg (vs := pcs ⟨0, 0, 0⟩) (k := 0) 7 hm82 rfl (by kernel_rfl) (by kernel_rfl) (.tmp 95) Ty.ag_voxel_api_Point rfl (litEv (by kernel_rfl))) rfl (by decide) ?_
      refine litVal (v := .bool true) rfl (wgY rfl rfl rfl (by decide) (by kernel_rfl)) (boolTo (decide_eq_true rfl) (eqPtRun (.tmp 94) (.tmp 96) (⟨0, 0, 0⟩) (⟨0, 0, 0⟩) (by kernel_rfl) (by kernel_rfl) (by kernel_rfl) (by kernel_rfl) rfl (litEv (by kernel_rfl)) (litEv (by kernel_rfl)))) rfl (by decide) ?_
      refine lk (v := .bool true) rfl rfl rfl ?_
      refine lk (v := .bool true) rfl rfl rfl ?_
      refine litVal (v := .pointer (some ⟨g45, 3, none⟩)) rfl (wgY rfl rfl rfl (by decide) (by kernel_rfl)) (litRun (by kernel_rfl)) rfl (by decide) ?_
      refine litVal (v := .agg (pcs ⟨0, 0, 0⟩).toArray) rfl (wgY rfl rfl rfl (by decide) (by kernel_rfl)) (gLoadAg (vs := pcs ⟨0, 0, 0⟩) (k := 3) 6 hm82 rfl (by kernel_rfl) (by kernel_rfl) (.tmp 100) Ty.ag_voxel_api_Point rfl (litEv (by kernel_rfl))) rfl (by decide) ?_
      refine litVal (v := .pointer (some ⟨g54, 3, none⟩)) rfl (wgY rfl rfl rfl (by decide) (by kernel_rfl)) (litRun (by kernel_rfl)) rfl (by decide) ?_
      refine litVal (v := .agg (pcs ⟨0, 0, 0⟩).toArray) rfl (wgY rfl rfl rfl (by decide) (by kernel_rfl)) (gLoadAg (vs := pcs ⟨0, 0, 0⟩) (k := 3) 7 hm82 rfl (by kernel_rfl) (by kernel_rfl) (.tmp 102) Ty.ag_voxel_api_Point rfl (litEv (by kernel_rfl))) rfl (by decide) ?_
      refine litVal (v := .bool true) rfl (wgY rfl rfl rfl (by decide) (by kernel_rfl)) (boolTo (decide_eq_true rfl) (eqPtRun (.tmp 101) (.tmp 103) (⟨0, 0, 0⟩) (⟨0, 0, 0⟩) (by kernel_rfl) (by kernel_rfl) (by kernel_rfl) (by kernel_rfl) rfl (litEv (by kernel_rfl)) (litEv (by kernel_rfl)))) rfl (by decide) ?_
      refine lk (v := .bool true) rfl rfl rfl ?_
      refine lk (v := .bool true) rfl rfl rfl ?_
      refine litVal (v := .pointer (some ⟨g45, 6, none⟩)) rfl (wgY rfl rfl rfl (by decide) (by kernel_rfl)) (litRun (by kernel_rfl)) rfl (by decide) ?_
      refine litVal (v := .int .i64 0) rfl (wgY rfl rfl rfl (by decide) (by kernel_rfl)) (gLoad (v := .int .i64 0) (k := 6) 6 hm82 rfl (by kernel_rfl) (.tmp 107) (by kernel_rfl) rfl (litEv (by kernel_rfl))) rfl (by decide) ?_
      refine litVal (v := .pointer (some ⟨g54, 6, none⟩)) rfl (wgY rfl rfl rfl (by decide) (by kernel_rfl)) (litRun (by kernel_rfl)) rfl (by decide) ?_
      refine litVal (v := .int .i64 0) rfl (wgY rfl rfl rfl (by decide) (by kernel_rfl)) (gLoad (v := .int .i64 0) (k := 6) 7 hm82 rfl (by kernel_rfl) (.tmp 109) (by kernel_rfl) rfl (litEv (by kernel_rfl))) rfl (by decide) ?_
      refine litVal (v := .bool true) rfl (wgY rfl rfl rfl (by decide) (by kernel_rfl)) (litRun (by kernel_rfl)) rfl (by decide) ?_
      refine lk (v := .bool true) rfl rfl rfl ?_
      refine lk (v := .bool true) rfl rfl rfl ?_
      refine litVal (v := .int .i64 9) rfl (wgY rfl rfl rfl (by decide) (by kernel_rfl)) (litRun (by kernel_rfl)) rfl (by decide) ?_
      refine litVal (v := .int .i64 9) rfl (wgY rfl rfl rfl (by decide) (by kernel_rfl)) (litRun (by kernel_rfl)) rfl (by decide) ?_
      refine litVal (v := .bool true) rfl (wgY rfl rfl rfl (by decide) (by kernel_rfl)) (litRun (by kernel_rfl)) rfl (by decide) ?_
      refine lk (v := .bool true) rfl rfl rfl ?_
      refine lk (v := .bool true) rfl rfl rfl ?_
      refine litVal (v := .bool true) rfl (wgY rfl rfl rfl (by decide) (by kernel_rfl)) (litRun (by kernel_rfl)) rfl (by decide) ?_
      refine litVal (v := .bool true) rfl (wgY rfl rfl rfl (by decide) (by kernel_rfl)) (litRun (by kernel_rfl)) rfl (by decide) ?_
      refine litVal (v := .bool true) rfl (wgY rfl rfl rfl (by decide) (by kernel_rfl)) (litRun (by kernel_rfl)) rfl (by decide) ?_
      refine lk (v := .bool true) rfl rfl rfl ?_
      refine lk (v := .bool true) rfl rfl rfl ?_
      refine litVal (v := .int .i64 0) rfl (wgY rfl rfl rfl (by decide) (by kernel_rfl)) (litRun (by kernel_rfl)) rfl (by decide) ?_
      refine litVal (v := .int .i64 0) rfl (wgY rfl rfl rfl (by decide) (by kernel_rfl)) (litRun (by kernel_rfl)) rfl (by decide) ?_
      refine litVal (v := .bool true) rfl (wgY rfl rfl rfl (by decide) (by kernel_rfl)) (litRun (by kernel_rfl)) rfl (by decide) ?_
      refine lk (v := .bool true) rfl rfl rfl ?_
      refine lk (v := .bool true) rfl rfl rfl ?_
      refine plD ?_
      refine then_normal (hK86 _ _ ?_)
      refine wpPrune [(8, .bool true)] ⟨litGet (by kernel_rfl), trivial⟩ (fun X87 => ?_)
      refine wp_ret ?_
      refine bodyPost_ret (v := .bool true) (gRes1 rfl (gResTmp (t := 8) (v := .bool true) (litGet (by kernel_rfl)))) rfl ?_
      exact ⟨rfl, hm82.bel⟩
    refine lk (v := .pointer (some ⟨g34, 0, none⟩)) rfl rfl rfl ?_
    refine lk (v := .iface 39 (.pointer (some ⟨g34, 0, none⟩))) rfl rfl rfl ?_
    refine lk (v := .slice A2 T.length c2) rfl rfl rfl ?_
    refine litVal (v := .agg (pcs a).toArray) rfl (wn rfl) (gLoadAg (vs := pcs a) (k := 0) 3 hm35 rfl (by kernel_rfl) (by kernel_rfl) (.tmp 6) Ty.ag_voxel_api_Point rfl (litEv (by kernel_rfl))) rfl (by decide) ?_
    refine litVal (v := .agg (pcs b).toArray) rfl (wn rfl) (gLoadAg (vs := pcs b) (k := 0) 4 hm35 rfl (by kernel_rfl) (by kernel_rfl) (.tmp 7) Ty.ag_voxel_api_Point rfl (litEv (by kernel_rfl))) rfl (by decide) ?_
    have hm88 : Mem w w36 [.rd A2 8 T.length c2 (mts T), .rd A 1 g.cells.length c (ics g.cells), .arr g2 36 (gcs g A c), .arr g5 23 (pcs a), .arr g8 23 (pcs b), .arr g34 41 ([.int .i64 g.box.mn.x, .int .i64 g.box.mn.y, .int .i64 g.box.mn.z, .int .i64 g.box.mx.x, .int .i64 g.box.mx.y, .int .i64 g.box.mx.z, .slice A g.cells.length c, .int .i64 0, .int .i64 0, .int .i64 0])] := Mem.front 1 hm35 rfl
    clear hm35
    have hm89 : Mem w w36 [.rd A 1 g.cells.length c (ics g.cells), .rd A2 8 T.length c2 (mts T), .arr g2 36 (gcs g A c), .arr g5 23 (pcs a), .arr g8 23 (pcs b), .arr g34 41 ([.int .i64 g.box.mn.x, .int .i64 g.box.mn.y, .int .i64 g.box.mn.z, .int .i64 g.box.mx.x, .int .i64 g.box.mx.y, .int .i64 g.box.mx.z, .slice A g.cells.length c, .int .i64 0, .int .i64 0, .int .i64 0])] := Mem.front 1 hm88 rfl
    clear hm88
    have hm90 : Mem w w36 [.arr g34 41 ([.int .i64 g.box.mn.x, .int .i64 g.box.mn.y, .int .i64 g.box.mn.z, .int .i64 g.box.mx.x, .int .i64 g.box.mx.y, .int .i64 g.box.mx.z, .slice A g.cells.length c, .int .i64 0, .int .i64 0, .int .i64 0]), .rd A 1 g.cells.length c (ics g.cells), .rd A2 8 T.length c2 (mts T), .arr g2 36 (gcs g A c), .arr g5 23 (pcs a), .arr g8 23 (pcs b)] := Mem.front 5 hm89 rfl
    clear hm89
    refine plCall (i := 5) 16 [.iface 39 (.pointer (some ⟨g34, 0, none⟩)), .slice A2 T.length c2, .agg (pcs a).toArray, .agg (pcs b).toArray] [] [] rfl (by kernel_rfl) (wn rfl) rfl (litEv (by kernel_rfl)) (litArgs (by kernel_rfl)) (by have h := first_any (M := [.arr g2 36 (gcs g A c), .arr g5 23 (pcs a), .arr g8 23 (pcs b)]) g hv T A c A2 c2 g34 p0 a b hm90; rw [firstH_some hck hfs, firstE_some hck hfs] at h; exact h) ?_
    rintro e w91 ⟨last93, rfl, hm92, hl94⟩
    clear hm90
    have hlq : last93 = q := by obtain ⟨k2_, q2_, e2_, e3_⟩ := hl94 rfl; rw [hfs] at e2_; injection e2_ with e2_; injection e2_ with e4_ e5_; exact e3_.trans e5_.symm
    refine ⟨_, rfl, ?_⟩
    refine qP rfl ?_
    refine lk (v := .tuple #[.agg (hcs q (befOf (walk a b) a k) (k : Int)).toArray, .int .i64 0]) rfl rfl rfl ?_
    refine lk (v := .agg (hcs q (befOf (walk a b) a k) (k : Int)).toArray) rfl rfl rfl ?_
    refine lk (v := .int .i64 0) rfl rfl rfl ?_
    refine plAlloc (z := [.int .i64 0, .int .i64 0, .int .i64 0, .int .i64 0, .int .i64 0, .int .i64 0, .int .i64 0]) Ty.ag_voxel_ray_Hit hm92 (i := 9) rfl (wn rfl) rfl ?_
    intro g95 w97 hm96
    clear hm92
    try simp only [List.cons_append, List.nil_append, List.set_cons_succ, List.set_cons_zero] at hm96
    refine qP rfl ?_
    refine plStore 6 Ty.ag_voxel_ray_Hit hm96 rfl (i := 10) (cs := hcs q (befOf (walk a b) a k) (k : Int)) rfl (wn rfl) rfl (litEv (by kernel_rfl)) (litEv (by kernel_rfl)) rfl rfl (by kernel_rfl) ?_
    intro w99 hm98
    clear hm96
    try simp only [List.cons_append, List.nil_append, List.set_cons_succ, List.set_cons_zero] at hm98
    refine qNone rfl ?_
    refine lk (v := .int .i64 0) rfl rfl rfl ?_
    refine plD ?_
    refine then_normal (hK37 _ _ ?_)
    refine wpPrune [(1, .slice A2 T.length c2), (4, .pointer (some ⟨g2, 0, none⟩)), (6, .pointer (some ⟨g5, 0, none⟩)), (7, .pointer (some ⟨g8, 0, none⟩)), (8, .bool false), (9, .bool true), (10, .pointer (some ⟨g34, 0, none⟩)), (11, .pointer (some ⟨g95, 0, none⟩)), (12, .int .i64 0)] ⟨litGet (by kernel_rfl), ⟨litGet (by kernel_rfl), ⟨litGet (by kernel_rfl), ⟨litGet (by kernel_rfl), ⟨litGet (by kernel_rfl), ⟨litGet (by kernel_rfl), ⟨litGet (by kernel_rfl), ⟨litGet (by kernel_rfl), ⟨litGet (by kernel_rfl), trivial⟩⟩⟩⟩⟩⟩⟩⟩⟩ (fun X100 => ?_)
    refine wp_seq_k fun K101 hK101 => ?_
    refine plStart ?_
    refine litVal (v := .agg (gcs g A c).toArray) rfl (wn rfl) (gLoadAg (vs := gcs g A c) (k := 0) 3 hm98 rfl (by kernel_rfl) (by kernel_rfl) (.tmp 4) Ty.ag_voxel_api_Grid rfl (litEv (by kernel_rfl))) rfl (by decide) ?_
    refine lk (v := .slice A2 T.length c2) rfl rfl rfl ?_
    refine litVal (v := .agg (pcs a).toArray) rfl (wn rfl) (gLoadAg (vs := pcs a) (k := 0) 4 hm98 rfl (by kernel_rfl) (by kernel_rfl) (.tmp 6) Ty.ag_voxel_api_Point rfl (litEv (by kernel_rfl))) rfl (by decide) ?_
    refine litVal (v := .agg (pcs b).toArray) rfl (wn rfl) (gLoadAg (vs := pcs b) (k := 0) 5 hm98 rfl (by kernel_rfl) (by kernel_rfl) (.tmp 7) Ty.ag_voxel_api_Point rfl (litEv (by kernel_rfl))) rfl (by decide) ?_
    refine plCall (i := 4) 17 [.agg (gcs g A c).toArray, .slice A2 T.length c2, .agg (pcs a).toArray, .agg (pcs b).toArray] [] [] rfl (by kernel_rfl) (wn rfl) rfl (litEv (by kernel_rfl)) (litArgs (by kernel_rfl)) (by have h := refFirst_any g hv T A c A2 c2 a b (of_decide_eq_true h18) w99 (hm98.rd 1 rfl) (hm98.rd 2 rfl); rw [firstH_some hck hfs, firstE_some hck hfs] at h; exact h) ?_
    rintro e w102 ⟨rfl, hbz⟩
    have hm103 := hm98.below hbz
    clear hbz hm98
    refine ⟨_, rfl, ?_⟩
    refine qP rfl ?_
    refine lk (v := .tuple #[.agg (hcs q (befOf (walk a b) a k) (k : Int)).toArray, .int .i64 0]) rfl rfl rfl ?_
    refine lk (v := .agg (hcs q (befOf (walk a b) a k) (k : Int)).toArray) rfl rfl rfl ?_
    refine lk (v := .int .i64 0) rfl rfl rfl ?_
    refine plAlloc (z := [.int .i64 0, .int .i64 0, .int .i64 0, .int .i64 0, .int .i64 0, .int .i64 0, .int .i64 0]) Ty.ag_voxel_voxelref42_Hit hm103 (i := 8) rfl (wn rfl) rfl ?_
    intro g104 w106 hm105
    clear hm103
    try simp only [List.cons_append, List.nil_append, List.set_cons_succ, List.set_cons_zero] at hm105
    refine qP rfl ?_
    refine plStore 7 Ty.ag_voxel_voxelref42_Hit hm105 rfl (i := 9) (cs := hcs q (befOf (walk a b) a k) (k : Int)) rfl (wn rfl) rfl (litEv (by kernel_rfl)) (litEv (by kernel_rfl)) rfl rfl (by kernel_rfl) ?_
    intro w108 hm107
    clear hm105
    try simp only [List.cons_append, List.nil_append, List.set_cons_succ, List.set_cons_zero] at hm107
    refine qNone rfl ?_
    refine lk (v := .int .i64 0) rfl rfl rfl ?_
    refine plD ?_
    refine then_normal (hK101 _ _ ?_)
    refine wp_seq_k fun K109 hK109 => ?_
    refine plStart ?_
    refine lk (v := .pointer (some ⟨g34, 0, none⟩)) rfl rfl rfl ?_
    refine lk (v := .pointer (some ⟨g34, 0, none⟩)) rfl rfl rfl ?_
    refine lk (v := .pointer (some ⟨g34, 7, none⟩)) rfl rfl rfl ?_
    refine litVal (v := .agg (pcs last93).toArray) rfl (wn rfl) (gLoadAg (vs := pcs last93) (k := 7) 0 hm107 rfl (by kernel_rfl) (by kernel_rfl) (.tmp 64) Ty.ag_voxel_api_Point rfl (litEv (by kernel_rfl))) rfl (by decide) ?_
    refine plAlloc (z := [.int .i64 0, .int .i64 0, .int .i64 0]) Ty.ag_voxel_api_Point hm107 (i := 4) rfl (wn rfl) rfl ?_
    intro g110 w112 hm111
    clear hm107
    try simp only [List.cons_append, List.nil_append, List.set_cons_succ, List.set_cons_zero] at hm111
    refine qP rfl ?_
    refine plStore 8 Ty.ag_voxel_api_Point hm111 rfl (i := 5) (cs := pcs last93) rfl (wn rfl) rfl (litEv (by kernel_rfl)) (litEv (by kernel_rfl)) rfl rfl (by kernel_rfl) ?_
    intro w114 hm113
    clear hm111
    try simp only [List.cons_append, List.nil_append, List.set_cons_succ, List.set_cons_zero] at hm113
    refine qNone rfl ?_
    refine plD ?_
    refine then_normal (hK109 _ _ ?_)
    refine wp_seq_k fun K115 hK115 => ?_
    refine plStart ?_
    refine lk (v := .pointer (some ⟨g34, 0, none⟩)) rfl rfl rfl ?_
    refine lk (v := .iface 39 (.pointer (some ⟨g34, 0, none⟩))) rfl rfl rfl ?_
    refine lk (v := .slice A2 T.length c2) rfl rfl rfl ?_
    refine litVal (v := .agg (pcs a).toArray) rfl (wn rfl) (gLoadAg (vs := pcs a) (k := 0) 4 hm113 rfl (by kernel_rfl) (by kernel_rfl) (.tmp 6) Ty.ag_voxel_api_Point rfl (litEv (by kernel_rfl))) rfl (by decide) ?_
    refine litVal (v := .agg (pcs b).toArray) rfl (wn rfl) (gLoadAg (vs := pcs b) (k := 0) 5 hm113 rfl (by kernel_rfl) (by kernel_rfl) (.tmp 7) Ty.ag_voxel_api_Point rfl (litEv (by kernel_rfl))) rfl (by decide) ?_
    refine plCall (i := 5) 18 [.iface 39 (.pointer (some ⟨g34, 0, none⟩)), .slice A2 T.length c2, .agg (pcs a).toArray, .agg (pcs b).toArray] [] [] rfl (by kernel_rfl) (wn rfl) rfl (litEv (by kernel_rfl)) (litArgs (by kernel_rfl)) (by have h := visible_any (M := [.arr g2 36 (gcs g A c), .arr g5 23 (pcs a), .arr g8 23 (pcs b), .arr g95 43 (hcs q (befOf (walk a b) a k) (k : Int)), .arr g104 46 (hcs q (befOf (walk a b) a k) (k : Int)), .arr g110 23 (pcs last93)]) g hv T A c A2 c2 g34 last93 a b hm113; rw [hck] at h; exact h) ?_
    rintro e w116 ⟨last118, rfl, hm117⟩
    clear hm113
    refine ⟨_, rfl, ?_⟩
    refine qP rfl ?_
    rcases bool_or (visR g T a b) with h119 | h119
    · rw [h119]
      refine lk (v := .tuple #[.bool false, .int .i64 0]) rfl rfl rfl ?_
      refine lk (v := .bool false) rfl rfl rfl ?_
      refine lk (v := .int .i64 0) rfl rfl rfl ?_
      refine lk (v := .bool false) rfl rfl rfl ?_
      refine lk (v := .int .i64 0) rfl rfl rfl ?_
      refine plD ?_
      refine then_normal (hK115 _ _ ?_)
      refine wpPrune [(1, .slice A2 T.length c2), (4, .pointer (some ⟨g2, 0, none⟩)), (6, .pointer (some ⟨g5, 0, none⟩)), (7, .pointer (some ⟨g8, 0, none⟩)), (8, .bool false), (9, .bool true), (11, .pointer (some ⟨g95, 0, none⟩)), (12, .int .i64 0), (13, .pointer (some ⟨g104, 0, none⟩)), (14, .int .i64 0), (15, .pointer (some ⟨g110, 0, none⟩)), (16, .bool false), (17, .int .i64 0)] ⟨litGet (by kernel_rfl), ⟨litGet (by kernel_rfl), ⟨litGet (by kernel_rfl), ⟨litGet (by kernel_rfl), ⟨litGet (by kernel_rfl), ⟨litGet (by kernel_rfl), ⟨litGet (by kernel_rfl), ⟨litGet (by kernel_rfl), ⟨litGet (by kernel_rfl), ⟨litGet (by kernel_rfl), ⟨litGet (by kernel_rfl), ⟨litGet (by kernel_rfl), ⟨litGet (by kernel_rfl), trivial⟩⟩⟩⟩⟩⟩⟩⟩⟩⟩⟩⟩⟩ (fun X120 => ?_)
      refine wp_seq_k fun K121 hK121 => ?_
      refine plStart ?_
      refine litVal (v := .agg (gcs g A c).toArray) rfl (wn rfl) (gLoadAg (vs := gcs g A c) (k := 0) 3 hm117 rfl (by kernel_rfl) (by kernel_rfl) (.tmp 4) Ty.ag_voxel_api_Grid rfl (litEv (by kernel_rfl))) rfl (by decide) ?_
      refine lk (v := .slice A2 T.length c2) rfl rfl rfl ?_
      refine litVal (v := .agg (pcs a).toArray) rfl (wn rfl) (gLoadAg (vs := pcs a) (k := 0) 4 hm117 rfl (by kernel_rfl) (by kernel_rfl) (.tmp 6) Ty.ag_voxel_api_Point rfl (litEv (by kernel_rfl))) rfl (by decide) ?_
      refine litVal (v := .agg (pcs b).toArray) rfl (wn rfl) (gLoadAg (vs := pcs b) (k := 0) 5 hm117 rfl (by kernel_rfl) (by kernel_rfl) (.tmp 7) Ty.ag_voxel_api_Point rfl (litEv (by kernel_rfl))) rfl (by decide) ?_
      refine plCall (i := 4) 19 [.agg (gcs g A c).toArray, .slice A2 T.length c2, .agg (pcs a).toArray, .agg (pcs b).toArray] [] [] rfl (by kernel_rfl) (wn rfl) rfl (litEv (by kernel_rfl)) (litArgs (by kernel_rfl)) (by have h := refVisible_any g hv T A c A2 c2 a b (of_decide_eq_true h18) w116 (hm117.rd 1 rfl) (hm117.rd 2 rfl); rw [hck] at h; exact h) ?_
      rintro e w122 ⟨rfl, hbz⟩
      have hm123 := hm117.below hbz
      clear hbz hm117
      rw [h119]
      refine ⟨_, rfl, ?_⟩
      refine qP rfl ?_
      refine lk (v := .tuple #[.bool false, .int .i64 0]) rfl rfl rfl ?_
      refine lk (v := .bool false) rfl rfl rfl ?_
      refine lk (v := .int .i64 0) rfl rfl rfl ?_
      refine lk (v := .bool false) rfl rfl rfl ?_
      refine lk (v := .int .i64 0) rfl rfl rfl ?_
      refine plD ?_
      refine then_normal (hK121 _ _ ?_)
      refine wp_seq_k fun K124 hK124 => ?_
      refine wp_seq_k fun K125 hK125 => ?_
      refine plStart ?_
      refine lk (v := .int .i64 0) rfl rfl rfl ?_
      refine lk (v := .bool true) rfl rfl rfl ?_
      refine lk (v := .bool true) rfl rfl rfl ?_
      refine litVal (v := .agg (pcs last93).toArray) rfl (wgY rfl rfl rfl (by decide) (by kernel_rfl)) (gLoadAg (vs := pcs last93) (k := 0) 8 hm123 rfl (by kernel_rfl) (by kernel_rfl) (.tmp 15) Ty.ag_voxel_api_Point rfl (litEv (by kernel_rfl))) rfl (by decide) ?_
      refine litVal (v := .pointer (some ⟨g95, 0, none⟩)) rfl (wgY rfl rfl rfl (by decide) (by kernel_rfl)) (litRun (by kernel_rfl)) rfl (by decide) ?_
      refine litVal (v := .agg (pcs q).toArray) rfl (wgY rfl rfl rfl (by decide) (by kernel_rfl)) (gLoadAg (vs := pcs q) (k := 0) 6 hm123 rfl (by kernel_rfl) (by kernel_rfl) (.tmp 87) Ty.ag_voxel_api_Point rfl (litEv (by kernel_rfl))) rfl (by decide) ?_
      refine litVal (v := .bool false) rfl (wgY rfl rfl rfl (by decide) (by kernel_rfl)) (boolTo (by rw [decide_eq_true hlq]; rfl) (neqPtRun (.tmp 86) (.tmp 88) last93 q (by kernel_rfl) (by kernel_rfl) (by kernel_rfl) (by kernel_rfl) rfl (litEv (by kernel_rfl)) (litEv (by kernel_rfl)))) rfl (by decide) ?_
      refine lk (v := .bool false) rfl rfl rfl ?_
      refine plD ?_
      refine then_normal (hK125 _ _ ?_)
      refine wpPrune [(8, .bool false), (9, .bool true), (11, .pointer (some ⟨g95, 0, none⟩)), (12, .int .i64 0), (13, .pointer (some ⟨g104, 0, none⟩)), (14, .int .i64 0), (16, .bool false), (17, .int .i64 0), (18, .bool false), (19, .int .i64 0), (90, .bool false)] ⟨litGet (by kernel_rfl), ⟨litGet (by kernel_rfl), ⟨litGet (by kernel_rfl), ⟨litGet (by kernel_rfl), ⟨litGet (by kernel_rfl), ⟨litGet (by kernel_rfl), ⟨litGet (by kernel_rfl), ⟨litGet (by kernel_rfl), ⟨litGet (by kernel_rfl), ⟨litGet (by kernel_rfl), ⟨litGet (by kernel_rfl), trivial⟩⟩⟩⟩⟩⟩⟩⟩⟩⟩⟩ (fun X126 => ?_)
      refine wp_cond_false (litEv (by kernel_rfl)) ?_
      refine wp_skip ?_
      refine then_normal (hK124 _ _ ?_)
      refine wp_seq_k fun K127 hK127 => ?_
      refine plStart ?_
      refine lk (v := .bool true) rfl rfl rfl ?_
      refine lk (v := .bool true) rfl rfl rfl ?_
      refine litVal (v := .pointer (some ⟨g95, 0, none⟩)) rfl (wgY rfl rfl rfl (by decide) (by kernel_rfl)) (litRun (by kernel_rfl)) rfl (by decide) ?_
      refine litVal (v := .agg (pcs q).toArray) rfl (wgY rfl rfl rfl (by decide) (by kernel_rfl)) (gLoadAg (vs := pcs q) (k := 0) 6 hm123 rfl (by kernel_rfl) (by kernel_rfl) (.tmp 93) Ty.ag_voxel_api_Point rfl (litEv (by kernel_rfl))) rfl (by decide) ?_
      refine litVal (v := .pointer (some ⟨g104, 0, none⟩)) rfl (wgY rfl rfl rfl (by decide) (by kernel_rfl)) (litRun (by kernel_rfl)) rfl (by decide) ?_
      refine litVal (v := .agg (pcs q).toArray) rfl (wgY rfl rfl rfl (by decide) (by kernel_rfl)) (gLoadAg (vs := pcs q) (k := 0) 7 hm123 rfl (by kernel_rfl) (by kernel_rfl) (.tmp 95) Ty.ag_voxel_api_Point rfl (litEv (by kernel_rfl))) rfl (by decide) ?_
      refine litVal (v := .bool true) rfl (wgY rfl rfl rfl (by decide) (by kernel_rfl)) (boolTo (decide_eq_true rfl) (eqPtRun (.tmp 94) (.tmp 96) q q (by kernel_rfl) (by kernel_rfl) (by kernel_rfl) (by kernel_rfl) rfl (litEv (by kernel_rfl)) (litEv (by kernel_rfl)))) rfl (by decide) ?_
      refine lk (v := .bool true) rfl rfl rfl ?_
      refine lk (v := .bool true) rfl rfl rfl ?_
      refine litVal (v := .pointer (some ⟨g95, 3, none⟩)) rfl (wgY rfl rfl rfl (by decide) (by kernel_rfl)) (litRun (by kernel_rfl)) rfl (by decide) ?_
      refine litVal (v := .agg (pcs (befOf (walk a b) a k)).toArray) rfl (wgY rfl rfl rfl (by decide) (by kernel_rfl)) (gLoadAg (vs := pcs (befOf (walk a b) a k)) (k := 3) 6 hm123 rfl (by kernel_rfl) (by kernel_rfl) (.tmp 100) Ty.ag_voxel_api_Point rfl (litEv (by kernel_rfl))) rfl (by decide) ?_
      refine litVal (v := .pointer (some ⟨g104, 3, none⟩)) rfl (wgY rfl rfl rfl (by decide) (by kernel_rfl)) (litRun (by kernel_rfl)) rfl (by decide) ?_
      refine litVal (v := .agg (pcs (befOf (walk a b) a k)).toArray) rfl (wgY rfl rfl rfl (by decide) (by kernel_rfl)) (gLoadAg (vs := pcs (befOf (walk a b) a k)) (k := 3) 7 hm123 rfl (by kernel_rfl) (by kernel_rfl) (.tmp 102) Ty.ag_voxel_api_Point rfl (litEv (by kernel_rfl))) rfl (by decide) ?_
      refine litVal (v := .bool true) rfl (wgY rfl rfl rfl (by decide) (by kernel_rfl)) (boolTo (decide_eq_true rfl) (eqPtRun (.tmp 101) (.tmp 103) (befOf (walk a b) a k) (befOf (walk a b) a k) (by kernel_rfl) (by kernel_rfl) (by kernel_rfl) (by kernel_rfl) rfl (litEv (by kernel_rfl)) (litEv (by kernel_rfl)))) rfl (by decide) ?_
      refine lk (v := .bool true) rfl rfl rfl ?_
      refine lk (v := .bool true) rfl rfl rfl ?_
      refine litVal (v := .pointer (some ⟨g95, 6, none⟩)) rfl (wgY rfl rfl rfl (by decide) (by kernel_rfl)) (litRun (by kernel_rfl)) rfl (by decide) ?_
      refine litVal (v := .int .i64 (k : Int)) rfl (wgY rfl rfl rfl (by decide) (by kernel_rfl)) (gLoad (v := .int .i64 (k : Int)) (k := 6) 6 hm123 rfl (by kernel_rfl) (.tmp 107) (by kernel_rfl) rfl (litEv (by kernel_rfl))) rfl (by decide) ?_
      refine litVal (v := .pointer (some ⟨g104, 6, none⟩)) rfl (wgY rfl rfl rfl (by decide) (by kernel_rfl)) (litRun (by kernel_rfl)) rfl (by decide) ?_
      refine litVal (v := .int .i64 (k : Int)) rfl (wgY rfl rfl rfl (by decide) (by kernel_rfl)) (gLoad (v := .int .i64 (k : Int)) (k := 6) 7 hm123 rfl (by kernel_rfl) (.tmp 109) (by kernel_rfl) rfl (litEv (by kernel_rfl))) rfl (by decide) ?_
      refine litVal (v := .bool true) rfl (wgY rfl rfl rfl (by decide) (by kernel_rfl)) (boolTo (by simp) (eqlRun (A := (k : Int)) (B := (k : Int)) (.tmp 108) (.tmp 110) rfl (litEv (by kernel_rfl)) (litEv (by kernel_rfl)))) rfl (by decide) ?_
      refine lk (v := .bool true) rfl rfl rfl ?_
      refine lk (v := .bool true) rfl rfl rfl ?_
      refine litVal (v := .int .i64 0) rfl (wgY rfl rfl rfl (by decide) (by kernel_rfl)) (litRun (by kernel_rfl)) rfl (by decide) ?_
      refine litVal (v := .int .i64 0) rfl (wgY rfl rfl rfl (by decide) (by kernel_rfl)) (litRun (by kernel_rfl)) rfl (by decide) ?_
      refine litVal (v := .bool true) rfl (wgY rfl rfl rfl (by decide) (by kernel_rfl)) (litRun (by kernel_rfl)) rfl (by decide) ?_
      refine lk (v := .bool true) rfl rfl rfl ?_
      refine lk (v := .bool true) rfl rfl rfl ?_
      refine litVal (v := .bool false) rfl (wgY rfl rfl rfl (by decide) (by kernel_rfl)) (litRun (by kernel_rfl)) rfl (by decide) ?_
      refine litVal (v := .bool false) rfl (wgY rfl rfl rfl (by decide) (by kernel_rfl)) (litRun (by kernel_rfl)) rfl (by decide) ?_
      refine litVal (v := .bool true) rfl (wgY rfl rfl rfl (by decide) (by kernel_rfl)) (litRun (by kernel_rfl)) rfl (by decide) ?_
      refine lk (v := .bool true) rfl rfl rfl ?_
      refine lk (v := .bool true) rfl rfl rfl ?_
      refine litVal (v := .int .i64 0) rfl (wgY rfl rfl rfl (by decide) (by kernel_rfl)) (litRun (by kernel_rfl)) rfl (by decide) ?_
      refine litVal (v := .int .i64 0) rfl (wgY rfl rfl rfl (by decide) (by kernel_rfl)) (litRun (by kernel_rfl)) rfl (by decide) ?_
      refine litVal (v := .bool true) rfl (wgY rfl rfl rfl (by decide) (by kernel_rfl)) (litRun (by kernel_rfl)) rfl (by decide) ?_
      refine lk (v := .bool true) rfl rfl rfl ?_
      refine lk (v := .bool true) rfl rfl rfl ?_
      refine plD ?_
      refine then_normal (hK127 _ _ ?_)
      refine wpPrune [(8, .bool true)] ⟨litGet (by kernel_rfl), trivial⟩ (fun X128 => ?_)
      refine wp_ret ?_
      refine bodyPost_ret (v := .bool true) (gRes1 rfl (gResTmp (t := 8) (v := .bool true) (litGet (by kernel_rfl)))) rfl ?_
      exact ⟨rfl, hm123.bel⟩
    rw [h119]
    refine lk (v := .tuple #[.bool true, .int .i64 0]) rfl rfl rfl ?_
    refine lk (v := .bool true) rfl rfl rfl ?_
    refine lk (v := .int .i64 0) rfl rfl rfl ?_
    refine lk (v := .bool true) rfl rfl rfl ?_
    refine lk (v := .int .i64 0) rfl rfl rfl ?_
    refine plD ?_
    refine then_normal (hK115 _ _ ?_)
    refine wpPrune [(1, .slice A2 T.length c2), (4, .pointer (some ⟨g2, 0, none⟩)), (6, .pointer (some ⟨g5, 0, none⟩)), (7, .pointer (some ⟨g8, 0, none⟩)), (8, .bool false), (9, .bool true), (11, .pointer (some ⟨g95, 0, none⟩)), (12, .int .i64 0), (13, .pointer (some ⟨g104, 0, none⟩)), (14, .int .i64 0), (15, .pointer (some ⟨g110, 0, none⟩)), (16, .bool true), (17, .int .i64 0)] ⟨litGet (by kernel_rfl), ⟨litGet (by kernel_rfl), ⟨litGet (by kernel_rfl), ⟨litGet (by kernel_rfl), ⟨litGet (by kernel_rfl), ⟨litGet (by kernel_rfl), ⟨litGet (by kernel_rfl), ⟨litGet (by kernel_rfl), ⟨litGet (by kernel_rfl), ⟨litGet (by kernel_rfl), ⟨litGet (by kernel_rfl), ⟨litGet (by kernel_rfl), ⟨litGet (by kernel_rfl), trivial⟩⟩⟩⟩⟩⟩⟩⟩⟩⟩⟩⟩⟩ (fun X129 => ?_)
    refine wp_seq_k fun K130 hK130 => ?_
    refine plStart ?_
    refine litVal (v := .agg (gcs g A c).toArray) rfl (wn rfl) (gLoadAg (vs := gcs g A c) (k := 0) 3 hm117 rfl (by kernel_rfl) (by kernel_rfl) (.tmp 4) Ty.ag_voxel_api_Grid rfl (litEv (by kernel_rfl))) rfl (by decide) ?_
    refine lk (v := .slice A2 T.length c2) rfl rfl rfl ?_
    refine litVal (v := .agg (pcs a).toArray) rfl (wn rfl) (gLoadAg (vs := pcs a) (k := 0) 4 hm117 rfl (by kernel_rfl) (by kernel_rfl) (.tmp 6) Ty.ag_voxel_api_Point rfl (litEv (by kernel_rfl))) rfl (by decide) ?_
    refine litVal (v := .agg (pcs b).toArray) rfl (wn rfl) (gLoadAg (vs := pcs b) (k := 0) 5 hm117 rfl (by kernel_rfl) (by kernel_rfl) (.tmp 7) Ty.ag_voxel_api_Point rfl (litEv (by kernel_rfl))) rfl (by decide) ?_
    refine plCall (i := 4) 19 [.agg (gcs g A c).toArray, .slice A2 T.length c2, .agg (pcs a).toArray, .agg (pcs b).toArray] [] [] rfl (by kernel_rfl) (wn rfl) rfl (litEv (by kernel_rfl)) (litArgs (by kernel_rfl)) (by have h := refVisible_any g hv T A c A2 c2 a b (of_decide_eq_true h18) w116 (hm117.rd 1 rfl) (hm117.rd 2 rfl); rw [hck] at h; exact h) ?_
    rintro e w131 ⟨rfl, hbz⟩
    have hm132 := hm117.below hbz
    clear hbz hm117
    rw [h119]
    refine ⟨_, rfl, ?_⟩
    refine qP rfl ?_
    refine lk (v := .tuple #[.bool true, .int .i64 0]) rfl rfl rfl ?_
    refine lk (v := .bool true) rfl rfl rfl ?_
    refine lk (v := .int .i64 0) rfl rfl rfl ?_
    refine lk (v := .bool true) rfl rfl rfl ?_
    refine lk (v := .int .i64 0) rfl rfl rfl ?_
    refine plD ?_
    refine then_normal (hK130 _ _ ?_)
    refine wp_seq_k fun K133 hK133 => ?_
    refine wp_seq_k fun K134 hK134 => ?_
    refine plStart ?_
    refine lk (v := .int .i64 0) rfl rfl rfl ?_
    refine lk (v := .bool true) rfl rfl rfl ?_
    refine lk (v := .bool true) rfl rfl rfl ?_
    refine litVal (v := .agg (pcs last93).toArray) rfl (wgY rfl rfl rfl (by decide) (by kernel_rfl)) (gLoadAg (vs := pcs last93) (k := 0) 8 hm132 rfl (by kernel_rfl) (by kernel_rfl) (.tmp 15) Ty.ag_voxel_api_Point rfl (litEv (by kernel_rfl))) rfl (by decide) ?_
    refine litVal (v := .pointer (some ⟨g95, 0, none⟩)) rfl (wgY rfl rfl rfl (by decide) (by kernel_rfl)) (litRun (by kernel_rfl)) rfl (by decide) ?_
    refine litVal (v := .agg (pcs q).toArray) rfl (wgY rfl rfl rfl (by decide) (by kernel_rfl)) (gLoadAg (vs := pcs q) (k := 0) 6 hm132 rfl (by kernel_rfl) (by kernel_rfl) (.tmp 87) Ty.ag_voxel_api_Point rfl (litEv (by kernel_rfl))) rfl (by decide) ?_
    refine litVal (v := .bool false) rfl (wgY rfl rfl rfl (by decide) (by kernel_rfl)) (boolTo (by rw [decide_eq_true hlq]; rfl) (neqPtRun (.tmp 86) (.tmp 88) last93 q (by kernel_rfl) (by kernel_rfl) (by kernel_rfl) (by kernel_rfl) rfl (litEv (by kernel_rfl)) (litEv (by kernel_rfl)))) rfl (by decide) ?_
    refine lk (v := .bool false) rfl rfl rfl ?_
    refine plD ?_
    refine then_normal (hK134 _ _ ?_)
    refine wpPrune [(8, .bool false), (9, .bool true), (11, .pointer (some ⟨g95, 0, none⟩)), (12, .int .i64 0), (13, .pointer (some ⟨g104, 0, none⟩)), (14, .int .i64 0), (16, .bool true), (17, .int .i64 0), (18, .bool true), (19, .int .i64 0), (90, .bool false)] ⟨litGet (by kernel_rfl), ⟨litGet (by kernel_rfl), ⟨litGet (by kernel_rfl), ⟨litGet (by kernel_rfl), ⟨litGet (by kernel_rfl), ⟨litGet (by kernel_rfl), ⟨litGet (by kernel_rfl), ⟨litGet (by kernel_rfl), ⟨litGet (by kernel_rfl), ⟨litGet (by kernel_rfl), ⟨litGet (by kernel_rfl), trivial⟩⟩⟩⟩⟩⟩⟩⟩⟩⟩⟩ (fun X135 => ?_)
    refine wp_cond_false (litEv (by kernel_rfl)) ?_
    refine wp_skip ?_
    refine then_normal (hK133 _ _ ?_)
    refine wp_seq_k fun K136 hK136 => ?_
    refine plStart ?_
    refine lk (v := .bool true) rfl rfl rfl ?_
    refine lk (v := .bool true) rfl rfl rfl ?_
    refine litVal (v := .pointer (some ⟨g95, 0, none⟩)) rfl (wgY rfl rfl rfl (by decide) (by kernel_rfl)) (litRun (by kernel_rfl)) rfl (by decide) ?_
    refine litVal (v := .agg (pcs q).toArray) rfl (wgY rfl rfl rfl (by decide) (by kernel_rfl)) (gLoadAg (vs := pcs q) (k := 0) 6 hm132 rfl (by kernel_rfl) (by kernel_rfl) (.tmp 93) Ty.ag_voxel_api_Point rfl (litEv (by kernel_rfl))) rfl (by decide) ?_
    refine litVal (v := .pointer (some ⟨g104, 0, none⟩)) rfl (wgY rfl rfl rfl (by decide) (by kernel_rfl)) (litRun (by kernel_rfl)) rfl (by decide) ?_
    refine litVal (v := .agg (pcs q).toArray) rfl (wgY rfl rfl rfl (by decide) (by kernel_rfl)) (gLoadAg (vs := pcs q) (k := 0) 7 hm132 rfl (by kernel_rfl) (by kernel_rfl) (.tmp 95) Ty.ag_voxel_api_Point rfl (litEv (by kernel_rfl))) rfl (by decide) ?_
    refine litVal (v := .bool true) rfl (wgY rfl rfl rfl (by decide) (by kernel_rfl)) (boolTo (decide_eq_true rfl) (eqPtRun (.tmp 94) (.tmp 96) q q (by kernel_rfl) (by kernel_rfl) (by kernel_rfl) (by kernel_rfl) rfl (litEv (by kernel_rfl)) (litEv (by kernel_rfl)))) rfl (by decide) ?_
    refine lk (v := .bool true) rfl rfl rfl ?_
    refine lk (v := .bool true) rfl rfl rfl ?_
    refine litVal (v := .pointer (some ⟨g95, 3, none⟩)) rfl (wgY rfl rfl rfl (by decide) (by kernel_rfl)) (litRun (by kernel_rfl)) rfl (by decide) ?_
    refine litVal (v := .agg (pcs (befOf (walk a b) a k)).toArray) rfl (wgY rfl rfl rfl (by decide) (by kernel_rfl)) (gLoadAg (vs := pcs (befOf (walk a b) a k)) (k := 3) 6 hm132 rfl (by kernel_rfl) (by kernel_rfl) (.tmp 100) Ty.ag_voxel_api_Point rfl (litEv (by kernel_rfl))) rfl (by decide) ?_
    refine litVal (v := .pointer (some ⟨g104, 3, none⟩)) rfl (wgY rfl rfl rfl (by decide) (by kernel_rfl)) (litRun (by kernel_rfl)) rfl (by decide) ?_
    refine litVal (v := .agg (pcs (befOf (walk a b) a k)).toArray) rfl (wgY rfl rfl rfl (by decide) (by kernel_rfl)) (gLoadAg (vs := pcs (befOf (walk a b) a k)) (k := 3) 7 hm132 rfl (by kernel_rfl) (by kernel_rfl) (.tmp 102) Ty.ag_voxel_api_Point rfl (litEv (by kernel_rfl))) rfl (by decide) ?_
    refine litVal (v := .bool true) rfl (wgY rfl rfl rfl (by decide) (by kernel_rfl)) (boolTo (decide_eq_true rfl) (eqPtRun (.tmp 101) (.tmp 103) (befOf (walk a b) a k) (befOf (walk a b) a k) (by kernel_rfl) (by kernel_rfl) (by kernel_rfl) (by kernel_rfl) rfl (litEv (by kernel_rfl)) (litEv (by kernel_rfl)))) rfl (by decide) ?_
    refine lk (v := .bool true) rfl rfl rfl ?_
    refine lk (v := .bool true) rfl rfl rfl ?_
    refine litVal (v := .pointer (some ⟨g95, 6, none⟩)) rfl (wgY rfl rfl rfl (by decide) (by kernel_rfl)) (litRun (by kernel_rfl)) rfl (by decide) ?_
    refine litVal (v := .int .i64 (k : Int)) rfl (wgY rfl rfl rfl (by decide) (by kernel_rfl)) (gLoad (v := .int .i64 (k : Int)) (k := 6) 6 hm132 rfl (by kernel_rfl) (.tmp 107) (by kernel_rfl) rfl (litEv (by kernel_rfl))) rfl (by decide) ?_
    refine litVal (v := .pointer (some ⟨g104, 6, none⟩)) rfl (wgY rfl rfl rfl (by decide) (by kernel_rfl)) (litRun (by kernel_rfl)) rfl (by decide) ?_
    refine litVal (v := .int .i64 (k : Int)) rfl (wgY rfl rfl rfl (by decide) (by kernel_rfl)) (gLoad (v := .int .i64 (k : Int)) (k := 6) 7 hm132 rfl (by kernel_rfl) (.tmp 109) (by kernel_rfl) rfl (litEv (by kernel_rfl))) rfl (by decide) ?_
    refine litVal (v := .bool true) rfl (wgY rfl rfl rfl (by decide) (by kernel_rfl)) (boolTo (by simp) (eqlRun (A := (k : Int)) (B := (k : Int)) (.tmp 108) (.tmp 110) rfl (litEv (by kernel_rfl)) (litEv (by kernel_rfl)))) rfl (by decide) ?_
    refine lk (v := .bool true) rfl rfl rfl ?_
    refine lk (v := .bool true) rfl rfl rfl ?_
    refine litVal (v := .int .i64 0) rfl (wgY rfl rfl rfl (by decide) (by kernel_rfl)) (litRun (by kernel_rfl)) rfl (by decide) ?_
    refine litVal (v := .int .i64 0) rfl (wgY rfl rfl rfl (by decide) (by kernel_rfl)) (litRun (by kernel_rfl)) rfl (by decide) ?_
    refine litVal (v := .bool true) rfl (wgY rfl rfl rfl (by decide) (by kernel_rfl)) (litRun (by kernel_rfl)) rfl (by decide) ?_
    refine lk (v := .bool true) rfl rfl rfl ?_
    refine lk (v := .bool true) rfl rfl rfl ?_
    refine litVal (v := .bool true) rfl (wgY rfl rfl rfl (by decide) (by kernel_rfl)) (litRun (by kernel_rfl)) rfl (by decide) ?_
    refine litVal (v := .bool true) rfl (wgY rfl rfl rfl (by decide) (by kernel_rfl)) (litRun (by kernel_rfl)) rfl (by decide) ?_
    refine litVal (v := .bool true) rfl (wgY rfl rfl rfl (by decide) (by kernel_rfl)) (litRun (by kernel_rfl)) rfl (by decide) ?_
    refine lk (v := .bool true) rfl rfl rfl ?_
    refine lk (v := .bool true) rfl rfl rfl ?_
    refine litVal (v := .int .i64 0) rfl (wgY rfl rfl rfl (by decide) (by kernel_rfl)) (litRun (by kernel_rfl)) rfl (by decide) ?_
    refine litVal (v := .int .i64 0) rfl (wgY rfl rfl rfl (by decide) (by kernel_rfl)) (litRun (by kernel_rfl)) rfl (by decide) ?_
    refine litVal (v := .bool true) rfl (wgY rfl rfl rfl (by decide) (by kernel_rfl)) (litRun (by kernel_rfl)) rfl (by decide) ?_
    refine lk (v := .bool true) rfl rfl rfl ?_
    refine lk (v := .bool true) rfl rfl rfl ?_
    refine plD ?_
    refine then_normal (hK136 _ _ ?_)
    refine wpPrune [(8, .bool true)] ⟨litGet (by kernel_rfl), trivial⟩ (fun X137 => ?_)
    refine wp_ret ?_
    refine bodyPost_ret (v := .bool true) (gRes1 rfl (gResTmp (t := 8) (v := .bool true) (litGet (by kernel_rfl)))) rfl ?_
    exact ⟨rfl, hm132.bel⟩
  refine lk (v := .pointer (some ⟨g34, 0, none⟩)) rfl rfl rfl ?_
  refine lk (v := .iface 39 (.pointer (some ⟨g34, 0, none⟩))) rfl rfl rfl ?_
  refine lk (v := .slice A2 T.length c2) rfl rfl rfl ?_
  refine litVal (v := .agg (pcs a).toArray) rfl (wn rfl) (gLoadAg (vs := pcs a) (k := 0) 3 hm35 rfl (by kernel_rfl) (by kernel_rfl) (.tmp 6) Ty.ag_voxel_api_Point rfl (litEv (by kernel_rfl))) rfl (by decide) ?_
  refine litVal (v := .agg (pcs b).toArray) rfl (wn rfl) (gLoadAg (vs := pcs b) (k := 0) 4 hm35 rfl (by kernel_rfl) (by kernel_rfl) (.tmp 7) Ty.ag_voxel_api_Point rfl (litEv (by kernel_rfl))) rfl (by decide) ?_
  have hm138 : Mem w w36 [.rd A2 8 T.length c2 (mts T), .rd A 1 g.cells.length c (ics g.cells), .arr g2 36 (gcs g A c), .arr g5 23 (pcs a), .arr g8 23 (pcs b), .arr g34 41 ([.int .i64 g.box.mn.x, .int .i64 g.box.mn.y, .int .i64 g.box.mn.z, .int .i64 g.box.mx.x, .int .i64 g.box.mx.y, .int .i64 g.box.mx.z, .slice A g.cells.length c, .int .i64 0, .int .i64 0, .int .i64 0])] := Mem.front 1 hm35 rfl
  clear hm35
  have hm139 : Mem w w36 [.rd A 1 g.cells.length c (ics g.cells), .rd A2 8 T.length c2 (mts T), .arr g2 36 (gcs g A c), .arr g5 23 (pcs a), .arr g8 23 (pcs b), .arr g34 41 ([.int .i64 g.box.mn.x, .int .i64 g.box.mn.y, .int .i64 g.box.mn.z, .int .i64 g.box.mx.x, .int .i64 g.box.mx.y, .int .i64 g.box.mx.z, .slice A g.cells.length c, .int .i64 0, .int .i64 0, .int .i64 0])] := Mem.front 1 hm138 rfl
  clear hm138
  have hm140 : Mem w w36 [.arr g34 41 ([.int .i64 g.box.mn.x, .int .i64 g.box.mn.y, .int .i64 g.box.mn.z, .int .i64 g.box.mx.x, .int .i64 g.box.mx.y, .int .i64 g.box.mx.z, .slice A g.cells.length c, .int .i64 0, .int .i64 0, .int .i64 0]), .rd A 1 g.cells.length c (ics g.cells), .rd A2 8 T.length c2 (mts T), .arr g2 36 (gcs g A c), .arr g5 23 (pcs a), .arr g8 23 (pcs b)] := Mem.front 5 hm139 rfl
  clear hm139
  refine plCall (i := 5) 16 [.iface 39 (.pointer (some ⟨g34, 0, none⟩)), .slice A2 T.length c2, .agg (pcs a).toArray, .agg (pcs b).toArray] [] [] rfl (by kernel_rfl) (wn rfl) rfl (litEv (by kernel_rfl)) (litArgs (by kernel_rfl)) (by have h := first_any (M := [.arr g2 36 (gcs g A c), .arr g5 23 (pcs a), .arr g8 23 (pcs b)]) g hv T A c A2 c2 g34 p0 a b hm140; rw [firstH_err hck, firstE_err hck] at h; exact h) ?_
  rintro e w141 ⟨last143, rfl, hm142, hl144⟩
  clear hm140
  refine ⟨_, rfl, ?_⟩
  refine qP rfl ?_
  refine lk (v := .tuple #[.agg (hcs p0 p0 0).toArray, .int .i64 (ckE a b)]) rfl rfl rfl ?_
  refine lk (v := .agg (hcs p0 p0 0).toArray) rfl rfl rfl ?_
  refine lk (v := .int .i64 (ckE a b)) rfl rfl rfl ?_
  refine plAlloc (z := [.int .i64 0, .int .i64 0, .int .i64 0, .int .i64 0, .int .i64 0, .int .i64 0, .int .i64 0]) Ty.ag_voxel_ray_Hit hm142 (i := 9) rfl (wn rfl) rfl ?_
  intro g145 w147 hm146
  clear hm142
  try simp only [List.cons_append, List.nil_append, List.set_cons_succ, List.set_cons_zero] at hm146
  refine qP rfl ?_
  refine plStore 6 Ty.ag_voxel_ray_Hit hm146 rfl (i := 10) (cs := hcs p0 p0 0) rfl (wn rfl) rfl (litEv (by kernel_rfl)) (litEv (by kernel_rfl)) rfl rfl (by kernel_rfl) ?_
  intro w149 hm148
  clear hm146
  try simp only [List.cons_append, List.nil_append, List.set_cons_succ, List.set_cons_zero] at hm148
  refine qNone rfl ?_
  refine lk (v := .int .i64 (ckE a b)) rfl rfl rfl ?_
  refine plD ?_
  refine then_normal (hK37 _ _ ?_)
  refine wpPrune [(1, .slice A2 T.length c2), (4, .pointer (some ⟨g2, 0, none⟩)), (6, .pointer (some ⟨g5, 0, none⟩)), (7, .pointer (some ⟨g8, 0, none⟩)), (8, .bool false), (9, .bool true), (10, .pointer (some ⟨g34, 0, none⟩)), (11, .pointer (some ⟨g145, 0, none⟩)), (12, .int .i64 (ckE a b))] ⟨litGet (by kernel_rfl), ⟨litGet (by kernel_rfl), ⟨litGet (by kernel_rfl), ⟨litGet (by kernel_rfl), ⟨litGet (by kernel_rfl), ⟨litGet (by kernel_rfl), ⟨litGet (by kernel_rfl), ⟨litGet (by kernel_rfl), ⟨litGet (by kernel_rfl), trivial⟩⟩⟩⟩⟩⟩⟩⟩⟩ (fun X150 => ?_)
  refine wp_seq_k fun K151 hK151 => ?_
  refine plStart ?_
  refine litVal (v := .agg (gcs g A c).toArray) rfl (wn rfl) (gLoadAg (vs := gcs g A c) (k := 0) 3 hm148 rfl (by kernel_rfl) (by kernel_rfl) (.tmp 4) Ty.ag_voxel_api_Grid rfl (litEv (by kernel_rfl))) rfl (by decide) ?_
  refine lk (v := .slice A2 T.length c2) rfl rfl rfl ?_
  refine litVal (v := .agg (pcs a).toArray) rfl (wn rfl) (gLoadAg (vs := pcs a) (k := 0) 4 hm148 rfl (by kernel_rfl) (by kernel_rfl) (.tmp 6) Ty.ag_voxel_api_Point rfl (litEv (by kernel_rfl))) rfl (by decide) ?_
  refine litVal (v := .agg (pcs b).toArray) rfl (wn rfl) (gLoadAg (vs := pcs b) (k := 0) 5 hm148 rfl (by kernel_rfl) (by kernel_rfl) (.tmp 7) Ty.ag_voxel_api_Point rfl (litEv (by kernel_rfl))) rfl (by decide) ?_
  refine plCall (i := 4) 17 [.agg (gcs g A c).toArray, .slice A2 T.length c2, .agg (pcs a).toArray, .agg (pcs b).toArray] [] [] rfl (by kernel_rfl) (wn rfl) rfl (litEv (by kernel_rfl)) (litArgs (by kernel_rfl)) (by have h := refFirst_any g hv T A c A2 c2 a b (of_decide_eq_true h18) w149 (hm148.rd 1 rfl) (hm148.rd 2 rfl); rw [firstH_err hck, firstE_err hck] at h; exact h) ?_
  rintro e w152 ⟨rfl, hbz⟩
  have hm153 := hm148.below hbz
  clear hbz hm148
  refine ⟨_, rfl, ?_⟩
  refine qP rfl ?_
  refine lk (v := .tuple #[.agg (hcs p0 p0 0).toArray, .int .i64 (ckE a b)]) rfl rfl rfl ?_
  refine lk (v := .agg (hcs p0 p0 0).toArray) rfl rfl rfl ?_
  refine lk (v := .int .i64 (ckE a b)) rfl rfl rfl ?_
  refine plAlloc (z := [.int .i64 0, .int .i64 0, .int .i64 0, .int .i64 0, .int .i64 0, .int .i64 0, .int .i64 0]) Ty.ag_voxel_voxelref42_Hit hm153 (i := 8) rfl (wn rfl) rfl ?_
  intro g154 w156 hm155
  clear hm153
  try simp only [List.cons_append, List.nil_append, List.set_cons_succ, List.set_cons_zero] at hm155
  refine qP rfl ?_
  refine plStore 7 Ty.ag_voxel_voxelref42_Hit hm155 rfl (i := 9) (cs := hcs p0 p0 0) rfl (wn rfl) rfl (litEv (by kernel_rfl)) (litEv (by kernel_rfl)) rfl rfl (by kernel_rfl) ?_
  intro w158 hm157
  clear hm155
  try simp only [List.cons_append, List.nil_append, List.set_cons_succ, List.set_cons_zero] at hm157
  refine qNone rfl ?_
  refine lk (v := .int .i64 (ckE a b)) rfl rfl rfl ?_
  refine plD ?_
  refine then_normal (hK151 _ _ ?_)
  refine wp_seq_k fun K159 hK159 => ?_
  refine plStart ?_
  refine lk (v := .pointer (some ⟨g34, 0, none⟩)) rfl rfl rfl ?_
  refine lk (v := .pointer (some ⟨g34, 0, none⟩)) rfl rfl rfl ?_
  refine lk (v := .pointer (some ⟨g34, 7, none⟩)) rfl rfl rfl ?_
  refine litVal (v := .agg (pcs last143).toArray) rfl (wn rfl) (gLoadAg (vs := pcs last143) (k := 7) 0 hm157 rfl (by kernel_rfl) (by kernel_rfl) (.tmp 64) Ty.ag_voxel_api_Point rfl (litEv (by kernel_rfl))) rfl (by decide) ?_
  refine plAlloc (z := [.int .i64 0, .int .i64 0, .int .i64 0]) Ty.ag_voxel_api_Point hm157 (i := 4) rfl (wn rfl) rfl ?_
  intro g160 w162 hm161
  clear hm157
  try simp only [List.cons_append, List.nil_append, List.set_cons_succ, List.set_cons_zero] at hm161
  refine qP rfl ?_
  refine plStore 8 Ty.ag_voxel_api_Point hm161 rfl (i := 5) (cs := pcs last143) rfl (wn rfl) rfl (litEv (by kernel_rfl)) (litEv (by kernel_rfl)) rfl rfl (by kernel_rfl) ?_
  intro w164 hm163
  clear hm161
  try simp only [List.cons_append, List.nil_append, List.set_cons_succ, List.set_cons_zero] at hm163
  refine qNone rfl ?_
  refine plD ?_
  refine then_normal (hK159 _ _ ?_)
  refine wp_seq_k fun K165 hK165 => ?_
  refine plStart ?_
  refine lk (v := .pointer (some ⟨g34, 0, none⟩)) rfl rfl rfl ?_
  refine lk (v := .iface 39 (.pointer (some ⟨g34, 0, none⟩))) rfl rfl rfl ?_
  refine lk (v := .slice A2 T.length c2) rfl rfl rfl ?_
  refine litVal (v := .agg (pcs a).toArray) rfl (wn rfl) (gLoadAg (vs := pcs a) (k := 0) 4 hm163 rfl (by kernel_rfl) (by kernel_rfl) (.tmp 6) Ty.ag_voxel_api_Point rfl (litEv (by kernel_rfl))) rfl (by decide) ?_
  refine litVal (v := .agg (pcs b).toArray) rfl (wn rfl) (gLoadAg (vs := pcs b) (k := 0) 5 hm163 rfl (by kernel_rfl) (by kernel_rfl) (.tmp 7) Ty.ag_voxel_api_Point rfl (litEv (by kernel_rfl))) rfl (by decide) ?_
  refine plCall (i := 5) 18 [.iface 39 (.pointer (some ⟨g34, 0, none⟩)), .slice A2 T.length c2, .agg (pcs a).toArray, .agg (pcs b).toArray] [] [] rfl (by kernel_rfl) (wn rfl) rfl (litEv (by kernel_rfl)) (litArgs (by kernel_rfl)) (visible_any (M := [.arr g2 36 (gcs g A c), .arr g5 23 (pcs a), .arr g8 23 (pcs b), .arr g145 43 (hcs p0 p0 0), .arr g154 46 (hcs p0 p0 0), .arr g160 23 (pcs last143)]) g hv T A c A2 c2 g34 last143 a b hm163) ?_
  rintro e w166 ⟨last168, rfl, hm167⟩
  clear hm163
  refine ⟨_, rfl, ?_⟩
  refine qP rfl ?_
  rcases bool_or (visR g T a b) with h169 | h169
  · rw [h169]
    refine lk (v := .tuple #[.bool false, .int .i64 (ckE a b)]) rfl rfl rfl ?_
    refine lk (v := .bool false) rfl rfl rfl ?_
    refine lk (v := .int .i64 (ckE a b)) rfl rfl rfl ?_
    refine lk (v := .bool false) rfl rfl rfl ?_
    refine lk (v := .int .i64 (ckE a b)) rfl rfl rfl ?_
    refine plD ?_
    refine then_normal (hK165 _ _ ?_)
    refine wpPrune [(1, .slice A2 T.length c2), (4, .pointer (some ⟨g2, 0, none⟩)), (6, .pointer (some ⟨g5, 0, none⟩)), (7, .pointer (some ⟨g8, 0, none⟩)), (8, .bool false), (9, .bool true), (11, .pointer (some ⟨g145, 0, none⟩)), (12, .int .i64 (ckE a b)), (13, .pointer (some ⟨g154, 0, none⟩)), (14, .int .i64 (ckE a b)), (15, .pointer (some ⟨g160, 0, none⟩)), (16, .bool false), (17, .int .i64 (ckE a b))] ⟨litGet (by kernel_rfl), ⟨litGet (by kernel_rfl), ⟨litGet (by kernel_rfl), ⟨litGet (by kernel_rfl), ⟨litGet (by kernel_rfl), ⟨litGet (by kernel_rfl), ⟨litGet (by kernel_rfl), ⟨litGet (by kernel_rfl), ⟨litGet (by kernel_rfl), ⟨litGet (by kernel_rfl), ⟨litGet (by kernel_rfl), ⟨litGet (by kernel_rfl), ⟨litGet (by kernel_rfl), trivial⟩⟩⟩⟩⟩⟩⟩⟩⟩⟩⟩⟩⟩ (fun X170 => ?_)
    refine wp_seq_k fun K171 hK171 => ?_
    refine plStart ?_
    refine litVal (v := .agg (gcs g A c).toArray) rfl (wn rfl) (gLoadAg (vs := gcs g A c) (k := 0) 3 hm167 rfl (by kernel_rfl) (by kernel_rfl) (.tmp 4) Ty.ag_voxel_api_Grid rfl (litEv (by kernel_rfl))) rfl (by decide) ?_
    refine lk (v := .slice A2 T.length c2) rfl rfl rfl ?_
    refine litVal (v := .agg (pcs a).toArray) rfl (wn rfl) (gLoadAg (vs := pcs a) (k := 0) 4 hm167 rfl (by kernel_rfl) (by kernel_rfl) (.tmp 6) Ty.ag_voxel_api_Point rfl (litEv (by kernel_rfl))) rfl (by decide) ?_
    refine litVal (v := .agg (pcs b).toArray) rfl (wn rfl) (gLoadAg (vs := pcs b) (k := 0) 5 hm167 rfl (by kernel_rfl) (by kernel_rfl) (.tmp 7) Ty.ag_voxel_api_Point rfl (litEv (by kernel_rfl))) rfl (by decide) ?_
    refine plCall (i := 4) 19 [.agg (gcs g A c).toArray, .slice A2 T.length c2, .agg (pcs a).toArray, .agg (pcs b).toArray] [] [] rfl (by kernel_rfl) (wn rfl) rfl (litEv (by kernel_rfl)) (litArgs (by kernel_rfl)) (refVisible_any g hv T A c A2 c2 a b (of_decide_eq_true h18) w166 (hm167.rd 1 rfl) (hm167.rd 2 rfl)) ?_
    rintro e w172 ⟨rfl, hbz⟩
    have hm173 := hm167.below hbz
    clear hbz hm167
    rw [h169]
    refine ⟨_, rfl, ?_⟩
    refine qP rfl ?_
    refine lk (v := .tuple #[.bool false, .int .i64 (ckE a b)]) rfl rfl rfl ?_
    refine lk (v := .bool false) rfl rfl rfl ?_
    refine lk (v := .int .i64 (ckE a b)) rfl rfl rfl ?_
    refine lk (v := .bool false) rfl rfl rfl ?_
    refine lk (v := .int .i64 (ckE a b)) rfl rfl rfl ?_
    refine plD ?_
    refine then_normal (hK171 _ _ ?_)
    refine wp_seq_k fun K174 hK174 => ?_
    refine wp_seq_k fun K175 hK175 => ?_
    refine plStart ?_
    refine lk (v := .int .i64 (ckE a b)) rfl rfl rfl ?_
    refine litVal (v := .bool false) rfl (wn rfl) (boolTo (decide_eq_false hck) (eqlRun (A := (ckE a b)) (B := 0) (.tmp 83) (.const (.int .i64 0)) rfl (litEv (by kernel_rfl)) (litEv (by kernel_rfl)))) rfl (by decide) ?_
    refine lk (v := .bool false) rfl rfl rfl ?_
    refine plSkip (i := 3) rfl (wgN rfl rfl rfl (by decide) (by kernel_rfl)) ?_
    refine qP rfl ?_
    refine plSkip (i := 4) rfl (wgN rfl rfl rfl (by decide) (by kernel_rfl)) ?_
    refine qP rfl ?_
    refine plSkip (i := 5) rfl (wgN rfl rfl rfl (by decide) (by kernel_rfl)) ?_
    refine qP rfl ?_
    refine plSkip (i := 6) rfl (wgN rfl rfl rfl (by decide) (by kernel_rfl)) ?_
    refine qP rfl ?_
    refine lk (v := .bool false) rfl rfl rfl ?_
    refine plD ?_
    refine then_normal (hK175 _ _ ?_)
    refine wpPrune [(8, .bool false), (9, .bool true), (11, .pointer (some ⟨g145, 0, none⟩)), (12, .int .i64 (ckE a b)), (13, .pointer (some ⟨g154, 0, none⟩)), (14, .int .i64 (ckE a b)), (16, .bool false), (17, .int .i64 (ckE a b)), (18, .bool false), (19, .int .i64 (ckE a b)), (90, .bool false)] ⟨litGet (by kernel_rfl), ⟨litGet (by kernel_rfl), ⟨litGet (by kernel_rfl), ⟨litGet (by kernel_rfl), ⟨litGet (by kernel_rfl), ⟨litGet (by kernel_rfl), ⟨litGet (by kernel_rfl), ⟨litGet (by kernel_rfl), ⟨litGet (by kernel_rfl), ⟨litGet (by kernel_rfl), ⟨litGet (by kernel_rfl), trivial⟩⟩⟩⟩⟩⟩⟩⟩⟩⟩⟩ (fun X176 => ?_)
    refine wp_cond_false (litEv (by kernel_rfl)) ?_
    refine wp_skip ?_
    refine then_normal (hK174 _ _ ?_)
    refine wp_seq_k fun K177 hK177 => ?_
    refine plStart ?_
    refine lk (v := .bool true) rfl rfl rfl ?_
    refine lk (v := .bool true) rfl rfl rfl ?_
    refine litVal (v := .pointer (some ⟨g145, 0, none⟩)) rfl (wgY rfl rfl rfl (by decide) (by kernel_rfl)) (litRun (by kernel_rfl)) rfl (by decide) ?_
    refine litVal (v := .agg (pcs ⟨0, 0, 0⟩).toArray) rfl (wgY rfl rfl rfl (by decide) (by kernel_rfl)) (gLoadAg (vs := pcs ⟨0, 0, 0⟩) (k := 0) 6 hm173 rfl (by kernel_rfl) (by kernel_rfl) (.tmp 93) Ty.ag_voxel_api_Point rfl (litEv (by kernel_rfl))) rfl (by decide) ?_
    refine litVal (v := .pointer (some ⟨g154, 0, none⟩)) rfl (wgY rfl rfl rfl (by decide) (by kernel_rfl)) (litRun (by kernel_rfl)) rfl (by decide) ?_
    refine litVal (v := .agg (pcs ⟨0, 0, 0⟩).toArray) rfl (wgY rfl rfl rfl (by decide) (by kernel_rfl)) (gLoadAg (vs := pcs ⟨0, 0, 0⟩) (k := 0) 7 hm173 rfl (by kernel_rfl) (by kernel_rfl) (.tmp 95) Ty.ag_voxel_api_Point rfl (litEv (by kernel_rfl))) rfl (by decide) ?_
    refine litVal (v := .bool true) rfl (wgY rfl rfl rfl (by decide) (by kernel_rfl)) (boolTo (decide_eq_true rfl) (eqPtRun (.tmp 94) (.tmp 96) (⟨0, 0, 0⟩) (⟨0, 0, 0⟩) (by kernel_rfl) (by kernel_rfl) (by kernel_rfl) (by kernel_rfl) rfl (litEv (by kernel_rfl)) (litEv (by kernel_rfl)))) rfl (by decide) ?_
    refine lk (v := .bool true) rfl rfl rfl ?_
    refine lk (v := .bool true) rfl rfl rfl ?_
    refine litVal (v := .pointer (some ⟨g145, 3, none⟩)) rfl (wgY rfl rfl rfl (by decide) (by kernel_rfl)) (litRun (by kernel_rfl)) rfl (by decide) ?_
    refine litVal (v := .agg (pcs ⟨0, 0, 0⟩).toArray) rfl (wgY rfl rfl rfl (by decide) (by kernel_rfl)) (gLoadAg (vs := pcs ⟨0, 0, 0⟩) (k := 3) 6 hm173 rfl (by kernel_rfl) (by kernel_rfl) (.tmp 100) Ty.ag_voxel_api_Point rfl (litEv (by kernel_rfl))) rfl (by decide) ?_
    refine litVal (v := .pointer (some ⟨g154, 3, none⟩)) rfl (wgY rfl rfl rfl (by decide) (by kernel_rfl)) (litRun (by kernel_rfl)) rfl (by decide) ?_
    refine litVal (v := .agg (pcs ⟨0, 0, 0⟩).toArray) rfl (wgY rfl rfl rfl (by decide) (by kernel_rfl)) (gLoadAg (vs := pcs ⟨0, 0, 0⟩) (k := 3) 7 hm173 rfl (by kernel_rfl) (by kernel_rfl) (.tmp 102) Ty.ag_voxel_api_Point rfl (litEv (by kernel_rfl))) rfl (by decide) ?_
    refine litVal (v := .bool true) rfl (wgY rfl rfl rfl (by decide) (by kernel_rfl)) (boolTo (decide_eq_true rfl) (eqPtRun (.tmp 101) (.tmp 103) (⟨0, 0, 0⟩) (⟨0, 0, 0⟩) (by kernel_rfl) (by kernel_rfl) (by kernel_rfl) (by kernel_rfl) rfl (litEv (by kernel_rfl)) (litEv (by kernel_rfl)))) rfl (by decide) ?_
    refine lk (v := .bool true) rfl rfl rfl ?_
    refine lk (v := .bool true) rfl rfl rfl ?_
    refine litVal (v := .pointer (some ⟨g145, 6, none⟩)) rfl (wgY rfl rfl rfl (by decide) (by kernel_rfl)) (litRun (by kernel_rfl)) rfl (by decide) ?_
    refine litVal (v := .int .i64 0) rfl (wgY rfl rfl rfl (by decide) (by kernel_rfl)) (gLoad (v := .int .i64 0) (k := 6) 6 hm173 rfl (by kernel_rfl) (.tmp 107) (by kernel_rfl) rfl (litEv (by kernel_rfl))) rfl (by decide) ?_
    refine litVal (v := .pointer (some ⟨g154, 6, none⟩)) rfl (wgY rfl rfl rfl (by decide) (by kernel_rfl)) (litRun (by kernel_rfl)) rfl (by decide) ?_
    refine litVal (v := .int .i64 0) rfl (wgY rfl rfl rfl (by decide) (by kernel_rfl)) (gLoad (v := .int .i64 0) (k := 6) 7 hm173 rfl (by kernel_rfl) (.tmp 109) (by kernel_rfl) rfl (litEv (by kernel_rfl))) rfl (by decide) ?_
    refine litVal (v := .bool true) rfl (wgY rfl rfl rfl (by decide) (by kernel_rfl)) (litRun (by kernel_rfl)) rfl (by decide) ?_
    refine lk (v := .bool true) rfl rfl rfl ?_
    refine lk (v := .bool true) rfl rfl rfl ?_
    refine litVal (v := .int .i64 (ckE a b)) rfl (wgY rfl rfl rfl (by decide) (by kernel_rfl)) (litRun (by kernel_rfl)) rfl (by decide) ?_
    refine litVal (v := .int .i64 (ckE a b)) rfl (wgY rfl rfl rfl (by decide) (by kernel_rfl)) (litRun (by kernel_rfl)) rfl (by decide) ?_
    refine litVal (v := .bool true) rfl (wgY rfl rfl rfl (by decide) (by kernel_rfl)) (boolTo (by simp) (eqlRun (A := (ckE a b)) (B := (ckE a b)) (.tmp 114) (.tmp 115) rfl (litEv (by kernel_rfl)) (litEv (by kernel_rfl)))) rfl (by decide) ?_
    refine lk (v := .bool true) rfl rfl rfl ?_
    refine lk (v := .bool true) rfl rfl rfl ?_
    refine litVal (v := .bool false) rfl (wgY rfl rfl rfl (by decide) (by kernel_rfl)) (litRun (by kernel_rfl)) rfl (by decide) ?_
    refine litVal (v := .bool false) rfl (wgY rfl rfl rfl (by decide) (by kernel_rfl)) (litRun (by kernel_rfl)) rfl (by decide) ?_
    refine litVal (v := .bool true) rfl (wgY rfl rfl rfl (by decide) (by kernel_rfl)) (litRun (by kernel_rfl)) rfl (by decide) ?_
    refine lk (v := .bool true) rfl rfl rfl ?_
    refine lk (v := .bool true) rfl rfl rfl ?_
    refine litVal (v := .int .i64 (ckE a b)) rfl (wgY rfl rfl rfl (by decide) (by kernel_rfl)) (litRun (by kernel_rfl)) rfl (by decide) ?_
    refine litVal (v := .int .i64 (ckE a b)) rfl (wgY rfl rfl rfl (by decide) (by kernel_rfl)) (litRun (by kernel_rfl)) rfl (by decide) ?_
    refine litVal (v := .bool true) rfl (wgY rfl rfl rfl (by decide) (by kernel_rfl)) (boolTo (by simp) (eqlRun (A := (ckE a b)) (B := (ckE a b)) (.tmp 124) (.tmp 125) rfl (litEv (by kernel_rfl)) (litEv (by kernel_rfl)))) rfl (by decide) ?_
    refine lk (v := .bool true) rfl rfl rfl ?_
    refine lk (v := .bool true) rfl rfl rfl ?_
    refine plD ?_
    refine then_normal (hK177 _ _ ?_)
    refine wpPrune [(8, .bool true)] ⟨litGet (by kernel_rfl), trivial⟩ (fun X178 => ?_)
    refine wp_ret ?_
    refine bodyPost_ret (v := .bool true) (gRes1 rfl (gResTmp (t := 8) (v := .bool true) (litGet (by kernel_rfl)))) rfl ?_
    exact ⟨rfl, hm173.bel⟩
  rw [h169]
  refine lk (v := .tuple #[.bool true, .int .i64 (ckE a b)]) rfl rfl rfl ?_
  refine lk (v := .bool true) rfl rfl rfl ?_
  refine lk (v := .int .i64 (ckE a b)) rfl rfl rfl ?_
  refine lk (v := .bool true) rfl rfl rfl ?_
  refine lk (v := .int .i64 (ckE a b)) rfl rfl rfl ?_
  refine plD ?_
  refine then_normal (hK165 _ _ ?_)
  refine wpPrune [(1, .slice A2 T.length c2), (4, .pointer (some ⟨g2, 0, none⟩)), (6, .pointer (some ⟨g5, 0, none⟩)), (7, .pointer (some ⟨g8, 0, none⟩)), (8, .bool false), (9, .bool true), (11, .pointer (some ⟨g145, 0, none⟩)), (12, .int .i64 (ckE a b)), (13, .pointer (some ⟨g154, 0, none⟩)), (14, .int .i64 (ckE a b)), (15, .pointer (some ⟨g160, 0, none⟩)), (16, .bool true), (17, .int .i64 (ckE a b))] ⟨litGet (by kernel_rfl), ⟨litGet (by kernel_rfl), ⟨litGet (by kernel_rfl), ⟨litGet (by kernel_rfl), ⟨litGet (by kernel_rfl), ⟨litGet (by kernel_rfl), ⟨litGet (by kernel_rfl), ⟨litGet (by kernel_rfl), ⟨litGet (by kernel_rfl), ⟨litGet (by kernel_rfl), ⟨litGet (by kernel_rfl), ⟨litGet (by kernel_rfl), ⟨litGet (by kernel_rfl), trivial⟩⟩⟩⟩⟩⟩⟩⟩⟩⟩⟩⟩⟩ (fun X179 => ?_)
  refine wp_seq_k fun K180 hK180 => ?_
  refine plStart ?_
  refine litVal (v := .agg (gcs g A c).toArray) rfl (wn rfl) (gLoadAg (vs := gcs g A c) (k := 0) 3 hm167 rfl (by kernel_rfl) (by kernel_rfl) (.tmp 4) Ty.ag_voxel_api_Grid rfl (litEv (by kernel_rfl))) rfl (by decide) ?_
  refine lk (v := .slice A2 T.length c2) rfl rfl rfl ?_
  refine litVal (v := .agg (pcs a).toArray) rfl (wn rfl) (gLoadAg (vs := pcs a) (k := 0) 4 hm167 rfl (by kernel_rfl) (by kernel_rfl) (.tmp 6) Ty.ag_voxel_api_Point rfl (litEv (by kernel_rfl))) rfl (by decide) ?_
  refine litVal (v := .agg (pcs b).toArray) rfl (wn rfl) (gLoadAg (vs := pcs b) (k := 0) 5 hm167 rfl (by kernel_rfl) (by kernel_rfl) (.tmp 7) Ty.ag_voxel_api_Point rfl (litEv (by kernel_rfl))) rfl (by decide) ?_
  refine plCall (i := 4) 19 [.agg (gcs g A c).toArray, .slice A2 T.length c2, .agg (pcs a).toArray, .agg (pcs b).toArray] [] [] rfl (by kernel_rfl) (wn rfl) rfl (litEv (by kernel_rfl)) (litArgs (by kernel_rfl)) (refVisible_any g hv T A c A2 c2 a b (of_decide_eq_true h18) w166 (hm167.rd 1 rfl) (hm167.rd 2 rfl)) ?_
  rintro e w181 ⟨rfl, hbz⟩
  have hm182 := hm167.below hbz
  clear hbz hm167
  rw [h169]
  refine ⟨_, rfl, ?_⟩
  refine qP rfl ?_
  refine lk (v := .tuple #[.bool true, .int .i64 (ckE a b)]) rfl rfl rfl ?_
  refine lk (v := .bool true) rfl rfl rfl ?_
  refine lk (v := .int .i64 (ckE a b)) rfl rfl rfl ?_
  refine lk (v := .bool true) rfl rfl rfl ?_
  refine lk (v := .int .i64 (ckE a b)) rfl rfl rfl ?_
  refine plD ?_
  refine then_normal (hK180 _ _ ?_)
  refine wp_seq_k fun K183 hK183 => ?_
  refine wp_seq_k fun K184 hK184 => ?_
  refine plStart ?_
  refine lk (v := .int .i64 (ckE a b)) rfl rfl rfl ?_
  refine litVal (v := .bool false) rfl (wn rfl) (boolTo (decide_eq_false hck) (eqlRun (A := (ckE a b)) (B := 0) (.tmp 83) (.const (.int .i64 0)) rfl (litEv (by kernel_rfl)) (litEv (by kernel_rfl)))) rfl (by decide) ?_
  refine lk (v := .bool false) rfl rfl rfl ?_
  refine plSkip (i := 3) rfl (wgN rfl rfl rfl (by decide) (by kernel_rfl)) ?_
  refine qP rfl ?_
  refine plSkip (i := 4) rfl (wgN rfl rfl rfl (by decide) (by kernel_rfl)) ?_
  refine qP rfl ?_
  refine plSkip (i := 5) rfl (wgN rfl rfl rfl (by decide) (by kernel_rfl)) ?_
  refine qP rfl ?_
  refine plSkip (i := 6) rfl (wgN rfl rfl rfl (by decide) (by kernel_rfl)) ?_
  refine qP rfl ?_
  refine lk (v := .bool false) rfl rfl rfl ?_
  refine plD ?_
  refine then_normal (hK184 _ _ ?_)
  refine wpPrune [(8, .bool false), (9, .bool true), (11, .pointer (some ⟨g145, 0, none⟩)), (12, .int .i64 (ckE a b)), (13, .pointer (some ⟨g154, 0, none⟩)), (14, .int .i64 (ckE a b)), (16, .bool true), (17, .int .i64 (ckE a b)), (18, .bool true), (19, .int .i64 (ckE a b)), (90, .bool false)] ⟨litGet (by kernel_rfl), ⟨litGet (by kernel_rfl), ⟨litGet (by kernel_rfl), ⟨litGet (by kernel_rfl), ⟨litGet (by kernel_rfl), ⟨litGet (by kernel_rfl), ⟨litGet (by kernel_rfl), ⟨litGet (by kernel_rfl), ⟨litGet (by kernel_rfl), ⟨litGet (by kernel_rfl), ⟨litGet (by kernel_rfl), trivial⟩⟩⟩⟩⟩⟩⟩⟩⟩⟩⟩ (fun X185 => ?_)
  refine wp_cond_false (litEv (by kernel_rfl)) ?_
  refine wp_skip ?_
  refine then_normal (hK183 _ _ ?_)
  refine wp_seq_k fun K186 hK186 => ?_
  refine plStart ?_
  refine lk (v := .bool true) rfl rfl rfl ?_
  refine lk (v := .bool true) rfl rfl rfl ?_
  refine litVal (v := .pointer (some ⟨g145, 0, none⟩)) rfl (wgY rfl rfl rfl (by decide) (by kernel_rfl)) (litRun (by kernel_rfl)) rfl (by decide) ?_
  refine litVal (v := .agg (pcs ⟨0, 0, 0⟩).toArray) rfl (wgY rfl rfl rfl (by decide) (by kernel_rfl)) (gLoadAg (vs := pcs ⟨0, 0, 0⟩) (k := 0) 6 hm182 rfl (by kernel_rfl) (by kernel_rfl) (.tmp 93) Ty.ag_voxel_api_Point rfl (litEv (by kernel_rfl))) rfl (by decide) ?_
  refine litVal (v := .pointer (some ⟨g154, 0, none⟩)) rfl (wgY rfl rfl rfl (by decide) (by kernel_rfl)) (litRun (by kernel_rfl)) rfl (by decide) ?_
  refine litVal (v := .agg (pcs ⟨0, 0, 0⟩).toArray) rfl (wgY rfl rfl rfl (by decide) (by kernel_rfl)) (gLoadAg (vs := pcs ⟨0, 0, 0⟩) (k := 0) 7 hm182 rfl (by kernel_rfl) (by kernel_rfl) (.tmp 95) Ty.ag_voxel_api_Point rfl (litEv (by kernel_rfl))) rfl (by decide) ?_
  refine litVal (v := .bool true) rfl (wgY rfl rfl rfl (by decide) (by kernel_rfl)) (boolTo (decide_eq_true rfl) (eqPtRun (.tmp 94) (.tmp 96) (⟨0, 0, 0⟩) (⟨0, 0, 0⟩) (by kernel_rfl) (by kernel_rfl) (by kernel_rfl) (by kernel_rfl) rfl (litEv (by kernel_rfl)) (litEv (by kernel_rfl)))) rfl (by decide) ?_
  refine lk (v := .bool true) rfl rfl rfl ?_
  refine lk (v := .bool true) rfl rfl rfl ?_
  refine litVal (v := .pointer (some ⟨g145, 3, none⟩)) rfl (wgY rfl rfl rfl (by decide) (by kernel_rfl)) (litRun (by kernel_rfl)) rfl (by decide) ?_
  refine litVal (v := .agg (pcs ⟨0, 0, 0⟩).toArray) rfl (wgY rfl rfl rfl (by decide) (by kernel_rfl)) (gLoadAg (vs := pcs ⟨0, 0, 0⟩) (k := 3) 6 hm182 rfl (by kernel_rfl) (by kernel_rfl) (.tmp 100) Ty.ag_voxel_api_Point rfl (litEv (by kernel_rfl))) rfl (by decide) ?_
  refine litVal (v := .pointer (some ⟨g154, 3, none⟩)) rfl (wgY rfl rfl rfl (by decide) (by kernel_rfl)) (litRun (by kernel_rfl)) rfl (by decide) ?_
  refine litVal (v := .agg (pcs ⟨0, 0, 0⟩).toArray) rfl (wgY rfl rfl rfl (by decide) (by kernel_rfl)) (gLoadAg (vs := pcs ⟨0, 0, 0⟩) (k := 3) 7 hm182 rfl (by kernel_rfl) (by kernel_rfl) (.tmp 102) Ty.ag_voxel_api_Point rfl (litEv (by kernel_rfl))) rfl (by decide) ?_
  refine litVal (v := .bool true) rfl (wgY rfl rfl rfl (by decide) (by kernel_rfl)) (boolTo (decide_eq_true rfl) (eqPtRun (.tmp 101) (.tmp 103) (⟨0, 0, 0⟩) (⟨0, 0, 0⟩) (by kernel_rfl) (by kernel_rfl) (by kernel_rfl) (by kernel_rfl) rfl (litEv (by kernel_rfl)) (litEv (by kernel_rfl)))) rfl (by decide) ?_
  refine lk (v := .bool true) rfl rfl rfl ?_
  refine lk (v := .bool true) rfl rfl rfl ?_
  refine litVal (v := .pointer (some ⟨g145, 6, none⟩)) rfl (wgY rfl rfl rfl (by decide) (by kernel_rfl)) (litRun (by kernel_rfl)) rfl (by decide) ?_
  refine litVal (v := .int .i64 0) rfl (wgY rfl rfl rfl (by decide) (by kernel_rfl)) (gLoad (v := .int .i64 0) (k := 6) 6 hm182 rfl (by kernel_rfl) (.tmp 107) (by kernel_rfl) rfl (litEv (by kernel_rfl))) rfl (by decide) ?_
  refine litVal (v := .pointer (some ⟨g154, 6, none⟩)) rfl (wgY rfl rfl rfl (by decide) (by kernel_rfl)) (litRun (by kernel_rfl)) rfl (by decide) ?_
  refine litVal (v := .int .i64 0) rfl (wgY rfl rfl rfl (by decide) (by kernel_rfl)) (gLoad (v := .int .i64 0) (k := 6) 7 hm182 rfl (by kernel_rfl) (.tmp 109) (by kernel_rfl) rfl (litEv (by kernel_rfl))) rfl (by decide) ?_
  refine litVal (v := .bool true) rfl (wgY rfl rfl rfl (by decide) (by kernel_rfl)) (litRun (by kernel_rfl)) rfl (by decide) ?_
  refine lk (v := .bool true) rfl rfl rfl ?_
  refine lk (v := .bool true) rfl rfl rfl ?_
  refine litVal (v := .int .i64 (ckE a b)) rfl (wgY rfl rfl rfl (by decide) (by kernel_rfl)) (litRun (by kernel_rfl)) rfl (by decide) ?_
  refine litVal (v := .int .i64 (ckE a b)) rfl (wgY rfl rfl rfl (by decide) (by kernel_rfl)) (litRun (by kernel_rfl)) rfl (by decide) ?_
  refine litVal (v := .bool true) rfl (wgY rfl rfl rfl (by decide) (by kernel_rfl)) (boolTo (by simp) (eqlRun (A := (ckE a b)) (B := (ckE a b)) (.tmp 114) (.tmp 115) rfl (litEv (by kernel_rfl)) (litEv (by kernel_rfl)))) rfl (by decide) ?_
  refine lk (v := .bool true) rfl rfl rfl ?_
  refine lk (v := .bool true) rfl rfl rfl ?_
  refine litVal (v := .bool true) rfl (wgY rfl rfl rfl (by decide) (by kernel_rfl)) (litRun (by kernel_rfl)) rfl (by decide) ?_
  refine litVal (v := .bool true) rfl (wgY rfl rfl rfl (by decide) (by kernel_rfl)) (litRun (by kernel_rfl)) rfl (by decide) ?_
  refine litVal (v := .bool true) rfl (wgY rfl rfl rfl (by decide) (by kernel_rfl)) (litRun (by kernel_rfl)) rfl (by decide) ?_
  refine lk (v := .bool true) rfl rfl rfl ?_
  refine lk (v := .bool true) rfl rfl rfl ?_
  refine litVal (v := .int .i64 (ckE a b)) rfl (wgY rfl rfl rfl (by decide) (by kernel_rfl)) (litRun (by kernel_rfl)) rfl (by decide) ?_
  refine litVal (v := .int .i64 (ckE a b)) rfl (wgY rfl rfl rfl (by decide) (by kernel_rfl)) (litRun (by kernel_rfl)) rfl (by decide) ?_
  refine litVal (v := .bool true) rfl (wgY rfl rfl rfl (by decide) (by kernel_rfl)) (boolTo (by simp) (eqlRun (A := (ckE a b)) (B := (ckE a b)) (.tmp 124) (.tmp 125) rfl (litEv (by kernel_rfl)) (litEv (by kernel_rfl)))) rfl (by decide) ?_
  refine lk (v := .bool true) rfl rfl rfl ?_
  refine lk (v := .bool true) rfl rfl rfl ?_
  refine plD ?_
  refine then_normal (hK186 _ _ ?_)
  refine wpPrune [(8, .bool true)] ⟨litGet (by kernel_rfl), trivial⟩ (fun X187 => ?_)
  refine wp_ret ?_
  refine bodyPost_ret (v := .bool true) (gRes1 rfl (gResTmp (t := 8) (v := .bool true) (litGet (by kernel_rfl)))) rfl ?_
  exact ⟨rfl, hm182.bel⟩
end Go.Proofs.Ytopdcdjmiepdfaa
