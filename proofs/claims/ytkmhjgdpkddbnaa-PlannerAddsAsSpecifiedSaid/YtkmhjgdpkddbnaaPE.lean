/-
  PE: several texts in one. No statement is proved here.
-/
import Derived.Test.YtkmhjgdpkddbnaaPD
set_option linter.unusedVariables false
set_option linter.unusedSimpArgs false
namespace Go.Proofs.Ytkmhjgdpkddbnaa
open Go.RowKit
set_option linter.unusedVariables false
set_option linter.unusedSimpArgs false
set_option maxRecDepth 100000 in
set_option maxHeartbeats 4000000 in
theorem check_any (v : Vw) (w : World) : Calls Try.prog 12 #[.agg (vwc v).toArray] w (RetV w (.int .i64 (ckV v))) := by
  have hm0 := Mem.nil w
  go_enter Try.func12, Try.ntmps12
  refine litStart 38 [(0, .agg (vwc v).toArray)] (by kernel_rfl) (fun X0 => ?_)
  refine wp_seq_k fun K1 hK1 => ?_
  refine plStart ?_
  refine plBox hm0 (cs := vwc v) (i := 0) rfl (wn rfl) rfl (litEv (by kernel_rfl)) ?_
  intro g2 w4 hm3
  clear hm0
  try simp only [List.cons_append, List.nil_append, List.set_cons_succ, List.set_cons_zero] at hm3
  refine qP rfl ?_
  refine lk (v := .int .i64 0) rfl rfl rfl ?_
  refine plD ?_
  refine then_normal (hK1 _ _ ?_)
  refine wp_seq_k fun K5 hK5 => ?_
  refine wp_seq_k fun K6 hK6 => ?_
  refine plStart ?_
  refine lk (v := .pointer (some ⟨g2, 0, none⟩)) rfl rfl rfl ?_
  refine lk (v := .pointer (some ⟨g2, 0, none⟩)) rfl rfl rfl ?_
  refine litVal (v := .int .i64 v.p.x) rfl (wn rfl) (gLoad (v := .int .i64 v.p.x) (k := 0) 0 hm3 rfl (by kernel_rfl) (.tmp 6) (by kernel_rfl) rfl (litEv (by kernel_rfl))) rfl (by decide) ?_
  refine lk (v := .pointer (some ⟨g2, 0, none⟩)) rfl rfl rfl ?_
  refine lk (v := .pointer (some ⟨g2, 1, none⟩)) rfl rfl rfl ?_
  refine litVal (v := .int .i64 v.p.y) rfl (wn rfl) (gLoad (v := .int .i64 v.p.y) (k := 1) 0 hm3 rfl (by kernel_rfl) (.tmp 9) (by kernel_rfl) rfl (litEv (by kernel_rfl))) rfl (by decide) ?_
  refine lk (v := .pointer (some ⟨g2, 0, none⟩)) rfl rfl rfl ?_
  refine lk (v := .pointer (some ⟨g2, 2, none⟩)) rfl rfl rfl ?_
  refine litVal (v := .int .i64 v.p.z) rfl (wn rfl) (gLoad (v := .int .i64 v.p.z) (k := 2) 0 hm3 rfl (by kernel_rfl) (.tmp 12) (by kernel_rfl) rfl (litEv (by kernel_rfl))) rfl (by decide) ?_
  refine lk (v := .agg (pcs v.p).toArray) rfl rfl rfl ?_
  refine lk (v := .int .i64 0) rfl rfl rfl ?_
  refine plD ?_
  refine then_normal (hK6 _ _ ?_)
  refine wp_block ?_
  refine roundsStart 3 ?_
  refine wp_seq_k fun K7 hK7 => ?_
  refine plStart ?_
  refine lk (v := .bool true) rfl rfl rfl ?_
  refine plD ?_
  refine then_normal (hK7 _ _ ?_)
  refine wp_seq_k fun K8 hK8 => ?_
  refine wp_cond_true (litEv (by kernel_rfl)) ?_
  refine wp_skip ?_
  refine then_normal (hK8 _ _ ?_)
  refine wp_seq_k fun K9 hK9 => ?_
  refine wp_block ?_
  refine wp_seq_k fun K10 hK10 => ?_
  refine plStart ?_
  refine lk (v := .int .i64 v.p.x) rfl rfl rfl ?_
  refine lk (v := .int .i64 v.p.x) rfl rfl rfl ?_
  refine plD ?_
  refine then_normal (hK10 _ _ ?_)
  refine wp_seq_k fun K11 hK11 => ?_
  refine plStart ?_
  refine lk (v := .int .i64 v.p.x) rfl rfl rfl ?_
  refine plCall (i := 1) 32 [.int .i64 v.p.x, .int .i64 (-1048575), .int .i64 1048575] [] [] rfl (by kernel_rfl) (wn rfl) rfl (litEv (by kernel_rfl)) (litArgs (by kernel_rfl)) (within_any v.p.x (-1048575) 1048575 _) ?_
  rintro e w12 ⟨rfl, hbz⟩
  have hm13 := hm3.below hbz
  clear hbz hm3
  refine ⟨_, rfl, ?_⟩
  refine qP rfl ?_
  rcases bool_or (decide ((-1048575) ≤ v.p.x ∧ v.p.x ≤ 1048575)) with h14 | h14
  · rw [h14]
    refine lk (v := .bool true) rfl rfl rfl ?_
    refine plD ?_
    refine then_normal (hK11 _ _ ?_)
    refine wp_cond_true (litEv (by kernel_rfl)) ?_
    refine wp_seq_k fun K15 hK15 => ?_
    refine plStart ?_
    refine lk (v := .int .i64 1) rfl rfl rfl ?_
    refine plD ?_
    refine then_normal (hK15 _ _ ?_)
    refine wp_ret ?_
    refine inBlock_ret ?_
    refine then_ret ?_
    refine then_ret ?_
    refine inBlock_ret ?_
    refine then_ret ?_
    refine bodyPost_ret (v := .int .i64 1) (gRes1 rfl (gResTmp (t := 2) (v := .int .i64 1) (litGet (by kernel_rfl)))) rfl ?_
    exact ⟨congrArg (fun n_ => Ending.returned (.int .i64 n_)) (show (1 : Int) = ckV v from by unfold ckV Pt.rng; have q0_ := of_decide_eq_false h14; rw [if_neg (by omega)]), hm13.bel⟩
  rw [h14]
  refine lk (v := .bool false) rfl rfl rfl ?_
  refine plD ?_
  refine then_normal (hK11 _ _ ?_)
  refine wp_cond_false (litEv (by kernel_rfl)) ?_
  refine wp_skip ?_
  refine inBlock_normal ?_
  refine then_normal (hK9 _ _ ?_)
  refine plStart ?_
  refine lk (v := .int .i64 1) rfl rfl rfl ?_
  refine lk (v := .int .i64 1) rfl rfl rfl ?_
  refine plD ?_
  refine then_normal (roundsNext ?_)
  refine wp_seq_k fun K16 hK16 => ?_
  refine plStart ?_
  refine lk (v := .bool true) rfl rfl rfl ?_
  refine plD ?_
  refine then_normal (hK16 _ _ ?_)
  refine wp_seq_k fun K17 hK17 => ?_
  refine wp_cond_true (litEv (by kernel_rfl)) ?_
  refine wp_skip ?_
  refine then_normal (hK17 _ _ ?_)
  refine wp_seq_k fun K18 hK18 => ?_
  refine wp_block ?_
  refine wp_seq_k fun K19 hK19 => ?_
  refine plStart ?_
  refine lk (v := .int .i64 v.p.y) rfl rfl rfl ?_
  refine lk (v := .int .i64 v.p.y) rfl rfl rfl ?_
  refine plD ?_
  refine then_normal (hK19 _ _ ?_)
  refine wpPrune [(1, .pointer (some ⟨g2, 0, none⟩)), (2, .int .i64 0), (4, .int .i64 v.p.y), (14, .agg (pcs v.p).toArray), (15, .int .i64 1), (16, .bool true), (17, .int .i64 v.p.y), (18, .int .i64 v.p.x), (19, .bool true), (20, .bool false), (21, .int .i64 1)] ⟨litGet (by kernel_rfl), ⟨litGet (by kernel_rfl), ⟨litGet (by kernel_rfl), ⟨litGet (by kernel_rfl), ⟨litGet (by kernel_rfl), ⟨litGet (by kernel_rfl), ⟨litGet (by kernel_rfl), ⟨litGet (by kernel_rfl), ⟨litGet (by kernel_rfl), ⟨litGet (by kernel_rfl), ⟨litGet (by kernel_rfl), trivial⟩⟩⟩⟩⟩⟩⟩⟩⟩⟩⟩ (fun X20 => ?_)
  refine wp_seq_k fun K21 hK21 => ?_
  refine plStart ?_
  refine lk (v := .int .i64 v.p.y) rfl rfl rfl ?_
  refine plCall (i := 1) 32 [.int .i64 v.p.y, .int .i64 (-1048575), .int .i64 1048575] [] [] rfl (by kernel_rfl) (wn rfl) rfl (litEv (by kernel_rfl)) (litArgs (by kernel_rfl)) (within_any v.p.y (-1048575) 1048575 _) ?_
  rintro e w22 ⟨rfl, hbz⟩
  have hm23 := hm13.below hbz
  clear hbz hm13
  refine ⟨_, rfl, ?_⟩
  refine qP rfl ?_
  rcases bool_or (decide ((-1048575) ≤ v.p.y ∧ v.p.y ≤ 1048575)) with h24 | h24
  · rw [h24]
    refine lk (v := .bool true) rfl rfl rfl ?_
    refine plD ?_
    refine then_normal (hK21 _ _ ?_)
    refine wp_cond_true (litEv (by kernel_rfl)) ?_
    refine wp_seq_k fun K25 hK25 => ?_
    refine plStart ?_
    refine lk (v := .int .i64 1) rfl rfl rfl ?_
    refine plD ?_
    refine then_normal (hK25 _ _ ?_)
    refine wp_ret ?_
    refine inBlock_ret ?_
    refine then_ret ?_
    refine then_ret ?_
    refine inBlock_ret ?_
    refine then_ret ?_
    refine bodyPost_ret (v := .int .i64 1) (gRes1 rfl (gResTmp (t := 2) (v := .int .i64 1) (litGet (by kernel_rfl)))) rfl ?_
    exact ⟨congrArg (fun n_ => Ending.returned (.int .i64 n_)) (show (1 : Int) = ckV v from by unfold ckV Pt.rng; have q0_ := of_decide_eq_true h14; have q1_ := of_decide_eq_false h24; rw [if_neg (by omega)]), hm23.bel⟩
  rw [h24]
  refine lk (v := .bool false) rfl rfl rfl ?_
  refine plD ?_
  refine then_normal (hK21 _ _ ?_)
  refine wp_cond_false (litEv (by kernel_rfl)) ?_
  refine wp_skip ?_
  refine inBlock_normal ?_
  refine then_normal (hK18 _ _ ?_)
  refine plStart ?_
  refine lk (v := .int .i64 2) rfl rfl rfl ?_
  refine lk (v := .int .i64 2) rfl rfl rfl ?_
  refine plD ?_
  refine then_normal (roundsNext ?_)
  refine wp_seq_k fun K26 hK26 => ?_
  refine plStart ?_
  refine lk (v := .bool true) rfl rfl rfl ?_
  refine plD ?_
  refine then_normal (hK26 _ _ ?_)
  refine wp_seq_k fun K27 hK27 => ?_
  refine wp_cond_true (litEv (by kernel_rfl)) ?_
  refine wp_skip ?_
  refine then_normal (hK27 _ _ ?_)
  refine wp_seq_k fun K28 hK28 => ?_
  refine wp_block ?_
  refine wp_seq_k fun K29 hK29 => ?_
  refine plStart ?_
  refine lk (v := .int .i64 v.p.z) rfl rfl rfl ?_
  refine lk (v := .int .i64 v.p.z) rfl rfl rfl ?_
  refine plD ?_
  refine then_normal (hK29 _ _ ?_)
  refine wp_seq_k fun K30 hK30 => ?_
  refine plStart ?_
  refine lk (v := .int .i64 v.p.z) rfl rfl rfl ?_
  refine plCall (i := 1) 32 [.int .i64 v.p.z, .int .i64 (-1048575), .int .i64 1048575] [] [] rfl (by kernel_rfl) (wn rfl) rfl (litEv (by kernel_rfl)) (litArgs (by kernel_rfl)) (within_any v.p.z (-1048575) 1048575 _) ?_
  rintro e w31 ⟨rfl, hbz⟩
  have hm32 := hm23.below hbz
  clear hbz hm23
  refine ⟨_, rfl, ?_⟩
  refine qP rfl ?_
  rcases bool_or (decide ((-1048575) ≤ v.p.z ∧ v.p.z ≤ 1048575)) with h33 | h33
  · rw [h33]
    refine lk (v := .bool true) rfl rfl rfl ?_
    refine plD ?_
    refine then_normal (hK30 _ _ ?_)
    refine wp_cond_true (litEv (by kernel_rfl)) ?_
    refine wp_seq_k fun K34 hK34 => ?_
    refine plStart ?_
    refine lk (v := .int .i64 1) rfl rfl rfl ?_
    refine plD ?_
    refine then_normal (hK34 _ _ ?_)
    refine wp_ret ?_
    refine inBlock_ret ?_
    refine then_ret ?_
    refine then_ret ?_
    refine inBlock_ret ?_
    refine then_ret ?_
    refine bodyPost_ret (v := .int .i64 1) (gRes1 rfl (gResTmp (t := 2) (v := .int .i64 1) (litGet (by kernel_rfl)))) rfl ?_
    exact ⟨congrArg (fun n_ => Ending.returned (.int .i64 n_)) (show (1 : Int) = ckV v from by unfold ckV Pt.rng; have q0_ := of_decide_eq_true h14; have q1_ := of_decide_eq_true h24; have q2_ := of_decide_eq_false h33; rw [if_neg (by omega)]), hm32.bel⟩
  rw [h33]
  refine lk (v := .bool false) rfl rfl rfl ?_
  refine plD ?_
  refine then_normal (hK30 _ _ ?_)
  refine wp_cond_false (litEv (by kernel_rfl)) ?_
  refine wp_skip ?_
  refine inBlock_normal ?_
  refine then_normal (hK28 _ _ ?_)
  refine plStart ?_
  refine lk (v := .int .i64 3) rfl rfl rfl ?_
  refine lk (v := .int .i64 3) rfl rfl rfl ?_
  refine plD ?_
  refine then_normal (roundsNext ?_)
  refine wpPrune [(1, .pointer (some ⟨g2, 0, none⟩)), (2, .int .i64 0), (4, .int .i64 v.p.z), (14, .agg (pcs v.p).toArray), (15, .int .i64 3), (16, .bool true), (17, .int .i64 v.p.z), (18, .int .i64 v.p.z), (19, .bool true), (20, .bool false), (21, .int .i64 3)] ⟨litGet (by kernel_rfl), ⟨litGet (by kernel_rfl), ⟨litGet (by kernel_rfl), ⟨litGet (by kernel_rfl), ⟨litGet (by kernel_rfl), ⟨litGet (by kernel_rfl), ⟨litGet (by kernel_rfl), ⟨litGet (by kernel_rfl), ⟨litGet (by kernel_rfl), ⟨litGet (by kernel_rfl), ⟨litGet (by kernel_rfl), trivial⟩⟩⟩⟩⟩⟩⟩⟩⟩⟩⟩ (fun X35 => ?_)
  refine wp_seq_k fun K36 hK36 => ?_
  refine plStart ?_
  refine lk (v := .bool false) rfl rfl rfl ?_
  refine plD ?_
  refine then_normal (hK36 _ _ ?_)
  refine wp_seq_k fun K37 hK37 => ?_
  refine wp_cond_false (litEv (by kernel_rfl)) ?_
  refine wp_exit ?_
  refine then_exit ?_
  refine then_exit ?_
  refine inBlock_exit ?_
  refine then_normal (hK5 _ _ ?_)
  refine wp_seq_k fun K38 hK38 => ?_
  refine wp_seq_k fun K39 hK39 => ?_
  refine plStart ?_
  refine lk (v := .pointer (some ⟨g2, 3, none⟩)) rfl rfl rfl ?_
  refine litVal (v := .int .i64 v.sc) rfl (wn rfl) (gLoad (v := .int .i64 v.sc) (k := 3) 0 hm32 rfl (by kernel_rfl) (.tmp 22) (by kernel_rfl) rfl (litEv (by kernel_rfl))) rfl (by decide) ?_
  refine plCall (i := 2) 32 [.int .i64 v.sc, .int .i64 1, .int .i64 1048576] [] [] rfl (by kernel_rfl) (wn rfl) rfl (litEv (by kernel_rfl)) (litArgs (by kernel_rfl)) (within_any v.sc 1 1048576 _) ?_
  rintro e w40 ⟨rfl, hbz⟩
  have hm41 := hm32.below hbz
  clear hbz hm32
  refine ⟨_, rfl, ?_⟩
  refine qP rfl ?_
  rcases bool_or (decide (1 ≤ v.sc ∧ v.sc ≤ 1048576)) with h42 | h42
  · rw [h42]
    refine lk (v := .bool true) rfl rfl rfl ?_
    refine lk (v := .bool true) rfl rfl rfl ?_
    refine plSkip (i := 5) rfl (wgN rfl rfl rfl (by decide) (by kernel_rfl)) ?_
    refine qP rfl ?_
    refine plSkip (i := 6) rfl (wgN rfl rfl rfl (by decide) (by kernel_rfl)) ?_
    refine qP rfl ?_
    refine plSkip (i := 7) rfl (wgN rfl rfl rfl (by decide) (by kernel_rfl)) ?_
    refine qP rfl ?_
    refine plSkip (i := 8) rfl (wgN rfl rfl rfl (by decide) (by kernel_rfl)) ?_
    refine qP rfl ?_
    refine lk (v := .bool true) rfl rfl rfl ?_
    refine lk (v := .bool true) rfl rfl rfl ?_
    refine plSkip (i := 11) rfl (wgN rfl rfl rfl (by decide) (by kernel_rfl)) ?_
    refine qP rfl ?_
    refine plSkip (i := 12) rfl (wgN rfl rfl rfl (by decide) (by kernel_rfl)) ?_
    refine qP rfl ?_
    refine plSkip (i := 13) rfl (wgN rfl rfl rfl (by decide) (by kernel_rfl)) ?_
    refine qP rfl ?_
    refine plSkip (i := 14) rfl (wgN rfl rfl rfl (by decide) (by kernel_rfl)) ?_
    refine qP rfl ?_
    refine lk (v := .bool true) rfl rfl rfl ?_
    refine plD ?_
    refine then_normal (hK39 _ _ ?_)
    refine wpPrune [(2, .int .i64 0), (37, .bool true)] ⟨litGet (by kernel_rfl), ⟨litGet (by kernel_rfl), trivial⟩⟩ (fun X43 => ?_)
    refine wp_cond_true (litEv (by kernel_rfl)) ?_
    refine wp_seq_k fun K44 hK44 => ?_
    refine plStart ?_
    refine lk (v := .int .i64 1) rfl rfl rfl ?_
    refine plD ?_
    refine then_normal (hK44 _ _ ?_)
    refine wp_ret ?_
    refine then_ret ?_
    refine bodyPost_ret (v := .int .i64 1) (gRes1 rfl (gResTmp (t := 2) (v := .int .i64 1) (litGet (by kernel_rfl)))) rfl ?_
    exact ⟨congrArg (fun n_ => Ending.returned (.int .i64 n_)) (show (1 : Int) = ckV v from by unfold ckV Pt.rng; have q0_ := of_decide_eq_true h14; have q1_ := of_decide_eq_true h24; have q2_ := of_decide_eq_true h33; have q3_ := of_decide_eq_false h42; rw [if_neg (by omega)]), hm41.bel⟩
  rw [h42]
  refine lk (v := .bool false) rfl rfl rfl ?_
  refine lk (v := .bool false) rfl rfl rfl ?_
  refine litVal (v := .pointer (some ⟨g2, 4, none⟩)) rfl (wgY rfl rfl rfl (by decide) (by kernel_rfl)) (litRun (by kernel_rfl)) rfl (by decide) ?_
  refine litVal (v := .int .i64 v.tol) rfl (wgY rfl rfl rfl (by decide) (by kernel_rfl)) (gLoad (v := .int .i64 v.tol) (k := 4) 0 hm41 rfl (by kernel_rfl) (.tmp 27) (by kernel_rfl) rfl (litEv (by kernel_rfl))) rfl (by decide) ?_
  refine plCall (i := 7) 32 [.int .i64 v.tol, .int .i64 0, .int .i64 1099511627776] [] [] rfl (by kernel_rfl) (wgY rfl rfl rfl (by decide) (by kernel_rfl)) rfl (litEv (by kernel_rfl)) (litArgs (by kernel_rfl)) (within_any v.tol 0 1099511627776 _) ?_
  rintro e w45 ⟨rfl, hbz⟩
  have hm46 := hm41.below hbz
  clear hbz hm41
  refine ⟨_, rfl, ?_⟩
  refine qP rfl ?_
  rcases bool_or (decide (0 ≤ v.tol ∧ v.tol ≤ 1099511627776)) with h47 | h47
  · rw [h47]
    refine litVal (v := .bool true) rfl (wgY rfl rfl rfl (by decide) (by kernel_rfl)) (litRun (by kernel_rfl)) rfl (by decide) ?_
    refine lk (v := .bool true) rfl rfl rfl ?_
    refine lk (v := .bool true) rfl rfl rfl ?_
    refine plSkip (i := 11) rfl (wgN rfl rfl rfl (by decide) (by kernel_rfl)) ?_
    refine qP rfl ?_
    refine plSkip (i := 12) rfl (wgN rfl rfl rfl (by decide) (by kernel_rfl)) ?_
    refine qP rfl ?_
    refine plSkip (i := 13) rfl (wgN rfl rfl rfl (by decide) (by kernel_rfl)) ?_
    refine qP rfl ?_
    refine plSkip (i := 14) rfl (wgN rfl rfl rfl (by decide) (by kernel_rfl)) ?_
    refine qP rfl ?_
    refine lk (v := .bool true) rfl rfl rfl ?_
    refine plD ?_
    refine then_normal (hK39 _ _ ?_)
    refine wpPrune [(2, .int .i64 0), (37, .bool true)] ⟨litGet (by kernel_rfl), ⟨litGet (by kernel_rfl), trivial⟩⟩ (fun X48 => ?_)
    refine wp_cond_true (litEv (by kernel_rfl)) ?_
    refine wp_seq_k fun K49 hK49 => ?_
    refine plStart ?_
    refine lk (v := .int .i64 1) rfl rfl rfl ?_
    refine plD ?_
    refine then_normal (hK49 _ _ ?_)
    refine wp_ret ?_
    refine then_ret ?_
    refine bodyPost_ret (v := .int .i64 1) (gRes1 rfl (gResTmp (t := 2) (v := .int .i64 1) (litGet (by kernel_rfl)))) rfl ?_
    exact ⟨congrArg (fun n_ => Ending.returned (.int .i64 n_)) (show (1 : Int) = ckV v from by unfold ckV Pt.rng; have q0_ := of_decide_eq_true h14; have q1_ := of_decide_eq_true h24; have q2_ := of_decide_eq_true h33; have q3_ := of_decide_eq_true h42; have q4_ := of_decide_eq_false h47; rw [if_neg (by omega)]), hm46.bel⟩
  rw [h47]
  refine litVal (v := .bool false) rfl (wgY rfl rfl rfl (by decide) (by kernel_rfl)) (litRun (by kernel_rfl)) rfl (by decide) ?_
  refine lk (v := .bool false) rfl rfl rfl ?_
  refine lk (v := .bool false) rfl rfl rfl ?_
  refine litVal (v := .pointer (some ⟨g2, 5, none⟩)) rfl (wgY rfl rfl rfl (by decide) (by kernel_rfl)) (litRun (by kernel_rfl)) rfl (by decide) ?_
  refine litVal (v := .int .i64 v.bud) rfl (wgY rfl rfl rfl (by decide) (by kernel_rfl)) (gLoad (v := .int .i64 v.bud) (k := 5) 0 hm46 rfl (by kernel_rfl) (.tmp 33) (by kernel_rfl) rfl (litEv (by kernel_rfl))) rfl (by decide) ?_
  refine plCall (i := 13) 32 [.int .i64 v.bud, .int .i64 0, .int .i64 1099511627776] [] [] rfl (by kernel_rfl) (wgY rfl rfl rfl (by decide) (by kernel_rfl)) rfl (litEv (by kernel_rfl)) (litArgs (by kernel_rfl)) (within_any v.bud 0 1099511627776 _) ?_
  rintro e w50 ⟨rfl, hbz⟩
  have hm51 := hm46.below hbz
  clear hbz hm46
  refine ⟨_, rfl, ?_⟩
  refine qP rfl ?_
  rcases bool_or (decide (0 ≤ v.bud ∧ v.bud ≤ 1099511627776)) with h52 | h52
  · rw [h52]
    refine litVal (v := .bool true) rfl (wgY rfl rfl rfl (by decide) (by kernel_rfl)) (litRun (by kernel_rfl)) rfl (by decide) ?_
    refine lk (v := .bool true) rfl rfl rfl ?_
    refine plD ?_
    refine then_normal (hK39 _ _ ?_)
    refine wpPrune [(2, .int .i64 0), (37, .bool true)] ⟨litGet (by kernel_rfl), ⟨litGet (by kernel_rfl), trivial⟩⟩ (fun X53 => ?_)
    refine wp_cond_true (litEv (by kernel_rfl)) ?_
    refine wp_seq_k fun K54 hK54 => ?_
    refine plStart ?_
    refine lk (v := .int .i64 1) rfl rfl rfl ?_
    refine plD ?_
    refine then_normal (hK54 _ _ ?_)
    refine wp_ret ?_
    refine then_ret ?_
    refine bodyPost_ret (v := .int .i64 1) (gRes1 rfl (gResTmp (t := 2) (v := .int .i64 1) (litGet (by kernel_rfl)))) rfl ?_
    exact ⟨congrArg (fun n_ => Ending.returned (.int .i64 n_)) (show (1 : Int) = ckV v from by unfold ckV Pt.rng; have q0_ := of_decide_eq_true h14; have q1_ := of_decide_eq_true h24; have q2_ := of_decide_eq_true h33; have q3_ := of_decide_eq_true h42; have q4_ := of_decide_eq_true h47; have q5_ := of_decide_eq_false h52; rw [if_neg (by omega)]), hm51.bel⟩
  rw [h52]
  refine litVal (v := .bool false) rfl (wgY rfl rfl rfl (by decide) (by kernel_rfl)) (litRun (by kernel_rfl)) rfl (by decide) ?_
  refine lk (v := .bool false) rfl rfl rfl ?_
  refine plD ?_
  refine then_normal (hK39 _ _ ?_)
  refine wpPrune [(2, .int .i64 0), (37, .bool false)] ⟨litGet (by kernel_rfl), ⟨litGet (by kernel_rfl), trivial⟩⟩ (fun X55 => ?_)
  refine wp_cond_false (litEv (by kernel_rfl)) ?_
  refine wp_skip ?_
  refine then_normal (hK38 _ _ ?_)
  refine wp_seq_k fun K56 hK56 => ?_
  refine plStart ?_
  refine lk (v := .int .i64 0) rfl rfl rfl ?_
  refine plD ?_
  refine then_normal (hK56 _ _ ?_)
  refine wp_ret ?_
  refine bodyPost_ret (v := .int .i64 0) (gRes1 rfl (gResTmp (t := 2) (v := .int .i64 0) (litGet (by kernel_rfl)))) rfl ?_
  exact ⟨congrArg (fun n_ => Ending.returned (.int .i64 n_)) (show (0 : Int) = ckV v from by unfold ckV Pt.rng; have q0_ := of_decide_eq_true h14; have q1_ := of_decide_eq_true h24; have q2_ := of_decide_eq_true h33; have q3_ := of_decide_eq_true h42; have q4_ := of_decide_eq_true h47; have q5_ := of_decide_eq_true h52; rw [if_pos (by omega)]), hm51.bel⟩
set_option maxRecDepth 100000 in
set_option maxHeartbeats 4000000 in
theorem near_any (p : Pt) (b : Bx) (hp : (-1073741824 ≤ p.x ∧ p.x ≤ 1073741824) ∧ (-1073741824 ≤ p.y ∧ p.y ≤ 1073741824) ∧ (-1073741824 ≤ p.z ∧ p.z ≤ 1073741824)) (hb : ((-1073741824 ≤ b.mn.x ∧ b.mn.x ≤ 1073741824) ∧ (-1073741824 ≤ b.mn.y ∧ b.mn.y ≤ 1073741824) ∧ (-1073741824 ≤ b.mn.z ∧ b.mn.z ≤ 1073741824)) ∧ ((-1073741824 ≤ b.mx.x ∧ b.mx.x ≤ 1073741824) ∧ (-1073741824 ≤ b.mx.y ∧ b.mx.y ≤ 1073741824) ∧ (-1073741824 ≤ b.mx.z ∧ b.mx.z ≤ 1073741824))) (w : World) : Calls Try.prog 34 #[.agg (pcs p).toArray, .agg (bxs b).toArray] w (RetV w (.int .i64 (nearB p b))) := by
  have hm0 := Mem.nil w
  go_enter Try.func34, Try.ntmps34
  refine litStart 30 [(0, .agg (pcs p).toArray), (1, .agg (bxs b).toArray)] (by kernel_rfl) (fun X0 => ?_)
  refine wp_seq_k fun K1 hK1 => ?_
  refine plStart ?_
  refine plBox hm0 (cs := pcs p) (i := 0) rfl (wn rfl) rfl (litEv (by kernel_rfl)) ?_
  intro g2 w4 hm3
  clear hm0
  try simp only [List.cons_append, List.nil_append, List.set_cons_succ, List.set_cons_zero] at hm3
  refine qP rfl ?_
  refine plBox hm3 (cs := bxs b) (i := 1) rfl (wn rfl) rfl (litEv (by kernel_rfl)) ?_
  intro g5 w7 hm6
  clear hm3
  try simp only [List.cons_append, List.nil_append, List.set_cons_succ, List.set_cons_zero] at hm6
  refine qP rfl ?_
  refine lk (v := .int .i64 0) rfl rfl rfl ?_
  refine plD ?_
  refine then_normal (hK1 _ _ ?_)
  refine wp_seq_k fun K8 hK8 => ?_
  refine wp_seq_k fun K9 hK9 => ?_
  refine plStart ?_
  refine litVal (v := .agg (bxs b).toArray) rfl (wn rfl) (gLoadAg (vs := bxs b) (k := 0) 1 hm6 rfl (by kernel_rfl) (by kernel_rfl) (.tmp 3) Ty.ag_voxel_api_Box rfl (litEv (by kernel_rfl))) rfl (by decide) ?_
  refine plCall (i := 1) 51 [.agg (bxs b).toArray] [] [] rfl (by kernel_rfl) (wn rfl) rfl (litEv (by kernel_rfl)) (litArgs (by kernel_rfl)) (empty_any b _) ?_
  rintro e w10 ⟨rfl, hbz⟩
  have hm11 := hm6.below hbz
  clear hbz hm6
  refine ⟨_, rfl, ?_⟩
  refine qP rfl ?_
  rcases bool_or (decide b.none) with h12 | h12
  · rw [h12]
    refine plD ?_
    refine then_normal (hK9 _ _ ?_)
    refine wp_cond_false (litEv (by kernel_rfl)) ?_
    refine wp_skip ?_
    refine then_normal (hK8 _ _ ?_)
    refine wp_seq_k fun K13 hK13 => ?_
    refine aoStart (aoV [fun _ => .pointer (some ⟨g5, 0, none⟩), fun _ => .agg (pcs b.mn).toArray, fun _ => .agg (pcs p).toArray, fun _ => .agg (pcs (b.mn.sub p)).toArray, fun _ => .agg (pcs p).toArray, fun _ => .pointer (some ⟨g5, 3, none⟩), fun _ => .agg (pcs b.mx).toArray, fun _ => .agg (pcs (p.sub b.mx)).toArray, fun γ_ => .pointer (some ⟨γ_, 0, none⟩), fun γ_ => .pointer (some ⟨γ_, 0, none⟩), fun _ => undef, fun _ => undef]) (aoA [0, 1, 2, 3, 4, 5, 6, 7, 8, 9, 10, 11]) (fun b_ g_ => ((.arr g2 23 (pcs p)) :: (.arr g5 55 (bxs b)) :: (bsel (b_ 8) (.arr (g_ 8) 23 (bsel (b_ 10) [.int .i64 ((b.mn.sub p).x), .int .i64 ((b.mn.sub p).y), .int .i64 ((b.mn.sub p).z)] [.int .i64 0, .int .i64 0, .int .i64 0])) .free) :: (bsel (b_ 9) (.arr (g_ 9) 23 (bsel (b_ 11) [.int .i64 ((p.sub b.mx).x), .int .i64 ((p.sub b.mx).y), .int .i64 ((p.sub b.mx).z)] [.int .i64 0, .int .i64 0, .int .i64 0])) .free) :: [])) hm11 (by kernel_rfl) (by kernel_rfl) (fun w_ h_ => h_.pushFree.pushFree) (fun b_ g_ h_ => by show (fun (x8_ x9_ x10_ x11_ : Bool) => (((.arr g2 23 (pcs p)) :: (.arr g5 55 (bxs b)) :: (bsel x8_ (.arr (g_ 8) 23 (bsel x10_ [.int .i64 ((b.mn.sub p).x), .int .i64 ((b.mn.sub p).y), .int .i64 ((b.mn.sub p).z)] [.int .i64 0, .int .i64 0, .int .i64 0])) .free) :: (bsel x9_ (.arr (g_ 9) 23 (bsel x11_ [.int .i64 ((p.sub b.mx).x), .int .i64 ((p.sub b.mx).y), .int .i64 ((p.sub b.mx).z)] [.int .i64 0, .int .i64 0, .int .i64 0])) .free) :: []) : List Res)) (b_ 8) (b_ 9) (b_ 10) (b_ 11) = _; rw [h_ 8 (by decide), h_ 9 (by decide), h_ 10 (by decide), h_ 11 (by decide)]) ?_ ?_
    · refine aoNext rfl (aoVal (fun g_ => [(3, .pointer (some ⟨g5, 0, none⟩))]) (fun g_ a_ h_k => ⟨(h_k.out 3 (by kernel_rfl)).trans (litGet (by kernel_rfl)), trivial⟩) (fun g_ X_ => (wn rfl)) (fun b_ g_ => by kernel_rfl) (fun b_ g_ X_ w_ h_b h_ => valTo (b := .pointer (some ⟨g5, 0, none⟩)) (by kernel_rfl) (litRun (by kernel_rfl)))) ?_
      refine aoNext rfl (aoVal (fun g_ => [(9, .pointer (some ⟨g5, 0, none⟩))]) (fun g_ a_ h_k => ⟨(h_k.inn 0 _ _ (by kernel_rfl) rfl rfl).trans (by kernel_rfl), trivial⟩) (fun g_ X_ => (wn rfl)) (fun b_ g_ => by kernel_rfl) (fun b_ g_ X_ w_ h_b h_ => valTo (b := .agg (pcs b.mn).toArray) (by kernel_rfl) (gLoadAg (vs := pcs b.mn) (k := 0) 1 h_ rfl (by kernel_rfl) (by kernel_rfl) (.tmp 9) Ty.ag_voxel_api_Point rfl (litEv (by kernel_rfl))))) ?_
      refine aoNext rfl (aoVal (fun g_ => [(2, .pointer (some ⟨g2, 0, none⟩))]) (fun g_ a_ h_k => ⟨(h_k.out 2 (by kernel_rfl)).trans (litGet (by kernel_rfl)), trivial⟩) (fun g_ X_ => (wn rfl)) (fun b_ g_ => by kernel_rfl) (fun b_ g_ X_ w_ h_b h_ => valTo (b := .agg (pcs p).toArray) (by kernel_rfl) (gLoadAg (vs := pcs p) (k := 0) 0 h_ rfl (by kernel_rfl) (by kernel_rfl) (.tmp 2) Ty.ag_voxel_api_Point rfl (litEv (by kernel_rfl))))) ?_
      refine aoNext rfl (aoCall (fun g_ => [(10, .agg (pcs b.mn).toArray), (11, .agg (pcs p).toArray)]) (fun g_ a_ h_k => ⟨(h_k.inn 1 _ _ (by kernel_rfl) rfl rfl).trans (by kernel_rfl), (h_k.inn 2 _ _ (by kernel_rfl) rfl rfl).trans (by kernel_rfl), trivial⟩) 52 (fun g_ => [.agg (pcs b.mn).toArray, .agg (pcs p).toArray]) [] [] (by kernel_rfl) (fun g_ X_ => (wn rfl)) (fun b_ g_ => by kernel_rfl) rfl (fun g_ X_ => litEv (by kernel_rfl)) (fun g_ X_ => litArgs (by kernel_rfl)) (fun b_ g_ w_ h_b h_ => (sub_any b.mn p hb.1 hp _).mono (fun _ _ h_r => ⟨h_r.1.trans (by kernel_rfl), h_r.2⟩))) ?_
      refine aoNext rfl (aoVal (fun g_ => [(2, .pointer (some ⟨g2, 0, none⟩))]) (fun g_ a_ h_k => ⟨(h_k.out 2 (by kernel_rfl)).trans (litGet (by kernel_rfl)), trivial⟩) (fun g_ X_ => (wn rfl)) (fun b_ g_ => by kernel_rfl) (fun b_ g_ X_ w_ h_b h_ => valTo (b := .agg (pcs p).toArray) (by kernel_rfl) (gLoadAg (vs := pcs p) (k := 0) 0 h_ rfl (by kernel_rfl) (by kernel_rfl) (.tmp 2) Ty.ag_voxel_api_Point rfl (litEv (by kernel_rfl))))) ?_
      refine aoNext rfl (aoVal (fun g_ => [(3, .pointer (some ⟨g5, 0, none⟩))]) (fun g_ a_ h_k => ⟨(h_k.out 3 (by kernel_rfl)).trans (litGet (by kernel_rfl)), trivial⟩) (fun g_ X_ => (wn rfl)) (fun b_ g_ => by kernel_rfl) (fun b_ g_ X_ w_ h_b h_ => valTo (b := .pointer (some ⟨g5, 3, none⟩)) (by kernel_rfl) (litRun (by kernel_rfl)))) ?_
      refine aoNext rfl (aoVal (fun g_ => [(14, .pointer (some ⟨g5, 3, none⟩))]) (fun g_ a_ h_k => ⟨(h_k.inn 5 _ _ (by kernel_rfl) rfl rfl).trans (by kernel_rfl), trivial⟩) (fun g_ X_ => (wn rfl)) (fun b_ g_ => by kernel_rfl) (fun b_ g_ X_ w_ h_b h_ => valTo (b := .agg (pcs b.mx).toArray) (by kernel_rfl) (gLoadAg (vs := pcs b.mx) (k := 3) 1 h_ rfl (by kernel_rfl) (by kernel_rfl) (.tmp 14) Ty.ag_voxel_api_Point rfl (litEv (by kernel_rfl))))) ?_
      refine aoNext rfl (aoCall (fun g_ => [(13, .agg (pcs p).toArray), (15, .agg (pcs b.mx).toArray)]) (fun g_ a_ h_k => ⟨(h_k.inn 4 _ _ (by kernel_rfl) rfl rfl).trans (by kernel_rfl), (h_k.inn 6 _ _ (by kernel_rfl) rfl rfl).trans (by kernel_rfl), trivial⟩) 52 (fun g_ => [.agg (pcs p).toArray, .agg (pcs b.mx).toArray]) [] [] (by kernel_rfl) (fun g_ X_ => (wn rfl)) (fun b_ g_ => by kernel_rfl) rfl (fun g_ X_ => litEv (by kernel_rfl)) (fun g_ X_ => litArgs (by kernel_rfl)) (fun b_ g_ w_ h_b h_ => (sub_any p b.mx hp hb.2 _).mono (fun _ _ h_r => ⟨h_r.1.trans (by kernel_rfl), h_r.2⟩))) ?_
      refine aoNext rfl (aoNewAg (z := [.int .i64 0, .int .i64 0, .int .i64 0]) 2 Ty.ag_voxel_api_Point rfl rfl (fun _ _ _ => ⟨_, rfl⟩) (fun b_ g_ γ_ h_b => Eq.trans (by kernel_rfl) (congrArg (fun x_ => List.set _ 2 (Res.arr γ_ 23 x_)) (bselF (α := List Value) (h_b.post 10 (by kernel_rfl)) [.int .i64 ((b.mn.sub p).x), .int .i64 ((b.mn.sub p).y), .int .i64 ((b.mn.sub p).z)] [.int .i64 0, .int .i64 0, .int .i64 0]))) (fun _ => by kernel_rfl) (by kernel_rfl)) ?_
      refine aoNext rfl (aoNewAg (z := [.int .i64 0, .int .i64 0, .int .i64 0]) 3 Ty.ag_voxel_api_Point rfl rfl (fun _ _ _ => ⟨_, rfl⟩) (fun b_ g_ γ_ h_b => Eq.trans (by kernel_rfl) (congrArg (fun x_ => List.set _ 3 (Res.arr γ_ 23 x_)) (bselF (α := List Value) (h_b.post 11 (by kernel_rfl)) [.int .i64 ((p.sub b.mx).x), .int .i64 ((p.sub b.mx).y), .int .i64 ((p.sub b.mx).z)] [.int .i64 0, .int .i64 0, .int .i64 0]))) (fun _ => by kernel_rfl) (by kernel_rfl)) ?_
      refine aoNext rfl (aoStore (gb := fun g_ => (g_ 8)) (k := 0) (cur := fun g_ => [.int .i64 0, .int .i64 0, .int .i64 0]) (vs := fun g_ => pcs (b.mn.sub p)) 2 (fun g_ => [(5, .pointer (some ⟨(g_ 8), 0, none⟩)), (12, .agg (pcs (b.mn.sub p)).toArray)]) (fun g_ a_ h_k => ⟨(h_k.inn 8 _ _ (by kernel_rfl) rfl rfl).trans (by kernel_rfl), (h_k.inn 3 _ _ (by kernel_rfl) rfl rfl).trans (by kernel_rfl), trivial⟩) Ty.ag_voxel_api_Point (fun b_ g_ h_b => by show some (bsel (b_ 8) (Res.arr (g_ 8) 23 (bsel (b_ 10) [.int .i64 ((b.mn.sub p).x), .int .i64 ((b.mn.sub p).y), .int .i64 ((b.mn.sub p).z)] [.int .i64 0, .int .i64 0, .int .i64 0])) Res.free) = some (Res.arr (g_ 8) 23 ([.int .i64 0, .int .i64 0, .int .i64 0])); rw [bselT (h_b.pre 8 (by kernel_rfl)), bselF h_b.no]) (fun g_ X_ => (wn rfl)) rfl (fun g_ X_ => litEv (by kernel_rfl)) (fun g_ X_ => litEv (by kernel_rfl)) (fun _ => by kernel_rfl) (fun _ => by kernel_rfl) (fun _ => by kernel_rfl) (fun b_ g_ h_b => Eq.trans (b := List.set (((.arr g2 23 (pcs p)) :: (.arr g5 55 (bxs b)) :: (bsel (b_ 8) (.arr (g_ 8) 23 (bsel (b_ 10) [.int .i64 ((b.mn.sub p).x), .int .i64 ((b.mn.sub p).y), .int .i64 ((b.mn.sub p).z)] [.int .i64 0, .int .i64 0, .int .i64 0])) .free) :: (bsel (b_ 9) (.arr (g_ 9) 23 (bsel (b_ 11) [.int .i64 ((p.sub b.mx).x), .int .i64 ((p.sub b.mx).y), .int .i64 ((p.sub b.mx).z)] [.int .i64 0, .int .i64 0, .int .i64 0])) .free) :: [])) 2 (bsel (b_ 8) (Res.arr (g_ 8) 23 ([.int .i64 ((b.mn.sub p).x), .int .i64 ((b.mn.sub p).y), .int .i64 ((b.mn.sub p).z)])) Res.free)) (by kernel_rfl) (congrArg (fun x_ => List.set _ 2 x_) (bselT (h_b.pre 8 (by kernel_rfl)) _ _))) rfl) ?_
      refine aoNext rfl (aoStore (gb := fun g_ => (g_ 9)) (k := 0) (cur := fun g_ => [.int .i64 0, .int .i64 0, .int .i64 0]) (vs := fun g_ => pcs (p.sub b.mx)) 3 (fun g_ => [(6, .pointer (some ⟨(g_ 9), 0, none⟩)), (16, .agg (pcs (p.sub b.mx)).toArray)]) (fun g_ a_ h_k => ⟨(h_k.inn 9 _ _ (by kernel_rfl) rfl rfl).trans (by kernel_rfl), (h_k.inn 7 _ _ (by kernel_rfl) rfl rfl).trans (by kernel_rfl), trivial⟩) Ty.ag_voxel_api_Point (fun b_ g_ h_b => by show some (bsel (b_ 9) (Res.arr (g_ 9) 23 (bsel (b_ 11) [.int .i64 ((p.sub b.mx).x), .int .i64 ((p.sub b.mx).y), .int .i64 ((p.sub b.mx).z)] [.int .i64 0, .int .i64 0, .int .i64 0])) Res.free) = some (Res.arr (g_ 9) 23 ([.int .i64 0, .int .i64 0, .int .i64 0])); rw [bselT (h_b.pre 9 (by kernel_rfl)), bselF h_b.no]) (fun g_ X_ => (wn rfl)) rfl (fun g_ X_ => litEv (by kernel_rfl)) (fun g_ X_ => litEv (by kernel_rfl)) (fun _ => by kernel_rfl) (fun _ => by kernel_rfl) (fun _ => by kernel_rfl) (fun b_ g_ h_b => Eq.trans (b := List.set (((.arr g2 23 (pcs p)) :: (.arr g5 55 (bxs b)) :: (bsel (b_ 8) (.arr (g_ 8) 23 (bsel (b_ 10) [.int .i64 ((b.mn.sub p).x), .int .i64 ((b.mn.sub p).y), .int .i64 ((b.mn.sub p).z)] [.int .i64 0, .int .i64 0, .int .i64 0])) .free) :: (bsel (b_ 9) (.arr (g_ 9) 23 (bsel (b_ 11) [.int .i64 ((p.sub b.mx).x), .int .i64 ((p.sub b.mx).y), .int .i64 ((p.sub b.mx).z)] [.int .i64 0, .int .i64 0, .int .i64 0])) .free) :: [])) 3 (bsel (b_ 9) (Res.arr (g_ 9) 23 ([.int .i64 ((p.sub b.mx).x), .int .i64 ((p.sub b.mx).y), .int .i64 ((p.sub b.mx).z)])) Res.free)) (by kernel_rfl) (congrArg (fun x_ => List.set _ 3 x_) (bselT (h_b.pre 9 (by kernel_rfl)) _ _))) rfl) ?_
      exact aoDone (by decide)
    intro g_ a_ w15 hF_ hm14
    obtain ⟨X16, rfl⟩ := frLit (⟨hF_.size, hF_.defers, ⟨(hF_.out 4 (by kernel_rfl)).trans (litGet (by kernel_rfl)), (hF_.inn 8 _ _ rfl rfl).trans (by kernel_rfl), (hF_.inn 9 _ _ rfl rfl).trans (by kernel_rfl), (hF_.inn 0 _ _ rfl rfl).trans (by kernel_rfl), (hF_.inn 1 _ _ rfl rfl).trans (by kernel_rfl), (hF_.inn 2 _ _ rfl rfl).trans (by kernel_rfl), (hF_.inn 3 _ _ rfl rfl).trans (by kernel_rfl), (hF_.inn 4 _ _ rfl rfl).trans (by kernel_rfl), (hF_.inn 5 _ _ rfl rfl).trans (by kernel_rfl), (hF_.inn 6 _ _ rfl rfl).trans (by kernel_rfl), (hF_.inn 7 _ _ rfl rfl).trans (by kernel_rfl), trivial⟩⟩ : Fr _ 30 [(4, .int .i64 0), (5, .pointer (some ⟨(g_ 8), 0, none⟩)), (6, .pointer (some ⟨(g_ 9), 0, none⟩)), (9, .pointer (some ⟨g5, 0, none⟩)), (10, .agg (pcs b.mn).toArray), (11, .agg (pcs p).toArray), (12, .agg (pcs (b.mn.sub p)).toArray), (13, .agg (pcs p).toArray), (14, .pointer (some ⟨g5, 3, none⟩)), (15, .agg (pcs b.mx).toArray), (16, .agg (pcs (p.sub b.mx)).toArray)])
    clear hF_
    have hm17 : Mem w w15 [.arr g2 23 (pcs p), .arr g5 55 (bxs b), .arr (g_ 8) 23 (pcs (b.mn.sub p)), .arr (g_ 9) 23 (pcs (p.sub b.mx))] := hm14
    clear hm14 hm11
    generalize g_ 8 = g18 at hm17 ⊢
    generalize g_ 9 = g19 at hm17 ⊢
    clear g_
    refine then_normal (hK13 _ _ ?_)
    refine wp_seq_k fun K20 hK20 => ?_
    refine plStart ?_
    refine lk (v := .pointer (some ⟨g18, 0, none⟩)) rfl rfl rfl ?_
    refine litVal (v := .int .i64 ((b.mn.sub p).x)) rfl (wn rfl) (gLoad (v := .int .i64 ((b.mn.sub p).x)) (k := 0) 2 hm17 rfl (by kernel_rfl) (.tmp 17) (by kernel_rfl) rfl (litEv (by kernel_rfl))) rfl (by decide) ?_
    refine lk (v := .pointer (some ⟨g18, 1, none⟩)) rfl rfl rfl ?_
    refine litVal (v := .int .i64 ((b.mn.sub p).y)) rfl (wn rfl) (gLoad (v := .int .i64 ((b.mn.sub p).y)) (k := 1) 2 hm17 rfl (by kernel_rfl) (.tmp 19) (by kernel_rfl) rfl (litEv (by kernel_rfl))) rfl (by decide) ?_
    refine lk (v := .pointer (some ⟨g18, 2, none⟩)) rfl rfl rfl ?_
    refine litVal (v := .int .i64 ((b.mn.sub p).z)) rfl (wn rfl) (gLoad (v := .int .i64 ((b.mn.sub p).z)) (k := 2) 2 hm17 rfl (by kernel_rfl) (.tmp 21) (by kernel_rfl) rfl (litEv (by kernel_rfl))) rfl (by decide) ?_
    refine lk (v := .pointer (some ⟨g19, 0, none⟩)) rfl rfl rfl ?_
    refine litVal (v := .int .i64 ((p.sub b.mx).x)) rfl (wn rfl) (gLoad (v := .int .i64 ((p.sub b.mx).x)) (k := 0) 3 hm17 rfl (by kernel_rfl) (.tmp 23) (by kernel_rfl) rfl (litEv (by kernel_rfl))) rfl (by decide) ?_
    refine lk (v := .pointer (some ⟨g19, 1, none⟩)) rfl rfl rfl ?_
    refine litVal (v := .int .i64 ((p.sub b.mx).y)) rfl (wn rfl) (gLoad (v := .int .i64 ((p.sub b.mx).y)) (k := 1) 3 hm17 rfl (by kernel_rfl) (.tmp 25) (by kernel_rfl) rfl (litEv (by kernel_rfl))) rfl (by decide) ?_
    refine lk (v := .pointer (some ⟨g19, 2, none⟩)) rfl rfl rfl ?_
    refine litVal (v := .int .i64 ((p.sub b.mx).z)) rfl (wn rfl) (gLoad (v := .int .i64 ((p.sub b.mx).z)) (k := 2) 3 hm17 rfl (by kernel_rfl) (.tmp 27) (by kernel_rfl) rfl (litEv (by kernel_rfl))) rfl (by decide) ?_
    refine litVal (v := .int .i64 (max (max (max (max (max (max 0 ((b.mn.sub p).x)) ((b.mn.sub p).y)) ((b.mn.sub p).z)) ((p.sub b.mx).x)) ((p.sub b.mx).y)) ((p.sub b.mx).z))) rfl (wn rfl) (gMax7 (.const (.int .i64 0)) (.tmp 18) (.tmp 20) (.tmp 22) (.tmp 24) (.tmp 26) (.tmp 28) rfl (litEv (by kernel_rfl)) (litEv (by kernel_rfl)) (litEv (by kernel_rfl)) (litEv (by kernel_rfl)) (litEv (by kernel_rfl)) (litEv (by kernel_rfl)) (litEv (by kernel_rfl))) rfl (by decide) ?_
    refine lk (v := .int .i64 (max (max (max (max (max (max 0 ((b.mn.sub p).x)) ((b.mn.sub p).y)) ((b.mn.sub p).z)) ((p.sub b.mx).x)) ((p.sub b.mx).y)) ((p.sub b.mx).z))) rfl rfl rfl ?_
    refine plD ?_
    refine then_normal (hK20 _ _ ?_)
    refine wpPrune [(4, .int .i64 (max (max (max (max (max (max 0 ((b.mn.sub p).x)) ((b.mn.sub p).y)) ((b.mn.sub p).z)) ((p.sub b.mx).x)) ((p.sub b.mx).y)) ((p.sub b.mx).z)))] ⟨litGet (by kernel_rfl), trivial⟩ (fun X21 => ?_)
    refine wp_ret ?_
    refine bodyPost_ret (v := .int .i64 (max (max (max (max (max (max 0 ((b.mn.sub p).x)) ((b.mn.sub p).y)) ((b.mn.sub p).z)) ((p.sub b.mx).x)) ((p.sub b.mx).y)) ((p.sub b.mx).z))) (gRes1 rfl (gResTmp (t := 4) (v := .int .i64 (max (max (max (max (max (max 0 ((b.mn.sub p).x)) ((b.mn.sub p).y)) ((b.mn.sub p).z)) ((p.sub b.mx).x)) ((p.sub b.mx).y)) ((p.sub b.mx).z))) (litGet (by kernel_rfl)))) rfl ?_
    exact ⟨congrArg (fun n_ => Ending.returned (.int .i64 n_)) (show max (max (max (max (max (max 0 ((b.mn.sub p).x)) ((b.mn.sub p).y)) ((b.mn.sub p).z)) ((p.sub b.mx).x)) ((p.sub b.mx).y)) ((p.sub b.mx).z) = nearB p b by unfold nearB; rw [if_neg (of_decide_eq_false h12)]; rfl), hm17.bel⟩
  rw [h12]
  refine plD ?_
  refine then_normal (hK9 _ _ ?_)
  refine wp_cond_true (litEv (by kernel_rfl)) ?_
  refine wp_seq_k fun K22 hK22 => ?_
  refine plStart ?_
  refine lk (v := .int .i64 (-1)) rfl rfl rfl ?_
  refine plD ?_
  refine then_normal (hK22 _ _ ?_)
  refine wp_ret ?_
  refine then_ret ?_
  refine bodyPost_ret (v := .int .i64 (-1)) (gRes1 rfl (gResTmp (t := 4) (v := .int .i64 (-1)) (litGet (by kernel_rfl)))) rfl ?_
  exact ⟨congrArg (fun n_ => Ending.returned (.int .i64 n_)) (show -1 = nearB p b by unfold nearB; rw [if_pos (of_decide_eq_true h12)]), hm11.bel⟩
set_option maxRecDepth 100000 in
set_option maxHeartbeats 4000000 in
theorem err_any (v : Vw) (t : Tl) (hv : ckV v = 0) (h : t.Ok) (w : World) : Calls Try.prog 14 #[.agg (vwc v).toArray, .agg (tlc t).toArray] w (RetV w (.int .i64 (err v t))) := by
  have hck_ := ckV_ok hv
  have hrg_ := hck_.1
  unfold Pt.rng at hrg_
  have hs_ := side_bd h.lv
  have hin_ := h.inP
  unfold Pt.In at hin_
  have hsc_ := sc_bd hv h.lv
  have hl_ := h.lv
  have hp2_ := pow12 h.lv
  have hp : (-1073741824 ≤ v.p.x ∧ v.p.x ≤ 1073741824) ∧ (-1073741824 ≤ v.p.y ∧ v.p.y ≤ 1073741824) ∧ (-1073741824 ≤ v.p.z ∧ v.p.z ≤ 1073741824) := by omega
  have hb : ((-1073741824 ≤ t.box.mn.x ∧ t.box.mn.x ≤ 1073741824) ∧ (-1073741824 ≤ t.box.mn.y ∧ t.box.mn.y ≤ 1073741824) ∧ (-1073741824 ≤ t.box.mn.z ∧ t.box.mn.z ≤ 1073741824)) ∧ ((-1073741824 ≤ t.box.mx.x ∧ t.box.mx.x ≤ 1073741824) ∧ (-1073741824 ≤ t.box.mx.y ∧ t.box.mx.y ≤ 1073741824) ∧ (-1073741824 ≤ t.box.mx.z ∧ t.box.mx.z ≤ 1073741824)) := by unfold Tl.box Bx.shift cubeB Pt.add; simp only; omega
  have hm0 := Mem.nil w
  go_enter Try.func14, Try.ntmps14
  refine litStart 17 [(0, .agg (vwc v).toArray), (1, .agg (tlc t).toArray)] (by kernel_rfl) (fun X0 => ?_)
  refine wp_seq_k fun K1 hK1 => ?_
  refine plStart ?_
  refine plBox hm0 (cs := vwc v) (i := 0) rfl (wn rfl) rfl (litEv (by kernel_rfl)) ?_
  intro g2 w4 hm3
  clear hm0
  try simp only [List.cons_append, List.nil_append, List.set_cons_succ, List.set_cons_zero] at hm3
  refine qP rfl ?_
  refine plBox hm3 (cs := tlc t) (i := 1) rfl (wn rfl) rfl (litEv (by kernel_rfl)) ?_
  intro g5 w7 hm6
  clear hm3
  try simp only [List.cons_append, List.nil_append, List.set_cons_succ, List.set_cons_zero] at hm6
  refine qP rfl ?_
  refine lk (v := .int .i64 0) rfl rfl rfl ?_
  refine plD ?_
  refine then_normal (hK1 _ _ ?_)
  refine wp_seq_k fun K8 hK8 => ?_
  refine mgStart hm6 (by kernel_rfl) ?_
  intro w10 hm9
  clear hm6
  refine mk_ (i := 0) (v := .pointer (some ⟨g2, 3, none⟩)) rfl rfl (fun _ _ _ h => h) hm9 rfl ?_
  refine mgTake (i := 1) (v := .int .i64 v.sc) rfl (by kernel_rfl) (wn rfl) (fun _ _ _ h => h) hm9 (fun w_ h_ => gLoad (v := .int .i64 v.sc) (k := 3) 0 h_ rfl (by kernel_rfl) (.tmp 5) (by kernel_rfl) rfl (litEv (by kernel_rfl))) ?_
  refine mP rfl ?_
  refine mk_ (i := 2) (v := .pointer (some ⟨g5, 0, none⟩)) rfl rfl (fun _ _ _ h => h) hm9 rfl ?_
  refine mgTake (i := 3) (v := .int .i64 t.lv) rfl (by kernel_rfl) (wn rfl) (fun _ _ _ h => h) hm9 (fun w_ h_ => gLoad (v := .int .i64 t.lv) (k := 0) 1 h_ rfl (by kernel_rfl) (.tmp 7) (by kernel_rfl) rfl (litEv (by kernel_rfl))) ?_
  refine mP rfl ?_
  refine mgTake (i := 4) (v := .int .i64 (v.sc * 2 ^ t.lv.toNat)) rfl (by kernel_rfl) (wn rfl) (fun _ _ _ h => h) hm9 (fun w_ h_ => gShl (A := v.sc) (N := t.lv) (C := v.sc * 2 ^ t.lv.toNat) (.tmp 6) (.tmp 8) rfl (litEv (by kernel_rfl)) (litEv (by kernel_rfl)) (rfl) (by omega) (by omega) (by omega)) ?_
  refine mP rfl ?_
  refine mk_ (i := 5) (v := .pointer (some ⟨g2, 0, none⟩)) rfl rfl (fun _ _ _ h => h) hm9 rfl ?_
  refine mgTake (i := 6) (v := .agg (pcs v.p).toArray) rfl (by kernel_rfl) (wn rfl) (fun _ _ _ h => h) hm9 (fun w_ h_ => gLoadAg (vs := pcs v.p) (k := 0) 0 h_ rfl (by kernel_rfl) (by kernel_rfl) (.tmp 10) Ty.ag_voxel_api_Point rfl (litEv (by kernel_rfl))) ?_
  refine mP rfl ?_
  refine mgTake (i := 7) (v := .agg (tlc t).toArray) rfl (by kernel_rfl) (wn rfl) (fun _ _ _ h => h) hm9 (fun w_ h_ => gLoadAg (vs := tlc t) (k := 0) 1 h_ rfl (by kernel_rfl) (by kernel_rfl) (.tmp 3) Ty.ag_voxel_api_Tile rfl (litEv (by kernel_rfl))) ?_
  refine mP rfl ?_
  refine mgCall (i := 8) 35 [.agg (tlc t).toArray] [] [] (by kernel_rfl) rfl (by kernel_rfl) (wn rfl) rfl (litEv (by kernel_rfl)) (litArgs (by kernel_rfl)) (box_any t h _) ?_
  rintro e w11 ⟨rfl, hbz⟩
  have hm12 := hm9.below hbz
  clear hbz hm9
  refine ⟨_, rfl, hm12, ?_⟩
  refine mP rfl ?_
  refine mgCall (i := 9) 34 [.agg (pcs v.p).toArray, .agg (bxs t.box).toArray] [] [] (by kernel_rfl) rfl (by kernel_rfl) (wn rfl) rfl (litEv (by kernel_rfl)) (litArgs (by kernel_rfl)) (near_any v.p t.box hp hb _) ?_
  rintro e w13 ⟨rfl, hbz⟩
  have hm14 := hm12.below hbz
  clear hbz hm12
  refine ⟨_, rfl, hm14, ?_⟩
  refine mP rfl ?_
  refine mgTake (i := 10) (v := .int .i64 (max 1 (nearB v.p t.box))) rfl (by kernel_rfl) (wn rfl) (fun _ _ _ h => h) hm14 (fun w_ h_ => gMax (.const (.int .i64 1)) (.tmp 14) rfl (litEv (by kernel_rfl)) (litEv (by kernel_rfl))) ?_
  refine mP rfl ?_
  refine mgTake (i := 11) (v := .int .i64 ((v.sc * 2 ^ t.lv.toNat) / (max 1 (nearB v.p t.box)))) rfl (by kernel_rfl) (wn rfl) (fun _ _ _ h => h) hm14 (fun w_ h_ => gQuo (A := (v.sc * 2 ^ t.lv.toNat)) (B := (max 1 (nearB v.p t.box))) (C := (v.sc * 2 ^ t.lv.toNat) / (max 1 (nearB v.p t.box))) (.tmp 9) (.tmp 15) rfl (litEv (by kernel_rfl)) (litEv (by kernel_rfl)) rfl (by omega) (by omega)) ?_
  refine mP rfl ?_
  refine mk_ (i := 12) (v := .int .i64 ((v.sc * 2 ^ t.lv.toNat) / (max 1 (nearB v.p t.box)))) rfl rfl (fun _ _ _ h => h) hm14 rfl ?_
  refine mgDone (by kernel_rfl) ?_
  refine then_normal (hK8 _ _ ?_)
  refine wpPrune [(4, .int .i64 ((v.sc * 2 ^ t.lv.toNat) / (max 1 (nearB v.p t.box))))] ⟨litGet (by kernel_rfl), trivial⟩ (fun X15 => ?_)
  refine wp_ret ?_
  refine bodyPost_ret (v := .int .i64 ((v.sc * 2 ^ t.lv.toNat) / (max 1 (nearB v.p t.box)))) (gRes1 rfl (gResTmp (t := 4) (v := .int .i64 ((v.sc * 2 ^ t.lv.toNat) / (max 1 (nearB v.p t.box)))) (litGet (by kernel_rfl)))) rfl ?_
  exact ⟨by rfl, hm14.bel⟩
set_option maxRecDepth 100000 in
set_option maxHeartbeats 4000000 in
theorem ten_any (t : Tl) (w : World) : Calls Try.prog 28 #[.agg (tlc t).toArray] w (RetV w (.int .i64 10)) := by
  have hm0 := Mem.nil w
  go_enter Try.func28, Try.ntmps28
  refine litStart 3 [(0, .agg (tlc t).toArray)] (by kernel_rfl) (fun X0 => ?_)
  refine wp_seq_k fun K1 hK1 => ?_
  refine plStart ?_
  refine plBox hm0 (cs := tlc t) (i := 0) rfl (wn rfl) rfl (litEv (by kernel_rfl)) ?_
  intro g2 w4 hm3
  clear hm0
  try simp only [List.cons_append, List.nil_append, List.set_cons_succ, List.set_cons_zero] at hm3
  refine qP rfl ?_
  refine lk (v := .int .i64 0) rfl rfl rfl ?_
  refine plD ?_
  refine then_normal (hK1 _ _ ?_)
  refine wp_seq_k fun K5 hK5 => ?_
  refine plStart ?_
  refine lk (v := .int .i64 10) rfl rfl rfl ?_
  refine plD ?_
  refine then_normal (hK5 _ _ ?_)
  refine wp_ret ?_
  refine bodyPost_ret (v := .int .i64 10) (gRes1 rfl (gResTmp (t := 2) (v := .int .i64 10) (litGet (by kernel_rfl)))) rfl ?_
  exact ⟨by rfl, hm3.bel⟩
end Go.Proofs.Ytkmhjgdpkddbnaa
namespace Go.Proofs.Ytkmhjgdpkddbnaa
open Go.RowKit
set_option linter.unusedVariables false
set_option linter.unusedSimpArgs false
def hstep (n x : Int) : Int := Int.tmod (Int.tmod (n * 31 + Int.tmod x 1000003 + 7) 1000003 + 1000003) 1000003
end Go.Proofs.Ytkmhjgdpkddbnaa
