/-
  PE: several texts in one. No statement is proved here.
-/
import Derived.Test.YtkmhjgdpkddbnaaPD
set_option linter.unusedVariables false
set_option linter.unusedSimpArgs false
namespace Go.Proofs.Ytkmhjgdpkddbnaa
open Go.RowKit
set_option linter.unusedVariables false
set_option linter.unusedSimpArgs false
set_option maxRecDepth 100000 in
set_option maxHeartbeats 4000000 in
theorem check_any (v : Vw) (w : World) : Calls Try.prog 12 #[.agg (vwc v).toArray] w (RetV w (.int .i64 (ckV v))) := by
 have hm0 := Mem.nil w
 go_enter Try.func12, Try.ntmps12
 refine litStart 38 [(0, .agg (vwc v).toArray)] (by kernel_rfl) (fun X0 => ?_)
 refine wp_seq_k fun K1 hK1 => ?_
 refine plStart ?_
 refine plBox hm0 (cs := vwc v) (i := 0) rfl (wn rfl) rfl (litEv (by kernel_rfl)) ?_
 intro g2 w4 hm3
 clear hm0
 try simp only [List.cons_append, List.nil_append, List.set_cons_succ, List.set_cons_zero] at hm3
 refine qP rfl ?_
 refine lk (v := .int .i64 0) rfl rfl rfl ?_
 refine plD ?_
 refine then_normal (hK1 _ _ ?_)
 refine wp_seq_k fun K5 hK5 => ?_
 refine wp_seq_k fun K6 hK6 => ?_
 refine plStart ?_
 refine lk (v := .pointer (some ⟨g2, 0, none⟩)) rfl rfl rfl ?_
 refine lk (v := .pointer (some ⟨g2, 0, none⟩)) rfl rfl rfl ?_
 refine litVal (v := .int .i64 v.p.x) rfl (wn rfl) (gLoad (v := .int .i64 v.p.x) (k := 0) 0 hm3 rfl (by kernel_rfl) (.tmp 6) (by kernel_rfl) rfl (litEv (by kernel_rfl))) rfl (by decide) ?_
 refine lk (v := .pointer (some ⟨g2, 0, none⟩)) rfl rfl rfl ?_
 refine lk (v := .pointer (some ⟨g2, 1, none⟩)) rfl rfl rfl ?_
 refine litVal (v := .int .i64 v.p.y) rfl (wn rfl) (gLoad (v := .int .i64 v.p.y) (k := 1) 0 hm3 rfl (by kernel_rfl) (.tmp 9) (by kernel_rfl) rfl (litEv (by kernel_rfl))) rfl (by decide) ?_
 refine lk (v := .pointer (some ⟨g2, 0, none⟩)) rfl rfl rfl ?_
 refine lk (v := .pointer (some ⟨g2, 2, none⟩)) rfl rfl rfl ?_
 refine litVal (v := .int .i64 v.p.z) rfl (wn rfl) (gLoad (v := .int .i64 v.p.z) (k := 2) 0 hm3 rfl (by kernel_rfl) (.tmp 12) (by kernel_rfl) rfl (litEv (by kernel_rfl))) rfl (by decide) ?_
 refine lk (v := .agg (pcs v.p).toArray) rfl rfl rfl ?_
 refine lk (v := .int .i64 0) rfl rfl rfl ?_
 refine plD ?_
 refine then_normal (hK6 _ _ ?_)
 refine wp_block ?_
 refine roundsStart 3 ?_
 refine wp_seq_k fun K7 hK7 => ?_
 refine plStart ?_
 refine lk (v := .bool true) rfl rfl rfl ?_
 refine plD ?_
 refine then_normal (hK7 _ _ ?_)
 refine wp_seq_k fun K8 hK8 => ?_
 refine wp_cond_true (litEv (by kernel_rfl)) ?_
 refine wp_skip ?_
 refine then_normal (hK8 _ _ ?_)
 refine wp_seq_k fun K9 hK9 => ?_
 refine wp_block ?_
 refine wp_seq_k fun K10 hK10 => ?_
 refine plStart ?_
 refine lk (v := .int .i64 v.p.x) rfl rfl rfl ?_
 refine lk (v := .int .i64 v.p.x) rfl rfl rfl ?_
 refine plD ?_
 refine then_normal (hK10 _ _ ?_)
 refine wp_seq_k fun K11 hK11 => ?_
 refine plStart ?_
 refine lk (v := .int .i64 v.p.x) rfl rfl rfl ?_
 refine plCall (i := 1) 32 [.int .i64 v.p.x, .int .i64 (-1048575), .int .i64 1048575] [] [] rfl (by kernel_rfl) (wn rfl) rfl (litEv (by kernel_rfl)) (litArgs (by kernel_rfl)) (within_any v.p.x (-1048575) 1048575 _) ?_
 rintro e w12 ⟨rfl, hbz⟩
 have hm13 := hm3.below hbz
 clear hbz hm3
 refine ⟨_, rfl, ?_⟩
 refine qP rfl ?_
 rcases bool_or (decide ((-1048575) ≤ v.p.x ∧ v.p.x ≤ 1048575)) with h14 | h14
 · rw [h14]
   refine lk (v := .bool true) rfl rfl rfl ?_
   refine plD ?_
   refine then_normal (hK11 _ _ ?_)
   refine wp_cond_true (litEv (by kernel_rfl)) ?_
   refine wp_seq_k fun K15 hK15 => ?_
   refine plStart ?_
   refine lk (v := .int .i64 1) rfl rfl rfl ?_
   refine plD ?_
   refine then_normal (hK15 _ _ ?_)
   refine wp_ret ?_
   refine inBlock_ret ?_
   refine then_ret ?_
   refine then_ret ?_
   refine inBlock_ret ?_
   refine then_ret ?_
   refine bodyPost_ret (v := .int .i64 1) (gRes1 rfl (gResTmp (t := 2) (v := .int .i64 1) (litGet (by kernel_rfl)))) rfl ?_
   exact ⟨congrArg (fun n_ => Ending.returned (.int .i64 n_)) (show (1 : Int) = ckV v from by unfold ckV Pt.rng; have q0_ := of_decide_eq_false h14; rw [if_neg (by omega)]), hm13.bel⟩
 rw [h14]
 refine lk (v := .bool false) rfl rfl rfl ?_
 refine plD ?_
 refine then_normal (hK11 _ _ ?_)
 refine wp_cond_false (litEv (by kernel_rfl)) ?_
 refine wp_skip ?_
 refine inBlock_normal ?_
 refine then_normal (hK9 _ _ ?_)
 refine plStart ?_
 refine lk (v := .int .i64 1) rfl rfl rfl ?_
 refine lk (v := .int .i64 1) rfl rfl rfl ?_
 refine plD ?_
 refine then_normal (roundsNext ?_)
 refine wp_seq_k fun K16 hK16 => ?_
 refine plStart ?_
 refine lk (v := .bool true) rfl rfl rfl ?_
 refine plD ?_
 refine then_normal (hK16 _ _ ?_)
 refine wp_seq_k fun K17 hK17 => ?_
 refine wp_cond_true (litEv (by kernel_rfl)) ?_
 refine wp_skip ?_
 refine then_normal (hK17 _ _ ?_)
 refine wp_seq_k fun K18 hK18 => ?_
 refine wp_block ?_
 refine wp_seq_k fun K19 hK19 => ?_
 refine plStart ?_
 refine lk (v := .int .i64 v.p.y) rfl rfl rfl ?_
 refine lk (v := .int .i64 v.p.y) rfl rfl rfl ?_
 refine plD ?_
 refine then_normal (hK19 _ _ ?_)
 refine wpPrune [(1, .pointer (some ⟨g2, 0, none⟩)), (2, .int .i64 0), (4, .int .i64 v.p.y), (14, .agg (pcs v.p).toArray), (15, .int .i64 1), (16, .bool true), (17, .int .i64 v.p.y), (18, .int .i64 v.p.x), (19, .bool true), (20, .bool false), (21, .int .i64 1)] ⟨litGet (by kernel_rfl), ⟨litGet (by kernel_rfl), ⟨litGet (by kernel_rfl), ⟨litGet (by kernel_rfl), ⟨litGet (by kernel_rfl), ⟨litGet (by kernel_rfl), ⟨litGet (by kernel_rfl), ⟨litGet (by kernel_rfl), ⟨litGet (by kernel_rfl), ⟨litGet (by kernel_rfl), ⟨litGet (by kernel_rfl), trivial⟩⟩⟩⟩⟩⟩⟩⟩⟩⟩⟩ (fun X20 => ?_)
 refine wp_seq_k fun K21 hK21 => ?_
 refine plStart ?_
 refine lk (v := .int .i64 v.p.y) rfl rfl rfl ?_
 refine plCall (i := 1) 32 [.int .i64 v.p.y, .int .i64 (-1048575), .int .i64 1048575] [] [] rfl (by kernel_rfl) (wn rfl) rfl (litEv (by kernel_rfl)) (litArgs (by kernel_rfl)) (within_any v.p.y (-1048575) 1048575 _) ?_
 rintro e w22 ⟨rfl, hbz⟩
 have hm23 := hm13.below hbz
 clear hbz hm13
 refine ⟨_, rfl, ?_⟩
 refine qP rfl ?_
 rcases bool_or (decide ((-1048575) ≤ v.p.y ∧ v.p.y ≤ 1048575)) with h24 | h24
 · rw [h24]
   refine lk (v := .bool true) rfl rfl rfl ?_
   refine plD ?_
   refine then_normal (hK21 _ _ ?_)
   refine wp_cond_true (litEv (by kernel_rfl)) ?_
   refine wp_seq_k fun K25 hK25 => ?_
   refine plStart ?_
   refine lk (v := .int .i64 1) rfl rfl rfl ?_
   refine plD ?_
   refine then_normal (hK25 _ _ ?_)
   refine wp_ret ?_
   refine inBlock_ret ?_
   refine then_ret ?_
   refine then_ret ?_
   refine inBlock_ret ?_
   refine then_ret ?_
   refine bodyPost_ret (v := .int .i64 1) (gRes1 rfl (gResTmp (t := 2) (v := .int .i64 1) (litGet (by kernel_rfl)))) rfl ?_
   exact ⟨congrArg (fun n_ => Ending.returned (.int .i64 n_)) (show (1 : Int) = ckV v from by unfold ckV Pt.rng; have q0_ := of_decide_eq_true h14; have q1_ := of_decide_eq_false h24; rw [if_neg (by omega)]), hm23.bel⟩
 rw [h24]
 refine lk (v := .bool false) rfl rfl rfl ?_
 refine plD ?_
 refine then_normal (hK21 _ _ ?_)
 refine wp_cond_false (litEv (by kernel_rfl)) ?_
 refine wp_skip ?_
 refine inBlock_normal ?_
 refine then_normal (hK18 _ _ ?_)
 refine plStart ?_
 refine lk (v := .int .i64 2) rfl rfl rfl ?_
 refine lk (v := .int .i64 2) rfl rfl rfl ?_
 refine plD ?_
 refine then_normal (roundsNext ?_)
 refine wp_seq_k fun K26 hK26 => ?_
 refine plStart ?_
 refine lk (v := .bool true) rfl rfl rfl ?_
 refine plD ?_
 refine then_normal (hK26 _ _ ?_)
 refine wp_seq_k fun K27 hK27 => ?_
 refine wp_cond_true (litEv (by kernel_rfl)) ?_
 refine wp_skip ?_
 refine then_normal (hK27 _ _ ?_)
 refine wp_seq_k fun K28 hK28 => ?_
 refine wp_block ?_
 refine wp_seq_k fun K29 hK29 => ?_
 refine plStart ?_
 refine lk (v := .int .i64 v.p.z) rfl rfl rfl ?_
 refine lk (v := .int .i64 v.p.z) rfl rfl rfl ?_
 refine plD ?_
 refine then_normal (hK29 _ _ ?_)
 refine wp_seq_k fun K30 hK30 => ?_
 refine plStart ?_
 refine lk (v := .int .i64 v.p.z) rfl rfl rfl ?_
 refine plCall (i := 1) 32 [.int .i64 v.p.z, .int .i64 (-1048575), .int .i64 1048575] [] [] rfl (by kernel_rfl) (wn rfl) rfl (litEv (by kernel_rfl)) (litArgs (by kernel_rfl)) (within_any v.p.z (-1048575) 1048575 _) ?_
 rintro e w31 ⟨rfl, hbz⟩
 have hm32 := hm23.below hbz
 clear hbz hm23
 refine ⟨_, rfl, ?_⟩
 refine qP rfl ?_
 rcases bool_or (decide ((-1048575) ≤ v.p.z ∧ v.p.z ≤ 1048575)) with h33 | h33
 · rw [h33]
   refine lk (v := .bool true) rfl rfl rfl ?_
   refine plD ?_
   refine then_normal (hK30 _ _ ?_)
   refine wp_cond_true (litEv (by kernel_rfl)) ?_
   refine wp_seq_k fun K34 hK34 => ?_
   refine plStart ?_
   refine lk (v := .int .i64 1) rfl rfl rfl ?_
   refine plD ?_
   refine then_normal (hK34 _ _ ?_)
   refine wp_ret ?_
   refine inBlock_ret ?_
   refine then_ret ?_
   refine then_ret ?_
   refine inBlock_ret ?_
   refine then_ret ?_
   refine bodyPost_ret (v := .int .i64 1) (gRes1 rfl (gResTmp (t := 2) (v := .int .i64 1) (litGet (by kernel_rfl)))) rfl ?_
   exact ⟨congrArg (fun n_ => Ending.returned (.int .i64 n_)) (show (1 : Int) = ckV v from by unfold ckV Pt.rng; have q0_ := of_decide_eq_true h14; have q1_ := of_decide_eq_true h24; have q2_ := of_decide_eq_false h33; rw [if_neg (by omega)]), hm32.bel⟩
 rw [h33]
 refine lk (v := .bool false) rfl rfl rfl ?_
 refine plD ?_
 refine then_normal (hK30 _ _ ?_)
 refine wp_cond_false (litEv (by kernel_rfl)) ?_
 refine wp_skip ?_
 refine inBlock_normal ?_
 refine then_normal (hK28 _ _ ?_)
 refine plStart ?_
 refine lk (v := .int .i64 3) rfl rfl rfl ?_
 refine lk (v := .int .i64 3) rfl rfl rfl ?_
 refine plD ?_
 refine then_normal (roundsNext ?_)
 refine wpPrune [(1, .pointer (some ⟨g2, 0, none⟩)), (2, .int .i64 0), (4, .int .i64 v.p.z), (14, .agg (pcs v.p).toArray), (15, .int .i64 3), (16, .bool true), (17, .int .i64 v.p.z), (18, .int .i64 v.p.z), (19, .bool true), (20, .bool false), (21, .int .i64 3)] ⟨litGet (by kernel_rfl), ⟨litGet (by kernel_rfl), ⟨litGet (by kernel_rfl), ⟨litGet (by kernel_rfl), ⟨litGet (by kernel_rfl), ⟨litGet (by kernel_rfl), ⟨litGet (by kernel_rfl), ⟨litGet (by kernel_rfl), ⟨litGet (by kernel_rfl), ⟨litGet (by kernel_rfl), ⟨litGet (by kernel_rfl), trivial⟩⟩⟩⟩⟩⟩⟩⟩⟩⟩⟩ (fun X35 => ?_)
 refine wp_seq_k fun K36 hK36 => ?_
 refine plStart ?_
 refine lk (v := .bool false) rfl rfl rfl ?_
 refine plD ?_
 refine then_normal (hK36 _ _ ?_)
 refine wp_seq_k fun K37 hK37 => ?_
 refine wp_cond_false (litEv (by kernel_rfl)) ?_
 refine wp_exit ?_
 refine then_exit ?_
 refine then_exit ?_
 refine inBlock_exit ?_
 refine then_normal (hK5 _ _ ?_)
 refine wp_seq_k fun K38 hK38 => ?_
 refine wp_seq_k fun K39 hK39 => ?_
 refine plStart ?_
 refine lk (v := .pointer (some ⟨g2, 3, none⟩)) rfl rfl rfl ?_
 refine litVal (v := .int .i64 v.sc) rfl (wn rfl) (gLoad (v := .int .i64 v.sc) (k := 3) 0 hm32 rfl (by kernel_rfl) (.tmp 22) (by kernel_rfl) rfl (litEv (by kernel_rfl))) rfl (by decide) ?_
 refine plCall (i := 2) 32 [.int .i64 v.sc, .int .i64 1, .int .i64 1048576] [] [] rfl (by kernel_rfl) (wn rfl) rfl (litEv (by kernel_rfl)) (litArgs (by kernel_rfl)) (within_any v.sc 1 1048576 _) ?_
 rintro e w40 ⟨rfl, hbz⟩
 have hm41 := hm32.below hbz
 clear hbz hm32
 refine ⟨_, rfl, ?_⟩
 refine qP rfl ?_
 rcases bool_or (decide (1 ≤ v.sc ∧ v.sc ≤ 1048576)) with h42 | h42
 · rw [h42]
   refine lk (v := .bool true) rfl rfl rfl ?_
   refine lk (v := .bool true) rfl rfl rfl ?_
   refine plSkip (i := 5) rfl (wgN rfl rfl rfl (by decide) (by kernel_rfl)) ?_
   refine qP rfl ?_
   refine plSkip (i := 6) rfl (wgN rfl rfl rfl (by decide) (by kernel_rfl)) ?_
   refine qP rfl ?_
   refine plSkip (i := 7) rfl (wgN rfl rfl rfl (by decide) (by kernel_rfl)) ?_
   refine qP rfl ?_
   refine plSkip (i := 8) rfl (wgN rfl rfl rfl (by decide) (by kernel_rfl)) ?_
   refine qP rfl ?_
   refine lk (v := .bool true) rfl rfl rfl ?_
   refine lk (v := .bool true) rfl rfl rfl ?_
   refine plSkip (i := 11) rfl (wgN rfl rfl rfl (by decide) (by kernel_rfl)) ?_
   refine qP rfl ?_
   refine plSkip (i := 12) rfl (wgN rfl rfl rfl (by decide) (by kernel_rfl)) ?_
   refine qP rfl ?_
   refine plSkip (i := 13) rfl (wgN rfl rfl rfl (by decide) (by kernel_rfl)) ?_
   refine qP rfl ?_
   refine plSkip (i := 14) rfl (wgN rfl rfl rfl (by decide) (by kernel_rfl)) ?_
   refine qP rfl ?_
   refine lk (v := .bool true) rfl rfl rfl ?_
   refine plD ?_
   refine then_normal (hK39 _ _ ?_)
   refine wpPrune [(2, .int .i64 0), (37, .bool true)] ⟨litGet (by kernel_rfl), ⟨litGet (by kernel_rfl), trivial⟩⟩ (fun X43 => ?_)
   refine wp_cond_true (litEv (by kernel_rfl)) ?_
   refine wp_seq_k fun K44 hK44 => ?_
   refine plStart ?_
   refine lk (v := .int .i64 1) rfl rfl rfl ?_
   refine plD ?_
   refine then_normal (hK44 _ _ ?_)
   refine wp_ret ?_
   refine then_ret ?_
   refine bodyPost_ret (v := .int .i64 1) (gRes1 rfl (gResTmp (t := 2) (v := .int .i64 1) (litGet (by kernel_rfl)))) rfl ?_
   exact ⟨congrArg (fun n_ => Ending.returned (.int .i64 n_)) (show (1 : Int) = ckV v from by unfold ckV Pt.rng; have q0_ := of_decide_eq_true h14; have q1_ := of_decide_eq_true h24; have q2_ := of_decide_eq_true h33; have q3_ := of_decide_eq_false h42; rw [if_neg (by omega)]), hm41.bel⟩
 rw [h42]
 refine lk (v := .bool false) rfl rfl rfl ?_
 refine lk (v := .bool false) rfl rfl rfl ?_
 refine litVal (v := .pointer (some ⟨g2, 4, none⟩)) rfl (wgY rfl rfl rfl (by decide) (by kernel_rfl)) (litRun (by kernel_rfl)) rfl (by decide) ?_
 refine litVal (v := .int .i64 v.tol) rfl (wgY rfl rfl rfl (by decide) (by kernel_rfl)) (gLoad (v := .int .i64 v.tol) (k := 4) 0 hm41 rfl (by kernel_rfl) (.tmp 27) (by kernel_rfl) rfl (litEv (by kernel_rfl))) rfl (by decide) ?_
 refine plCall (i := 7) 32 [.int .i64 v.tol, .int .i64 0, .int .i64 1099511627776] [] [] rfl (by kernel_rfl) (wgY rfl rfl rfl (by decide) (by kernel_rfl)) rfl (litEv (by kernel_rfl)) (litArgs (by kernel_rfl)) (within_any v.tol 0 1099511627776 _) ?_
 rintro e w45 ⟨rfl, hbz⟩
 have hm46 := hm41.below hbz
 clear hbz hm41
 refine ⟨_, rfl, ?_⟩
 refine qP rfl ?_
 rcases bool_or (decide (0 ≤ v.tol ∧ v.tol ≤ 1099511627776)) with h47 | h47
 · rw [h47]
   refine litVal (v := .bool true) rfl (wgY rfl rfl rfl (by decide) (by kernel_rfl)) (litRun (by kernel_rfl)) rfl (by decide) ?_
   refine lk (v := .bool true) rfl rfl rfl ?_
   refine lk (v := .bool true) rfl rfl rfl ?_
   refine plSkip (i := 11) rfl (wgN rfl rfl rfl (by decide) (by kernel_rfl)) ?_
   refine qP rfl ?_
   refine plSkip (i := 12) rfl (wgN rfl rfl rfl (by decide) (by kernel_rfl)) ?_
   refine qP rfl ?_
   refine plSkip (i := 13) rfl (wgN rfl rfl rfl (by decide) (by kernel_rfl)) ?_
   refine qP rfl ?_
   refine plSkip (i := 14) rfl (wgN rfl rfl rfl (by decide) (by kernel_rfl)) ?_
   refine qP rfl ?_
   refine lk (v := .bool true) rfl rfl rfl ?_
   refine plD ?_
   refine then_normal (hK39 _ _ ?_)
   refine wpPrune [(2, .int .i64 0), (37, .bool true)] ⟨litGet (by kernel_rfl), ⟨litGet (by kernel_rfl), trivial⟩⟩ (fun X48 => ?_)
   refine wp_cond_true (litEv (by kernel_rfl)) ?_
   refine wp_seq_k fun K49 hK49 => ?_
   refine plStart ?_
   refine lk (v := .int .i64 1) rfl rfl rfl ?_
   refine plD ?_
   refine then_normal (hK49 _ _ ?_)
   refine wp_ret ?_
   refine then_ret ?_
   refine bodyPost_ret (v := .int .i64 1) (gRes1 rfl (gResTmp (t := 2) (v := .int .i64 1) (litGet (by kernel_rfl)))) rfl ?_
   exact ⟨congrArg (fun n_ => Ending.returned (.int .i64 n_)) (show (1 : Int) = ckV v from by unfold ckV Pt.rng; have q0_ := of_decide_eq_true h14; have q1_ := of_decide_eq_true h24; have q2_ := of_decide_eq_true h33; have q3_ := of_decide_eq_true h42; have q4_ := of_decide_eq_false h47; rw [if_neg (by omega)]), hm46.bel⟩
 rw [h47]
 refine litVal (v := .bool false) rfl (wgY rfl rfl rfl (by decide) (by kernel_rfl)) (litRun (by kernel_rfl)) rfl (by decide) ?_
 refine lk (v := .bool false) rfl rfl rfl ?_
 refine lk (v := .bool false) rfl rfl rfl ?_
 refine litVal (v := .pointer (some ⟨g2, 5, none⟩)) rfl (wgY rfl rfl rfl (by decide) (by kernel_rfl)) (litRun (by kernel_rfl)) rfl (by decide) ?_
 refine litVal (v := .int .i64 v.bud) rfl (wgY rfl rfl rfl (by decide) (by kernel_rfl)) (gLoad (v := .int .i64 v.bud) (k := 5) 0 hm46 rfl (by kernel_rfl) (.tmp 33) (by kernel_rfl) rfl (litEv (by kernel_rfl))) rfl (by decide) ?_
 refine plCall (i := 13) 32 [.int .i64 v.bud, .int .i64 0, .int .i64 1099511627776] [] [] rfl (by kernel_rfl) (wgY rfl rfl rfl (by decide) (by kernel_rfl)) rfl (litEv (by kernel_rfl)) (litArgs (by kernel_rfl)) (within_any v.bud 0 1099511627776 _) ?_
 rintro e w50 ⟨rfl, hbz⟩
 have hm51 := hm46.below hbz
 clear hbz hm46
 refine ⟨_, rfl, ?_⟩
 refine qP rfl ?_
 rcases bool_or (decide (0 ≤ v.bud ∧ v.bud ≤ 1099511627776)) with h52 | h52
 · rw [h52]
   refine litVal (v := .bool true) rfl (wgY rfl rfl rfl (by decide) (by kernel_rfl)) (litRun (by kernel_rfl)) rfl (by decide) ?_
   refine lk (v := .bool true) rfl rfl rfl ?_
   refine plD ?_
   refine then_normal (hK39 _ _ ?_)
   refine wpPrune [(2, .int .i64 0), (37, .bool true)] ⟨litGet (by kernel_rfl), ⟨litGet (by kernel_rfl), trivial⟩⟩ (fun X53 => ?_)
   refine wp_cond_true (litEv (by kernel_rfl)) ?_
   refine wp_seq_k fun K54 hK54 => ?_
   refine plStart ?_
   refine lk (v := .int .i64 1) rfl rfl rfl ?_
   refine plD ?_
   refine then_normal (hK54 _ _ ?_)
   refine wp_ret ?_
   refine then_ret ?_
   refine bodyPost_ret (v := .int .i64 1) (gRes1 rfl (gResTmp (t := 2) (v := .int .i64 1) (litGet (by kernel_rfl)))) rfl ?_
   exact ⟨congrArg (fun n_ => Ending.returned (.int .i64 n_)) (show (1 : Int) = ckV v from by unfold ckV Pt.rng; have q0_ := of_decide_eq_true h14; have q1_ := of_decide_eq_true h24; have q2_ := of_decide_eq_true h33; have q3_ := of_decide_eq_true h42; have q4_ := of_decide_eq_true h47; have q5_ := of_decide_eq_false h52; rw [if_neg (by omega)]), hm51.bel⟩
 rw [h52]
 refine litVal (v := .bool false) rfl (wgY rfl rfl rfl (by decide) (by kernel_rfl)) (litRun (by kernel_rfl)) rfl (by decide) ?_
 refine lk (v := .bool false) rfl rfl rfl ?_
 refine plD ?_
 refine then_normal (hK39 _ _ ?_)
 refine wpPrune [(2, .int .i64 0), (37, .bool false)] ⟨litGet (by kernel_rfl), ⟨litGet (by kernel_rfl), trivial⟩⟩ (fun X55 => ?_)
 refine wp_cond_false (litEv (by kernel_rfl)) ?_
 refine wp_skip ?_
 refine then_normal (hK38 _ _ ?_)
 refine wp_seq_k fun K56 hK56 => ?_
 refine plStart ?_
 refine lk (v := .int .i64 0) rfl rfl rfl ?_
 refine plD ?_
 refine then_normal (hK56 _ _ ?_)
 refine wp_ret ?_
 refine bodyPost_ret (v := .int .i64 0) (gRes1 rfl (gResTmp (t := 2) (v := .int .i64 0) (litGet (by kernel_rfl)))) rfl ?_
 exact ⟨congrArg (fun n_ => Ending.returned (.int .i64 n_)) (show (0 : Int) = ckV v from by unfold ckV Pt.rng; have q0_ := of_decide_eq_true h14; have q1_ := of_decide_eq_true h24; have q2_ := of_decide_eq_true h33; have q3_ := of_decide_eq_true h42; have q4_ := of_decide_eq_true h47; have q5_ := of_decide_eq_true h52; rw [if_pos (by omega)]), hm51.bel⟩
set_option maxRecDepth 100000 in
set_option maxHeartbeats 4000000 in
theorem rcheck_any (v : Vw) (w : World) : Calls Try.prog 13 #[.agg (vwc v).toArray] w (RetV w (.int .i64 (ckV v))) := by
 have hm0 := Mem.nil w
 go_enter Try.func13, Try.ntmps13
 refine litStart 39 [(0, .agg (vwc v).toArray)] (by kernel_rfl) (fun X0 => ?_)
 refine wp_seq_k fun K1 hK1 => ?_
 refine plStart ?_
 refine plBox hm0 (cs := vwc v) (i := 0) rfl (wn rfl) rfl (litEv (by kernel_rfl)) ?_
 intro g2 w4 hm3
 clear hm0
 try simp only [List.cons_append, List.nil_append, List.set_cons_succ, List.set_cons_zero] at hm3
 refine qP rfl ?_
 refine lk (v := .int .i64 0) rfl rfl rfl ?_
 refine plD ?_
 refine then_normal (hK1 _ _ ?_)
 refine wp_seq_k fun K5 hK5 => ?_
 refine plStart ?_
 refine lk (v := .pointer (some ⟨g2, 0, none⟩)) rfl rfl rfl ?_
 refine litVal (v := .agg (pcs v.p).toArray) rfl (wn rfl) (gLoadAg (vs := pcs v.p) (k := 0) 0 hm3 rfl (by kernel_rfl) (by kernel_rfl) (.tmp 4) Ty.ag_voxel_api_Point rfl (litEv (by kernel_rfl))) rfl (by decide) ?_
 refine plCall (i := 2) 33 [.agg (pcs v.p).toArray] [] [] rfl (by kernel_rfl) (wn rfl) rfl (litEv (by kernel_rfl)) (litArgs (by kernel_rfl)) (ranged_any v.p _) ?_
 rintro e w6 ⟨rfl, hbz⟩
 have hm7 := hm3.below hbz
 clear hbz hm3
 refine ⟨_, rfl, ?_⟩
 refine qP rfl ?_
 rcases bool_or (decide v.p.rng) with h8 | h8
 · rw [h8]
   refine lk (v := .bool false) rfl rfl rfl ?_
   refine plD ?_
   refine then_normal (hK5 _ _ ?_)
   refine wp_seq_k fun K9 hK9 => ?_
   refine wp_seq_k fun K10 hK10 => ?_
   refine plStart ?_
   refine lk (v := .bool false) rfl rfl rfl ?_
   refine lk (v := .bool true) rfl rfl rfl ?_
   refine lk (v := .bool true) rfl rfl rfl ?_
   refine plSkip (i := 3) rfl (wgN rfl rfl rfl (by decide) (by kernel_rfl)) ?_
   refine qP rfl ?_
   refine plSkip (i := 4) rfl (wgN rfl rfl rfl (by decide) (by kernel_rfl)) ?_
   refine qP rfl ?_
   refine plSkip (i := 5) rfl (wgN rfl rfl rfl (by decide) (by kernel_rfl)) ?_
   refine qP rfl ?_
   refine lk (v := .bool true) rfl rfl rfl ?_
   refine lk (v := .bool true) rfl rfl rfl ?_
   refine plSkip (i := 8) rfl (wgN rfl rfl rfl (by decide) (by kernel_rfl)) ?_
   refine qP rfl ?_
   refine plSkip (i := 9) rfl (wgN rfl rfl rfl (by decide) (by kernel_rfl)) ?_
   refine qP rfl ?_
   refine plSkip (i := 10) rfl (wgN rfl rfl rfl (by decide) (by kernel_rfl)) ?_
   refine qP rfl ?_
   refine lk (v := .bool true) rfl rfl rfl ?_
   refine lk (v := .bool true) rfl rfl rfl ?_
   refine plSkip (i := 13) rfl (wgN rfl rfl rfl (by decide) (by kernel_rfl)) ?_
   refine qP rfl ?_
   refine plSkip (i := 14) rfl (wgN rfl rfl rfl (by decide) (by kernel_rfl)) ?_
   refine qP rfl ?_
   refine plSkip (i := 15) rfl (wgN rfl rfl rfl (by decide) (by kernel_rfl)) ?_
   refine qP rfl ?_
   refine lk (v := .bool true) rfl rfl rfl ?_
   refine lk (v := .bool true) rfl rfl rfl ?_
   refine plSkip (i := 18) rfl (wgN rfl rfl rfl (by decide) (by kernel_rfl)) ?_
   refine qP rfl ?_
   refine plSkip (i := 19) rfl (wgN rfl rfl rfl (by decide) (by kernel_rfl)) ?_
   refine qP rfl ?_
   refine plSkip (i := 20) rfl (wgN rfl rfl rfl (by decide) (by kernel_rfl)) ?_
   refine qP rfl ?_
   refine lk (v := .bool true) rfl rfl rfl ?_
   refine lk (v := .bool true) rfl rfl rfl ?_
   refine plSkip (i := 23) rfl (wgN rfl rfl rfl (by decide) (by kernel_rfl)) ?_
   refine qP rfl ?_
   refine plSkip (i := 24) rfl (wgN rfl rfl rfl (by decide) (by kernel_rfl)) ?_
   refine qP rfl ?_
   refine plSkip (i := 25) rfl (wgN rfl rfl rfl (by decide) (by kernel_rfl)) ?_
   refine qP rfl ?_
   refine lk (v := .bool true) rfl rfl rfl ?_
   refine lk (v := .bool true) rfl rfl rfl ?_
   refine plSkip (i := 28) rfl (wgN rfl rfl rfl (by decide) (by kernel_rfl)) ?_
   refine qP rfl ?_
   refine plSkip (i := 29) rfl (wgN rfl rfl rfl (by decide) (by kernel_rfl)) ?_
   refine qP rfl ?_
   refine plSkip (i := 30) rfl (wgN rfl rfl rfl (by decide) (by kernel_rfl)) ?_
   refine qP rfl ?_
   refine lk (v := .bool true) rfl rfl rfl ?_
   refine plD ?_
   refine then_normal (hK10 _ _ ?_)
   refine wpPrune [(2, .int .i64 0), (38, .bool true)] ⟨litGet (by kernel_rfl), ⟨litGet (by kernel_rfl), trivial⟩⟩ (fun X11 => ?_)
   refine wp_cond_true (litEv (by kernel_rfl)) ?_
   refine wp_seq_k fun K12 hK12 => ?_
   refine plStart ?_
   refine lk (v := .int .i64 1) rfl rfl rfl ?_
   refine plD ?_
   refine then_normal (hK12 _ _ ?_)
   refine wp_ret ?_
   refine then_ret ?_
   refine bodyPost_ret (v := .int .i64 1) (gRes1 rfl (gResTmp (t := 2) (v := .int .i64 1) (litGet (by kernel_rfl)))) rfl ?_
   exact ⟨congrArg (fun n_ => Ending.returned (.int .i64 n_)) (show (1 : Int) = ckV v from by unfold ckV; have q0_ := of_decide_eq_false h8; rw [if_neg (fun h_ => by obtain ⟨a1_, a2_, a3_, a4_⟩ := h_; exact q0_ a1_)]), hm7.bel⟩
 rw [h8]
 refine lk (v := .bool true) rfl rfl rfl ?_
 refine plD ?_
 refine then_normal (hK5 _ _ ?_)
 refine wp_seq_k fun K13 hK13 => ?_
 refine wp_seq_k fun K14 hK14 => ?_
 refine plStart ?_
 refine lk (v := .bool true) rfl rfl rfl ?_
 refine lk (v := .bool false) rfl rfl rfl ?_
 refine lk (v := .bool false) rfl rfl rfl ?_
 refine litVal (v := .pointer (some ⟨g2, 3, none⟩)) rfl (wgY rfl rfl rfl (by decide) (by kernel_rfl)) (litRun (by kernel_rfl)) rfl (by decide) ?_
 refine litVal (v := .int .i64 v.sc) rfl (wgY rfl rfl rfl (by decide) (by kernel_rfl)) (gLoad (v := .int .i64 v.sc) (k := 3) 0 hm7 rfl (by kernel_rfl) (.tmp 10) (by kernel_rfl) rfl (litEv (by kernel_rfl))) rfl (by decide) ?_
 by_cases h15 : v.sc < 1
 · refine litVal (v := .bool true) rfl (wgY rfl rfl rfl (by decide) (by kernel_rfl)) (boolTo (decide_eq_true h15) (lssRun (A := v.sc) (B := 1) (.tmp 11) (.const (.int .i64 1)) rfl (litEv (by kernel_rfl)) (litEv (by kernel_rfl)))) rfl (by decide) ?_
   refine lk (v := .bool true) rfl rfl rfl ?_
   refine lk (v := .bool true) rfl rfl rfl ?_
   refine plSkip (i := 8) rfl (wgN rfl rfl rfl (by decide) (by kernel_rfl)) ?_
   refine qP rfl ?_
   refine plSkip (i := 9) rfl (wgN rfl rfl rfl (by decide) (by kernel_rfl)) ?_
   refine qP rfl ?_
   refine plSkip (i := 10) rfl (wgN rfl rfl rfl (by decide) (by kernel_rfl)) ?_
   refine qP rfl ?_
   refine lk (v := .bool true) rfl rfl rfl ?_
   refine lk (v := .bool true) rfl rfl rfl ?_
   refine plSkip (i := 13) rfl (wgN rfl rfl rfl (by decide) (by kernel_rfl)) ?_
   refine qP rfl ?_
   refine plSkip (i := 14) rfl (wgN rfl rfl rfl (by decide) (by kernel_rfl)) ?_
   refine qP rfl ?_
   refine plSkip (i := 15) rfl (wgN rfl rfl rfl (by decide) (by kernel_rfl)) ?_
   refine qP rfl ?_
   refine lk (v := .bool true) rfl rfl rfl ?_
   refine lk (v := .bool true) rfl rfl rfl ?_
   refine plSkip (i := 18) rfl (wgN rfl rfl rfl (by decide) (by kernel_rfl)) ?_
   refine qP rfl ?_
   refine plSkip (i := 19) rfl (wgN rfl rfl rfl (by decide) (by kernel_rfl)) ?_
   refine qP rfl ?_
   refine plSkip (i := 20) rfl (wgN rfl rfl rfl (by decide) (by kernel_rfl)) ?_
   refine qP rfl ?_
   refine lk (v := .bool true) rfl rfl rfl ?_
   refine lk (v := .bool true) rfl rfl rfl ?_
   refine plSkip (i := 23) rfl (wgN rfl rfl rfl (by decide) (by kernel_rfl)) ?_
   refine qP rfl ?_
   refine plSkip (i := 24) rfl (wgN rfl rfl rfl (by decide) (by kernel_rfl)) ?_
   refine qP rfl ?_
   refine plSkip (i := 25) rfl (wgN rfl rfl rfl (by decide) (by kernel_rfl)) ?_
   refine qP rfl ?_
   refine lk (v := .bool true) rfl rfl rfl ?_
   refine lk (v := .bool true) rfl rfl rfl ?_
   refine plSkip (i := 28) rfl (wgN rfl rfl rfl (by decide) (by kernel_rfl)) ?_
   refine qP rfl ?_
   refine plSkip (i := 29) rfl (wgN rfl rfl rfl (by decide) (by kernel_rfl)) ?_
   refine qP rfl ?_
   refine plSkip (i := 30) rfl (wgN rfl rfl rfl (by decide) (by kernel_rfl)) ?_
   refine qP rfl ?_
   refine lk (v := .bool true) rfl rfl rfl ?_
   refine plD ?_
   refine then_normal (hK14 _ _ ?_)
   refine wpPrune [(2, .int .i64 0), (38, .bool true)] ⟨litGet (by kernel_rfl), ⟨litGet (by kernel_rfl), trivial⟩⟩ (fun X16 => ?_)
   refine wp_cond_true (litEv (by kernel_rfl)) ?_
   refine wp_seq_k fun K17 hK17 => ?_
   refine plStart ?_
   refine lk (v := .int .i64 1) rfl rfl rfl ?_
   refine plD ?_
   refine then_normal (hK17 _ _ ?_)
   refine wp_ret ?_
   refine then_ret ?_
   refine bodyPost_ret (v := .int .i64 1) (gRes1 rfl (gResTmp (t := 2) (v := .int .i64 1) (litGet (by kernel_rfl)))) rfl ?_
   exact ⟨congrArg (fun n_ => Ending.returned (.int .i64 n_)) (show (1 : Int) = ckV v from by unfold ckV; have q0_ := of_decide_eq_true h8; have q1_ := h15; rw [if_neg (fun h_ => by obtain ⟨a1_, a2_, a3_, a4_⟩ := h_; omega)]), hm7.bel⟩
 refine litVal (v := .bool false) rfl (wgY rfl rfl rfl (by decide) (by kernel_rfl)) (boolTo (decide_eq_false h15) (lssRun (A := v.sc) (B := 1) (.tmp 11) (.const (.int .i64 1)) rfl (litEv (by kernel_rfl)) (litEv (by kernel_rfl)))) rfl (by decide) ?_
 refine lk (v := .bool false) rfl rfl rfl ?_
 refine lk (v := .bool false) rfl rfl rfl ?_
 refine litVal (v := .pointer (some ⟨g2, 3, none⟩)) rfl (wgY rfl rfl rfl (by decide) (by kernel_rfl)) (litRun (by kernel_rfl)) rfl (by decide) ?_
 refine litVal (v := .int .i64 v.sc) rfl (wgY rfl rfl rfl (by decide) (by kernel_rfl)) (gLoad (v := .int .i64 v.sc) (k := 3) 0 hm7 rfl (by kernel_rfl) (.tmp 15) (by kernel_rfl) rfl (litEv (by kernel_rfl))) rfl (by decide) ?_
 by_cases h18 : 1048576 < v.sc
 · refine litVal (v := .bool true) rfl (wgY rfl rfl rfl (by decide) (by kernel_rfl)) (boolTo (decide_eq_true h18) (gtrRun (A := v.sc) (B := 1048576) (.tmp 16) (.const (.int .i64 1048576)) rfl (litEv (by kernel_rfl)) (litEv (by kernel_rfl)))) rfl (by decide) ?_
   refine lk (v := .bool true) rfl rfl rfl ?_
   refine lk (v := .bool true) rfl rfl rfl ?_
   refine plSkip (i := 13) rfl (wgN rfl rfl rfl (by decide) (by kernel_rfl)) ?_
   refine qP rfl ?_
   refine plSkip (i := 14) rfl (wgN rfl rfl rfl (by decide) (by kernel_rfl)) ?_
   refine qP rfl ?_
   refine plSkip (i := 15) rfl (wgN rfl rfl rfl (by decide) (by kernel_rfl)) ?_
   refine qP rfl ?_
   refine lk (v := .bool true) rfl rfl rfl ?_
   refine lk (v := .bool true) rfl rfl rfl ?_
   refine plSkip (i := 18) rfl (wgN rfl rfl rfl (by decide) (by kernel_rfl)) ?_
   refine qP rfl ?_
   refine plSkip (i := 19) rfl (wgN rfl rfl rfl (by decide) (by kernel_rfl)) ?_
   refine qP rfl ?_
   refine plSkip (i := 20) rfl (wgN rfl rfl rfl (by decide) (by kernel_rfl)) ?_
   refine qP rfl ?_
   refine lk (v := .bool true) rfl rfl rfl ?_
   refine lk (v := .bool true) rfl rfl rfl ?_
   refine plSkip (i := 23) rfl (wgN rfl rfl rfl (by decide) (by kernel_rfl)) ?_
   refine qP rfl ?_
   refine plSkip (i := 24) rfl (wgN rfl rfl rfl (by decide) (by kernel_rfl)) ?_
   refine qP rfl ?_
   refine plSkip (i := 25) rfl (wgN rfl rfl rfl (by decide) (by kernel_rfl)) ?_
   refine qP rfl ?_
   refine lk (v := .bool true) rfl rfl rfl ?_
   refine lk (v := .bool true) rfl rfl rfl ?_
   refine plSkip (i := 28) rfl (wgN rfl rfl rfl (by decide) (by kernel_rfl)) ?_
   refine qP rfl ?_
   refine plSkip (i := 29) rfl (wgN rfl rfl rfl (by decide) (by kernel_rfl)) ?_
   refine qP rfl ?_
   refine plSkip (i := 30) rfl (wgN rfl rfl rfl (by decide) (by kernel_rfl)) ?_
   refine qP rfl ?_
   refine lk (v := .bool true) rfl rfl rfl ?_
   refine plD ?_
   refine then_normal (hK14 _ _ ?_)
   refine wpPrune [(2, .int .i64 0), (38, .bool true)] ⟨litGet (by kernel_rfl), ⟨litGet (by kernel_rfl), trivial⟩⟩ (fun X19 => ?_)
   refine wp_cond_true (litEv (by kernel_rfl)) ?_
   refine wp_seq_k fun K20 hK20 => ?_
   refine plStart ?_
   refine lk (v := .int .i64 1) rfl rfl rfl ?_
   refine plD ?_
   refine then_normal (hK20 _ _ ?_)
   refine wp_ret ?_
   refine then_ret ?_
   refine bodyPost_ret (v := .int .i64 1) (gRes1 rfl (gResTmp (t := 2) (v := .int .i64 1) (litGet (by kernel_rfl)))) rfl ?_
   exact ⟨congrArg (fun n_ => Ending.returned (.int .i64 n_)) (show (1 : Int) = ckV v from by unfold ckV; have q0_ := of_decide_eq_true h8; have q1_ := h15; have q2_ := h18; rw [if_neg (fun h_ => by obtain ⟨a1_, a2_, a3_, a4_⟩ := h_; omega)]), hm7.bel⟩
 refine litVal (v := .bool false) rfl (wgY rfl rfl rfl (by decide) (by kernel_rfl)) (boolTo (decide_eq_false h18) (gtrRun (A := v.sc) (B := 1048576) (.tmp 16) (.const (.int .i64 1048576)) rfl (litEv (by kernel_rfl)) (litEv (by kernel_rfl)))) rfl (by decide) ?_
 refine lk (v := .bool false) rfl rfl rfl ?_
 refine lk (v := .bool false) rfl rfl rfl ?_
 refine litVal (v := .pointer (some ⟨g2, 4, none⟩)) rfl (wgY rfl rfl rfl (by decide) (by kernel_rfl)) (litRun (by kernel_rfl)) rfl (by decide) ?_
 refine litVal (v := .int .i64 v.tol) rfl (wgY rfl rfl rfl (by decide) (by kernel_rfl)) (gLoad (v := .int .i64 v.tol) (k := 4) 0 hm7 rfl (by kernel_rfl) (.tmp 20) (by kernel_rfl) rfl (litEv (by kernel_rfl))) rfl (by decide) ?_
 by_cases h21 : v.tol < 0
 · refine litVal (v := .bool true) rfl (wgY rfl rfl rfl (by decide) (by kernel_rfl)) (boolTo (decide_eq_true h21) (lssRun (A := v.tol) (B := 0) (.tmp 21) (.const (.int .i64 0)) rfl (litEv (by kernel_rfl)) (litEv (by kernel_rfl)))) rfl (by decide) ?_
   refine lk (v := .bool true) rfl rfl rfl ?_
   refine lk (v := .bool true) rfl rfl rfl ?_
   refine plSkip (i := 18) rfl (wgN rfl rfl rfl (by decide) (by kernel_rfl)) ?_
   refine qP rfl ?_
   refine plSkip (i := 19) rfl (wgN rfl rfl rfl (by decide) (by kernel_rfl)) ?_
   refine qP rfl ?_
   refine plSkip (i := 20) rfl (wgN rfl rfl rfl (by decide) (by kernel_rfl)) ?_
   refine qP rfl ?_
   refine lk (v := .bool true) rfl rfl rfl ?_
   refine lk (v := .bool true) rfl rfl rfl ?_
   refine plSkip (i := 23) rfl (wgN rfl rfl rfl (by decide) (by kernel_rfl)) ?_
   refine qP rfl ?_
   refine plSkip (i := 24) rfl (wgN rfl rfl rfl (by decide) (by kernel_rfl)) ?_
   refine qP rfl ?_
   refine plSkip (i := 25) rfl (wgN rfl rfl rfl (by decide) (by kernel_rfl)) ?_
   refine qP rfl ?_
   refine lk (v := .bool true) rfl rfl rfl ?_
   refine lk (v := .bool true) rfl rfl rfl ?_
   refine plSkip (i := 28) rfl (wgN rfl rfl rfl (by decide) (by kernel_rfl)) ?_
   refine qP rfl ?_
   refine plSkip (i := 29) rfl (wgN rfl rfl rfl (by decide) (by kernel_rfl)) ?_
   refine qP rfl ?_
   refine plSkip (i := 30) rfl (wgN rfl rfl rfl (by decide) (by kernel_rfl)) ?_
   refine qP rfl ?_
   refine lk (v := .bool true) rfl rfl rfl ?_
   refine plD ?_
   refine then_normal (hK14 _ _ ?_)
   refine wpPrune [(2, .int .i64 0), (38, .bool true)] ⟨litGet (by kernel_rfl), ⟨litGet (by kernel_rfl), trivial⟩⟩ (fun X22 => ?_)
   refine wp_cond_true (litEv (by kernel_rfl)) ?_
   refine wp_seq_k fun K23 hK23 => ?_
   refine plStart ?_
   refine lk (v := .int .i64 1) rfl rfl rfl ?_
   refine plD ?_
   refine then_normal (hK23 _ _ ?_)
   refine wp_ret ?_
   refine then_ret ?_
   refine bodyPost_ret (v := .int .i64 1) (gRes1 rfl (gResTmp (t := 2) (v := .int .i64 1) (litGet (by kernel_rfl)))) rfl ?_
   exact ⟨congrArg (fun n_ => Ending.returned (.int .i64 n_)) (show (1 : Int) = ckV v from by unfold ckV; have q0_ := of_decide_eq_true h8; have q1_ := h15; have q2_ := h18; have q3_ := h21; rw [if_neg (fun h_ => by obtain ⟨a1_, a2_, a3_, a4_⟩ := h_; omega)]), hm7.bel⟩
 refine litVal (v := .bool false) rfl (wgY rfl rfl rfl (by decide) (by kernel_rfl)) (boolTo (decide_eq_false h21) (lssRun (A := v.tol) (B := 0) (.tmp 21) (.const (.int .i64 0)) rfl (litEv (by kernel_rfl)) (litEv (by kernel_rfl)))) rfl (by decide) ?_
 refine lk (v := .bool false) rfl rfl rfl ?_
 refine lk (v := .bool false) rfl rfl rfl ?_
 refine litVal (v := .pointer (some ⟨g2, 4, none⟩)) rfl (wgY rfl rfl rfl (by decide) (by kernel_rfl)) (litRun (by kernel_rfl)) rfl (by decide) ?_
 refine litVal (v := .int .i64 v.tol) rfl (wgY rfl rfl rfl (by decide) (by kernel_rfl)) (gLoad (v := .int .i64 v.tol) (k := 4) 0 hm7 rfl (by kernel_rfl) (.tmp 25) (by kernel_rfl) rfl (litEv (by kernel_rfl))) rfl (by decide) ?_
 by_cases h24 : 1099511627776 < v.tol
 · refine litVal (v := .bool true) rfl (wgY rfl rfl rfl (by decide) (by kernel_rfl)) (boolTo (decide_eq_true h24) (gtrRun (A := v.tol) (B := 1099511627776) (.tmp 26) (.const (.int .i64 1099511627776)) rfl (litEv (by kernel_rfl)) (litEv (by kernel_rfl)))) rfl (by decide) ?_
   refine lk (v := .bool true) rfl rfl rfl ?_
   refine lk (v := .bool true) rfl rfl rfl ?_
   refine plSkip (i := 23) rfl (wgN rfl rfl rfl (by decide) (by kernel_rfl)) ?_
   refine qP rfl ?_
   refine plSkip (i := 24) rfl (wgN rfl rfl rfl (by decide) (by kernel_rfl)) ?_
   refine qP rfl ?_
   refine plSkip (i := 25) rfl (wgN rfl rfl rfl (by decide) (by kernel_rfl)) ?_
   refine qP rfl ?_
   refine lk (v := .bool true) rfl rfl rfl ?_
   refine lk (v := .bool true) rfl rfl rfl ?_
   refine plSkip (i := 28) rfl (wgN rfl rfl rfl (by decide) (by kernel_rfl)) ?_
   refine qP rfl ?_
   refine plSkip (i := 29) rfl (wgN rfl rfl rfl (by decide) (by kernel_rfl)) ?_
   refine qP rfl ?_
   refine plSkip (i := 30) rfl (wgN rfl rfl rfl (by decide) (by kernel_rfl)) ?_
   refine qP rfl ?_
   refine lk (v := .bool true) rfl rfl rfl ?_
   refine plD ?_
   refine then_normal (hK14 _ _ ?_)
   refine wpPrune [(2, .int .i64 0), (38, .bool true)] ⟨litGet (by kernel_rfl), ⟨litGet (by kernel_rfl), trivial⟩⟩ (fun X25 => ?_)
   refine wp_cond_true (litEv (by kernel_rfl)) ?_
   refine wp_seq_k fun K26 hK26 => ?_
   refine plStart ?_
   refine lk (v := .int .i64 1) rfl rfl rfl ?_
   refine plD ?_
   refine then_normal (hK26 _ _ ?_)
   refine wp_ret ?_
   refine then_ret ?_
   refine bodyPost_ret (v := .int .i64 1) (gRes1 rfl (gResTmp (t := 2) (v := .int .i64 1) (litGet (by kernel_rfl)))) rfl ?_
   exact ⟨congrArg (fun n_ => Ending.returned (.int .i64 n_)) (show (1 : Int) = ckV v from by unfold ckV; have q0_ := of_decide_eq_true h8; have q1_ := h15; have q2_ := h18; have q3_ := h21; have q4_ := h24; rw [if_neg (fun h_ => by obtain ⟨a1_, a2_, a3_, a4_⟩ := h_; omega)]), hm7.bel⟩
 refine litVal (v := .bool false) rfl (wgY rfl rfl rfl (by decide) (by kernel_rfl)) (boolTo (decide_eq_false h24) (gtrRun (A := v.tol) (B := 1099511627776) (.tmp 26) (.const (.int .i64 1099511627776)) rfl (litEv (by kernel_rfl)) (litEv (by kernel_rfl)))) rfl (by decide) ?_
 refine lk (v := .bool false) rfl rfl rfl ?_
 refine lk (v := .bool false) rfl rfl rfl ?_
 refine litVal (v := .pointer (some ⟨g2, 5, none⟩)) rfl (wgY rfl rfl rfl (by decide) (by kernel_rfl)) (litRun (by kernel_rfl)) rfl (by decide) ?_
 refine litVal (v := .int .i64 v.bud) rfl (wgY rfl rfl rfl (by decide) (by kernel_rfl)) (gLoad (v := .int .i64 v.bud) (k := 5) 0 hm7 rfl (by kernel_rfl) (.tmp 30) (by kernel_rfl) rfl (litEv (by kernel_rfl))) rfl (by decide) ?_
 by_cases h27 : v.bud < 0
 · refine litVal (v := .bool true) rfl (wgY rfl rfl rfl (by decide) (by kernel_rfl)) (boolTo (decide_eq_true h27) (lssRun (A := v.bud) (B := 0) (.tmp 31) (.const (.int .i64 0)) rfl (litEv (by kernel_rfl)) (litEv (by kernel_rfl)))) rfl (by decide) ?_
   refine lk (v := .bool true) rfl rfl rfl ?_
   refine lk (v := .bool true) rfl rfl rfl ?_
   refine plSkip (i := 28) rfl (wgN rfl rfl rfl (by decide) (by kernel_rfl)) ?_
   refine qP rfl ?_
   refine plSkip (i := 29) rfl (wgN rfl rfl rfl (by decide) (by kernel_rfl)) ?_
   refine qP rfl ?_
   refine plSkip (i := 30) rfl (wgN rfl rfl rfl (by decide) (by kernel_rfl)) ?_
   refine qP rfl ?_
   refine lk (v := .bool true) rfl rfl rfl ?_
   refine plD ?_
   refine then_normal (hK14 _ _ ?_)
   refine wpPrune [(2, .int .i64 0), (38, .bool true)] ⟨litGet (by kernel_rfl), ⟨litGet (by kernel_rfl), trivial⟩⟩ (fun X28 => ?_)
   refine wp_cond_true (litEv (by kernel_rfl)) ?_
   refine wp_seq_k fun K29 hK29 => ?_
   refine plStart ?_
   refine lk (v := .int .i64 1) rfl rfl rfl ?_
   refine plD ?_
   refine then_normal (hK29 _ _ ?_)
   refine wp_ret ?_
   refine then_ret ?_
   refine bodyPost_ret (v := .int .i64 1) (gRes1 rfl (gResTmp (t := 2) (v := .int .i64 1) (litGet (by kernel_rfl)))) rfl ?_
   exact ⟨congrArg (fun n_ => Ending.returned (.int .i64 n_)) (show (1 : Int) = ckV v from by unfold ckV; have q0_ := of_decide_eq_true h8; have q1_ := h15; have q2_ := h18; have q3_ := h21; have q4_ := h24; have q5_ := h27; rw [if_neg (fun h_ => by obtain ⟨a1_, a2_, a3_, a4_⟩ := h_; omega)]), hm7.bel⟩
 refine litVal (v := .bool false) rfl (wgY rfl rfl rfl (by decide) (by kernel_rfl)) (boolTo (decide_eq_false h27) (lssRun (A := v.bud) (B := 0) (.tmp 31) (.const (.int .i64 0)) rfl (litEv (by kernel_rfl)) (litEv (by kernel_rfl)))) rfl (by decide) ?_
 refine lk (v := .bool false) rfl rfl rfl ?_
 refine lk (v := .bool false) rfl rfl rfl ?_
 refine litVal (v := .pointer (some ⟨g2, 5, none⟩)) rfl (wgY rfl rfl rfl (by decide) (by kernel_rfl)) (litRun (by kernel_rfl)) rfl (by decide) ?_
 refine litVal (v := .int .i64 v.bud) rfl (wgY rfl rfl rfl (by decide) (by kernel_rfl)) (gLoad (v := .int .i64 v.bud) (k := 5) 0 hm7 rfl (by kernel_rfl) (.tmp 35) (by kernel_rfl) rfl (litEv (by kernel_rfl))) rfl (by decide) ?_
 by_cases h30 : 1099511627776 < v.bud
 · refine litVal (v := .bool true) rfl (wgY rfl rfl rfl (by decide) (by kernel_rfl)) (boolTo (decide_eq_true h30) (gtrRun (A := v.bud) (B := 1099511627776) (.tmp 36) (.const (.int .i64 1099511627776)) rfl (litEv (by kernel_rfl)) (litEv (by kernel_rfl)))) rfl (by decide) ?_
   refine lk (v := .bool true) rfl rfl rfl ?_
   refine plD ?_
   refine then_normal (hK14 _ _ ?_)
   refine wpPrune [(2, .int .i64 0), (38, .bool true)] ⟨litGet (by kernel_rfl), ⟨litGet (by kernel_rfl), trivial⟩⟩ (fun X31 => ?_)
   refine wp_cond_true (litEv (by kernel_rfl)) ?_
   refine wp_seq_k fun K32 hK32 => ?_
   refine plStart ?_
   refine lk (v := .int .i64 1) rfl rfl rfl ?_
   refine plD ?_
   refine then_normal (hK32 _ _ ?_)
   refine wp_ret ?_
   refine then_ret ?_
   refine bodyPost_ret (v := .int .i64 1) (gRes1 rfl (gResTmp (t := 2) (v := .int .i64 1) (litGet (by kernel_rfl)))) rfl ?_
   exact ⟨congrArg (fun n_ => Ending.returned (.int .i64 n_)) (show (1 : Int) = ckV v from by unfold ckV; have q0_ := of_decide_eq_true h8; have q1_ := h15; have q2_ := h18; have q3_ := h21; have q4_ := h24; have q5_ := h27; have q6_ := h30; rw [if_neg (fun h_ => by obtain ⟨a1_, a2_, a3_, a4_⟩ := h_; omega)]), hm7.bel⟩
 refine litVal (v := .bool false) rfl (wgY rfl rfl rfl (by decide) (by kernel_rfl)) (boolTo (decide_eq_false h30) (gtrRun (A := v.bud) (B := 1099511627776) (.tmp 36) (.const (.int .i64 1099511627776)) rfl (litEv (by kernel_rfl)) (litEv (by kernel_rfl)))) rfl (by decide) ?_
 refine lk (v := .bool false) rfl rfl rfl ?_
 refine plD ?_
 refine then_normal (hK14 _ _ ?_)
 refine wpPrune [(2, .int .i64 0), (38, .bool false)] ⟨litGet (by kernel_rfl), ⟨litGet (by kernel_rfl), trivial⟩⟩ (fun X33 => ?_)
 refine wp_cond_false (litEv (by kernel_rfl)) ?_
 refine wp_skip ?_
 refine then_normal (hK13 _ _ ?_)
 refine wp_seq_k fun K34 hK34 => ?_
 refine plStart ?_
 refine lk (v := .int .i64 0) rfl rfl rfl ?_
 refine plD ?_
 refine then_normal (hK34 _ _ ?_)
 refine wp_ret ?_
 refine bodyPost_ret (v := .int .i64 0) (gRes1 rfl (gResTmp (t := 2) (v := .int .i64 0) (litGet (by kernel_rfl)))) rfl ?_
 exact ⟨congrArg (fun n_ => Ending.returned (.int .i64 n_)) (show (0 : Int) = ckV v from by unfold ckV; have q0_ := of_decide_eq_true h8; have q1_ := h15; have q2_ := h18; have q3_ := h21; have q4_ := h24; have q5_ := h27; have q6_ := h30; rw [if_pos ⟨q0_, by omega, by omega, by omega⟩]), hm7.bel⟩
set_option maxRecDepth 100000 in
set_option maxHeartbeats 4000000 in
theorem near_any (p : Pt) (b : Bx) (hp : (-1073741824 ≤ p.x ∧ p.x ≤ 1073741824) ∧ (-1073741824 ≤ p.y ∧ p.y ≤ 1073741824) ∧ (-1073741824 ≤ p.z ∧ p.z ≤ 1073741824)) (hb : ((-1073741824 ≤ b.mn.x ∧ b.mn.x ≤ 1073741824) ∧ (-1073741824 ≤ b.mn.y ∧ b.mn.y ≤ 1073741824) ∧ (-1073741824 ≤ b.mn.z ∧ b.mn.z ≤ 1073741824)) ∧ ((-1073741824 ≤ b.mx.x ∧ b.mx.x ≤ 1073741824) ∧ (-1073741824 ≤ b.mx.y ∧ b.mx.y ≤ 1073741824) ∧ (-1073741824 ≤ b.mx.z ∧ b.mx.z ≤ 1073741824))) (w : World) : Calls Try.prog 34 #[.agg (pcs p).toArray, .agg (bxs b).toArray] w (RetV w (.int .i64 (nearB p b))) := by
 have hm0 := Mem.nil w
 go_enter Try.func34, Try.ntmps34
 refine litStart 30 [(0, .agg (pcs p).toArray), (1, .agg (bxs b).toArray)] (by kernel_rfl) (fun X0 => ?_)
 refine wp_seq_k fun K1 hK1 => ?_
 refine plStart ?_
 refine plBox hm0 (cs := pcs p) (i := 0) rfl (wn rfl) rfl (litEv (by kernel_rfl)) ?_
 intro g2 w4 hm3
 clear hm0
 try simp only [List.cons_append, List.nil_append, List.set_cons_succ, List.set_cons_zero] at hm3
 refine qP rfl ?_
 refine plBox hm3 (cs := bxs b) (i := 1) rfl (wn rfl) rfl (litEv (by kernel_rfl)) ?_
 intro g5 w7 hm6
 clear hm3
 try simp only [List.cons_append, List.nil_append, List.set_cons_succ, List.set_cons_zero] at hm6
 refine qP rfl ?_
 refine lk (v := .int .i64 0) rfl rfl rfl ?_
 refine plD ?_
 refine then_normal (hK1 _ _ ?_)
 refine wp_seq_k fun K8 hK8 => ?_
 refine wp_seq_k fun K9 hK9 => ?_
 refine plStart ?_
 refine litVal (v := .agg (bxs b).toArray) rfl (wn rfl) (gLoadAg (vs := bxs b) (k := 0) 1 hm6 rfl (by kernel_rfl) (by kernel_rfl) (.tmp 3) Ty.ag_voxel_api_Box rfl (litEv (by kernel_rfl))) rfl (by decide) ?_
 refine plCall (i := 1) 51 [.agg (bxs b).toArray] [] [] rfl (by kernel_rfl) (wn rfl) rfl (litEv (by kernel_rfl)) (litArgs (by kernel_rfl)) (empty_any b _) ?_
 rintro e w10 ⟨rfl, hbz⟩
 have hm11 := hm6.below hbz
 clear hbz hm6
 refine ⟨_, rfl, ?_⟩
 refine qP rfl ?_
 rcases bool_or (decide b.none) with h12 | h12
 · rw [h12]
   refine plD ?_
   refine then_normal (hK9 _ _ ?_)
   refine wp_cond_false (litEv (by kernel_rfl)) ?_
   refine wp_skip ?_
   refine then_normal (hK8 _ _ ?_)
   refine wp_seq_k fun K13 hK13 => ?_
   refine aoStart (aoV [fun _ => .pointer (some ⟨g5, 0, none⟩), fun _ => .agg (pcs b.mn).toArray, fun _ => .agg (pcs p).toArray, fun _ => .agg (pcs (b.mn.sub p)).toArray, fun _ => .agg (pcs p).toArray, fun _ => .pointer (some ⟨g5, 3, none⟩), fun _ => .agg (pcs b.mx).toArray, fun _ => .agg (pcs (p.sub b.mx)).toArray, fun γ_ => .pointer (some ⟨γ_, 0, none⟩), fun γ_ => .pointer (some ⟨γ_, 0, none⟩), fun _ => undef, fun _ => undef]) (aoA [0, 1, 2, 3, 4, 5, 6, 7, 8, 9, 10, 11]) (fun b_ g_ => ((.arr g2 23 (pcs p)) :: (.arr g5 55 (bxs b)) :: (bsel (b_ 8) (.arr (g_ 8) 23 (bsel (b_ 10) [.int .i64 ((b.mn.sub p).x), .int .i64 ((b.mn.sub p).y), .int .i64 ((b.mn.sub p).z)] [.int .i64 0, .int .i64 0, .int .i64 0])) .free) :: (bsel (b_ 9) (.arr (g_ 9) 23 (bsel (b_ 11) [.int .i64 ((p.sub b.mx).x), .int .i64 ((p.sub b.mx).y), .int .i64 ((p.sub b.mx).z)] [.int .i64 0, .int .i64 0, .int .i64 0])) .free) :: [])) hm11 (by kernel_rfl) (by kernel_rfl) (fun w_ h_ => h_.pushFree.pushFree) (fun b_ g_ h_ => by show (fun (x8_ x9_ x10_ x11_ : Bool) => (((.arr g2 23 (pcs p)) :: (.arr g5 55 (bxs b)) :: (bsel x8_ (.arr (g_ 8) 23 (bsel x10_ [.int .i64 ((b.mn.sub p).x), .int .i64 ((b.mn.sub p).y), .int .i64 ((b.mn.sub p).z)] [.int .i64 0, .int .i64 0, .int .i64 0])) .free) :: (bsel x9_ (.arr (g_ 9) 23 (bsel x11_ [.int .i64 ((p.sub b.mx).x), .int .i64 ((p.sub b.mx).y), .int .i64 ((p.sub b.mx).z)] [.int .i64 0, .int .i64 0, .int .i64 0])) .free) :: []) : List Res)) (b_ 8) (b_ 9) (b_ 10) (b_ 11) = _; rw [h_ 8 (by decide), h_ 9 (by decide), h_ 10 (by decide), h_ 11 (by decide)]) ?_ ?_
   · refine aoNext rfl (aoVal (fun g_ => [(3, .pointer (some ⟨g5, 0, none⟩))]) (fun g_ a_ h_k => ⟨(h_k.out 3 (by kernel_rfl)).trans (litGet (by kernel_rfl)), trivial⟩) (fun g_ X_ => (wn rfl)) (fun b_ g_ => by kernel_rfl) (fun b_ g_ X_ w_ h_b h_ => valTo (b := .pointer (some ⟨g5, 0, none⟩)) (by kernel_rfl) (litRun (by kernel_rfl)))) ?_
     refine aoNext rfl (aoVal (fun g_ => [(9, .pointer (some ⟨g5, 0, none⟩))]) (fun g_ a_ h_k => ⟨(h_k.inn 0 _ _ (by kernel_rfl) rfl rfl).trans (by kernel_rfl), trivial⟩) (fun g_ X_ => (wn rfl)) (fun b_ g_ => by kernel_rfl) (fun b_ g_ X_ w_ h_b h_ => valTo (b := .agg (pcs b.mn).toArray) (by kernel_rfl) (gLoadAg (vs := pcs b.mn) (k := 0) 1 h_ rfl (by kernel_rfl) (by kernel_rfl) (.tmp 9) Ty.ag_voxel_api_Point rfl (litEv (by kernel_rfl))))) ?_
     refine aoNext rfl (aoVal (fun g_ => [(2, .pointer (some ⟨g2, 0, none⟩))]) (fun g_ a_ h_k => ⟨(h_k.out 2 (by kernel_rfl)).trans (litGet (by kernel_rfl)), trivial⟩) (fun g_ X_ => (wn rfl)) (fun b_ g_ => by kernel_rfl) (fun b_ g_ X_ w_ h_b h_ => valTo (b := .agg (pcs p).toArray) (by kernel_rfl) (gLoadAg (vs := pcs p) (k := 0) 0 h_ rfl (by kernel_rfl) (by kernel_rfl) (.tmp 2) Ty.ag_voxel_api_Point rfl (litEv (by kernel_rfl))))) ?_
     refine aoNext rfl (aoCall (fun g_ => [(10, .agg (pcs b.mn).toArray), (11, .agg (pcs p).toArray)]) (fun g_ a_ h_k => ⟨(h_k.inn 1 _ _ (by kernel_rfl) rfl rfl).trans (by kernel_rfl), (h_k.inn 2 _ _ (by kernel_rfl) rfl rfl).trans (by kernel_rfl), trivial⟩) 52 (fun g_ => [.agg (pcs b.mn).toArray, .agg (pcs p).toArray]) [] [] (by kernel_rfl) (fun g_ X_ => (wn rfl)) (fun b_ g_ => by kernel_rfl) rfl (fun g_ X_ => litEv (by kernel_rfl)) (fun g_ X_ => litArgs (by kernel_rfl)) (fun b_ g_ w_ h_b h_ => (sub_any b.mn p hb.1 hp _).mono (fun _ _ h_r => ⟨h_r.1.trans (by kernel_rfl), h_r.2⟩))) ?_
     refine aoNext rfl (aoVal (fun g_ => [(2, .pointer (some ⟨g2, 0, none⟩))]) (fun g_ a_ h_k => ⟨(h_k.out 2 (by kernel_rfl)).trans (litGet (by kernel_rfl)), trivial⟩) (fun g_ X_ => (wn rfl)) (fun b_ g_ => by kernel_rfl) (fun b_ g_ X_ w_ h_b h_ => valTo (b := .agg (pcs p).toArray) (by kernel_rfl) (gLoadAg (vs := pcs p) (k := 0) 0 h_ rfl (by kernel_rfl) (by kernel_rfl) (.tmp 2) Ty.ag_voxel_api_Point rfl (litEv (by kernel_rfl))))) ?_
     refine aoNext rfl (aoVal (fun g_ => [(3, .pointer (some ⟨g5, 0, none⟩))]) (fun g_ a_ h_k => ⟨(h_k.out 3 (by kernel_rfl)).trans (litGet (by kernel_rfl)), trivial⟩) (fun g_ X_ => (wn rfl)) (fun b_ g_ => by kernel_rfl) (fun b_ g_ X_ w_ h_b h_ => valTo (b := .pointer (some ⟨g5, 3, none⟩)) (by kernel_rfl) (litRun (by kernel_rfl)))) ?_
     refine aoNext rfl (aoVal (fun g_ => [(14, .pointer (some ⟨g5, 3, none⟩))]) (fun g_ a_ h_k => ⟨(h_k.inn 5 _ _ (by kernel_rfl) rfl rfl).trans (by kernel_rfl), trivial⟩) (fun g_ X_ => (wn rfl)) (fun b_ g_ => by kernel_rfl) (fun b_ g_ X_ w_ h_b h_ => valTo (b := .agg (pcs b.mx).toArray) (by kernel_rfl) (gLoadAg (vs := pcs b.mx) (k := 3) 1 h_ rfl (by kernel_rfl) (by kernel_rfl) (.tmp 14) Ty.ag_voxel_api_Point rfl (litEv (by kernel_rfl))))) ?_
     refine aoNext rfl (aoCall (fun g_ => [(13, .agg (pcs p).toArray), (15, .agg (pcs b.mx).toArray)]) (fun g_ a_ h_k => ⟨(h_k.inn 4 _ _ (by kernel_rfl) rfl rfl).trans (by kernel_rfl), (h_k.inn 6 _ _ (by kernel_rfl) rfl rfl).trans (by kernel_rfl), trivial⟩) 52 (fun g_ => [.agg (pcs p).toArray, .agg (pcs b.mx).toArray]) [] [] (by kernel_rfl) (fun g_ X_ => (wn rfl)) (fun b_ g_ => by kernel_rfl) rfl (fun g_ X_ => litEv (by kernel_rfl)) (fun g_ X_ => litArgs (by kernel_rfl)) (fun b_ g_ w_ h_b h_ => (sub_any p b.mx hp hb.2 _).mono (fun _ _ h_r => ⟨h_r.1.trans (by kernel_rfl), h_r.2⟩))) ?_
     refine aoNext rfl (aoNewAg (z := [.int .i64 0, .int .i64 0, .int .i64 0]) 2 Ty.ag_voxel_api_Point rfl rfl (fun _ _ _ => ⟨_, rfl⟩) (fun b_ g_ γ_ h_b => Eq.trans (by kernel_rfl) (congrArg (fun x_ => List.set _ 2 (Res.arr γ_ 23 x_)) (bselF (α := List Value) (h_b.post 10 (by kernel_rfl)) [.int .i64 ((b.mn.sub p).x), .int .i64 ((b.mn.sub p).y), .int .i64 ((b.mn.sub p).z)] [.int .i64 0, .int .i64 0, .int .i64 0]))) (fun _ => by kernel_rfl) (by kernel_rfl)) ?_
     refine aoNext rfl (aoNewAg (z := [.int .i64 0, .int .i64 0, .int .i64 0]) 3 Ty.ag_voxel_api_Point rfl rfl (fun _ _ _ => ⟨_, rfl⟩) (fun b_ g_ γ_ h_b => Eq.trans (by kernel_rfl) (congrArg (fun x_ => List.set _ 3 (Res.arr γ_ 23 x_)) (bselF (α := List Value) (h_b.post 11 (by kernel_rfl)) [.int .i64 ((p.sub b.mx).x), .int .i64 ((p.sub b.mx).y), .int .i64 ((p.sub b.mx).z)] [.int .i64 0, .int .i64 0, .int .i64 0]))) (fun _ => by kernel_rfl) (by kernel_rfl)) ?_
     refine aoNext rfl (aoStore (gb := fun g_ => (g_ 8)) (k := 0) (cur := fun g_ => [.int .i64 0, .int .i64 0, .int .i64 0]) (vs := fun g_ => pcs (b.mn.sub p)) 2 (fun g_ => [(5, .pointer (some ⟨(g_ 8), 0, none⟩)), (12, .agg (pcs (b.mn.sub p)).toArray)]) (fun g_ a_ h_k => ⟨(h_k.inn 8 _ _ (by kernel_rfl) rfl rfl).trans (by kernel_rfl), (h_k.inn 3 _ _ (by kernel_rfl) rfl rfl).trans (by kernel_rfl), trivial⟩) Ty.ag_voxel_api_Point (fun b_ g_ h_b => by show some (bsel (b_ 8) (Res.arr (g_ 8) 23 (bsel (b_ 10) [.int .i64 ((b.mn.sub p).x), .int .i64 ((b.mn.sub p).y), .int .i64 ((b.mn.sub p).z)] [.int .i64 0, .int .i64 0, .int .i64 0])) Res.free) = some (Res.arr (g_ 8) 23 ([.int .i64 0, .int .i64 0, .int .i64 0])); rw [bselT (h_b.pre 8 (by kernel_rfl)), bselF h_b.no]) (fun g_ X_ => (wn rfl)) rfl (fun g_ X_ => litEv (by kernel_rfl)) (fun g_ X_ => litEv (by kernel_rfl)) (fun _ => by kernel_rfl) (fun _ => by kernel_rfl) (fun _ => by kernel_rfl) (fun b_ g_ h_b => Eq.trans (b := List.set (((.arr g2 23 (pcs p)) :: (.arr g5 55 (bxs b)) :: (bsel (b_ 8) (.arr (g_ 8) 23 (bsel (b_ 10) [.int .i64 ((b.mn.sub p).x), .int .i64 ((b.mn.sub p).y), .int .i64 ((b.mn.sub p).z)] [.int .i64 0, .int .i64 0, .int .i64 0])) .free) :: (bsel (b_ 9) (.arr (g_ 9) 23 (bsel (b_ 11) [.int .i64 ((p.sub b.mx).x), .int .i64 ((p.sub b.mx).y), .int .i64 ((p.sub b.mx).z)] [.int .i64 0, .int .i64 0, .int .i64 0])) .free) :: [])) 2 (bsel (b_ 8) (Res.arr (g_ 8) 23 ([.int .i64 ((b.mn.sub p).x), .int .i64 ((b.mn.sub p).y), .int .i64 ((b.mn.sub p).z)])) Res.free)) (by kernel_rfl) (congrArg (fun x_ => List.set _ 2 x_) (bselT (h_b.pre 8 (by kernel_rfl)) _ _))) rfl) ?_
     refine aoNext rfl (aoStore (gb := fun g_ => (g_ 9)) (k := 0) (cur := fun g_ => [.int .i64 0, .int .i64 0, .int .i64 0]) (vs := fun g_ => pcs (p.sub b.mx)) 3 (fun g_ => [(6, .pointer (some ⟨(g_ 9), 0, none⟩)), (16, .agg (pcs (p.sub b.mx)).toArray)]) (fun g_ a_ h_k => ⟨(h_k.inn 9 _ _ (by kernel_rfl) rfl rfl).trans (by kernel_rfl), (h_k.inn 7 _ _ (by kernel_rfl) rfl rfl).trans (by kernel_rfl), trivial⟩) Ty.ag_voxel_api_Point (fun b_ g_ h_b => by show some (bsel (b_ 9) (Res.arr (g_ 9) 23 (bsel (b_ 11) [.int .i64 ((p.sub b.mx).x), .int .i64 ((p.sub b.mx).y), .int .i64 ((p.sub b.mx).z)] [.int .i64 0, .int .i64 0, .int .i64 0])) Res.free) = some (Res.arr (g_ 9) 23 ([.int .i64 0, .int .i64 0, .int .i64 0])); rw [bselT (h_b.pre 9 (by kernel_rfl)), bselF h_b.no]) (fun g_ X_ => (wn rfl)) rfl (fun g_ X_ => litEv (by kernel_rfl)) (fun g_ X_ => litEv (by kernel_rfl)) (fun _ => by kernel_rfl) (fun _ => by kernel_rfl) (fun _ => by kernel_rfl) (fun b_ g_ h_b => Eq.trans (b := List.set (((.arr g2 23 (pcs p)) :: (.arr g5 55 (bxs b)) :: (bsel (b_ 8) (.arr (g_ 8) 23 (bsel (b_ 10) [.int .i64 ((b.mn.sub p).x), .int .i64 ((b.mn.sub p).y), .int .i64 ((b.mn.sub p).z)] [.int .i64 0, .int .i64 0, .int .i64 0])) .free) :: (bsel (b_ 9) (.arr (g_ 9) 23 (bsel (b_ 11) [.int .i64 ((p.sub b.mx).x), .int .i64 ((p.sub b.mx).y), .int .i64 ((p.sub b.mx).z)] [.int .i64 0, .int .i64 0, .int .i64 0])) .free) :: [])) 3 (bsel (b_ 9) (Res.arr (g_ 9) 23 ([.int .i64 ((p.sub b.mx).x), .int .i64 ((p.sub b.mx).y), .int .i64 ((p.sub b.mx).z)])) Res.free)) (by kernel_rfl) (congrArg (fun x_ => List.set _ 3 x_) (bselT (h_b.pre 9 (by kernel_rfl)) _ _))) rfl) ?_
     exact aoDone (by decide)
   intro g_ a_ w15 hF_ hm14
   obtain ⟨X16, rfl⟩ := frLit (⟨hF_.size, hF_.defers, ⟨(hF_.out 4 (by kernel_rfl)).trans (litGet (by kernel_rfl)), (hF_.inn 8 _ _ rfl rfl).trans (by kernel_rfl), (hF_.inn 9 _ _ rfl rfl).trans (by kernel_rfl), (hF_.inn 0 _ _ rfl rfl).trans (by kernel_rfl), (hF_.inn 1 _ _ rfl rfl).trans (by kernel_rfl), (hF_.inn 2 _ _ rfl rfl).trans (by kernel_rfl), (hF_.inn 3 _ _ rfl rfl).trans (by kernel_rfl), (hF_.inn 4 _ _ rfl rfl).trans (by kernel_rfl), (hF_.inn 5 _ _ rfl rfl).trans (by kernel_rfl), (hF_.inn 6 _ _ rfl rfl).trans (by kernel_rfl), (hF_.inn 7 _ _ rfl rfl).trans (by kernel_rfl), trivial⟩⟩ : Fr _ 30 [(4, .int .i64 0), (5, .pointer (some ⟨(g_ 8), 0, none⟩)), (6, .pointer (some ⟨(g_ 9), 0, none⟩)), (9, .pointer (some ⟨g5, 0, none⟩)), (10, .agg (pcs b.mn).toArray), (11, .agg (pcs p).toArray), (12, .agg (pcs (b.mn.sub p)).toArray), (13, .agg (pcs p).toArray), (14, .pointer (some ⟨g5, 3, none⟩)), (15, .agg (pcs b.mx).toArray), (16, .agg (pcs (p.sub b.mx)).toArray)])
   clear hF_
   have hm17 : Mem w w15 [.arr g2 23 (pcs p), .arr g5 55 (bxs b), .arr (g_ 8) 23 (pcs (b.mn.sub p)), .arr (g_ 9) 23 (pcs (p.sub b.mx))] := hm14
   clear hm14 hm11
   generalize g_ 8 = g18 at hm17 ⊢
   generalize g_ 9 = g19 at hm17 ⊢
   clear g_
   refine then_normal (hK13 _ _ ?_)
   refine wp_seq_k fun K20 hK20 => ?_
   refine plStart ?_
   refine lk (v := .pointer (some ⟨g18, 0, none⟩)) rfl rfl rfl ?_
   refine litVal (v := .int .i64 ((b.mn.sub p).x)) rfl (wn rfl) (gLoad (v := .int .i64 ((b.mn.sub p).x)) (k := 0) 2 hm17 rfl (by kernel_rfl) (.tmp 17) (by kernel_rfl) rfl (litEv (by kernel_rfl))) rfl (by decide) ?_
   refine lk (v := .pointer (some ⟨g18, 1, none⟩)) rfl rfl rfl ?_
   refine litVal (v := .int .i64 ((b.mn.sub p).y)) rfl (wn rfl) (gLoad (v := .int .i64 ((b.mn.sub p).y)) (k := 1) 2 hm17 rfl (by kernel_rfl) (.tmp 19) (by kernel_rfl) rfl (litEv (by kernel_rfl))) rfl (by decide) ?_
   refine lk (v := .pointer (some ⟨g18, 2, none⟩)) rfl rfl rfl ?_
   refine litVal (v := .int .i64 ((b.mn.sub p).z)) rfl (wn rfl) (gLoad (v := .int .i64 ((b.mn.sub p).z)) (k := 2) 2 hm17 rfl (by kernel_rfl) (.tmp 21) (by kernel_rfl) rfl (litEv (by kernel_rfl))) rfl (by decide) ?_
   refine lk (v := .pointer (some ⟨g19, 0, none⟩)) rfl rfl rfl ?_
   refine litVal (v := .int .i64 ((p.sub b.mx).x)) rfl (wn rfl) (gLoad (v := .int .i64 ((p.sub b.mx).x)) (k := 0) 3 hm17 rfl (by kernel_rfl) (.tmp 23) (by kernel_rfl) rfl (litEv (by kernel_rfl))) rfl (by decide) ?_
   refine lk (v := .pointer (some ⟨g19, 1, none⟩)) rfl rfl rfl ?_
   refine litVal (v := .int .i64 ((p.sub b.mx).y)) rfl (wn rfl) (gLoad (v := .int .i64 ((p.sub b.mx).y)) (k := 1) 3 hm17 rfl (by kernel_rfl) (.tmp 25) (by kernel_rfl) rfl (litEv (by kernel_rfl))) rfl (by decide) ?_
   refine lk (v := .pointer (some ⟨g19, 2, none⟩)) rfl rfl rfl ?_
   refine litVal (v := .int .i64 ((p.sub b.mx).z)) rfl (wn rfl) (gLoad (v := .int .i64 ((p.sub b.mx).z)) (k := 2) 3 hm17 rfl (by kernel_rfl) (.tmp 27) (by kernel_rfl) rfl (litEv (by kernel_rfl))) rfl (by decide) ?_
   refine litVal (v := .int .i64 (max (max (max (max (max (max 0 ((b.mn.sub p).x)) ((b.mn.sub p).y)) ((b.mn.sub p).z)) ((p.sub b.mx).x)) ((p.sub b.mx).y)) ((p.sub b.mx).z))) rfl (wn rfl) (gMax7 (.const (.int .i64 0)) (.tmp 18) (.tmp 20) (.tmp 22) (.tmp 24) (.tmp 26) (.tmp 28) rfl (litEv (by kernel_rfl)) (litEv (by kernel_rfl)) (litEv (by kernel_rfl)) (litEv (by kernel_rfl)) (litEv (by kernel_rfl)) (litEv (by kernel_rfl)) (litEv (by kernel_rfl))) rfl (by decide) ?_
   refine lk (v := .int .i64 (max (max (max (max (max (max 0 ((b.mn.sub p).x)) ((b.mn.sub p).y)) ((b.mn.sub p).z)) ((p.sub b.mx).x)) ((p.sub b.mx).y)) ((p.sub b.mx).z))) rfl rfl rfl ?_
   refine plD ?_
   refine then_normal (hK20 _ _ ?_)
   refine wpPrune [(4, .int .i64 (max (max (max (max (max (max 0 ((b.mn.sub p).x)) ((b.mn.sub p).y)) ((b.mn.sub p).z)) ((p.sub b.mx).x)) ((p.sub b.mx).y)) ((p.sub b.mx).z)))] ⟨litGet (by kernel_rfl), trivial⟩ (fun X21 => ?_)
   refine wp_ret ?_
   refine bodyPost_ret (v := .int .i64 (max (max (max (max (max (max 0 ((b.mn.sub p).x)) ((b.mn.sub p).y)) ((b.mn.sub p).z)) ((p.sub b.mx).x)) ((p.sub b.mx).y)) ((p.sub b.mx).z))) (gRes1 rfl (gResTmp (t := 4) (v := .int .i64 (max (max (max (max (max (max 0 ((b.mn.sub p).x)) ((b.mn.sub p).y)) ((b.mn.sub p).z)) ((p.sub b.mx).x)) ((p.sub b.mx).y)) ((p.sub b.mx).z))) (litGet (by kernel_rfl)))) rfl ?_
   exact ⟨congrArg (fun n_ => Ending.returned (.int .i64 n_)) (show max (max (max (max (max (max 0 ((b.mn.sub p).x)) ((b.mn.sub p).y)) ((b.mn.sub p).z)) ((p.sub b.mx).x)) ((p.sub b.mx).y)) ((p.sub b.mx).z) = nearB p b by unfold nearB; rw [if_neg (of_decide_eq_false h12)]; rfl), hm17.bel⟩
 rw [h12]
 refine plD ?_
 refine then_normal (hK9 _ _ ?_)
 refine wp_cond_true (litEv (by kernel_rfl)) ?_
 refine wp_seq_k fun K22 hK22 => ?_
 refine plStart ?_
 refine lk (v := .int .i64 (-1)) rfl rfl rfl ?_
 refine plD ?_
 refine then_normal (hK22 _ _ ?_)
 refine wp_ret ?_
 refine then_ret ?_
 refine bodyPost_ret (v := .int .i64 (-1)) (gRes1 rfl (gResTmp (t := 4) (v := .int .i64 (-1)) (litGet (by kernel_rfl)))) rfl ?_
 exact ⟨congrArg (fun n_ => Ending.returned (.int .i64 n_)) (show -1 = nearB p b by unfold nearB; rw [if_pos (of_decide_eq_true h12)]), hm11.bel⟩
set_option maxRecDepth 100000 in
set_option maxHeartbeats 4000000 in
theorem err_any (v : Vw) (t : Tl) (hv : ckV v = 0) (h : t.Ok) (w : World) : Calls Try.prog 14 #[.agg (vwc v).toArray, .agg (tlc t).toArray] w (RetV w (.int .i64 (err v t))) := by
 have hck_ := ckV_ok hv
 have hrg_ := hck_.1
 unfold Pt.rng at hrg_
 have hs_ := side_bd h.lv
 have hin_ := h.inP
 unfold Pt.In at hin_
 have hsc_ := sc_bd hv h.lv
 have hl_ := h.lv
 have hp2_ := pow12 h.lv
 have hp : (-1073741824 ≤ v.p.x ∧ v.p.x ≤ 1073741824) ∧ (-1073741824 ≤ v.p.y ∧ v.p.y ≤ 1073741824) ∧ (-1073741824 ≤ v.p.z ∧ v.p.z ≤ 1073741824) := by omega
 have hb : ((-1073741824 ≤ t.box.mn.x ∧ t.box.mn.x ≤ 1073741824) ∧ (-1073741824 ≤ t.box.mn.y ∧ t.box.mn.y ≤ 1073741824) ∧ (-1073741824 ≤ t.box.mn.z ∧ t.box.mn.z ≤ 1073741824)) ∧ ((-1073741824 ≤ t.box.mx.x ∧ t.box.mx.x ≤ 1073741824) ∧ (-1073741824 ≤ t.box.mx.y ∧ t.box.mx.y ≤ 1073741824) ∧ (-1073741824 ≤ t.box.mx.z ∧ t.box.mx.z ≤ 1073741824)) := by unfold Tl.box Bx.shift cubeB Pt.add; simp only; omega
 have hm0 := Mem.nil w
 go_enter Try.func14, Try.ntmps14
 refine litStart 17 [(0, .agg (vwc v).toArray), (1, .agg (tlc t).toArray)] (by kernel_rfl) (fun X0 => ?_)
 refine wp_seq_k fun K1 hK1 => ?_
 refine plStart ?_
 refine plBox hm0 (cs := vwc v) (i := 0) rfl (wn rfl) rfl (litEv (by kernel_rfl)) ?_
 intro g2 w4 hm3
 clear hm0
 try simp only [List.cons_append, List.nil_append, List.set_cons_succ, List.set_cons_zero] at hm3
 refine qP rfl ?_
 refine plBox hm3 (cs := tlc t) (i := 1) rfl (wn rfl) rfl (litEv (by kernel_rfl)) ?_
 intro g5 w7 hm6
 clear hm3
 try simp only [List.cons_append, List.nil_append, List.set_cons_succ, List.set_cons_zero] at hm6
 refine qP rfl ?_
 refine lk (v := .int .i64 0) rfl rfl rfl ?_
 refine plD ?_
 refine then_normal (hK1 _ _ ?_)
 refine wp_seq_k fun K8 hK8 => ?_
 refine mgStart hm6 (by kernel_rfl) ?_
 intro w10 hm9
 clear hm6
 refine mk_ (i := 0) (v := .pointer (some ⟨g2, 3, none⟩)) rfl rfl (fun _ _ _ h => h) hm9 rfl ?_
 refine mgTake (i := 1) (v := .int .i64 v.sc) rfl (by kernel_rfl) (wn rfl) (fun _ _ _ h => h) hm9 (fun w_ h_ => gLoad (v := .int .i64 v.sc) (k := 3) 0 h_ rfl (by kernel_rfl) (.tmp 5) (by kernel_rfl) rfl (litEv (by kernel_rfl))) ?_
 refine mP rfl ?_
 refine mk_ (i := 2) (v := .pointer (some ⟨g5, 0, none⟩)) rfl rfl (fun _ _ _ h => h) hm9 rfl ?_
 refine mgTake (i := 3) (v := .int .i64 t.lv) rfl (by kernel_rfl) (wn rfl) (fun _ _ _ h => h) hm9 (fun w_ h_ => gLoad (v := .int .i64 t.lv) (k := 0) 1 h_ rfl (by kernel_rfl) (.tmp 7) (by kernel_rfl) rfl (litEv (by kernel_rfl))) ?_
 refine mP rfl ?_
 refine mgTake (i := 4) (v := .int .i64 (v.sc * 2 ^ t.lv.toNat)) rfl (by kernel_rfl) (wn rfl) (fun _ _ _ h => h) hm9 (fun w_ h_ => gShl (A := v.sc) (N := t.lv) (C := v.sc * 2 ^ t.lv.toNat) (.tmp 6) (.tmp 8) rfl (litEv (by kernel_rfl)) (litEv (by kernel_rfl)) (rfl) (by omega) (by omega) (by omega)) ?_
 refine mP rfl ?_
 refine mk_ (i := 5) (v := .pointer (some ⟨g2, 0, none⟩)) rfl rfl (fun _ _ _ h => h) hm9 rfl ?_
 refine mgTake (i := 6) (v := .agg (pcs v.p).toArray) rfl (by kernel_rfl) (wn rfl) (fun _ _ _ h => h) hm9 (fun w_ h_ => gLoadAg (vs := pcs v.p) (k := 0) 0 h_ rfl (by kernel_rfl) (by kernel_rfl) (.tmp 10) Ty.ag_voxel_api_Point rfl (litEv (by kernel_rfl))) ?_
 refine mP rfl ?_
 refine mgTake (i := 7) (v := .agg (tlc t).toArray) rfl (by kernel_rfl) (wn rfl) (fun _ _ _ h => h) hm9 (fun w_ h_ => gLoadAg (vs := tlc t) (k := 0) 1 h_ rfl (by kernel_rfl) (by kernel_rfl) (.tmp 3) Ty.ag_voxel_api_Tile rfl (litEv (by kernel_rfl))) ?_
 refine mP rfl ?_
 refine mgCall (i := 8) 35 [.agg (tlc t).toArray] [] [] (by kernel_rfl) rfl (by kernel_rfl) (wn rfl) rfl (litEv (by kernel_rfl)) (litArgs (by kernel_rfl)) (box_any t h _) ?_
 rintro e w11 ⟨rfl, hbz⟩
 have hm12 := hm9.below hbz
 clear hbz hm9
 refine ⟨_, rfl, hm12, ?_⟩
 refine mP rfl ?_
 refine mgCall (i := 9) 34 [.agg (pcs v.p).toArray, .agg (bxs t.box).toArray] [] [] (by kernel_rfl) rfl (by kernel_rfl) (wn rfl) rfl (litEv (by kernel_rfl)) (litArgs (by kernel_rfl)) (near_any v.p t.box hp hb _) ?_
 rintro e w13 ⟨rfl, hbz⟩
 have hm14 := hm12.below hbz
 clear hbz hm12
 refine ⟨_, rfl, hm14, ?_⟩
 refine mP rfl ?_
 refine mgTake (i := 10) (v := .int .i64 (max 1 (nearB v.p t.box))) rfl (by kernel_rfl) (wn rfl) (fun _ _ _ h => h) hm14 (fun w_ h_ => gMax (.const (.int .i64 1)) (.tmp 14) rfl (litEv (by kernel_rfl)) (litEv (by kernel_rfl))) ?_
 refine mP rfl ?_
 refine mgTake (i := 11) (v := .int .i64 ((v.sc * 2 ^ t.lv.toNat) / (max 1 (nearB v.p t.box)))) rfl (by kernel_rfl) (wn rfl) (fun _ _ _ h => h) hm14 (fun w_ h_ => gQuo (A := (v.sc * 2 ^ t.lv.toNat)) (B := (max 1 (nearB v.p t.box))) (C := (v.sc * 2 ^ t.lv.toNat) / (max 1 (nearB v.p t.box))) (.tmp 9) (.tmp 15) rfl (litEv (by kernel_rfl)) (litEv (by kernel_rfl)) rfl (by omega) (by omega)) ?_
 refine mP rfl ?_
 refine mk_ (i := 12) (v := .int .i64 ((v.sc * 2 ^ t.lv.toNat) / (max 1 (nearB v.p t.box)))) rfl rfl (fun _ _ _ h => h) hm14 rfl ?_
 refine mgDone (by kernel_rfl) ?_
 refine then_normal (hK8 _ _ ?_)
 refine wpPrune [(4, .int .i64 ((v.sc * 2 ^ t.lv.toNat) / (max 1 (nearB v.p t.box))))] ⟨litGet (by kernel_rfl), trivial⟩ (fun X15 => ?_)
 refine wp_ret ?_
 refine bodyPost_ret (v := .int .i64 ((v.sc * 2 ^ t.lv.toNat) / (max 1 (nearB v.p t.box)))) (gRes1 rfl (gResTmp (t := 4) (v := .int .i64 ((v.sc * 2 ^ t.lv.toNat) / (max 1 (nearB v.p t.box)))) (litGet (by kernel_rfl)))) rfl ?_
 exact ⟨by rfl, hm14.bel⟩
set_option maxRecDepth 100000 in
set_option maxHeartbeats 4000000 in
theorem ten_any (t : Tl) (w : World) : Calls Try.prog 28 #[.agg (tlc t).toArray] w (RetV w (.int .i64 10)) := by
 have hm0 := Mem.nil w
 go_enter Try.func28, Try.ntmps28
 refine litStart 3 [(0, .agg (tlc t).toArray)] (by kernel_rfl) (fun X0 => ?_)
 refine wp_seq_k fun K1 hK1 => ?_
 refine plStart ?_
 refine plBox hm0 (cs := tlc t) (i := 0) rfl (wn rfl) rfl (litEv (by kernel_rfl)) ?_
 intro g2 w4 hm3
 clear hm0
 try simp only [List.cons_append, List.nil_append, List.set_cons_succ, List.set_cons_zero] at hm3
 refine qP rfl ?_
 refine lk (v := .int .i64 0) rfl rfl rfl ?_
 refine plD ?_
 refine then_normal (hK1 _ _ ?_)
 refine wp_seq_k fun K5 hK5 => ?_
 refine plStart ?_
 refine lk (v := .int .i64 10) rfl rfl rfl ?_
 refine plD ?_
 refine then_normal (hK5 _ _ ?_)
 refine wp_ret ?_
 refine bodyPost_ret (v := .int .i64 10) (gRes1 rfl (gResTmp (t := 2) (v := .int .i64 10) (litGet (by kernel_rfl)))) rfl ?_
 exact ⟨by rfl, hm3.bel⟩
end Go.Proofs.Ytkmhjgdpkddbnaa
namespace Go.Proofs.Ytkmhjgdpkddbnaa
open Go.RowKit
set_option linter.unusedVariables false
set_option linter.unusedSimpArgs false
theorem tmod_bd (A B : Int) (hB : 1 ≤ B) : -B < Int.tmod A B ∧ Int.tmod A B < B ∧ (0 ≤ A → 0 ≤ Int.tmod A B) := by
  have h1 := Int.lt_tmod_of_pos A (show 0 < B by omega)
  have h2 := Int.tmod_lt_of_pos A (show 0 < B by omega)
  exact ⟨h1, h2, fun h => Int.tmod_nonneg B h⟩
theorem gRem {P : Program} {w : World} {o : Oper} {a : Act} {t ty : TypeId} {A B C : Int} (x y : Operand) (ho : o.op = .binOp .rem t x y ty) (hx : a.eval x = .int .i64 A) (hy : a.eval y = .int .i64 B) (hB : 1 ≤ B) (hC : Int.tmod A B = C) : (execOp a.eval o).run P w = .ok (.value (.int .i64 C)) w := by
  have h0 : ¬ B = 0 := by omega
  unfold execOp
  simp [ho, hx, hy, eqGuard, binOp_rem, Op.intDiv, h0, hC]
theorem cost_mul {a b : Int} (ha : 0 ≤ a ∧ a ≤ 1000000) (hb : 0 ≤ b ∧ b ≤ 20) : -9223372036854775808 ≤ a * b ∧ a * b ≤ 9223372036854775807 := by
  have h1 : 0 ≤ a * b := Int.mul_nonneg ha.1 hb.1
  have h2 : a * b ≤ 1000000 * 20 := Int.mul_le_mul ha.2 hb.2 hb.1 (by omega)
  omega
def hstep (n x : Int) : Int := Int.tmod (Int.tmod (n * 31 + Int.tmod x 1000003 + 7) 1000003 + 1000003) 1000003
def costN (c : Cst) (t : Tl) : Int := hstep (hstep (hstep (hstep (Int.tmod (Int.tmod c.seed 1000003 + 1000003) 1000003) t.lv) t.p.x) t.p.y) t.p.z
def costB (c : Cst) (t : Tl) : Int := if 0 < c.spread then max 0 (min c.base 100000) + Int.tmod (costN c t) (min c.spread 100000) else max 0 (min c.base 100000)
/-- What a tile costs. -/
def costP (c : Cst) (t : Tl) : Int := if c.kind = 1 then costB c t * (t.lv + 1) else costB c t
theorem costP_bd (c : Cst) (t : Tl) (h : 0 ≤ t.lv ∧ t.lv ≤ 12) : 0 ≤ costP c t ∧ costP c t ≤ 4000000 := by
  have hn : 0 ≤ costN c t := by
    unfold costN hstep
    refine (tmod_bd _ _ (by omega)).2.2 ?_
    have := tmod_bd (hstep (hstep (hstep (Int.tmod (Int.tmod c.seed 1000003 + 1000003) 1000003) t.lv) t.p.x) t.p.y * 31 + Int.tmod t.p.z 1000003 + 7) 1000003 (by omega)
    unfold hstep at this
    omega
  have hB : 0 ≤ costB c t ∧ costB c t ≤ 200000 := by
    unfold costB
    split
    · have := tmod_bd (costN c t) (min c.spread 100000) (by omega)
      have := this.2.2 hn
      omega
    · omega
  unfold costP
  split
  · have h1 : 0 ≤ costB c t * (t.lv + 1) := Int.mul_nonneg hB.1 (by omega)
    have h2 : costB c t * (t.lv + 1) ≤ 200000 * 13 := Int.mul_le_mul hB.2 (by omega) (by omega) (by omega)
    omega
  · omega
set_option maxRecDepth 100000 in
set_option maxHeartbeats 4000000 in
theorem cost_any (c : Cst) (t : Tl) (h : 0 ≤ t.lv ∧ t.lv ≤ 12) (w : World) : Calls Try.prog 19 #[.agg (csc c).toArray, .agg (tlc t).toArray] w (RetV w (.int .i64 (costP c t))) := by
 have hm0 := Mem.nil w
 go_enter Try.func19, Try.ntmps19
 refine litStart 65 [(0, .agg (csc c).toArray), (1, .agg (tlc t).toArray)] (by kernel_rfl) (fun X0 => ?_)
 refine wp_seq_k fun K1 hK1 => ?_
 refine plStart ?_
 refine plBox hm0 (cs := csc c) (i := 0) rfl (wn rfl) rfl (litEv (by kernel_rfl)) ?_
 intro g2 w4 hm3
 clear hm0
 try simp only [List.cons_append, List.nil_append, List.set_cons_succ, List.set_cons_zero] at hm3
 refine qP rfl ?_
 refine plBox hm3 (cs := tlc t) (i := 1) rfl (wn rfl) rfl (litEv (by kernel_rfl)) ?_
 intro g5 w7 hm6
 clear hm3
 try simp only [List.cons_append, List.nil_append, List.set_cons_succ, List.set_cons_zero] at hm6
 refine qP rfl ?_
 refine lk (v := .int .i64 0) rfl rfl rfl ?_
 refine plD ?_
 refine then_normal (hK1 _ _ ?_)
 refine wp_seq_k fun K8 hK8 => ?_
 refine plStart ?_
 refine lk (v := .pointer (some ⟨g2, 3, none⟩)) rfl rfl rfl ?_
 refine litVal (v := .int .i64 c.seed) rfl (wn rfl) (gLoad (v := .int .i64 c.seed) (k := 3) 0 hm6 rfl (by kernel_rfl) (.tmp 9) (by kernel_rfl) rfl (litEv (by kernel_rfl))) rfl (by decide) ?_
 obtain ⟨r9, hr9⟩ : ∃ r_, Int.tmod c.seed 1000003 = r_ := ⟨_, rfl⟩
 have br9 := tmod_bd c.seed 1000003 (by omega)
 rw [hr9] at br9
 refine litVal (v := .int .i64 r9) rfl (wn rfl) (gRem (A := c.seed) (B := 1000003) (.tmp 10) (.const (.int .i64 1000003)) rfl (litEv (by kernel_rfl)) (litEv (by kernel_rfl)) (by omega) hr9) rfl (by decide) ?_
 refine litVal (v := .int .i64 (r9 + 1000003)) rfl (wn rfl) (addRun (A := r9) (B := 1000003) (C := r9 + 1000003) (.tmp 11) (.const (.int .i64 1000003)) rfl (litEv (by kernel_rfl)) (litEv (by kernel_rfl)) rfl (by omega)) rfl (by decide) ?_
 obtain ⟨r10, hr10⟩ : ∃ r_, Int.tmod (r9 + 1000003) 1000003 = r_ := ⟨_, rfl⟩
 have br10 := tmod_bd (r9 + 1000003) 1000003 (by omega)
 rw [hr10] at br10
 refine litVal (v := .int .i64 r10) rfl (wn rfl) (gRem (A := (r9 + 1000003)) (B := 1000003) (.tmp 12) (.const (.int .i64 1000003)) rfl (litEv (by kernel_rfl)) (litEv (by kernel_rfl)) (by omega) hr10) rfl (by decide) ?_
 refine lk (v := .int .i64 r10) rfl rfl rfl ?_
 refine plD ?_
 refine then_normal (hK8 _ _ ?_)
 refine wp_seq_k fun K11 hK11 => ?_
 refine plStart ?_
 refine lk (v := .pointer (some ⟨g5, 0, none⟩)) rfl rfl rfl ?_
 refine litVal (v := .int .i64 t.lv) rfl (wn rfl) (gLoad (v := .int .i64 t.lv) (k := 0) 1 hm6 rfl (by kernel_rfl) (.tmp 14) (by kernel_rfl) rfl (litEv (by kernel_rfl))) rfl (by decide) ?_
 refine lk (v := .pointer (some ⟨g5, 1, none⟩)) rfl rfl rfl ?_
 refine lk (v := .pointer (some ⟨g5, 1, none⟩)) rfl rfl rfl ?_
 refine litVal (v := .int .i64 t.p.x) rfl (wn rfl) (gLoad (v := .int .i64 t.p.x) (k := 1) 1 hm6 rfl (by kernel_rfl) (.tmp 17) (by kernel_rfl) rfl (litEv (by kernel_rfl))) rfl (by decide) ?_
 refine lk (v := .pointer (some ⟨g5, 1, none⟩)) rfl rfl rfl ?_
 refine lk (v := .pointer (some ⟨g5, 2, none⟩)) rfl rfl rfl ?_
 refine litVal (v := .int .i64 t.p.y) rfl (wn rfl) (gLoad (v := .int .i64 t.p.y) (k := 2) 1 hm6 rfl (by kernel_rfl) (.tmp 20) (by kernel_rfl) rfl (litEv (by kernel_rfl))) rfl (by decide) ?_
 refine lk (v := .pointer (some ⟨g5, 1, none⟩)) rfl rfl rfl ?_
 refine lk (v := .pointer (some ⟨g5, 3, none⟩)) rfl rfl rfl ?_
 refine litVal (v := .int .i64 t.p.z) rfl (wn rfl) (gLoad (v := .int .i64 t.p.z) (k := 3) 1 hm6 rfl (by kernel_rfl) (.tmp 23) (by kernel_rfl) rfl (litEv (by kernel_rfl))) rfl (by decide) ?_
 refine plLit (cs := [.int .i64 t.lv, .int .i64 t.p.x, .int .i64 t.p.y, .int .i64 t.p.z]) (n := 4) Ty.sl_L_int hm6 (i := 11) rfl (wn rfl) rfl (by decide) (by decide) (by rw [lit_eval]; kernel_rfl) ?_
 intro g12 w14 hm13
 clear hm6
 try simp only [List.cons_append, List.nil_append, List.set_cons_succ, List.set_cons_zero] at hm13
 refine qP rfl ?_
 refine lk (v := .slice (some ⟨g12, 0, none⟩) 4 4) rfl rfl rfl ?_
 refine plD ?_
 refine then_normal (hK11 _ _ ?_)
 refine wpPrune [(2, .pointer (some ⟨g2, 0, none⟩)), (3, .pointer (some ⟨g5, 0, none⟩)), (4, .int .i64 0), (5, .int .i64 r10), (6, .slice (some ⟨g12, 0, none⟩) 4 4)] ⟨litGet (by kernel_rfl), ⟨litGet (by kernel_rfl), ⟨litGet (by kernel_rfl), ⟨litGet (by kernel_rfl), ⟨litGet (by kernel_rfl), trivial⟩⟩⟩⟩⟩ (fun X15 => ?_)
 refine wp_seq_k fun K16 hK16 => ?_
 refine wp_seq_k fun K17 hK17 => ?_
 refine plStart ?_
 refine lk (v := .int .i64 0) rfl rfl rfl ?_
 refine plD ?_
 refine then_normal (hK17 _ _ ?_)
 refine wp_block ?_
 refine roundsStart 4 ?_
 refine wp_seq_k fun K18 hK18 => ?_
 refine wp_seq_k fun K19 hK19 => ?_
 refine plStart ?_
 refine lk (v := .int .i64 0) rfl rfl rfl ?_
 refine lk (v := .bool true) rfl rfl rfl ?_
 refine plD ?_
 refine then_normal (hK19 _ _ ?_)
 refine wp_cond_true (litEv (by kernel_rfl)) ?_
 refine wp_skip ?_
 refine then_normal (hK18 _ _ ?_)
 refine wp_seq_k fun K20 hK20 => ?_
 refine wp_block ?_
 refine plStart ?_
 refine lk (v := .int .i64 r10) rfl rfl rfl ?_
 refine litVal (v := .int .i64 (r10 * 31)) rfl (wn rfl) (mulRun (A := r10) (B := 31) (C := r10 * 31) (.tmp 30) (.const (.int .i64 31)) rfl (litEv (by kernel_rfl)) (litEv (by kernel_rfl)) rfl (by omega)) rfl (by decide) ?_
 refine lk (v := .slice (some ⟨g12, 0, none⟩) 4 4) rfl rfl rfl ?_
 refine lk (v := .int .i64 0) rfl rfl rfl ?_
 refine litVal (v := .pointer (some ⟨g12, 0, none⟩)) rfl (wn rfl) (gIaSl (b := g12) (off := 0) (n := 4) (c := 4) (kk := .i64) (K := 0) (.tmp 32) (.tmp 33) 0 Ty.sl_L_int rfl (litEv (by kernel_rfl)) (litEv (by kernel_rfl)) rfl (by decide)) rfl (by decide) ?_
 refine litVal (v := .int .i64 t.lv) rfl (wn rfl) (gLoad (v := .int .i64 t.lv) (k := 0) 2 hm13 rfl (by kernel_rfl) (.tmp 34) (by kernel_rfl) rfl (litEv (by kernel_rfl))) rfl (by decide) ?_
 obtain ⟨r21, hr21⟩ : ∃ r_, Int.tmod t.lv 1000003 = r_ := ⟨_, rfl⟩
 have br21 := tmod_bd t.lv 1000003 (by omega)
 rw [hr21] at br21
 refine litVal (v := .int .i64 r21) rfl (wn rfl) (gRem (A := t.lv) (B := 1000003) (.tmp 35) (.const (.int .i64 1000003)) rfl (litEv (by kernel_rfl)) (litEv (by kernel_rfl)) (by omega) hr21) rfl (by decide) ?_
 refine litVal (v := .int .i64 ((r10 * 31) + r21)) rfl (wn rfl) (addRun (A := (r10 * 31)) (B := r21) (C := (r10 * 31) + r21) (.tmp 31) (.tmp 36) rfl (litEv (by kernel_rfl)) (litEv (by kernel_rfl)) rfl (by omega)) rfl (by decide) ?_
 refine litVal (v := .int .i64 (((r10 * 31) + r21) + 7)) rfl (wn rfl) (addRun (A := ((r10 * 31) + r21)) (B := 7) (C := ((r10 * 31) + r21) + 7) (.tmp 37) (.const (.int .i64 7)) rfl (litEv (by kernel_rfl)) (litEv (by kernel_rfl)) rfl (by omega)) rfl (by decide) ?_
 obtain ⟨r22, hr22⟩ : ∃ r_, Int.tmod (((r10 * 31) + r21) + 7) 1000003 = r_ := ⟨_, rfl⟩
 have br22 := tmod_bd (((r10 * 31) + r21) + 7) 1000003 (by omega)
 rw [hr22] at br22
 refine litVal (v := .int .i64 r22) rfl (wn rfl) (gRem (A := (((r10 * 31) + r21) + 7)) (B := 1000003) (.tmp 38) (.const (.int .i64 1000003)) rfl (litEv (by kernel_rfl)) (litEv (by kernel_rfl)) (by omega) hr22) rfl (by decide) ?_
 refine litVal (v := .int .i64 (r22 + 1000003)) rfl (wn rfl) (addRun (A := r22) (B := 1000003) (C := r22 + 1000003) (.tmp 39) (.const (.int .i64 1000003)) rfl (litEv (by kernel_rfl)) (litEv (by kernel_rfl)) rfl (by omega)) rfl (by decide) ?_
 obtain ⟨r23, hr23⟩ : ∃ r_, Int.tmod (r22 + 1000003) 1000003 = r_ := ⟨_, rfl⟩
 have br23 := tmod_bd (r22 + 1000003) 1000003 (by omega)
 rw [hr23] at br23
 refine litVal (v := .int .i64 r23) rfl (wn rfl) (gRem (A := (r22 + 1000003)) (B := 1000003) (.tmp 40) (.const (.int .i64 1000003)) rfl (litEv (by kernel_rfl)) (litEv (by kernel_rfl)) (by omega) hr23) rfl (by decide) ?_
 refine lk (v := .int .i64 r23) rfl rfl rfl ?_
 refine plD ?_
 refine inBlock_normal ?_
 refine then_normal (hK20 _ _ ?_)
 refine plStart ?_
 refine lk (v := .int .i64 0) rfl rfl rfl ?_
 refine lk (v := .int .i64 1) rfl rfl rfl ?_
 refine lk (v := .int .i64 1) rfl rfl rfl ?_
 refine plD ?_
 refine then_normal (roundsNext ?_)
 refine wp_seq_k fun K24 hK24 => ?_
 refine wp_seq_k fun K25 hK25 => ?_
 refine plStart ?_
 refine lk (v := .int .i64 1) rfl rfl rfl ?_
 refine lk (v := .bool true) rfl rfl rfl ?_
 refine plD ?_
 refine then_normal (hK25 _ _ ?_)
 refine wp_cond_true (litEv (by kernel_rfl)) ?_
 refine wp_skip ?_
 refine then_normal (hK24 _ _ ?_)
 refine wp_seq_k fun K26 hK26 => ?_
 refine wp_block ?_
 refine plStart ?_
 refine lk (v := .int .i64 r23) rfl rfl rfl ?_
 refine litVal (v := .int .i64 (r23 * 31)) rfl (wn rfl) (mulRun (A := r23) (B := 31) (C := r23 * 31) (.tmp 30) (.const (.int .i64 31)) rfl (litEv (by kernel_rfl)) (litEv (by kernel_rfl)) rfl (by omega)) rfl (by decide) ?_
 refine lk (v := .slice (some ⟨g12, 0, none⟩) 4 4) rfl rfl rfl ?_
 refine lk (v := .int .i64 1) rfl rfl rfl ?_
 refine litVal (v := .pointer (some ⟨g12, 1, none⟩)) rfl (wn rfl) (gIaSl (b := g12) (off := 0) (n := 4) (c := 4) (kk := .i64) (K := 1) (.tmp 32) (.tmp 33) 1 Ty.sl_L_int rfl (litEv (by kernel_rfl)) (litEv (by kernel_rfl)) rfl (by decide)) rfl (by decide) ?_
 refine litVal (v := .int .i64 t.p.x) rfl (wn rfl) (gLoad (v := .int .i64 t.p.x) (k := 1) 2 hm13 rfl (by kernel_rfl) (.tmp 34) (by kernel_rfl) rfl (litEv (by kernel_rfl))) rfl (by decide) ?_
 obtain ⟨r27, hr27⟩ : ∃ r_, Int.tmod t.p.x 1000003 = r_ := ⟨_, rfl⟩
 have br27 := tmod_bd t.p.x 1000003 (by omega)
 rw [hr27] at br27
 refine litVal (v := .int .i64 r27) rfl (wn rfl) (gRem (A := t.p.x) (B := 1000003) (.tmp 35) (.const (.int .i64 1000003)) rfl (litEv (by kernel_rfl)) (litEv (by kernel_rfl)) (by omega) hr27) rfl (by decide) ?_
 refine litVal (v := .int .i64 ((r23 * 31) + r27)) rfl (wn rfl) (addRun (A := (r23 * 31)) (B := r27) (C := (r23 * 31) + r27) (.tmp 31) (.tmp 36) rfl (litEv (by kernel_rfl)) (litEv (by kernel_rfl)) rfl (by omega)) rfl (by decide) ?_
 refine litVal (v := .int .i64 (((r23 * 31) + r27) + 7)) rfl (wn rfl) (addRun (A := ((r23 * 31) + r27)) (B := 7) (C := ((r23 * 31) + r27) + 7) (.tmp 37) (.const (.int .i64 7)) rfl (litEv (by kernel_rfl)) (litEv (by kernel_rfl)) rfl (by omega)) rfl (by decide) ?_
 obtain ⟨r28, hr28⟩ : ∃ r_, Int.tmod (((r23 * 31) + r27) + 7) 1000003 = r_ := ⟨_, rfl⟩
 have br28 := tmod_bd (((r23 * 31) + r27) + 7) 1000003 (by omega)
 rw [hr28] at br28
 refine litVal (v := .int .i64 r28) rfl (wn rfl) (gRem (A := (((r23 * 31) + r27) + 7)) (B := 1000003) (.tmp 38) (.const (.int .i64 1000003)) rfl (litEv (by kernel_rfl)) (litEv (by kernel_rfl)) (by omega) hr28) rfl (by decide) ?_
 refine litVal (v := .int .i64 (r28 + 1000003)) rfl (wn rfl) (addRun (A := r28) (B := 1000003) (C := r28 + 1000003) (.tmp 39) (.const (.int .i64 1000003)) rfl (litEv (by kernel_rfl)) (litEv (by kernel_rfl)) rfl (by omega)) rfl (by decide) ?_
 obtain ⟨r29, hr29⟩ : ∃ r_, Int.tmod (r28 + 1000003) 1000003 = r_ := ⟨_, rfl⟩
 have br29 := tmod_bd (r28 + 1000003) 1000003 (by omega)
 rw [hr29] at br29
 refine litVal (v := .int .i64 r29) rfl (wn rfl) (gRem (A := (r28 + 1000003)) (B := 1000003) (.tmp 40) (.const (.int .i64 1000003)) rfl (litEv (by kernel_rfl)) (litEv (by kernel_rfl)) (by omega) hr29) rfl (by decide) ?_
 refine lk (v := .int .i64 r29) rfl rfl rfl ?_
 refine plD ?_
 refine inBlock_normal ?_
 refine then_normal (hK26 _ _ ?_)
 refine wpPrune [(2, .pointer (some ⟨g2, 0, none⟩)), (3, .pointer (some ⟨g5, 0, none⟩)), (4, .int .i64 0), (5, .int .i64 r29), (6, .slice (some ⟨g12, 0, none⟩) 4 4), (7, .int .i64 1), (26, .int .i64 1), (27, .bool true), (28, .int .i64 0), (29, .int .i64 1), (30, .int .i64 r23), (31, .int .i64 (r23 * 31)), (32, .slice (some ⟨g12, 0, none⟩) 4 4), (33, .int .i64 1), (34, .pointer (some ⟨g12, 1, none⟩)), (35, .int .i64 t.p.x), (36, .int .i64 r27), (37, .int .i64 ((r23 * 31) + r27)), (38, .int .i64 (((r23 * 31) + r27) + 7)), (39, .int .i64 r28), (40, .int .i64 (r28 + 1000003)), (41, .int .i64 r29)] ⟨litGet (by kernel_rfl), ⟨litGet (by kernel_rfl), ⟨litGet (by kernel_rfl), ⟨litGet (by kernel_rfl), ⟨litGet (by kernel_rfl), ⟨litGet (by kernel_rfl), ⟨litGet (by kernel_rfl), ⟨litGet (by kernel_rfl), ⟨litGet (by kernel_rfl), ⟨litGet (by kernel_rfl), ⟨litGet (by kernel_rfl), ⟨litGet (by kernel_rfl), ⟨litGet (by kernel_rfl), ⟨litGet (by kernel_rfl), ⟨litGet (by kernel_rfl), ⟨litGet (by kernel_rfl), ⟨litGet (by kernel_rfl), ⟨litGet (by kernel_rfl), ⟨litGet (by kernel_rfl), ⟨litGet (by kernel_rfl), ⟨litGet (by kernel_rfl), ⟨litGet (by kernel_rfl), trivial⟩⟩⟩⟩⟩⟩⟩⟩⟩⟩⟩⟩⟩⟩⟩⟩⟩⟩⟩⟩⟩⟩ (fun X30 => ?_)
 refine plStart ?_
 refine lk (v := .int .i64 1) rfl rfl rfl ?_
 refine lk (v := .int .i64 2) rfl rfl rfl ?_
 refine lk (v := .int .i64 2) rfl rfl rfl ?_
 refine plD ?_
 refine then_normal (roundsNext ?_)
 refine wp_seq_k fun K31 hK31 => ?_
 refine wp_seq_k fun K32 hK32 => ?_
 refine plStart ?_
 refine lk (v := .int .i64 2) rfl rfl rfl ?_
 refine lk (v := .bool true) rfl rfl rfl ?_
 refine plD ?_
 refine then_normal (hK32 _ _ ?_)
 refine wp_cond_true (litEv (by kernel_rfl)) ?_
 refine wp_skip ?_
 refine then_normal (hK31 _ _ ?_)
 refine wp_seq_k fun K33 hK33 => ?_
 refine wp_block ?_
 refine plStart ?_
 refine lk (v := .int .i64 r29) rfl rfl rfl ?_
 refine litVal (v := .int .i64 (r29 * 31)) rfl (wn rfl) (mulRun (A := r29) (B := 31) (C := r29 * 31) (.tmp 30) (.const (.int .i64 31)) rfl (litEv (by kernel_rfl)) (litEv (by kernel_rfl)) rfl (by omega)) rfl (by decide) ?_
 refine lk (v := .slice (some ⟨g12, 0, none⟩) 4 4) rfl rfl rfl ?_
 refine lk (v := .int .i64 2) rfl rfl rfl ?_
 refine litVal (v := .pointer (some ⟨g12, 2, none⟩)) rfl (wn rfl) (gIaSl (b := g12) (off := 0) (n := 4) (c := 4) (kk := .i64) (K := 2) (.tmp 32) (.tmp 33) 2 Ty.sl_L_int rfl (litEv (by kernel_rfl)) (litEv (by kernel_rfl)) rfl (by decide)) rfl (by decide) ?_
 refine litVal (v := .int .i64 t.p.y) rfl (wn rfl) (gLoad (v := .int .i64 t.p.y) (k := 2) 2 hm13 rfl (by kernel_rfl) (.tmp 34) (by kernel_rfl) rfl (litEv (by kernel_rfl))) rfl (by decide) ?_
 obtain ⟨r34, hr34⟩ : ∃ r_, Int.tmod t.p.y 1000003 = r_ := ⟨_, rfl⟩
 have br34 := tmod_bd t.p.y 1000003 (by omega)
 rw [hr34] at br34
 refine litVal (v := .int .i64 r34) rfl (wn rfl) (gRem (A := t.p.y) (B := 1000003) (.tmp 35) (.const (.int .i64 1000003)) rfl (litEv (by kernel_rfl)) (litEv (by kernel_rfl)) (by omega) hr34) rfl (by decide) ?_
 refine litVal (v := .int .i64 ((r29 * 31) + r34)) rfl (wn rfl) (addRun (A := (r29 * 31)) (B := r34) (C := (r29 * 31) + r34) (.tmp 31) (.tmp 36) rfl (litEv (by kernel_rfl)) (litEv (by kernel_rfl)) rfl (by omega)) rfl (by decide) ?_
 refine litVal (v := .int .i64 (((r29 * 31) + r34) + 7)) rfl (wn rfl) (addRun (A := ((r29 * 31) + r34)) (B := 7) (C := ((r29 * 31) + r34) + 7) (.tmp 37) (.const (.int .i64 7)) rfl (litEv (by kernel_rfl)) (litEv (by kernel_rfl)) rfl (by omega)) rfl (by decide) ?_
 obtain ⟨r35, hr35⟩ : ∃ r_, Int.tmod (((r29 * 31) + r34) + 7) 1000003 = r_ := ⟨_, rfl⟩
 have br35 := tmod_bd (((r29 * 31) + r34) + 7) 1000003 (by omega)
 rw [hr35] at br35
 refine litVal (v := .int .i64 r35) rfl (wn rfl) (gRem (A := (((r29 * 31) + r34) + 7)) (B := 1000003) (.tmp 38) (.const (.int .i64 1000003)) rfl (litEv (by kernel_rfl)) (litEv (by kernel_rfl)) (by omega) hr35) rfl (by decide) ?_
 refine litVal (v := .int .i64 (r35 + 1000003)) rfl (wn rfl) (addRun (A := r35) (B := 1000003) (C := r35 + 1000003) (.tmp 39) (.const (.int .i64 1000003)) rfl (litEv (by kernel_rfl)) (litEv (by kernel_rfl)) rfl (by omega)) rfl (by decide) ?_
 obtain ⟨r36, hr36⟩ : ∃ r_, Int.tmod (r35 + 1000003) 1000003 = r_ := ⟨_, rfl⟩
 have br36 := tmod_bd (r35 + 1000003) 1000003 (by omega)
 rw [hr36] at br36
 refine litVal (v := .int .i64 r36) rfl (wn rfl) (gRem (A := (r35 + 1000003)) (B := 1000003) (.tmp 40) (.const (.int .i64 1000003)) rfl (litEv (by kernel_rfl)) (litEv (by kernel_rfl)) (by omega) hr36) rfl (by decide) ?_
 refine lk (v := .int .i64 r36) rfl rfl rfl ?_
 refine plD ?_
 refine inBlock_normal ?_
 refine then_normal (hK33 _ _ ?_)
 refine wpPrune [(2, .pointer (some ⟨g2, 0, none⟩)), (3, .pointer (some ⟨g5, 0, none⟩)), (4, .int .i64 0), (5, .int .i64 r36), (6, .slice (some ⟨g12, 0, none⟩) 4 4), (7, .int .i64 2), (26, .int .i64 2), (27, .bool true), (28, .int .i64 1), (29, .int .i64 2), (30, .int .i64 r29), (31, .int .i64 (r29 * 31)), (32, .slice (some ⟨g12, 0, none⟩) 4 4), (33, .int .i64 2), (34, .pointer (some ⟨g12, 2, none⟩)), (35, .int .i64 t.p.y), (36, .int .i64 r34), (37, .int .i64 ((r29 * 31) + r34)), (38, .int .i64 (((r29 * 31) + r34) + 7)), (39, .int .i64 r35), (40, .int .i64 (r35 + 1000003)), (41, .int .i64 r36)] ⟨litGet (by kernel_rfl), ⟨litGet (by kernel_rfl), ⟨litGet (by kernel_rfl), ⟨litGet (by kernel_rfl), ⟨litGet (by kernel_rfl), ⟨litGet (by kernel_rfl), ⟨litGet (by kernel_rfl), ⟨litGet (by kernel_rfl), ⟨litGet (by kernel_rfl), ⟨litGet (by kernel_rfl), ⟨litGet (by kernel_rfl), ⟨litGet (by kernel_rfl), ⟨litGet (by kernel_rfl), ⟨litGet (by kernel_rfl), ⟨litGet (by kernel_rfl), ⟨litGet (by kernel_rfl), ⟨litGet (by kernel_rfl), ⟨litGet (by kernel_rfl), ⟨litGet (by kernel_rfl), ⟨litGet (by kernel_rfl), ⟨litGet (by kernel_rfl), ⟨litGet (by kernel_rfl), trivial⟩⟩⟩⟩⟩⟩⟩⟩⟩⟩⟩⟩⟩⟩⟩⟩⟩⟩⟩⟩⟩⟩ (fun X37 => ?_)
 refine plStart ?_
 refine lk (v := .int .i64 2) rfl rfl rfl ?_
 refine lk (v := .int .i64 3) rfl rfl rfl ?_
 refine lk (v := .int .i64 3) rfl rfl rfl ?_
 refine plD ?_
 refine then_normal (roundsNext ?_)
 refine wp_seq_k fun K38 hK38 => ?_
 refine wp_seq_k fun K39 hK39 => ?_
 refine plStart ?_
 refine lk (v := .int .i64 3) rfl rfl rfl ?_
 refine lk (v := .bool true) rfl rfl rfl ?_
 refine plD ?_
 refine then_normal (hK39 _ _ ?_)
 refine wp_cond_true (litEv (by kernel_rfl)) ?_
 refine wp_skip ?_
 refine then_normal (hK38 _ _ ?_)
 refine wp_seq_k fun K40 hK40 => ?_
 refine wp_block ?_
 refine plStart ?_
 refine lk (v := .int .i64 r36) rfl rfl rfl ?_
 refine litVal (v := .int .i64 (r36 * 31)) rfl (wn rfl) (mulRun (A := r36) (B := 31) (C := r36 * 31) (.tmp 30) (.const (.int .i64 31)) rfl (litEv (by kernel_rfl)) (litEv (by kernel_rfl)) rfl (by omega)) rfl (by decide) ?_
 refine lk (v := .slice (some ⟨g12, 0, none⟩) 4 4) rfl rfl rfl ?_
 refine lk (v := .int .i64 3) rfl rfl rfl ?_
 refine litVal (v := .pointer (some ⟨g12, 3, none⟩)) rfl (wn rfl) (gIaSl (b := g12) (off := 0) (n := 4) (c := 4) (kk := .i64) (K := 3) (.tmp 32) (.tmp 33) 3 Ty.sl_L_int rfl (litEv (by kernel_rfl)) (litEv (by kernel_rfl)) rfl (by decide)) rfl (by decide) ?_
 refine litVal (v := .int .i64 t.p.z) rfl (wn rfl) (gLoad (v := .int .i64 t.p.z) (k := 3) 2 hm13 rfl (by kernel_rfl) (.tmp 34) (by kernel_rfl) rfl (litEv (by kernel_rfl))) rfl (by decide) ?_
 obtain ⟨r41, hr41⟩ : ∃ r_, Int.tmod t.p.z 1000003 = r_ := ⟨_, rfl⟩
 have br41 := tmod_bd t.p.z 1000003 (by omega)
 rw [hr41] at br41
 refine litVal (v := .int .i64 r41) rfl (wn rfl) (gRem (A := t.p.z) (B := 1000003) (.tmp 35) (.const (.int .i64 1000003)) rfl (litEv (by kernel_rfl)) (litEv (by kernel_rfl)) (by omega) hr41) rfl (by decide) ?_
 refine litVal (v := .int .i64 ((r36 * 31) + r41)) rfl (wn rfl) (addRun (A := (r36 * 31)) (B := r41) (C := (r36 * 31) + r41) (.tmp 31) (.tmp 36) rfl (litEv (by kernel_rfl)) (litEv (by kernel_rfl)) rfl (by omega)) rfl (by decide) ?_
 refine litVal (v := .int .i64 (((r36 * 31) + r41) + 7)) rfl (wn rfl) (addRun (A := ((r36 * 31) + r41)) (B := 7) (C := ((r36 * 31) + r41) + 7) (.tmp 37) (.const (.int .i64 7)) rfl (litEv (by kernel_rfl)) (litEv (by kernel_rfl)) rfl (by omega)) rfl (by decide) ?_
 obtain ⟨r42, hr42⟩ : ∃ r_, Int.tmod (((r36 * 31) + r41) + 7) 1000003 = r_ := ⟨_, rfl⟩
 have br42 := tmod_bd (((r36 * 31) + r41) + 7) 1000003 (by omega)
 rw [hr42] at br42
 refine litVal (v := .int .i64 r42) rfl (wn rfl) (gRem (A := (((r36 * 31) + r41) + 7)) (B := 1000003) (.tmp 38) (.const (.int .i64 1000003)) rfl (litEv (by kernel_rfl)) (litEv (by kernel_rfl)) (by omega) hr42) rfl (by decide) ?_
 refine litVal (v := .int .i64 (r42 + 1000003)) rfl (wn rfl) (addRun (A := r42) (B := 1000003) (C := r42 + 1000003) (.tmp 39) (.const (.int .i64 1000003)) rfl (litEv (by kernel_rfl)) (litEv (by kernel_rfl)) rfl (by omega)) rfl (by decide) ?_
 obtain ⟨r43, hr43⟩ : ∃ r_, Int.tmod (r42 + 1000003) 1000003 = r_ := ⟨_, rfl⟩
 have br43 := tmod_bd (r42 + 1000003) 1000003 (by omega)
 rw [hr43] at br43
 refine litVal (v := .int .i64 r43) rfl (wn rfl) (gRem (A := (r42 + 1000003)) (B := 1000003) (.tmp 40) (.const (.int .i64 1000003)) rfl (litEv (by kernel_rfl)) (litEv (by kernel_rfl)) (by omega) hr43) rfl (by decide) ?_
 refine lk (v := .int .i64 r43) rfl rfl rfl ?_
 refine plD ?_
 refine inBlock_normal ?_
 refine then_normal (hK40 _ _ ?_)
 refine wpPrune [(2, .pointer (some ⟨g2, 0, none⟩)), (3, .pointer (some ⟨g5, 0, none⟩)), (4, .int .i64 0), (5, .int .i64 r43), (6, .slice (some ⟨g12, 0, none⟩) 4 4), (7, .int .i64 3), (26, .int .i64 3), (27, .bool true), (28, .int .i64 2), (29, .int .i64 3), (30, .int .i64 r36), (31, .int .i64 (r36 * 31)), (32, .slice (some ⟨g12, 0, none⟩) 4 4), (33, .int .i64 3), (34, .pointer (some ⟨g12, 3, none⟩)), (35, .int .i64 t.p.z), (36, .int .i64 r41), (37, .int .i64 ((r36 * 31) + r41)), (38, .int .i64 (((r36 * 31) + r41) + 7)), (39, .int .i64 r42), (40, .int .i64 (r42 + 1000003)), (41, .int .i64 r43)] ⟨litGet (by kernel_rfl), ⟨litGet (by kernel_rfl), ⟨litGet (by kernel_rfl), ⟨litGet (by kernel_rfl), ⟨litGet (by kernel_rfl), ⟨litGet (by kernel_rfl), ⟨litGet (by kernel_rfl), ⟨litGet (by kernel_rfl), ⟨litGet (by kernel_rfl), ⟨litGet (by kernel_rfl), ⟨litGet (by kernel_rfl), ⟨litGet (by kernel_rfl), ⟨litGet (by kernel_rfl), ⟨litGet (by kernel_rfl), ⟨litGet (by kernel_rfl), ⟨litGet (by kernel_rfl), ⟨litGet (by kernel_rfl), ⟨litGet (by kernel_rfl), ⟨litGet (by kernel_rfl), ⟨litGet (by kernel_rfl), ⟨litGet (by kernel_rfl), ⟨litGet (by kernel_rfl), trivial⟩⟩⟩⟩⟩⟩⟩⟩⟩⟩⟩⟩⟩⟩⟩⟩⟩⟩⟩⟩⟩⟩ (fun X44 => ?_)
 refine plStart ?_
 refine lk (v := .int .i64 3) rfl rfl rfl ?_
 refine lk (v := .int .i64 4) rfl rfl rfl ?_
 refine lk (v := .int .i64 4) rfl rfl rfl ?_
 refine plD ?_
 refine then_normal (roundsNext ?_)
 refine wp_seq_k fun K45 hK45 => ?_
 refine wp_seq_k fun K46 hK46 => ?_
 refine plStart ?_
 refine lk (v := .int .i64 4) rfl rfl rfl ?_
 refine lk (v := .bool false) rfl rfl rfl ?_
 refine plD ?_
 refine then_normal (hK46 _ _ ?_)
 refine wp_cond_false (litEv (by kernel_rfl)) ?_
 refine wp_exit ?_
 refine then_exit ?_
 refine then_exit ?_
 refine inBlock_exit ?_
 refine then_normal (hK16 _ _ ?_)
 refine wpPrune [(2, .pointer (some ⟨g2, 0, none⟩)), (3, .pointer (some ⟨g5, 0, none⟩)), (4, .int .i64 0), (5, .int .i64 r43)] ⟨litGet (by kernel_rfl), ⟨litGet (by kernel_rfl), ⟨litGet (by kernel_rfl), ⟨litGet (by kernel_rfl), trivial⟩⟩⟩⟩ (fun X47 => ?_)
 refine wp_seq_k fun K48 hK48 => ?_
 refine plStart ?_
 refine lk (v := .pointer (some ⟨g2, 1, none⟩)) rfl rfl rfl ?_
 refine litVal (v := .int .i64 c.base) rfl (wn rfl) (gLoad (v := .int .i64 c.base) (k := 1) 0 hm13 rfl (by kernel_rfl) (.tmp 42) (by kernel_rfl) rfl (litEv (by kernel_rfl))) rfl (by decide) ?_
 refine litVal (v := .int .i64 (min c.base 100000)) rfl (wn rfl) (gMin (.tmp 43) (.const (.int .i64 100000)) rfl (litEv (by kernel_rfl)) (litEv (by kernel_rfl))) rfl (by decide) ?_
 refine litVal (v := .int .i64 (max 0 (min c.base 100000))) rfl (wn rfl) (gMax (.const (.int .i64 0)) (.tmp 44) rfl (litEv (by kernel_rfl)) (litEv (by kernel_rfl))) rfl (by decide) ?_
 refine lk (v := .int .i64 (max 0 (min c.base 100000))) rfl rfl rfl ?_
 refine plD ?_
 refine then_normal (hK48 _ _ ?_)
 refine wp_seq_k fun K49 hK49 => ?_
 refine wp_seq_k fun K50 hK50 => ?_
 refine plStart ?_
 refine lk (v := .pointer (some ⟨g2, 2, none⟩)) rfl rfl rfl ?_
 refine litVal (v := .int .i64 c.spread) rfl (wn rfl) (gLoad (v := .int .i64 c.spread) (k := 2) 0 hm13 rfl (by kernel_rfl) (.tmp 46) (by kernel_rfl) rfl (litEv (by kernel_rfl))) rfl (by decide) ?_
 by_cases h51 : 0 < c.spread
 · refine litVal (v := .bool true) rfl (wn rfl) (boolTo (decide_eq_true h51) (gtrRun (A := c.spread) (B := 0) (.tmp 47) (.const (.int .i64 0)) rfl (litEv (by kernel_rfl)) (litEv (by kernel_rfl)))) rfl (by decide) ?_
   refine plD ?_
   refine then_normal (hK50 _ _ ?_)
   refine wp_cond_true (litEv (by kernel_rfl)) ?_
   refine plStart ?_
   refine lk (v := .int .i64 (max 0 (min c.base 100000))) rfl rfl rfl ?_
   refine lk (v := .int .i64 r43) rfl rfl rfl ?_
   refine lk (v := .pointer (some ⟨g2, 2, none⟩)) rfl rfl rfl ?_
   refine litVal (v := .int .i64 c.spread) rfl (wn rfl) (gLoad (v := .int .i64 c.spread) (k := 2) 0 hm13 rfl (by kernel_rfl) (.tmp 51) (by kernel_rfl) rfl (litEv (by kernel_rfl))) rfl (by decide) ?_
   refine litVal (v := .int .i64 (min c.spread 100000)) rfl (wn rfl) (gMin (.tmp 52) (.const (.int .i64 100000)) rfl (litEv (by kernel_rfl)) (litEv (by kernel_rfl))) rfl (by decide) ?_
   obtain ⟨r52, hr52⟩ : ∃ r_, Int.tmod r43 (min c.spread 100000) = r_ := ⟨_, rfl⟩
   have br52 := tmod_bd r43 (min c.spread 100000) (by omega)
   rw [hr52] at br52
   refine litVal (v := .int .i64 r52) rfl (wn rfl) (gRem (A := r43) (B := (min c.spread 100000)) (.tmp 50) (.tmp 53) rfl (litEv (by kernel_rfl)) (litEv (by kernel_rfl)) (by omega) hr52) rfl (by decide) ?_
   refine litVal (v := .int .i64 ((max 0 (min c.base 100000)) + r52)) rfl (wn rfl) (addRun (A := (max 0 (min c.base 100000))) (B := r52) (C := (max 0 (min c.base 100000)) + r52) (.tmp 49) (.tmp 54) rfl (litEv (by kernel_rfl)) (litEv (by kernel_rfl)) rfl (by omega)) rfl (by decide) ?_
   refine lk (v := .int .i64 ((max 0 (min c.base 100000)) + r52)) rfl rfl rfl ?_
   refine plD ?_
   refine then_normal (hK49 _ _ ?_)
   refine wpPrune [(2, .pointer (some ⟨g2, 0, none⟩)), (3, .pointer (some ⟨g5, 0, none⟩)), (4, .int .i64 0), (8, .int .i64 ((max 0 (min c.base 100000)) + r52))] ⟨litGet (by kernel_rfl), ⟨litGet (by kernel_rfl), ⟨litGet (by kernel_rfl), ⟨litGet (by kernel_rfl), trivial⟩⟩⟩⟩ (fun X53 => ?_)
   refine wp_seq_k fun K54 hK54 => ?_
   refine wp_seq_k fun K55 hK55 => ?_
   refine plStart ?_
   refine lk (v := .pointer (some ⟨g2, 0, none⟩)) rfl rfl rfl ?_
   refine litVal (v := .int .i64 c.kind) rfl (wn rfl) (gLoad (v := .int .i64 c.kind) (k := 0) 0 hm13 rfl (by kernel_rfl) (.tmp 56) (by kernel_rfl) rfl (litEv (by kernel_rfl))) rfl (by decide) ?_
   by_cases h56 : c.kind = 1
   · refine litVal (v := .bool true) rfl (wn rfl) (boolTo (decide_eq_true h56) (eqlRun (A := c.kind) (B := 1) (.tmp 57) (.const (.int .i64 1)) rfl (litEv (by kernel_rfl)) (litEv (by kernel_rfl)))) rfl (by decide) ?_
     refine plD ?_
     refine then_normal (hK55 _ _ ?_)
     refine wp_cond_true (litEv (by kernel_rfl)) ?_
     refine plStart ?_
     refine lk (v := .int .i64 ((max 0 (min c.base 100000)) + r52)) rfl rfl rfl ?_
     refine lk (v := .pointer (some ⟨g5, 0, none⟩)) rfl rfl rfl ?_
     refine litVal (v := .int .i64 t.lv) rfl (wn rfl) (gLoad (v := .int .i64 t.lv) (k := 0) 1 hm13 rfl (by kernel_rfl) (.tmp 60) (by kernel_rfl) rfl (litEv (by kernel_rfl))) rfl (by decide) ?_
     refine litVal (v := .int .i64 (t.lv + 1)) rfl (wn rfl) (addRun (A := t.lv) (B := 1) (C := t.lv + 1) (.tmp 61) (.const (.int .i64 1)) rfl (litEv (by kernel_rfl)) (litEv (by kernel_rfl)) rfl (by omega)) rfl (by decide) ?_
     refine litVal (v := .int .i64 (((max 0 (min c.base 100000)) + r52) * (t.lv + 1))) rfl (wn rfl) (mulRun (A := ((max 0 (min c.base 100000)) + r52)) (B := (t.lv + 1)) (C := ((max 0 (min c.base 100000)) + r52) * (t.lv + 1)) (.tmp 59) (.tmp 62) rfl (litEv (by kernel_rfl)) (litEv (by kernel_rfl)) rfl (cost_mul (by omega) (by omega))) rfl (by decide) ?_
     refine lk (v := .int .i64 (((max 0 (min c.base 100000)) + r52) * (t.lv + 1))) rfl rfl rfl ?_
     refine plD ?_
     refine then_normal (hK54 _ _ ?_)
     refine wp_seq_k fun K57 hK57 => ?_
     refine plStart ?_
     refine lk (v := .int .i64 (((max 0 (min c.base 100000)) + r52) * (t.lv + 1))) rfl rfl rfl ?_
     refine lk (v := .int .i64 (((max 0 (min c.base 100000)) + r52) * (t.lv + 1))) rfl rfl rfl ?_
     refine plD ?_
     refine then_normal (hK57 _ _ ?_)
     refine wpPrune [(4, .int .i64 (((max 0 (min c.base 100000)) + r52) * (t.lv + 1)))] ⟨litGet (by kernel_rfl), trivial⟩ (fun X58 => ?_)
     refine wp_ret ?_
     refine bodyPost_ret (v := .int .i64 (((max 0 (min c.base 100000)) + r52) * (t.lv + 1))) (gRes1 rfl (gResTmp (t := 4) (v := .int .i64 (((max 0 (min c.base 100000)) + r52) * (t.lv + 1))) (litGet (by kernel_rfl)))) rfl ?_
     subst hr9 hr10 hr21 hr22 hr23 hr27 hr28 hr29 hr34 hr35 hr36 hr41 hr42 hr43 hr52
     exact ⟨congrArg (fun n_ => Ending.returned (.int .i64 n_)) (show _ = costP c t by unfold costP costB; rw [if_pos h51, if_pos h56] <;> rfl), hm13.bel⟩
   refine litVal (v := .bool false) rfl (wn rfl) (boolTo (decide_eq_false h56) (eqlRun (A := c.kind) (B := 1) (.tmp 57) (.const (.int .i64 1)) rfl (litEv (by kernel_rfl)) (litEv (by kernel_rfl)))) rfl (by decide) ?_
   refine plD ?_
   refine then_normal (hK55 _ _ ?_)
   refine wp_cond_false (litEv (by kernel_rfl)) ?_
   refine wp_skip ?_
   refine then_normal (hK54 _ _ ?_)
   refine wp_seq_k fun K59 hK59 => ?_
   refine plStart ?_
   refine lk (v := .int .i64 ((max 0 (min c.base 100000)) + r52)) rfl rfl rfl ?_
   refine lk (v := .int .i64 ((max 0 (min c.base 100000)) + r52)) rfl rfl rfl ?_
   refine plD ?_
   refine then_normal (hK59 _ _ ?_)
   refine wp_ret ?_
   refine bodyPost_ret (v := .int .i64 ((max 0 (min c.base 100000)) + r52)) (gRes1 rfl (gResTmp (t := 4) (v := .int .i64 ((max 0 (min c.base 100000)) + r52)) (litGet (by kernel_rfl)))) rfl ?_
   subst hr9 hr10 hr21 hr22 hr23 hr27 hr28 hr29 hr34 hr35 hr36 hr41 hr42 hr43 hr52
   exact ⟨congrArg (fun n_ => Ending.returned (.int .i64 n_)) (show _ = costP c t by unfold costP costB; rw [if_pos h51, if_neg h56] <;> rfl), hm13.bel⟩
 refine litVal (v := .bool false) rfl (wn rfl) (boolTo (decide_eq_false h51) (gtrRun (A := c.spread) (B := 0) (.tmp 47) (.const (.int .i64 0)) rfl (litEv (by kernel_rfl)) (litEv (by kernel_rfl)))) rfl (by decide) ?_
 refine plD ?_
 refine then_normal (hK50 _ _ ?_)
 refine wp_cond_false (litEv (by kernel_rfl)) ?_
 refine wp_skip ?_
 refine then_normal (hK49 _ _ ?_)
 refine wp_seq_k fun K60 hK60 => ?_
 refine wp_seq_k fun K61 hK61 => ?_
 refine plStart ?_
 refine lk (v := .pointer (some ⟨g2, 0, none⟩)) rfl rfl rfl ?_
 refine litVal (v := .int .i64 c.kind) rfl (wn rfl) (gLoad (v := .int .i64 c.kind) (k := 0) 0 hm13 rfl (by kernel_rfl) (.tmp 56) (by kernel_rfl) rfl (litEv (by kernel_rfl))) rfl (by decide) ?_
 by_cases h62 : c.kind = 1
 · refine litVal (v := .bool true) rfl (wn rfl) (boolTo (decide_eq_true h62) (eqlRun (A := c.kind) (B := 1) (.tmp 57) (.const (.int .i64 1)) rfl (litEv (by kernel_rfl)) (litEv (by kernel_rfl)))) rfl (by decide) ?_
   refine plD ?_
   refine then_normal (hK61 _ _ ?_)
   refine wp_cond_true (litEv (by kernel_rfl)) ?_
   refine plStart ?_
   refine lk (v := .int .i64 (max 0 (min c.base 100000))) rfl rfl rfl ?_
   refine lk (v := .pointer (some ⟨g5, 0, none⟩)) rfl rfl rfl ?_
   refine litVal (v := .int .i64 t.lv) rfl (wn rfl) (gLoad (v := .int .i64 t.lv) (k := 0) 1 hm13 rfl (by kernel_rfl) (.tmp 60) (by kernel_rfl) rfl (litEv (by kernel_rfl))) rfl (by decide) ?_
   refine litVal (v := .int .i64 (t.lv + 1)) rfl (wn rfl) (addRun (A := t.lv) (B := 1) (C := t.lv + 1) (.tmp 61) (.const (.int .i64 1)) rfl (litEv (by kernel_rfl)) (litEv (by kernel_rfl)) rfl (by omega)) rfl (by decide) ?_
   refine litVal (v := .int .i64 ((max 0 (min c.base 100000)) * (t.lv + 1))) rfl (wn rfl) (mulRun (A := (max 0 (min c.base 100000))) (B := (t.lv + 1)) (C := (max 0 (min c.base 100000)) * (t.lv + 1)) (.tmp 59) (.tmp 62) rfl (litEv (by kernel_rfl)) (litEv (by kernel_rfl)) rfl (cost_mul (by omega) (by omega))) rfl (by decide) ?_
   refine lk (v := .int .i64 ((max 0 (min c.base 100000)) * (t.lv + 1))) rfl rfl rfl ?_
   refine plD ?_
   refine then_normal (hK60 _ _ ?_)
   refine wpPrune [(4, .int .i64 0), (8, .int .i64 ((max 0 (min c.base 100000)) * (t.lv + 1)))] ⟨litGet (by kernel_rfl), ⟨litGet (by kernel_rfl), trivial⟩⟩ (fun X63 => ?_)
   refine wp_seq_k fun K64 hK64 => ?_
   refine plStart ?_
   refine lk (v := .int .i64 ((max 0 (min c.base 100000)) * (t.lv + 1))) rfl rfl rfl ?_
   refine lk (v := .int .i64 ((max 0 (min c.base 100000)) * (t.lv + 1))) rfl rfl rfl ?_
   refine plD ?_
   refine then_normal (hK64 _ _ ?_)
   refine wp_ret ?_
   refine bodyPost_ret (v := .int .i64 ((max 0 (min c.base 100000)) * (t.lv + 1))) (gRes1 rfl (gResTmp (t := 4) (v := .int .i64 ((max 0 (min c.base 100000)) * (t.lv + 1))) (litGet (by kernel_rfl)))) rfl ?_
   subst hr9 hr10 hr21 hr22 hr23 hr27 hr28 hr29 hr34 hr35 hr36 hr41 hr42 hr43
   exact ⟨congrArg (fun n_ => Ending.returned (.int .i64 n_)) (show _ = costP c t by unfold costP costB; rw [if_neg h51, if_pos h62] <;> rfl), hm13.bel⟩
 refine litVal (v := .bool false) rfl (wn rfl) (boolTo (decide_eq_false h62) (eqlRun (A := c.kind) (B := 1) (.tmp 57) (.const (.int .i64 1)) rfl (litEv (by kernel_rfl)) (litEv (by kernel_rfl)))) rfl (by decide) ?_
 refine plD ?_
 refine then_normal (hK61 _ _ ?_)
 refine wp_cond_false (litEv (by kernel_rfl)) ?_
 refine wp_skip ?_
 refine then_normal (hK60 _ _ ?_)
 refine wpPrune [(4, .int .i64 0), (8, .int .i64 (max 0 (min c.base 100000)))] ⟨litGet (by kernel_rfl), ⟨litGet (by kernel_rfl), trivial⟩⟩ (fun X65 => ?_)
 refine wp_seq_k fun K66 hK66 => ?_
 refine plStart ?_
 refine lk (v := .int .i64 (max 0 (min c.base 100000))) rfl rfl rfl ?_
 refine lk (v := .int .i64 (max 0 (min c.base 100000))) rfl rfl rfl ?_
 refine plD ?_
 refine then_normal (hK66 _ _ ?_)
 refine wp_ret ?_
 refine bodyPost_ret (v := .int .i64 (max 0 (min c.base 100000))) (gRes1 rfl (gResTmp (t := 4) (v := .int .i64 (max 0 (min c.base 100000))) (litGet (by kernel_rfl)))) rfl ?_
 subst hr9 hr10 hr21 hr22 hr23 hr27 hr28 hr29 hr34 hr35 hr36 hr41 hr42 hr43
 exact ⟨congrArg (fun n_ => Ending.returned (.int .i64 n_)) (show _ = costP c t by unfold costP costB; rw [if_neg h51, if_neg h62] <;> rfl), hm13.bel⟩
end Go.Proofs.Ytkmhjgdpkddbnaa
