/-
  PE: several texts in one. No statement is proved here.
-/
import Derived.Test.YtkmhjgdpkddbnaaPD
set_option linter.unusedVariables false
set_option linter.unusedSimpArgs false
namespace Go.Proofs.Ytkmhjgdpkddbnaa
open Go.RowKit
set_option linter.unusedVariables false
set_option linter.unusedSimpArgs false
set_option maxRecDepth 100000 in
set_option maxHeartbeats 4000000 in
theorem check_any (v : Vw) (w : World) : Calls Try.prog 12 #[.agg (vwc v).toArray] w (RetV w (.int .i64 (ckV v))) := by
 have hm0 := Mem.nil w
 go_enter Try.func12, Try.ntmps12
 refine litStart 38 [(0, .agg (vwc v).toArray)] (by kernel_rfl) (fun X0 => ?_)
 refine wp_seq_k fun K1 hK1 => ?_
 refine plStart ?_
 refine plBox hm0 (cs := vwc v) (i := 0) rfl (wn rfl) rfl (litEv (by kernel_rfl)) ?_
 intro g2 w4 hm3
 clear hm0
 try simp only [List.cons_append, List.nil_append, List.set_cons_succ, List.set_cons_zero] at hm3
 refine qP rfl ?_
 refine lk (v := .int .i64 0) rfl rfl rfl ?_
 refine plD ?_
 refine then_normal (hK1 _ _ ?_)
 refine wp_seq_k fun K5 hK5 => ?_
 refine wp_seq_k fun K6 hK6 => ?_
 refine plStart ?_
 refine lk (v := .pointer (some ⟨g2, 0, none⟩)) rfl rfl rfl ?_
 refine lk (v := .pointer (some ⟨g2, 0, none⟩)) rfl rfl rfl ?_
 refine litVal (v := .int .i64 v.p.x) rfl (wn rfl) (gLoad (v := .int .i64 v.p.x) (k := 0) 0 hm3 rfl (by kernel_rfl) (.tmp 6) (by kernel_rfl) rfl (litEv (by kernel_rfl))) rfl (by decide) ?_
 refine lk (v := .pointer (some ⟨g2, 0, none⟩)) rfl rfl rfl ?_
 refine lk (v := .pointer (some ⟨g2, 1, none⟩)) rfl rfl rfl ?_
 refine litVal (v := .int .i64 v.p.y) rfl (wn rfl) (gLoad (v := .int .i64 v.p.y) (k := 1) 0 hm3 rfl (by kernel_rfl) (.tmp 9) (by kernel_rfl) rfl (litEv (by kernel_rfl))) rfl (by decide) ?_
 refine lk (v := .pointer (some ⟨g2, 0, none⟩)) rfl rfl rfl ?_
 refine lk (v := .pointer (some ⟨g2, 2, none⟩)) rfl rfl rfl ?_
 refine litVal (v := .int .i64 v.p.z) rfl (wn rfl) (gLoad (v := .int .i64 v.p.z) (k := 2) 0 hm3 rfl (by kernel_rfl) (.tmp 12) (by kernel_rfl) rfl (litEv (by kernel_rfl))) rfl (by decide) ?_
 refine lk (v := .agg (pcs v.p).toArray) rfl rfl rfl ?_
 refine lk (v := .int .i64 0) rfl rfl rfl ?_
 refine plD ?_
 refine then_normal (hK6 _ _ ?_)
 refine wp_block ?_
 refine roundsStart 3 ?_
 refine wp_seq_k fun K7 hK7 => ?_
 refine plStart ?_
 refine lk (v := .bool true) rfl rfl rfl ?_
 refine plD ?_
 refine then_normal (hK7 _ _ ?_)
 refine wp_seq_k fun K8 hK8 => ?_
 refine wp_cond_true (litEv (by kernel_rfl)) ?_
 refine wp_skip ?_
 refine then_normal (hK8 _ _ ?_)
 refine wp_seq_k fun K9 hK9 => ?_
 refine wp_block ?_
 refine wp_seq_k fun K10 hK10 => ?_
 refine plStart ?_
 refine lk (v := .int .i64 v.p.x) rfl rfl rfl ?_
 refine lk (v := .int .i64 v.p.x) rfl rfl rfl ?_
 refine plD ?_
 refine then_normal (hK10 _ _ ?_)
 refine wp_seq_k fun K11 hK11 => ?_
 refine plStart ?_
 refine lk (v := .int .i64 v.p.x) rfl rfl rfl ?_
 refine plCall (i := 1) 32 [.int .i64 v.p.x, .int .i64 (-1048575), .int .i64 1048575] [] [] rfl (by kernel_rfl) (wn rfl) rfl (litEv (by kernel_rfl)) (litArgs (by kernel_rfl)) (within_any v.p.x (-1048575) 1048575 _) ?_
 rintro e w12 ⟨rfl, hbz⟩
 have hm13 := hm3.below hbz
 clear hbz hm3
 refine ⟨_, rfl, ?_⟩
 refine qP rfl ?_
 rcases bool_or (decide ((-1048575) ≤ v.p.x ∧ v.p.x ≤ 1048575)) with h14 | h14
 · rw [h14]
   refine lk (v := .bool true) rfl rfl rfl ?_
   refine plD ?_
   refine then_normal (hK11 _ _ ?_)
   refine wp_cond_true (litEv (by kernel_rfl)) ?_
   refine wp_seq_k fun K15 hK15 => ?_
   refine plStart ?_
   refine lk (v := .int .i64 1) rfl rfl rfl ?_
   refine plD ?_
   refine then_normal (hK15 _ _ ?_)
   refine wp_ret ?_
   refine inBlock_ret ?_
   refine then_ret ?_
   refine then_ret ?_
   refine inBlock_ret ?_
   refine then_ret ?_
   refine bodyPost_ret (v := .int .i64 1) (gRes1 rfl (gResTmp (t := 2) (v := .int .i64 1) (litGet (by kernel_rfl)))) rfl ?_
   exact ⟨congrArg (fun n_ => Ending.returned (.int .i64 n_)) (show (1 : Int) = ckV v from by unfold ckV Pt.rng; have q0_ := of_decide_eq_false h14; rw [if_neg (by omega)]), hm13.bel⟩
 rw [h14]
 refine lk (v := .bool false) rfl rfl rfl ?_
 refine plD ?_
 refine then_normal (hK11 _ _ ?_)
 refine wp_cond_false (litEv (by kernel_rfl)) ?_
 refine wp_skip ?_
 refine inBlock_normal ?_
 refine then_normal (hK9 _ _ ?_)
 refine plStart ?_
 refine lk (v := .int .i64 1) rfl rfl rfl ?_
 refine lk (v := .int .i64 1) rfl rfl rfl ?_
 refine plD ?_
 refine then_normal (roundsNext ?_)
 refine wp_seq_k fun K16 hK16 => ?_
 refine plStart ?_
 refine lk (v := .bool true) rfl rfl rfl ?_
 refine plD ?_
 refine then_normal (hK16 _ _ ?_)
 refine wp_seq_k fun K17 hK17 => ?_
 refine wp_cond_true (litEv (by kernel_rfl)) ?_
 refine wp_skip ?_
 refine then_normal (hK17 _ _ ?_)
 refine wp_seq_k fun K18 hK18 => ?_
 refine wp_block ?_
 refine wp_seq_k fun K19 hK19 => ?_
 refine plStart ?_
 refine lk (v := .int .i64 v.p.y) rfl rfl rfl ?_
 refine lk (v := .int .i64 v.p.y) rfl rfl rfl ?_
 refine plD ?_
 refine then_normal (hK19 _ _ ?_)
 refine wpPrune [(1, .pointer (some ⟨g2, 0, none⟩)), (2, .int .i64 0), (4, .int .i64 v.p.y), (14, .agg (pcs v.p).toArray), (15, .int .i64 1), (16, .bool true), (17, .int .i64 v.p.y), (18, .int .i64 v.p.x), (19, .bool true), (20, .bool false), (21, .int .i64 1)] ⟨litGet (by kernel_rfl), ⟨litGet (by kernel_rfl), ⟨litGet (by kernel_rfl), ⟨litGet (by kernel_rfl), ⟨litGet (by kernel_rfl), ⟨litGet (by kernel_rfl), ⟨litGet (by kernel_rfl), ⟨litGet (by kernel_rfl), ⟨litGet (by kernel_rfl), ⟨litGet (by kernel_rfl), ⟨litGet (by kernel_rfl), trivial⟩⟩⟩⟩⟩⟩⟩⟩⟩⟩⟩ (fun X20 => ?_)
 refine wp_seq_k fun K21 hK21 => ?_
 refine plStart ?_
 refine lk (v := .int .i64 v.p.y) rfl rfl rfl ?_
 refine plCall (i := 1) 32 [.int .i64 v.p.y, .int .i64 (-1048575), .int .i64 1048575] [] [] rfl (by kernel_rfl) (wn rfl) rfl (litEv (by kernel_rfl)) (litArgs (by kernel_rfl)) (within_any v.p.y (-1048575) 1048575 _) ?_
 rintro e w22 ⟨rfl, hbz⟩
 have hm23 := hm13.below hbz
 clear hbz hm13
 refine ⟨_, rfl, ?_⟩
 refine qP rfl ?_
 rcases bool_or (decide ((-1048575) ≤ v.p.y ∧ v.p.y ≤ 1048575)) with h24 | h24
 · rw [h24]
   refine lk (v := .bool true) rfl rfl rfl ?_
   refine plD ?_
   refine then_normal (hK21 _ _ ?_)
   refine wp_cond_true (litEv (by kernel_rfl)) ?_
   refine wp_seq_k fun K25 hK25 => ?_
   refine plStart ?_
   refine lk (v := .int .i64 1) rfl rfl rfl ?_
   refine plD ?_
   refine then_normal (hK25 _ _ ?_)
   refine wp_ret ?_
   refine inBlock_ret ?_
   refine then_ret ?_
   refine then_ret ?_
   refine inBlock_ret ?_
   refine then_ret ?_
   refine bodyPost_ret (v := .int .i64 1) (gRes1 rfl (gResTmp (t := 2) (v := .int .i64 1) (litGet (by kernel_rfl)))) rfl ?_
   exact ⟨congrArg (fun n_ => Ending.returned (.int .i64 n_)) (show (1 : Int) = ckV v from by unfold ckV Pt.rng; have q0_ := of_decide_eq_true h14; have q1_ := of_decide_eq_false h24; rw [if_neg (by omega)]), hm23.bel⟩
 rw [h24]
 refine lk (v := .bool false) rfl rfl rfl ?_
 refine plD ?_
 refine then_normal (hK21 _ _ ?_)
 refine wp_cond_false (litEv (by kernel_rfl)) ?_
 refine wp_skip ?_
 refine inBlock_normal ?_
 refine then_normal (hK18 _ _ ?_)
 refine plStart ?_
 refine lk (v := .int .i64 2) rfl rfl rfl ?_
 refine lk (v := .int .i64 2) rfl rfl rfl ?_
 refine plD ?_
 refine then_normal (roundsNext ?_)
 refine wp_seq_k fun K26 hK26 => ?_
 refine plStart ?_
 refine lk (v := .bool true) rfl rfl rfl ?_
 refine plD ?_
 refine then_normal (hK26 _ _ ?_)
 refine wp_seq_k fun K27 hK27 => ?_
 refine wp_cond_true (litEv (by kernel_rfl)) ?_
 refine wp_skip ?_
 refine then_normal (hK27 _ _ ?_)
 refine wp_seq_k fun K28 hK28 => ?_
 refine wp_block ?_
 refine wp_seq_k fun K29 hK29 => ?_
 refine plStart ?_
 refine lk (v := .int .i64 v.p.z) rfl rfl rfl ?_
 refine lk (v := .int .i64 v.p.z) rfl rfl rfl ?_
 refine plD ?_
 refine then_normal (hK29 _ _ ?_)
 refine wp_seq_k fun K30 hK30 => ?_
 refine plStart ?_
 refine lk (v := .int .i64 v.p.z) rfl rfl rfl ?_
 refine plCall (i := 1) 32 [.int .i64 v.p.z, .int .i64 (-1048575), .int .i64 1048575] [] [] rfl (by kernel_rfl) (wn rfl) rfl (litEv (by kernel_rfl)) (litArgs (by kernel_rfl)) (within_any v.p.z (-1048575) 1048575 _) ?_
 rintro e w31 ⟨rfl, hbz⟩
 have hm32 := hm23.below hbz
 clear hbz hm23
 refine ⟨_, rfl, ?_⟩
 refine qP rfl ?_
 rcases bool_or (decide ((-1048575) ≤ v.p.z ∧ v.p.z ≤ 1048575)) with h33 | h33
 · rw [h33]
   refine lk (v := .bool true) rfl rfl rfl ?_
   refine plD ?_
   refine then_normal (hK30 _ _ ?_)
   refine wp_cond_true (litEv (by kernel_rfl)) ?_
   refine wp_seq_k fun K34 hK34 => ?_
   refine plStart ?_
   refine lk (v := .int .i64 1) rfl rfl rfl ?_
   refine plD ?_
   refine then_normal (hK34 _ _ ?_)
   refine wp_ret ?_
   refine inBlock_ret ?_
   refine then_ret ?_
   refine then_ret ?_
   refine inBlock_ret ?_
   refine then_ret ?_
   refine bodyPost_ret (v := .int .i64 1) (gRes1 rfl (gResTmp (t := 2) (v := .int .i64 1) (litGet (by kernel_rfl)))) rfl ?_
   exact ⟨congrArg (fun n_ => Ending.returned (.int .i64 n_)) (show (1 : Int) = ckV v from by unfold ckV Pt.rng; have q0_ := of_decide_eq_true h14; have q1_ := of_decide_eq_true h24; have q2_ := of_decide_eq_false h33; rw [if_neg (by omega)]), hm32.bel⟩
 rw [h33]
 refine lk (v := .bool false) rfl rfl rfl ?_
 refine plD ?_
 refine then_normal (hK30 _ _ ?_)
 refine wp_cond_false (litEv (by kernel_rfl)) ?_
 refine wp_skip ?_
 refine inBlock_normal ?_
 refine then_normal (hK28 _ _ ?_)
 refine plStart ?_
 refine lk (v := .int .i64 3) rfl rfl rfl ?_
 refine lk (v := .int .i64 3) rfl rfl rfl ?_
 refine plD ?_
 refine then_normal (roundsNext ?_)
 refine wpPrune [(1, .pointer (some ⟨g2, 0, none⟩)), (2, .int .i64 0), (4, .int .i64 v.p.z), (14, .agg (pcs v.p).toArray), (15, .int .i64 3), (16, .bool true), (17, .int .i64 v.p.z), (18, .int .i64 v.p.z), (19, .bool true), (20, .bool false), (21, .int .i64 3)] ⟨litGet (by kernel_rfl), ⟨litGet (by kernel_rfl), ⟨litGet (by kernel_rfl), ⟨litGet (by kernel_rfl), ⟨litGet (by kernel_rfl), ⟨litGet (by kernel_rfl), ⟨litGet (by kernel_rfl), ⟨litGet (by kernel_rfl), ⟨litGet (by kernel_rfl), ⟨litGet (by kernel_rfl), ⟨litGet (by kernel_rfl), trivial⟩⟩⟩⟩⟩⟩⟩⟩⟩⟩⟩ (fun X35 => ?_)
 refine wp_seq_k fun K36 hK36 => ?_
 refine plStart ?_
 refine lk (v := .bool false) rfl rfl rfl ?_
 refine plD ?_
 refine then_normal (hK36 _ _ ?_)
 refine wp_seq_k fun K37 hK37 => ?_
 refine wp_cond_false (litEv (by kernel_rfl)) ?_
 refine wp_exit ?_
 refine then_exit ?_
 refine then_exit ?_
 refine inBlock_exit ?_
 refine then_normal (hK5 _ _ ?_)
 refine wp_seq_k fun K38 hK38 => ?_
 refine wp_seq_k fun K39 hK39 => ?_
 refine plStart ?_
 refine lk (v := .pointer (some ⟨g2, 3, none⟩)) rfl rfl rfl ?_
 refine litVal (v := .int .i64 v.sc) rfl (wn rfl) (gLoad (v := .int .i64 v.sc) (k := 3) 0 hm32 rfl (by kernel_rfl) (.tmp 22) (by kernel_rfl) rfl (litEv (by kernel_rfl))) rfl (by decide) ?_
 refine plCall (i := 2) 32 [.int .i64 v.sc, .int .i64 1, .int .i64 1048576] [] [] rfl (by kernel_rfl) (wn rfl) rfl (litEv (by kernel_rfl)) (litArgs (by kernel_rfl)) (within_any v.sc 1 1048576 _) ?_
 rintro e w40 ⟨rfl, hbz⟩
 have hm41 := hm32.below hbz
 clear hbz hm32
 refine ⟨_, rfl, ?_⟩
 refine qP rfl ?_
 rcases bool_or (decide (1 ≤ v.sc ∧ v.sc ≤ 1048576)) with h42 | h42
 · rw [h42]
   refine lk (v := .bool true) rfl rfl rfl ?_
   refine lk (v := .bool true) rfl rfl rfl ?_
   refine plSkip (i := 5) rfl (wgN rfl rfl rfl (by decide) (by kernel_rfl)) ?_
   refine qP rfl ?_
   refine plSkip (i := 6) rfl (wgN rfl rfl rfl (by decide) (by kernel_rfl)) ?_
   refine qP rfl ?_
   refine plSkip (i := 7) rfl (wgN rfl rfl rfl (by decide) (by kernel_rfl)) ?_
   refine qP rfl ?_
   refine plSkip (i := 8) rfl (wgN rfl rfl rfl (by decide) (by kernel_rfl)) ?_
   refine qP rfl ?_
   refine lk (v := .bool true) rfl rfl rfl ?_
   refine lk (v := .bool true) rfl rfl rfl ?_
   refine plSkip (i := 11) rfl (wgN rfl rfl rfl (by decide) (by kernel_rfl)) ?_
   refine qP rfl ?_
   refine plSkip (i := 12) rfl (wgN rfl rfl rfl (by decide) (by kernel_rfl)) ?_
   refine qP rfl ?_
   refine plSkip (i := 13) rfl (wgN rfl rfl rfl (by decide) (by kernel_rfl)) ?_
   refine qP rfl ?_
   refine plSkip (i := 14) rfl (wgN rfl rfl rfl (by decide) (by kernel_rfl)) ?_
   refine qP rfl ?_
   refine lk (v := .bool true) rfl rfl rfl ?_
   refine plD ?_
   refine then_normal (hK39 _ _ ?_)
   refine wpPrune [(2, .int .i64 0), (37, .bool true)] ⟨litGet (by kernel_rfl), ⟨litGet (by kernel_rfl), trivial⟩⟩ (fun X43 => ?_)
   refine wp_cond_true (litEv (by kernel_rfl)) ?_
   refine wp_seq_k fun K44 hK44 => ?_
   refine plStart ?_
   refine lk (v := .int .i64 1) rfl rfl rfl ?_
   refine plD ?_
   refine then_normal (hK44 _ _ ?_)
   refine wp_ret ?_
   refine then_ret ?_
   refine bodyPost_ret (v := .int .i64 1) (gRes1 rfl (gResTmp (t := 2) (v := .int .i64 1) (litGet (by kernel_rfl)))) rfl ?_
   exact ⟨congrArg (fun n_ => Ending.returned (.int .i64 n_)) (show (1 : Int) = ckV v from by unfold ckV Pt.rng; have q0_ := of_decide_eq_true h14; have q1_ := of_decide_eq_true h24; have q2_ := of_decide_eq_true h33; have q3_ := of_decide_eq_false h42; rw [if_neg (by omega)]), hm41.bel⟩
 rw [h42]
 refine lk (v := .bool false) rfl rfl rfl ?_
 refine lk (v := .bool false) rfl rfl rfl ?_
 refine litVal (v := .pointer (some ⟨g2, 4, none⟩)) rfl (wgY rfl rfl rfl (by decide) (by kernel_rfl)) (litRun (by kernel_rfl)) rfl (by decide) ?_
 refine litVal (v := .int .i64 v.tol) rfl (wgY rfl rfl rfl (by decide) (by kernel_rfl)) (gLoad (v := .int .i64 v.tol) (k := 4) 0 hm41 rfl (by kernel_rfl) (.tmp 27) (by kernel_rfl) rfl (litEv (by kernel_rfl))) rfl (by decide) ?_
 refine plCall (i := 7) 32 [.int .i64 v.tol, .int .i64 0, .int .i64 1099511627776] [] [] rfl (by kernel_rfl) (wgY rfl rfl rfl (by decide) (by kernel_rfl)) rfl (litEv (by kernel_rfl)) (litArgs (by kernel_rfl)) (within_any v.tol 0 1099511627776 _) ?_
 rintro e w45 ⟨rfl, hbz⟩
 have hm46 := hm41.below hbz
 clear hbz hm41
 refine ⟨_, rfl, ?_⟩
 refine qP rfl ?_
 rcases bool_or (decide (0 ≤ v.tol ∧ v.tol ≤ 1099511627776)) with h47 | h47
 · rw [h47]
   refine litVal (v := .bool true) rfl (wgY rfl rfl rfl (by decide) (by kernel_rfl)) (litRun (by kernel_rfl)) rfl (by decide) ?_
   refine lk (v := .bool true) rfl rfl rfl ?_
   refine lk (v := .bool true) rfl rfl rfl ?_
   refine plSkip (i := 11) rfl (wgN rfl rfl rfl (by decide) (by kernel_rfl)) ?_
   refine qP rfl ?_
   refine plSkip (i := 12) rfl (wgN rfl rfl rfl (by decide) (by kernel_rfl)) ?_
   refine qP rfl ?_
   refine plSkip (i := 13) rfl (wgN rfl rfl rfl (by decide) (by kernel_rfl)) ?_
   refine qP rfl ?_
   refine plSkip (i := 14) rfl (wgN rfl rfl rfl (by decide) (by kernel_rfl)) ?_
   refine qP rfl ?_
   refine lk (v := .bool true) rfl rfl rfl ?_
   refine plD ?_
   refine then_normal (hK39 _ _ ?_)
   refine wpPrune [(2, .int .i64 0), (37, .bool true)] ⟨litGet (by kernel_rfl), ⟨litGet (by kernel_rfl), trivial⟩⟩ (fun X48 => ?_)
   refine wp_cond_true (litEv (by kernel_rfl)) ?_
   refine wp_seq_k fun K49 hK49 => ?_
   refine plStart ?_
   refine lk (v := .int .i64 1) rfl rfl rfl ?_
   refine plD ?_
   refine then_normal (hK49 _ _ ?_)
   refine wp_ret ?_
   refine then_ret ?_
   refine bodyPost_ret (v := .int .i64 1) (gRes1 rfl (gResTmp (t := 2) (v := .int .i64 1) (litGet (by kernel_rfl)))) rfl ?_
   exact ⟨congrArg (fun n_ => Ending.returned (.int .i64 n_)) (show (1 : Int) = ckV v from by unfold ckV Pt.rng; have q0_ := of_decide_eq_true h14; have q1_ := of_decide_eq_true h24; have q2_ := of_decide_eq_true h33; have q3_ := of_decide_eq_true h42; have q4_ := of_decide_eq_false h47; rw [if_neg (by omega)]), hm46.bel⟩
 rw [h47]
 refine litVal (v := .bool false) rfl (wgY rfl rfl rfl (by decide) (by kernel_rfl)) (litRun (by kernel_rfl)) rfl (by decide) ?_
 refine lk (v := .bool false) rfl rfl rfl ?_
 refine lk (v := .bool false) rfl rfl rfl ?_
 refine litVal (v := .pointer (some ⟨g2, 5, none⟩)) rfl (wgY rfl rfl rfl (by decide) (by kernel_rfl)) (litRun (by kernel_rfl)) rfl (by decide) ?_
 refine litVal (v := .int .i64 v.bud) rfl (wgY rfl rfl rfl (by decide) (by kernel_rfl)) (gLoad (v := .int .i64 v.bud) (k := 5) 0 hm46 rfl (by kernel_rfl) (.tmp 33) (by kernel_rfl) rfl (litEv (by kernel_rfl))) rfl (by decide) ?_
 refine plCall (i := 13) 32 [.int .i64 v.bud, .int .i64 0, .int .i64 1099511627776] [] [] rfl (by kernel_rfl) (wgY rfl rfl rfl (by decide) (by kernel_rfl)) rfl (litEv (by kernel_rfl)) (litArgs (by kernel_rfl)) (within_any v.bud 0 1099511627776 _) ?_
 rintro e w50 ⟨rfl, hbz⟩
 have hm51 := hm46.below hbz
 clear hbz hm46
 refine ⟨_, rfl, ?_⟩
 refine qP rfl ?_
 rcases bool_or (decide (0 ≤ v.bud ∧ v.bud ≤ 1099511627776)) with h52 | h52
 · rw [h52]
   refine litVal (v := .bool true) rfl (wgY rfl rfl rfl (by decide) (by kernel_rfl)) (litRun (by kernel_rfl)) rfl (by decide) ?_
   refine lk (v := .bool true) rfl rfl rfl ?_
   refine plD ?_
   refine then_normal (hK39 _ _ ?_)
   refine wpPrune [(2, .int .i64 0), (37, .bool true)] ⟨litGet (by kernel_rfl), ⟨litGet (by kernel_rfl), trivial⟩⟩ (fun X53 => ?_)
   refine wp_cond_true (litEv (by kernel_rfl)) ?_
   refine wp_seq_k fun K54 hK54 => ?_
   refine plStart ?_
   refine lk (v := .int .i64 1) rfl rfl rfl ?_
   refine plD ?_
   refine then_normal (hK54 _ _ ?_)
   refine wp_ret ?_
   refine then_ret ?_
   refine bodyPost_ret (v := .int .i64 1) (gRes1 rfl (gResTmp (t := 2) (v := .int .i64 1) (litGet (by kernel_rfl)))) rfl ?_
   exact ⟨congrArg (fun n_ => Ending.returned (.int .i64 n_)) (show (1 : Int) = ckV v from by unfold ckV Pt.rng; have q0_ := of_decide_eq_true h14; have q1_ := of_decide_eq_true h24; have q2_ := of_decide_eq_true h33; have q3_ := of_decide_eq_true h42; have q4_ := of_decide_eq_true h47; have q5_ := of_decide_eq_false h52; rw [if_neg (by omega)]), hm51.bel⟩
 rw [h52]
 refine litVal (v := .bool false) rfl (wgY rfl rfl rfl (by decide) (by kernel_rfl)) (litRun (by kernel_rfl)) rfl (by decide) ?_
 refine lk (v := .bool false) rfl rfl rfl ?_
 refine plD ?_
 refine then_normal (hK39 _ _ ?_)
 refine wpPrune [(2, .int .i64 0), (37, .bool false)] ⟨litGet (by kernel_rfl), ⟨litGet (by kernel_rfl), trivial⟩⟩ (fun X55 => ?_)
 refine wp_cond_false (litEv (by kernel_rfl)) ?_
 refine wp_skip ?_
 refine then_normal (hK38 _ _ ?_)
 refine wp_seq_k fun K56 hK56 => ?_
 refine plStart ?_
 refine lk (v := .int .i64 0) rfl rfl rfl ?_
 refine plD ?_
 refine then_normal (hK56 _ _ ?_)
 refine wp_ret ?_
 refine bodyPost_ret (v := .int .i64 0) (gRes1 rfl (gResTmp (t := 2) (v := .int .i64 0) (litGet (by kernel_rfl)))) rfl ?_
 exact ⟨congrArg (fun n_ => Ending.returned (.int .i64 n_)) (show (0 : Int) = ckV v from by unfold ckV Pt.rng; have q0_ := of_decide_eq_true h14; have q1_ := of_decide_eq_true h24; have q2_ := of_decide_eq_true h33; have q3_ := of_decide_eq_true h42; have q4_ := of_decide_eq_true h47; have q5_ := of_decide_eq_true h52; rw [if_pos (by omega)]), hm51.bel⟩
set_option maxRecDepth 100000 in
set_option maxHeartbeats 4000000 in
theorem rcheck_any (v : Vw) (w : World) : Calls Try.prog 13 #[.agg (vwc v).toArray] w (RetV w (.int .i64 (ckV v))) := by
 have hm0 := Mem.nil w
 go_enter Try.func13, Try.ntmps13
 refine litStart 39 [(0, .agg (vwc v).toArray)] (by kernel_rfl) (fun X0 => ?_)
 refine wp_seq_k fun K1 hK1 => ?_
 refine plStart ?_
 refine plBox hm0 (cs := vwc v) (i := 0) rfl (wn rfl) rfl (litEv (by kernel_rfl)) ?_
 intro g2 w4 hm3
 clear hm0
 try simp only [List.cons_append, List.nil_append, List.set_cons_succ, List.set_cons_zero] at hm3
 refine qP rfl ?_
 refine lk (v := .int .i64 0) rfl rfl rfl ?_
 refine plD ?_
 refine then_normal (hK1 _ _ ?_)
 refine wp_seq_k fun K5 hK5 => ?_
 refine plStart ?_
 refine lk (v := .pointer (some ⟨g2, 0, none⟩)) rfl rfl rfl ?_
 refine litVal (v := .agg (pcs v.p).toArray) rfl (wn rfl) (gLoadAg (vs := pcs v.p) (k := 0) 0 hm3 rfl (by kernel_rfl) (by kernel_rfl) (.tmp 4) Ty.ag_voxel_api_Point rfl (litEv (by kernel_rfl))) rfl (by decide) ?_
 refine plCall (i := 2) 33 [.agg (pcs v.p).toArray] [] [] rfl (by kernel_rfl) (wn rfl) rfl (litEv (by kernel_rfl)) (litArgs (by kernel_rfl)) (ranged_any v.p _) ?_
 rintro e w6 ⟨rfl, hbz⟩
 have hm7 := hm3.below hbz
 clear hbz hm3
 refine ⟨_, rfl, ?_⟩
 refine qP rfl ?_
 rcases bool_or (decide v.p.rng) with h8 | h8
 · rw [h8]
   refine lk (v := .bool false) rfl rfl rfl ?_
   refine plD ?_
   refine then_normal (hK5 _ _ ?_)
   refine wp_seq_k fun K9 hK9 => ?_
   refine wp_seq_k fun K10 hK10 => ?_
   refine plStart ?_
   refine lk (v := .bool false) rfl rfl rfl ?_
   refine lk (v := .bool true) rfl rfl rfl ?_
   refine lk (v := .bool true) rfl rfl rfl ?_
   refine plSkip (i := 3) rfl (wgN rfl rfl rfl (by decide) (by kernel_rfl)) ?_
   refine qP rfl ?_
   refine plSkip (i := 4) rfl (wgN rfl rfl rfl (by decide) (by kernel_rfl)) ?_
   refine qP rfl ?_
   refine plSkip (i := 5) rfl (wgN rfl rfl rfl (by decide) (by kernel_rfl)) ?_
   refine qP rfl ?_
   refine lk (v := .bool true) rfl rfl rfl ?_
   refine lk (v := .bool true) rfl rfl rfl ?_
   refine plSkip (i := 8) rfl (wgN rfl rfl rfl (by decide) (by kernel_rfl)) ?_
   refine qP rfl ?_
   refine plSkip (i := 9) rfl (wgN rfl rfl rfl (by decide) (by kernel_rfl)) ?_
   refine qP rfl ?_
   refine plSkip (i := 10) rfl (wgN rfl rfl rfl (by decide) (by kernel_rfl)) ?_
   refine qP rfl ?_
   refine lk (v := .bool true) rfl rfl rfl ?_
   refine lk (v := .bool true) rfl rfl rfl ?_
   refine plSkip (i := 13) rfl (wgN rfl rfl rfl (by decide) (by kernel_rfl)) ?_
   refine qP rfl ?_
   refine plSkip (i := 14) rfl (wgN rfl rfl rfl (by decide) (by kernel_rfl)) ?_
   refine qP rfl ?_
   refine plSkip (i := 15) rfl (wgN rfl rfl rfl (by decide) (by kernel_rfl)) ?_
   refine qP rfl ?_
   refine lk (v := .bool true) rfl rfl rfl ?_
   refine lk (v := .bool true) rfl rfl rfl ?_
   refine plSkip (i := 18) rfl (wgN rfl rfl rfl (by decide) (by kernel_rfl)) ?_
   refine qP rfl ?_
   refine plSkip (i := 19) rfl (wgN rfl rfl rfl (by decide) (by kernel_rfl)) ?_
   refine qP rfl ?_
   refine plSkip (i := 20) rfl (wgN rfl rfl rfl (by decide) (by kernel_rfl)) ?_
   refine qP rfl ?_
   refine lk (v := .bool true) rfl rfl rfl ?_
   refine lk (v := .bool true) rfl rfl rfl ?_
   refine plSkip (i := 23) rfl (wgN rfl rfl rfl (by decide) (by kernel_rfl)) ?_
   refine qP rfl ?_
   refine plSkip (i := 24) rfl (wgN rfl rfl rfl (by decide) (by kernel_rfl)) ?_
   refine qP rfl ?_
   refine plSkip (i := 25) rfl (wgN rfl rfl rfl (by decide) (by kernel_rfl)) ?_
   refine qP rfl ?_
   refine lk (v := .bool true) rfl rfl rfl ?_
   refine lk (v := .bool true) rfl rfl rfl ?_
   refine plSkip (i := 28) rfl (wgN rfl rfl rfl (by decide) (by kernel_rfl)) ?_
   refine qP rfl ?_
   refine plSkip (i := 29) rfl (wgN rfl rfl rfl (by decide) (by kernel_rfl)) ?_
   refine qP rfl ?_
   refine plSkip (i := 30) rfl (wgN rfl rfl rfl (by decide) (by kernel_rfl)) ?_
   refine qP rfl ?_
   refine lk (v := .bool true) rfl rfl rfl ?_
   refine plD ?_
   refine then_normal (hK10 _ _ ?_)
   refine wpPrune [(2, .int .i64 0), (38, .bool true)] ⟨litGet (by kernel_rfl), ⟨litGet (by kernel_rfl), trivial⟩⟩ (fun X11 => ?_)
   refine wp_cond_true (litEv (by kernel_rfl)) ?_
   refine wp_seq_k fun K12 hK12 => ?_
   refine plStart ?_
   refine lk (v := .int .i64 1) rfl rfl rfl ?_
   refine plD ?_
   refine then_normal (hK12 _ _ ?_)
   refine wp_ret ?_
   refine then_ret ?_
   refine bodyPost_ret (v := .int .i64 1) (gRes1 rfl (gResTmp (t := 2) (v := .int .i64 1) (litGet (by kernel_rfl)))) rfl ?_
   exact ⟨congrArg (fun n_ => Ending.returned (.int .i64 n_)) (show (1 : Int) = ckV v from by unfold ckV; have q0_ := of_decide_eq_false h8; rw [if_neg (fun h_ => by obtain ⟨a1_, a2_, a3_, a4_⟩ := h_; exact q0_ a1_)]), hm7.bel⟩
 rw [h8]
 refine lk (v := .bool true) rfl rfl rfl ?_
 refine plD ?_
 refine then_normal (hK5 _ _ ?_)
 refine wp_seq_k fun K13 hK13 => ?_
 refine wp_seq_k fun K14 hK14 => ?_
 refine plStart ?_
 refine lk (v := .bool true) rfl rfl rfl ?_
 refine lk (v := .bool false) rfl rfl rfl ?_
 refine lk (v := .bool false) rfl rfl rfl ?_
 refine litVal (v := .pointer (some ⟨g2, 3, none⟩)) rfl (wgY rfl rfl rfl (by decide) (by kernel_rfl)) (litRun (by kernel_rfl)) rfl (by decide) ?_
 refine litVal (v := .int .i64 v.sc) rfl (wgY rfl rfl rfl (by decide) (by kernel_rfl)) (gLoad (v := .int .i64 v.sc) (k := 3) 0 hm7 rfl (by kernel_rfl) (.tmp 10) (by kernel_rfl) rfl (litEv (by kernel_rfl))) rfl (by decide) ?_
 by_cases h15 : v.sc < 1
 · refine litVal (v := .bool true) rfl (wgY rfl rfl rfl (by decide) (by kernel_rfl)) (boolTo (decide_eq_true h15) (lssRun (A := v.sc) (B := 1) (.tmp 11) (.const (.int .i64 1)) rfl (litEv (by kernel_rfl)) (litEv (by kernel_rfl)))) rfl (by decide) ?_
   refine lk (v := .bool true) rfl rfl rfl ?_
   refine lk (v := .bool true) rfl rfl rfl ?_
   refine plSkip (i := 8) rfl (wgN rfl rfl rfl (by decide) (by kernel_rfl)) ?_
   refine qP rfl ?_
   refine plSkip (i := 9) rfl (wgN rfl rfl rfl (by decide) (by kernel_rfl)) ?_
   refine qP rfl ?_
   refine plSkip (i := 10) rfl (wgN rfl rfl rfl (by decide) (by kernel_rfl)) ?_
   refine qP rfl ?_
   refine lk (v := .bool true) rfl rfl rfl ?_
   refine lk (v := .bool true) rfl rfl rfl ?_
   refine plSkip (i := 13) rfl (wgN rfl rfl rfl (by decide) (by kernel_rfl)) ?_
   refine qP rfl ?_
   refine plSkip (i := 14) rfl (wgN rfl rfl rfl (by decide) (by kernel_rfl)) ?_
   refine qP rfl ?_
   refine plSkip (i := 15) rfl (wgN rfl rfl rfl (by decide) (by kernel_rfl)) ?_
   refine qP rfl ?_
   refine lk (v := .bool true) rfl rfl rfl ?_
   refine lk (v := .bool true) rfl rfl rfl ?_
   refine plSkip (i := 18) rfl (wgN rfl rfl rfl (by decide) (by kernel_rfl)) ?_
   refine qP rfl ?_
   refine plSkip (i := 19) rfl (wgN rfl rfl rfl (by decide) (by kernel_rfl)) ?_
   refine qP rfl ?_
   refine plSkip (i := 20) rfl (wgN rfl rfl rfl (by decide) (by kernel_rfl)) ?_
   refine qP rfl ?_
   refine lk (v := .bool true) rfl rfl rfl ?_
   refine lk (v := .bool true) rfl rfl rfl ?_
   refine plSkip (i := 23) rfl (wgN rfl rfl rfl (by decide) (by kernel_rfl)) ?_
   refine qP rfl ?_
   refine plSkip (i := 24) rfl (wgN rfl rfl rfl (by decide) (by kernel_rfl)) ?_
   refine qP rfl ?_
   refine plSkip (i := 25) rfl (wgN rfl rfl rfl (by decide) (by kernel_rfl)) ?_
   refine qP rfl ?_
   refine lk (v := .bool true) rfl rfl rfl ?_
   refine lk (v := .bool true) rfl rfl rfl ?_
   refine plSkip (i := 28) rfl (wgN rfl rfl rfl (by decide) (by kernel_rfl)) ?_
   refine qP rfl ?_
   refine plSkip (i := 29) rfl (wgN rfl rfl rfl (by decide) (by kernel_rfl)) ?_
   refine qP rfl ?_
   refine plSkip (i := 30) rfl (wgN rfl rfl rfl (by decide) (by kernel_rfl)) ?_
   refine qP rfl ?_
   refine lk (v := .bool true) rfl rfl rfl ?_
   refine plD ?_
   refine then_normal (hK14 _ _ ?_)
   refine wpPrune [(2, .int .i64 0), (38, .bool true)] ⟨litGet (by kernel_rfl), ⟨litGet (by kernel_rfl), trivial⟩⟩ (fun X16 => ?_)
   refine wp_cond_true (litEv (by kernel_rfl)) ?_
   refine wp_seq_k fun K17 hK17 => ?_
   refine plStart ?_
   refine lk (v := .int .i64 1) rfl rfl rfl ?_
   refine plD ?_
   refine then_normal (hK17 _ _ ?_)
   refine wp_ret ?_
   refine then_ret ?_
   refine bodyPost_ret (v := .int .i64 1) (gRes1 rfl (gResTmp (t := 2) (v := .int .i64 1) (litGet (by kernel_rfl)))) rfl ?_
   exact ⟨congrArg (fun n_ => Ending.returned (.int .i64 n_)) (show (1 : Int) = ckV v from by unfold ckV; have q0_ := of_decide_eq_true h8; have q1_ := h15; rw [if_neg (fun h_ => by obtain ⟨a1_, a2_, a3_, a4_⟩ := h_; omega)]), hm7.bel⟩
 refine litVal (v := .bool false) rfl (wgY rfl rfl rfl (by decide) (by kernel_rfl)) (boolTo (decide_eq_false h15) (lssRun (A := v.sc) (B := 1) (.tmp 11) (.const (.int .i64 1)) rfl (litEv (by kernel_rfl)) (litEv (by kernel_rfl)))) rfl (by decide) ?_
 refine lk (v := .bool false) rfl rfl rfl ?_
 refine lk (v := .bool false) rfl rfl rfl ?_
 refine litVal (v := .pointer (some ⟨g2, 3, none⟩)) rfl (wgY rfl rfl rfl (by decide) (by kernel_rfl)) (litRun (by kernel_rfl)) rfl (by decide) ?_
 refine litVal (v := .int .i64 v.sc) rfl (wgY rfl rfl rfl (by decide) (by kernel_rfl)) (gLoad (v := .int .i64 v.sc) (k := 3) 0 hm7 rfl (by kernel_rfl) (.tmp 15) (by kernel_rfl) rfl (litEv (by kernel_rfl))) rfl (by decide) ?_
 by_cases h18 : 1048576 < v.sc
 · refine litVal (v := .bool true) rfl (wgY rfl rfl rfl (by decide) (by kernel_rfl)) (boolTo (decide_eq_true h18) (gtrRun (A := v.sc) (B := 1048576) (.tmp 16) (.const (.int .i64 1048576)) rfl (litEv (by kernel_rfl)) (litEv (by kernel_rfl)))) rfl (by decide) ?_
   refine lk (v := .bool true) rfl rfl rfl ?_
   refine lk (v := .bool true) rfl rfl rfl ?_
   refine plSkip (i := 13) rfl (wgN rfl rfl rfl (by decide) (by kernel_rfl)) ?_
   refine qP rfl ?_
   refine plSkip (i := 14) rfl (wgN rfl rfl rfl (by decide) (by kernel_rfl)) ?_
   refine qP rfl ?_
   refine plSkip (i := 15) rfl (wgN rfl rfl rfl (by decide) (by kernel_rfl)) ?_
   refine qP rfl ?_
   refine lk (v := .bool true) rfl rfl rfl ?_
   refine lk (v := .bool true) rfl rfl rfl ?_
   refine plSkip (i := 18) rfl (wgN rfl rfl rfl (by decide) (by kernel_rfl)) ?_
   refine qP rfl ?_
   refine plSkip (i := 19) rfl (wgN rfl rfl rfl (by decide) (by kernel_rfl)) ?_
   refine qP rfl ?_
   refine plSkip (i := 20) rfl (wgN rfl rfl rfl (by decide) (by kernel_rfl)) ?_
   refine qP rfl ?_
   refine lk (v := .bool true) rfl rfl rfl ?_
   refine lk (v := .bool true) rfl rfl rfl ?_
   refine plSkip (i := 23) rfl (wgN rfl rfl rfl (by decide) (by kernel_rfl)) ?_
   refine qP rfl ?_
   refine plSkip (i := 24) rfl (wgN rfl rfl rfl (by decide) (by kernel_rfl)) ?_
   refine qP rfl ?_
   refine plSkip (i := 25) rfl (wgN rfl rfl rfl (by decide) (by kernel_rfl)) ?_
   refine qP rfl ?_
   refine lk (v := .bool true) rfl rfl rfl ?_
   refine lk (v := .bool true) rfl rfl rfl ?_
   refine plSkip (i := 28) rfl (wgN rfl rfl rfl (by decide) (by kernel_rfl)) ?_
   refine qP rfl ?_
   refine plSkip (i := 29) rfl (wgN rfl rfl rfl (by decide) (by kernel_rfl)) ?_
   refine qP rfl ?_
   refine plSkip (i := 30) rfl (wgN rfl rfl rfl (by decide) (by kernel_rfl)) ?_
   refine qP rfl ?_
   refine lk (v := .bool true) rfl rfl rfl ?_
   refine plD ?_
   refine then_normal (hK14 _ _ ?_)
   refine wpPrune [(2, .int .i64 0), (38, .bool true)] ⟨litGet (by kernel_rfl), ⟨litGet (by kernel_rfl), trivial⟩⟩ (fun X19 => ?_)
   refine wp_cond_true (litEv (by kernel_rfl)) ?_
   refine wp_seq_k fun K20 hK20 => ?_
   refine plStart ?_
   refine lk (v := .int .i64 1) rfl rfl rfl ?_
   refine plD ?_
   refine then_normal (hK20 _ _ ?_)
   refine wp_ret ?_
   refine then_ret ?_
   refine bodyPost_ret (v := .int .i64 1) (gRes1 rfl (gResTmp (t := 2) (v := .int .i64 1) (litGet (by kernel_rfl)))) rfl ?_
   exact ⟨congrArg (fun n_ => Ending.returned (.int .i64 n_)) (show (1 : Int) = ckV v from by unfold ckV; have q0_ := of_decide_eq_true h8; have q1_ := h15; have q2_ := h18; rw [if_neg (fun h_ => by obtain ⟨a1_, a2_, a3_, a4_⟩ := h_; omega)]), hm7.bel⟩
 refine litVal (v := .bool false) rfl (wgY rfl rfl rfl (by decide) (by kernel_rfl)) (boolTo (decide_eq_false h18) (gtrRun (A := v.sc) (B := 1048576) (.tmp 16) (.const (.int .i64 1048576)) rfl (litEv (by kernel_rfl)) (litEv (by kernel_rfl)))) rfl (by decide) ?_
 refine lk (v := .bool false) rfl rfl rfl ?_
 refine lk (v := .bool false) rfl rfl rfl ?_
 refine litVal (v := .pointer (some ⟨g2, 4, none⟩)) rfl (wgY rfl rfl rfl (by decide) (by kernel_rfl)) (litRun (by kernel_rfl)) rfl (by decide) ?_
 refine litVal (v := .int .i64 v.tol) rfl (wgY rfl rfl rfl (by decide) (by kernel_rfl)) (gLoad (v := .int .i64 v.tol) (k := 4) 0 hm7 rfl (by kernel_rfl) (.tmp 20) (by kernel_rfl) rfl (litEv (by kernel_rfl))) rfl (by decide) ?_
 by_cases h21 : v.tol < 0
 · refine litVal (v := .bool true) rfl (wgY rfl rfl rfl (by decide) (by kernel_rfl)) (boolTo (decide_eq_true h21) (lssRun (A := v.tol) (B := 0) (.tmp 21) (.const (.int .i64 0)) rfl (litEv (by kernel_rfl)) (litEv (by kernel_rfl)))) rfl (by decide) ?_
   refine lk (v := .bool true) rfl rfl rfl ?_
   refine lk (v := .bool true) rfl rfl rfl ?_
   refine plSkip (i := 18) rfl (wgN rfl rfl rfl (by decide) (by kernel_rfl)) ?_
   refine qP rfl ?_
   refine plSkip (i := 19) rfl (wgN rfl rfl rfl (by decide) (by kernel_rfl)) ?_
   refine qP rfl ?_
   refine plSkip (i := 20) rfl (wgN rfl rfl rfl (by decide) (by kernel_rfl)) ?_
   refine qP rfl ?_
   refine lk (v := .bool true) rfl rfl rfl ?_
   refine lk (v := .bool true) rfl rfl rfl ?_
   refine plSkip (i := 23) rfl (wgN rfl rfl rfl (by decide) (by kernel_rfl)) ?_
   refine qP rfl ?_
   refine plSkip (i := 24) rfl (wgN rfl rfl rfl (by decide) (by kernel_rfl)) ?_
   refine qP rfl ?_
   refine plSkip (i := 25) rfl (wgN rfl rfl rfl (by decide) (by kernel_rfl)) ?_
   refine qP rfl ?_
   refine lk (v := .bool true) rfl rfl rfl ?_
   refine lk (v := .bool true) rfl rfl rfl ?_
   refine plSkip (i := 28) rfl (wgN rfl rfl rfl (by decide) (by kernel_rfl)) ?_
   refine qP rfl ?_
   refine plSkip (i := 29) rfl (wgN rfl rfl rfl (by decide) (by kernel_rfl)) ?_
   refine qP rfl ?_
   refine plSkip (i := 30) rfl (wgN rfl rfl rfl (by decide) (by kernel_rfl)) ?_
   refine qP rfl ?_
   refine lk (v := .bool true) rfl rfl rfl ?_
   refine plD ?_
   refine then_normal (hK14 _ _ ?_)
   refine wpPrune [(2, .int .i64 0), (38, .bool true)] ⟨litGet (by kernel_rfl), ⟨litGet (by kernel_rfl), trivial⟩⟩ (fun X22 => ?_)
   refine wp_cond_true (litEv (by kernel_rfl)) ?_
   refine wp_seq_k fun K23 hK23 => ?_
   refine plStart ?_
   refine lk (v := .int .i64 1) rfl rfl rfl ?_
   refine plD ?_
   refine then_normal (hK23 _ _ ?_)
   refine wp_ret ?_
   refine then_ret ?_
   refine bodyPost_ret (v := .int .i64 1) (gRes1 rfl (gResTmp (t := 2) (v := .int .i64 1) (litGet (by kernel_rfl)))) rfl ?_
   exact ⟨congrArg (fun n_ => Ending.returned (.int .i64 n_)) (show (1 : Int) = ckV v from by unfold ckV; have q0_ := of_decide_eq_true h8; have q1_ := h15; have q2_ := h18; have q3_ := h21; rw [if_neg (fun h_ => by obtain ⟨a1_, a2_, a3_, a4_⟩ := h_; omega)]), hm7.bel⟩
 refine litVal (v := .bool false) rfl (wgY rfl rfl rfl (by decide) (by kernel_rfl)) (boolTo (decide_eq_false h21) (lssRun (A := v.tol) (B := 0) (.tmp 21) (.const (.int .i64 0)) rfl (litEv (by kernel_rfl)) (litEv (by kernel_rfl)))) rfl (by decide) ?_
 refine lk (v := .bool false) rfl rfl rfl ?_
 refine lk (v := .bool false) rfl rfl rfl ?_
 refine litVal (v := .pointer (some ⟨g2, 4, none⟩)) rfl (wgY rfl rfl rfl (by decide) (by kernel_rfl)) (litRun (by kernel_rfl)) rfl (by decide) ?_
 refine litVal (v := .int .i64 v.tol) rfl (wgY rfl rfl rfl (by decide) (by kernel_rfl)) (gLoad (v := .int .i64 v.tol) (k := 4) 0 hm7 rfl (by kernel_rfl) (.tmp 25) (by kernel_rfl) rfl (litEv (by kernel_rfl))) rfl (by decide) ?_
 by_cases h24 : 1099511627776 < v.tol
 · refine litVal (v := .bool true) rfl (wgY rfl rfl rfl (by decide) (by kernel_rfl)) (boolTo (decide_eq_true h24) (gtrRun (A := v.tol) (B := 1099511627776) (.tmp 26) (.const (.int .i64 1099511627776)) rfl (litEv (by kernel_rfl)) (litEv (by kernel_rfl)))) rfl (by decide) ?_
   refine lk (v := .bool true) rfl rfl rfl ?_
   refine lk (v := .bool true) rfl rfl rfl ?_
   refine plSkip (i := 23) rfl (wgN rfl rfl rfl (by decide) (by kernel_rfl)) ?_
   refine qP rfl ?_
   refine plSkip (i := 24) rfl (wgN rfl rfl rfl (by decide) (by kernel_rfl)) ?_
   refine qP rfl ?_
   refine plSkip (i := 25) rfl (wgN rfl rfl rfl (by decide) (by kernel_rfl)) ?_
   refine qP rfl ?_
   refine lk (v := .bool true) rfl rfl rfl ?_
   refine lk (v := .bool true) rfl rfl rfl ?_
   refine plSkip (i := 28) rfl (wgN rfl rfl rfl (by decide) (by kernel_rfl)) ?_
   refine qP rfl ?_
   refine plSkip (i := 29) rfl (wgN rfl rfl rfl (by decide) (by kernel_rfl)) ?_
   refine qP rfl ?_
   refine plSkip (i := 30) rfl (wgN rfl rfl rfl (by decide) (by kernel_rfl)) ?_
   refine qP rfl ?_
   refine lk (v := .bool true) rfl rfl rfl ?_
   refine plD ?_
   refine then_normal (hK14 _ _ ?_)
   refine wpPrune [(2, .int .i64 0), (38, .bool true)] ⟨litGet (by kernel_rfl), ⟨litGet (by kernel_rfl), trivial⟩⟩ (fun X25 => ?_)
   refine wp_cond_true (litEv (by kernel_rfl)) ?_
   refine wp_seq_k fun K26 hK26 => ?_
   refine plStart ?_
   refine lk (v := .int .i64 1) rfl rfl rfl ?_
   refine plD ?_
   refine then_normal (hK26 _ _ ?_)
   refine wp_ret ?_
   refine then_ret ?_
   refine bodyPost_ret (v := .int .i64 1) (gRes1 rfl (gResTmp (t := 2) (v := .int .i64 1) (litGet (by kernel_rfl)))) rfl ?_
   exact ⟨congrArg (fun n_ => Ending.returned (.int .i64 n_)) (show (1 : Int) = ckV v from by unfold ckV; have q0_ := of_decide_eq_true h8; have q1_ := h15; have q2_ := h18; have q3_ := h21; have q4_ := h24; rw [if_neg (fun h_ => by obtain ⟨a1_, a2_, a3_, a4_⟩ := h_; omega)]), hm7.bel⟩
 refine litVal (v := .bool false) rfl (wgY rfl rfl rfl (by decide) (by kernel_rfl)) (boolTo (decide_eq_false h24) (gtrRun (A := v.tol) (B := 1099511627776) (.tmp 26) (.const (.int .i64 1099511627776)) rfl (litEv (by kernel_rfl)) (litEv (by kernel_rfl)))) rfl (by decide) ?_
 refine lk (v := .bool false) rfl rfl rfl ?_
 refine lk (v := .bool false) rfl rfl rfl ?_
 refine litVal (v := .pointer (some ⟨g2, 5, none⟩)) rfl (wgY rfl rfl rfl (by decide) (by kernel_rfl)) (litRun (by kernel_rfl)) rfl (by decide) ?_
 refine litVal (v := .int .i64 v.bud) rfl (wgY rfl rfl rfl (by decide) (by kernel_rfl)) (gLoad (v := .int .i64 v.bud) (k := 5) 0 hm7 rfl (by kernel_rfl) (.tmp 30) (by kernel_rfl) rfl (litEv (by kernel_rfl))) rfl (by decide) ?_
 by_cases h27 : v.bud < 0
 · refine litVal (v := .bool true) rfl (wgY rfl rfl rfl (by decide) (by kernel_rfl)) (boolTo (decide_eq_true h27) (lssRun (A := v.bud) (B := 0) (.tmp 31) (.const (.int .i64 0)) rfl (litEv (by kernel_rfl)) (litEv (by kernel_rfl)))) rfl (by decide) ?_
   refine lk (v := .bool true) rfl rfl rfl ?_
   refine lk (v := .bool true) rfl rfl rfl ?_
   refine plSkip (i := 28) rfl (wgN rfl rfl rfl (by decide) (by kernel_rfl)) ?_
   refine qP rfl ?_
   refine plSkip (i := 29) rfl (wgN rfl rfl rfl (by decide) (by kernel_rfl)) ?_
   refine qP rfl ?_
   refine plSkip (i := 30) rfl (wgN rfl rfl rfl (by decide) (by kernel_rfl)) ?_
   refine qP rfl ?_
   refine lk (v := .bool true) rfl rfl rfl ?_
   refine plD ?_
   refine then_normal (hK14 _ _ ?_)
   refine wpPrune [(2, .int .i64 0), (38, .bool true)] ⟨litGet (by kernel_rfl), ⟨litGet (by kernel_rfl), trivial⟩⟩ (fun X28 => ?_)
   refine wp_cond_true (litEv (by kernel_rfl)) ?_
   refine wp_seq_k fun K29 hK29 => ?_
   refine plStart ?_
   refine lk (v := .int .i64 1) rfl rfl rfl ?_
   refine plD ?_
   refine then_normal (hK29 _ _ ?_)
   refine wp_ret ?_
   refine then_ret ?_
   refine bodyPost_ret (v := .int .i64 1) (gRes1 rfl (gResTmp (t := 2) (v := .int .i64 1) (litGet (by kernel_rfl)))) rfl ?_
   exact ⟨congrArg (fun n_ => Ending.returned (.int .i64 n_)) (show (1 : Int) = ckV v from by unfold ckV; have q0_ := of_decide_eq_true h8; have q1_ := h15; have q2_ := h18; have q3_ := h21; have q4_ := h24; have q5_ := h27; rw [if_neg (fun h_ => by obtain ⟨a1_, a2_, a3_, a4_⟩ := h_; omega)]), hm7.bel⟩
 refine litVal (v := .bool false) rfl (wgY rfl rfl rfl (by decide) (by kernel_rfl)) (boolTo (decide_eq_false h27) (lssRun (A := v.bud) (B := 0) (.tmp 31) (.const (.int .i64 0)) rfl (litEv (by kernel_rfl)) (litEv (by kernel_rfl)))) rfl (by decide) ?_
 refine lk (v := .bool false) rfl rfl rfl ?_
 refine lk (v := .bool false) rfl rfl rfl ?_
 refine litVal (v := .pointer (some ⟨g2, 5, none⟩)) rfl (wgY rfl rfl rfl (by decide) (by kernel_rfl)) (litRun (by kernel_rfl)) rfl (by decide) ?_
 refine litVal (v := .int .i64 v.bud) rfl (wgY rfl rfl rfl (by decide) (by kernel_rfl)) (gLoad (v := .int .i64 v.bud) (k := 5) 0 hm7 rfl (by kernel_rfl) (.tmp 35) (by kernel_rfl) rfl (litEv (by kernel_rfl))) rfl (by decide) ?_
 by_cases h30 : 1099511627776 < v.bud
 · refine litVal (v := .bool true) rfl (wgY rfl rfl rfl (by decide) (by kernel_rfl)) (boolTo (decide_eq_true h30) (gtrRun (A := v.bud) (B := 1099511627776) (.tmp 36) (.const (.int .i64 1099511627776)) rfl (litEv (by kernel_rfl)) (litEv (by kernel_rfl)))) rfl (by decide) ?_
   refine lk (v := .bool true) rfl rfl rfl ?_
   refine plD ?_
   refine then_normal (hK14 _ _ ?_)
   refine wpPrune [(2, .int .i64 0), (38, .bool true)] ⟨litGet (by kernel_rfl), ⟨litGet (by kernel_rfl), trivial⟩⟩ (fun X31 => ?_)
   refine wp_cond_true (litEv (by kernel_rfl)) ?_
   refine wp_seq_k fun K32 hK32 => ?_
   refine plStart ?_
   refine lk (v := .int .i64 1) rfl rfl rfl ?_
   refine plD ?_
   refine then_normal (hK32 _ _ ?_)
   refine wp_ret ?_
   refine then_ret ?_
   refine bodyPost_ret (v := .int .i64 1) (gRes1 rfl (gResTmp (t := 2) (v := .int .i64 1) (litGet (by kernel_rfl)))) rfl ?_
   exact ⟨congrArg (fun n_ => Ending.returned (.int .i64 n_)) (show (1 : Int) = ckV v from by unfold ckV; have q0_ := of_decide_eq_true h8; have q1_ := h15; have q2_ := h18; have q3_ := h21; have q4_ := h24; have q5_ := h27; have q6_ := h30; rw [if_neg (fun h_ => by obtain ⟨a1_, a2_, a3_, a4_⟩ := h_; omega)]), hm7.bel⟩
 refine litVal (v := .bool false) rfl (wgY rfl rfl rfl (by decide) (by kernel_rfl)) (boolTo (decide_eq_false h30) (gtrRun (A := v.bud) (B := 1099511627776) (.tmp 36) (.const (.int .i64 1099511627776)) rfl (litEv (by kernel_rfl)) (litEv (by kernel_rfl)))) rfl (by decide) ?_
 refine lk (v := .bool false) rfl rfl rfl ?_
 refine plD ?_
 refine then_normal (hK14 _ _ ?_)
 refine wpPrune [(2, .int .i64 0), (38, .bool false)] ⟨litGet (by kernel_rfl), ⟨litGet (by kernel_rfl), trivial⟩⟩ (fun X33 => ?_)
 refine wp_cond_false (litEv (by kernel_rfl)) ?_
 refine wp_skip ?_
 refine then_normal (hK13 _ _ ?_)
 refine wp_seq_k fun K34 hK34 => ?_
 refine plStart ?_
 refine lk (v := .int .i64 0) rfl rfl rfl ?_
 refine plD ?_
 refine then_normal (hK34 _ _ ?_)
 refine wp_ret ?_
 refine bodyPost_ret (v := .int .i64 0) (gRes1 rfl (gResTmp (t := 2) (v := .int .i64 0) (litGet (by kernel_rfl)))) rfl ?_
 exact ⟨congrArg (fun n_ => Ending.returned (.int .i64 n_)) (show (0 : Int) = ckV v from by unfold ckV; have q0_ := of_decide_eq_true h8; have q1_ := h15; have q2_ := h18; have q3_ := h21; have q4_ := h24; have q5_ := h27; have q6_ := h30; rw [if_pos ⟨q0_, by omega, by omega, by omega⟩]), hm7.bel⟩
set_option maxRecDepth 100000 in
set_option maxHeartbeats 4000000 in
theorem near_any (p : Pt) (b : Bx) (hp : (-1073741824 ≤ p.x ∧ p.x ≤ 1073741824) ∧ (-1073741824 ≤ p.y ∧ p.y ≤ 1073741824) ∧ (-1073741824 ≤ p.z ∧ p.z ≤ 1073741824)) (hb : ((-1073741824 ≤ b.mn.x ∧ b.mn.x ≤ 1073741824) ∧ (-1073741824 ≤ b.mn.y ∧ b.mn.y ≤ 1073741824) ∧ (-1073741824 ≤ b.mn.z ∧ b.mn.z ≤ 1073741824)) ∧ ((-1073741824 ≤ b.mx.x ∧ b.mx.x ≤ 1073741824) ∧ (-1073741824 ≤ b.mx.y ∧ b.mx.y ≤ 1073741824) ∧ (-1073741824 ≤ b.mx.z ∧ b.mx.z ≤ 1073741824))) (w : World) : Calls Try.prog 34 #[.agg (pcs p).toArray, .agg (bxs b).toArray] w (RetV w (.int .i64 (nearB p b))) := by
 have hm0 := Mem.nil w
 go_enter Try.func34, Try.ntmps34
 refine litStart 30 [(0, .agg (pcs p).toArray), (1, .agg (bxs b).toArray)] (by kernel_rfl) (fun X0 => ?_)
 refine wp_seq_k fun K1 hK1 => ?_
 refine plStart ?_
 refine plBox hm0 (cs := pcs p) (i := 0) rfl (wn rfl) rfl (litEv (by kernel_rfl)) ?_
 intro g2 w4 hm3
 clear hm0
 try simp only [List.cons_append, List.nil_append, List.set_cons_succ, List.set_cons_zero] at hm3
 refine qP rfl ?_
 refine plBox hm3 (cs := bxs b) (i := 1) rfl (wn rfl) rfl (litEv (by kernel_rfl)) ?_
 intro g5 w7 hm6
 clear hm3
 try simp only [List.cons_append, List.nil_append, List.set_cons_succ, List.set_cons_zero] at hm6
 refine qP rfl ?_
 refine lk (v := .int .i64 0) rfl rfl rfl ?_
 refine plD ?_
 refine then_normal (hK1 _ _ ?_)
 refine wp_seq_k fun K8 hK8 => ?_
 refine wp_seq_k fun K9 hK9 => ?_
 refine plStart ?_
 refine litVal (v := .agg (bxs b).toArray) rfl (wn rfl) (gLoadAg (vs := bxs b) (k := 0) 1 hm6 rfl (by kernel_rfl) (by kernel_rfl) (.tmp 3) Ty.ag_voxel_api_Box rfl (litEv (by kernel_rfl))) rfl (by decide) ?_
 refine plCall (i := 1) 51 [.agg (bxs b).toArray] [] [] rfl (by kernel_rfl) (wn rfl) rfl (litEv (by kernel_rfl)) (litArgs (by kernel_rfl)) (empty_any b _) ?_
 rintro e w10 ⟨rfl, hbz⟩
 have hm11 := hm6.below hbz
 clear hbz hm6
 refine ⟨_, rfl, ?_⟩
 refine qP rfl ?_
 rcases bool_or (decide b.none) with h12 | h12
 · rw [h12]
   refine plD ?_
   refine then_normal (hK9 _ _ ?_)
   refine wp_cond_false (litEv (by kernel_rfl)) ?_
   refine wp_skip ?_
   refine then_normal (hK8 _ _ ?_)
   refine wp_seq_k fun K13 hK13 => ?_
   refine aoStart (aoV [fun _ => .pointer (some ⟨g5, 0, none⟩), fun _ => .agg (pcs b.mn).toArray, fun _ => .agg (pcs p).toArray, fun _ => .agg (pcs (b.mn.sub p)).toArray, fun _ => .agg (pcs p).toArray, fun _ => .pointer (some ⟨g5, 3, none⟩), fun _ => .agg (pcs b.mx).toArray, fun _ => .agg (pcs (p.sub b.mx)).toArray, fun γ_ => .pointer (some ⟨γ_, 0, none⟩), fun γ_ => .pointer (some ⟨γ_, 0, none⟩), fun _ => undef, fun _ => undef]) (aoA [0, 1, 2, 3, 4, 5, 6, 7, 8, 9, 10, 11]) (fun b_ g_ => ((.arr g2 23 (pcs p)) :: (.arr g5 55 (bxs b)) :: (bsel (b_ 8) (.arr (g_ 8) 23 (bsel (b_ 10) [.int .i64 ((b.mn.sub p).x), .int .i64 ((b.mn.sub p).y), .int .i64 ((b.mn.sub p).z)] [.int .i64 0, .int .i64 0, .int .i64 0])) .free) :: (bsel (b_ 9) (.arr (g_ 9) 23 (bsel (b_ 11) [.int .i64 ((p.sub b.mx).x), .int .i64 ((p.sub b.mx).y), .int .i64 ((p.sub b.mx).z)] [.int .i64 0, .int .i64 0, .int .i64 0])) .free) :: [])) hm11 (by kernel_rfl) (by kernel_rfl) (fun w_ h_ => h_.pushFree.pushFree) (fun b_ g_ h_ => by show (fun (x8_ x9_ x10_ x11_ : Bool) => (((.arr g2 23 (pcs p)) :: (.arr g5 55 (bxs b)) :: (bsel x8_ (.arr (g_ 8) 23 (bsel x10_ [.int .i64 ((b.mn.sub p).x), .int .i64 ((b.mn.sub p).y), .int .i64 ((b.mn.sub p).z)] [.int .i64 0, .int .i64 0, .int .i64 0])) .free) :: (bsel x9_ (.arr (g_ 9) 23 (bsel x11_ [.int .i64 ((p.sub b.mx).x), .int .i64 ((p.sub b.mx).y), .int .i64 ((p.sub b.mx).z)] [.int .i64 0, .int .i64 0, .int .i64 0])) .free) :: []) : List Res)) (b_ 8) (b_ 9) (b_ 10) (b_ 11) = _; rw [h_ 8 (by decide), h_ 9 (by decide), h_ 10 (by decide), h_ 11 (by decide)]) ?_ ?_
   · refine aoNext rfl (aoVal (fun g_ => [(3, .pointer (some ⟨g5, 0, none⟩))]) (fun g_ a_ h_k => ⟨(h_k.out 3 (by kernel_rfl)).trans (litGet (by kernel_rfl)), trivial⟩) (fun g_ X_ => (wn rfl)) (fun b_ g_ => by kernel_rfl) (fun b_ g_ X_ w_ h_b h_ => valTo (b := .pointer (some ⟨g5, 0, none⟩)) (by kernel_rfl) (litRun (by kernel_rfl)))) ?_
     refine aoNext rfl (aoVal (fun g_ => [(9, .pointer (some ⟨g5, 0, none⟩))]) (fun g_ a_ h_k => ⟨(h_k.inn 0 _ _ (by kernel_rfl) rfl rfl).trans (by kernel_rfl), trivial⟩) (fun g_ X_ => (wn rfl)) (fun b_ g_ => by kernel_rfl) (fun b_ g_ X_ w_ h_b h_ => valTo (b := .agg (pcs b.mn).toArray) (by kernel_rfl) (gLoadAg (vs := pcs b.mn) (k := 0) 1 h_ rfl (by kernel_rfl) (by kernel_rfl) (.tmp 9) Ty.ag_voxel_api_Point rfl (litEv (by kernel_rfl))))) ?_
     refine aoNext rfl (aoVal (fun g_ => [(2, .pointer (some ⟨g2, 0, none⟩))]) (fun g_ a_ h_k => ⟨(h_k.out 2 (by kernel_rfl)).trans (litGet (by kernel_rfl)), trivial⟩) (fun g_ X_ => (wn rfl)) (fun b_ g_ => by kernel_rfl) (fun b_ g_ X_ w_ h_b h_ => valTo (b := .agg (pcs p).toArray) (by kernel_rfl) (gLoadAg (vs := pcs p) (k := 0) 0 h_ rfl (by kernel_rfl) (by kernel_rfl) (.tmp 2) Ty.ag_voxel_api_Point rfl (litEv (by kernel_rfl))))) ?_
     refine aoNext rfl (aoCall (fun g_ => [(10, .agg (pcs b.mn).toArray), (11, .agg (pcs p).toArray)]) (fun g_ a_ h_k => ⟨(h_k.inn 1 _ _ (by kernel_rfl) rfl rfl).trans (by kernel_rfl), (h_k.inn 2 _ _ (by kernel_rfl) rfl rfl).trans (by kernel_rfl), trivial⟩) 52 (fun g_ => [.agg (pcs b.mn).toArray, .agg (pcs p).toArray]) [] [] (by kernel_rfl) (fun g_ X_ => (wn rfl)) (fun b_ g_ => by kernel_rfl) rfl (fun g_ X_ => litEv (by kernel_rfl)) (fun g_ X_ => litArgs (by kernel_rfl)) (fun b_ g_ w_ h_b h_ => (sub_any b.mn p hb.1 hp _).mono (fun _ _ h_r => ⟨h_r.1.trans (by kernel_rfl), h_r.2⟩))) ?_
     refine aoNext rfl (aoVal (fun g_ => [(2, .pointer (some ⟨g2, 0, none⟩))]) (fun g_ a_ h_k => ⟨(h_k.out 2 (by kernel_rfl)).trans (litGet (by kernel_rfl)), trivial⟩) (fun g_ X_ => (wn rfl)) (fun b_ g_ => by kernel_rfl) (fun b_ g_ X_ w_ h_b h_ => valTo (b := .agg (pcs p).toArray) (by kernel_rfl) (gLoadAg (vs := pcs p) (k := 0) 0 h_ rfl (by kernel_rfl) (by kernel_rfl) (.tmp 2) Ty.ag_voxel_api_Point rfl (litEv (by kernel_rfl))))) ?_
     refine aoNext rfl (aoVal (fun g_ => [(3, .pointer (some ⟨g5, 0, none⟩))]) (fun g_ a_ h_k => ⟨(h_k.out 3 (by kernel_rfl)).trans (litGet (by kernel_rfl)), trivial⟩) (fun g_ X_ => (wn rfl)) (fun b_ g_ => by kernel_rfl) (fun b_ g_ X_ w_ h_b h_ => valTo (b := .pointer (some ⟨g5, 3, none⟩)) (by kernel_rfl) (litRun (by kernel_rfl)))) ?_
     refine aoNext rfl (aoVal (fun g_ => [(14, .pointer (some ⟨g5, 3, none⟩))]) (fun g_ a_ h_k => ⟨(h_k.inn 5 _ _ (by kernel_rfl) rfl rfl).trans (by kernel_rfl), trivial⟩) (fun g_ X_ => (wn rfl)) (fun b_ g_ => by kernel_rfl) (fun b_ g_ X_ w_ h_b h_ => valTo (b := .agg (pcs b.mx).toArray) (by kernel_rfl) (gLoadAg (vs := pcs b.mx) (k := 3) 1 h_ rfl (by kernel_rfl) (by kernel_rfl) (.tmp 14) Ty.ag_voxel_api_Point rfl (litEv (by kernel_rfl))))) ?_
     refine aoNext rfl (aoCall (fun g_ => [(13, .agg (pcs p).toArray), (15, .agg (pcs b.mx).toArray)]) (fun g_ a_ h_k => ⟨(h_k.inn 4 _ _ (by kernel_rfl) rfl rfl).trans (by kernel_rfl), (h_k.inn 6 _ _ (by kernel_rfl) rfl rfl).trans (by kernel_rfl), trivial⟩) 52 (fun g_ => [.agg (pcs p).toArray, .agg (pcs b.mx).toArray]) [] [] (by kernel_rfl) (fun g_ X_ => (wn rfl)) (fun b_ g_ => by kernel_rfl) rfl (fun g_ X_ => litEv (by kernel_rfl)) (fun g_ X_ => litArgs (by kernel_rfl)) (fun b_ g_ w_ h_b h_ => (sub_any p b.mx hp hb.2 _).mono (fun _ _ h_r => ⟨h_r.1.trans (by kernel_rfl), h_r.2⟩))) ?_
     refine aoNext rfl (aoNewAg (z := [.int .i64 0, .int .i64 0, .int .i64 0]) 2 Ty.ag_voxel_api_Point rfl rfl (fun _ _ _ => ⟨_, rfl⟩) (fun b_ g_ γ_ h_b => Eq.trans (by kernel_rfl) (congrArg (fun x_ => List.set _ 2 (Res.arr γ_ 23 x_)) (bselF (α := List Value) (h_b.post 10 (by kernel_rfl)) [.int .i64 ((b.mn.sub p).x), .int .i64 ((b.mn.sub p).y), .int .i64 ((b.mn.sub p).z)] [.int .i64 0, .int .i64 0, .int .i64 0]))) (fun _ => by kernel_rfl) (by kernel_rfl)) ?_
     refine aoNext rfl (aoNewAg (z := [.int .i64 0, .int .i64 0, .int .i64 0]) 3 Ty.ag_voxel_api_Point rfl rfl (fun _ _ _ => ⟨_, rfl⟩) (fun b_ g_ γ_ h_b => Eq.trans (by kernel_rfl) (congrArg (fun x_ => List.set _ 3 (Res.arr γ_ 23 x_)) (bselF (α := List Value) (h_b.post 11 (by kernel_rfl)) [.int .i64 ((p.sub b.mx).x), .int .i64 ((p.sub b.mx).y), .int .i64 ((p.sub b.mx).z)] [.int .i64 0, .int .i64 0, .int .i64 0]))) (fun _ => by kernel_rfl) (by kernel_rfl)) ?_
     refine aoNext rfl (aoStore (gb := fun g_ => (g_ 8)) (k := 0) (cur := fun g_ => [.int .i64 0, .int .i64 0, .int .i64 0]) (vs := fun g_ => pcs (b.mn.sub p)) 2 (fun g_ => [(5, .pointer (some ⟨(g_ 8), 0, none⟩)), (12, .agg (pcs (b.mn.sub p)).toArray)]) (fun g_ a_ h_k => ⟨(h_k.inn 8 _ _ (by kernel_rfl) rfl rfl).trans (by kernel_rfl), (h_k.inn 3 _ _ (by kernel_rfl) rfl rfl).trans (by kernel_rfl), trivial⟩) Ty.ag_voxel_api_Point (fun b_ g_ h_b => by show some (bsel (b_ 8) (Res.arr (g_ 8) 23 (bsel (b_ 10) [.int .i64 ((b.mn.sub p).x), .int .i64 ((b.mn.sub p).y), .int .i64 ((b.mn.sub p).z)] [.int .i64 0, .int .i64 0, .int .i64 0])) Res.free) = some (Res.arr (g_ 8) 23 ([.int .i64 0, .int .i64 0, .int .i64 0])); rw [bselT (h_b.pre 8 (by kernel_rfl)), bselF h_b.no]) (fun g_ X_ => (wn rfl)) rfl (fun g_ X_ => litEv (by kernel_rfl)) (fun g_ X_ => litEv (by kernel_rfl)) (fun _ => by kernel_rfl) (fun _ => by kernel_rfl) (fun _ => by kernel_rfl) (fun b_ g_ h_b => Eq.trans (b := List.set (((.arr g2 23 (pcs p)) :: (.arr g5 55 (bxs b)) :: (bsel (b_ 8) (.arr (g_ 8) 23 (bsel (b_ 10) [.int .i64 ((b.mn.sub p).x), .int .i64 ((b.mn.sub p).y), .int .i64 ((b.mn.sub p).z)] [.int .i64 0, .int .i64 0, .int .i64 0])) .free) :: (bsel (b_ 9) (.arr (g_ 9) 23 (bsel (b_ 11) [.int .i64 ((p.sub b.mx).x), .int .i64 ((p.sub b.mx).y), .int .i64 ((p.sub b.mx).z)] [.int .i64 0, .int .i64 0, .int .i64 0])) .free) :: [])) 2 (bsel (b_ 8) (Res.arr (g_ 8) 23 ([.int .i64 ((b.mn.sub p).x), .int .i64 ((b.mn.sub p).y), .int .i64 ((b.mn.sub p).z)])) Res.free)) (by kernel_rfl) (congrArg (fun x_ => List.set _ 2 x_) (bselT (h_b.pre 8 (by kernel_rfl)) _ _))) rfl) ?_
     refine aoNext rfl (aoStore (gb := fun g_ => (g_ 9)) (k := 0) (cur := fun g_ => [.int .i64 0, .int .i64 0, .int .i64 0]) (vs := fun g_ => pcs (p.sub b.mx)) 3 (fun g_ => [(6, .pointer (some ⟨(g_ 9), 0, none⟩)), (16, .agg (pcs (p.sub b.mx)).toArray)]) (fun g_ a_ h_k => ⟨(h_k.inn 9 _ _ (by kernel_rfl) rfl rfl).trans (by kernel_rfl), (h_k.inn 7 _ _ (by kernel_rfl) rfl rfl).trans (by kernel_rfl), trivial⟩) Ty.ag_voxel_api_Point (fun b_ g_ h_b => by show some (bsel (b_ 9) (Res.arr (g_ 9) 23 (bsel (b_ 11) [.int .i64 ((p.sub b.mx).x), .int .i64 ((p.sub b.mx).y), .int .i64 ((p.sub b.mx).z)] [.int .i64 0, .int .i64 0, .int .i64 0])) Res.free) = some (Res.arr (g_ 9) 23 ([.int .i64 0, .int .i64 0, .int .i64 0])); rw [bselT (h_b.pre 9 (by kernel_rfl)), bselF h_b.no]) (fun g_ X_ => (wn rfl)) rfl (fun g_ X_ => litEv (by kernel_rfl)) (fun g_ X_ => litEv (by kernel_rfl)) (fun _ => by kernel_rfl) (fun _ => by kernel_rfl) (fun _ => by kernel_rfl) (fun b_ g_ h_b => Eq.trans (b := List.set (((.arr g2 23 (pcs p)) :: (.arr g5 55 (bxs b)) :: (bsel (b_ 8) (.arr (g_ 8) 23 (bsel (b_ 10) [.int .i64 ((b.mn.sub p).x), .int .i64 ((b.mn.sub p).y), .int .i64 ((b.mn.sub p).z)] [.int .i64 0, .int .i64 0, .int .i64 0])) .free) :: (bsel (b_ 9) (.arr (g_ 9) 23 (bsel (b_ 11) [.int .i64 ((p.sub b.mx).x), .int .i64 ((p.sub b.mx).y), .int .i64 ((p.sub b.mx).z)] [.int .i64 0, .int .i64 0, .int .i64 0])) .free) :: [])) 3 (bsel (b_ 9) (Res.arr (g_ 9) 23 ([.int .i64 ((p.sub b.mx).x), .int .i64 ((p.sub b.mx).y), .int .i64 ((p.sub b.mx).z)])) Res.free)) (by kernel_rfl) (congrArg (fun x_ => List.set _ 3 x_) (bselT (h_b.pre 9 (by kernel_rfl)) _ _))) rfl) ?_
     exact aoDone (by decide)
   intro g_ a_ w15 hF_ hm14
   obtain ⟨X16, rfl⟩ := frLit (⟨hF_.size, hF_.defers, ⟨(hF_.out 4 (by kernel_rfl)).trans (litGet (by kernel_rfl)), (hF_.inn 8 _ _ rfl rfl).trans (by kernel_rfl), (hF_.inn 9 _ _ rfl rfl).trans (by kernel_rfl), (hF_.inn 0 _ _ rfl rfl).trans (by kernel_rfl), (hF_.inn 1 _ _ rfl rfl).trans (by kernel_rfl), (hF_.inn 2 _ _ rfl rfl).trans (by kernel_rfl), (hF_.inn 3 _ _ rfl rfl).trans (by kernel_rfl), (hF_.inn 4 _ _ rfl rfl).trans (by kernel_rfl), (hF_.inn 5 _ _ rfl rfl).trans (by kernel_rfl), (hF_.inn 6 _ _ rfl rfl).trans (by kernel_rfl), (hF_.inn 7 _ _ rfl rfl).trans (by kernel_rfl), trivial⟩⟩ : Fr _ 30 [(4, .int .i64 0), (5, .pointer (some ⟨(g_ 8), 0, none⟩)), (6, .pointer (some ⟨(g_ 9), 0, none⟩)), (9, .pointer (some ⟨g5, 0, none⟩)), (10, .agg (pcs b.mn).toArray), (11, .agg (pcs p).toArray), (12, .agg (pcs (b.mn.sub p)).toArray), (13, .agg (pcs p).toArray), (14, .pointer (some ⟨g5, 3, none⟩)), (15, .agg (pcs b.mx).toArray), (16, .agg (pcs (p.sub b.mx)).toArray)])
   clear hF_
   have hm17 : Mem w w15 [.arr g2 23 (pcs p), .arr g5 55 (bxs b), .arr (g_ 8) 23 (pcs (b.mn.sub p)), .arr (g_ 9) 23 (pcs (p.sub b.mx))] := hm14
   clear hm14 hm11
   generalize g_ 8 = g18 at hm17 ⊢
   generalize g_ 9 = g19 at hm17 ⊢
   clear g_
   refine then_normal (hK13 _ _ ?_)
   refine wp_seq_k fun K20 hK20 => ?_
   refine plStart ?_
   refine lk (v := .pointer (some ⟨g18, 0, none⟩)) rfl rfl rfl ?_
   refine litVal (v := .int .i64 ((b.mn.sub p).x)) rfl (wn rfl) (gLoad (v := .int .i64 ((b.mn.sub p).x)) (k := 0) 2 hm17 rfl (by kernel_rfl) (.tmp 17) (by kernel_rfl) rfl (litEv (by kernel_rfl))) rfl (by decide) ?_
   refine lk (v := .pointer (some ⟨g18, 1, none⟩)) rfl rfl rfl ?_
   refine litVal (v := .int .i64 ((b.mn.sub p).y)) rfl (wn rfl) (gLoad (v := .int .i64 ((b.mn.sub p).y)) (k := 1) 2 hm17 rfl (by kernel_rfl) (.tmp 19) (by kernel_rfl) rfl (litEv (by kernel_rfl))) rfl (by decide) ?_
   refine lk (v := .pointer (some ⟨g18, 2, none⟩)) rfl rfl rfl ?_
   refine litVal (v := .int .i64 ((b.mn.sub p).z)) rfl (wn rfl) (gLoad (v := .int .i64 ((b.mn.sub p).z)) (k := 2) 2 hm17 rfl (by kernel_rfl) (.tmp 21) (by kernel_rfl) rfl (litEv (by kernel_rfl))) rfl (by decide) ?_
   refine lk (v := .pointer (some ⟨g19, 0, none⟩)) rfl rfl rfl ?_
   refine litVal (v := .int .i64 ((p.sub b.mx).x)) rfl (wn rfl) (gLoad (v := .int .i64 ((p.sub b.mx).x)) (k := 0) 3 hm17 rfl (by kernel_rfl) (.tmp 23) (by kernel_rfl) rfl (litEv (by kernel_rfl))) rfl (by decide) ?_
   refine lk (v := .pointer (some ⟨g19, 1, none⟩)) rfl rfl rfl ?_
   refine litVal (v := .int .i64 ((p.sub b.mx).y)) rfl (wn rfl) (gLoad (v := .int .i64 ((p.sub b.mx).y)) (k := 1) 3 hm17 rfl (by kernel_rfl) (.tmp 25) (by kernel_rfl) rfl (litEv (by kernel_rfl))) rfl (by decide) ?_
   refine lk (v := .pointer (some ⟨g19, 2, none⟩)) rfl rfl rfl ?_
   refine litVal (v := .int .i64 ((p.sub b.mx).z)) rfl (wn rfl) (gLoad (v := .int .i64 ((p.sub b.mx).z)) (k := 2) 3 hm17 rfl (by kernel_rfl) (.tmp 27) (by kernel_rfl) rfl (litEv (by kernel_rfl))) rfl (by decide) ?_
   refine litVal (v := .int .i64 (max (max (max (max (max (max 0 ((b.mn.sub p).x)) ((b.mn.sub p).y)) ((b.mn.sub p).z)) ((p.sub b.mx).x)) ((p.sub b.mx).y)) ((p.sub b.mx).z))) rfl (wn rfl) (gMax7 (.const (.int .i64 0)) (.tmp 18) (.tmp 20) (.tmp 22) (.tmp 24) (.tmp 26) (.tmp 28) rfl (litEv (by kernel_rfl)) (litEv (by kernel_rfl)) (litEv (by kernel_rfl)) (litEv (by kernel_rfl)) (litEv (by kernel_rfl)) (litEv (by kernel_rfl)) (litEv (by kernel_rfl))) rfl (by decide) ?_
   refine lk (v := .int .i64 (max (max (max (max (max (max 0 ((b.mn.sub p).x)) ((b.mn.sub p).y)) ((b.mn.sub p).z)) ((p.sub b.mx).x)) ((p.sub b.mx).y)) ((p.sub b.mx).z))) rfl rfl rfl ?_
   refine plD ?_
   refine then_normal (hK20 _ _ ?_)
   refine wpPrune [(4, .int .i64 (max (max (max (max (max (max 0 ((b.mn.sub p).x)) ((b.mn.sub p).y)) ((b.mn.sub p).z)) ((p.sub b.mx).x)) ((p.sub b.mx).y)) ((p.sub b.mx).z)))] ⟨litGet (by kernel_rfl), trivial⟩ (fun X21 => ?_)
   refine wp_ret ?_
   refine bodyPost_ret (v := .int .i64 (max (max (max (max (max (max 0 ((b.mn.sub p).x)) ((b.mn.sub p).y)) ((b.mn.sub p).z)) ((p.sub b.mx).x)) ((p.sub b.mx).y)) ((p.sub b.mx).z))) (gRes1 rfl (gResTmp (t := 4) (v := .int .i64 (max (max (max (max (max (max 0 ((b.mn.sub p).x)) ((b.mn.sub p).y)) ((b.mn.sub p).z)) ((p.sub b.mx).x)) ((p.sub b.mx).y)) ((p.sub b.mx).z))) (litGet (by kernel_rfl)))) rfl ?_
   exact ⟨congrArg (fun n_ => Ending.returned (.int .i64 n_)) (show max (max (max (max (max (max 0 ((b.mn.sub p).x)) ((b.mn.sub p).y)) ((b.mn.sub p).z)) ((p.sub b.mx).x)) ((p.sub b.mx).y)) ((p.sub b.mx).z) = nearB p b by unfold nearB; rw [if_neg (of_decide_eq_false h12)]; rfl), hm17.bel⟩
 rw [h12]
 refine plD ?_
 refine then_normal (hK9 _ _ ?_)
 refine wp_cond_true (litEv (by kernel_rfl)) ?_
 refine wp_seq_k fun K22 hK22 => ?_
 refine plStart ?_
 refine lk (v := .int .i64 (-1)) rfl rfl rfl ?_
 refine plD ?_
 refine then_normal (hK22 _ _ ?_)
 refine wp_ret ?_
 refine then_ret ?_
 refine bodyPost_ret (v := .int .i64 (-1)) (gRes1 rfl (gResTmp (t := 4) (v := .int .i64 (-1)) (litGet (by kernel_rfl)))) rfl ?_
 exact ⟨congrArg (fun n_ => Ending.returned (.int .i64 n_)) (show -1 = nearB p b by unfold nearB; rw [if_pos (of_decide_eq_true h12)]), hm11.bel⟩
set_option maxRecDepth 100000 in
set_option maxHeartbeats 4000000 in
theorem rnear_any (p : Pt) (b : Bx) (hp : (-1073741824 ≤ p.x ∧ p.x ≤ 1073741824) ∧ (-1073741824 ≤ p.y ∧ p.y ≤ 1073741824) ∧ (-1073741824 ≤ p.z ∧ p.z ≤ 1073741824)) (hb : ((-1073741824 ≤ b.mn.x ∧ b.mn.x ≤ 1073741824) ∧ (-1073741824 ≤ b.mn.y ∧ b.mn.y ≤ 1073741824) ∧ (-1073741824 ≤ b.mn.z ∧ b.mn.z ≤ 1073741824)) ∧ ((-1073741824 ≤ b.mx.x ∧ b.mx.x ≤ 1073741824) ∧ (-1073741824 ≤ b.mx.y ∧ b.mx.y ≤ 1073741824) ∧ (-1073741824 ≤ b.mx.z ∧ b.mx.z ≤ 1073741824))) (w : World) : Calls Try.prog 36 #[.agg (pcs p).toArray, .agg (bxs b).toArray] w (RetV w (.int .i64 (nearB p b))) := by
 have hm0 := Mem.nil w
 go_enter Try.func36, Try.ntmps36
 refine litStart 43 [(0, .agg (pcs p).toArray), (1, .agg (bxs b).toArray)] (by kernel_rfl) (fun X0 => ?_)
 refine wp_seq_k fun K1 hK1 => ?_
 refine plStart ?_
 refine plBox hm0 (cs := pcs p) (i := 0) rfl (wn rfl) rfl (litEv (by kernel_rfl)) ?_
 intro g2 w4 hm3
 clear hm0
 try simp only [List.cons_append, List.nil_append, List.set_cons_succ, List.set_cons_zero] at hm3
 refine qP rfl ?_
 refine plBox hm3 (cs := bxs b) (i := 1) rfl (wn rfl) rfl (litEv (by kernel_rfl)) ?_
 intro g5 w7 hm6
 clear hm3
 try simp only [List.cons_append, List.nil_append, List.set_cons_succ, List.set_cons_zero] at hm6
 refine qP rfl ?_
 refine lk (v := .int .i64 0) rfl rfl rfl ?_
 refine plD ?_
 refine then_normal (hK1 _ _ ?_)
 refine wp_seq_k fun K8 hK8 => ?_
 refine plStart ?_
 refine litVal (v := .agg (bxs b).toArray) rfl (wn rfl) (gLoadAg (vs := bxs b) (k := 0) 1 hm6 rfl (by kernel_rfl) (by kernel_rfl) (.tmp 3) Ty.ag_voxel_api_Box rfl (litEv (by kernel_rfl))) rfl (by decide) ?_
 refine plCall (i := 1) 56 [.agg (bxs b).toArray] [] [] rfl (by kernel_rfl) (wn rfl) rfl (litEv (by kernel_rfl)) (litArgs (by kernel_rfl)) (rempty_any b _) ?_
 rintro e w9 ⟨rfl, hbz⟩
 have hm10 := hm6.below hbz
 clear hbz hm6
 refine ⟨_, rfl, ?_⟩
 refine qP rfl ?_
 rcases bool_or (decide b.none) with h11 | h11
 · rw [h11]
   refine lk (v := .bool false) rfl rfl rfl ?_
   refine plD ?_
   refine then_normal (hK8 _ _ ?_)
   refine wp_seq_k fun K12 hK12 => ?_
   refine wp_seq_k fun K13 hK13 => ?_
   refine plStart ?_
   refine lk (v := .bool false) rfl rfl rfl ?_
   refine plD ?_
   refine then_normal (hK13 _ _ ?_)
   refine wp_cond_false (litEv (by kernel_rfl)) ?_
   refine wp_skip ?_
   refine then_normal (hK12 _ _ ?_)
   refine wp_seq_k fun K14 hK14 => ?_
   refine plStart ?_
   refine litVal (v := .agg (pcs p).toArray) rfl (wn rfl) (gLoadAg (vs := pcs p) (k := 0) 0 hm10 rfl (by kernel_rfl) (by kernel_rfl) (.tmp 2) Ty.ag_voxel_api_Point rfl (litEv (by kernel_rfl))) rfl (by decide) ?_
   refine plCall (i := 1) 57 [.agg (pcs p).toArray] [] [] rfl (by kernel_rfl) (wn rfl) rfl (litEv (by kernel_rfl)) (litArgs (by kernel_rfl)) (list_any p _) ?_
   rintro e w15 ⟨rfl, hbz⟩
   have hm16 := hm10.below hbz
   clear hbz hm10
   refine ⟨_, rfl, ?_⟩
   refine qP rfl ?_
   refine plAlloc (z := [.int .i64 0, .int .i64 0, .int .i64 0]) Ty.ag_3_int hm16 (i := 2) rfl (wn rfl) rfl ?_
   intro g17 w19 hm18
   clear hm16
   try simp only [List.cons_append, List.nil_append, List.set_cons_succ, List.set_cons_zero] at hm18
   refine qP rfl ?_
   refine plStore 2 Ty.ag_3_int hm18 rfl (i := 3) (cs := pcs p) rfl (wn rfl) rfl (litEv (by kernel_rfl)) (litEv (by kernel_rfl)) rfl rfl (by kernel_rfl) ?_
   intro w21 hm20
   clear hm18
   try simp only [List.cons_append, List.nil_append, List.set_cons_succ, List.set_cons_zero] at hm20
   refine qNone rfl ?_
   refine plD ?_
   refine then_normal (hK14 _ _ ?_)
   refine wp_seq_k fun K22 hK22 => ?_
   refine plStart ?_
   refine lk (v := .pointer (some ⟨g5, 0, none⟩)) rfl rfl rfl ?_
   refine litVal (v := .agg (pcs b.mn).toArray) rfl (wn rfl) (gLoadAg (vs := pcs b.mn) (k := 0) 1 hm20 rfl (by kernel_rfl) (by kernel_rfl) (.tmp 16) Ty.ag_voxel_api_Point rfl (litEv (by kernel_rfl))) rfl (by decide) ?_
   refine plCall (i := 2) 57 [.agg (pcs b.mn).toArray] [] [] rfl (by kernel_rfl) (wn rfl) rfl (litEv (by kernel_rfl)) (litArgs (by kernel_rfl)) (list_any b.mn _) ?_
   rintro e w23 ⟨rfl, hbz⟩
   have hm24 := hm20.below hbz
   clear hbz hm20
   refine ⟨_, rfl, ?_⟩
   refine qP rfl ?_
   refine plAlloc (z := [.int .i64 0, .int .i64 0, .int .i64 0]) Ty.ag_3_int hm24 (i := 3) rfl (wn rfl) rfl ?_
   intro g25 w27 hm26
   clear hm24
   try simp only [List.cons_append, List.nil_append, List.set_cons_succ, List.set_cons_zero] at hm26
   refine qP rfl ?_
   refine plStore 3 Ty.ag_3_int hm26 rfl (i := 4) (cs := pcs b.mn) rfl (wn rfl) rfl (litEv (by kernel_rfl)) (litEv (by kernel_rfl)) rfl rfl (by kernel_rfl) ?_
   intro w29 hm28
   clear hm26
   try simp only [List.cons_append, List.nil_append, List.set_cons_succ, List.set_cons_zero] at hm28
   refine qNone rfl ?_
   refine plD ?_
   refine then_normal (hK22 _ _ ?_)
   refine wp_seq_k fun K30 hK30 => ?_
   refine plStart ?_
   refine lk (v := .pointer (some ⟨g5, 3, none⟩)) rfl rfl rfl ?_
   refine litVal (v := .agg (pcs b.mx).toArray) rfl (wn rfl) (gLoadAg (vs := pcs b.mx) (k := 3) 1 hm28 rfl (by kernel_rfl) (by kernel_rfl) (.tmp 19) Ty.ag_voxel_api_Point rfl (litEv (by kernel_rfl))) rfl (by decide) ?_
   refine plCall (i := 2) 57 [.agg (pcs b.mx).toArray] [] [] rfl (by kernel_rfl) (wn rfl) rfl (litEv (by kernel_rfl)) (litArgs (by kernel_rfl)) (list_any b.mx _) ?_
   rintro e w31 ⟨rfl, hbz⟩
   have hm32 := hm28.below hbz
   clear hbz hm28
   refine ⟨_, rfl, ?_⟩
   refine qP rfl ?_
   refine plAlloc (z := [.int .i64 0, .int .i64 0, .int .i64 0]) Ty.ag_3_int hm32 (i := 3) rfl (wn rfl) rfl ?_
   intro g33 w35 hm34
   clear hm32
   try simp only [List.cons_append, List.nil_append, List.set_cons_succ, List.set_cons_zero] at hm34
   refine qP rfl ?_
   refine plStore 4 Ty.ag_3_int hm34 rfl (i := 4) (cs := pcs b.mx) rfl (wn rfl) rfl (litEv (by kernel_rfl)) (litEv (by kernel_rfl)) rfl rfl (by kernel_rfl) ?_
   intro w37 hm36
   clear hm34
   try simp only [List.cons_append, List.nil_append, List.set_cons_succ, List.set_cons_zero] at hm36
   refine qNone rfl ?_
   refine plD ?_
   refine then_normal (hK30 _ _ ?_)
   refine wpPrune [(4, .int .i64 0), (6, .pointer (some ⟨g17, 0, none⟩)), (7, .pointer (some ⟨g25, 0, none⟩)), (8, .pointer (some ⟨g33, 0, none⟩))] ⟨litGet (by kernel_rfl), ⟨litGet (by kernel_rfl), ⟨litGet (by kernel_rfl), ⟨litGet (by kernel_rfl), trivial⟩⟩⟩⟩ (fun X38 => ?_)
   refine wp_seq_k fun K39 hK39 => ?_
   refine plStart ?_
   refine lk (v := .int .i64 0) rfl rfl rfl ?_
   refine plD ?_
   refine then_normal (hK39 _ _ ?_)
   refine wp_seq_k fun K40 hK40 => ?_
   refine wp_seq_k fun K41 hK41 => ?_
   refine plStart ?_
   refine lk (v := .int .i64 0) rfl rfl rfl ?_
   refine plD ?_
   refine then_normal (hK41 _ _ ?_)
   refine wp_block ?_
   refine roundsStart 3 ?_
   refine wp_seq_k fun K42 hK42 => ?_
   refine wp_seq_k fun K43 hK43 => ?_
   refine plStart ?_
   refine lk (v := .int .i64 0) rfl rfl rfl ?_
   refine lk (v := .bool true) rfl rfl rfl ?_
   refine plD ?_
   refine then_normal (hK43 _ _ ?_)
   refine wp_cond_true (litEv (by kernel_rfl)) ?_
   refine wp_skip ?_
   refine then_normal (hK42 _ _ ?_)
   refine wp_seq_k fun K44 hK44 => ?_
   refine wp_block ?_
   refine mgStart hm36 (by kernel_rfl) ?_
   intro w46 hm45
   clear hm36
   refine mk_ (i := 0) (v := .int .i64 0) rfl rfl (fun _ _ _ h => h) hm45 rfl ?_
   refine mk_ (i := 1) (v := .int .i64 0) rfl rfl (fun _ _ _ h => h) hm45 rfl ?_
   refine mgTake (i := 2) (v := .pointer (some ⟨g25, 0, none⟩)) rfl (by kernel_rfl) (wn rfl) (fun _ _ _ h => h) hm45 (fun w_ h_ => iaRun (b := g25) (off := 0) (s := 1) (n := 3) (kk := .i64) (.tmp 7) (.tmp 27) 0 Ty.und_3_int (by kernel_rfl) rfl (litEv (by kernel_rfl)) (litEv (by kernel_rfl)) rfl (by decide)) ?_
   refine mP rfl ?_
   refine mgTake (i := 3) (v := .int .i64 b.mn.x) rfl (by kernel_rfl) (wn rfl) (fun _ _ _ h => h) hm45 (fun w_ h_ => gLoad (v := .int .i64 b.mn.x) (k := 0) 3 h_ rfl (by kernel_rfl) (.tmp 28) (by kernel_rfl) rfl (litEv (by kernel_rfl))) ?_
   refine mP rfl ?_
   refine mk_ (i := 4) (v := .int .i64 0) rfl rfl (fun _ _ _ h => h) hm45 rfl ?_
   refine mgTake (i := 5) (v := .pointer (some ⟨g17, 0, none⟩)) rfl (by kernel_rfl) (wn rfl) (fun _ _ _ h => h) hm45 (fun w_ h_ => iaRun (b := g17) (off := 0) (s := 1) (n := 3) (kk := .i64) (.tmp 6) (.tmp 30) 0 Ty.und_3_int (by kernel_rfl) rfl (litEv (by kernel_rfl)) (litEv (by kernel_rfl)) rfl (by decide)) ?_
   refine mP rfl ?_
   refine mgTake (i := 6) (v := .int .i64 p.x) rfl (by kernel_rfl) (wn rfl) (fun _ _ _ h => h) hm45 (fun w_ h_ => gLoad (v := .int .i64 p.x) (k := 0) 2 h_ rfl (by kernel_rfl) (.tmp 31) (by kernel_rfl) rfl (litEv (by kernel_rfl))) ?_
   refine mP rfl ?_
   refine mgTake (i := 7) (v := .int .i64 (b.mn.x - p.x)) rfl (by kernel_rfl) (wn rfl) (fun _ _ _ h => h) hm45 (fun w_ h_ => subRun (A := b.mn.x) (B := p.x) (C := b.mn.x - p.x) (.tmp 29) (.tmp 32) rfl (litEv (by kernel_rfl)) (litEv (by kernel_rfl)) rfl (by omega)) ?_
   refine mP rfl ?_
   refine mk_ (i := 8) (v := .int .i64 0) rfl rfl (fun _ _ _ h => h) hm45 rfl ?_
   refine mgTake (i := 9) (v := .pointer (some ⟨g17, 0, none⟩)) rfl (by kernel_rfl) (wn rfl) (fun _ _ _ h => h) hm45 (fun w_ h_ => iaRun (b := g17) (off := 0) (s := 1) (n := 3) (kk := .i64) (.tmp 6) (.tmp 34) 0 Ty.und_3_int (by kernel_rfl) rfl (litEv (by kernel_rfl)) (litEv (by kernel_rfl)) rfl (by decide)) ?_
   refine mP rfl ?_
   refine mgTake (i := 10) (v := .int .i64 p.x) rfl (by kernel_rfl) (wn rfl) (fun _ _ _ h => h) hm45 (fun w_ h_ => gLoad (v := .int .i64 p.x) (k := 0) 2 h_ rfl (by kernel_rfl) (.tmp 35) (by kernel_rfl) rfl (litEv (by kernel_rfl))) ?_
   refine mP rfl ?_
   refine mk_ (i := 11) (v := .int .i64 0) rfl rfl (fun _ _ _ h => h) hm45 rfl ?_
   refine mgTake (i := 12) (v := .pointer (some ⟨g33, 0, none⟩)) rfl (by kernel_rfl) (wn rfl) (fun _ _ _ h => h) hm45 (fun w_ h_ => iaRun (b := g33) (off := 0) (s := 1) (n := 3) (kk := .i64) (.tmp 8) (.tmp 37) 0 Ty.und_3_int (by kernel_rfl) rfl (litEv (by kernel_rfl)) (litEv (by kernel_rfl)) rfl (by decide)) ?_
   refine mP rfl ?_
   refine mgTake (i := 13) (v := .int .i64 b.mx.x) rfl (by kernel_rfl) (wn rfl) (fun _ _ _ h => h) hm45 (fun w_ h_ => gLoad (v := .int .i64 b.mx.x) (k := 0) 4 h_ rfl (by kernel_rfl) (.tmp 38) (by kernel_rfl) rfl (litEv (by kernel_rfl))) ?_
   refine mP rfl ?_
   refine mgTake (i := 14) (v := .int .i64 (p.x - b.mx.x)) rfl (by kernel_rfl) (wn rfl) (fun _ _ _ h => h) hm45 (fun w_ h_ => subRun (A := p.x) (B := b.mx.x) (C := p.x - b.mx.x) (.tmp 36) (.tmp 39) rfl (litEv (by kernel_rfl)) (litEv (by kernel_rfl)) rfl (by omega)) ?_
   refine mP rfl ?_
   refine mgTake (i := 15) (v := .int .i64 (max (max 0 (b.mn.x - p.x)) (p.x - b.mx.x))) rfl (by kernel_rfl) (wn rfl) (fun _ _ _ h => h) hm45 (fun w_ h_ => gMax3 (.tmp 26) (.tmp 33) (.tmp 40) rfl (litEv (by kernel_rfl)) (litEv (by kernel_rfl)) (litEv (by kernel_rfl))) ?_
   refine mP rfl ?_
   refine mk_ (i := 16) (v := .int .i64 (max (max 0 (b.mn.x - p.x)) (p.x - b.mx.x))) rfl rfl (fun _ _ _ h => h) hm45 rfl ?_
   refine mgDone (by kernel_rfl) ?_
   refine inBlock_normal ?_
   refine then_normal (hK44 _ _ ?_)
   refine plStart ?_
   refine lk (v := .int .i64 0) rfl rfl rfl ?_
   refine lk (v := .int .i64 1) rfl rfl rfl ?_
   refine lk (v := .int .i64 1) rfl rfl rfl ?_
   refine plD ?_
   refine then_normal (roundsNext ?_)
   refine wp_seq_k fun K47 hK47 => ?_
   refine wp_seq_k fun K48 hK48 => ?_
   refine plStart ?_
   refine lk (v := .int .i64 1) rfl rfl rfl ?_
   refine lk (v := .bool true) rfl rfl rfl ?_
   refine plD ?_
   refine then_normal (hK48 _ _ ?_)
   refine wp_cond_true (litEv (by kernel_rfl)) ?_
   refine wp_skip ?_
   refine then_normal (hK47 _ _ ?_)
   refine wp_seq_k fun K49 hK49 => ?_
   refine wp_block ?_
   refine mgStart hm45 (by kernel_rfl) ?_
   intro w51 hm50
   clear hm45
   refine mk_ (i := 0) (v := .int .i64 (max (max 0 (b.mn.x - p.x)) (p.x - b.mx.x))) rfl rfl (fun _ _ _ h => h) hm50 rfl ?_
   refine mk_ (i := 1) (v := .int .i64 1) rfl rfl (fun _ _ _ h => h) hm50 rfl ?_
   refine mgTake (i := 2) (v := .pointer (some ⟨g25, 1, none⟩)) rfl (by kernel_rfl) (wn rfl) (fun _ _ _ h => h) hm50 (fun w_ h_ => iaRun (b := g25) (off := 0) (s := 1) (n := 3) (kk := .i64) (.tmp 7) (.tmp 27) 1 Ty.und_3_int (by kernel_rfl) rfl (litEv (by kernel_rfl)) (litEv (by kernel_rfl)) rfl (by decide)) ?_
   refine mP rfl ?_
   refine mgTake (i := 3) (v := .int .i64 b.mn.y) rfl (by kernel_rfl) (wn rfl) (fun _ _ _ h => h) hm50 (fun w_ h_ => gLoad (v := .int .i64 b.mn.y) (k := 1) 3 h_ rfl (by kernel_rfl) (.tmp 28) (by kernel_rfl) rfl (litEv (by kernel_rfl))) ?_
   refine mP rfl ?_
   refine mk_ (i := 4) (v := .int .i64 1) rfl rfl (fun _ _ _ h => h) hm50 rfl ?_
   refine mgTake (i := 5) (v := .pointer (some ⟨g17, 1, none⟩)) rfl (by kernel_rfl) (wn rfl) (fun _ _ _ h => h) hm50 (fun w_ h_ => iaRun (b := g17) (off := 0) (s := 1) (n := 3) (kk := .i64) (.tmp 6) (.tmp 30) 1 Ty.und_3_int (by kernel_rfl) rfl (litEv (by kernel_rfl)) (litEv (by kernel_rfl)) rfl (by decide)) ?_
   refine mP rfl ?_
   refine mgTake (i := 6) (v := .int .i64 p.y) rfl (by kernel_rfl) (wn rfl) (fun _ _ _ h => h) hm50 (fun w_ h_ => gLoad (v := .int .i64 p.y) (k := 1) 2 h_ rfl (by kernel_rfl) (.tmp 31) (by kernel_rfl) rfl (litEv (by kernel_rfl))) ?_
   refine mP rfl ?_
   refine mgTake (i := 7) (v := .int .i64 (b.mn.y - p.y)) rfl (by kernel_rfl) (wn rfl) (fun _ _ _ h => h) hm50 (fun w_ h_ => subRun (A := b.mn.y) (B := p.y) (C := b.mn.y - p.y) (.tmp 29) (.tmp 32) rfl (litEv (by kernel_rfl)) (litEv (by kernel_rfl)) rfl (by omega)) ?_
   refine mP rfl ?_
   refine mk_ (i := 8) (v := .int .i64 1) rfl rfl (fun _ _ _ h => h) hm50 rfl ?_
   refine mgTake (i := 9) (v := .pointer (some ⟨g17, 1, none⟩)) rfl (by kernel_rfl) (wn rfl) (fun _ _ _ h => h) hm50 (fun w_ h_ => iaRun (b := g17) (off := 0) (s := 1) (n := 3) (kk := .i64) (.tmp 6) (.tmp 34) 1 Ty.und_3_int (by kernel_rfl) rfl (litEv (by kernel_rfl)) (litEv (by kernel_rfl)) rfl (by decide)) ?_
   refine mP rfl ?_
   refine mgTake (i := 10) (v := .int .i64 p.y) rfl (by kernel_rfl) (wn rfl) (fun _ _ _ h => h) hm50 (fun w_ h_ => gLoad (v := .int .i64 p.y) (k := 1) 2 h_ rfl (by kernel_rfl) (.tmp 35) (by kernel_rfl) rfl (litEv (by kernel_rfl))) ?_
   refine mP rfl ?_
   refine mk_ (i := 11) (v := .int .i64 1) rfl rfl (fun _ _ _ h => h) hm50 rfl ?_
   refine mgTake (i := 12) (v := .pointer (some ⟨g33, 1, none⟩)) rfl (by kernel_rfl) (wn rfl) (fun _ _ _ h => h) hm50 (fun w_ h_ => iaRun (b := g33) (off := 0) (s := 1) (n := 3) (kk := .i64) (.tmp 8) (.tmp 37) 1 Ty.und_3_int (by kernel_rfl) rfl (litEv (by kernel_rfl)) (litEv (by kernel_rfl)) rfl (by decide)) ?_
   refine mP rfl ?_
   refine mgTake (i := 13) (v := .int .i64 b.mx.y) rfl (by kernel_rfl) (wn rfl) (fun _ _ _ h => h) hm50 (fun w_ h_ => gLoad (v := .int .i64 b.mx.y) (k := 1) 4 h_ rfl (by kernel_rfl) (.tmp 38) (by kernel_rfl) rfl (litEv (by kernel_rfl))) ?_
   refine mP rfl ?_
   refine mgTake (i := 14) (v := .int .i64 (p.y - b.mx.y)) rfl (by kernel_rfl) (wn rfl) (fun _ _ _ h => h) hm50 (fun w_ h_ => subRun (A := p.y) (B := b.mx.y) (C := p.y - b.mx.y) (.tmp 36) (.tmp 39) rfl (litEv (by kernel_rfl)) (litEv (by kernel_rfl)) rfl (by omega)) ?_
   refine mP rfl ?_
   refine mgTake (i := 15) (v := .int .i64 (max (max (max (max 0 (b.mn.x - p.x)) (p.x - b.mx.x)) (b.mn.y - p.y)) (p.y - b.mx.y))) rfl (by kernel_rfl) (wn rfl) (fun _ _ _ h => h) hm50 (fun w_ h_ => gMax3 (.tmp 26) (.tmp 33) (.tmp 40) rfl (litEv (by kernel_rfl)) (litEv (by kernel_rfl)) (litEv (by kernel_rfl))) ?_
   refine mP rfl ?_
   refine mk_ (i := 16) (v := .int .i64 (max (max (max (max 0 (b.mn.x - p.x)) (p.x - b.mx.x)) (b.mn.y - p.y)) (p.y - b.mx.y))) rfl rfl (fun _ _ _ h => h) hm50 rfl ?_
   refine mgDone (by kernel_rfl) ?_
   refine inBlock_normal ?_
   refine then_normal (hK49 _ _ ?_)
   refine wpPrune [(4, .int .i64 0), (6, .pointer (some ⟨g17, 0, none⟩)), (7, .pointer (some ⟨g25, 0, none⟩)), (8, .pointer (some ⟨g33, 0, none⟩)), (9, .int .i64 (max (max (max (max 0 (b.mn.x - p.x)) (p.x - b.mx.x)) (b.mn.y - p.y)) (p.y - b.mx.y))), (10, .int .i64 1), (22, .int .i64 1), (23, .bool true), (24, .int .i64 0), (25, .int .i64 1), (26, .int .i64 (max (max 0 (b.mn.x - p.x)) (p.x - b.mx.x))), (27, .int .i64 1), (28, .pointer (some ⟨g25, 1, none⟩)), (29, .int .i64 b.mn.y), (30, .int .i64 1), (31, .pointer (some ⟨g17, 1, none⟩)), (32, .int .i64 p.y), (33, .int .i64 (b.mn.y - p.y)), (34, .int .i64 1), (35, .pointer (some ⟨g17, 1, none⟩)), (36, .int .i64 p.y), (37, .int .i64 1), (38, .pointer (some ⟨g33, 1, none⟩)), (39, .int .i64 b.mx.y), (40, .int .i64 (p.y - b.mx.y)), (41, .int .i64 (max (max (max (max 0 (b.mn.x - p.x)) (p.x - b.mx.x)) (b.mn.y - p.y)) (p.y - b.mx.y)))] ⟨litGet (by kernel_rfl), ⟨litGet (by kernel_rfl), ⟨litGet (by kernel_rfl), ⟨litGet (by kernel_rfl), ⟨litGet (by kernel_rfl), ⟨litGet (by kernel_rfl), ⟨litGet (by kernel_rfl), ⟨litGet (by kernel_rfl), ⟨litGet (by kernel_rfl), ⟨litGet (by kernel_rfl), ⟨litGet (by kernel_rfl), ⟨litGet (by kernel_rfl), ⟨litGet (by kernel_rfl), ⟨litGet (by kernel_rfl), ⟨litGet (by kernel_rfl), ⟨litGet (by kernel_rfl), ⟨litGet (by kernel_rfl), ⟨litGet (by kernel_rfl), ⟨litGet (by kernel_rfl), ⟨litGet (by kernel_rfl), ⟨litGet (by kernel_rfl), ⟨litGet (by kernel_rfl), ⟨litGet (by kernel_rfl), ⟨litGet (by kernel_rfl), ⟨litGet (by kernel_rfl), ⟨litGet (by kernel_rfl), trivial⟩⟩⟩⟩⟩⟩⟩⟩⟩⟩⟩⟩⟩⟩⟩⟩⟩⟩⟩⟩⟩⟩⟩⟩⟩⟩ (fun X52 => ?_)
   refine plStart ?_
   refine lk (v := .int .i64 1) rfl rfl rfl ?_
   refine lk (v := .int .i64 2) rfl rfl rfl ?_
   refine lk (v := .int .i64 2) rfl rfl rfl ?_
   refine plD ?_
   refine then_normal (roundsNext ?_)
   refine wp_seq_k fun K53 hK53 => ?_
   refine wp_seq_k fun K54 hK54 => ?_
   refine plStart ?_
   refine lk (v := .int .i64 2) rfl rfl rfl ?_
   refine lk (v := .bool true) rfl rfl rfl ?_
   refine plD ?_
   refine then_normal (hK54 _ _ ?_)
   refine wp_cond_true (litEv (by kernel_rfl)) ?_
   refine wp_skip ?_
   refine then_normal (hK53 _ _ ?_)
   refine wp_seq_k fun K55 hK55 => ?_
   refine wp_block ?_
   refine mgStart hm50 (by kernel_rfl) ?_
   intro w57 hm56
   clear hm50
   refine mk_ (i := 0) (v := .int .i64 (max (max (max (max 0 (b.mn.x - p.x)) (p.x - b.mx.x)) (b.mn.y - p.y)) (p.y - b.mx.y))) rfl rfl (fun _ _ _ h => h) hm56 rfl ?_
   refine mk_ (i := 1) (v := .int .i64 2) rfl rfl (fun _ _ _ h => h) hm56 rfl ?_
   refine mgTake (i := 2) (v := .pointer (some ⟨g25, 2, none⟩)) rfl (by kernel_rfl) (wn rfl) (fun _ _ _ h => h) hm56 (fun w_ h_ => iaRun (b := g25) (off := 0) (s := 1) (n := 3) (kk := .i64) (.tmp 7) (.tmp 27) 2 Ty.und_3_int (by kernel_rfl) rfl (litEv (by kernel_rfl)) (litEv (by kernel_rfl)) rfl (by decide)) ?_
   refine mP rfl ?_
   refine mgTake (i := 3) (v := .int .i64 b.mn.z) rfl (by kernel_rfl) (wn rfl) (fun _ _ _ h => h) hm56 (fun w_ h_ => gLoad (v := .int .i64 b.mn.z) (k := 2) 3 h_ rfl (by kernel_rfl) (.tmp 28) (by kernel_rfl) rfl (litEv (by kernel_rfl))) ?_
   refine mP rfl ?_
   refine mk_ (i := 4) (v := .int .i64 2) rfl rfl (fun _ _ _ h => h) hm56 rfl ?_
   refine mgTake (i := 5) (v := .pointer (some ⟨g17, 2, none⟩)) rfl (by kernel_rfl) (wn rfl) (fun _ _ _ h => h) hm56 (fun w_ h_ => iaRun (b := g17) (off := 0) (s := 1) (n := 3) (kk := .i64) (.tmp 6) (.tmp 30) 2 Ty.und_3_int (by kernel_rfl) rfl (litEv (by kernel_rfl)) (litEv (by kernel_rfl)) rfl (by decide)) ?_
   refine mP rfl ?_
   refine mgTake (i := 6) (v := .int .i64 p.z) rfl (by kernel_rfl) (wn rfl) (fun _ _ _ h => h) hm56 (fun w_ h_ => gLoad (v := .int .i64 p.z) (k := 2) 2 h_ rfl (by kernel_rfl) (.tmp 31) (by kernel_rfl) rfl (litEv (by kernel_rfl))) ?_
   refine mP rfl ?_
   refine mgTake (i := 7) (v := .int .i64 (b.mn.z - p.z)) rfl (by kernel_rfl) (wn rfl) (fun _ _ _ h => h) hm56 (fun w_ h_ => subRun (A := b.mn.z) (B := p.z) (C := b.mn.z - p.z) (.tmp 29) (.tmp 32) rfl (litEv (by kernel_rfl)) (litEv (by kernel_rfl)) rfl (by omega)) ?_
   refine mP rfl ?_
   refine mk_ (i := 8) (v := .int .i64 2) rfl rfl (fun _ _ _ h => h) hm56 rfl ?_
   refine mgTake (i := 9) (v := .pointer (some ⟨g17, 2, none⟩)) rfl (by kernel_rfl) (wn rfl) (fun _ _ _ h => h) hm56 (fun w_ h_ => iaRun (b := g17) (off := 0) (s := 1) (n := 3) (kk := .i64) (.tmp 6) (.tmp 34) 2 Ty.und_3_int (by kernel_rfl) rfl (litEv (by kernel_rfl)) (litEv (by kernel_rfl)) rfl (by decide)) ?_
   refine mP rfl ?_
   refine mgTake (i := 10) (v := .int .i64 p.z) rfl (by kernel_rfl) (wn rfl) (fun _ _ _ h => h) hm56 (fun w_ h_ => gLoad (v := .int .i64 p.z) (k := 2) 2 h_ rfl (by kernel_rfl) (.tmp 35) (by kernel_rfl) rfl (litEv (by kernel_rfl))) ?_
   refine mP rfl ?_
   refine mk_ (i := 11) (v := .int .i64 2) rfl rfl (fun _ _ _ h => h) hm56 rfl ?_
   refine mgTake (i := 12) (v := .pointer (some ⟨g33, 2, none⟩)) rfl (by kernel_rfl) (wn rfl) (fun _ _ _ h => h) hm56 (fun w_ h_ => iaRun (b := g33) (off := 0) (s := 1) (n := 3) (kk := .i64) (.tmp 8) (.tmp 37) 2 Ty.und_3_int (by kernel_rfl) rfl (litEv (by kernel_rfl)) (litEv (by kernel_rfl)) rfl (by decide)) ?_
   refine mP rfl ?_
   refine mgTake (i := 13) (v := .int .i64 b.mx.z) rfl (by kernel_rfl) (wn rfl) (fun _ _ _ h => h) hm56 (fun w_ h_ => gLoad (v := .int .i64 b.mx.z) (k := 2) 4 h_ rfl (by kernel_rfl) (.tmp 38) (by kernel_rfl) rfl (litEv (by kernel_rfl))) ?_
   refine mP rfl ?_
   refine mgTake (i := 14) (v := .int .i64 (p.z - b.mx.z)) rfl (by kernel_rfl) (wn rfl) (fun _ _ _ h => h) hm56 (fun w_ h_ => subRun (A := p.z) (B := b.mx.z) (C := p.z - b.mx.z) (.tmp 36) (.tmp 39) rfl (litEv (by kernel_rfl)) (litEv (by kernel_rfl)) rfl (by omega)) ?_
   refine mP rfl ?_
   refine mgTake (i := 15) (v := .int .i64 (max (max (max (max (max (max 0 (b.mn.x - p.x)) (p.x - b.mx.x)) (b.mn.y - p.y)) (p.y - b.mx.y)) (b.mn.z - p.z)) (p.z - b.mx.z))) rfl (by kernel_rfl) (wn rfl) (fun _ _ _ h => h) hm56 (fun w_ h_ => gMax3 (.tmp 26) (.tmp 33) (.tmp 40) rfl (litEv (by kernel_rfl)) (litEv (by kernel_rfl)) (litEv (by kernel_rfl))) ?_
   refine mP rfl ?_
   refine mk_ (i := 16) (v := .int .i64 (max (max (max (max (max (max 0 (b.mn.x - p.x)) (p.x - b.mx.x)) (b.mn.y - p.y)) (p.y - b.mx.y)) (b.mn.z - p.z)) (p.z - b.mx.z))) rfl rfl (fun _ _ _ h => h) hm56 rfl ?_
   refine mgDone (by kernel_rfl) ?_
   refine inBlock_normal ?_
   refine then_normal (hK55 _ _ ?_)
   refine wpPrune [(4, .int .i64 0), (6, .pointer (some ⟨g17, 0, none⟩)), (7, .pointer (some ⟨g25, 0, none⟩)), (8, .pointer (some ⟨g33, 0, none⟩)), (9, .int .i64 (max (max (max (max (max (max 0 (b.mn.x - p.x)) (p.x - b.mx.x)) (b.mn.y - p.y)) (p.y - b.mx.y)) (b.mn.z - p.z)) (p.z - b.mx.z))), (10, .int .i64 2), (22, .int .i64 2), (23, .bool true), (24, .int .i64 1), (25, .int .i64 2), (26, .int .i64 (max (max (max (max 0 (b.mn.x - p.x)) (p.x - b.mx.x)) (b.mn.y - p.y)) (p.y - b.mx.y))), (27, .int .i64 2), (28, .pointer (some ⟨g25, 2, none⟩)), (29, .int .i64 b.mn.z), (30, .int .i64 2), (31, .pointer (some ⟨g17, 2, none⟩)), (32, .int .i64 p.z), (33, .int .i64 (b.mn.z - p.z)), (34, .int .i64 2), (35, .pointer (some ⟨g17, 2, none⟩)), (36, .int .i64 p.z), (37, .int .i64 2), (38, .pointer (some ⟨g33, 2, none⟩)), (39, .int .i64 b.mx.z), (40, .int .i64 (p.z - b.mx.z)), (41, .int .i64 (max (max (max (max (max (max 0 (b.mn.x - p.x)) (p.x - b.mx.x)) (b.mn.y - p.y)) (p.y - b.mx.y)) (b.mn.z - p.z)) (p.z - b.mx.z)))] ⟨litGet (by kernel_rfl), ⟨litGet (by kernel_rfl), ⟨litGet (by kernel_rfl), ⟨litGet (by kernel_rfl), ⟨litGet (by kernel_rfl), ⟨litGet (by kernel_rfl), ⟨litGet (by kernel_rfl), ⟨litGet (by kernel_rfl), ⟨litGet (by kernel_rfl), ⟨litGet (by kernel_rfl), ⟨litGet (by kernel_rfl), ⟨litGet (by kernel_rfl), ⟨litGet (by kernel_rfl), ⟨litGet (by kernel_rfl), ⟨litGet (by kernel_rfl), ⟨litGet (by kernel_rfl), ⟨litGet (by kernel_rfl), ⟨litGet (by kernel_rfl), ⟨litGet (by kernel_rfl), ⟨litGet (by kernel_rfl), ⟨litGet (by kernel_rfl), ⟨litGet (by kernel_rfl), ⟨litGet (by kernel_rfl), ⟨litGet (by kernel_rfl), ⟨litGet (by kernel_rfl), ⟨litGet (by kernel_rfl), trivial⟩⟩⟩⟩⟩⟩⟩⟩⟩⟩⟩⟩⟩⟩⟩⟩⟩⟩⟩⟩⟩⟩⟩⟩⟩⟩ (fun X58 => ?_)
   refine plStart ?_
   refine lk (v := .int .i64 2) rfl rfl rfl ?_
   refine lk (v := .int .i64 3) rfl rfl rfl ?_
   refine lk (v := .int .i64 3) rfl rfl rfl ?_
   refine plD ?_
   refine then_normal (roundsNext ?_)
   refine wp_seq_k fun K59 hK59 => ?_
   refine wp_seq_k fun K60 hK60 => ?_
   refine plStart ?_
   refine lk (v := .int .i64 3) rfl rfl rfl ?_
   refine lk (v := .bool false) rfl rfl rfl ?_
   refine plD ?_
   refine then_normal (hK60 _ _ ?_)
   refine wp_cond_false (litEv (by kernel_rfl)) ?_
   refine wp_exit ?_
   refine then_exit ?_
   refine then_exit ?_
   refine inBlock_exit ?_
   refine then_normal (hK40 _ _ ?_)
   refine wpPrune [(4, .int .i64 0), (9, .int .i64 (max (max (max (max (max (max 0 (b.mn.x - p.x)) (p.x - b.mx.x)) (b.mn.y - p.y)) (p.y - b.mx.y)) (b.mn.z - p.z)) (p.z - b.mx.z)))] ⟨litGet (by kernel_rfl), ⟨litGet (by kernel_rfl), trivial⟩⟩ (fun X61 => ?_)
   refine wp_seq_k fun K62 hK62 => ?_
   refine plStart ?_
   refine lk (v := .int .i64 (max (max (max (max (max (max 0 (b.mn.x - p.x)) (p.x - b.mx.x)) (b.mn.y - p.y)) (p.y - b.mx.y)) (b.mn.z - p.z)) (p.z - b.mx.z))) rfl rfl rfl ?_
   refine lk (v := .int .i64 (max (max (max (max (max (max 0 (b.mn.x - p.x)) (p.x - b.mx.x)) (b.mn.y - p.y)) (p.y - b.mx.y)) (b.mn.z - p.z)) (p.z - b.mx.z))) rfl rfl rfl ?_
   refine plD ?_
   refine then_normal (hK62 _ _ ?_)
   refine wp_ret ?_
   refine bodyPost_ret (v := .int .i64 (max (max (max (max (max (max 0 (b.mn.x - p.x)) (p.x - b.mx.x)) (b.mn.y - p.y)) (p.y - b.mx.y)) (b.mn.z - p.z)) (p.z - b.mx.z))) (gRes1 rfl (gResTmp (t := 4) (v := .int .i64 (max (max (max (max (max (max 0 (b.mn.x - p.x)) (p.x - b.mx.x)) (b.mn.y - p.y)) (p.y - b.mx.y)) (b.mn.z - p.z)) (p.z - b.mx.z))) (litGet (by kernel_rfl)))) rfl ?_
   exact ⟨congrArg (fun n_ => Ending.returned (.int .i64 n_)) (show max (max (max (max (max (max 0 (b.mn.x - p.x)) (p.x - b.mx.x)) (b.mn.y - p.y)) (p.y - b.mx.y)) (b.mn.z - p.z)) (p.z - b.mx.z) = nearB p b by unfold nearB; rw [if_neg (of_decide_eq_false h11)]; omega), hm56.bel⟩
 rw [h11]
 refine lk (v := .bool true) rfl rfl rfl ?_
 refine plD ?_
 refine then_normal (hK8 _ _ ?_)
 refine wp_seq_k fun K63 hK63 => ?_
 refine wp_seq_k fun K64 hK64 => ?_
 refine plStart ?_
 refine lk (v := .bool true) rfl rfl rfl ?_
 refine plD ?_
 refine then_normal (hK64 _ _ ?_)
 refine wp_cond_true (litEv (by kernel_rfl)) ?_
 refine wp_seq_k fun K65 hK65 => ?_
 refine plStart ?_
 refine lk (v := .int .i64 (-1)) rfl rfl rfl ?_
 refine plD ?_
 refine then_normal (hK65 _ _ ?_)
 refine wp_ret ?_
 refine then_ret ?_
 refine bodyPost_ret (v := .int .i64 (-1)) (gRes1 rfl (gResTmp (t := 4) (v := .int .i64 (-1)) (litGet (by kernel_rfl)))) rfl ?_
 exact ⟨congrArg (fun n_ => Ending.returned (.int .i64 n_)) (show -1 = nearB p b by unfold nearB; rw [if_pos (of_decide_eq_true h11)]), hm10.bel⟩
set_option maxRecDepth 100000 in
set_option maxHeartbeats 4000000 in
theorem err_any (v : Vw) (t : Tl) (hv : ckV v = 0) (h : t.Ok) (w : World) : Calls Try.prog 14 #[.agg (vwc v).toArray, .agg (tlc t).toArray] w (RetV w (.int .i64 (err v t))) := by
 have hck_ := ckV_ok hv
 have hrg_ := hck_.1
 unfold Pt.rng at hrg_
 have hs_ := side_bd h.lv
 have hin_ := h.inP
 unfold Pt.In at hin_
 have hsc_ := sc_bd hv h.lv
 have hl_ := h.lv
 have hp2_ := pow12 h.lv
 have hp : (-1073741824 ≤ v.p.x ∧ v.p.x ≤ 1073741824) ∧ (-1073741824 ≤ v.p.y ∧ v.p.y ≤ 1073741824) ∧ (-1073741824 ≤ v.p.z ∧ v.p.z ≤ 1073741824) := by omega
 have hb : ((-1073741824 ≤ t.box.mn.x ∧ t.box.mn.x ≤ 1073741824) ∧ (-1073741824 ≤ t.box.mn.y ∧ t.box.mn.y ≤ 1073741824) ∧ (-1073741824 ≤ t.box.mn.z ∧ t.box.mn.z ≤ 1073741824)) ∧ ((-1073741824 ≤ t.box.mx.x ∧ t.box.mx.x ≤ 1073741824) ∧ (-1073741824 ≤ t.box.mx.y ∧ t.box.mx.y ≤ 1073741824) ∧ (-1073741824 ≤ t.box.mx.z ∧ t.box.mx.z ≤ 1073741824)) := by unfold Tl.box Bx.shift cubeB Pt.add; simp only; omega
 have hm0 := Mem.nil w
 go_enter Try.func14, Try.ntmps14
 refine litStart 17 [(0, .agg (vwc v).toArray), (1, .agg (tlc t).toArray)] (by kernel_rfl) (fun X0 => ?_)
 refine wp_seq_k fun K1 hK1 => ?_
 refine plStart ?_
 refine plBox hm0 (cs := vwc v) (i := 0) rfl (wn rfl) rfl (litEv (by kernel_rfl)) ?_
 intro g2 w4 hm3
 clear hm0
 try simp only [List.cons_append, List.nil_append, List.set_cons_succ, List.set_cons_zero] at hm3
 refine qP rfl ?_
 refine plBox hm3 (cs := tlc t) (i := 1) rfl (wn rfl) rfl (litEv (by kernel_rfl)) ?_
 intro g5 w7 hm6
 clear hm3
 try simp only [List.cons_append, List.nil_append, List.set_cons_succ, List.set_cons_zero] at hm6
 refine qP rfl ?_
 refine lk (v := .int .i64 0) rfl rfl rfl ?_
 refine plD ?_
 refine then_normal (hK1 _ _ ?_)
 refine wp_seq_k fun K8 hK8 => ?_
 refine mgStart hm6 (by kernel_rfl) ?_
 intro w10 hm9
 clear hm6
 refine mk_ (i := 0) (v := .pointer (some ⟨g2, 3, none⟩)) rfl rfl (fun _ _ _ h => h) hm9 rfl ?_
 refine mgTake (i := 1) (v := .int .i64 v.sc) rfl (by kernel_rfl) (wn rfl) (fun _ _ _ h => h) hm9 (fun w_ h_ => gLoad (v := .int .i64 v.sc) (k := 3) 0 h_ rfl (by kernel_rfl) (.tmp 5) (by kernel_rfl) rfl (litEv (by kernel_rfl))) ?_
 refine mP rfl ?_
 refine mk_ (i := 2) (v := .pointer (some ⟨g5, 0, none⟩)) rfl rfl (fun _ _ _ h => h) hm9 rfl ?_
 refine mgTake (i := 3) (v := .int .i64 t.lv) rfl (by kernel_rfl) (wn rfl) (fun _ _ _ h => h) hm9 (fun w_ h_ => gLoad (v := .int .i64 t.lv) (k := 0) 1 h_ rfl (by kernel_rfl) (.tmp 7) (by kernel_rfl) rfl (litEv (by kernel_rfl))) ?_
 refine mP rfl ?_
 refine mgTake (i := 4) (v := .int .i64 (v.sc * 2 ^ t.lv.toNat)) rfl (by kernel_rfl) (wn rfl) (fun _ _ _ h => h) hm9 (fun w_ h_ => gShl (A := v.sc) (N := t.lv) (C := v.sc * 2 ^ t.lv.toNat) (.tmp 6) (.tmp 8) rfl (litEv (by kernel_rfl)) (litEv (by kernel_rfl)) (rfl) (by omega) (by omega) (by omega)) ?_
 refine mP rfl ?_
 refine mk_ (i := 5) (v := .pointer (some ⟨g2, 0, none⟩)) rfl rfl (fun _ _ _ h => h) hm9 rfl ?_
 refine mgTake (i := 6) (v := .agg (pcs v.p).toArray) rfl (by kernel_rfl) (wn rfl) (fun _ _ _ h => h) hm9 (fun w_ h_ => gLoadAg (vs := pcs v.p) (k := 0) 0 h_ rfl (by kernel_rfl) (by kernel_rfl) (.tmp 10) Ty.ag_voxel_api_Point rfl (litEv (by kernel_rfl))) ?_
 refine mP rfl ?_
 refine mgTake (i := 7) (v := .agg (tlc t).toArray) rfl (by kernel_rfl) (wn rfl) (fun _ _ _ h => h) hm9 (fun w_ h_ => gLoadAg (vs := tlc t) (k := 0) 1 h_ rfl (by kernel_rfl) (by kernel_rfl) (.tmp 3) Ty.ag_voxel_api_Tile rfl (litEv (by kernel_rfl))) ?_
 refine mP rfl ?_
 refine mgCall (i := 8) 35 [.agg (tlc t).toArray] [] [] (by kernel_rfl) rfl (by kernel_rfl) (wn rfl) rfl (litEv (by kernel_rfl)) (litArgs (by kernel_rfl)) (box_any t h _) ?_
 rintro e w11 ⟨rfl, hbz⟩
 have hm12 := hm9.below hbz
 clear hbz hm9
 refine ⟨_, rfl, hm12, ?_⟩
 refine mP rfl ?_
 refine mgCall (i := 9) 34 [.agg (pcs v.p).toArray, .agg (bxs t.box).toArray] [] [] (by kernel_rfl) rfl (by kernel_rfl) (wn rfl) rfl (litEv (by kernel_rfl)) (litArgs (by kernel_rfl)) (near_any v.p t.box hp hb _) ?_
 rintro e w13 ⟨rfl, hbz⟩
 have hm14 := hm12.below hbz
 clear hbz hm12
 refine ⟨_, rfl, hm14, ?_⟩
 refine mP rfl ?_
 refine mgTake (i := 10) (v := .int .i64 (max 1 (nearB v.p t.box))) rfl (by kernel_rfl) (wn rfl) (fun _ _ _ h => h) hm14 (fun w_ h_ => gMax (.const (.int .i64 1)) (.tmp 14) rfl (litEv (by kernel_rfl)) (litEv (by kernel_rfl))) ?_
 refine mP rfl ?_
 refine mgTake (i := 11) (v := .int .i64 ((v.sc * 2 ^ t.lv.toNat) / (max 1 (nearB v.p t.box)))) rfl (by kernel_rfl) (wn rfl) (fun _ _ _ h => h) hm14 (fun w_ h_ => gQuo (A := (v.sc * 2 ^ t.lv.toNat)) (B := (max 1 (nearB v.p t.box))) (C := (v.sc * 2 ^ t.lv.toNat) / (max 1 (nearB v.p t.box))) (.tmp 9) (.tmp 15) rfl (litEv (by kernel_rfl)) (litEv (by kernel_rfl)) rfl (by omega) (by omega)) ?_
 refine mP rfl ?_
 refine mk_ (i := 12) (v := .int .i64 ((v.sc * 2 ^ t.lv.toNat) / (max 1 (nearB v.p t.box)))) rfl rfl (fun _ _ _ h => h) hm14 rfl ?_
 refine mgDone (by kernel_rfl) ?_
 refine then_normal (hK8 _ _ ?_)
 refine wpPrune [(4, .int .i64 ((v.sc * 2 ^ t.lv.toNat) / (max 1 (nearB v.p t.box))))] ⟨litGet (by kernel_rfl), trivial⟩ (fun X15 => ?_)
 refine wp_ret ?_
 refine bodyPost_ret (v := .int .i64 ((v.sc * 2 ^ t.lv.toNat) / (max 1 (nearB v.p t.box)))) (gRes1 rfl (gResTmp (t := 4) (v := .int .i64 ((v.sc * 2 ^ t.lv.toNat) / (max 1 (nearB v.p t.box)))) (litGet (by kernel_rfl)))) rfl ?_
 exact ⟨by rfl, hm14.bel⟩
set_option maxRecDepth 100000 in
set_option maxHeartbeats 4000000 in
theorem rerr_any (v : Vw) (t : Tl) (hv : ckV v = 0) (h : t.Ok) (w : World) : Calls Try.prog 15 #[.agg (vwc v).toArray, .agg (tlc t).toArray] w (RetV w (.int .i64 (err v t))) := by
 have hck_ := ckV_ok hv
 have hrg_ := hck_.1
 unfold Pt.rng at hrg_
 have hs_ := side_bd h.lv
 have hin_ := h.inP
 unfold Pt.In at hin_
 have hsc_ := sc_bd hv h.lv
 have hl_ := h.lv
 have hp2_ := pow12 h.lv
 have hp : (-1073741824 ≤ v.p.x ∧ v.p.x ≤ 1073741824) ∧ (-1073741824 ≤ v.p.y ∧ v.p.y ≤ 1073741824) ∧ (-1073741824 ≤ v.p.z ∧ v.p.z ≤ 1073741824) := by omega
 have hb : ((-1073741824 ≤ t.box.mn.x ∧ t.box.mn.x ≤ 1073741824) ∧ (-1073741824 ≤ t.box.mn.y ∧ t.box.mn.y ≤ 1073741824) ∧ (-1073741824 ≤ t.box.mn.z ∧ t.box.mn.z ≤ 1073741824)) ∧ ((-1073741824 ≤ t.box.mx.x ∧ t.box.mx.x ≤ 1073741824) ∧ (-1073741824 ≤ t.box.mx.y ∧ t.box.mx.y ≤ 1073741824) ∧ (-1073741824 ≤ t.box.mx.z ∧ t.box.mx.z ≤ 1073741824)) := by unfold Tl.box Bx.shift cubeB Pt.add; simp only; omega
 have hm0 := Mem.nil w
 go_enter Try.func15, Try.ntmps15
 refine litStart 20 [(0, .agg (vwc v).toArray), (1, .agg (tlc t).toArray)] (by kernel_rfl) (fun X0 => ?_)
 refine wp_seq_k fun K1 hK1 => ?_
 refine plStart ?_
 refine plBox hm0 (cs := vwc v) (i := 0) rfl (wn rfl) rfl (litEv (by kernel_rfl)) ?_
 intro g2 w4 hm3
 clear hm0
 try simp only [List.cons_append, List.nil_append, List.set_cons_succ, List.set_cons_zero] at hm3
 refine qP rfl ?_
 refine plBox hm3 (cs := tlc t) (i := 1) rfl (wn rfl) rfl (litEv (by kernel_rfl)) ?_
 intro g5 w7 hm6
 clear hm3
 try simp only [List.cons_append, List.nil_append, List.set_cons_succ, List.set_cons_zero] at hm6
 refine qP rfl ?_
 refine lk (v := .int .i64 0) rfl rfl rfl ?_
 refine plD ?_
 refine then_normal (hK1 _ _ ?_)
 refine wp_seq_k fun K8 hK8 => ?_
 refine mgStart hm6 (by kernel_rfl) ?_
 intro w10 hm9
 clear hm6
 refine mk_ (i := 0) (v := .pointer (some ⟨g2, 0, none⟩)) rfl rfl (fun _ _ _ h => h) hm9 rfl ?_
 refine mgTake (i := 1) (v := .agg (pcs v.p).toArray) rfl (by kernel_rfl) (wn rfl) (fun _ _ _ h => h) hm9 (fun w_ h_ => gLoadAg (vs := pcs v.p) (k := 0) 0 h_ rfl (by kernel_rfl) (by kernel_rfl) (.tmp 6) Ty.ag_voxel_api_Point rfl (litEv (by kernel_rfl))) ?_
 refine mP rfl ?_
 refine mgTake (i := 2) (v := .agg (tlc t).toArray) rfl (by kernel_rfl) (wn rfl) (fun _ _ _ h => h) hm9 (fun w_ h_ => gLoadAg (vs := tlc t) (k := 0) 1 h_ rfl (by kernel_rfl) (by kernel_rfl) (.tmp 3) Ty.ag_voxel_api_Tile rfl (litEv (by kernel_rfl))) ?_
 refine mP rfl ?_
 refine mgCall (i := 3) 37 [.agg (tlc t).toArray] [] [] (by kernel_rfl) rfl (by kernel_rfl) (wn rfl) rfl (litEv (by kernel_rfl)) (litArgs (by kernel_rfl)) (rbox_any t h _) ?_
 rintro e w11 ⟨rfl, hbz⟩
 have hm12 := hm9.below hbz
 clear hbz hm9
 refine ⟨_, rfl, hm12, ?_⟩
 refine mP rfl ?_
 refine mgCall (i := 4) 36 [.agg (pcs v.p).toArray, .agg (bxs t.box).toArray] [] [] (by kernel_rfl) rfl (by kernel_rfl) (wn rfl) rfl (litEv (by kernel_rfl)) (litArgs (by kernel_rfl)) (rnear_any v.p t.box hp hb _) ?_
 rintro e w13 ⟨rfl, hbz⟩
 have hm14 := hm12.below hbz
 clear hbz hm12
 refine ⟨_, rfl, hm14, ?_⟩
 refine mP rfl ?_
 refine mk_ (i := 5) (v := .int .i64 (nearB v.p t.box)) rfl rfl (fun _ _ _ h => h) hm14 rfl ?_
 refine mgDone (by kernel_rfl) ?_
 refine then_normal (hK8 _ _ ?_)
 refine wp_seq_k fun K15 hK15 => ?_
 refine mgStart hm14 (by kernel_rfl) ?_
 intro w17 hm16
 clear hm14
 refine mk_ (i := 0) (v := .pointer (some ⟨g5, 0, none⟩)) rfl rfl (fun _ _ _ h => h) hm16 rfl ?_
 refine mgTake (i := 1) (v := .int .i64 t.lv) rfl (by kernel_rfl) (wn rfl) (fun _ _ _ h => h) hm16 (fun w_ h_ => gLoad (v := .int .i64 t.lv) (k := 0) 1 h_ rfl (by kernel_rfl) (.tmp 11) (by kernel_rfl) rfl (litEv (by kernel_rfl))) ?_
 refine mP rfl ?_
 refine mgTake (i := 2) (v := .int .i64 (2 ^ t.lv.toNat)) rfl (by kernel_rfl) (wn rfl) (fun _ _ _ h => h) hm16 (fun w_ h_ => gShl (A := 1) (N := t.lv) (C := 2 ^ t.lv.toNat) (.const (.int .i64 1)) (.tmp 12) rfl (litEv (by kernel_rfl)) (litEv (by kernel_rfl)) (Int.one_mul _) (by omega) (by omega) (by omega)) ?_
 refine mP rfl ?_
 refine mk_ (i := 3) (v := .pointer (some ⟨g2, 3, none⟩)) rfl rfl (fun _ _ _ h => h) hm16 rfl ?_
 refine mgTake (i := 4) (v := .int .i64 v.sc) rfl (by kernel_rfl) (wn rfl) (fun _ _ _ h => h) hm16 (fun w_ h_ => gLoad (v := .int .i64 v.sc) (k := 3) 0 h_ rfl (by kernel_rfl) (.tmp 14) (by kernel_rfl) rfl (litEv (by kernel_rfl))) ?_
 refine mP rfl ?_
 refine mgTake (i := 5) (v := .int .i64 (v.sc * 2 ^ t.lv.toNat)) rfl (by kernel_rfl) (wn rfl) (fun _ _ _ h => h) hm16 (fun w_ h_ => mulRun (A := (2 ^ t.lv.toNat)) (B := v.sc) (C := v.sc * 2 ^ t.lv.toNat) (.tmp 13) (.tmp 15) rfl (litEv (by kernel_rfl)) (litEv (by kernel_rfl)) (Int.mul_comm _ _) (by omega)) ?_
 refine mP rfl ?_
 refine mk_ (i := 6) (v := .int .i64 (nearB v.p t.box)) rfl rfl (fun _ _ _ h => h) hm16 rfl ?_
 refine mgTake (i := 7) (v := .int .i64 (max 1 (nearB v.p t.box))) rfl (by kernel_rfl) (wn rfl) (fun _ _ _ h => h) hm16 (fun w_ h_ => gMax (.const (.int .i64 1)) (.tmp 17) rfl (litEv (by kernel_rfl)) (litEv (by kernel_rfl))) ?_
 refine mP rfl ?_
 refine mgTake (i := 8) (v := .int .i64 ((v.sc * 2 ^ t.lv.toNat) / (max 1 (nearB v.p t.box)))) rfl (by kernel_rfl) (wn rfl) (fun _ _ _ h => h) hm16 (fun w_ h_ => gQuo (A := (v.sc * 2 ^ t.lv.toNat)) (B := (max 1 (nearB v.p t.box))) (C := (v.sc * 2 ^ t.lv.toNat) / (max 1 (nearB v.p t.box))) (.tmp 16) (.tmp 18) rfl (litEv (by kernel_rfl)) (litEv (by kernel_rfl)) rfl (by omega) (by omega)) ?_
 refine mP rfl ?_
 refine mk_ (i := 9) (v := .int .i64 ((v.sc * 2 ^ t.lv.toNat) / (max 1 (nearB v.p t.box)))) rfl rfl (fun _ _ _ h => h) hm16 rfl ?_
 refine mgDone (by kernel_rfl) ?_
 refine then_normal (hK15 _ _ ?_)
 refine wpPrune [(4, .int .i64 ((v.sc * 2 ^ t.lv.toNat) / (max 1 (nearB v.p t.box))))] ⟨litGet (by kernel_rfl), trivial⟩ (fun X18 => ?_)
 refine wp_ret ?_
 refine bodyPost_ret (v := .int .i64 ((v.sc * 2 ^ t.lv.toNat) / (max 1 (nearB v.p t.box)))) (gRes1 rfl (gResTmp (t := 4) (v := .int .i64 ((v.sc * 2 ^ t.lv.toNat) / (max 1 (nearB v.p t.box)))) (litGet (by kernel_rfl)))) rfl ?_
 exact ⟨by rfl, hm16.bel⟩
set_option maxRecDepth 100000 in
set_option maxHeartbeats 4000000 in
theorem ten_any (t : Tl) (w : World) : Calls Try.prog 28 #[.agg (tlc t).toArray] w (RetV w (.int .i64 10)) := by
 have hm0 := Mem.nil w
 go_enter Try.func28, Try.ntmps28
 refine litStart 3 [(0, .agg (tlc t).toArray)] (by kernel_rfl) (fun X0 => ?_)
 refine wp_seq_k fun K1 hK1 => ?_
 refine plStart ?_
 refine plBox hm0 (cs := tlc t) (i := 0) rfl (wn rfl) rfl (litEv (by kernel_rfl)) ?_
 intro g2 w4 hm3
 clear hm0
 try simp only [List.cons_append, List.nil_append, List.set_cons_succ, List.set_cons_zero] at hm3
 refine qP rfl ?_
 refine lk (v := .int .i64 0) rfl rfl rfl ?_
 refine plD ?_
 refine then_normal (hK1 _ _ ?_)
 refine wp_seq_k fun K5 hK5 => ?_
 refine plStart ?_
 refine lk (v := .int .i64 10) rfl rfl rfl ?_
 refine plD ?_
 refine then_normal (hK5 _ _ ?_)
 refine wp_ret ?_
 refine bodyPost_ret (v := .int .i64 10) (gRes1 rfl (gResTmp (t := 2) (v := .int .i64 10) (litGet (by kernel_rfl)))) rfl ?_
 exact ⟨by rfl, hm3.bel⟩
set_option maxRecDepth 100000 in
set_option maxHeartbeats 4000000 in
theorem free_any (t : Tl) (w : World) : Calls Try.prog 22 #[.agg (tlc t).toArray] w (RetV w (.int .i64 0)) := by
 have hm0 := Mem.nil w
 go_enter Try.func22, Try.ntmps22
 refine litStart 3 [(0, .agg (tlc t).toArray)] (by kernel_rfl) (fun X0 => ?_)
 refine wp_seq_k fun K1 hK1 => ?_
 refine plStart ?_
 refine plBox hm0 (cs := tlc t) (i := 0) rfl (wn rfl) rfl (litEv (by kernel_rfl)) ?_
 intro g2 w4 hm3
 clear hm0
 try simp only [List.cons_append, List.nil_append, List.set_cons_succ, List.set_cons_zero] at hm3
 refine qP rfl ?_
 refine lk (v := .int .i64 0) rfl rfl rfl ?_
 refine plD ?_
 refine then_normal (hK1 _ _ ?_)
 refine wp_seq_k fun K5 hK5 => ?_
 refine plStart ?_
 refine lk (v := .int .i64 0) rfl rfl rfl ?_
 refine plD ?_
 refine then_normal (hK5 _ _ ?_)
 refine wp_ret ?_
 refine bodyPost_ret (v := .int .i64 0) (gRes1 rfl (gResTmp (t := 2) (v := .int .i64 0) (litGet (by kernel_rfl)))) rfl ?_
 exact ⟨by rfl, hm3.bel⟩
end Go.Proofs.Ytkmhjgdpkddbnaa
namespace Go.Proofs.Ytkmhjgdpkddbnaa
open Go.RowKit
set_option linter.unusedVariables false
set_option linter.unusedSimpArgs false
def hstep (n x : Int) : Int := Int.tmod (Int.tmod (n * 31 + Int.tmod x 1000003 + 7) 1000003 + 1000003) 1000003
end Go.Proofs.Ytkmhjgdpkddbnaa
