/-
  PJ: several texts in one. No statement is proved here.
-/
import Derived.Test.YtkmhjgdpkddbnaaPI
import Derived.Test.YtkmhjgdpkddbnaaPG
set_option linter.unusedVariables false
set_option linter.unusedSimpArgs false
namespace Go.Proofs.Ytkmhjgdpkddbnaa
open Go.RowKit
set_option linter.unusedVariables false
set_option linter.unusedSimpArgs false
theorem costP_ok (c_ : Cst) (t : Tl) (h : t.Ok) : 0 ≤ costP c_ t ∧ costP c_ t ≤ 16777216 := by
  have := costP_bd c_ t h.lv
  omega
theorem total_one (f : Tl → Int) (t : Tl) : totalP f [t] = f t := by simp [totalP]
set_option maxRecDepth 100000 in
set_option maxHeartbeats 4000000 in
theorem refPlan_any (depth : Int) (v : Vw) (c_ : Cst) (w : World) (_bd : -9223372036854775808 ≤ depth ∧ depth ≤ 9223372036854775807) : Calls Try.prog 10 #[.int .i64 depth, .agg (vwc v).toArray, .agg (csc c_).toArray] w (fun e w' => ∃ S, e = .returned (.tuple #[.agg (plnC S (planR (costP c_) depth v)).toArray, .int .i64 (planE (costP c_) depth v)]) ∧ w'.ownsRow w.heap.size 38 4 S (planR (costP c_) depth v).tiles.length (tlsC (planR (costP c_) depth v).tiles) ∧ Below w.heap.size w w') := by
  have hm0 := Mem.nil w
  go_enter Try.func10, Try.ntmps10
  refine litStart 112 [(0, .int .i64 depth), (1, .agg (vwc v).toArray), (2, .agg (csc c_).toArray)] (by kernel_rfl) (fun X0 => ?_)
  refine wp_seq_k fun K1 hK1 => ?_
  refine plStart ?_
  refine plBox hm0 (cs := vwc v) (i := 0) rfl (wn rfl) rfl (litEv (by kernel_rfl)) ?_
  intro g2 w4 hm3
  clear hm0
  try simp only [List.cons_append, List.nil_append, List.set_cons_succ, List.set_cons_zero] at hm3
  refine qP rfl ?_
  refine plBox hm3 (cs := csc c_) (i := 1) rfl (wn rfl) rfl (litEv (by kernel_rfl)) ?_
  intro g5 w7 hm6
  clear hm3
  try simp only [List.cons_append, List.nil_append, List.set_cons_succ, List.set_cons_zero] at hm6
  refine qP rfl ?_
  refine plAlloc (z := [.slice none 0 0, .int .i64 0, .int .i64 0, .int .i64 0]) Ty.ag_voxel_api_Planned hm6 (i := 2) rfl (wn rfl) rfl ?_
  intro g8 w10 hm9
  clear hm6
  try simp only [List.cons_append, List.nil_append, List.set_cons_succ, List.set_cons_zero] at hm9
  refine qP rfl ?_
  refine lk (v := .int .i64 0) rfl rfl rfl ?_
  refine plD ?_
  refine then_normal (hK1 _ _ ?_)
  refine wp_seq_k fun K11 hK11 => ?_
  refine wp_seq_k fun K12 hK12 => ?_
  refine plStart ?_
  refine lk (v := .int .i64 depth) rfl rfl rfl ?_
  by_cases h13 : depth < 2
  · refine litVal (v := .bool true) rfl (wn rfl) (boolTo (decide_eq_true h13) (lssRun (A := depth) (B := 2) (.tmp 17) (.const (.int .i64 2)) rfl (litEv (by kernel_rfl)) (litEv (by kernel_rfl)))) rfl (by decide) ?_
    refine lk (v := .bool true) rfl rfl rfl ?_
    refine plSkip (i := 3) rfl (wgN rfl rfl rfl (by decide) (by kernel_rfl)) ?_
    refine qP rfl ?_
    refine plSkip (i := 4) rfl (wgN rfl rfl rfl (by decide) (by kernel_rfl)) ?_
    refine qP rfl ?_
    refine lk (v := .bool true) rfl rfl rfl ?_
    refine plD ?_
    refine then_normal (hK12 _ _ ?_)
    refine wp_cond_true (litEv (by kernel_rfl)) ?_
    refine wp_seq_k fun K14 hK14 => ?_
    refine plStart ?_
    refine lk (v := .agg ([.slice none 0 0, .int .i64 0, .int .i64 0, .int .i64 0]).toArray) rfl rfl rfl ?_
    refine plStore 2 Ty.ag_voxel_api_Planned hm9 rfl (i := 1) (cs := [.slice none 0 0, .int .i64 0, .int .i64 0, .int .i64 0]) rfl (wn rfl) rfl (litEv (by kernel_rfl)) (litEv (by kernel_rfl)) rfl rfl (by kernel_rfl) ?_
    intro w16 hm15
    clear hm9
    try simp only [List.cons_append, List.nil_append, List.set_cons_succ, List.set_cons_zero] at hm15
    refine qNone rfl ?_
    refine lk (v := .int .i64 13) rfl rfl rfl ?_
    refine plD ?_
    refine then_normal (hK14 _ _ ?_)
    refine wp_ret ?_
    refine then_ret ?_
    refine bodyPost_ret (v := .tuple #[.agg ([.slice none 0 0, .int .i64 0, .int .i64 0, .int .i64 0]).toArray, .int .i64 13]) (gRes2 rfl (gResAg (cs := [.slice none 0 0, .int .i64 0, .int .i64 0, .int .i64 0]) 2 hm15 rfl Ty.ag_voxel_api_Planned rfl (litGet (by kernel_rfl))) (gResTmp (t := 7) (v := .int .i64 13) (litGet (by kernel_rfl)))) rfl ?_
    have hE_ : planE (costP c_) depth v = 13 := planE_13 (by omega)
    have hR_ := planR_no (f := costP c_) (depth := depth) (v := v) (by rw [hE_]; decide)
    refine ⟨.slice none 0 0, ?_, ?_, hm15.bel⟩
    · rw [hR_, hE_]
      rfl
    · rw [hR_]
      exact Mem.row (Mem.nilRow hm15 38 4) 3 rfl
  refine litVal (v := .bool false) rfl (wn rfl) (boolTo (decide_eq_false h13) (lssRun (A := depth) (B := 2) (.tmp 17) (.const (.int .i64 2)) rfl (litEv (by kernel_rfl)) (litEv (by kernel_rfl)))) rfl (by decide) ?_
  refine lk (v := .bool false) rfl rfl rfl ?_
  refine litVal (v := .int .i64 depth) rfl (wgY rfl rfl rfl (by decide) (by kernel_rfl)) (litRun (by kernel_rfl)) rfl (by decide) ?_
  by_cases h17 : 14 < depth
  · refine litVal (v := .bool true) rfl (wgY rfl rfl rfl (by decide) (by kernel_rfl)) (boolTo (decide_eq_true h17) (gtrRun (A := depth) (B := 14) (.tmp 20) (.const (.int .i64 14)) rfl (litEv (by kernel_rfl)) (litEv (by kernel_rfl)))) rfl (by decide) ?_
    refine lk (v := .bool true) rfl rfl rfl ?_
    refine plD ?_
    refine then_normal (hK12 _ _ ?_)
    refine wp_cond_true (litEv (by kernel_rfl)) ?_
    refine wp_seq_k fun K18 hK18 => ?_
    refine plStart ?_
    refine lk (v := .agg ([.slice none 0 0, .int .i64 0, .int .i64 0, .int .i64 0]).toArray) rfl rfl rfl ?_
    refine plStore 2 Ty.ag_voxel_api_Planned hm9 rfl (i := 1) (cs := [.slice none 0 0, .int .i64 0, .int .i64 0, .int .i64 0]) rfl (wn rfl) rfl (litEv (by kernel_rfl)) (litEv (by kernel_rfl)) rfl rfl (by kernel_rfl) ?_
    intro w20 hm19
    clear hm9
    try simp only [List.cons_append, List.nil_append, List.set_cons_succ, List.set_cons_zero] at hm19
    refine qNone rfl ?_
    refine lk (v := .int .i64 13) rfl rfl rfl ?_
    refine plD ?_
    refine then_normal (hK18 _ _ ?_)
    refine wp_ret ?_
    refine then_ret ?_
    refine bodyPost_ret (v := .tuple #[.agg ([.slice none 0 0, .int .i64 0, .int .i64 0, .int .i64 0]).toArray, .int .i64 13]) (gRes2 rfl (gResAg (cs := [.slice none 0 0, .int .i64 0, .int .i64 0, .int .i64 0]) 2 hm19 rfl Ty.ag_voxel_api_Planned rfl (litGet (by kernel_rfl))) (gResTmp (t := 7) (v := .int .i64 13) (litGet (by kernel_rfl)))) rfl ?_
    have hE_ : planE (costP c_) depth v = 13 := planE_13 (by omega)
    have hR_ := planR_no (f := costP c_) (depth := depth) (v := v) (by rw [hE_]; decide)
    refine ⟨.slice none 0 0, ?_, ?_, hm19.bel⟩
    · rw [hR_, hE_]
      rfl
    · rw [hR_]
      exact Mem.row (Mem.nilRow hm19 38 4) 3 rfl
  refine litVal (v := .bool false) rfl (wgY rfl rfl rfl (by decide) (by kernel_rfl)) (boolTo (decide_eq_false h17) (gtrRun (A := depth) (B := 14) (.tmp 20) (.const (.int .i64 14)) rfl (litEv (by kernel_rfl)) (litEv (by kernel_rfl)))) rfl (by decide) ?_
  refine lk (v := .bool false) rfl rfl rfl ?_
  refine plD ?_
  refine then_normal (hK12 _ _ ?_)
  refine wp_cond_false (litEv (by kernel_rfl)) ?_
  refine wp_skip ?_
  refine then_normal (hK11 _ _ ?_)
  refine wp_seq_k fun K21 hK21 => ?_
  refine plStart ?_
  have hd_ : 2 ≤ depth ∧ depth ≤ 14 := by omega
  refine litVal (v := .agg (vwc v).toArray) rfl (wn rfl) (gLoadAg (vs := vwc v) (k := 0) 0 hm9 rfl (by kernel_rfl) (by kernel_rfl) (.tmp 4) Ty.ag_voxel_api_Viewer rfl (litEv (by kernel_rfl))) rfl (by decide) ?_
  refine plCall (i := 1) 13 [.agg (vwc v).toArray] [] [] rfl (by kernel_rfl) (wn rfl) rfl (litEv (by kernel_rfl)) (litArgs (by kernel_rfl)) (rcheck_any v _) ?_
  rintro e w22 ⟨rfl, hbz⟩
  have hm23 := hm9.below hbz
  clear hbz hm9
  refine ⟨_, rfl, ?_⟩
  refine qP rfl ?_
  refine lk (v := .int .i64 (ckV v)) rfl rfl rfl ?_
  refine plD ?_
  refine then_normal (hK21 _ _ ?_)
  refine wp_seq_k fun K24 hK24 => ?_
  refine wp_seq_k fun K25 hK25 => ?_
  refine plStart ?_
  refine lk (v := .int .i64 (ckV v)) rfl rfl rfl ?_
  by_cases h26 : (ckV v) = 0
  · have hv_ : ckV v = 0 := h26
    refine litVal (v := .bool false) rfl (wn rfl) (boolTo (by rw [decide_eq_true h26]; rfl) (neqRun (A := (ckV v)) (B := 0) (.tmp 26) (.const (.int .i64 0)) rfl (litEv (by kernel_rfl)) (litEv (by kernel_rfl)))) rfl (by decide) ?_
    refine plD ?_
    refine then_normal (hK25 _ _ ?_)
    refine wp_cond_false (litEv (by kernel_rfl)) ?_
    refine wp_skip ?_
    refine then_normal (hK24 _ _ ?_)
    refine wpPrune [(0, .int .i64 depth), (4, .pointer (some ⟨g2, 0, none⟩)), (5, .pointer (some ⟨g5, 0, none⟩)), (6, .pointer (some ⟨g8, 0, none⟩)), (7, .int .i64 0)] ⟨litGet (by kernel_rfl), ⟨litGet (by kernel_rfl), ⟨litGet (by kernel_rfl), ⟨litGet (by kernel_rfl), ⟨litGet (by kernel_rfl), trivial⟩⟩⟩⟩⟩ (fun X27 => ?_)
    refine wp_seq_k fun K28 hK28 => ?_
    refine plStart ?_
    refine lk (v := .int .i64 depth) rfl rfl rfl ?_
    refine litVal (v := .int .i64 (depth - 2)) rfl (wn rfl) (subRun (A := depth) (B := 2) (C := depth - 2) (.tmp 30) (.const (.int .i64 2)) rfl (litEv (by kernel_rfl)) (litEv (by kernel_rfl)) rfl (by omega)) rfl (by decide) ?_
    refine lk (v := .agg (tlc (wholeT depth)).toArray) rfl rfl rfl ?_
    refine plLit (cs := [.int .i64 (depth - 2), .int .i64 0, .int .i64 0, .int .i64 0]) (n := 1) Ty.sl_L_api_Tile hm23 (i := 3) rfl (wn rfl) rfl (by decide) (by decide) (by rw [lit_eval]; kernel_rfl) ?_
    intro g29 w31 hm30
    clear hm23
    try simp only [List.cons_append, List.nil_append, List.set_cons_succ, List.set_cons_zero] at hm30
    refine qP rfl ?_
    refine lk (v := .slice (some ⟨g29, 0, none⟩) 1 1) rfl rfl rfl ?_
    refine plD ?_
    refine then_normal (hK28 _ _ ?_)
    refine wp_seq_k fun K32 hK32 => ?_
    refine wp_seq_k fun K33 hK33 => ?_
    refine mgStart hm30 (by kernel_rfl) ?_
    intro w35 hm34
    clear hm30
    refine mk_ (i := 0) (v := .slice (some ⟨g29, 0, none⟩) 1 1) rfl rfl (fun _ _ _ h => h) hm34 rfl ?_
    refine mgTake (i := 1) (v := .agg (csc c_).toArray) rfl (by kernel_rfl) (wn rfl) (fun _ _ _ h => h) hm34 (fun w_ h_ => gLoadAg (vs := csc c_) (k := 0) 1 h_ rfl (by kernel_rfl) (by kernel_rfl) (.tmp 5) Ty.ag_voxel_voxelref43_Costs rfl (litEv (by kernel_rfl))) ?_
    refine mP rfl ?_
    refine mk_ (i := 3) (v := .pointer (some ⟨g2, 5, none⟩)) rfl rfl (fun _ _ _ h => h) hm34 rfl ?_
    refine mgTake (i := 4) (v := .int .i64 v.bud) rfl (by kernel_rfl) (wn rfl) (fun _ _ _ h => h) hm34 (fun w_ h_ => gLoad (v := .int .i64 v.bud) (k := 5) 0 h_ rfl (by kernel_rfl) (.tmp 37) (by kernel_rfl) rfl (litEv (by kernel_rfl))) ?_
    refine mP rfl ?_
    refine mgCall (i := 2) 30 [.slice (some ⟨g29, 0, none⟩) 1 1, .agg (csc c_).toArray] [] [] (by kernel_rfl) rfl (by kernel_rfl) (wn rfl) rfl (litEv (by kernel_rfl)) (litArgs (by kernel_rfl)) (callsTo (congrArg (fun n_ => Value.int .i64 n_) (total_one (costP c_) (wholeT depth))) (total_any [wholeT depth] c_ _ _ _ (Rd.of_arr (t := 38) (cs := tlsC [wholeT depth]) (hm34.arr 3 (by kernel_rfl)) (by kernel_rfl) (of_decide_eq_true (by kernel_rfl))) (by simp) (by simp) (fun t ht => by rw [List.mem_singleton] at ht; rw [ht]; exact wholeT_ok hd_))) ?_
    rintro e w36 ⟨rfl, hbz⟩
    have hm37 := hm34.below hbz
    clear hbz hm34
    refine ⟨_, rfl, hm37, ?_⟩
    refine mP rfl ?_
    by_cases h38 : v.bud < (costP c_ (wholeT depth))
    · have hbud_ := h38
      refine mgTake (i := 5) (v := .bool true) rfl (by kernel_rfl) (wn rfl) (fun _ _ _ h => h) hm37 (fun w_ h_ => boolTo (decide_eq_true h38) (gtrRun (A := (costP c_ (wholeT depth))) (B := v.bud) (.tmp 36) (.tmp 38) rfl (litEv (by kernel_rfl)) (litEv (by kernel_rfl)))) ?_
      refine mP rfl ?_
      refine mgDone (by kernel_rfl) ?_
      refine then_normal (hK33 _ _ ?_)
      refine wp_cond_true (litEv (by kernel_rfl)) ?_
      refine wp_seq_k fun K39 hK39 => ?_
      refine plStart ?_
      refine lk (v := .agg ([.slice none 0 0, .int .i64 0, .int .i64 0, .int .i64 0]).toArray) rfl rfl rfl ?_
      refine plStore 2 Ty.ag_voxel_api_Planned hm37 rfl (i := 1) (cs := [.slice none 0 0, .int .i64 0, .int .i64 0, .int .i64 0]) rfl (wn rfl) rfl (litEv (by kernel_rfl)) (litEv (by kernel_rfl)) rfl rfl (by kernel_rfl) ?_
      intro w41 hm40
      clear hm37
      try simp only [List.cons_append, List.nil_append, List.set_cons_succ, List.set_cons_zero] at hm40
      refine qNone rfl ?_
      refine lk (v := .int .i64 17) rfl rfl rfl ?_
      refine plD ?_
      refine then_normal (hK39 _ _ ?_)
      refine wpPrune [(4, .pointer (some ⟨g2, 0, none⟩)), (5, .pointer (some ⟨g5, 0, none⟩)), (6, .pointer (some ⟨g8, 0, none⟩)), (7, .int .i64 17), (9, .slice (some ⟨g29, 0, none⟩) 1 1)] ⟨litGet (by kernel_rfl), ⟨litGet (by kernel_rfl), ⟨litGet (by kernel_rfl), ⟨litGet (by kernel_rfl), ⟨litGet (by kernel_rfl), trivial⟩⟩⟩⟩⟩ (fun X42 => ?_)
      refine wp_ret ?_
      refine then_ret ?_
      refine bodyPost_ret (v := .tuple #[.agg ([.slice none 0 0, .int .i64 0, .int .i64 0, .int .i64 0]).toArray, .int .i64 17]) (gRes2 rfl (gResAg (cs := [.slice none 0 0, .int .i64 0, .int .i64 0, .int .i64 0]) 2 hm40 rfl Ty.ag_voxel_api_Planned rfl (litGet (by kernel_rfl))) (gResTmp (t := 7) (v := .int .i64 17) (litGet (by kernel_rfl)))) rfl ?_
      have hE_ : planE (costP c_) depth v = 17 := planE_17 hd_ hv_ hbud_
      have hR_ := planR_no (f := costP c_) (depth := depth) (v := v) (by rw [hE_]; decide)
      refine ⟨.slice none 0 0, ?_, ?_, hm40.bel⟩
      · rw [hR_, hE_]
        rfl
      · rw [hR_]
        exact Mem.row (Mem.nilRow hm40 38 4) 4 rfl
    have hbud_ := h38
    refine mgTake (i := 5) (v := .bool false) rfl (by kernel_rfl) (wn rfl) (fun _ _ _ h => h) hm37 (fun w_ h_ => boolTo (decide_eq_false h38) (gtrRun (A := (costP c_ (wholeT depth))) (B := v.bud) (.tmp 36) (.tmp 38) rfl (litEv (by kernel_rfl)) (litEv (by kernel_rfl)))) ?_
    refine mP rfl ?_
    refine mgDone (by kernel_rfl) ?_
    refine then_normal (hK33 _ _ ?_)
    refine wp_cond_false (litEv (by kernel_rfl)) ?_
    refine wp_skip ?_
    refine then_normal (hK32 _ _ ?_)
    refine wp_seq_k fun K43 hK43 => ?_
    refine wp_block ?_
    have hm44 := Mem.arrRow (n := 1) (size := 4) 3 hm37 rfl rfl (by unfold maxLen; omega)
    clear hm37
    try simp only [List.cons_append, List.nil_append, List.set_cons_succ, List.set_cons_zero] at hm44
    have hm45 : Mem w w36 [.arr g2 25 (vwc v), .arr g5 27 (csc c_), .arr g8 31 ([.slice none 0 0, .int .i64 0, .int .i64 0, .int .i64 0]), .row (.slice (some ⟨g29, 0, none⟩) ([wholeT depth].length) 1) 38 4 ([wholeT depth].length) (tlsC [wholeT depth])] := hm44
    clear hm44
    refine gwLoop (fun n_ a_ w_ => ∃ (l : List Tl) (b c fu : Nat), n_ = 0 + fu ∧ (RoundOk (costP c_) v depth l (totalP (costP c_) l) fu) ∧ Fr a_ 112 [(4, .pointer (some ⟨g2, 0, none⟩)), (5, .pointer (some ⟨g5, 0, none⟩)), (6, .pointer (some ⟨g8, 0, none⟩)), (7, .int .i64 0), (9, .slice (some ⟨b, 0, none⟩) l.length c)] ∧ Mem w w_ [.arr g2 25 (vwc v), .arr g5 27 (csc c_), .arr g8 31 ([.slice none 0 0, .int .i64 0, .int .i64 0, .int .i64 0]), .row (.slice (some ⟨b, 0, none⟩) l.length c) 38 4 l.length (tlsC l)]) (0 + 600) ⟨[wholeT depth], g29, 1, 600, rfl, (by rw [total_one]; exact RoundOk.start hd_), ⟨litSize, rfl, ⟨litGet (by kernel_rfl), ⟨litGet (by kernel_rfl), ⟨litGet (by kernel_rfl), ⟨litGet (by kernel_rfl), ⟨litGet (by kernel_rfl), trivial⟩⟩⟩⟩⟩⟩, (hm45.sub (.cons_cons _ (.cons_cons _ (.cons_cons _ (.cons_cons _ .slnil)))))⟩ ?_
    clear hm45
    intro n_ a48 w46 hI_
    obtain ⟨l, b, c, fu, rfl, hok, hF_, hm47⟩ := hI_
    obtain ⟨X49, rfl⟩ := frLit hF_
    clear hF_
    have hle_ := hok.le
    have hfu_ := hok.fuel
    have hln_ := hok.len
    refine wp_block ?_
    refine wp_seq_k fun K50 hK50 => ?_
    refine plStart ?_
    refine lk (v := .int .i64 (-1)) rfl rfl rfl ?_
    refine plD ?_
    refine then_normal (hK50 _ _ ?_)
    refine wp_seq_k fun K51 hK51 => ?_
    refine wp_seq_k fun K52 hK52 => ?_
    refine plStart ?_
    refine lk (v := .int .i64 0) rfl rfl rfl ?_
    refine plD ?_
    refine then_normal (hK52 _ _ ?_)
    refine wp_block ?_
    refine gwLoop (fun n_ a_ w_ => ∃ (j : Nat) (best : Int), n_ = l.length - j ∧ (j ≤ l.length) ∧ (refBest (costP c_) v l j = best) ∧ Fr a_ 112 [(4, .pointer (some ⟨g2, 0, none⟩)), (5, .pointer (some ⟨g5, 0, none⟩)), (6, .pointer (some ⟨g8, 0, none⟩)), (7, .int .i64 0), (9, .slice (some ⟨b, 0, none⟩) l.length c), (10, .int .i64 best), (11, .int .i64 (j : Int))] ∧ Mem w w_ [.arr g2 25 (vwc v), .arr g5 27 (csc c_), .arr g8 31 ([.slice none 0 0, .int .i64 0, .int .i64 0, .int .i64 0]), .row (.slice (some ⟨b, 0, none⟩) l.length c) 38 4 l.length (tlsC l)]) (l.length - 0) ⟨0, (-1), rfl, (Nat.zero_le _), rfl, ⟨litSize, rfl, ⟨litGet (by kernel_rfl), ⟨litGet (by kernel_rfl), ⟨litGet (by kernel_rfl), ⟨litGet (by kernel_rfl), ⟨litGet (by kernel_rfl), ⟨litGet (by kernel_rfl), ⟨litGet (by kernel_rfl), trivial⟩⟩⟩⟩⟩⟩⟩⟩, (hm47.sub (.cons_cons _ (.cons_cons _ (.cons_cons _ (.cons_cons _ .slnil)))))⟩ ?_
    clear hm47
    intro n_ a55 w53 hI_
    obtain ⟨j, best, rfl, hjl, hbest, hF_, hm54⟩ := hI_
    obtain ⟨X56, rfl⟩ := frLit hF_
    clear hF_
    refine wp_seq_k fun K57 hK57 => ?_
    refine wp_seq_k fun K58 hK58 => ?_
    refine plStart ?_
    refine lk (v := .int .i64 (j : Int)) rfl rfl rfl ?_
    refine lk (v := .slice (some ⟨b, 0, none⟩) l.length c) rfl rfl rfl ?_
    refine litVal (v := .int .i64 (l.length : Int)) rfl (wn rfl) (lenSlRun (A := some ⟨b, 0, none⟩) (n := l.length) (c := c) (.tmp 42) Ty.und_L_api_Tile rfl (litEv (by kernel_rfl))) rfl (by decide) ?_
    by_cases h59 : (j : Int) < (l.length : Int)
    · obtain ⟨t, hkt⟩ : ∃ t, l[j]? = some t := ⟨_, List.getElem?_eq_getElem (by omega)⟩
      have htok : t.Ok := hok.all t (List.mem_of_getElem? hkt)
      have hbd_ := refBest_bd (costP c_) v l j
      have hp2_ := pow12 htok.lv
      have hlv_ := htok.lv
      refine litVal (v := .bool true) rfl (wn rfl) (boolTo (decide_eq_true h59) (lssRun (A := (j : Int)) (B := (l.length : Int)) (.tmp 41) (.tmp 43) rfl (litEv (by kernel_rfl)) (litEv (by kernel_rfl)))) rfl (by decide) ?_
      refine plD ?_
      refine then_normal (hK58 _ _ ?_)
      refine wp_cond_true (litEv (by kernel_rfl)) ?_
      refine wp_skip ?_
      refine then_normal (hK57 _ _ ?_)
      refine wp_seq_k fun K60 hK60 => ?_
      refine wp_block ?_
      refine wp_seq_k fun K61 hK61 => ?_
      refine wp_seq_k fun K62 hK62 => ?_
      refine mgStart hm54 (by kernel_rfl) ?_
      intro w64 hm63
      clear hm54
      refine mk_ (i := 0) (v := .int .i64 best) rfl rfl (fun _ _ _ h => h) hm63 rfl ?_
      by_cases h65 : 0 ≤ best
      · obtain ⟨bb, rfl⟩ : ∃ bb : Nat, best = (bb : Int) := ⟨best.toNat, by omega⟩
        obtain ⟨u, hku⟩ : ∃ u, l[bb]? = some u := ⟨_, List.getElem?_eq_getElem (by omega)⟩
        have huok : u.Ok := hok.all u (List.mem_of_getElem? hku)
        refine mgTake (i := 1) (v := .bool true) rfl (by kernel_rfl) (wn rfl) (fun _ _ _ h => h) hm63 (fun w_ h_ => boolTo (decide_eq_true (show (0:Int) ≤ (bb : Int) by omega)) (gGeq (A := (bb : Int)) (B := 0) (.tmp 47) (.const (.int .i64 0)) rfl (litEv (by kernel_rfl)) (litEv (by kernel_rfl)))) ?_
        refine mP rfl ?_
        refine mk_ (i := 2) (v := .bool true) rfl rfl (fun _ _ _ h => h) hm63 rfl ?_
        refine mgTake (i := 3) (v := .agg (vwc v).toArray) rfl (by kernel_rfl) (wgY rfl rfl rfl (by decide) (by kernel_rfl)) (fun _ _ _ h => h) hm63 (fun w_ h_ => gLoadAg (vs := vwc v) (k := 0) 0 h_ rfl (by kernel_rfl) (by kernel_rfl) (.tmp 4) Ty.ag_voxel_api_Viewer rfl (litEv (by kernel_rfl))) ?_
        refine mP rfl ?_
        refine mgTake (i := 4) (v := .slice (some ⟨b, 0, none⟩) l.length c) rfl (by kernel_rfl) (wgY rfl rfl rfl (by decide) (by kernel_rfl)) (fun _ _ _ h => h) hm63 (fun w_ h_ => litRun (by kernel_rfl)) ?_
        refine mP rfl ?_
        refine mgTake (i := 5) (v := .int .i64 (j : Int)) rfl (by kernel_rfl) (wgY rfl rfl rfl (by decide) (by kernel_rfl)) (fun _ _ _ h => h) hm63 (fun w_ h_ => litRun (by kernel_rfl)) ?_
        refine mP rfl ?_
        refine mgTake (i := 6) (v := .pointer (some ⟨b, 0 + j * 4, none⟩)) rfl (by kernel_rfl) (wgY rfl rfl rfl (by decide) (by kernel_rfl)) (fun _ _ _ h => h) hm63 (fun w_ h_ => gIaSl (b := b) (off := 0) (n := l.length) (c := c) (kk := .i64) (K := (j : Int)) (.tmp 51) (.tmp 52) j Ty.sl_L_api_Tile rfl (litEv (by kernel_rfl)) (litEv (by kernel_rfl)) (rfl) (by omega)) ?_
        refine mP rfl ?_
        refine mgTake (i := 7) (v := .agg (tlc t).toArray) rfl (by kernel_rfl) (wgY rfl rfl rfl (by decide) (by kernel_rfl)) (fun _ _ _ h => h) hm63 (fun w_ h_ => gLoadAgRd (vs := tlc t) (m := j * 4) (h_.rdRow 3 rfl) rfl (fun i_ u_ hu_ => tlsC_get hkt i_ u_ hu_) (by kernel_rfl) (by omega) (.tmp 53) Ty.ag_voxel_api_Tile rfl (litEv (by kernel_rfl))) ?_
        refine mP rfl ?_
        refine mgTake (i := 9) (v := .agg (vwc v).toArray) rfl (by kernel_rfl) (wgY rfl rfl rfl (by decide) (by kernel_rfl)) (fun _ _ _ h => h) hm63 (fun w_ h_ => gLoadAg (vs := vwc v) (k := 0) 0 h_ rfl (by kernel_rfl) (by kernel_rfl) (.tmp 4) Ty.ag_voxel_api_Viewer rfl (litEv (by kernel_rfl))) ?_
        refine mP rfl ?_
        refine mgTake (i := 10) (v := .slice (some ⟨b, 0, none⟩) l.length c) rfl (by kernel_rfl) (wgY rfl rfl rfl (by decide) (by kernel_rfl)) (fun _ _ _ h => h) hm63 (fun w_ h_ => litRun (by kernel_rfl)) ?_
        refine mP rfl ?_
        refine mgTake (i := 11) (v := .int .i64 (bb : Int)) rfl (by kernel_rfl) (wgY rfl rfl rfl (by decide) (by kernel_rfl)) (fun _ _ _ h => h) hm63 (fun w_ h_ => litRun (by kernel_rfl)) ?_
        refine mP rfl ?_
        refine mgTake (i := 12) (v := .pointer (some ⟨b, 0 + bb * 4, none⟩)) rfl (by kernel_rfl) (wgY rfl rfl rfl (by decide) (by kernel_rfl)) (fun _ _ _ h => h) hm63 (fun w_ h_ => gIaSl (b := b) (off := 0) (n := l.length) (c := c) (kk := .i64) (K := (bb : Int)) (.tmp 57) (.tmp 58) bb Ty.sl_L_api_Tile rfl (litEv (by kernel_rfl)) (litEv (by kernel_rfl)) (rfl) (by omega)) ?_
        refine mP rfl ?_
        refine mgTake (i := 13) (v := .agg (tlc u).toArray) rfl (by kernel_rfl) (wgY rfl rfl rfl (by decide) (by kernel_rfl)) (fun _ _ _ h => h) hm63 (fun w_ h_ => gLoadAgRd (vs := tlc u) (m := bb * 4) (h_.rdRow 3 rfl) rfl (fun i_ u_ hu_ => tlsC_get hku i_ u_ hu_) (by kernel_rfl) (by omega) (.tmp 59) Ty.ag_voxel_api_Tile rfl (litEv (by kernel_rfl))) ?_
        refine mP rfl ?_
        refine mgCall (i := 8) 15 [.agg (vwc v).toArray, .agg (tlc t).toArray] [] [] (by kernel_rfl) rfl (by kernel_rfl) (wgY rfl rfl rfl (by decide) (by kernel_rfl)) rfl (litEv (by kernel_rfl)) (litArgs (by kernel_rfl)) (rerr_any v t hv_ htok _) ?_
        rintro e w66 ⟨rfl, hbz⟩
        have hm67 := hm63.below hbz
        clear hbz hm63
        refine ⟨_, rfl, hm67, ?_⟩
        refine mP rfl ?_
        refine mgCall (i := 14) 15 [.agg (vwc v).toArray, .agg (tlc u).toArray] [] [] (by kernel_rfl) rfl (by kernel_rfl) (wgY rfl rfl rfl (by decide) (by kernel_rfl)) rfl (litEv (by kernel_rfl)) (litArgs (by kernel_rfl)) (rerr_any v u hv_ huok _) ?_
        rintro e w68 ⟨rfl, hbz⟩
        have hm69 := hm67.below hbz
        clear hbz hm67
        refine ⟨_, rfl, hm69, ?_⟩
        refine mP rfl ?_
        by_cases h70 : (err v t) ≤ (err v u)
        · refine mgTake (i := 15) (v := .bool true) rfl (by kernel_rfl) (wgY rfl rfl rfl (by decide) (by kernel_rfl)) (fun _ _ _ h => h) hm69 (fun w_ h_ => boolTo (decide_eq_true h70) (leqRun (A := (err v t)) (B := (err v u)) (.tmp 55) (.tmp 61) rfl (litEv (by kernel_rfl)) (litEv (by kernel_rfl)))) ?_
          refine mP rfl ?_
          refine mk_ (i := 16) (v := .bool true) rfl rfl (fun _ _ _ h => h) hm69 rfl ?_
          refine mgDone (by kernel_rfl) ?_
          refine then_normal (hK62 _ _ ?_)
          refine wp_cond_true (litEv (by kernel_rfl)) ?_
          refine wp_exit ?_
          refine then_exit ?_
          refine inBlock_exit ?_
          refine then_normal (hK60 _ _ ?_)
          refine plStart ?_
          refine lk (v := .int .i64 (j : Int)) rfl rfl rfl ?_
          refine litVal (v := .int .i64 ((j : Int) + 1)) rfl (wn rfl) (addRun (A := (j : Int)) (B := 1) (C := (j : Int) + 1) (.tmp 45) (.const (.int .i64 1)) rfl (litEv (by kernel_rfl)) (litEv (by kernel_rfl)) rfl (by omega)) rfl (by decide) ?_
          refine lk (v := .int .i64 ((j : Int) + 1)) rfl rfl rfl ?_
          refine plD ?_
          refine then_normal ?_
          exact ⟨_, by omega, (j + 1), (bb : Int), rfl, (by omega), (by rw [refBest_next hbest hkt hku, if_pos h70]), ⟨litSize, rfl, ⟨litGet (by kernel_rfl), ⟨litGet (by kernel_rfl), ⟨litGet (by kernel_rfl), ⟨litGet (by kernel_rfl), ⟨litGet (by kernel_rfl), ⟨litGet (by kernel_rfl), ⟨litGet (by kernel_rfl), trivial⟩⟩⟩⟩⟩⟩⟩⟩, (hm69.sub (.cons_cons _ (.cons_cons _ (.cons_cons _ (.cons_cons _ .slnil)))))⟩
        refine mgTake (i := 15) (v := .bool false) rfl (by kernel_rfl) (wgY rfl rfl rfl (by decide) (by kernel_rfl)) (fun _ _ _ h => h) hm69 (fun w_ h_ => boolTo (decide_eq_false h70) (leqRun (A := (err v t)) (B := (err v u)) (.tmp 55) (.tmp 61) rfl (litEv (by kernel_rfl)) (litEv (by kernel_rfl)))) ?_
        refine mP rfl ?_
        refine mk_ (i := 16) (v := .bool false) rfl rfl (fun _ _ _ h => h) hm69 rfl ?_
        refine mgDone (by kernel_rfl) ?_
        refine then_normal (hK62 _ _ ?_)
        refine wp_cond_false (litEv (by kernel_rfl)) ?_
        refine wp_skip ?_
        refine then_normal (hK61 _ _ ?_)
        refine wp_seq_k fun K71 hK71 => ?_
        refine plStart ?_
        refine lk (v := .slice (some ⟨b, 0, none⟩) l.length c) rfl rfl rfl ?_
        refine lk (v := .int .i64 (j : Int)) rfl rfl rfl ?_
        refine litVal (v := .agg (vwc v).toArray) rfl (wn rfl) (gLoadAg (vs := vwc v) (k := 0) 0 hm69 rfl (by kernel_rfl) (by kernel_rfl) (.tmp 4) Ty.ag_voxel_api_Viewer rfl (litEv (by kernel_rfl))) rfl (by decide) ?_
        refine litVal (v := .agg (csc c_).toArray) rfl (wn rfl) (gLoadAg (vs := csc c_) (k := 0) 1 hm69 rfl (by kernel_rfl) (by kernel_rfl) (.tmp 5) Ty.ag_voxel_voxelref43_Costs rfl (litEv (by kernel_rfl))) rfl (by decide) ?_
        refine plCall (i := 4) 31 [.slice (some ⟨b, 0, none⟩) l.length c, .int .i64 (j : Int), .agg (vwc v).toArray, .agg (csc c_).toArray] [] [] rfl (by kernel_rfl) (wn rfl) rfl (litEv (by kernel_rfl)) (litArgs (by kernel_rfl)) (splits_any l j t v c_ _ _ _ (hm69.rdRow 3 rfl) hkt hv_ hok.le hok.all) ?_
        rintro e w72 ⟨rfl, hbz⟩
        have hm73 := hm69.below hbz
        clear hbz hm69
        refine ⟨_, rfl, ?_⟩
        refine qP rfl ?_
        rcases bool_or (decide (splitsP (costP c_) v l j t)) with h74 | h74
        · rw [h74]
          refine lk (v := .bool false) rfl rfl rfl ?_
          refine plD ?_
          refine then_normal (hK71 _ _ ?_)
          refine wp_seq_k fun K75 hK75 => ?_
          refine plStart ?_
          refine lk (v := .bool false) rfl rfl rfl ?_
          refine plD ?_
          refine then_normal (hK75 _ _ ?_)
          refine wp_cond_false (litEv (by kernel_rfl)) ?_
          refine wp_skip ?_
          refine inBlock_normal ?_
          refine then_normal (hK60 _ _ ?_)
          refine plStart ?_
          refine lk (v := .int .i64 (j : Int)) rfl rfl rfl ?_
          refine litVal (v := .int .i64 ((j : Int) + 1)) rfl (wn rfl) (addRun (A := (j : Int)) (B := 1) (C := (j : Int) + 1) (.tmp 45) (.const (.int .i64 1)) rfl (litEv (by kernel_rfl)) (litEv (by kernel_rfl)) rfl (by omega)) rfl (by decide) ?_
          refine lk (v := .int .i64 ((j : Int) + 1)) rfl rfl rfl ?_
          refine plD ?_
          refine then_normal ?_
          exact ⟨_, by omega, (j + 1), (bb : Int), rfl, (by omega), (by rw [refBest_next hbest hkt hku, if_neg h70, if_neg (of_decide_eq_false h74)]), ⟨litSize, rfl, ⟨litGet (by kernel_rfl), ⟨litGet (by kernel_rfl), ⟨litGet (by kernel_rfl), ⟨litGet (by kernel_rfl), ⟨litGet (by kernel_rfl), ⟨litGet (by kernel_rfl), ⟨litGet (by kernel_rfl), trivial⟩⟩⟩⟩⟩⟩⟩⟩, (hm73.sub (.cons_cons _ (.cons_cons _ (.cons_cons _ (.cons_cons _ .slnil)))))⟩
        rw [h74]
        refine lk (v := .bool true) rfl rfl rfl ?_
        refine plD ?_
        refine then_normal (hK71 _ _ ?_)
        refine wp_seq_k fun K76 hK76 => ?_
        refine plStart ?_
        refine lk (v := .bool true) rfl rfl rfl ?_
        refine plD ?_
        refine then_normal (hK76 _ _ ?_)
        refine wp_cond_true (litEv (by kernel_rfl)) ?_
        refine plStart ?_
        refine lk (v := .int .i64 (j : Int)) rfl rfl rfl ?_
        refine lk (v := .int .i64 (j : Int)) rfl rfl rfl ?_
        refine plD ?_
        refine inBlock_normal ?_
        refine then_normal (hK60 _ _ ?_)
        refine plStart ?_
        refine lk (v := .int .i64 (j : Int)) rfl rfl rfl ?_
        refine litVal (v := .int .i64 ((j : Int) + 1)) rfl (wn rfl) (addRun (A := (j : Int)) (B := 1) (C := (j : Int) + 1) (.tmp 45) (.const (.int .i64 1)) rfl (litEv (by kernel_rfl)) (litEv (by kernel_rfl)) rfl (by omega)) rfl (by decide) ?_
        refine lk (v := .int .i64 ((j : Int) + 1)) rfl rfl rfl ?_
        refine plD ?_
        refine then_normal ?_
        exact ⟨_, by omega, (j + 1), (j : Int), rfl, (by omega), (by rw [refBest_next hbest hkt hku, if_neg h70, if_pos (of_decide_eq_true h74)]), ⟨litSize, rfl, ⟨litGet (by kernel_rfl), ⟨litGet (by kernel_rfl), ⟨litGet (by kernel_rfl), ⟨litGet (by kernel_rfl), ⟨litGet (by kernel_rfl), ⟨litGet (by kernel_rfl), ⟨litGet (by kernel_rfl), trivial⟩⟩⟩⟩⟩⟩⟩⟩, (hm73.sub (.cons_cons _ (.cons_cons _ (.cons_cons _ (.cons_cons _ .slnil)))))⟩
      obtain rfl : best = -1 := by omega
      refine mk_ (i := 1) (v := .bool false) rfl rfl (fun _ _ _ h => h) hm63 rfl ?_
      refine mk_ (i := 2) (v := .bool false) rfl rfl (fun _ _ _ h => h) hm63 rfl ?_
      refine mgSkip (i := 3) rfl (by kernel_rfl) (wgN rfl rfl rfl (by decide) (by kernel_rfl)) (fun _ _ _ h => h) hm63 ?_
      refine mP rfl ?_
      refine mgSkip (i := 4) rfl (by kernel_rfl) (wgN rfl rfl rfl (by decide) (by kernel_rfl)) (fun _ _ _ h => h) hm63 ?_
      refine mP rfl ?_
      refine mgSkip (i := 5) rfl (by kernel_rfl) (wgN rfl rfl rfl (by decide) (by kernel_rfl)) (fun _ _ _ h => h) hm63 ?_
      refine mP rfl ?_
      refine mgSkip (i := 6) rfl (by kernel_rfl) (wgN rfl rfl rfl (by decide) (by kernel_rfl)) (fun _ _ _ h => h) hm63 ?_
      refine mP rfl ?_
      refine mgSkip (i := 7) rfl (by kernel_rfl) (wgN rfl rfl rfl (by decide) (by kernel_rfl)) (fun _ _ _ h => h) hm63 ?_
      refine mP rfl ?_
      refine mgSkip (i := 8) rfl (by kernel_rfl) (wgN rfl rfl rfl (by decide) (by kernel_rfl)) (fun _ _ _ h => h) hm63 ?_
      refine mP rfl ?_
      refine mgSkip (i := 9) rfl (by kernel_rfl) (wgN rfl rfl rfl (by decide) (by kernel_rfl)) (fun _ _ _ h => h) hm63 ?_
      refine mP rfl ?_
      refine mgSkip (i := 10) rfl (by kernel_rfl) (wgN rfl rfl rfl (by decide) (by kernel_rfl)) (fun _ _ _ h => h) hm63 ?_
      refine mP rfl ?_
      refine mgSkip (i := 11) rfl (by kernel_rfl) (wgN rfl rfl rfl (by decide) (by kernel_rfl)) (fun _ _ _ h => h) hm63 ?_
      refine mP rfl ?_
      refine mgSkip (i := 12) rfl (by kernel_rfl) (wgN rfl rfl rfl (by decide) (by kernel_rfl)) (fun _ _ _ h => h) hm63 ?_
      refine mP rfl ?_
      refine mgSkip (i := 13) rfl (by kernel_rfl) (wgN rfl rfl rfl (by decide) (by kernel_rfl)) (fun _ _ _ h => h) hm63 ?_
      refine mP rfl ?_
      refine mgSkip (i := 14) rfl (by kernel_rfl) (wgN rfl rfl rfl (by decide) (by kernel_rfl)) (fun _ _ _ h => h) hm63 ?_
      refine mP rfl ?_
      refine mgSkip (i := 15) rfl (by kernel_rfl) (wgN rfl rfl rfl (by decide) (by kernel_rfl)) (fun _ _ _ h => h) hm63 ?_
      refine mP rfl ?_
      refine mk_ (i := 16) (v := .bool false) rfl rfl (fun _ _ _ h => h) hm63 rfl ?_
      refine mgDone (by kernel_rfl) ?_
      refine then_normal (hK62 _ _ ?_)
      refine wpPrune [(4, .pointer (some ⟨g2, 0, none⟩)), (5, .pointer (some ⟨g5, 0, none⟩)), (6, .pointer (some ⟨g8, 0, none⟩)), (7, .int .i64 0), (9, .slice (some ⟨b, 0, none⟩) l.length c), (10, .int .i64 (-1)), (11, .int .i64 (j : Int)), (41, .int .i64 (j : Int)), (42, .slice (some ⟨b, 0, none⟩) l.length c), (43, .int .i64 (l.length : Int)), (44, .bool true), (47, .int .i64 (-1)), (48, .bool false), (49, .bool false), (63, .bool false)] ⟨litGet (by kernel_rfl), ⟨litGet (by kernel_rfl), ⟨litGet (by kernel_rfl), ⟨litGet (by kernel_rfl), ⟨litGet (by kernel_rfl), ⟨litGet (by kernel_rfl), ⟨litGet (by kernel_rfl), ⟨litGet (by kernel_rfl), ⟨litGet (by kernel_rfl), ⟨litGet (by kernel_rfl), ⟨litGet (by kernel_rfl), ⟨litGet (by kernel_rfl), ⟨litGet (by kernel_rfl), ⟨litGet (by kernel_rfl), ⟨litGet (by kernel_rfl), trivial⟩⟩⟩⟩⟩⟩⟩⟩⟩⟩⟩⟩⟩⟩⟩ (fun X77 => ?_)
      refine wp_cond_false (litEv (by kernel_rfl)) ?_
      refine wp_skip ?_
      refine then_normal (hK61 _ _ ?_)
      refine wp_seq_k fun K78 hK78 => ?_
      refine plStart ?_
      refine lk (v := .slice (some ⟨b, 0, none⟩) l.length c) rfl rfl rfl ?_
      refine lk (v := .int .i64 (j : Int)) rfl rfl rfl ?_
      refine litVal (v := .agg (vwc v).toArray) rfl (wn rfl) (gLoadAg (vs := vwc v) (k := 0) 0 hm63 rfl (by kernel_rfl) (by kernel_rfl) (.tmp 4) Ty.ag_voxel_api_Viewer rfl (litEv (by kernel_rfl))) rfl (by decide) ?_
      refine litVal (v := .agg (csc c_).toArray) rfl (wn rfl) (gLoadAg (vs := csc c_) (k := 0) 1 hm63 rfl (by kernel_rfl) (by kernel_rfl) (.tmp 5) Ty.ag_voxel_voxelref43_Costs rfl (litEv (by kernel_rfl))) rfl (by decide) ?_
      refine plCall (i := 4) 31 [.slice (some ⟨b, 0, none⟩) l.length c, .int .i64 (j : Int), .agg (vwc v).toArray, .agg (csc c_).toArray] [] [] rfl (by kernel_rfl) (wn rfl) rfl (litEv (by kernel_rfl)) (litArgs (by kernel_rfl)) (splits_any l j t v c_ _ _ _ (hm63.rdRow 3 rfl) hkt hv_ hok.le hok.all) ?_
      rintro e w79 ⟨rfl, hbz⟩
      have hm80 := hm63.below hbz
      clear hbz hm63
      refine ⟨_, rfl, ?_⟩
      refine qP rfl ?_
      rcases bool_or (decide (splitsP (costP c_) v l j t)) with h81 | h81
      · rw [h81]
        refine lk (v := .bool false) rfl rfl rfl ?_
        refine plD ?_
        refine then_normal (hK78 _ _ ?_)
        refine wp_seq_k fun K82 hK82 => ?_
        refine plStart ?_
        refine lk (v := .bool false) rfl rfl rfl ?_
        refine plD ?_
        refine then_normal (hK82 _ _ ?_)
        refine wp_cond_false (litEv (by kernel_rfl)) ?_
        refine wp_skip ?_
        refine inBlock_normal ?_
        refine then_normal (hK60 _ _ ?_)
        refine plStart ?_
        refine lk (v := .int .i64 (j : Int)) rfl rfl rfl ?_
        refine litVal (v := .int .i64 ((j : Int) + 1)) rfl (wn rfl) (addRun (A := (j : Int)) (B := 1) (C := (j : Int) + 1) (.tmp 45) (.const (.int .i64 1)) rfl (litEv (by kernel_rfl)) (litEv (by kernel_rfl)) rfl (by omega)) rfl (by decide) ?_
        refine lk (v := .int .i64 ((j : Int) + 1)) rfl rfl rfl ?_
        refine plD ?_
        refine then_normal ?_
        exact ⟨_, by omega, (j + 1), (-1), rfl, (by omega), (by rw [refBest_first hbest hkt, if_neg (of_decide_eq_false h81)]), ⟨litSize, rfl, ⟨litGet (by kernel_rfl), ⟨litGet (by kernel_rfl), ⟨litGet (by kernel_rfl), ⟨litGet (by kernel_rfl), ⟨litGet (by kernel_rfl), ⟨litGet (by kernel_rfl), ⟨litGet (by kernel_rfl), trivial⟩⟩⟩⟩⟩⟩⟩⟩, (hm80.sub (.cons_cons _ (.cons_cons _ (.cons_cons _ (.cons_cons _ .slnil)))))⟩
      rw [h81]
      refine lk (v := .bool true) rfl rfl rfl ?_
      refine plD ?_
      refine then_normal (hK78 _ _ ?_)
      refine wp_seq_k fun K83 hK83 => ?_
      refine plStart ?_
      refine lk (v := .bool true) rfl rfl rfl ?_
      refine plD ?_
      refine then_normal (hK83 _ _ ?_)
      refine wp_cond_true (litEv (by kernel_rfl)) ?_
      refine plStart ?_
      refine lk (v := .int .i64 (j : Int)) rfl rfl rfl ?_
      refine lk (v := .int .i64 (j : Int)) rfl rfl rfl ?_
      refine plD ?_
      refine inBlock_normal ?_
      refine then_normal (hK60 _ _ ?_)
      refine plStart ?_
      refine lk (v := .int .i64 (j : Int)) rfl rfl rfl ?_
      refine litVal (v := .int .i64 ((j : Int) + 1)) rfl (wn rfl) (addRun (A := (j : Int)) (B := 1) (C := (j : Int) + 1) (.tmp 45) (.const (.int .i64 1)) rfl (litEv (by kernel_rfl)) (litEv (by kernel_rfl)) rfl (by omega)) rfl (by decide) ?_
      refine lk (v := .int .i64 ((j : Int) + 1)) rfl rfl rfl ?_
      refine plD ?_
      refine then_normal ?_
      exact ⟨_, by omega, (j + 1), (j : Int), rfl, (by omega), (by rw [refBest_first hbest hkt, if_pos (of_decide_eq_true h81)]), ⟨litSize, rfl, ⟨litGet (by kernel_rfl), ⟨litGet (by kernel_rfl), ⟨litGet (by kernel_rfl), ⟨litGet (by kernel_rfl), ⟨litGet (by kernel_rfl), ⟨litGet (by kernel_rfl), ⟨litGet (by kernel_rfl), trivial⟩⟩⟩⟩⟩⟩⟩⟩, (hm80.sub (.cons_cons _ (.cons_cons _ (.cons_cons _ (.cons_cons _ .slnil)))))⟩
    have hje_ : j = l.length := by omega
    rw [hje_, refBest_next_eq (f := costP c_) (v := v) rfl] at hbest
    refine litVal (v := .bool false) rfl (wn rfl) (boolTo (decide_eq_false h59) (lssRun (A := (j : Int)) (B := (l.length : Int)) (.tmp 41) (.tmp 43) rfl (litEv (by kernel_rfl)) (litEv (by kernel_rfl)))) rfl (by decide) ?_
    refine plD ?_
    refine then_normal (hK58 _ _ ?_)
    refine wp_cond_false (litEv (by kernel_rfl)) ?_
    refine wp_exit ?_
    refine then_exit ?_
    refine then_exit ?_
    refine inBlock_exit ?_
    refine then_normal (hK51 _ _ ?_)
    refine wp_seq_k fun K84 hK84 => ?_
    refine wp_seq_k fun K85 hK85 => ?_
    refine plStart ?_
    refine lk (v := .int .i64 best) rfl rfl rfl ?_
    by_cases h86 : best < 0
    · have hG_ := planG_stop (f := costP c_) (v := v) (cost := totalP (costP c_) l) (l := l) (n := fu) (by omega)
      rw [hok.go] at hG_
      refine litVal (v := .bool true) rfl (wn rfl) (boolTo (decide_eq_true h86) (lssRun (A := best) (B := 0) (.tmp 71) (.const (.int .i64 0)) rfl (litEv (by kernel_rfl)) (litEv (by kernel_rfl)))) rfl (by decide) ?_
      refine plD ?_
      refine then_normal (hK85 _ _ ?_)
      refine wp_cond_true (litEv (by kernel_rfl)) ?_
      refine wp_exit ?_
      refine then_exit ?_
      refine inBlock_other (by decide) ?_
      refine then_exit ?_
      refine inBlock_exit ?_
      refine then_normal (hK43 _ _ ?_)
      refine wp_seq_k fun K87 hK87 => ?_
      refine plStart ?_
      refine lk (v := .slice (some ⟨b, 0, none⟩) l.length c) rfl rfl rfl ?_
      refine lk (v := .slice (some ⟨b, 0, none⟩) l.length c) rfl rfl rfl ?_
      refine litVal (v := .agg (csc c_).toArray) rfl (wn rfl) (gLoadAg (vs := csc c_) (k := 0) 1 hm54 rfl (by kernel_rfl) (by kernel_rfl) (.tmp 5) Ty.ag_voxel_voxelref43_Costs rfl (litEv (by kernel_rfl))) rfl (by decide) ?_
      refine plCall (i := 3) 30 [.slice (some ⟨b, 0, none⟩) l.length c, .agg (csc c_).toArray] [] [] rfl (by kernel_rfl) (wn rfl) rfl (litEv (by kernel_rfl)) (litArgs (by kernel_rfl)) (total_any l c_ _ _ _ (hm54.rdRow 3 rfl) (by have := hok.fuel; have := hok.len; omega) (by have := hok.le; omega) hok.all) ?_
      rintro e w88 ⟨rfl, hbz⟩
      have hm89 := hm54.below hbz
      clear hbz hm54
      refine ⟨_, rfl, ?_⟩
      refine qP rfl ?_
      refine lk (v := .agg ([.slice (some ⟨b, 0, none⟩) l.length c, .int .i64 (totalP (costP c_) l), .int .i64 0, .int .i64 0]).toArray) rfl rfl rfl ?_
      refine plAlloc (z := [.slice none 0 0, .int .i64 0, .int .i64 0, .int .i64 0]) Ty.ag_voxel_api_Planned hm89 (i := 5) rfl (wn rfl) rfl ?_
      intro g90 w92 hm91
      clear hm89
      try simp only [List.cons_append, List.nil_append, List.set_cons_succ, List.set_cons_zero] at hm91
      refine qP rfl ?_
      refine plStore 4 Ty.ag_voxel_api_Planned hm91 rfl (i := 6) (cs := [.slice (some ⟨b, 0, none⟩) l.length c, .int .i64 (totalP (costP c_) l), .int .i64 0, .int .i64 0]) rfl (wn rfl) rfl (litEv (by kernel_rfl)) (litEv (by kernel_rfl)) rfl rfl (by kernel_rfl) ?_
      intro w94 hm93
      clear hm91
      try simp only [List.cons_append, List.nil_append, List.set_cons_succ, List.set_cons_zero] at hm93
      refine qNone rfl ?_
      refine plD ?_
      refine then_normal (hK87 _ _ ?_)
      refine wpPrune [(4, .pointer (some ⟨g2, 0, none⟩)), (6, .pointer (some ⟨g8, 0, none⟩)), (7, .int .i64 0), (9, .slice (some ⟨b, 0, none⟩) l.length c), (15, .pointer (some ⟨g90, 0, none⟩))] ⟨litGet (by kernel_rfl), ⟨litGet (by kernel_rfl), ⟨litGet (by kernel_rfl), ⟨litGet (by kernel_rfl), ⟨litGet (by kernel_rfl), trivial⟩⟩⟩⟩⟩ (fun X95 => ?_)
      refine wp_seq_k fun K96 hK96 => ?_
      refine wp_seq_k fun K97 hK97 => ?_
      refine plStart ?_
      refine lk (v := .int .i64 0) rfl rfl rfl ?_
      refine plD ?_
      refine then_normal (hK97 _ _ ?_)
      refine wp_block ?_
      refine gwLoop (fun n_ a_ w_ => ∃ (i : Nat) (bnd wst : Int), n_ = l.length - i ∧ (i ≤ l.length) ∧ ((l.drop i).foldl boundF bnd = boundP l) ∧ ((l.drop i).foldl (worstF v) wst = worstP v l) ∧ Fr a_ 112 [(4, .pointer (some ⟨g2, 0, none⟩)), (6, .pointer (some ⟨g8, 0, none⟩)), (7, .int .i64 0), (9, .slice (some ⟨b, 0, none⟩) l.length c), (15, .pointer (some ⟨g90, 0, none⟩)), (16, .int .i64 (i : Int))] ∧ Mem w w_ [.arr g2 25 (vwc v), .arr g5 27 (csc c_), .arr g8 31 ([.slice none 0 0, .int .i64 0, .int .i64 0, .int .i64 0]), .row (.slice (some ⟨b, 0, none⟩) l.length c) 38 4 l.length (tlsC l), .arr g90 31 ([.slice (some ⟨b, 0, none⟩) l.length c, .int .i64 (totalP (costP c_) l), .int .i64 bnd, .int .i64 wst])]) (l.length - 0) ⟨0, 0, 0, rfl, (Nat.zero_le _), rfl, rfl, ⟨litSize, rfl, ⟨litGet (by kernel_rfl), ⟨litGet (by kernel_rfl), ⟨litGet (by kernel_rfl), ⟨litGet (by kernel_rfl), ⟨litGet (by kernel_rfl), ⟨litGet (by kernel_rfl), trivial⟩⟩⟩⟩⟩⟩⟩, hm93⟩ ?_
      clear hm93
      intro n_ a100 w98 hI_
      obtain ⟨i, bnd, wst, rfl, hil, hb1, hb2, hF_, hm99⟩ := hI_
      obtain ⟨X101, rfl⟩ := frLit hF_
      clear hF_
      refine wp_seq_k fun K102 hK102 => ?_
      refine wp_seq_k fun K103 hK103 => ?_
      refine plStart ?_
      refine lk (v := .int .i64 (i : Int)) rfl rfl rfl ?_
      refine lk (v := .slice (some ⟨b, 0, none⟩) l.length c) rfl rfl rfl ?_
      refine litVal (v := .int .i64 (l.length : Int)) rfl (wn rfl) (lenSlRun (A := some ⟨b, 0, none⟩) (n := l.length) (c := c) (.tmp 86) Ty.und_L_api_Tile rfl (litEv (by kernel_rfl))) rfl (by decide) ?_
      by_cases h104 : (i : Int) < (l.length : Int)
      · obtain ⟨t, hkt⟩ : ∃ t, l[i]? = some t := ⟨_, List.getElem?_eq_getElem (by omega)⟩
        have htok : t.Ok := hok.all t (List.mem_of_getElem? hkt)
        have hp2_ := pow12 htok.lv
        have hlv_ := htok.lv
        refine litVal (v := .bool true) rfl (wn rfl) (boolTo (decide_eq_true h104) (lssRun (A := (i : Int)) (B := (l.length : Int)) (.tmp 85) (.tmp 87) rfl (litEv (by kernel_rfl)) (litEv (by kernel_rfl)))) rfl (by decide) ?_
        refine plD ?_
        refine then_normal (hK103 _ _ ?_)
        refine wp_cond_true (litEv (by kernel_rfl)) ?_
        refine wp_skip ?_
        refine then_normal (hK102 _ _ ?_)
        refine wp_seq_k fun K105 hK105 => ?_
        refine wp_block ?_
        refine wp_seq_k fun K106 hK106 => ?_
        refine aoStart (aoV [fun _ => .pointer (some ⟨g90, 2, none⟩), fun _ => .int .i64 bnd, fun _ => .slice (some ⟨b, 0, none⟩) l.length c, fun _ => .int .i64 (i : Int), fun _ => .pointer (some ⟨b, 0 + i * 4, none⟩), fun _ => .pointer (some ⟨b, 0 + i * 4, none⟩), fun _ => .int .i64 t.lv, fun _ => .int .i64 (2 ^ t.lv.toNat), fun _ => .int .i64 (max bnd (2 ^ t.lv.toNat)), fun _ => .pointer (some ⟨g90, 2, none⟩), fun _ => undef]) (aoA [0, 1, 2, 3, 4, 5, 6, 7, 8, 9, 10]) (fun b_ g_ => ((.arr g2 25 (vwc v)) :: (.arr g5 27 (csc c_)) :: (.arr g8 31 ([.slice none 0 0, .int .i64 0, .int .i64 0, .int .i64 0])) :: (.row (.slice (some ⟨b, 0, none⟩) l.length c) 38 4 l.length (tlsC l)) :: (.arr g90 31 (bsel (b_ 10) [.slice (some ⟨b, 0, none⟩) l.length c, .int .i64 (totalP (costP c_) l), .int .i64 (max bnd (2 ^ t.lv.toNat)), .int .i64 wst] [.slice (some ⟨b, 0, none⟩) l.length c, .int .i64 (totalP (costP c_) l), .int .i64 bnd, .int .i64 wst])) :: [])) hm99 (by kernel_rfl) (by kernel_rfl) (fun w_ h_ => h_) (fun b_ g_ h_ => by show (fun (x10_ : Bool) => (((.arr g2 25 (vwc v)) :: (.arr g5 27 (csc c_)) :: (.arr g8 31 ([.slice none 0 0, .int .i64 0, .int .i64 0, .int .i64 0])) :: (.row (.slice (some ⟨b, 0, none⟩) l.length c) 38 4 l.length (tlsC l)) :: (.arr g90 31 (bsel x10_ [.slice (some ⟨b, 0, none⟩) l.length c, .int .i64 (totalP (costP c_) l), .int .i64 (max bnd (2 ^ t.lv.toNat)), .int .i64 wst] [.slice (some ⟨b, 0, none⟩) l.length c, .int .i64 (totalP (costP c_) l), .int .i64 bnd, .int .i64 wst])) :: []) : List Res)) (b_ 10) = _; rw [h_ 10 (by decide)]) ?_ ?_
        · refine aoNext rfl (aoVal (fun g_ => [(15, .pointer (some ⟨g90, 0, none⟩))]) (fun g_ a_ h_k => ⟨(h_k.out 15 (by kernel_rfl)).trans (litGet (by kernel_rfl)), trivial⟩) (fun g_ X_ => (wn rfl)) (fun b_ g_ => by kernel_rfl) (fun b_ g_ X_ w_ h_b h_ => valTo (b := .pointer (some ⟨g90, 2, none⟩)) (by kernel_rfl) (litRun (by kernel_rfl)))) ?_
          refine aoNext rfl (aoVal (fun g_ => [(91, .pointer (some ⟨g90, 2, none⟩))]) (fun g_ a_ h_k => ⟨(h_k.inn 0 _ _ (by kernel_rfl) rfl rfl).trans (by kernel_rfl), trivial⟩) (fun g_ X_ => (wn rfl)) (fun b_ g_ => by kernel_rfl) (fun b_ g_ X_ w_ h_b h_ => valTo (b := .int .i64 bnd) (by kernel_rfl) ((fun (h_ : Mem _ w_ ((.arr g2 25 (vwc v)) :: (.arr g5 27 (csc c_)) :: (.arr g8 31 ([.slice none 0 0, .int .i64 0, .int .i64 0, .int .i64 0])) :: (.row (.slice (some ⟨b, 0, none⟩) l.length c) 38 4 l.length (tlsC l)) :: (.arr g90 31 ([.slice (some ⟨b, 0, none⟩) l.length c, .int .i64 (totalP (costP c_) l), .int .i64 bnd, .int .i64 wst])) :: [])) => gLoad (v := .int .i64 bnd) (k := 2) 4 h_ rfl (by kernel_rfl) (.tmp 91) (by kernel_rfl) rfl (litEv (by kernel_rfl))) (by have h2_ : Mem w w_ ((.arr g2 25 (vwc v)) :: (.arr g5 27 (csc c_)) :: (.arr g8 31 ([.slice none 0 0, .int .i64 0, .int .i64 0, .int .i64 0])) :: (.row (.slice (some ⟨b, 0, none⟩) l.length c) 38 4 l.length (tlsC l)) :: (.arr g90 31 (bsel (b_ 10) [.slice (some ⟨b, 0, none⟩) l.length c, .int .i64 (totalP (costP c_) l), .int .i64 (max bnd (2 ^ t.lv.toNat)), .int .i64 wst] [.slice (some ⟨b, 0, none⟩) l.length c, .int .i64 (totalP (costP c_) l), .int .i64 bnd, .int .i64 wst])) :: []) := h_; rw [bselF (h_b.post 10 (by kernel_rfl))] at h2_; exact h2_)))) ?_
          refine aoNext rfl (aoVal (fun g_ => [(9, .slice (some ⟨b, 0, none⟩) l.length c)]) (fun g_ a_ h_k => ⟨(h_k.out 9 (by kernel_rfl)).trans (litGet (by kernel_rfl)), trivial⟩) (fun g_ X_ => (wn rfl)) (fun b_ g_ => by kernel_rfl) (fun b_ g_ X_ w_ h_b h_ => valTo (b := .slice (some ⟨b, 0, none⟩) l.length c) (by kernel_rfl) (litRun (by kernel_rfl)))) ?_
          refine aoNext rfl (aoVal (fun g_ => [(16, .int .i64 (i : Int))]) (fun g_ a_ h_k => ⟨(h_k.out 16 (by kernel_rfl)).trans (litGet (by kernel_rfl)), trivial⟩) (fun g_ X_ => (wn rfl)) (fun b_ g_ => by kernel_rfl) (fun b_ g_ X_ w_ h_b h_ => valTo (b := .int .i64 (i : Int)) (by kernel_rfl) (litRun (by kernel_rfl)))) ?_
          refine aoNext rfl (aoVal (fun g_ => [(93, .slice (some ⟨b, 0, none⟩) l.length c), (94, .int .i64 (i : Int))]) (fun g_ a_ h_k => ⟨(h_k.inn 2 _ _ (by kernel_rfl) rfl rfl).trans (by kernel_rfl), (h_k.inn 3 _ _ (by kernel_rfl) rfl rfl).trans (by kernel_rfl), trivial⟩) (fun g_ X_ => (wn rfl)) (fun b_ g_ => by kernel_rfl) (fun b_ g_ X_ w_ h_b h_ => valTo (b := .pointer (some ⟨b, 0 + i * 4, none⟩)) (by kernel_rfl) (gIaSl (b := b) (off := 0) (n := l.length) (c := c) (kk := .i64) (K := (i : Int)) (.tmp 93) (.tmp 94) i Ty.sl_L_api_Tile rfl (litEv (by kernel_rfl)) (litEv (by kernel_rfl)) (rfl) (by omega)))) ?_
          refine aoNext rfl (aoVal (fun g_ => [(95, .pointer (some ⟨b, 0 + i * 4, none⟩))]) (fun g_ a_ h_k => ⟨(h_k.inn 4 _ _ (by kernel_rfl) rfl rfl).trans (by kernel_rfl), trivial⟩) (fun g_ X_ => (wn rfl)) (fun b_ g_ => by kernel_rfl) (fun b_ g_ X_ w_ h_b h_ => valTo (b := .pointer (some ⟨b, 0 + i * 4, none⟩)) (by kernel_rfl) (litRun (by kernel_rfl)))) ?_
          refine aoNext rfl (aoVal (fun g_ => [(96, .pointer (some ⟨b, 0 + i * 4, none⟩))]) (fun g_ a_ h_k => ⟨(h_k.inn 5 _ _ (by kernel_rfl) rfl rfl).trans (by kernel_rfl), trivial⟩) (fun g_ X_ => (wn rfl)) (fun b_ g_ => by kernel_rfl) (fun b_ g_ X_ w_ h_b h_ => valTo (b := .int .i64 t.lv) (by kernel_rfl) ((fun (h_ : Mem _ w_ ((.arr g2 25 (vwc v)) :: (.arr g5 27 (csc c_)) :: (.arr g8 31 ([.slice none 0 0, .int .i64 0, .int .i64 0, .int .i64 0])) :: (.row (.slice (some ⟨b, 0, none⟩) l.length c) 38 4 l.length (tlsC l)) :: (.arr g90 31 ([.slice (some ⟨b, 0, none⟩) l.length c, .int .i64 (totalP (costP c_) l), .int .i64 bnd, .int .i64 wst])) :: [])) => gLoadRd (v := .int .i64 t.lv) (m := i * 4) (h_.rdRow 3 rfl) rfl (tlsC_get hkt 0 _ rfl) (by omega) (.tmp 96) (by kernel_rfl) rfl (litEv (by kernel_rfl))) (by have h2_ : Mem w w_ ((.arr g2 25 (vwc v)) :: (.arr g5 27 (csc c_)) :: (.arr g8 31 ([.slice none 0 0, .int .i64 0, .int .i64 0, .int .i64 0])) :: (.row (.slice (some ⟨b, 0, none⟩) l.length c) 38 4 l.length (tlsC l)) :: (.arr g90 31 (bsel (b_ 10) [.slice (some ⟨b, 0, none⟩) l.length c, .int .i64 (totalP (costP c_) l), .int .i64 (max bnd (2 ^ t.lv.toNat)), .int .i64 wst] [.slice (some ⟨b, 0, none⟩) l.length c, .int .i64 (totalP (costP c_) l), .int .i64 bnd, .int .i64 wst])) :: []) := h_; rw [bselF (h_b.post 10 (by kernel_rfl))] at h2_; exact h2_)))) ?_
          refine aoNext rfl (aoVal (fun g_ => [(97, .int .i64 t.lv)]) (fun g_ a_ h_k => ⟨(h_k.inn 6 _ _ (by kernel_rfl) rfl rfl).trans (by kernel_rfl), trivial⟩) (fun g_ X_ => (wn rfl)) (fun b_ g_ => by kernel_rfl) (fun b_ g_ X_ w_ h_b h_ => valTo (b := .int .i64 (2 ^ t.lv.toNat)) (by kernel_rfl) (gShl (A := 1) (N := t.lv) (C := 2 ^ t.lv.toNat) (.const (.int .i64 1)) (.tmp 97) rfl (litEv (by kernel_rfl)) (litEv (by kernel_rfl)) (Int.one_mul _) (by omega) (by omega) (by omega)))) ?_
          refine aoNext rfl (aoVal (fun g_ => [(92, .int .i64 bnd), (98, .int .i64 (2 ^ t.lv.toNat))]) (fun g_ a_ h_k => ⟨(h_k.inn 1 _ _ (by kernel_rfl) rfl rfl).trans (by kernel_rfl), (h_k.inn 7 _ _ (by kernel_rfl) rfl rfl).trans (by kernel_rfl), trivial⟩) (fun g_ X_ => (wn rfl)) (fun b_ g_ => by kernel_rfl) (fun b_ g_ X_ w_ h_b h_ => valTo (b := .int .i64 (max bnd (2 ^ t.lv.toNat))) (by kernel_rfl) (gMax (.tmp 92) (.tmp 98) rfl (litEv (by kernel_rfl)) (litEv (by kernel_rfl))))) ?_
          refine aoNext rfl (aoVal (fun g_ => [(15, .pointer (some ⟨g90, 0, none⟩))]) (fun g_ a_ h_k => ⟨(h_k.out 15 (by kernel_rfl)).trans (litGet (by kernel_rfl)), trivial⟩) (fun g_ X_ => (wn rfl)) (fun b_ g_ => by kernel_rfl) (fun b_ g_ X_ w_ h_b h_ => valTo (b := .pointer (some ⟨g90, 2, none⟩)) (by kernel_rfl) (litRun (by kernel_rfl)))) ?_
          refine aoNext rfl (aoStore1 (gb := fun g_ => g90) (k := 2) (cur := fun g_ => [.slice (some ⟨b, 0, none⟩) l.length c, .int .i64 (totalP (costP c_) l), .int .i64 bnd, .int .i64 wst]) (v := fun g_ => .int .i64 (max bnd (2 ^ t.lv.toNat))) (v0 := fun g_ => .int .i64 bnd) 4 (fun g_ => [(99, .int .i64 (max bnd (2 ^ t.lv.toNat))), (100, .pointer (some ⟨g90, 2, none⟩))]) (fun g_ a_ h_k => ⟨(h_k.inn 8 _ _ (by kernel_rfl) rfl rfl).trans (by kernel_rfl), (h_k.inn 9 _ _ (by kernel_rfl) rfl rfl).trans (by kernel_rfl), trivial⟩) (by kernel_rfl) (fun b_ g_ h_b => by show some (Res.arr g90 31 (bsel (b_ 10) [.slice (some ⟨b, 0, none⟩) l.length c, .int .i64 (totalP (costP c_) l), .int .i64 (max bnd (2 ^ t.lv.toNat)), .int .i64 wst] [.slice (some ⟨b, 0, none⟩) l.length c, .int .i64 (totalP (costP c_) l), .int .i64 bnd, .int .i64 wst])) = some (Res.arr g90 31 ([.slice (some ⟨b, 0, none⟩) l.length c, .int .i64 (totalP (costP c_) l), .int .i64 bnd, .int .i64 wst])); rw [bselF h_b.no]) (fun g_ X_ => (wn rfl)) rfl (fun g_ X_ => litEv (by kernel_rfl)) (fun g_ X_ => litEv (by kernel_rfl)) (fun _ => rfl) (fun _ => rfl) (fun _ => rfl) (fun b_ g_ h_b => by kernel_rfl) rfl) ?_
          exact aoDone (by decide)
        intro g_ a_ w108 hF_ hm107
        obtain ⟨X109, rfl⟩ := frLit (⟨hF_.size, hF_.defers, ⟨(hF_.out 4 (by kernel_rfl)).trans (litGet (by kernel_rfl)), (hF_.out 6 (by kernel_rfl)).trans (litGet (by kernel_rfl)), (hF_.out 7 (by kernel_rfl)).trans (litGet (by kernel_rfl)), (hF_.out 9 (by kernel_rfl)).trans (litGet (by kernel_rfl)), (hF_.out 15 (by kernel_rfl)).trans (litGet (by kernel_rfl)), (hF_.out 16 (by kernel_rfl)).trans (litGet (by kernel_rfl)), (hF_.out 85 (by kernel_rfl)).trans (litGet (by kernel_rfl)), (hF_.out 86 (by kernel_rfl)).trans (litGet (by kernel_rfl)), (hF_.out 87 (by kernel_rfl)).trans (litGet (by kernel_rfl)), (hF_.out 88 (by kernel_rfl)).trans (litGet (by kernel_rfl)), (hF_.inn 0 _ _ rfl rfl).trans (by kernel_rfl), (hF_.inn 1 _ _ rfl rfl).trans (by kernel_rfl), (hF_.inn 2 _ _ rfl rfl).trans (by kernel_rfl), (hF_.inn 3 _ _ rfl rfl).trans (by kernel_rfl), (hF_.inn 4 _ _ rfl rfl).trans (by kernel_rfl), (hF_.inn 5 _ _ rfl rfl).trans (by kernel_rfl), (hF_.inn 6 _ _ rfl rfl).trans (by kernel_rfl), (hF_.inn 7 _ _ rfl rfl).trans (by kernel_rfl), (hF_.inn 8 _ _ rfl rfl).trans (by kernel_rfl), (hF_.inn 9 _ _ rfl rfl).trans (by kernel_rfl), trivial⟩⟩ : Fr _ 112 [(4, .pointer (some ⟨g2, 0, none⟩)), (6, .pointer (some ⟨g8, 0, none⟩)), (7, .int .i64 0), (9, .slice (some ⟨b, 0, none⟩) l.length c), (15, .pointer (some ⟨g90, 0, none⟩)), (16, .int .i64 (i : Int)), (85, .int .i64 (i : Int)), (86, .slice (some ⟨b, 0, none⟩) l.length c), (87, .int .i64 (l.length : Int)), (88, .bool true), (91, .pointer (some ⟨g90, 2, none⟩)), (92, .int .i64 bnd), (93, .slice (some ⟨b, 0, none⟩) l.length c), (94, .int .i64 (i : Int)), (95, .pointer (some ⟨b, 0 + i * 4, none⟩)), (96, .pointer (some ⟨b, 0 + i * 4, none⟩)), (97, .int .i64 t.lv), (98, .int .i64 (2 ^ t.lv.toNat)), (99, .int .i64 (max bnd (2 ^ t.lv.toNat))), (100, .pointer (some ⟨g90, 2, none⟩))])
        clear hF_
        have hm110 : Mem w w108 [.arr g2 25 (vwc v), .arr g5 27 (csc c_), .arr g8 31 ([.slice none 0 0, .int .i64 0, .int .i64 0, .int .i64 0]), .row (.slice (some ⟨b, 0, none⟩) l.length c) 38 4 l.length (tlsC l), .arr g90 31 ([.slice (some ⟨b, 0, none⟩) l.length c, .int .i64 (totalP (costP c_) l), .int .i64 (max bnd (2 ^ t.lv.toNat)), .int .i64 wst])] := hm107
        clear hm107 hm99
        refine then_normal (hK106 _ _ ?_)
        refine aoStart (aoV [fun _ => .pointer (some ⟨g90, 3, none⟩), fun _ => .int .i64 wst, fun _ => .agg (vwc v).toArray, fun _ => .slice (some ⟨b, 0, none⟩) l.length c, fun _ => .int .i64 (i : Int), fun _ => .pointer (some ⟨b, 0 + i * 4, none⟩), fun _ => .agg (tlc t).toArray, fun _ => .int .i64 (err v t), fun _ => .int .i64 (max wst (err v t)), fun _ => .pointer (some ⟨g90, 3, none⟩), fun _ => undef]) (aoA [0, 1, 2, 3, 4, 5, 6, 7, 8, 9, 10]) (fun b_ g_ => ((.arr g2 25 (vwc v)) :: (.arr g5 27 (csc c_)) :: (.arr g8 31 ([.slice none 0 0, .int .i64 0, .int .i64 0, .int .i64 0])) :: (.row (.slice (some ⟨b, 0, none⟩) l.length c) 38 4 l.length (tlsC l)) :: (.arr g90 31 (bsel (b_ 10) [.slice (some ⟨b, 0, none⟩) l.length c, .int .i64 (totalP (costP c_) l), .int .i64 (max bnd (2 ^ t.lv.toNat)), .int .i64 (max wst (err v t))] [.slice (some ⟨b, 0, none⟩) l.length c, .int .i64 (totalP (costP c_) l), .int .i64 (max bnd (2 ^ t.lv.toNat)), .int .i64 wst])) :: [])) hm110 (by kernel_rfl) (by kernel_rfl) (fun w_ h_ => h_) (fun b_ g_ h_ => by show (fun (x10_ : Bool) => (((.arr g2 25 (vwc v)) :: (.arr g5 27 (csc c_)) :: (.arr g8 31 ([.slice none 0 0, .int .i64 0, .int .i64 0, .int .i64 0])) :: (.row (.slice (some ⟨b, 0, none⟩) l.length c) 38 4 l.length (tlsC l)) :: (.arr g90 31 (bsel x10_ [.slice (some ⟨b, 0, none⟩) l.length c, .int .i64 (totalP (costP c_) l), .int .i64 (max bnd (2 ^ t.lv.toNat)), .int .i64 (max wst (err v t))] [.slice (some ⟨b, 0, none⟩) l.length c, .int .i64 (totalP (costP c_) l), .int .i64 (max bnd (2 ^ t.lv.toNat)), .int .i64 wst])) :: []) : List Res)) (b_ 10) = _; rw [h_ 10 (by decide)]) ?_ ?_
        · refine aoNext rfl (aoVal (fun g_ => [(15, .pointer (some ⟨g90, 0, none⟩))]) (fun g_ a_ h_k => ⟨(h_k.out 15 (by kernel_rfl)).trans (litGet (by kernel_rfl)), trivial⟩) (fun g_ X_ => (wn rfl)) (fun b_ g_ => by kernel_rfl) (fun b_ g_ X_ w_ h_b h_ => valTo (b := .pointer (some ⟨g90, 3, none⟩)) (by kernel_rfl) (litRun (by kernel_rfl)))) ?_
          refine aoNext rfl (aoVal (fun g_ => [(101, .pointer (some ⟨g90, 3, none⟩))]) (fun g_ a_ h_k => ⟨(h_k.inn 0 _ _ (by kernel_rfl) rfl rfl).trans (by kernel_rfl), trivial⟩) (fun g_ X_ => (wn rfl)) (fun b_ g_ => by kernel_rfl) (fun b_ g_ X_ w_ h_b h_ => valTo (b := .int .i64 wst) (by kernel_rfl) ((fun (h_ : Mem _ w_ ((.arr g2 25 (vwc v)) :: (.arr g5 27 (csc c_)) :: (.arr g8 31 ([.slice none 0 0, .int .i64 0, .int .i64 0, .int .i64 0])) :: (.row (.slice (some ⟨b, 0, none⟩) l.length c) 38 4 l.length (tlsC l)) :: (.arr g90 31 ([.slice (some ⟨b, 0, none⟩) l.length c, .int .i64 (totalP (costP c_) l), .int .i64 (max bnd (2 ^ t.lv.toNat)), .int .i64 wst])) :: [])) => gLoad (v := .int .i64 wst) (k := 3) 4 h_ rfl (by kernel_rfl) (.tmp 101) (by kernel_rfl) rfl (litEv (by kernel_rfl))) (by have h2_ : Mem w w_ ((.arr g2 25 (vwc v)) :: (.arr g5 27 (csc c_)) :: (.arr g8 31 ([.slice none 0 0, .int .i64 0, .int .i64 0, .int .i64 0])) :: (.row (.slice (some ⟨b, 0, none⟩) l.length c) 38 4 l.length (tlsC l)) :: (.arr g90 31 (bsel (b_ 10) [.slice (some ⟨b, 0, none⟩) l.length c, .int .i64 (totalP (costP c_) l), .int .i64 (max bnd (2 ^ t.lv.toNat)), .int .i64 (max wst (err v t))] [.slice (some ⟨b, 0, none⟩) l.length c, .int .i64 (totalP (costP c_) l), .int .i64 (max bnd (2 ^ t.lv.toNat)), .int .i64 wst])) :: []) := h_; rw [bselF (h_b.post 10 (by kernel_rfl))] at h2_; exact h2_)))) ?_
          refine aoNext rfl (aoVal (fun g_ => [(4, .pointer (some ⟨g2, 0, none⟩))]) (fun g_ a_ h_k => ⟨(h_k.out 4 (by kernel_rfl)).trans (litGet (by kernel_rfl)), trivial⟩) (fun g_ X_ => (wn rfl)) (fun b_ g_ => by kernel_rfl) (fun b_ g_ X_ w_ h_b h_ => valTo (b := .agg (vwc v).toArray) (by kernel_rfl) ((fun (h_ : Mem _ w_ ((.arr g2 25 (vwc v)) :: (.arr g5 27 (csc c_)) :: (.arr g8 31 ([.slice none 0 0, .int .i64 0, .int .i64 0, .int .i64 0])) :: (.row (.slice (some ⟨b, 0, none⟩) l.length c) 38 4 l.length (tlsC l)) :: (.arr g90 31 ([.slice (some ⟨b, 0, none⟩) l.length c, .int .i64 (totalP (costP c_) l), .int .i64 (max bnd (2 ^ t.lv.toNat)), .int .i64 wst])) :: [])) => gLoadAg (vs := vwc v) (k := 0) 0 h_ rfl (by kernel_rfl) (by kernel_rfl) (.tmp 4) Ty.ag_voxel_api_Viewer rfl (litEv (by kernel_rfl))) (by have h2_ : Mem w w_ ((.arr g2 25 (vwc v)) :: (.arr g5 27 (csc c_)) :: (.arr g8 31 ([.slice none 0 0, .int .i64 0, .int .i64 0, .int .i64 0])) :: (.row (.slice (some ⟨b, 0, none⟩) l.length c) 38 4 l.length (tlsC l)) :: (.arr g90 31 (bsel (b_ 10) [.slice (some ⟨b, 0, none⟩) l.length c, .int .i64 (totalP (costP c_) l), .int .i64 (max bnd (2 ^ t.lv.toNat)), .int .i64 (max wst (err v t))] [.slice (some ⟨b, 0, none⟩) l.length c, .int .i64 (totalP (costP c_) l), .int .i64 (max bnd (2 ^ t.lv.toNat)), .int .i64 wst])) :: []) := h_; rw [bselF (h_b.post 10 (by kernel_rfl))] at h2_; exact h2_)))) ?_
          refine aoNext rfl (aoVal (fun g_ => [(9, .slice (some ⟨b, 0, none⟩) l.length c)]) (fun g_ a_ h_k => ⟨(h_k.out 9 (by kernel_rfl)).trans (litGet (by kernel_rfl)), trivial⟩) (fun g_ X_ => (wn rfl)) (fun b_ g_ => by kernel_rfl) (fun b_ g_ X_ w_ h_b h_ => valTo (b := .slice (some ⟨b, 0, none⟩) l.length c) (by kernel_rfl) (litRun (by kernel_rfl)))) ?_
          refine aoNext rfl (aoVal (fun g_ => [(16, .int .i64 (i : Int))]) (fun g_ a_ h_k => ⟨(h_k.out 16 (by kernel_rfl)).trans (litGet (by kernel_rfl)), trivial⟩) (fun g_ X_ => (wn rfl)) (fun b_ g_ => by kernel_rfl) (fun b_ g_ X_ w_ h_b h_ => valTo (b := .int .i64 (i : Int)) (by kernel_rfl) (litRun (by kernel_rfl)))) ?_
          refine aoNext rfl (aoVal (fun g_ => [(104, .slice (some ⟨b, 0, none⟩) l.length c), (105, .int .i64 (i : Int))]) (fun g_ a_ h_k => ⟨(h_k.inn 3 _ _ (by kernel_rfl) rfl rfl).trans (by kernel_rfl), (h_k.inn 4 _ _ (by kernel_rfl) rfl rfl).trans (by kernel_rfl), trivial⟩) (fun g_ X_ => (wn rfl)) (fun b_ g_ => by kernel_rfl) (fun b_ g_ X_ w_ h_b h_ => valTo (b := .pointer (some ⟨b, 0 + i * 4, none⟩)) (by kernel_rfl) (gIaSl (b := b) (off := 0) (n := l.length) (c := c) (kk := .i64) (K := (i : Int)) (.tmp 104) (.tmp 105) i Ty.sl_L_api_Tile rfl (litEv (by kernel_rfl)) (litEv (by kernel_rfl)) (rfl) (by omega)))) ?_
          refine aoNext rfl (aoVal (fun g_ => [(106, .pointer (some ⟨b, 0 + i * 4, none⟩))]) (fun g_ a_ h_k => ⟨(h_k.inn 5 _ _ (by kernel_rfl) rfl rfl).trans (by kernel_rfl), trivial⟩) (fun g_ X_ => (wn rfl)) (fun b_ g_ => by kernel_rfl) (fun b_ g_ X_ w_ h_b h_ => valTo (b := .agg (tlc t).toArray) (by kernel_rfl) ((fun (h_ : Mem _ w_ ((.arr g2 25 (vwc v)) :: (.arr g5 27 (csc c_)) :: (.arr g8 31 ([.slice none 0 0, .int .i64 0, .int .i64 0, .int .i64 0])) :: (.row (.slice (some ⟨b, 0, none⟩) l.length c) 38 4 l.length (tlsC l)) :: (.arr g90 31 ([.slice (some ⟨b, 0, none⟩) l.length c, .int .i64 (totalP (costP c_) l), .int .i64 (max bnd (2 ^ t.lv.toNat)), .int .i64 wst])) :: [])) => gLoadAgRd (vs := tlc t) (m := i * 4) (h_.rdRow 3 rfl) rfl (fun i_ u_ hu_ => tlsC_get hkt i_ u_ hu_) (by kernel_rfl) (by omega) (.tmp 106) Ty.ag_voxel_api_Tile rfl (litEv (by kernel_rfl))) (by have h2_ : Mem w w_ ((.arr g2 25 (vwc v)) :: (.arr g5 27 (csc c_)) :: (.arr g8 31 ([.slice none 0 0, .int .i64 0, .int .i64 0, .int .i64 0])) :: (.row (.slice (some ⟨b, 0, none⟩) l.length c) 38 4 l.length (tlsC l)) :: (.arr g90 31 (bsel (b_ 10) [.slice (some ⟨b, 0, none⟩) l.length c, .int .i64 (totalP (costP c_) l), .int .i64 (max bnd (2 ^ t.lv.toNat)), .int .i64 (max wst (err v t))] [.slice (some ⟨b, 0, none⟩) l.length c, .int .i64 (totalP (costP c_) l), .int .i64 (max bnd (2 ^ t.lv.toNat)), .int .i64 wst])) :: []) := h_; rw [bselF (h_b.post 10 (by kernel_rfl))] at h2_; exact h2_)))) ?_
          refine aoNext rfl (aoCall (fun g_ => [(103, .agg (vwc v).toArray), (107, .agg (tlc t).toArray)]) (fun g_ a_ h_k => ⟨(h_k.inn 2 _ _ (by kernel_rfl) rfl rfl).trans (by kernel_rfl), (h_k.inn 6 _ _ (by kernel_rfl) rfl rfl).trans (by kernel_rfl), trivial⟩) 15 (fun g_ => [.agg (vwc v).toArray, .agg (tlc t).toArray]) [] [] (by kernel_rfl) (fun g_ X_ => (wn rfl)) (fun b_ g_ => by kernel_rfl) rfl (fun g_ X_ => litEv (by kernel_rfl)) (fun g_ X_ => litArgs (by kernel_rfl)) (fun b_ g_ w_ h_b h_ => (rerr_any v t hv_ htok _).mono (fun _ _ h_r => ⟨h_r.1.trans (by kernel_rfl), h_r.2⟩))) ?_
          refine aoNext rfl (aoVal (fun g_ => [(102, .int .i64 wst), (108, .int .i64 (err v t))]) (fun g_ a_ h_k => ⟨(h_k.inn 1 _ _ (by kernel_rfl) rfl rfl).trans (by kernel_rfl), (h_k.inn 7 _ _ (by kernel_rfl) rfl rfl).trans (by kernel_rfl), trivial⟩) (fun g_ X_ => (wn rfl)) (fun b_ g_ => by kernel_rfl) (fun b_ g_ X_ w_ h_b h_ => valTo (b := .int .i64 (max wst (err v t))) (by kernel_rfl) (gMax (.tmp 102) (.tmp 108) rfl (litEv (by kernel_rfl)) (litEv (by kernel_rfl))))) ?_
          refine aoNext rfl (aoVal (fun g_ => [(15, .pointer (some ⟨g90, 0, none⟩))]) (fun g_ a_ h_k => ⟨(h_k.out 15 (by kernel_rfl)).trans (litGet (by kernel_rfl)), trivial⟩) (fun g_ X_ => (wn rfl)) (fun b_ g_ => by kernel_rfl) (fun b_ g_ X_ w_ h_b h_ => valTo (b := .pointer (some ⟨g90, 3, none⟩)) (by kernel_rfl) (litRun (by kernel_rfl)))) ?_
          refine aoNext rfl (aoStore1 (gb := fun g_ => g90) (k := 3) (cur := fun g_ => [.slice (some ⟨b, 0, none⟩) l.length c, .int .i64 (totalP (costP c_) l), .int .i64 (max bnd (2 ^ t.lv.toNat)), .int .i64 wst]) (v := fun g_ => .int .i64 (max wst (err v t))) (v0 := fun g_ => .int .i64 wst) 4 (fun g_ => [(109, .int .i64 (max wst (err v t))), (110, .pointer (some ⟨g90, 3, none⟩))]) (fun g_ a_ h_k => ⟨(h_k.inn 8 _ _ (by kernel_rfl) rfl rfl).trans (by kernel_rfl), (h_k.inn 9 _ _ (by kernel_rfl) rfl rfl).trans (by kernel_rfl), trivial⟩) (by kernel_rfl) (fun b_ g_ h_b => by show some (Res.arr g90 31 (bsel (b_ 10) [.slice (some ⟨b, 0, none⟩) l.length c, .int .i64 (totalP (costP c_) l), .int .i64 (max bnd (2 ^ t.lv.toNat)), .int .i64 (max wst (err v t))] [.slice (some ⟨b, 0, none⟩) l.length c, .int .i64 (totalP (costP c_) l), .int .i64 (max bnd (2 ^ t.lv.toNat)), .int .i64 wst])) = some (Res.arr g90 31 ([.slice (some ⟨b, 0, none⟩) l.length c, .int .i64 (totalP (costP c_) l), .int .i64 (max bnd (2 ^ t.lv.toNat)), .int .i64 wst])); rw [bselF h_b.no]) (fun g_ X_ => (wn rfl)) rfl (fun g_ X_ => litEv (by kernel_rfl)) (fun g_ X_ => litEv (by kernel_rfl)) (fun _ => rfl) (fun _ => rfl) (fun _ => rfl) (fun b_ g_ h_b => by kernel_rfl) rfl) ?_
          exact aoDone (by decide)
        intro g_ a_ w112 hF_ hm111
        obtain ⟨X113, rfl⟩ := frLit (⟨hF_.size, hF_.defers, ⟨(hF_.out 4 (by kernel_rfl)).trans (litGet (by kernel_rfl)), (hF_.out 6 (by kernel_rfl)).trans (litGet (by kernel_rfl)), (hF_.out 7 (by kernel_rfl)).trans (litGet (by kernel_rfl)), (hF_.out 9 (by kernel_rfl)).trans (litGet (by kernel_rfl)), (hF_.out 15 (by kernel_rfl)).trans (litGet (by kernel_rfl)), (hF_.out 16 (by kernel_rfl)).trans (litGet (by kernel_rfl)), (hF_.out 85 (by kernel_rfl)).trans (litGet (by kernel_rfl)), (hF_.out 86 (by kernel_rfl)).trans (litGet (by kernel_rfl)), (hF_.out 87 (by kernel_rfl)).trans (litGet (by kernel_rfl)), (hF_.out 88 (by kernel_rfl)).trans (litGet (by kernel_rfl)), (hF_.out 91 (by kernel_rfl)).trans (litGet (by kernel_rfl)), (hF_.out 92 (by kernel_rfl)).trans (litGet (by kernel_rfl)), (hF_.out 93 (by kernel_rfl)).trans (litGet (by kernel_rfl)), (hF_.out 94 (by kernel_rfl)).trans (litGet (by kernel_rfl)), (hF_.out 95 (by kernel_rfl)).trans (litGet (by kernel_rfl)), (hF_.out 96 (by kernel_rfl)).trans (litGet (by kernel_rfl)), (hF_.out 97 (by kernel_rfl)).trans (litGet (by kernel_rfl)), (hF_.out 98 (by kernel_rfl)).trans (litGet (by kernel_rfl)), (hF_.out 99 (by kernel_rfl)).trans (litGet (by kernel_rfl)), (hF_.out 100 (by kernel_rfl)).trans (litGet (by kernel_rfl)), (hF_.inn 0 _ _ rfl rfl).trans (by kernel_rfl), (hF_.inn 1 _ _ rfl rfl).trans (by kernel_rfl), (hF_.inn 2 _ _ rfl rfl).trans (by kernel_rfl), (hF_.inn 3 _ _ rfl rfl).trans (by kernel_rfl), (hF_.inn 4 _ _ rfl rfl).trans (by kernel_rfl), (hF_.inn 5 _ _ rfl rfl).trans (by kernel_rfl), (hF_.inn 6 _ _ rfl rfl).trans (by kernel_rfl), (hF_.inn 7 _ _ rfl rfl).trans (by kernel_rfl), (hF_.inn 8 _ _ rfl rfl).trans (by kernel_rfl), (hF_.inn 9 _ _ rfl rfl).trans (by kernel_rfl), trivial⟩⟩ : Fr _ 112 [(4, .pointer (some ⟨g2, 0, none⟩)), (6, .pointer (some ⟨g8, 0, none⟩)), (7, .int .i64 0), (9, .slice (some ⟨b, 0, none⟩) l.length c), (15, .pointer (some ⟨g90, 0, none⟩)), (16, .int .i64 (i : Int)), (85, .int .i64 (i : Int)), (86, .slice (some ⟨b, 0, none⟩) l.length c), (87, .int .i64 (l.length : Int)), (88, .bool true), (91, .pointer (some ⟨g90, 2, none⟩)), (92, .int .i64 bnd), (93, .slice (some ⟨b, 0, none⟩) l.length c), (94, .int .i64 (i : Int)), (95, .pointer (some ⟨b, 0 + i * 4, none⟩)), (96, .pointer (some ⟨b, 0 + i * 4, none⟩)), (97, .int .i64 t.lv), (98, .int .i64 (2 ^ t.lv.toNat)), (99, .int .i64 (max bnd (2 ^ t.lv.toNat))), (100, .pointer (some ⟨g90, 2, none⟩)), (101, .pointer (some ⟨g90, 3, none⟩)), (102, .int .i64 wst), (103, .agg (vwc v).toArray), (104, .slice (some ⟨b, 0, none⟩) l.length c), (105, .int .i64 (i : Int)), (106, .pointer (some ⟨b, 0 + i * 4, none⟩)), (107, .agg (tlc t).toArray), (108, .int .i64 (err v t)), (109, .int .i64 (max wst (err v t))), (110, .pointer (some ⟨g90, 3, none⟩))])
        clear hF_
        have hm114 : Mem w w112 [.arr g2 25 (vwc v), .arr g5 27 (csc c_), .arr g8 31 ([.slice none 0 0, .int .i64 0, .int .i64 0, .int .i64 0]), .row (.slice (some ⟨b, 0, none⟩) l.length c) 38 4 l.length (tlsC l), .arr g90 31 ([.slice (some ⟨b, 0, none⟩) l.length c, .int .i64 (totalP (costP c_) l), .int .i64 (max bnd (2 ^ t.lv.toNat)), .int .i64 (max wst (err v t))])] := hm111
        clear hm111 hm110
        refine inBlock_normal ?_
        refine then_normal (hK105 _ _ ?_)
        refine plStart ?_
        refine lk (v := .int .i64 (i : Int)) rfl rfl rfl ?_
        refine litVal (v := .int .i64 ((i : Int) + 1)) rfl (wn rfl) (addRun (A := (i : Int)) (B := 1) (C := (i : Int) + 1) (.tmp 89) (.const (.int .i64 1)) rfl (litEv (by kernel_rfl)) (litEv (by kernel_rfl)) rfl (by omega)) rfl (by decide) ?_
        refine lk (v := .int .i64 ((i : Int) + 1)) rfl rfl rfl ?_
        refine plD ?_
        refine then_normal ?_
        exact ⟨_, by omega, (i + 1), _, _, rfl, (by omega), (fold_next hkt hb1), (fold_next hkt hb2), ⟨litSize, rfl, ⟨litGet (by kernel_rfl), ⟨litGet (by kernel_rfl), ⟨litGet (by kernel_rfl), ⟨litGet (by kernel_rfl), ⟨litGet (by kernel_rfl), ⟨litGet (by kernel_rfl), trivial⟩⟩⟩⟩⟩⟩⟩, (hm114.sub (.cons_cons _ (.cons_cons _ (.cons_cons _ (.cons_cons _ (.cons_cons _ .slnil))))))⟩
      refine litVal (v := .bool false) rfl (wn rfl) (boolTo (decide_eq_false h104) (lssRun (A := (i : Int)) (B := (l.length : Int)) (.tmp 85) (.tmp 87) rfl (litEv (by kernel_rfl)) (litEv (by kernel_rfl)))) rfl (by decide) ?_
      refine plD ?_
      refine then_normal (hK103 _ _ ?_)
      refine wp_cond_false (litEv (by kernel_rfl)) ?_
      refine wp_exit ?_
      refine then_exit ?_
      refine then_exit ?_
      refine inBlock_exit ?_
      refine then_normal (hK96 _ _ ?_)
      refine wp_seq_k fun K115 hK115 => ?_
      refine plStart ?_
      refine litVal (v := .agg ([.slice (some ⟨b, 0, none⟩) l.length c, .int .i64 (totalP (costP c_) l), .int .i64 bnd, .int .i64 wst]).toArray) rfl (wn rfl) (gLoadAg (vs := [.slice (some ⟨b, 0, none⟩) l.length c, .int .i64 (totalP (costP c_) l), .int .i64 bnd, .int .i64 wst]) (k := 0) 4 hm99 rfl (by kernel_rfl) (by kernel_rfl) (.tmp 15) Ty.ag_voxel_api_Planned rfl (litEv (by kernel_rfl))) rfl (by decide) ?_
      refine plStore 2 Ty.ag_voxel_api_Planned hm99 rfl (i := 1) (cs := [.slice (some ⟨b, 0, none⟩) l.length c, .int .i64 (totalP (costP c_) l), .int .i64 bnd, .int .i64 wst]) rfl (wn rfl) rfl (litEv (by kernel_rfl)) (litEv (by kernel_rfl)) rfl rfl (by kernel_rfl) ?_
      intro w117 hm116
      clear hm99
      try simp only [List.cons_append, List.nil_append, List.set_cons_succ, List.set_cons_zero] at hm116
      refine qNone rfl ?_
      refine lk (v := .int .i64 0) rfl rfl rfl ?_
      refine plD ?_
      refine then_normal (hK115 _ _ ?_)
      refine wp_ret ?_
      refine bodyPost_ret (v := .tuple #[.agg ([.slice (some ⟨b, 0, none⟩) l.length c, .int .i64 (totalP (costP c_) l), .int .i64 bnd, .int .i64 wst]).toArray, .int .i64 0]) (gRes2 rfl (gResAg (cs := [.slice (some ⟨b, 0, none⟩) l.length c, .int .i64 (totalP (costP c_) l), .int .i64 bnd, .int .i64 wst]) 2 hm116 rfl Ty.ag_voxel_api_Planned rfl (litGet (by kernel_rfl))) (gResTmp (t := 7) (v := .int .i64 0) (litGet (by kernel_rfl)))) rfl ?_
      have hE_ : planE (costP c_) depth v = 0 := planE_0 hd_ hv_ hbud_
      have hR_ := planR_eq hE_ hG_
      rw [List.drop_of_length_le (by omega)] at hb1 hb2
      refine ⟨.slice (some ⟨b, 0, none⟩) l.length c, ?_, ?_, hm116.bel⟩
      · rw [hR_, hE_]
        unfold plnC
        rw [← hb1, ← hb2]
        rfl
      · rw [hR_]
        exact hm116.row 3 rfl
    have hnn_ : 0 ≤ nextP (costP c_) v (totalP (costP c_) l) l := by omega
    obtain ⟨k, t, hk, hkt, h1, hlen, _, _⟩ := nextP_ok hnn_
    have htok : t.Ok := hok.all t (List.mem_of_getElem? hkt)
    obtain rfl : best = (k : Int) := by omega
    have hsl_ := splitAt_len hkt
    refine litVal (v := .bool false) rfl (wn rfl) (boolTo (decide_eq_false (show ¬ (k : Int) < 0 by omega)) (lssRun (A := (k : Int)) (B := 0) (.tmp 71) (.const (.int .i64 0)) rfl (litEv (by kernel_rfl)) (litEv (by kernel_rfl)))) rfl (by decide) ?_
    refine plD ?_
    refine then_normal (hK85 _ _ ?_)
    refine wp_cond_false (litEv (by kernel_rfl)) ?_
    refine wp_skip ?_
    refine then_normal (hK84 _ _ ?_)
    refine wp_seq_k fun K118 hK118 => ?_
    refine plStart ?_
    refine lk (v := .slice (some ⟨b, 0, none⟩) l.length c) rfl rfl rfl ?_
    refine lk (v := .int .i64 (k : Int)) rfl rfl rfl ?_
    refine plCall (i := 2) 21 [.slice (some ⟨b, 0, none⟩) l.length c, .int .i64 (k : Int)] [] [] rfl (by kernel_rfl) (wn rfl) rfl (litEv (by kernel_rfl)) (litArgs (by kernel_rfl)) (rsplit_any l k t _ _ _ (hm54.rdRow 3 rfl) hkt htok h1 hlen) ?_
    rintro e w119 ⟨v121, rfl, hown_, hbz⟩
    obtain ⟨A122, c123, rfl, hrd_⟩ := Rd.of_own hown_
    clear hrd_
    replace hown_ : World.ownsRow w119 _ 38 4 _ ((splitAt l k).length) (tlsC (splitAt l k)) := hown_
    have hm120 := hm54.newRow hbz hown_
    clear hown_ hbz
    clear hm54
    try simp only [List.cons_append, List.nil_append, List.set_cons_succ, List.set_cons_zero] at hm120
    obtain ⟨b124, rfl⟩ := hm120.rowBlk (A := A122) (n := (splitAt l k).length) (c := c123) 4 rfl (by rw [splitAt_len hkt]; omega)
    refine ⟨_, rfl, ?_⟩
    refine qP rfl ?_
    refine lk (v := .tuple #[.slice (some ⟨b124, 0, none⟩) ((splitAt l k).length) c123, .int .i64 0]) rfl rfl rfl ?_
    refine lk (v := .slice (some ⟨b124, 0, none⟩) ((splitAt l k).length) c123) rfl rfl rfl ?_
    refine lk (v := .int .i64 0) rfl rfl rfl ?_
    refine lk (v := .slice (some ⟨b124, 0, none⟩) ((splitAt l k).length) c123) rfl rfl rfl ?_
    refine lk (v := .int .i64 0) rfl rfl rfl ?_
    refine plD ?_
    refine then_normal (hK118 _ _ ?_)
    refine plStart ?_
    refine lk (v := .slice (some ⟨b124, 0, none⟩) ((splitAt l k).length) c123) rfl rfl rfl ?_
    refine lk (v := .slice (some ⟨b124, 0, none⟩) ((splitAt l k).length) c123) rfl rfl rfl ?_
    refine plD ?_
    refine inBlock_normal ?_
    refine then_normal ?_
    exact ⟨_, by omega, (splitAt l k), b124, c123, (fu - 1), rfl, (by rw [totalP_split hkt]; exact hok.next hk hkt h1 hlen), ⟨litSize, rfl, ⟨litGet (by kernel_rfl), ⟨litGet (by kernel_rfl), ⟨litGet (by kernel_rfl), ⟨litGet (by kernel_rfl), ⟨litGet (by kernel_rfl), trivial⟩⟩⟩⟩⟩⟩, (hm120.sub (.cons_cons _ (.cons_cons _ (.cons_cons _ (.cons _ (.cons_cons _ .slnil))))))⟩
  have hnv_ : ¬ ckV v = 0 := h26
  refine litVal (v := .bool true) rfl (wn rfl) (boolTo (by rw [decide_eq_false h26]; rfl) (neqRun (A := (ckV v)) (B := 0) (.tmp 26) (.const (.int .i64 0)) rfl (litEv (by kernel_rfl)) (litEv (by kernel_rfl)))) rfl (by decide) ?_
  refine plD ?_
  refine then_normal (hK25 _ _ ?_)
  refine wp_cond_true (litEv (by kernel_rfl)) ?_
  refine wp_seq_k fun K125 hK125 => ?_
  refine plStart ?_
  refine lk (v := .agg ([.slice none 0 0, .int .i64 0, .int .i64 0, .int .i64 0]).toArray) rfl rfl rfl ?_
  refine lk (v := .int .i64 (ckV v)) rfl rfl rfl ?_
  refine plStore 2 Ty.ag_voxel_api_Planned hm23 rfl (i := 2) (cs := [.slice none 0 0, .int .i64 0, .int .i64 0, .int .i64 0]) rfl (wn rfl) rfl (litEv (by kernel_rfl)) (litEv (by kernel_rfl)) rfl rfl (by kernel_rfl) ?_
  intro w127 hm126
  clear hm23
  try simp only [List.cons_append, List.nil_append, List.set_cons_succ, List.set_cons_zero] at hm126
  refine qNone rfl ?_
  refine lk (v := .int .i64 (ckV v)) rfl rfl rfl ?_
  refine plD ?_
  refine then_normal (hK125 _ _ ?_)
  refine wpPrune [(0, .int .i64 depth), (4, .pointer (some ⟨g2, 0, none⟩)), (5, .pointer (some ⟨g5, 0, none⟩)), (6, .pointer (some ⟨g8, 0, none⟩)), (7, .int .i64 (ckV v))] ⟨litGet (by kernel_rfl), ⟨litGet (by kernel_rfl), ⟨litGet (by kernel_rfl), ⟨litGet (by kernel_rfl), ⟨litGet (by kernel_rfl), trivial⟩⟩⟩⟩⟩ (fun X128 => ?_)
  refine wp_ret ?_
  refine then_ret ?_
  refine bodyPost_ret (v := .tuple #[.agg ([.slice none 0 0, .int .i64 0, .int .i64 0, .int .i64 0]).toArray, .int .i64 (ckV v)]) (gRes2 rfl (gResAg (cs := [.slice none 0 0, .int .i64 0, .int .i64 0, .int .i64 0]) 2 hm126 rfl Ty.ag_voxel_api_Planned rfl (litGet (by kernel_rfl))) (gResTmp (t := 7) (v := .int .i64 (ckV v)) (litGet (by kernel_rfl)))) rfl ?_
  have hE_ : planE (costP c_) depth v = 1 := planE_1 hd_ hnv_
  have hR_ := planR_no (f := costP c_) (depth := depth) (v := v) (by rw [hE_]; decide)
  refine ⟨.slice none 0 0, ?_, ?_, hm126.bel⟩
  · rw [hR_, hE_]
    rw [ckV_01 hnv_]
    rfl
  · rw [hR_]
    exact Mem.row (Mem.nilRow hm126 38 4) 3 rfl
end Go.Proofs.Ytkmhjgdpkddbnaa
namespace Go.Proofs.Ytkmhjgdpkddbnaa
open Go.RowKit
set_option linter.unusedVariables false
set_option linter.unusedSimpArgs false
set_option maxRecDepth 100000 in
set_option maxHeartbeats 4000000 in
theorem plan1_any (c_ : Cst) (t : Tl) (g : Nat) (ht : t.Ok) (w : World) (hr : Rd w w.heap.size 4 (some ⟨g, 0, none⟩) 1 1 (csc c_)) : Calls Try.prog 29 #[.agg (tlc t).toArray, .pointer (some ⟨g, 0 + 0 * 4, none⟩)] w (RetV w (.int .i64 (costP c_ t))) := by
  have hm0 := Mem.nil w
  go_enter Try.func29, Try.ntmps29
  refine litStart 7 [(0, .agg (tlc t).toArray), (1, .pointer (some ⟨g, 0 + 0 * 4, none⟩))] (by kernel_rfl) (fun X0 => ?_)
  refine wp_seq_k fun K1 hK1 => ?_
  refine plStart ?_
  refine plBox hm0 (cs := tlc t) (i := 0) rfl (wn rfl) rfl (litEv (by kernel_rfl)) ?_
  intro g2 w4 hm3
  clear hm0
  try simp only [List.cons_append, List.nil_append, List.set_cons_succ, List.set_cons_zero] at hm3
  refine qP rfl ?_
  refine lk (v := .int .i64 0) rfl rfl rfl ?_
  refine plD ?_
  refine then_normal (hK1 _ _ ?_)
  refine wp_seq_k fun K5 hK5 => ?_
  refine plStart ?_
  refine litVal (v := .agg (csc c_).toArray) rfl (wn rfl) (gLoadAgRd (vs := csc c_) (m := 0 * 4) ((Rd.below hr hm3.bel).more hm3.bel.size) rfl (fun i_ u_ hu_ => by rw [Nat.zero_mul, Nat.zero_add]; exact hu_) (by kernel_rfl) (by decide) (.tmp 1) Ty.ag_voxel_voxelref43_Costs rfl (litEv (by kernel_rfl))) rfl (by decide) ?_
  refine litVal (v := .agg (tlc t).toArray) rfl (wn rfl) (gLoadAg (vs := tlc t) (k := 0) 0 hm3 rfl (by kernel_rfl) (by kernel_rfl) (.tmp 2) Ty.ag_voxel_api_Tile rfl (litEv (by kernel_rfl))) rfl (by decide) ?_
  refine plCall (i := 2) 19 [.agg (csc c_).toArray, .agg (tlc t).toArray] [] [] rfl (by kernel_rfl) (wn rfl) rfl (litEv (by kernel_rfl)) (litArgs (by kernel_rfl)) (cost_any c_ t ht.lv _) ?_
  rintro e w6 ⟨rfl, hbz⟩
  have hm7 := hm3.below hbz
  clear hbz hm3
  refine ⟨_, rfl, ?_⟩
  refine qP rfl ?_
  refine lk (v := .int .i64 (costP c_ t)) rfl rfl rfl ?_
  refine plD ?_
  refine then_normal (hK5 _ _ ?_)
  refine wp_ret ?_
  refine bodyPost_ret (v := .int .i64 (costP c_ t)) (gRes1 rfl (gResTmp (t := 3) (v := .int .i64 (costP c_ t)) (litGet (by kernel_rfl)))) rfl ?_
  exact ⟨by rfl, hm7.bel⟩
theorem price_plan (c_ : Cst) (g : Nat) (w0 : World) (hA : Arr w0 g 27 (csc c_)) : Price (costP c_) 29 [] [.pointer (some ⟨g, 0, none⟩)] w0 :=
  ⟨by kernel_rfl, fun t ht w hb => plan1_any c_ t g ht w (((Rd.of_arr (n := 1) (size := 4) hA rfl (by decide)).below hb).more hb.size), fun t ht => costP_ok c_ t ht⟩
set_option maxRecDepth 100000 in
set_option maxHeartbeats 4000000 in
theorem planF_any (depth : Int) (v : Vw) (c_ : Cst) (w : World) : Calls Try.prog 9 #[.int .i64 depth, .agg (vwc v).toArray, .agg (csc c_).toArray] w (fun e w' => ∃ S, e = .returned (.tuple #[.agg (plnC S (planR (costP c_) depth v)).toArray, .int .i64 (planE (costP c_) depth v)]) ∧ w'.ownsRow w.heap.size 38 4 S (planR (costP c_) depth v).tiles.length (tlsC (planR (costP c_) depth v).tiles) ∧ Below w.heap.size w w') := by
  have hm0 := Mem.nil w
  go_enter Try.func9, Try.ntmps9
  refine litStart 14 [(0, .int .i64 depth), (1, .agg (vwc v).toArray), (2, .agg (csc c_).toArray)] (by kernel_rfl) (fun X0 => ?_)
  refine wp_seq_k fun K1 hK1 => ?_
  refine plStart ?_
  refine plBox hm0 (cs := vwc v) (i := 0) rfl (wn rfl) rfl (litEv (by kernel_rfl)) ?_
  intro g2 w4 hm3
  clear hm0
  try simp only [List.cons_append, List.nil_append, List.set_cons_succ, List.set_cons_zero] at hm3
  refine qP rfl ?_
  refine plBox hm3 (cs := csc c_) (i := 1) rfl (wn rfl) rfl (litEv (by kernel_rfl)) ?_
  intro g5 w7 hm6
  clear hm3
  try simp only [List.cons_append, List.nil_append, List.set_cons_succ, List.set_cons_zero] at hm6
  refine qP rfl ?_
  refine plAlloc (z := [.slice none 0 0, .int .i64 0, .int .i64 0, .int .i64 0]) Ty.ag_voxel_api_Planned hm6 (i := 2) rfl (wn rfl) rfl ?_
  intro g8 w10 hm9
  clear hm6
  try simp only [List.cons_append, List.nil_append, List.set_cons_succ, List.set_cons_zero] at hm9
  refine qP rfl ?_
  refine lk (v := .int .i64 0) rfl rfl rfl ?_
  refine plD ?_
  refine then_normal (hK1 _ _ ?_)
  refine wp_seq_k fun K11 hK11 => ?_
  refine plStart ?_
  refine lk (v := .int .i64 depth) rfl rfl rfl ?_
  refine litVal (v := .agg (vwc v).toArray) rfl (wn rfl) (gLoadAg (vs := vwc v) (k := 0) 0 hm9 rfl (by kernel_rfl) (by kernel_rfl) (.tmp 4) Ty.ag_voxel_api_Viewer rfl (litEv (by kernel_rfl))) rfl (by decide) ?_
  refine lk (v := .func (.func 29) #[] #[.pointer (some ⟨g5, 0, none⟩)]) rfl rfl rfl ?_
  refine plCall (i := 3) 23 [.int .i64 depth, .agg (vwc v).toArray, .func (.func 29) #[] #[.pointer (some ⟨g5, 0, none⟩)]] [] [] rfl (by kernel_rfl) (wn rfl) rfl (litEv (by kernel_rfl)) (litArgs (by kernel_rfl)) (plan_any (f := costP c_) (vf := 29) (first := []) (caps := [.pointer (some ⟨g5, 0, none⟩)]) depth v _ (price_plan c_ g5 _ (hm9.arr 1 rfl))) ?_
  rintro e w12 ⟨v14, rfl, hown_, hbz⟩
  obtain ⟨A15, c16, rfl, hrd_⟩ := Rd.of_own hown_
  clear hrd_
  have hm13 := hm9.newRow hbz hown_
  clear hown_ hbz hm9
  try simp only [List.cons_append, List.nil_append, List.set_cons_succ, List.set_cons_zero] at hm13
  refine ⟨_, rfl, ?_⟩
  refine qP rfl ?_
  refine lk (v := .agg (plnC (.slice A15 ((planR (costP c_) depth v).tiles.length) c16) (planR (costP c_) depth v)).toArray) rfl rfl rfl ?_
  refine lk (v := .int .i64 (planE (costP c_) depth v)) rfl rfl rfl ?_
  refine plStore 2 Ty.ag_voxel_api_Planned hm13 rfl (i := 6) (cs := plnC (.slice A15 ((planR (costP c_) depth v).tiles.length) c16) (planR (costP c_) depth v)) rfl (wn rfl) rfl (litEv (by kernel_rfl)) (litEv (by kernel_rfl)) rfl rfl (by kernel_rfl) ?_
  intro w18 hm17
  clear hm13
  try simp only [List.cons_append, List.nil_append, List.set_cons_succ, List.set_cons_zero] at hm17
  refine qNone rfl ?_
  refine lk (v := .int .i64 (planE (costP c_) depth v)) rfl rfl rfl ?_
  refine plD ?_
  refine then_normal (hK11 _ _ ?_)
  refine wp_ret ?_
  refine bodyPost_ret (v := .tuple #[.agg (plnC (.slice A15 ((planR (costP c_) depth v).tiles.length) c16) (planR (costP c_) depth v)).toArray, .int .i64 (planE (costP c_) depth v)]) (gRes2 rfl (gResAg (cs := plnC (.slice A15 ((planR (costP c_) depth v).tiles.length) c16) (planR (costP c_) depth v)) 2 hm17 rfl Ty.ag_voxel_api_Planned rfl (litGet (by kernel_rfl))) (gResTmp (t := 7) (v := .int .i64 (planE (costP c_) depth v)) (litGet (by kernel_rfl)))) rfl ?_
  exact ⟨_, rfl, hm17.row 3 rfl, hm17.bel⟩
end Go.Proofs.Ytkmhjgdpkddbnaa
