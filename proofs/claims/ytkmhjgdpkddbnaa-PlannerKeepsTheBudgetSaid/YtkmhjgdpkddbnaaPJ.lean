/-
  PJ: several texts in one. No statement is proved here.
-/
import Derived.Test.YtkmhjgdpkddbnaaPI
import Derived.Test.YtkmhjgdpkddbnaaPG
set_option linter.unusedVariables false
set_option linter.unusedSimpArgs false
namespace Go.Proofs.Ytkmhjgdpkddbnaa
open Go.RowKit
set_option linter.unusedVariables false
set_option linter.unusedSimpArgs false
theorem costP_ok (c_ : Cst) (t : Tl) (h : t.Ok) : 0 ≤ costP c_ t ∧ costP c_ t ≤ 16777216 := by
  have := costP_bd c_ t h.lv
  omega
end Go.Proofs.Ytkmhjgdpkddbnaa
namespace Go.Proofs.Ytkmhjgdpkddbnaa
open Go.RowKit
set_option linter.unusedVariables false
set_option linter.unusedSimpArgs false
set_option maxRecDepth 100000 in
set_option maxHeartbeats 4000000 in
theorem plan1_any (c_ : Cst) (t : Tl) (g : Nat) (ht : t.Ok) (w : World) (hr : Rd w w.heap.size 4 (some ⟨g, 0, none⟩) 1 1 (csc c_)) : Calls Try.prog 29 #[.agg (tlc t).toArray, .pointer (some ⟨g, 0 + 0 * 4, none⟩)] w (RetV w (.int .i64 (costP c_ t))) := by
 have hm0 := Mem.nil w
 go_enter Try.func29, Try.ntmps29
 refine litStart 7 [(0, .agg (tlc t).toArray), (1, .pointer (some ⟨g, 0 + 0 * 4, none⟩))] (by kernel_rfl) (fun X0 => ?_)
 refine wp_seq_k fun K1 hK1 => ?_
 refine plStart ?_
 refine plBox hm0 (cs := tlc t) (i := 0) rfl (wn rfl) rfl (litEv (by kernel_rfl)) ?_
 intro g2 w4 hm3
 clear hm0
 try simp only [List.cons_append, List.nil_append, List.set_cons_succ, List.set_cons_zero] at hm3
 refine qP rfl ?_
 refine lk (v := .int .i64 0) rfl rfl rfl ?_
 refine plD ?_
 refine then_normal (hK1 _ _ ?_)
 refine wp_seq_k fun K5 hK5 => ?_
 refine plStart ?_
 refine litVal (v := .agg (csc c_).toArray) rfl (wn rfl) (gLoadAgRd (vs := csc c_) (m := 0 * 4) ((Rd.below hr hm3.bel).more hm3.bel.size) rfl (fun i_ u_ hu_ => by rw [Nat.zero_mul, Nat.zero_add]; exact hu_) (by kernel_rfl) (by decide) (.tmp 1) Ty.ag_voxel_voxelref43_Costs rfl (litEv (by kernel_rfl))) rfl (by decide) ?_
 refine litVal (v := .agg (tlc t).toArray) rfl (wn rfl) (gLoadAg (vs := tlc t) (k := 0) 0 hm3 rfl (by kernel_rfl) (by kernel_rfl) (.tmp 2) Ty.ag_voxel_api_Tile rfl (litEv (by kernel_rfl))) rfl (by decide) ?_
 refine plCall (i := 2) 19 [.agg (csc c_).toArray, .agg (tlc t).toArray] [] [] rfl (by kernel_rfl) (wn rfl) rfl (litEv (by kernel_rfl)) (litArgs (by kernel_rfl)) (cost_any c_ t ht.lv _) ?_
 rintro e w6 ⟨rfl, hbz⟩
 have hm7 := hm3.below hbz
 clear hbz hm3
 refine ⟨_, rfl, ?_⟩
 refine qP rfl ?_
 refine lk (v := .int .i64 (costP c_ t)) rfl rfl rfl ?_
 refine plD ?_
 refine then_normal (hK5 _ _ ?_)
 refine wp_ret ?_
 refine bodyPost_ret (v := .int .i64 (costP c_ t)) (gRes1 rfl (gResTmp (t := 3) (v := .int .i64 (costP c_ t)) (litGet (by kernel_rfl)))) rfl ?_
 exact ⟨by rfl, hm7.bel⟩
theorem price_plan (c_ : Cst) (g : Nat) (w0 : World) (hA : Arr w0 g 27 (csc c_)) : Price (costP c_) 29 [] [.pointer (some ⟨g, 0, none⟩)] w0 :=
  ⟨by kernel_rfl, fun t ht w hb => plan1_any c_ t g ht w (((Rd.of_arr (n := 1) (size := 4) hA rfl (by decide)).below hb).more hb.size), fun t ht => costP_ok c_ t ht⟩
set_option maxRecDepth 100000 in
set_option maxHeartbeats 4000000 in
theorem planF_any (depth : Int) (v : Vw) (c_ : Cst) (w : World) : Calls Try.prog 9 #[.int .i64 depth, .agg (vwc v).toArray, .agg (csc c_).toArray] w (fun e w' => ∃ S, e = .returned (.tuple #[.agg (plnC S (planR (costP c_) depth v)).toArray, .int .i64 (planE (costP c_) depth v)]) ∧ w'.ownsRow w.heap.size 38 4 S (planR (costP c_) depth v).tiles.length (tlsC (planR (costP c_) depth v).tiles) ∧ Below w.heap.size w w') := by
 have hm0 := Mem.nil w
 go_enter Try.func9, Try.ntmps9
 refine litStart 14 [(0, .int .i64 depth), (1, .agg (vwc v).toArray), (2, .agg (csc c_).toArray)] (by kernel_rfl) (fun X0 => ?_)
 refine wp_seq_k fun K1 hK1 => ?_
 refine plStart ?_
 refine plBox hm0 (cs := vwc v) (i := 0) rfl (wn rfl) rfl (litEv (by kernel_rfl)) ?_
 intro g2 w4 hm3
 clear hm0
 try simp only [List.cons_append, List.nil_append, List.set_cons_succ, List.set_cons_zero] at hm3
 refine qP rfl ?_
 refine plBox hm3 (cs := csc c_) (i := 1) rfl (wn rfl) rfl (litEv (by kernel_rfl)) ?_
 intro g5 w7 hm6
 clear hm3
 try simp only [List.cons_append, List.nil_append, List.set_cons_succ, List.set_cons_zero] at hm6
 refine qP rfl ?_
 refine plAlloc (z := [.slice none 0 0, .int .i64 0, .int .i64 0, .int .i64 0]) Ty.ag_voxel_api_Planned hm6 (i := 2) rfl (wn rfl) rfl ?_
 intro g8 w10 hm9
 clear hm6
 try simp only [List.cons_append, List.nil_append, List.set_cons_succ, List.set_cons_zero] at hm9
 refine qP rfl ?_
 refine lk (v := .int .i64 0) rfl rfl rfl ?_
 refine plD ?_
 refine then_normal (hK1 _ _ ?_)
 refine wp_seq_k fun K11 hK11 => ?_
 refine plStart ?_
 refine lk (v := .int .i64 depth) rfl rfl rfl ?_
 refine litVal (v := .agg (vwc v).toArray) rfl (wn rfl) (gLoadAg (vs := vwc v) (k := 0) 0 hm9 rfl (by kernel_rfl) (by kernel_rfl) (.tmp 4) Ty.ag_voxel_api_Viewer rfl (litEv (by kernel_rfl))) rfl (by decide) ?_
 refine lk (v := .func (.func 29) #[] #[.pointer (some ⟨g5, 0, none⟩)]) rfl rfl rfl ?_
 refine plCall (i := 3) 23 [.int .i64 depth, .agg (vwc v).toArray, .func (.func 29) #[] #[.pointer (some ⟨g5, 0, none⟩)]] [] [] rfl (by kernel_rfl) (wn rfl) rfl (litEv (by kernel_rfl)) (litArgs (by kernel_rfl)) (plan_any (f := costP c_) (vf := 29) (first := []) (caps := [.pointer (some ⟨g5, 0, none⟩)]) depth v _ (price_plan c_ g5 _ (hm9.arr 1 rfl))) ?_
 rintro e w12 ⟨v14, rfl, hown_, hbz⟩
 obtain ⟨A15, c16, rfl, hrd_⟩ := Rd.of_own hown_
 clear hrd_
 have hm13 := hm9.newRow hbz hown_
 clear hown_ hbz hm9
 try simp only [List.cons_append, List.nil_append, List.set_cons_succ, List.set_cons_zero] at hm13
 refine ⟨_, rfl, ?_⟩
 refine qP rfl ?_
 refine lk (v := .agg (plnC (.slice A15 ((planR (costP c_) depth v).tiles.length) c16) (planR (costP c_) depth v)).toArray) rfl rfl rfl ?_
 refine lk (v := .int .i64 (planE (costP c_) depth v)) rfl rfl rfl ?_
 refine plStore 2 Ty.ag_voxel_api_Planned hm13 rfl (i := 6) (cs := plnC (.slice A15 ((planR (costP c_) depth v).tiles.length) c16) (planR (costP c_) depth v)) rfl (wn rfl) rfl (litEv (by kernel_rfl)) (litEv (by kernel_rfl)) rfl rfl (by kernel_rfl) ?_
 intro w18 hm17
 clear hm13
 try simp only [List.cons_append, List.nil_append, List.set_cons_succ, List.set_cons_zero] at hm17
 refine qNone rfl ?_
 refine lk (v := .int .i64 (planE (costP c_) depth v)) rfl rfl rfl ?_
 refine plD ?_
 refine then_normal (hK11 _ _ ?_)
 refine wp_ret ?_
 refine bodyPost_ret (v := .tuple #[.agg (plnC (.slice A15 ((planR (costP c_) depth v).tiles.length) c16) (planR (costP c_) depth v)).toArray, .int .i64 (planE (costP c_) depth v)]) (gRes2 rfl (gResAg (cs := plnC (.slice A15 ((planR (costP c_) depth v).tiles.length) c16) (planR (costP c_) depth v)) 2 hm17 rfl Ty.ag_voxel_api_Planned rfl (litGet (by kernel_rfl))) (gResTmp (t := 7) (v := .int .i64 (planE (costP c_) depth v)) (litGet (by kernel_rfl)))) rfl ?_
 exact ⟨_, rfl, hm17.row 3 rfl, hm17.bel⟩
end Go.Proofs.Ytkmhjgdpkddbnaa
