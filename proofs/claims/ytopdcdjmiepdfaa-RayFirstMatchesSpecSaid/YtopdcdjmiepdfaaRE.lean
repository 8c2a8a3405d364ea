/-
  RE: several texts in one. No statement is proved here.
-/
import Derived.Test.YtopdcdjmiepdfaaRD
set_option linter.unusedVariables false
set_option linter.unusedSimpArgs false
namespace Go.Proofs.Ytopdcdjmiepdfaa
open Go.RowKit
set_option linter.unusedVariables false
set_option linter.unusedSimpArgs false
set_option maxRecDepth 100000 in
set_option maxHeartbeats 4000000 in
theorem inRange_any (l : List Pt) (A : Option Addr) (c : Nat) (w : World) (hn : l.length ≤ 1000) (hrd : Rd w w.heap.size 3 A l.length c (ptsC l)) : Calls Try.prog 35 #[.slice A l.length c] w (RetV w (.bool (decide (∀ p ∈ l, p.rng)))) := by
  have hm0 := Mem.nil w
  go_enter Try.func35, Try.ntmps35
  refine litStart 26 [(0, .slice A l.length c)] (by kernel_rfl) (fun X0 => ?_)
  refine wp_seq_k fun K1 hK1 => ?_
  refine plStart ?_
  refine lk (v := .bool false) rfl rfl rfl ?_
  refine plD ?_
  refine then_normal (hK1 _ _ ?_)
  refine wp_seq_k fun K2 hK2 => ?_
  refine wp_seq_k fun K3 hK3 => ?_
  refine plStart ?_
  refine lk (v := .slice A l.length c) rfl rfl rfl ?_
  refine litVal (v := .int .i64 (l.length : Int)) rfl (wn rfl) (lenSlRun (A := A) (n := l.length) (c := c) (.tmp 7) Ty.und_L_api_Point rfl (litEv (by kernel_rfl))) rfl (by decide) ?_
  refine lk (v := .int .i64 0) rfl rfl rfl ?_
  refine plD ?_
  refine then_normal (hK3 _ _ ?_)
  refine wp_block ?_
  refine gwLoop (fun n_ a_ w_ => ∃ (k : Nat), n_ = l.length - k ∧ (k ≤ l.length) ∧ (∀ p ∈ l.take k, p.rng) ∧ Fr a_ 26 [(7, .slice A l.length c), (8, .int .i64 (l.length : Int)), (9, .int .i64 (k : Int))] ∧ Mem w w_ []) (l.length - 0) ⟨0, rfl, by omega, by simp, ⟨litSize, rfl, ⟨litGet (by kernel_rfl), ⟨litGet (by kernel_rfl), ⟨litGet (by kernel_rfl), trivial⟩⟩⟩⟩, hm0⟩ ?_
  clear hm0
  intro n_ a6 w4 hI_
  obtain ⟨k, rfl, hk_, hk2_, hF_, hm5⟩ := hI_
  obtain ⟨X7, rfl⟩ := frLit hF_
  clear hF_
  refine wp_seq_k fun K8 hK8 => ?_
  refine plStart ?_
  by_cases h9 : (k : Int) < (l.length : Int)
  · have hkl_ : k < l.length := by omega
    obtain ⟨p, hp⟩ : ∃ p, l[k]? = some p := ⟨_, List.getElem?_eq_getElem hkl_⟩
    obtain ⟨b_, off_, rfl, _, _⟩ := hrd.cells (by omega)
    refine litVal (v := .bool true) rfl (wn rfl) (boolTo (decide_eq_true h9) (lssRun (A := (k : Int)) (B := (l.length : Int)) (.tmp 9) (.tmp 8) rfl (litEv (by kernel_rfl)) (litEv (by kernel_rfl)))) rfl (by decide) ?_
    refine plD ?_
    refine then_normal (hK8 _ _ ?_)
    refine wp_seq_k fun K10 hK10 => ?_
    refine wp_cond_true (litEv (by kernel_rfl)) ?_
    refine wp_skip ?_
    refine then_normal (hK10 _ _ ?_)
    refine wp_seq_k fun K11 hK11 => ?_
    refine wp_block ?_
    refine wp_seq_k fun K12 hK12 => ?_
    refine plStart ?_
    refine litVal (v := .pointer (some ⟨b_, off_ + k * 3, none⟩)) rfl (wn rfl) (gIaSl (b := b_) (off := off_) (n := l.length) (c := c) (kk := .i64) (K := (k : Int)) (.tmp 7) (.tmp 9) k Ty.sl_L_api_Point rfl (litEv (by kernel_rfl)) (litEv (by kernel_rfl)) (rfl) (hkl_)) rfl (by decide) ?_
    refine litVal (v := .agg (pcs p).toArray) rfl (wn rfl) (gLoadAgRd (vs := pcs p) (m := k * 3) ((Rd.below hrd hm5.bel).more hm5.bel.size) rfl (ptsC_get hp) (by kernel_rfl) (by omega) (.tmp 11) Ty.ag_voxel_api_Point rfl (litEv (by kernel_rfl))) rfl (by decide) ?_
    refine plAlloc (z := [.int .i64 0, .int .i64 0, .int .i64 0]) Ty.ag_voxel_api_Point hm5 (i := 2) rfl (wn rfl) rfl ?_
    intro g13 w15 hm14
    clear hm5
    try simp only [List.cons_append, List.nil_append, List.set_cons_succ, List.set_cons_zero] at hm14
    refine qP rfl ?_
    refine plStore 0 Ty.ag_voxel_api_Point hm14 rfl (i := 3) (cs := pcs p) rfl (wn rfl) rfl (litEv (by kernel_rfl)) (litEv (by kernel_rfl)) rfl rfl (by kernel_rfl) ?_
    intro w17 hm16
    clear hm14
    try simp only [List.cons_append, List.nil_append, List.set_cons_succ, List.set_cons_zero] at hm16
    refine qNone rfl ?_
    refine plD ?_
    refine then_normal (hK12 _ _ ?_)
    refine wp_seq_k fun K18 hK18 => ?_
    refine plStart ?_
    refine litVal (v := .agg (pcs p).toArray) rfl (wn rfl) (gLoadAg (vs := pcs p) (k := 0) 0 hm16 rfl (by kernel_rfl) (by kernel_rfl) (.tmp 4) Ty.ag_voxel_api_Point rfl (litEv (by kernel_rfl))) rfl (by decide) ?_
    refine plCall (i := 1) 36 [.agg (pcs p).toArray] [] [] rfl (by kernel_rfl) (wn rfl) rfl (litEv (by kernel_rfl)) (litArgs (by kernel_rfl)) (coordinates_any p _) ?_
    rintro e w19 ⟨rfl, hbz⟩
    have hm20 := hm16.below hbz
    clear hbz hm16
    refine ⟨_, rfl, ?_⟩
    refine qP rfl ?_
    refine lk (v := .int .i64 0) rfl rfl rfl ?_
    refine plD ?_
    refine then_normal (hK18 _ _ ?_)
    refine wp_block ?_
    refine roundsStart 3 ?_
    refine wp_seq_k fun K21 hK21 => ?_
    refine plStart ?_
    refine lk (v := .bool true) rfl rfl rfl ?_
    refine plD ?_
    refine then_normal (hK21 _ _ ?_)
    refine wp_seq_k fun K22 hK22 => ?_
    refine wp_cond_true (litEv (by kernel_rfl)) ?_
    refine wp_skip ?_
    refine then_normal (hK22 _ _ ?_)
    refine wp_seq_k fun K23 hK23 => ?_
    refine wp_block ?_
    refine wp_seq_k fun K24 hK24 => ?_
    refine plStart ?_
    refine lk (v := .int .i64 p.x) rfl rfl rfl ?_
    refine lk (v := .int .i64 p.x) rfl rfl rfl ?_
    refine plD ?_
    refine then_normal (hK24 _ _ ?_)
    refine wp_seq_k fun K25 hK25 => ?_
    refine plStart ?_
    refine lk (v := .int .i64 p.x) rfl rfl rfl ?_
    by_cases h26 : p.x < (-1048575)
    · refine litVal (v := .bool true) rfl (wn rfl) (boolTo (decide_eq_true h26) (lssRun (A := p.x) (B := (-1048575)) (.tmp 18) (.const (.int .i64 (-1048575))) rfl (litEv (by kernel_rfl)) (litEv (by kernel_rfl)))) rfl (by decide) ?_
      refine lk (v := .bool true) rfl rfl rfl ?_
      refine plSkip (i := 3) rfl (wgN rfl rfl rfl (by decide) (by kernel_rfl)) ?_
      refine qP rfl ?_
      refine plSkip (i := 4) rfl (wgN rfl rfl rfl (by decide) (by kernel_rfl)) ?_
      refine qP rfl ?_
      refine lk (v := .bool true) rfl rfl rfl ?_
      refine plD ?_
      refine then_normal (hK25 _ _ ?_)
      refine wp_cond_true (litEv (by kernel_rfl)) ?_
      refine wp_seq_k fun K27 hK27 => ?_
      refine plStart ?_
      refine lk (v := .bool false) rfl rfl rfl ?_
      refine plD ?_
      refine then_normal (hK27 _ _ ?_)
      refine wp_ret ?_
      refine inBlock_ret ?_
      refine then_ret ?_
      refine then_ret ?_
      refine inBlock_ret ?_
      refine inBlock_ret ?_
      refine then_ret ?_
      refine then_ret ?_
      refine inBlock_ret ?_
      refine then_ret ?_
      refine bodyPost_ret (v := .bool false) (gRes1 rfl (gResTmp (t := 2) (v := .bool false) (litGet (by kernel_rfl)))) rfl ?_
      exact ⟨congrArg (fun b_ => Ending.returned (.bool b_)) (decide_eq_false (fun hall => by have hpr := hall p (List.mem_of_getElem? hp); unfold Pt.rng at hpr; omega)).symm, hm20.bel⟩
    refine litVal (v := .bool false) rfl (wn rfl) (boolTo (decide_eq_false h26) (lssRun (A := p.x) (B := (-1048575)) (.tmp 18) (.const (.int .i64 (-1048575))) rfl (litEv (by kernel_rfl)) (litEv (by kernel_rfl)))) rfl (by decide) ?_
    refine lk (v := .bool false) rfl rfl rfl ?_
    refine litVal (v := .int .i64 p.x) rfl (wgY rfl rfl rfl (by decide) (by kernel_rfl)) (litRun (by kernel_rfl)) rfl (by decide) ?_
    by_cases h28 : 1048575 < p.x
    · refine litVal (v := .bool true) rfl (wgY rfl rfl rfl (by decide) (by kernel_rfl)) (boolTo (decide_eq_true h28) (gtrRun (A := p.x) (B := 1048575) (.tmp 21) (.const (.int .i64 1048575)) rfl (litEv (by kernel_rfl)) (litEv (by kernel_rfl)))) rfl (by decide) ?_
      refine lk (v := .bool true) rfl rfl rfl ?_
      refine plD ?_
      refine then_normal (hK25 _ _ ?_)
      refine wp_cond_true (litEv (by kernel_rfl)) ?_
      refine wp_seq_k fun K29 hK29 => ?_
      refine plStart ?_
      refine lk (v := .bool false) rfl rfl rfl ?_
      refine plD ?_
      refine then_normal (hK29 _ _ ?_)
      refine wp_ret ?_
      refine inBlock_ret ?_
      refine then_ret ?_
      refine then_ret ?_
      refine inBlock_ret ?_
      refine inBlock_ret ?_
      refine then_ret ?_
      refine then_ret ?_
      refine inBlock_ret ?_
      refine then_ret ?_
      refine bodyPost_ret (v := .bool false) (gRes1 rfl (gResTmp (t := 2) (v := .bool false) (litGet (by kernel_rfl)))) rfl ?_
      exact ⟨congrArg (fun b_ => Ending.returned (.bool b_)) (decide_eq_false (fun hall => by have hpr := hall p (List.mem_of_getElem? hp); unfold Pt.rng at hpr; omega)).symm, hm20.bel⟩
    refine litVal (v := .bool false) rfl (wgY rfl rfl rfl (by decide) (by kernel_rfl)) (boolTo (decide_eq_false h28) (gtrRun (A := p.x) (B := 1048575) (.tmp 21) (.const (.int .i64 1048575)) rfl (litEv (by kernel_rfl)) (litEv (by kernel_rfl)))) rfl (by decide) ?_
    refine lk (v := .bool false) rfl rfl rfl ?_
    refine plD ?_
    refine then_normal (hK25 _ _ ?_)
    refine wp_cond_false (litEv (by kernel_rfl)) ?_
    refine wp_skip ?_
    refine inBlock_normal ?_
    refine then_normal (hK23 _ _ ?_)
    refine plStart ?_
    refine lk (v := .int .i64 1) rfl rfl rfl ?_
    refine lk (v := .int .i64 1) rfl rfl rfl ?_
    refine plD ?_
    refine then_normal (roundsNext ?_)
    refine wp_seq_k fun K30 hK30 => ?_
    refine plStart ?_
    refine lk (v := .bool true) rfl rfl rfl ?_
    refine plD ?_
    refine then_normal (hK30 _ _ ?_)
    refine wp_seq_k fun K31 hK31 => ?_
    refine wp_cond_true (litEv (by kernel_rfl)) ?_
    refine wp_skip ?_
    refine then_normal (hK31 _ _ ?_)
    refine wp_seq_k fun K32 hK32 => ?_
    refine wp_block ?_
    refine wp_seq_k fun K33 hK33 => ?_
    refine plStart ?_
    refine lk (v := .int .i64 p.y) rfl rfl rfl ?_
    refine lk (v := .int .i64 p.y) rfl rfl rfl ?_
    refine plD ?_
    refine then_normal (hK33 _ _ ?_)
    refine wp_seq_k fun K34 hK34 => ?_
    refine plStart ?_
    refine lk (v := .int .i64 p.y) rfl rfl rfl ?_
    by_cases h35 : p.y < (-1048575)
    · refine litVal (v := .bool true) rfl (wn rfl) (boolTo (decide_eq_true h35) (lssRun (A := p.y) (B := (-1048575)) (.tmp 18) (.const (.int .i64 (-1048575))) rfl (litEv (by kernel_rfl)) (litEv (by kernel_rfl)))) rfl (by decide) ?_
      refine lk (v := .bool true) rfl rfl rfl ?_
      refine plSkip (i := 3) rfl (wgN rfl rfl rfl (by decide) (by kernel_rfl)) ?_
      refine qP rfl ?_
      refine plSkip (i := 4) rfl (wgN rfl rfl rfl (by decide) (by kernel_rfl)) ?_
      refine qP rfl ?_
      refine lk (v := .bool true) rfl rfl rfl ?_
      refine plD ?_
      refine then_normal (hK34 _ _ ?_)
      refine wp_cond_true (litEv (by kernel_rfl)) ?_
      refine wp_seq_k fun K36 hK36 => ?_
      refine plStart ?_
      refine lk (v := .bool false) rfl rfl rfl ?_
      refine plD ?_
      refine then_normal (hK36 _ _ ?_)
      refine wp_ret ?_
      refine inBlock_ret ?_
      refine then_ret ?_
      refine then_ret ?_
      refine inBlock_ret ?_
      refine inBlock_ret ?_
      refine then_ret ?_
      refine then_ret ?_
      refine inBlock_ret ?_
      refine then_ret ?_
      refine bodyPost_ret (v := .bool false) (gRes1 rfl (gResTmp (t := 2) (v := .bool false) (litGet (by kernel_rfl)))) rfl ?_
      exact ⟨congrArg (fun b_ => Ending.returned (.bool b_)) (decide_eq_false (fun hall => by have hpr := hall p (List.mem_of_getElem? hp); unfold Pt.rng at hpr; omega)).symm, hm20.bel⟩
    refine litVal (v := .bool false) rfl (wn rfl) (boolTo (decide_eq_false h35) (lssRun (A := p.y) (B := (-1048575)) (.tmp 18) (.const (.int .i64 (-1048575))) rfl (litEv (by kernel_rfl)) (litEv (by kernel_rfl)))) rfl (by decide) ?_
    refine lk (v := .bool false) rfl rfl rfl ?_
    refine litVal (v := .int .i64 p.y) rfl (wgY rfl rfl rfl (by decide) (by kernel_rfl)) (litRun (by kernel_rfl)) rfl (by decide) ?_
    by_cases h37 : 1048575 < p.y
    · refine litVal (v := .bool true) rfl (wgY rfl rfl rfl (by decide) (by kernel_rfl)) (boolTo (decide_eq_true h37) (gtrRun (A := p.y) (B := 1048575) (.tmp 21) (.const (.int .i64 1048575)) rfl (litEv (by kernel_rfl)) (litEv (by kernel_rfl)))) rfl (by decide) ?_
      refine lk (v := .bool true) rfl rfl rfl ?_
      refine plD ?_
      refine then_normal (hK34 _ _ ?_)
      refine wp_cond_true (litEv (by kernel_rfl)) ?_
      refine wp_seq_k fun K38 hK38 => ?_
      refine plStart ?_
      refine lk (v := .bool false) rfl rfl rfl ?_
      refine plD ?_
      refine then_normal (hK38 _ _ ?_)
      refine wp_ret ?_
      refine inBlock_ret ?_
      refine then_ret ?_
      refine then_ret ?_
      refine inBlock_ret ?_
      refine inBlock_ret ?_
      refine then_ret ?_
      refine then_ret ?_
      refine inBlock_ret ?_
      refine then_ret ?_
      refine bodyPost_ret (v := .bool false) (gRes1 rfl (gResTmp (t := 2) (v := .bool false) (litGet (by kernel_rfl)))) rfl ?_
      exact ⟨congrArg (fun b_ => Ending.returned (.bool b_)) (decide_eq_false (fun hall => by have hpr := hall p (List.mem_of_getElem? hp); unfold Pt.rng at hpr; omega)).symm, hm20.bel⟩
    refine litVal (v := .bool false) rfl (wgY rfl rfl rfl (by decide) (by kernel_rfl)) (boolTo (decide_eq_false h37) (gtrRun (A := p.y) (B := 1048575) (.tmp 21) (.const (.int .i64 1048575)) rfl (litEv (by kernel_rfl)) (litEv (by kernel_rfl)))) rfl (by decide) ?_
    refine lk (v := .bool false) rfl rfl rfl ?_
    refine plD ?_
    refine then_normal (hK34 _ _ ?_)
    refine wp_cond_false (litEv (by kernel_rfl)) ?_
    refine wp_skip ?_
    refine inBlock_normal ?_
    refine then_normal (hK32 _ _ ?_)
    refine plStart ?_
    refine lk (v := .int .i64 2) rfl rfl rfl ?_
    refine lk (v := .int .i64 2) rfl rfl rfl ?_
    refine plD ?_
    refine then_normal (roundsNext ?_)
    refine wp_seq_k fun K39 hK39 => ?_
    refine plStart ?_
    refine lk (v := .bool true) rfl rfl rfl ?_
    refine plD ?_
    refine then_normal (hK39 _ _ ?_)
    refine wpPrune [(4, .pointer (some ⟨g13, 0, none⟩)), (6, .int .i64 p.y), (7, .slice (some ⟨b_, off_, none⟩) l.length c), (8, .int .i64 (l.length : Int)), (9, .int .i64 (k : Int)), (10, .bool true), (11, .pointer (some ⟨b_, off_ + k * 3, none⟩)), (12, .agg (pcs p).toArray), (13, .agg (pcs p).toArray), (14, .agg (pcs p).toArray), (15, .int .i64 2), (16, .bool true), (17, .int .i64 p.y), (18, .int .i64 p.y), (19, .bool false), (20, .bool false), (21, .int .i64 p.y), (22, .bool false), (23, .bool false), (24, .int .i64 2)] ⟨litGet (by kernel_rfl), ⟨litGet (by kernel_rfl), ⟨litGet (by kernel_rfl), ⟨litGet (by kernel_rfl), ⟨litGet (by kernel_rfl), ⟨litGet (by kernel_rfl), ⟨litGet (by kernel_rfl), ⟨litGet (by kernel_rfl), ⟨litGet (by kernel_rfl), ⟨litGet (by kernel_rfl), ⟨litGet (by kernel_rfl), ⟨litGet (by kernel_rfl), ⟨litGet (by kernel_rfl), ⟨litGet (by kernel_rfl), ⟨litGet (by kernel_rfl), ⟨litGet (by kernel_rfl), ⟨litGet (by kernel_rfl), ⟨litGet (by kernel_rfl), ⟨litGet (by kernel_rfl), ⟨litGet (by kernel_rfl), trivial⟩⟩⟩⟩⟩⟩⟩⟩⟩⟩⟩⟩⟩⟩⟩⟩⟩⟩⟩⟩ (fun X40 => ?_)
    refine wp_seq_k fun K41 hK41 => ?_
    refine wp_cond_true (litEv (by kernel_rfl)) ?_
    refine wp_skip ?_
    refine then_normal (hK41 _ _ ?_)
    refine wp_seq_k fun K42 hK42 => ?_
    refine wp_block ?_
    refine wp_seq_k fun K43 hK43 => ?_
    refine plStart ?_
    refine lk (v := .int .i64 p.z) rfl rfl rfl ?_
    refine lk (v := .int .i64 p.z) rfl rfl rfl ?_
    refine plD ?_
    refine then_normal (hK43 _ _ ?_)
    refine wp_seq_k fun K44 hK44 => ?_
    refine plStart ?_
    refine lk (v := .int .i64 p.z) rfl rfl rfl ?_
    by_cases h45 : p.z < (-1048575)
    · refine litVal (v := .bool true) rfl (wn rfl) (boolTo (decide_eq_true h45) (lssRun (A := p.z) (B := (-1048575)) (.tmp 18) (.const (.int .i64 (-1048575))) rfl (litEv (by kernel_rfl)) (litEv (by kernel_rfl)))) rfl (by decide) ?_
      refine lk (v := .bool true) rfl rfl rfl ?_
      refine plSkip (i := 3) rfl (wgN rfl rfl rfl (by decide) (by kernel_rfl)) ?_
      refine qP rfl ?_
      refine plSkip (i := 4) rfl (wgN rfl rfl rfl (by decide) (by kernel_rfl)) ?_
      refine qP rfl ?_
      refine lk (v := .bool true) rfl rfl rfl ?_
      refine plD ?_
      refine then_normal (hK44 _ _ ?_)
      refine wp_cond_true (litEv (by kernel_rfl)) ?_
      refine wp_seq_k fun K46 hK46 => ?_
      refine plStart ?_
      refine lk (v := .bool false) rfl rfl rfl ?_
      refine plD ?_
      refine then_normal (hK46 _ _ ?_)
      refine wp_ret ?_
      refine inBlock_ret ?_
      refine then_ret ?_
      refine then_ret ?_
      refine inBlock_ret ?_
      refine inBlock_ret ?_
      refine then_ret ?_
      refine then_ret ?_
      refine inBlock_ret ?_
      refine then_ret ?_
      refine bodyPost_ret (v := .bool false) (gRes1 rfl (gResTmp (t := 2) (v := .bool false) (litGet (by kernel_rfl)))) rfl ?_
      exact ⟨congrArg (fun b_ => Ending.returned (.bool b_)) (decide_eq_false (fun hall => by have hpr := hall p (List.mem_of_getElem? hp); unfold Pt.rng at hpr; omega)).symm, hm20.bel⟩
    refine litVal (v := .bool false) rfl (wn rfl) (boolTo (decide_eq_false h45) (lssRun (A := p.z) (B := (-1048575)) (.tmp 18) (.const (.int .i64 (-1048575))) rfl (litEv (by kernel_rfl)) (litEv (by kernel_rfl)))) rfl (by decide) ?_
    refine lk (v := .bool false) rfl rfl rfl ?_
    refine litVal (v := .int .i64 p.z) rfl (wgY rfl rfl rfl (by decide) (by kernel_rfl)) (litRun (by kernel_rfl)) rfl (by decide) ?_
    by_cases h47 : 1048575 < p.z
    · refine litVal (v := .bool true) rfl (wgY rfl rfl rfl (by decide) (by kernel_rfl)) (boolTo (decide_eq_true h47) (gtrRun (A := p.z) (B := 1048575) (.tmp 21) (.const (.int .i64 1048575)) rfl (litEv (by kernel_rfl)) (litEv (by kernel_rfl)))) rfl (by decide) ?_
      refine lk (v := .bool true) rfl rfl rfl ?_
      refine plD ?_
      refine then_normal (hK44 _ _ ?_)
      refine wp_cond_true (litEv (by kernel_rfl)) ?_
      refine wp_seq_k fun K48 hK48 => ?_
      refine plStart ?_
      refine lk (v := .bool false) rfl rfl rfl ?_
      refine plD ?_
      refine then_normal (hK48 _ _ ?_)
      refine wp_ret ?_
      refine inBlock_ret ?_
      refine then_ret ?_
      refine then_ret ?_
      refine inBlock_ret ?_
      refine inBlock_ret ?_
      refine then_ret ?_
      refine then_ret ?_
      refine inBlock_ret ?_
      refine then_ret ?_
      refine bodyPost_ret (v := .bool false) (gRes1 rfl (gResTmp (t := 2) (v := .bool false) (litGet (by kernel_rfl)))) rfl ?_
      exact ⟨congrArg (fun b_ => Ending.returned (.bool b_)) (decide_eq_false (fun hall => by have hpr := hall p (List.mem_of_getElem? hp); unfold Pt.rng at hpr; omega)).symm, hm20.bel⟩
    refine litVal (v := .bool false) rfl (wgY rfl rfl rfl (by decide) (by kernel_rfl)) (boolTo (decide_eq_false h47) (gtrRun (A := p.z) (B := 1048575) (.tmp 21) (.const (.int .i64 1048575)) rfl (litEv (by kernel_rfl)) (litEv (by kernel_rfl)))) rfl (by decide) ?_
    refine lk (v := .bool false) rfl rfl rfl ?_
    refine plD ?_
    refine then_normal (hK44 _ _ ?_)
    refine wp_cond_false (litEv (by kernel_rfl)) ?_
    refine wp_skip ?_
    refine inBlock_normal ?_
    refine then_normal (hK42 _ _ ?_)
    refine plStart ?_
    refine lk (v := .int .i64 3) rfl rfl rfl ?_
    refine lk (v := .int .i64 3) rfl rfl rfl ?_
    refine plD ?_
    refine then_normal (roundsNext ?_)
    refine wp_seq_k fun K49 hK49 => ?_
    refine plStart ?_
    refine lk (v := .bool false) rfl rfl rfl ?_
    refine plD ?_
    refine then_normal (hK49 _ _ ?_)
    refine wp_seq_k fun K50 hK50 => ?_
    refine wp_cond_false (litEv (by kernel_rfl)) ?_
    refine wp_exit ?_
    refine then_exit ?_
    refine then_exit ?_
    refine inBlock_exit ?_
    refine inBlock_normal ?_
    refine then_normal (hK11 _ _ ?_)
    refine plStart ?_
    refine litVal (v := .int .i64 ((k : Int) + 1)) rfl (wn rfl) (addRun (A := (k : Int)) (B := 1) (C := (k : Int) + 1) (.tmp 9) (.const (.int .i64 1)) rfl (litEv (by kernel_rfl)) (litEv (by kernel_rfl)) rfl (by omega)) rfl (by decide) ?_
    refine lk (v := .int .i64 ((k : Int) + 1)) rfl rfl rfl ?_
    refine plD ?_
    refine then_normal ?_
    exact ⟨_, by omega, (k + 1), rfl, by omega, rngAll_succ hp hk2_ (by unfold Pt.rng; omega), ⟨litSize, rfl, ⟨litGet (by kernel_rfl), ⟨litGet (by kernel_rfl), ⟨litGet (by kernel_rfl), trivial⟩⟩⟩⟩, (hm20.sub (List.nil_sublist _))⟩
  refine litVal (v := .bool false) rfl (wn rfl) (boolTo (decide_eq_false h9) (lssRun (A := (k : Int)) (B := (l.length : Int)) (.tmp 9) (.tmp 8) rfl (litEv (by kernel_rfl)) (litEv (by kernel_rfl)))) rfl (by decide) ?_
  refine plD ?_
  refine then_normal (hK8 _ _ ?_)
  refine wp_seq_k fun K51 hK51 => ?_
  refine wp_cond_false (litEv (by kernel_rfl)) ?_
  refine wp_exit ?_
  refine then_exit ?_
  refine then_exit ?_
  refine inBlock_exit ?_
  refine then_normal (hK2 _ _ ?_)
  refine wp_seq_k fun K52 hK52 => ?_
  refine plStart ?_
  refine lk (v := .bool true) rfl rfl rfl ?_
  refine plD ?_
  refine then_normal (hK52 _ _ ?_)
  refine wp_ret ?_
  refine bodyPost_ret (v := .bool true) (gRes1 rfl (gResTmp (t := 2) (v := .bool true) (litGet (by kernel_rfl)))) rfl ?_
  exact ⟨congrArg (fun b_ => Ending.returned (.bool b_)) (decide_eq_true (by rw [List.take_of_length_le (by omega)] at hk2_; exact hk2_)).symm, hm5.bel⟩
set_option maxRecDepth 100000 in
set_option maxHeartbeats 4000000 in
theorem check_any (a b : Pt) (w : World) : Calls Try.prog 31 #[.agg (pcs a).toArray, .agg (pcs b).toArray] w (RetV w (.int .i64 (ckE a b))) := by
  have hm0 := Mem.nil w
  go_enter Try.func31, Try.ntmps31
  refine litStart 41 [(0, .agg (pcs a).toArray), (1, .agg (pcs b).toArray)] (by kernel_rfl) (fun X0 => ?_)
  refine wp_seq_k fun K1 hK1 => ?_
  refine plStart ?_
  refine plBox hm0 (cs := pcs a) (i := 0) rfl (wn rfl) rfl (litEv (by kernel_rfl)) ?_
  intro g2 w4 hm3
  clear hm0
  try simp only [List.cons_append, List.nil_append, List.set_cons_succ, List.set_cons_zero] at hm3
  refine qP rfl ?_
  refine plBox hm3 (cs := pcs b) (i := 1) rfl (wn rfl) rfl (litEv (by kernel_rfl)) ?_
  intro g5 w7 hm6
  clear hm3
  try simp only [List.cons_append, List.nil_append, List.set_cons_succ, List.set_cons_zero] at hm6
  refine qP rfl ?_
  refine lk (v := .int .i64 0) rfl rfl rfl ?_
  refine plD ?_
  refine then_normal (hK1 _ _ ?_)
  refine wp_seq_k fun K8 hK8 => ?_
  refine wp_seq_k fun K9 hK9 => ?_
  refine plStart ?_
  refine litVal (v := .agg (pcs a).toArray) rfl (wn rfl) (gLoadAg (vs := pcs a) (k := 0) 0 hm6 rfl (by kernel_rfl) (by kernel_rfl) (.tmp 2) Ty.ag_voxel_api_Point rfl (litEv (by kernel_rfl))) rfl (by decide) ?_
  refine litVal (v := .agg (pcs b).toArray) rfl (wn rfl) (gLoadAg (vs := pcs b) (k := 0) 1 hm6 rfl (by kernel_rfl) (by kernel_rfl) (.tmp 3) Ty.ag_voxel_api_Point rfl (litEv (by kernel_rfl))) rfl (by decide) ?_
  refine plLit (cs := [.int .i64 a.x, .int .i64 a.y, .int .i64 a.z, .int .i64 b.x, .int .i64 b.y, .int .i64 b.z]) (n := 2) Ty.sl_L_api_Point hm6 (i := 2) rfl (wn rfl) rfl (by decide) (by decide) (by rw [lit_eval]; kernel_rfl) ?_
  intro g10 w12 hm11
  clear hm6
  try simp only [List.cons_append, List.nil_append, List.set_cons_succ, List.set_cons_zero] at hm11
  refine qP rfl ?_
  refine plCall (i := 3) 35 [.slice (some ⟨g10, 0, none⟩) 2 2] [] [] rfl (by kernel_rfl) (wn rfl) rfl (litEv (by kernel_rfl)) (litArgs (by kernel_rfl)) (by have h := inRange_any [a, b] (some ⟨g10, 0, none⟩) 2 w12 (of_decide_eq_true (by kernel_rfl)) (Rd.of_arr (t := 23) (cs := [.int .i64 a.x, .int .i64 a.y, .int .i64 a.z, .int .i64 b.x, .int .i64 b.y, .int .i64 b.z]) (hm11.arr 2 (by kernel_rfl)) (by kernel_rfl) (of_decide_eq_true (by kernel_rfl))); rw [rng2] at h; exact h) ?_
  rintro e w13 ⟨rfl, hbz⟩
  have hm14 := hm11.below hbz
  clear hbz hm11
  refine ⟨_, rfl, ?_⟩
  refine qP rfl ?_
  rcases bool_or (decide (a.rng ∧ b.rng)) with h15 | h15
  · rw [h15]
    refine lk (v := .bool true) rfl rfl rfl ?_
    refine plD ?_
    refine then_normal (hK9 _ _ ?_)
    refine wp_cond_true (litEv (by kernel_rfl)) ?_
    refine wp_seq_k fun K16 hK16 => ?_
    refine plStart ?_
    refine lk (v := .int .i64 1) rfl rfl rfl ?_
    refine plD ?_
    refine then_normal (hK16 _ _ ?_)
    refine wp_ret ?_
    refine then_ret ?_
    refine bodyPost_ret (v := .int .i64 1) (gRes1 rfl (gResTmp (t := 4) (v := .int .i64 1) (litGet (by kernel_rfl)))) rfl ?_
    exact ⟨by unfold ckE; rw [if_neg (of_decide_eq_false h15)], hm14.bel⟩
  rw [h15]
  refine lk (v := .bool false) rfl rfl rfl ?_
  refine plD ?_
  refine then_normal (hK9 _ _ ?_)
  refine wp_cond_false (litEv (by kernel_rfl)) ?_
  refine wp_skip ?_
  refine then_normal (hK8 _ _ ?_)
  refine wp_seq_k fun K17 hK17 => ?_
  refine plStart ?_
  refine lk (v := .int .i64 0) rfl rfl rfl ?_
  refine plD ?_
  refine then_normal (hK17 _ _ ?_)
  refine wp_seq_k fun K18 hK18 => ?_
  refine aoStart (aoV [fun _ => .agg (pcs a).toArray, fun _ => .agg (pcs a).toArray, fun _ => .agg (pcs b).toArray, fun _ => .agg (pcs b).toArray, fun γ_ => .pointer (some ⟨γ_, 0, none⟩), fun γ_ => .pointer (some ⟨γ_, 0, none⟩), fun _ => undef, fun _ => undef]) (aoA [0, 1, 2, 3, 4, 5, 6, 7]) (fun b_ g_ => ((.arr g2 23 (pcs a)) :: (.arr g5 23 (pcs b)) :: (.arr g10 23 ([.int .i64 a.x, .int .i64 a.y, .int .i64 a.z, .int .i64 b.x, .int .i64 b.y, .int .i64 b.z])) :: (bsel (b_ 4) (.arr (g_ 4) 71 (bsel (b_ 6) [.int .i64 a.x, .int .i64 a.y, .int .i64 a.z] [.int .i64 0, .int .i64 0, .int .i64 0])) .free) :: (bsel (b_ 5) (.arr (g_ 5) 71 (bsel (b_ 7) [.int .i64 b.x, .int .i64 b.y, .int .i64 b.z] [.int .i64 0, .int .i64 0, .int .i64 0])) .free) :: [])) hm14 (by kernel_rfl) (by kernel_rfl) (fun w_ h_ => h_.pushFree.pushFree) (fun b_ g_ h_ => by show (fun (x4_ x5_ x6_ x7_ : Bool) => (((.arr g2 23 (pcs a)) :: (.arr g5 23 (pcs b)) :: (.arr g10 23 ([.int .i64 a.x, .int .i64 a.y, .int .i64 a.z, .int .i64 b.x, .int .i64 b.y, .int .i64 b.z])) :: (bsel x4_ (.arr (g_ 4) 71 (bsel x6_ [.int .i64 a.x, .int .i64 a.y, .int .i64 a.z] [.int .i64 0, .int .i64 0, .int .i64 0])) .free) :: (bsel x5_ (.arr (g_ 5) 71 (bsel x7_ [.int .i64 b.x, .int .i64 b.y, .int .i64 b.z] [.int .i64 0, .int .i64 0, .int .i64 0])) .free) :: []) : List Res)) (b_ 4) (b_ 5) (b_ 6) (b_ 7) = _; rw [h_ 4 (by decide), h_ 5 (by decide), h_ 6 (by decide), h_ 7 (by decide)]) ?_ ?_
  · refine aoNext rfl (aoVal (fun g_ => [(2, .pointer (some ⟨g2, 0, none⟩))]) (fun g_ a_ h_k => ⟨(h_k.out 2 (by kernel_rfl)).trans (litGet (by kernel_rfl)), trivial⟩) (fun g_ X_ => (wn rfl)) (fun b_ g_ => by kernel_rfl) (fun b_ g_ X_ w_ h_b h_ => valTo (b := .agg (pcs a).toArray) (by kernel_rfl) (gLoadAg (vs := pcs a) (k := 0) 0 h_ rfl (by kernel_rfl) (by kernel_rfl) (.tmp 2) Ty.ag_voxel_api_Point rfl (litEv (by kernel_rfl))))) ?_
    refine aoNext rfl (aoCall (fun g_ => [(14, .agg (pcs a).toArray)]) (fun g_ a_ h_k => ⟨(h_k.inn 0 _ _ (by kernel_rfl) rfl rfl).trans (by kernel_rfl), trivial⟩) 36 (fun g_ => [.agg (pcs a).toArray]) [] [] (by kernel_rfl) (fun g_ X_ => (wn rfl)) (fun b_ g_ => by kernel_rfl) rfl (fun g_ X_ => litEv (by kernel_rfl)) (fun g_ X_ => litArgs (by kernel_rfl)) (fun b_ g_ w_ h_b h_ => (coordinates_any a _).mono (fun _ _ h_r => ⟨h_r.1.trans (by kernel_rfl), h_r.2⟩))) ?_
    refine aoNext rfl (aoVal (fun g_ => [(3, .pointer (some ⟨g5, 0, none⟩))]) (fun g_ a_ h_k => ⟨(h_k.out 3 (by kernel_rfl)).trans (litGet (by kernel_rfl)), trivial⟩) (fun g_ X_ => (wn rfl)) (fun b_ g_ => by kernel_rfl) (fun b_ g_ X_ w_ h_b h_ => valTo (b := .agg (pcs b).toArray) (by kernel_rfl) (gLoadAg (vs := pcs b) (k := 0) 1 h_ rfl (by kernel_rfl) (by kernel_rfl) (.tmp 3) Ty.ag_voxel_api_Point rfl (litEv (by kernel_rfl))))) ?_
    refine aoNext rfl (aoCall (fun g_ => [(16, .agg (pcs b).toArray)]) (fun g_ a_ h_k => ⟨(h_k.inn 2 _ _ (by kernel_rfl) rfl rfl).trans (by kernel_rfl), trivial⟩) 36 (fun g_ => [.agg (pcs b).toArray]) [] [] (by kernel_rfl) (fun g_ X_ => (wn rfl)) (fun b_ g_ => by kernel_rfl) rfl (fun g_ X_ => litEv (by kernel_rfl)) (fun g_ X_ => litArgs (by kernel_rfl)) (fun b_ g_ w_ h_b h_ => (coordinates_any b _).mono (fun _ _ h_r => ⟨h_r.1.trans (by kernel_rfl), h_r.2⟩))) ?_
    refine aoNext rfl (aoNewAg (z := [.int .i64 0, .int .i64 0, .int .i64 0]) 3 Ty.ag_3_int rfl rfl (fun _ _ _ => ⟨_, rfl⟩) (fun b_ g_ γ_ h_b => Eq.trans (by kernel_rfl) (congrArg (fun x_ => List.set _ 3 (Res.arr γ_ 71 x_)) (bselF (α := List Value) (h_b.post 6 (by kernel_rfl)) [.int .i64 a.x, .int .i64 a.y, .int .i64 a.z] [.int .i64 0, .int .i64 0, .int .i64 0]))) (fun _ => by kernel_rfl) (by kernel_rfl)) ?_
    refine aoNext rfl (aoNewAg (z := [.int .i64 0, .int .i64 0, .int .i64 0]) 4 Ty.ag_3_int rfl rfl (fun _ _ _ => ⟨_, rfl⟩) (fun b_ g_ γ_ h_b => Eq.trans (by kernel_rfl) (congrArg (fun x_ => List.set _ 4 (Res.arr γ_ 71 x_)) (bselF (α := List Value) (h_b.post 7 (by kernel_rfl)) [.int .i64 b.x, .int .i64 b.y, .int .i64 b.z] [.int .i64 0, .int .i64 0, .int .i64 0]))) (fun _ => by kernel_rfl) (by kernel_rfl)) ?_
    refine aoNext rfl (aoStore (gb := fun g_ => (g_ 4)) (k := 0) (cur := fun g_ => [.int .i64 0, .int .i64 0, .int .i64 0]) (vs := fun g_ => pcs a) 3 (fun g_ => [(6, .pointer (some ⟨(g_ 4), 0, none⟩)), (15, .agg (pcs a).toArray)]) (fun g_ a_ h_k => ⟨(h_k.inn 4 _ _ (by kernel_rfl) rfl rfl).trans (by kernel_rfl), (h_k.inn 1 _ _ (by kernel_rfl) rfl rfl).trans (by kernel_rfl), trivial⟩) Ty.ag_3_int (fun b_ g_ h_b => by show some (bsel (b_ 4) (Res.arr (g_ 4) 71 (bsel (b_ 6) [.int .i64 a.x, .int .i64 a.y, .int .i64 a.z] [.int .i64 0, .int .i64 0, .int .i64 0])) Res.free) = some (Res.arr (g_ 4) 71 ([.int .i64 0, .int .i64 0, .int .i64 0])); rw [bselT (h_b.pre 4 (by kernel_rfl)), bselF h_b.no]) (fun g_ X_ => (wn rfl)) rfl (fun g_ X_ => litEv (by kernel_rfl)) (fun g_ X_ => litEv (by kernel_rfl)) (fun _ => by kernel_rfl) (fun _ => by kernel_rfl) (fun _ => by kernel_rfl) (fun b_ g_ h_b => Eq.trans (b := List.set (((.arr g2 23 (pcs a)) :: (.arr g5 23 (pcs b)) :: (.arr g10 23 ([.int .i64 a.x, .int .i64 a.y, .int .i64 a.z, .int .i64 b.x, .int .i64 b.y, .int .i64 b.z])) :: (bsel (b_ 4) (.arr (g_ 4) 71 (bsel (b_ 6) [.int .i64 a.x, .int .i64 a.y, .int .i64 a.z] [.int .i64 0, .int .i64 0, .int .i64 0])) .free) :: (bsel (b_ 5) (.arr (g_ 5) 71 (bsel (b_ 7) [.int .i64 b.x, .int .i64 b.y, .int .i64 b.z] [.int .i64 0, .int .i64 0, .int .i64 0])) .free) :: [])) 3 (bsel (b_ 4) (Res.arr (g_ 4) 71 ([.int .i64 a.x, .int .i64 a.y, .int .i64 a.z])) Res.free)) (by kernel_rfl) (congrArg (fun x_ => List.set _ 3 x_) (bselT (h_b.pre 4 (by kernel_rfl)) _ _))) rfl) ?_
    refine aoNext rfl (aoStore (gb := fun g_ => (g_ 5)) (k := 0) (cur := fun g_ => [.int .i64 0, .int .i64 0, .int .i64 0]) (vs := fun g_ => pcs b) 4 (fun g_ => [(7, .pointer (some ⟨(g_ 5), 0, none⟩)), (17, .agg (pcs b).toArray)]) (fun g_ a_ h_k => ⟨(h_k.inn 5 _ _ (by kernel_rfl) rfl rfl).trans (by kernel_rfl), (h_k.inn 3 _ _ (by kernel_rfl) rfl rfl).trans (by kernel_rfl), trivial⟩) Ty.ag_3_int (fun b_ g_ h_b => by show some (bsel (b_ 5) (Res.arr (g_ 5) 71 (bsel (b_ 7) [.int .i64 b.x, .int .i64 b.y, .int .i64 b.z] [.int .i64 0, .int .i64 0, .int .i64 0])) Res.free) = some (Res.arr (g_ 5) 71 ([.int .i64 0, .int .i64 0, .int .i64 0])); rw [bselT (h_b.pre 5 (by kernel_rfl)), bselF h_b.no]) (fun g_ X_ => (wn rfl)) rfl (fun g_ X_ => litEv (by kernel_rfl)) (fun g_ X_ => litEv (by kernel_rfl)) (fun _ => by kernel_rfl) (fun _ => by kernel_rfl) (fun _ => by kernel_rfl) (fun b_ g_ h_b => Eq.trans (b := List.set (((.arr g2 23 (pcs a)) :: (.arr g5 23 (pcs b)) :: (.arr g10 23 ([.int .i64 a.x, .int .i64 a.y, .int .i64 a.z, .int .i64 b.x, .int .i64 b.y, .int .i64 b.z])) :: (bsel (b_ 4) (.arr (g_ 4) 71 (bsel (b_ 6) [.int .i64 a.x, .int .i64 a.y, .int .i64 a.z] [.int .i64 0, .int .i64 0, .int .i64 0])) .free) :: (bsel (b_ 5) (.arr (g_ 5) 71 (bsel (b_ 7) [.int .i64 b.x, .int .i64 b.y, .int .i64 b.z] [.int .i64 0, .int .i64 0, .int .i64 0])) .free) :: [])) 4 (bsel (b_ 5) (Res.arr (g_ 5) 71 ([.int .i64 b.x, .int .i64 b.y, .int .i64 b.z])) Res.free)) (by kernel_rfl) (congrArg (fun x_ => List.set _ 4 x_) (bselT (h_b.pre 5 (by kernel_rfl)) _ _))) rfl) ?_
    exact aoDone (by decide)
  intro g_ a_ w20 hF_ hm19
  obtain ⟨X21, rfl⟩ := frLit (⟨hF_.size, hF_.defers, ⟨(hF_.out 4 (by kernel_rfl)).trans (litGet (by kernel_rfl)), (hF_.out 5 (by kernel_rfl)).trans (litGet (by kernel_rfl)), (hF_.inn 4 _ _ rfl rfl).trans (by kernel_rfl), (hF_.inn 5 _ _ rfl rfl).trans (by kernel_rfl), (hF_.inn 0 _ _ rfl rfl).trans (by kernel_rfl), (hF_.inn 1 _ _ rfl rfl).trans (by kernel_rfl), (hF_.inn 2 _ _ rfl rfl).trans (by kernel_rfl), (hF_.inn 3 _ _ rfl rfl).trans (by kernel_rfl), trivial⟩⟩ : Fr _ 41 [(4, .int .i64 0), (5, .int .i64 0), (6, .pointer (some ⟨(g_ 4), 0, none⟩)), (7, .pointer (some ⟨(g_ 5), 0, none⟩)), (14, .agg (pcs a).toArray), (15, .agg (pcs a).toArray), (16, .agg (pcs b).toArray), (17, .agg (pcs b).toArray)])
  clear hF_
  have hm22 : Mem w w20 [.arr g2 23 (pcs a), .arr g5 23 (pcs b), .arr g10 23 ([.int .i64 a.x, .int .i64 a.y, .int .i64 a.z, .int .i64 b.x, .int .i64 b.y, .int .i64 b.z]), .arr (g_ 4) 71 (pcs a), .arr (g_ 5) 71 (pcs b)] := hm19
  clear hm19 hm14
  generalize g_ 4 = g23 at hm22 ⊢
  generalize g_ 5 = g24 at hm22 ⊢
  clear g_
  refine then_normal (hK18 _ _ ?_)
  refine wp_seq_k fun K25 hK25 => ?_
  refine wp_seq_k fun K26 hK26 => ?_
  refine plStart ?_
  refine lk (v := .int .i64 0) rfl rfl rfl ?_
  refine plD ?_
  refine then_normal (hK26 _ _ ?_)
  refine wp_block ?_
  refine roundsStart 3 ?_
  refine wp_seq_k fun K27 hK27 => ?_
  refine plStart ?_
  refine lk (v := .bool true) rfl rfl rfl ?_
  refine plD ?_
  refine then_normal (hK27 _ _ ?_)
  refine wp_seq_k fun K28 hK28 => ?_
  refine wp_cond_true (litEv (by kernel_rfl)) ?_
  refine wp_skip ?_
  refine then_normal (hK28 _ _ ?_)
  refine wp_seq_k fun K29 hK29 => ?_
  refine wp_block ?_
  refine wp_seq_k fun K30 hK30 => ?_
  refine plStart ?_
  refine lk (v := .int .i64 0) rfl rfl rfl ?_
  refine lk (v := .int .i64 0) rfl rfl rfl ?_
  refine plD ?_
  refine then_normal (hK30 _ _ ?_)
  refine mgStart hm22 (by kernel_rfl) ?_
  intro w32 hm31
  clear hm22
  refine mk_ (i := 0) (v := .int .i64 0) rfl rfl (fun _ _ _ h => h) hm31 rfl ?_
  refine mk_ (i := 1) (v := .int .i64 0) rfl rfl (fun _ _ _ h => h) hm31 rfl ?_
  refine mgTake (i := 2) (v := .pointer (some ⟨g23, 0, none⟩)) rfl (by kernel_rfl) (wn rfl) (fun _ _ _ h => h) hm31 (fun w_ h_ => iaRun (b := g23) (off := 0) (s := 1) (n := 3) (kk := .i64) (.tmp 6) (.tmp 22) 0 Ty.und_3_int (by kernel_rfl) rfl (litEv (by kernel_rfl)) (litEv (by kernel_rfl)) rfl (by decide)) ?_
  refine mP rfl ?_
  refine mgTake (i := 3) (v := .int .i64 a.x) rfl (by kernel_rfl) (wn rfl) (fun _ _ _ h => h) hm31 (fun w_ h_ => gLoad (v := .int .i64 a.x) (k := 0) 3 h_ rfl (by kernel_rfl) (.tmp 23) (by kernel_rfl) rfl (litEv (by kernel_rfl))) ?_
  refine mP rfl ?_
  refine mk_ (i := 4) (v := .int .i64 0) rfl rfl (fun _ _ _ h => h) hm31 rfl ?_
  refine mgTake (i := 5) (v := .pointer (some ⟨g24, 0, none⟩)) rfl (by kernel_rfl) (wn rfl) (fun _ _ _ h => h) hm31 (fun w_ h_ => iaRun (b := g24) (off := 0) (s := 1) (n := 3) (kk := .i64) (.tmp 7) (.tmp 25) 0 Ty.und_3_int (by kernel_rfl) rfl (litEv (by kernel_rfl)) (litEv (by kernel_rfl)) rfl (by decide)) ?_
  refine mP rfl ?_
  refine mgTake (i := 6) (v := .int .i64 b.x) rfl (by kernel_rfl) (wn rfl) (fun _ _ _ h => h) hm31 (fun w_ h_ => gLoad (v := .int .i64 b.x) (k := 0) 4 h_ rfl (by kernel_rfl) (.tmp 26) (by kernel_rfl) rfl (litEv (by kernel_rfl))) ?_
  refine mP rfl ?_
  refine mgTake (i := 7) (v := .int .i64 (a.x - b.x)) rfl (by kernel_rfl) (wn rfl) (fun _ _ _ h => h) hm31 (fun w_ h_ => subRun (A := a.x) (B := b.x) (C := a.x - b.x) (.tmp 24) (.tmp 27) rfl (litEv (by kernel_rfl)) (litEv (by kernel_rfl)) rfl (by have hr_ := of_decide_eq_true h15; unfold Pt.rng at hr_; omega)) ?_
  refine mP rfl ?_
  refine mk_ (i := 8) (v := .int .i64 0) rfl rfl (fun _ _ _ h => h) hm31 rfl ?_
  refine mgTake (i := 9) (v := .pointer (some ⟨g24, 0, none⟩)) rfl (by kernel_rfl) (wn rfl) (fun _ _ _ h => h) hm31 (fun w_ h_ => iaRun (b := g24) (off := 0) (s := 1) (n := 3) (kk := .i64) (.tmp 7) (.tmp 29) 0 Ty.und_3_int (by kernel_rfl) rfl (litEv (by kernel_rfl)) (litEv (by kernel_rfl)) rfl (by decide)) ?_
  refine mP rfl ?_
  refine mgTake (i := 10) (v := .int .i64 b.x) rfl (by kernel_rfl) (wn rfl) (fun _ _ _ h => h) hm31 (fun w_ h_ => gLoad (v := .int .i64 b.x) (k := 0) 4 h_ rfl (by kernel_rfl) (.tmp 30) (by kernel_rfl) rfl (litEv (by kernel_rfl))) ?_
  refine mP rfl ?_
  refine mk_ (i := 11) (v := .int .i64 0) rfl rfl (fun _ _ _ h => h) hm31 rfl ?_
  refine mgTake (i := 12) (v := .pointer (some ⟨g23, 0, none⟩)) rfl (by kernel_rfl) (wn rfl) (fun _ _ _ h => h) hm31 (fun w_ h_ => iaRun (b := g23) (off := 0) (s := 1) (n := 3) (kk := .i64) (.tmp 6) (.tmp 32) 0 Ty.und_3_int (by kernel_rfl) rfl (litEv (by kernel_rfl)) (litEv (by kernel_rfl)) rfl (by decide)) ?_
  refine mP rfl ?_
  refine mgTake (i := 13) (v := .int .i64 a.x) rfl (by kernel_rfl) (wn rfl) (fun _ _ _ h => h) hm31 (fun w_ h_ => gLoad (v := .int .i64 a.x) (k := 0) 3 h_ rfl (by kernel_rfl) (.tmp 33) (by kernel_rfl) rfl (litEv (by kernel_rfl))) ?_
  refine mP rfl ?_
  refine mgTake (i := 14) (v := .int .i64 (b.x - a.x)) rfl (by kernel_rfl) (wn rfl) (fun _ _ _ h => h) hm31 (fun w_ h_ => subRun (A := b.x) (B := a.x) (C := b.x - a.x) (.tmp 31) (.tmp 34) rfl (litEv (by kernel_rfl)) (litEv (by kernel_rfl)) rfl (by have hr_ := of_decide_eq_true h15; unfold Pt.rng at hr_; omega)) ?_
  refine mP rfl ?_
  refine mgTake (i := 15) (v := .int .i64 (max (a.x - b.x) (b.x - a.x))) rfl (by kernel_rfl) (wn rfl) (fun _ _ _ h => h) hm31 (fun w_ h_ => gMax (.tmp 28) (.tmp 35) rfl (litEv (by kernel_rfl)) (litEv (by kernel_rfl))) ?_
  refine mP rfl ?_
  refine mgTake (i := 16) (v := .int .i64 (0 + (max (a.x - b.x) (b.x - a.x)))) rfl (by kernel_rfl) (wn rfl) (fun _ _ _ h => h) hm31 (fun w_ h_ => addRun (A := 0) (B := (max (a.x - b.x) (b.x - a.x))) (C := 0 + (max (a.x - b.x) (b.x - a.x))) (.tmp 21) (.tmp 36) rfl (litEv (by kernel_rfl)) (litEv (by kernel_rfl)) rfl (by have hr_ := of_decide_eq_true h15; unfold Pt.rng at hr_; omega)) ?_
  refine mP rfl ?_
  refine mk_ (i := 17) (v := .int .i64 (0 + (max (a.x - b.x) (b.x - a.x)))) rfl rfl (fun _ _ _ h => h) hm31 rfl ?_
  refine mgDone (by kernel_rfl) ?_
  refine inBlock_normal ?_
  refine then_normal (hK29 _ _ ?_)
  refine plStart ?_
  refine lk (v := .int .i64 1) rfl rfl rfl ?_
  refine lk (v := .int .i64 1) rfl rfl rfl ?_
  refine plD ?_
  refine then_normal (roundsNext ?_)
  refine wp_seq_k fun K33 hK33 => ?_
  refine plStart ?_
  refine lk (v := .bool true) rfl rfl rfl ?_
  refine plD ?_
  refine then_normal (hK33 _ _ ?_)
  refine wp_seq_k fun K34 hK34 => ?_
  refine wp_cond_true (litEv (by kernel_rfl)) ?_
  refine wp_skip ?_
  refine then_normal (hK34 _ _ ?_)
  refine wp_seq_k fun K35 hK35 => ?_
  refine wp_block ?_
  refine wp_seq_k fun K36 hK36 => ?_
  refine plStart ?_
  refine lk (v := .int .i64 1) rfl rfl rfl ?_
  refine lk (v := .int .i64 1) rfl rfl rfl ?_
  refine plD ?_
  refine then_normal (hK36 _ _ ?_)
  refine mgStart hm31 (by kernel_rfl) ?_
  intro w38 hm37
  clear hm31
  refine mk_ (i := 0) (v := .int .i64 (0 + (max (a.x - b.x) (b.x - a.x)))) rfl rfl (fun _ _ _ h => h) hm37 rfl ?_
  refine mk_ (i := 1) (v := .int .i64 1) rfl rfl (fun _ _ _ h => h) hm37 rfl ?_
  refine mgTake (i := 2) (v := .pointer (some ⟨g23, 1, none⟩)) rfl (by kernel_rfl) (wn rfl) (fun _ _ _ h => h) hm37 (fun w_ h_ => iaRun (b := g23) (off := 0) (s := 1) (n := 3) (kk := .i64) (.tmp 6) (.tmp 22) 1 Ty.und_3_int (by kernel_rfl) rfl (litEv (by kernel_rfl)) (litEv (by kernel_rfl)) rfl (by decide)) ?_
  refine mP rfl ?_
  refine mgTake (i := 3) (v := .int .i64 a.y) rfl (by kernel_rfl) (wn rfl) (fun _ _ _ h => h) hm37 (fun w_ h_ => gLoad (v := .int .i64 a.y) (k := 1) 3 h_ rfl (by kernel_rfl) (.tmp 23) (by kernel_rfl) rfl (litEv (by kernel_rfl))) ?_
  refine mP rfl ?_
  refine mk_ (i := 4) (v := .int .i64 1) rfl rfl (fun _ _ _ h => h) hm37 rfl ?_
  refine mgTake (i := 5) (v := .pointer (some ⟨g24, 1, none⟩)) rfl (by kernel_rfl) (wn rfl) (fun _ _ _ h => h) hm37 (fun w_ h_ => iaRun (b := g24) (off := 0) (s := 1) (n := 3) (kk := .i64) (.tmp 7) (.tmp 25) 1 Ty.und_3_int (by kernel_rfl) rfl (litEv (by kernel_rfl)) (litEv (by kernel_rfl)) rfl (by decide)) ?_
  refine mP rfl ?_
  refine mgTake (i := 6) (v := .int .i64 b.y) rfl (by kernel_rfl) (wn rfl) (fun _ _ _ h => h) hm37 (fun w_ h_ => gLoad (v := .int .i64 b.y) (k := 1) 4 h_ rfl (by kernel_rfl) (.tmp 26) (by kernel_rfl) rfl (litEv (by kernel_rfl))) ?_
  refine mP rfl ?_
  refine mgTake (i := 7) (v := .int .i64 (a.y - b.y)) rfl (by kernel_rfl) (wn rfl) (fun _ _ _ h => h) hm37 (fun w_ h_ => subRun (A := a.y) (B := b.y) (C := a.y - b.y) (.tmp 24) (.tmp 27) rfl (litEv (by kernel_rfl)) (litEv (by kernel_rfl)) rfl (by have hr_ := of_decide_eq_true h15; unfold Pt.rng at hr_; omega)) ?_
  refine mP rfl ?_
  refine mk_ (i := 8) (v := .int .i64 1) rfl rfl (fun _ _ _ h => h) hm37 rfl ?_
  refine mgTake (i := 9) (v := .pointer (some ⟨g24, 1, none⟩)) rfl (by kernel_rfl) (wn rfl) (fun _ _ _ h => h) hm37 (fun w_ h_ => iaRun (b := g24) (off := 0) (s := 1) (n := 3) (kk := .i64) (.tmp 7) (.tmp 29) 1 Ty.und_3_int (by kernel_rfl) rfl (litEv (by kernel_rfl)) (litEv (by kernel_rfl)) rfl (by decide)) ?_
  refine mP rfl ?_
  refine mgTake (i := 10) (v := .int .i64 b.y) rfl (by kernel_rfl) (wn rfl) (fun _ _ _ h => h) hm37 (fun w_ h_ => gLoad (v := .int .i64 b.y) (k := 1) 4 h_ rfl (by kernel_rfl) (.tmp 30) (by kernel_rfl) rfl (litEv (by kernel_rfl))) ?_
  refine mP rfl ?_
  refine mk_ (i := 11) (v := .int .i64 1) rfl rfl (fun _ _ _ h => h) hm37 rfl ?_
  refine mgTake (i := 12) (v := .pointer (some ⟨g23, 1, none⟩)) rfl (by kernel_rfl) (wn rfl) (fun _ _ _ h => h) hm37 (fun w_ h_ => iaRun (b := g23) (off := 0) (s := 1) (n := 3) (kk := .i64) (.tmp 6) (.tmp 32) 1 Ty.und_3_int (by kernel_rfl) rfl (litEv (by kernel_rfl)) (litEv (by kernel_rfl)) rfl (by decide)) ?_
  refine mP rfl ?_
  refine mgTake (i := 13) (v := .int .i64 a.y) rfl (by kernel_rfl) (wn rfl) (fun _ _ _ h => h) hm37 (fun w_ h_ => gLoad (v := .int .i64 a.y) (k := 1) 3 h_ rfl (by kernel_rfl) (.tmp 33) (by kernel_rfl) rfl (litEv (by kernel_rfl))) ?_
  refine mP rfl ?_
  refine mgTake (i := 14) (v := .int .i64 (b.y - a.y)) rfl (by kernel_rfl) (wn rfl) (fun _ _ _ h => h) hm37 (fun w_ h_ => subRun (A := b.y) (B := a.y) (C := b.y - a.y) (.tmp 31) (.tmp 34) rfl (litEv (by kernel_rfl)) (litEv (by kernel_rfl)) rfl (by have hr_ := of_decide_eq_true h15; unfold Pt.rng at hr_; omega)) ?_
  refine mP rfl ?_
  refine mgTake (i := 15) (v := .int .i64 (max (a.y - b.y) (b.y - a.y))) rfl (by kernel_rfl) (wn rfl) (fun _ _ _ h => h) hm37 (fun w_ h_ => gMax (.tmp 28) (.tmp 35) rfl (litEv (by kernel_rfl)) (litEv (by kernel_rfl))) ?_
  refine mP rfl ?_
  refine mgTake (i := 16) (v := .int .i64 ((0 + (max (a.x - b.x) (b.x - a.x))) + (max (a.y - b.y) (b.y - a.y)))) rfl (by kernel_rfl) (wn rfl) (fun _ _ _ h => h) hm37 (fun w_ h_ => addRun (A := (0 + (max (a.x - b.x) (b.x - a.x)))) (B := (max (a.y - b.y) (b.y - a.y))) (C := (0 + (max (a.x - b.x) (b.x - a.x))) + (max (a.y - b.y) (b.y - a.y))) (.tmp 21) (.tmp 36) rfl (litEv (by kernel_rfl)) (litEv (by kernel_rfl)) rfl (by have hr_ := of_decide_eq_true h15; unfold Pt.rng at hr_; omega)) ?_
  refine mP rfl ?_
  refine mk_ (i := 17) (v := .int .i64 ((0 + (max (a.x - b.x) (b.x - a.x))) + (max (a.y - b.y) (b.y - a.y)))) rfl rfl (fun _ _ _ h => h) hm37 rfl ?_
  refine mgDone (by kernel_rfl) ?_
  refine inBlock_normal ?_
  refine then_normal (hK35 _ _ ?_)
  refine wpPrune [(4, .int .i64 0), (5, .int .i64 ((0 + (max (a.x - b.x) (b.x - a.x))) + (max (a.y - b.y) (b.y - a.y)))), (6, .pointer (some ⟨g23, 0, none⟩)), (7, .pointer (some ⟨g24, 0, none⟩)), (8, .int .i64 1), (18, .int .i64 1), (19, .bool true), (20, .int .i64 1), (21, .int .i64 (0 + (max (a.x - b.x) (b.x - a.x)))), (22, .int .i64 1), (23, .pointer (some ⟨g23, 1, none⟩)), (24, .int .i64 a.y), (25, .int .i64 1), (26, .pointer (some ⟨g24, 1, none⟩)), (27, .int .i64 b.y), (28, .int .i64 (a.y - b.y)), (29, .int .i64 1), (30, .pointer (some ⟨g24, 1, none⟩)), (31, .int .i64 b.y), (32, .int .i64 1), (33, .pointer (some ⟨g23, 1, none⟩)), (34, .int .i64 a.y), (35, .int .i64 (b.y - a.y)), (36, .int .i64 (max (a.y - b.y) (b.y - a.y))), (37, .int .i64 ((0 + (max (a.x - b.x) (b.x - a.x))) + (max (a.y - b.y) (b.y - a.y)))), (38, .int .i64 1)] ⟨litGet (by kernel_rfl), ⟨litGet (by kernel_rfl), ⟨litGet (by kernel_rfl), ⟨litGet (by kernel_rfl), ⟨litGet (by kernel_rfl), ⟨litGet (by kernel_rfl), ⟨litGet (by kernel_rfl), ⟨litGet (by kernel_rfl), ⟨litGet (by kernel_rfl), ⟨litGet (by kernel_rfl), ⟨litGet (by kernel_rfl), ⟨litGet (by kernel_rfl), ⟨litGet (by kernel_rfl), ⟨litGet (by kernel_rfl), ⟨litGet (by kernel_rfl), ⟨litGet (by kernel_rfl), ⟨litGet (by kernel_rfl), ⟨litGet (by kernel_rfl), ⟨litGet (by kernel_rfl), ⟨litGet (by kernel_rfl), ⟨litGet (by kernel_rfl), ⟨litGet (by kernel_rfl), ⟨litGet (by kernel_rfl), ⟨litGet (by kernel_rfl), ⟨litGet (by kernel_rfl), ⟨litGet (by kernel_rfl), trivial⟩⟩⟩⟩⟩⟩⟩⟩⟩⟩⟩⟩⟩⟩⟩⟩⟩⟩⟩⟩⟩⟩⟩⟩⟩⟩ (fun X39 => ?_)
  refine plStart ?_
  refine lk (v := .int .i64 2) rfl rfl rfl ?_
  refine lk (v := .int .i64 2) rfl rfl rfl ?_
  refine plD ?_
  refine then_normal (roundsNext ?_)
  refine wp_seq_k fun K40 hK40 => ?_
  refine plStart ?_
  refine lk (v := .bool true) rfl rfl rfl ?_
  refine plD ?_
  refine then_normal (hK40 _ _ ?_)
  refine wp_seq_k fun K41 hK41 => ?_
  refine wp_cond_true (litEv (by kernel_rfl)) ?_
  refine wp_skip ?_
  refine then_normal (hK41 _ _ ?_)
  refine wp_seq_k fun K42 hK42 => ?_
  refine wp_block ?_
  refine wp_seq_k fun K43 hK43 => ?_
  refine plStart ?_
  refine lk (v := .int .i64 2) rfl rfl rfl ?_
  refine lk (v := .int .i64 2) rfl rfl rfl ?_
  refine plD ?_
  refine then_normal (hK43 _ _ ?_)
  refine mgStart hm37 (by kernel_rfl) ?_
  intro w45 hm44
  clear hm37
  refine mk_ (i := 0) (v := .int .i64 ((0 + (max (a.x - b.x) (b.x - a.x))) + (max (a.y - b.y) (b.y - a.y)))) rfl rfl (fun _ _ _ h => h) hm44 rfl ?_
  refine mk_ (i := 1) (v := .int .i64 2) rfl rfl (fun _ _ _ h => h) hm44 rfl ?_
  refine mgTake (i := 2) (v := .pointer (some ⟨g23, 2, none⟩)) rfl (by kernel_rfl) (wn rfl) (fun _ _ _ h => h) hm44 (fun w_ h_ => iaRun (b := g23) (off := 0) (s := 1) (n := 3) (kk := .i64) (.tmp 6) (.tmp 22) 2 Ty.und_3_int (by kernel_rfl) rfl (litEv (by kernel_rfl)) (litEv (by kernel_rfl)) rfl (by decide)) ?_
  refine mP rfl ?_
  refine mgTake (i := 3) (v := .int .i64 a.z) rfl (by kernel_rfl) (wn rfl) (fun _ _ _ h => h) hm44 (fun w_ h_ => gLoad (v := .int .i64 a.z) (k := 2) 3 h_ rfl (by kernel_rfl) (.tmp 23) (by kernel_rfl) rfl (litEv (by kernel_rfl))) ?_
  refine mP rfl ?_
  refine mk_ (i := 4) (v := .int .i64 2) rfl rfl (fun _ _ _ h => h) hm44 rfl ?_
  refine mgTake (i := 5) (v := .pointer (some ⟨g24, 2, none⟩)) rfl (by kernel_rfl) (wn rfl) (fun _ _ _ h => h) hm44 (fun w_ h_ => iaRun (b := g24) (off := 0) (s := 1) (n := 3) (kk := .i64) (.tmp 7) (.tmp 25) 2 Ty.und_3_int (by kernel_rfl) rfl (litEv (by kernel_rfl)) (litEv (by kernel_rfl)) rfl (by decide)) ?_
  refine mP rfl ?_
  refine mgTake (i := 6) (v := .int .i64 b.z) rfl (by kernel_rfl) (wn rfl) (fun _ _ _ h => h) hm44 (fun w_ h_ => gLoad (v := .int .i64 b.z) (k := 2) 4 h_ rfl (by kernel_rfl) (.tmp 26) (by kernel_rfl) rfl (litEv (by kernel_rfl))) ?_
  refine mP rfl ?_
  refine mgTake (i := 7) (v := .int .i64 (a.z - b.z)) rfl (by kernel_rfl) (wn rfl) (fun _ _ _ h => h) hm44 (fun w_ h_ => subRun (A := a.z) (B := b.z) (C := a.z - b.z) (.tmp 24) (.tmp 27) rfl (litEv (by kernel_rfl)) (litEv (by kernel_rfl)) rfl (by have hr_ := of_decide_eq_true h15; unfold Pt.rng at hr_; omega)) ?_
  refine mP rfl ?_
  refine mk_ (i := 8) (v := .int .i64 2) rfl rfl (fun _ _ _ h => h) hm44 rfl ?_
  refine mgTake (i := 9) (v := .pointer (some ⟨g24, 2, none⟩)) rfl (by kernel_rfl) (wn rfl) (fun _ _ _ h => h) hm44 (fun w_ h_ => iaRun (b := g24) (off := 0) (s := 1) (n := 3) (kk := .i64) (.tmp 7) (.tmp 29) 2 Ty.und_3_int (by kernel_rfl) rfl (litEv (by kernel_rfl)) (litEv (by kernel_rfl)) rfl (by decide)) ?_
  refine mP rfl ?_
  refine mgTake (i := 10) (v := .int .i64 b.z) rfl (by kernel_rfl) (wn rfl) (fun _ _ _ h => h) hm44 (fun w_ h_ => gLoad (v := .int .i64 b.z) (k := 2) 4 h_ rfl (by kernel_rfl) (.tmp 30) (by kernel_rfl) rfl (litEv (by kernel_rfl))) ?_
  refine mP rfl ?_
  refine mk_ (i := 11) (v := .int .i64 2) rfl rfl (fun _ _ _ h => h) hm44 rfl ?_
  refine mgTake (i := 12) (v := .pointer (some ⟨g23, 2, none⟩)) rfl (by kernel_rfl) (wn rfl) (fun _ _ _ h => h) hm44 (fun w_ h_ => iaRun (b := g23) (off := 0) (s := 1) (n := 3) (kk := .i64) (.tmp 6) (.tmp 32) 2 Ty.und_3_int (by kernel_rfl) rfl (litEv (by kernel_rfl)) (litEv (by kernel_rfl)) rfl (by decide)) ?_
  refine mP rfl ?_
  refine mgTake (i := 13) (v := .int .i64 a.z) rfl (by kernel_rfl) (wn rfl) (fun _ _ _ h => h) hm44 (fun w_ h_ => gLoad (v := .int .i64 a.z) (k := 2) 3 h_ rfl (by kernel_rfl) (.tmp 33) (by kernel_rfl) rfl (litEv (by kernel_rfl))) ?_
  refine mP rfl ?_
  refine mgTake (i := 14) (v := .int .i64 (b.z - a.z)) rfl (by kernel_rfl) (wn rfl) (fun _ _ _ h => h) hm44 (fun w_ h_ => subRun (A := b.z) (B := a.z) (C := b.z - a.z) (.tmp 31) (.tmp 34) rfl (litEv (by kernel_rfl)) (litEv (by kernel_rfl)) rfl (by have hr_ := of_decide_eq_true h15; unfold Pt.rng at hr_; omega)) ?_
  refine mP rfl ?_
  refine mgTake (i := 15) (v := .int .i64 (max (a.z - b.z) (b.z - a.z))) rfl (by kernel_rfl) (wn rfl) (fun _ _ _ h => h) hm44 (fun w_ h_ => gMax (.tmp 28) (.tmp 35) rfl (litEv (by kernel_rfl)) (litEv (by kernel_rfl))) ?_
  refine mP rfl ?_
  refine mgTake (i := 16) (v := .int .i64 (((0 + (max (a.x - b.x) (b.x - a.x))) + (max (a.y - b.y) (b.y - a.y))) + (max (a.z - b.z) (b.z - a.z)))) rfl (by kernel_rfl) (wn rfl) (fun _ _ _ h => h) hm44 (fun w_ h_ => addRun (A := ((0 + (max (a.x - b.x) (b.x - a.x))) + (max (a.y - b.y) (b.y - a.y)))) (B := (max (a.z - b.z) (b.z - a.z))) (C := ((0 + (max (a.x - b.x) (b.x - a.x))) + (max (a.y - b.y) (b.y - a.y))) + (max (a.z - b.z) (b.z - a.z))) (.tmp 21) (.tmp 36) rfl (litEv (by kernel_rfl)) (litEv (by kernel_rfl)) rfl (by have hr_ := of_decide_eq_true h15; unfold Pt.rng at hr_; omega)) ?_
  refine mP rfl ?_
  refine mk_ (i := 17) (v := .int .i64 (((0 + (max (a.x - b.x) (b.x - a.x))) + (max (a.y - b.y) (b.y - a.y))) + (max (a.z - b.z) (b.z - a.z)))) rfl rfl (fun _ _ _ h => h) hm44 rfl ?_
  refine mgDone (by kernel_rfl) ?_
  refine inBlock_normal ?_
  refine then_normal (hK42 _ _ ?_)
  refine wpPrune [(4, .int .i64 0), (5, .int .i64 (((0 + (max (a.x - b.x) (b.x - a.x))) + (max (a.y - b.y) (b.y - a.y))) + (max (a.z - b.z) (b.z - a.z)))), (6, .pointer (some ⟨g23, 0, none⟩)), (7, .pointer (some ⟨g24, 0, none⟩)), (8, .int .i64 2), (18, .int .i64 2), (19, .bool true), (20, .int .i64 2), (21, .int .i64 ((0 + (max (a.x - b.x) (b.x - a.x))) + (max (a.y - b.y) (b.y - a.y)))), (22, .int .i64 2), (23, .pointer (some ⟨g23, 2, none⟩)), (24, .int .i64 a.z), (25, .int .i64 2), (26, .pointer (some ⟨g24, 2, none⟩)), (27, .int .i64 b.z), (28, .int .i64 (a.z - b.z)), (29, .int .i64 2), (30, .pointer (some ⟨g24, 2, none⟩)), (31, .int .i64 b.z), (32, .int .i64 2), (33, .pointer (some ⟨g23, 2, none⟩)), (34, .int .i64 a.z), (35, .int .i64 (b.z - a.z)), (36, .int .i64 (max (a.z - b.z) (b.z - a.z))), (37, .int .i64 (((0 + (max (a.x - b.x) (b.x - a.x))) + (max (a.y - b.y) (b.y - a.y))) + (max (a.z - b.z) (b.z - a.z)))), (38, .int .i64 2)] ⟨litGet (by kernel_rfl), ⟨litGet (by kernel_rfl), ⟨litGet (by kernel_rfl), ⟨litGet (by kernel_rfl), ⟨litGet (by kernel_rfl), ⟨litGet (by kernel_rfl), ⟨litGet (by kernel_rfl), ⟨litGet (by kernel_rfl), ⟨litGet (by kernel_rfl), ⟨litGet (by kernel_rfl), ⟨litGet (by kernel_rfl), ⟨litGet (by kernel_rfl), ⟨litGet (by kernel_rfl), ⟨litGet (by kernel_rfl), ⟨litGet (by kernel_rfl), ⟨litGet (by kernel_rfl), ⟨litGet (by kernel_rfl), ⟨litGet (by kernel_rfl), ⟨litGet (by kernel_rfl), ⟨litGet (by kernel_rfl), ⟨litGet (by kernel_rfl), ⟨litGet (by kernel_rfl), ⟨litGet (by kernel_rfl), ⟨litGet (by kernel_rfl), ⟨litGet (by kernel_rfl), ⟨litGet (by kernel_rfl), trivial⟩⟩⟩⟩⟩⟩⟩⟩⟩⟩⟩⟩⟩⟩⟩⟩⟩⟩⟩⟩⟩⟩⟩⟩⟩⟩ (fun X46 => ?_)
  refine plStart ?_
  refine lk (v := .int .i64 3) rfl rfl rfl ?_
  refine lk (v := .int .i64 3) rfl rfl rfl ?_
  refine plD ?_
  refine then_normal (roundsNext ?_)
  refine wp_seq_k fun K47 hK47 => ?_
  refine plStart ?_
  refine lk (v := .bool false) rfl rfl rfl ?_
  refine plD ?_
  refine then_normal (hK47 _ _ ?_)
  refine wp_seq_k fun K48 hK48 => ?_
  refine wp_cond_false (litEv (by kernel_rfl)) ?_
  refine wp_exit ?_
  refine then_exit ?_
  refine then_exit ?_
  refine inBlock_exit ?_
  refine then_normal (hK25 _ _ ?_)
  refine wpPrune [(4, .int .i64 0), (5, .int .i64 (((0 + (max (a.x - b.x) (b.x - a.x))) + (max (a.y - b.y) (b.y - a.y))) + (max (a.z - b.z) (b.z - a.z))))] ⟨litGet (by kernel_rfl), ⟨litGet (by kernel_rfl), trivial⟩⟩ (fun X49 => ?_)
  refine wp_seq_k fun K50 hK50 => ?_
  refine wp_seq_k fun K51 hK51 => ?_
  refine plStart ?_
  refine lk (v := .int .i64 (((0 + (max (a.x - b.x) (b.x - a.x))) + (max (a.y - b.y) (b.y - a.y))) + (max (a.z - b.z) (b.z - a.z)))) rfl rfl rfl ?_
  by_cases h52 : 65536 < (((0 + (max (a.x - b.x) (b.x - a.x))) + (max (a.y - b.y) (b.y - a.y))) + (max (a.z - b.z) (b.z - a.z)))
  · refine litVal (v := .bool true) rfl (wn rfl) (boolTo (decide_eq_true h52) (gtrRun (A := (((0 + (max (a.x - b.x) (b.x - a.x))) + (max (a.y - b.y) (b.y - a.y))) + (max (a.z - b.z) (b.z - a.z)))) (B := 65536) (.tmp 39) (.const (.int .i64 65536)) rfl (litEv (by kernel_rfl)) (litEv (by kernel_rfl)))) rfl (by decide) ?_
    refine plD ?_
    refine then_normal (hK51 _ _ ?_)
    refine wp_cond_true (litEv (by kernel_rfl)) ?_
    refine wp_seq_k fun K53 hK53 => ?_
    refine plStart ?_
    refine lk (v := .int .i64 2) rfl rfl rfl ?_
    refine plD ?_
    refine then_normal (hK53 _ _ ?_)
    refine wp_ret ?_
    refine then_ret ?_
    refine bodyPost_ret (v := .int .i64 2) (gRes1 rfl (gResTmp (t := 4) (v := .int .i64 2) (litGet (by kernel_rfl)))) rfl ?_
    exact ⟨by unfold ckE; rw [if_pos (of_decide_eq_true h15), if_pos (by unfold Pt.sum dif; omega)], hm44.bel⟩
  refine litVal (v := .bool false) rfl (wn rfl) (boolTo (decide_eq_false h52) (gtrRun (A := (((0 + (max (a.x - b.x) (b.x - a.x))) + (max (a.y - b.y) (b.y - a.y))) + (max (a.z - b.z) (b.z - a.z)))) (B := 65536) (.tmp 39) (.const (.int .i64 65536)) rfl (litEv (by kernel_rfl)) (litEv (by kernel_rfl)))) rfl (by decide) ?_
  refine plD ?_
  refine then_normal (hK51 _ _ ?_)
  refine wp_cond_false (litEv (by kernel_rfl)) ?_
  refine wp_skip ?_
  refine then_normal (hK50 _ _ ?_)
  refine wp_seq_k fun K54 hK54 => ?_
  refine plStart ?_
  refine lk (v := .int .i64 0) rfl rfl rfl ?_
  refine plD ?_
  refine then_normal (hK54 _ _ ?_)
  refine wp_ret ?_
  refine bodyPost_ret (v := .int .i64 0) (gRes1 rfl (gResTmp (t := 4) (v := .int .i64 0) (litGet (by kernel_rfl)))) rfl ?_
  exact ⟨by unfold ckE; rw [if_pos (of_decide_eq_true h15), if_neg (by unfold Pt.sum dif; omega)], hm44.bel⟩
set_option maxRecDepth 100000 in
set_option maxHeartbeats 4000000 in
theorem refCheck_any (a b : Pt) (w : World) : Calls Try.prog 30 #[.agg (pcs a).toArray, .agg (pcs b).toArray] w (RetV w (.int .i64 (ckE a b))) := by
  have hm0 := Mem.nil w
  go_enter Try.func30, Try.ntmps30
  refine litStart 21 [(0, .agg (pcs a).toArray), (1, .agg (pcs b).toArray)] (by kernel_rfl) (fun X0 => ?_)
  refine wp_seq_k fun K1 hK1 => ?_
  refine plStart ?_
  refine plBox hm0 (cs := pcs a) (i := 0) rfl (wn rfl) rfl (litEv (by kernel_rfl)) ?_
  intro g2 w4 hm3
  clear hm0
  try simp only [List.cons_append, List.nil_append, List.set_cons_succ, List.set_cons_zero] at hm3
  refine qP rfl ?_
  refine plBox hm3 (cs := pcs b) (i := 1) rfl (wn rfl) rfl (litEv (by kernel_rfl)) ?_
  intro g5 w7 hm6
  clear hm3
  try simp only [List.cons_append, List.nil_append, List.set_cons_succ, List.set_cons_zero] at hm6
  refine qP rfl ?_
  refine lk (v := .int .i64 0) rfl rfl rfl ?_
  refine plD ?_
  refine then_normal (hK1 _ _ ?_)
  refine wp_seq_k fun K8 hK8 => ?_
  refine plStart ?_
  refine litVal (v := .agg (pcs a).toArray) rfl (wn rfl) (gLoadAg (vs := pcs a) (k := 0) 0 hm6 rfl (by kernel_rfl) (by kernel_rfl) (.tmp 2) Ty.ag_voxel_api_Point rfl (litEv (by kernel_rfl))) rfl (by decide) ?_
  refine plCall (i := 1) 20 [.agg (pcs a).toArray] [] [] rfl (by kernel_rfl) (wn rfl) rfl (litEv (by kernel_rfl)) (litArgs (by kernel_rfl)) (inRange1_any a _) ?_
  rintro e w9 ⟨rfl, hbz⟩
  have hm10 := hm6.below hbz
  clear hbz hm6
  refine ⟨_, rfl, ?_⟩
  refine qP rfl ?_
  rcases bool_or (decide a.rng) with h11 | h11
  · rw [h11]
    refine lk (v := .bool false) rfl rfl rfl ?_
    refine plD ?_
    refine then_normal (hK8 _ _ ?_)
    refine wp_seq_k fun K12 hK12 => ?_
    refine plStart ?_
    refine litVal (v := .agg (pcs b).toArray) rfl (wn rfl) (gLoadAg (vs := pcs b) (k := 0) 1 hm10 rfl (by kernel_rfl) (by kernel_rfl) (.tmp 3) Ty.ag_voxel_api_Point rfl (litEv (by kernel_rfl))) rfl (by decide) ?_
    refine plCall (i := 1) 20 [.agg (pcs b).toArray] [] [] rfl (by kernel_rfl) (wn rfl) rfl (litEv (by kernel_rfl)) (litArgs (by kernel_rfl)) (inRange1_any b _) ?_
    rintro e w13 ⟨rfl, hbz⟩
    have hm14 := hm10.below hbz
    clear hbz hm10
    refine ⟨_, rfl, ?_⟩
    refine qP rfl ?_
    rcases bool_or (decide b.rng) with h15 | h15
    · rw [h15]
      refine lk (v := .bool false) rfl rfl rfl ?_
      refine plD ?_
      refine then_normal (hK12 _ _ ?_)
      refine wp_seq_k fun K16 hK16 => ?_
      refine wp_seq_k fun K17 hK17 => ?_
      refine plStart ?_
      refine lk (v := .bool false) rfl rfl rfl ?_
      refine lk (v := .bool true) rfl rfl rfl ?_
      refine lk (v := .bool true) rfl rfl rfl ?_
      refine plSkip (i := 3) rfl (wgN rfl rfl rfl (by decide) (by kernel_rfl)) ?_
      refine qP rfl ?_
      refine plSkip (i := 4) rfl (wgN rfl rfl rfl (by decide) (by kernel_rfl)) ?_
      refine qP rfl ?_
      refine lk (v := .bool true) rfl rfl rfl ?_
      refine plD ?_
      refine then_normal (hK17 _ _ ?_)
      refine wpPrune [(2, .pointer (some ⟨g2, 0, none⟩)), (3, .pointer (some ⟨g5, 0, none⟩)), (4, .int .i64 0), (16, .bool true)] ⟨litGet (by kernel_rfl), ⟨litGet (by kernel_rfl), ⟨litGet (by kernel_rfl), ⟨litGet (by kernel_rfl), trivial⟩⟩⟩⟩ (fun X18 => ?_)
      refine wp_cond_true (litEv (by kernel_rfl)) ?_
      refine wp_seq_k fun K19 hK19 => ?_
      refine plStart ?_
      refine lk (v := .int .i64 1) rfl rfl rfl ?_
      refine plD ?_
      refine then_normal (hK19 _ _ ?_)
      refine wp_ret ?_
      refine then_ret ?_
      refine bodyPost_ret (v := .int .i64 1) (gRes1 rfl (gResTmp (t := 4) (v := .int .i64 1) (litGet (by kernel_rfl)))) rfl ?_
      exact ⟨by unfold ckE; rw [if_neg (fun h_ => of_decide_eq_false h11 h_.1)], hm14.bel⟩
    rw [h15]
    refine lk (v := .bool true) rfl rfl rfl ?_
    refine plD ?_
    refine then_normal (hK12 _ _ ?_)
    refine wp_seq_k fun K20 hK20 => ?_
    refine wp_seq_k fun K21 hK21 => ?_
    refine plStart ?_
    refine lk (v := .bool false) rfl rfl rfl ?_
    refine lk (v := .bool true) rfl rfl rfl ?_
    refine lk (v := .bool true) rfl rfl rfl ?_
    refine plSkip (i := 3) rfl (wgN rfl rfl rfl (by decide) (by kernel_rfl)) ?_
    refine qP rfl ?_
    refine plSkip (i := 4) rfl (wgN rfl rfl rfl (by decide) (by kernel_rfl)) ?_
    refine qP rfl ?_
    refine lk (v := .bool true) rfl rfl rfl ?_
    refine plD ?_
    refine then_normal (hK21 _ _ ?_)
    refine wpPrune [(2, .pointer (some ⟨g2, 0, none⟩)), (3, .pointer (some ⟨g5, 0, none⟩)), (4, .int .i64 0), (16, .bool true)] ⟨litGet (by kernel_rfl), ⟨litGet (by kernel_rfl), ⟨litGet (by kernel_rfl), ⟨litGet (by kernel_rfl), trivial⟩⟩⟩⟩ (fun X22 => ?_)
    refine wp_cond_true (litEv (by kernel_rfl)) ?_
    refine wp_seq_k fun K23 hK23 => ?_
    refine plStart ?_
    refine lk (v := .int .i64 1) rfl rfl rfl ?_
    refine plD ?_
    refine then_normal (hK23 _ _ ?_)
    refine wp_ret ?_
    refine then_ret ?_
    refine bodyPost_ret (v := .int .i64 1) (gRes1 rfl (gResTmp (t := 4) (v := .int .i64 1) (litGet (by kernel_rfl)))) rfl ?_
    exact ⟨by unfold ckE; rw [if_neg (fun h_ => of_decide_eq_false h11 h_.1)], hm14.bel⟩
  rw [h11]
  refine lk (v := .bool true) rfl rfl rfl ?_
  refine plD ?_
  refine then_normal (hK8 _ _ ?_)
  refine wp_seq_k fun K24 hK24 => ?_
  refine plStart ?_
  refine litVal (v := .agg (pcs b).toArray) rfl (wn rfl) (gLoadAg (vs := pcs b) (k := 0) 1 hm10 rfl (by kernel_rfl) (by kernel_rfl) (.tmp 3) Ty.ag_voxel_api_Point rfl (litEv (by kernel_rfl))) rfl (by decide) ?_
  refine plCall (i := 1) 20 [.agg (pcs b).toArray] [] [] rfl (by kernel_rfl) (wn rfl) rfl (litEv (by kernel_rfl)) (litArgs (by kernel_rfl)) (inRange1_any b _) ?_
  rintro e w25 ⟨rfl, hbz⟩
  have hm26 := hm10.below hbz
  clear hbz hm10
  refine ⟨_, rfl, ?_⟩
  refine qP rfl ?_
  rcases bool_or (decide b.rng) with h27 | h27
  · rw [h27]
    refine lk (v := .bool false) rfl rfl rfl ?_
    refine plD ?_
    refine then_normal (hK24 _ _ ?_)
    refine wp_seq_k fun K28 hK28 => ?_
    refine wp_seq_k fun K29 hK29 => ?_
    refine plStart ?_
    refine lk (v := .bool true) rfl rfl rfl ?_
    refine lk (v := .bool false) rfl rfl rfl ?_
    refine lk (v := .bool false) rfl rfl rfl ?_
    refine litVal (v := .bool false) rfl (wgY rfl rfl rfl (by decide) (by kernel_rfl)) (litRun (by kernel_rfl)) rfl (by decide) ?_
    refine litVal (v := .bool true) rfl (wgY rfl rfl rfl (by decide) (by kernel_rfl)) (litRun (by kernel_rfl)) rfl (by decide) ?_
    refine lk (v := .bool true) rfl rfl rfl ?_
    refine plD ?_
    refine then_normal (hK29 _ _ ?_)
    refine wpPrune [(2, .pointer (some ⟨g2, 0, none⟩)), (3, .pointer (some ⟨g5, 0, none⟩)), (4, .int .i64 0), (16, .bool true)] ⟨litGet (by kernel_rfl), ⟨litGet (by kernel_rfl), ⟨litGet (by kernel_rfl), ⟨litGet (by kernel_rfl), trivial⟩⟩⟩⟩ (fun X30 => ?_)
    refine wp_cond_true (litEv (by kernel_rfl)) ?_
    refine wp_seq_k fun K31 hK31 => ?_
    refine plStart ?_
    refine lk (v := .int .i64 1) rfl rfl rfl ?_
    refine plD ?_
    refine then_normal (hK31 _ _ ?_)
    refine wp_ret ?_
    refine then_ret ?_
    refine bodyPost_ret (v := .int .i64 1) (gRes1 rfl (gResTmp (t := 4) (v := .int .i64 1) (litGet (by kernel_rfl)))) rfl ?_
    exact ⟨by unfold ckE; rw [if_neg (fun h_ => of_decide_eq_false h27 h_.2)], hm26.bel⟩
  rw [h27]
  refine lk (v := .bool true) rfl rfl rfl ?_
  refine plD ?_
  refine then_normal (hK24 _ _ ?_)
  refine wp_seq_k fun K32 hK32 => ?_
  refine wp_seq_k fun K33 hK33 => ?_
  refine plStart ?_
  refine lk (v := .bool true) rfl rfl rfl ?_
  refine lk (v := .bool false) rfl rfl rfl ?_
  refine lk (v := .bool false) rfl rfl rfl ?_
  refine litVal (v := .bool true) rfl (wgY rfl rfl rfl (by decide) (by kernel_rfl)) (litRun (by kernel_rfl)) rfl (by decide) ?_
  refine litVal (v := .bool false) rfl (wgY rfl rfl rfl (by decide) (by kernel_rfl)) (litRun (by kernel_rfl)) rfl (by decide) ?_
  refine lk (v := .bool false) rfl rfl rfl ?_
  refine plD ?_
  refine then_normal (hK33 _ _ ?_)
  refine wpPrune [(2, .pointer (some ⟨g2, 0, none⟩)), (3, .pointer (some ⟨g5, 0, none⟩)), (4, .int .i64 0), (16, .bool false)] ⟨litGet (by kernel_rfl), ⟨litGet (by kernel_rfl), ⟨litGet (by kernel_rfl), ⟨litGet (by kernel_rfl), trivial⟩⟩⟩⟩ (fun X34 => ?_)
  refine wp_cond_false (litEv (by kernel_rfl)) ?_
  refine wp_skip ?_
  refine then_normal (hK32 _ _ ?_)
  refine wp_seq_k fun K35 hK35 => ?_
  refine wp_seq_k fun K36 hK36 => ?_
  refine plStart ?_
  refine litVal (v := .agg (pcs a).toArray) rfl (wn rfl) (gLoadAg (vs := pcs a) (k := 0) 0 hm26 rfl (by kernel_rfl) (by kernel_rfl) (.tmp 2) Ty.ag_voxel_api_Point rfl (litEv (by kernel_rfl))) rfl (by decide) ?_
  refine litVal (v := .agg (pcs b).toArray) rfl (wn rfl) (gLoadAg (vs := pcs b) (k := 0) 1 hm26 rfl (by kernel_rfl) (by kernel_rfl) (.tmp 3) Ty.ag_voxel_api_Point rfl (litEv (by kernel_rfl))) rfl (by decide) ?_
  refine plCall (i := 2) 22 [.agg (pcs a).toArray, .agg (pcs b).toArray] [] [] rfl (by kernel_rfl) (wn rfl) rfl (litEv (by kernel_rfl)) (litArgs (by kernel_rfl)) (sum_any a b (of_decide_eq_true h11) (of_decide_eq_true h27) _) ?_
  rintro e w37 ⟨rfl, hbz⟩
  have hm38 := hm26.below hbz
  clear hbz hm26
  refine ⟨_, rfl, ?_⟩
  refine qP rfl ?_
  by_cases h39 : 65536 < (a.sum b)
  · refine litVal (v := .bool true) rfl (wn rfl) (boolTo (decide_eq_true h39) (gtrRun (A := (a.sum b)) (B := 65536) (.tmp 19) (.const (.int .i64 65536)) rfl (litEv (by kernel_rfl)) (litEv (by kernel_rfl)))) rfl (by decide) ?_
    refine plD ?_
    refine then_normal (hK36 _ _ ?_)
    refine wp_cond_true (litEv (by kernel_rfl)) ?_
    refine wp_seq_k fun K40 hK40 => ?_
    refine plStart ?_
    refine lk (v := .int .i64 2) rfl rfl rfl ?_
    refine plD ?_
    refine then_normal (hK40 _ _ ?_)
    refine wp_ret ?_
    refine then_ret ?_
    refine bodyPost_ret (v := .int .i64 2) (gRes1 rfl (gResTmp (t := 4) (v := .int .i64 2) (litGet (by kernel_rfl)))) rfl ?_
    exact ⟨by unfold ckE; rw [if_pos ⟨of_decide_eq_true h11, of_decide_eq_true h27⟩, if_pos h39], hm38.bel⟩
  refine litVal (v := .bool false) rfl (wn rfl) (boolTo (decide_eq_false h39) (gtrRun (A := (a.sum b)) (B := 65536) (.tmp 19) (.const (.int .i64 65536)) rfl (litEv (by kernel_rfl)) (litEv (by kernel_rfl)))) rfl (by decide) ?_
  refine plD ?_
  refine then_normal (hK36 _ _ ?_)
  refine wp_cond_false (litEv (by kernel_rfl)) ?_
  refine wp_skip ?_
  refine then_normal (hK35 _ _ ?_)
  refine wp_seq_k fun K41 hK41 => ?_
  refine plStart ?_
  refine lk (v := .int .i64 0) rfl rfl rfl ?_
  refine plD ?_
  refine then_normal (hK41 _ _ ?_)
  refine wp_ret ?_
  refine bodyPost_ret (v := .int .i64 0) (gRes1 rfl (gResTmp (t := 4) (v := .int .i64 0) (litGet (by kernel_rfl)))) rfl ?_
  exact ⟨by unfold ckE; rw [if_pos ⟨of_decide_eq_true h11, of_decide_eq_true h27⟩, if_neg h39], hm38.bel⟩
set_option maxRecDepth 100000 in
set_option maxHeartbeats 4000000 in
theorem dist_any (p q : Pt) (hp : p.rng) (hq : q.rng) (w : World) : Calls Try.prog 21 #[.agg (pcs p).toArray, .agg (pcs q).toArray] w (RetV w (.int .i64 (p.dist q))) := by
  unfold Pt.rng at hp hq
  have hm0 := Mem.nil w
  go_enter Try.func21, Try.ntmps21
  refine litStart 26 [(0, .agg (pcs p).toArray), (1, .agg (pcs q).toArray)] (by kernel_rfl) (fun X0 => ?_)
  refine wp_seq_k fun K1 hK1 => ?_
  refine plStart ?_
  refine plBox hm0 (cs := pcs p) (i := 0) rfl (wn rfl) rfl (litEv (by kernel_rfl)) ?_
  intro g2 w4 hm3
  clear hm0
  try simp only [List.cons_append, List.nil_append, List.set_cons_succ, List.set_cons_zero] at hm3
  refine qP rfl ?_
  refine plBox hm3 (cs := pcs q) (i := 1) rfl (wn rfl) rfl (litEv (by kernel_rfl)) ?_
  intro g5 w7 hm6
  clear hm3
  try simp only [List.cons_append, List.nil_append, List.set_cons_succ, List.set_cons_zero] at hm6
  refine qP rfl ?_
  refine lk (v := .int .i64 0) rfl rfl rfl ?_
  refine plD ?_
  refine then_normal (hK1 _ _ ?_)
  refine wp_seq_k fun K8 hK8 => ?_
  refine plStart ?_
  refine litVal (v := .agg (pcs p).toArray) rfl (wn rfl) (gLoadAg (vs := pcs p) (k := 0) 0 hm6 rfl (by kernel_rfl) (by kernel_rfl) (.tmp 2) Ty.ag_voxel_api_Point rfl (litEv (by kernel_rfl))) rfl (by decide) ?_
  refine litVal (v := .agg (pcs q).toArray) rfl (wn rfl) (gLoadAg (vs := pcs q) (k := 0) 1 hm6 rfl (by kernel_rfl) (by kernel_rfl) (.tmp 3) Ty.ag_voxel_api_Point rfl (litEv (by kernel_rfl))) rfl (by decide) ?_
  refine plCall (i := 2) 24 [.agg (pcs p).toArray, .agg (pcs q).toArray] [] [] rfl (by kernel_rfl) (wn rfl) rfl (litEv (by kernel_rfl)) (litArgs (by kernel_rfl)) (sub_any p q (by omega) (by omega) _) ?_
  rintro e w9 ⟨rfl, hbz⟩
  have hm10 := hm6.below hbz
  clear hbz hm6
  refine ⟨_, rfl, ?_⟩
  refine qP rfl ?_
  refine plCall (i := 3) 45 [.agg (pcs (p.sub q)).toArray] [] [] rfl (by kernel_rfl) (wn rfl) rfl (litEv (by kernel_rfl)) (litArgs (by kernel_rfl)) (list_any (p.sub q) _) ?_
  rintro e w11 ⟨rfl, hbz⟩
  have hm12 := hm10.below hbz
  clear hbz hm10
  refine ⟨_, rfl, ?_⟩
  refine qP rfl ?_
  refine plAlloc (z := [.int .i64 0, .int .i64 0, .int .i64 0]) Ty.ag_3_int hm12 (i := 4) rfl (wn rfl) rfl ?_
  intro g13 w15 hm14
  clear hm12
  try simp only [List.cons_append, List.nil_append, List.set_cons_succ, List.set_cons_zero] at hm14
  refine qP rfl ?_
  refine plStore 2 Ty.ag_3_int hm14 rfl (i := 5) (cs := pcs (p.sub q)) rfl (wn rfl) rfl (litEv (by kernel_rfl)) (litEv (by kernel_rfl)) rfl rfl (by kernel_rfl) ?_
  intro w17 hm16
  clear hm14
  try simp only [List.cons_append, List.nil_append, List.set_cons_succ, List.set_cons_zero] at hm16
  refine qNone rfl ?_
  refine plD ?_
  refine then_normal (hK8 _ _ ?_)
  refine wp_seq_k fun K18 hK18 => ?_
  refine plStart ?_
  refine lk (v := .int .i64 0) rfl rfl rfl ?_
  refine plD ?_
  refine then_normal (hK18 _ _ ?_)
  refine wp_seq_k fun K19 hK19 => ?_
  refine wp_seq_k fun K20 hK20 => ?_
  refine plStart ?_
  refine lk (v := .int .i64 0) rfl rfl rfl ?_
  refine plD ?_
  refine then_normal (hK20 _ _ ?_)
  refine wp_block ?_
  refine roundsStart 3 ?_
  refine wp_seq_k fun K21 hK21 => ?_
  refine wp_seq_k fun K22 hK22 => ?_
  refine plStart ?_
  refine lk (v := .int .i64 0) rfl rfl rfl ?_
  refine lk (v := .bool true) rfl rfl rfl ?_
  refine plD ?_
  refine then_normal (hK22 _ _ ?_)
  refine wp_cond_true (litEv (by kernel_rfl)) ?_
  refine wp_skip ?_
  refine then_normal (hK21 _ _ ?_)
  refine wp_seq_k fun K23 hK23 => ?_
  refine wp_block ?_
  refine mgStart hm16 (by kernel_rfl) ?_
  intro w25 hm24
  clear hm16
  refine mk_ (i := 0) (v := .int .i64 0) rfl rfl (fun _ _ _ h => h) hm24 rfl ?_
  refine mk_ (i := 1) (v := .int .i64 0) rfl rfl (fun _ _ _ h => h) hm24 rfl ?_
  refine mgTake (i := 2) (v := .pointer (some ⟨g13, 0, none⟩)) rfl (by kernel_rfl) (wn rfl) (fun _ _ _ h => h) hm24 (fun w_ h_ => iaRun (b := g13) (off := 0) (s := 1) (n := 3) (kk := .i64) (.tmp 5) (.tmp 17) 0 Ty.und_3_int (by kernel_rfl) rfl (litEv (by kernel_rfl)) (litEv (by kernel_rfl)) rfl (by decide)) ?_
  refine mP rfl ?_
  refine mgTake (i := 3) (v := .int .i64 (p.x - q.x)) rfl (by kernel_rfl) (wn rfl) (fun _ _ _ h => h) hm24 (fun w_ h_ => gLoad (v := .int .i64 (p.x - q.x)) (k := 0) 2 h_ rfl (by kernel_rfl) (.tmp 18) (by kernel_rfl) rfl (litEv (by kernel_rfl))) ?_
  refine mP rfl ?_
  refine mk_ (i := 4) (v := .int .i64 0) rfl rfl (fun _ _ _ h => h) hm24 rfl ?_
  refine mgTake (i := 5) (v := .pointer (some ⟨g13, 0, none⟩)) rfl (by kernel_rfl) (wn rfl) (fun _ _ _ h => h) hm24 (fun w_ h_ => iaRun (b := g13) (off := 0) (s := 1) (n := 3) (kk := .i64) (.tmp 5) (.tmp 20) 0 Ty.und_3_int (by kernel_rfl) rfl (litEv (by kernel_rfl)) (litEv (by kernel_rfl)) rfl (by decide)) ?_
  refine mP rfl ?_
  refine mgTake (i := 6) (v := .int .i64 (p.x - q.x)) rfl (by kernel_rfl) (wn rfl) (fun _ _ _ h => h) hm24 (fun w_ h_ => gLoad (v := .int .i64 (p.x - q.x)) (k := 0) 2 h_ rfl (by kernel_rfl) (.tmp 21) (by kernel_rfl) rfl (litEv (by kernel_rfl))) ?_
  refine mP rfl ?_
  refine mgTake (i := 7) (v := .int .i64 (-(p.x - q.x))) rfl (by kernel_rfl) (wn rfl) (fun _ _ _ h => h) hm24 (fun w_ h_ => gNeg (.tmp 22) rfl (litEv (by kernel_rfl)) (by omega)) ?_
  refine mP rfl ?_
  refine mgTake (i := 8) (v := .int .i64 (max (max 0 (p.x - q.x)) (-(p.x - q.x)))) rfl (by kernel_rfl) (wn rfl) (fun _ _ _ h => h) hm24 (fun w_ h_ => gMax3 (.tmp 16) (.tmp 19) (.tmp 23) rfl (litEv (by kernel_rfl)) (litEv (by kernel_rfl)) (litEv (by kernel_rfl))) ?_
  refine mP rfl ?_
  refine mk_ (i := 9) (v := .int .i64 (max (max 0 (p.x - q.x)) (-(p.x - q.x)))) rfl rfl (fun _ _ _ h => h) hm24 rfl ?_
  refine mgDone (by kernel_rfl) ?_
  refine inBlock_normal ?_
  refine then_normal (hK23 _ _ ?_)
  refine plStart ?_
  refine lk (v := .int .i64 0) rfl rfl rfl ?_
  refine lk (v := .int .i64 1) rfl rfl rfl ?_
  refine lk (v := .int .i64 1) rfl rfl rfl ?_
  refine plD ?_
  refine then_normal (roundsNext ?_)
  refine wp_seq_k fun K26 hK26 => ?_
  refine wp_seq_k fun K27 hK27 => ?_
  refine plStart ?_
  refine lk (v := .int .i64 1) rfl rfl rfl ?_
  refine lk (v := .bool true) rfl rfl rfl ?_
  refine plD ?_
  refine then_normal (hK27 _ _ ?_)
  refine wp_cond_true (litEv (by kernel_rfl)) ?_
  refine wp_skip ?_
  refine then_normal (hK26 _ _ ?_)
  refine wp_seq_k fun K28 hK28 => ?_
  refine wp_block ?_
  refine mgStart hm24 (by kernel_rfl) ?_
  intro w30 hm29
  clear hm24
  refine mk_ (i := 0) (v := .int .i64 (max (max 0 (p.x - q.x)) (-(p.x - q.x)))) rfl rfl (fun _ _ _ h => h) hm29 rfl ?_
  refine mk_ (i := 1) (v := .int .i64 1) rfl rfl (fun _ _ _ h => h) hm29 rfl ?_
  refine mgTake (i := 2) (v := .pointer (some ⟨g13, 1, none⟩)) rfl (by kernel_rfl) (wn rfl) (fun _ _ _ h => h) hm29 (fun w_ h_ => iaRun (b := g13) (off := 0) (s := 1) (n := 3) (kk := .i64) (.tmp 5) (.tmp 17) 1 Ty.und_3_int (by kernel_rfl) rfl (litEv (by kernel_rfl)) (litEv (by kernel_rfl)) rfl (by decide)) ?_
  refine mP rfl ?_
  refine mgTake (i := 3) (v := .int .i64 (p.y - q.y)) rfl (by kernel_rfl) (wn rfl) (fun _ _ _ h => h) hm29 (fun w_ h_ => gLoad (v := .int .i64 (p.y - q.y)) (k := 1) 2 h_ rfl (by kernel_rfl) (.tmp 18) (by kernel_rfl) rfl (litEv (by kernel_rfl))) ?_
  refine mP rfl ?_
  refine mk_ (i := 4) (v := .int .i64 1) rfl rfl (fun _ _ _ h => h) hm29 rfl ?_
  refine mgTake (i := 5) (v := .pointer (some ⟨g13, 1, none⟩)) rfl (by kernel_rfl) (wn rfl) (fun _ _ _ h => h) hm29 (fun w_ h_ => iaRun (b := g13) (off := 0) (s := 1) (n := 3) (kk := .i64) (.tmp 5) (.tmp 20) 1 Ty.und_3_int (by kernel_rfl) rfl (litEv (by kernel_rfl)) (litEv (by kernel_rfl)) rfl (by decide)) ?_
  refine mP rfl ?_
  refine mgTake (i := 6) (v := .int .i64 (p.y - q.y)) rfl (by kernel_rfl) (wn rfl) (fun _ _ _ h => h) hm29 (fun w_ h_ => gLoad (v := .int .i64 (p.y - q.y)) (k := 1) 2 h_ rfl (by kernel_rfl) (.tmp 21) (by kernel_rfl) rfl (litEv (by kernel_rfl))) ?_
  refine mP rfl ?_
  refine mgTake (i := 7) (v := .int .i64 (-(p.y - q.y))) rfl (by kernel_rfl) (wn rfl) (fun _ _ _ h => h) hm29 (fun w_ h_ => gNeg (.tmp 22) rfl (litEv (by kernel_rfl)) (by omega)) ?_
  refine mP rfl ?_
  refine mgTake (i := 8) (v := .int .i64 (max (max (max (max 0 (p.x - q.x)) (-(p.x - q.x))) (p.y - q.y)) (-(p.y - q.y)))) rfl (by kernel_rfl) (wn rfl) (fun _ _ _ h => h) hm29 (fun w_ h_ => gMax3 (.tmp 16) (.tmp 19) (.tmp 23) rfl (litEv (by kernel_rfl)) (litEv (by kernel_rfl)) (litEv (by kernel_rfl))) ?_
  refine mP rfl ?_
  refine mk_ (i := 9) (v := .int .i64 (max (max (max (max 0 (p.x - q.x)) (-(p.x - q.x))) (p.y - q.y)) (-(p.y - q.y)))) rfl rfl (fun _ _ _ h => h) hm29 rfl ?_
  refine mgDone (by kernel_rfl) ?_
  refine inBlock_normal ?_
  refine then_normal (hK28 _ _ ?_)
  refine wpPrune [(4, .int .i64 0), (5, .pointer (some ⟨g13, 0, none⟩)), (6, .int .i64 (max (max (max (max 0 (p.x - q.x)) (-(p.x - q.x))) (p.y - q.y)) (-(p.y - q.y)))), (7, .int .i64 1), (12, .int .i64 1), (13, .bool true), (14, .int .i64 0), (15, .int .i64 1), (16, .int .i64 (max (max 0 (p.x - q.x)) (-(p.x - q.x)))), (17, .int .i64 1), (18, .pointer (some ⟨g13, 1, none⟩)), (19, .int .i64 (p.y - q.y)), (20, .int .i64 1), (21, .pointer (some ⟨g13, 1, none⟩)), (22, .int .i64 (p.y - q.y)), (23, .int .i64 (-(p.y - q.y))), (24, .int .i64 (max (max (max (max 0 (p.x - q.x)) (-(p.x - q.x))) (p.y - q.y)) (-(p.y - q.y))))] ⟨litGet (by kernel_rfl), ⟨litGet (by kernel_rfl), ⟨litGet (by kernel_rfl), ⟨litGet (by kernel_rfl), ⟨litGet (by kernel_rfl), ⟨litGet (by kernel_rfl), ⟨litGet (by kernel_rfl), ⟨litGet (by kernel_rfl), ⟨litGet (by kernel_rfl), ⟨litGet (by kernel_rfl), ⟨litGet (by kernel_rfl), ⟨litGet (by kernel_rfl), ⟨litGet (by kernel_rfl), ⟨litGet (by kernel_rfl), ⟨litGet (by kernel_rfl), ⟨litGet (by kernel_rfl), ⟨litGet (by kernel_rfl), trivial⟩⟩⟩⟩⟩⟩⟩⟩⟩⟩⟩⟩⟩⟩⟩⟩⟩ (fun X31 => ?_)
  refine plStart ?_
  refine lk (v := .int .i64 1) rfl rfl rfl ?_
  refine lk (v := .int .i64 2) rfl rfl rfl ?_
  refine lk (v := .int .i64 2) rfl rfl rfl ?_
  refine plD ?_
  refine then_normal (roundsNext ?_)
  refine wp_seq_k fun K32 hK32 => ?_
  refine wp_seq_k fun K33 hK33 => ?_
  refine plStart ?_
  refine lk (v := .int .i64 2) rfl rfl rfl ?_
  refine lk (v := .bool true) rfl rfl rfl ?_
  refine plD ?_
  refine then_normal (hK33 _ _ ?_)
  refine wp_cond_true (litEv (by kernel_rfl)) ?_
  refine wp_skip ?_
  refine then_normal (hK32 _ _ ?_)
  refine wp_seq_k fun K34 hK34 => ?_
  refine wp_block ?_
  refine mgStart hm29 (by kernel_rfl) ?_
  intro w36 hm35
  clear hm29
  refine mk_ (i := 0) (v := .int .i64 (max (max (max (max 0 (p.x - q.x)) (-(p.x - q.x))) (p.y - q.y)) (-(p.y - q.y)))) rfl rfl (fun _ _ _ h => h) hm35 rfl ?_
  refine mk_ (i := 1) (v := .int .i64 2) rfl rfl (fun _ _ _ h => h) hm35 rfl ?_
  refine mgTake (i := 2) (v := .pointer (some ⟨g13, 2, none⟩)) rfl (by kernel_rfl) (wn rfl) (fun _ _ _ h => h) hm35 (fun w_ h_ => iaRun (b := g13) (off := 0) (s := 1) (n := 3) (kk := .i64) (.tmp 5) (.tmp 17) 2 Ty.und_3_int (by kernel_rfl) rfl (litEv (by kernel_rfl)) (litEv (by kernel_rfl)) rfl (by decide)) ?_
  refine mP rfl ?_
  refine mgTake (i := 3) (v := .int .i64 (p.z - q.z)) rfl (by kernel_rfl) (wn rfl) (fun _ _ _ h => h) hm35 (fun w_ h_ => gLoad (v := .int .i64 (p.z - q.z)) (k := 2) 2 h_ rfl (by kernel_rfl) (.tmp 18) (by kernel_rfl) rfl (litEv (by kernel_rfl))) ?_
  refine mP rfl ?_
  refine mk_ (i := 4) (v := .int .i64 2) rfl rfl (fun _ _ _ h => h) hm35 rfl ?_
  refine mgTake (i := 5) (v := .pointer (some ⟨g13, 2, none⟩)) rfl (by kernel_rfl) (wn rfl) (fun _ _ _ h => h) hm35 (fun w_ h_ => iaRun (b := g13) (off := 0) (s := 1) (n := 3) (kk := .i64) (.tmp 5) (.tmp 20) 2 Ty.und_3_int (by kernel_rfl) rfl (litEv (by kernel_rfl)) (litEv (by kernel_rfl)) rfl (by decide)) ?_
  refine mP rfl ?_
  refine mgTake (i := 6) (v := .int .i64 (p.z - q.z)) rfl (by kernel_rfl) (wn rfl) (fun _ _ _ h => h) hm35 (fun w_ h_ => gLoad (v := .int .i64 (p.z - q.z)) (k := 2) 2 h_ rfl (by kernel_rfl) (.tmp 21) (by kernel_rfl) rfl (litEv (by kernel_rfl))) ?_
  refine mP rfl ?_
  refine mgTake (i := 7) (v := .int .i64 (-(p.z - q.z))) rfl (by kernel_rfl) (wn rfl) (fun _ _ _ h => h) hm35 (fun w_ h_ => gNeg (.tmp 22) rfl (litEv (by kernel_rfl)) (by omega)) ?_
  refine mP rfl ?_
  refine mgTake (i := 8) (v := .int .i64 (max (max (max (max (max (max 0 (p.x - q.x)) (-(p.x - q.x))) (p.y - q.y)) (-(p.y - q.y))) (p.z - q.z)) (-(p.z - q.z)))) rfl (by kernel_rfl) (wn rfl) (fun _ _ _ h => h) hm35 (fun w_ h_ => gMax3 (.tmp 16) (.tmp 19) (.tmp 23) rfl (litEv (by kernel_rfl)) (litEv (by kernel_rfl)) (litEv (by kernel_rfl))) ?_
  refine mP rfl ?_
  refine mk_ (i := 9) (v := .int .i64 (max (max (max (max (max (max 0 (p.x - q.x)) (-(p.x - q.x))) (p.y - q.y)) (-(p.y - q.y))) (p.z - q.z)) (-(p.z - q.z)))) rfl rfl (fun _ _ _ h => h) hm35 rfl ?_
  refine mgDone (by kernel_rfl) ?_
  refine inBlock_normal ?_
  refine then_normal (hK34 _ _ ?_)
  refine wpPrune [(4, .int .i64 0), (5, .pointer (some ⟨g13, 0, none⟩)), (6, .int .i64 (max (max (max (max (max (max 0 (p.x - q.x)) (-(p.x - q.x))) (p.y - q.y)) (-(p.y - q.y))) (p.z - q.z)) (-(p.z - q.z)))), (7, .int .i64 2), (12, .int .i64 2), (13, .bool true), (14, .int .i64 1), (15, .int .i64 2), (16, .int .i64 (max (max (max (max 0 (p.x - q.x)) (-(p.x - q.x))) (p.y - q.y)) (-(p.y - q.y)))), (17, .int .i64 2), (18, .pointer (some ⟨g13, 2, none⟩)), (19, .int .i64 (p.z - q.z)), (20, .int .i64 2), (21, .pointer (some ⟨g13, 2, none⟩)), (22, .int .i64 (p.z - q.z)), (23, .int .i64 (-(p.z - q.z))), (24, .int .i64 (max (max (max (max (max (max 0 (p.x - q.x)) (-(p.x - q.x))) (p.y - q.y)) (-(p.y - q.y))) (p.z - q.z)) (-(p.z - q.z))))] ⟨litGet (by kernel_rfl), ⟨litGet (by kernel_rfl), ⟨litGet (by kernel_rfl), ⟨litGet (by kernel_rfl), ⟨litGet (by kernel_rfl), ⟨litGet (by kernel_rfl), ⟨litGet (by kernel_rfl), ⟨litGet (by kernel_rfl), ⟨litGet (by kernel_rfl), ⟨litGet (by kernel_rfl), ⟨litGet (by kernel_rfl), ⟨litGet (by kernel_rfl), ⟨litGet (by kernel_rfl), ⟨litGet (by kernel_rfl), ⟨litGet (by kernel_rfl), ⟨litGet (by kernel_rfl), ⟨litGet (by kernel_rfl), trivial⟩⟩⟩⟩⟩⟩⟩⟩⟩⟩⟩⟩⟩⟩⟩⟩⟩ (fun X37 => ?_)
  refine plStart ?_
  refine lk (v := .int .i64 2) rfl rfl rfl ?_
  refine lk (v := .int .i64 3) rfl rfl rfl ?_
  refine lk (v := .int .i64 3) rfl rfl rfl ?_
  refine plD ?_
  refine then_normal (roundsNext ?_)
  refine wp_seq_k fun K38 hK38 => ?_
  refine wp_seq_k fun K39 hK39 => ?_
  refine plStart ?_
  refine lk (v := .int .i64 3) rfl rfl rfl ?_
  refine lk (v := .bool false) rfl rfl rfl ?_
  refine plD ?_
  refine then_normal (hK39 _ _ ?_)
  refine wp_cond_false (litEv (by kernel_rfl)) ?_
  refine wp_exit ?_
  refine then_exit ?_
  refine then_exit ?_
  refine inBlock_exit ?_
  refine then_normal (hK19 _ _ ?_)
  refine wpPrune [(4, .int .i64 0), (6, .int .i64 (max (max (max (max (max (max 0 (p.x - q.x)) (-(p.x - q.x))) (p.y - q.y)) (-(p.y - q.y))) (p.z - q.z)) (-(p.z - q.z))))] ⟨litGet (by kernel_rfl), ⟨litGet (by kernel_rfl), trivial⟩⟩ (fun X40 => ?_)
  refine wp_seq_k fun K41 hK41 => ?_
  refine plStart ?_
  refine lk (v := .int .i64 (max (max (max (max (max (max 0 (p.x - q.x)) (-(p.x - q.x))) (p.y - q.y)) (-(p.y - q.y))) (p.z - q.z)) (-(p.z - q.z)))) rfl rfl rfl ?_
  refine lk (v := .int .i64 (max (max (max (max (max (max 0 (p.x - q.x)) (-(p.x - q.x))) (p.y - q.y)) (-(p.y - q.y))) (p.z - q.z)) (-(p.z - q.z)))) rfl rfl rfl ?_
  refine plD ?_
  refine then_normal (hK41 _ _ ?_)
  refine wp_ret ?_
  refine bodyPost_ret (v := .int .i64 (max (max (max (max (max (max 0 (p.x - q.x)) (-(p.x - q.x))) (p.y - q.y)) (-(p.y - q.y))) (p.z - q.z)) (-(p.z - q.z)))) (gRes1 rfl (gResTmp (t := 4) (v := .int .i64 (max (max (max (max (max (max 0 (p.x - q.x)) (-(p.x - q.x))) (p.y - q.y)) (-(p.y - q.y))) (p.z - q.z)) (-(p.z - q.z)))) (litGet (by kernel_rfl)))) rfl ?_
  exact ⟨congrArg (fun n_ => Ending.returned (.int .i64 n_)) (by unfold Pt.dist dif; omega), hm35.bel⟩
set_option maxRecDepth 100000 in
set_option maxHeartbeats 4000000 in
theorem short_any (a b : Pt) (w : World) : Calls Try.prog 9 #[.agg (pcs a).toArray, .agg (pcs b).toArray] w (RetV w (.bool (decide (ckE a b = 0 → a.dist b ≤ 12)))) := by
  have hm0 := Mem.nil w
  go_enter Try.func9, Try.ntmps9
  refine litStart 13 [(0, .agg (pcs a).toArray), (1, .agg (pcs b).toArray)] (by kernel_rfl) (fun X0 => ?_)
  refine wp_seq_k fun K1 hK1 => ?_
  refine plStart ?_
  refine plBox hm0 (cs := pcs a) (i := 0) rfl (wn rfl) rfl (litEv (by kernel_rfl)) ?_
  intro g2 w4 hm3
  clear hm0
  try simp only [List.cons_append, List.nil_append, List.set_cons_succ, List.set_cons_zero] at hm3
  refine qP rfl ?_
  refine plBox hm3 (cs := pcs b) (i := 1) rfl (wn rfl) rfl (litEv (by kernel_rfl)) ?_
  intro g5 w7 hm6
  clear hm3
  try simp only [List.cons_append, List.nil_append, List.set_cons_succ, List.set_cons_zero] at hm6
  refine qP rfl ?_
  refine lk (v := .bool false) rfl rfl rfl ?_
  refine plD ?_
  refine then_normal (hK1 _ _ ?_)
  refine wp_seq_k fun K8 hK8 => ?_
  refine wp_seq_k fun K9 hK9 => ?_
  refine plStart ?_
  refine litVal (v := .agg (pcs a).toArray) rfl (wn rfl) (gLoadAg (vs := pcs a) (k := 0) 0 hm6 rfl (by kernel_rfl) (by kernel_rfl) (.tmp 2) Ty.ag_voxel_api_Point rfl (litEv (by kernel_rfl))) rfl (by decide) ?_
  refine litVal (v := .agg (pcs b).toArray) rfl (wn rfl) (gLoadAg (vs := pcs b) (k := 0) 1 hm6 rfl (by kernel_rfl) (by kernel_rfl) (.tmp 3) Ty.ag_voxel_api_Point rfl (litEv (by kernel_rfl))) rfl (by decide) ?_
  refine plCall (i := 2) 30 [.agg (pcs a).toArray, .agg (pcs b).toArray] [] [] rfl (by kernel_rfl) (wn rfl) rfl (litEv (by kernel_rfl)) (litArgs (by kernel_rfl)) (refCheck_any a b _) ?_
  rintro e w10 ⟨rfl, hbz⟩
  have hm11 := hm6.below hbz
  clear hbz hm6
  refine ⟨_, rfl, ?_⟩
  refine qP rfl ?_
  by_cases h12 : (ckE a b) = 0
  · refine litVal (v := .bool false) rfl (wn rfl) (boolTo (by rw [decide_eq_true h12]; rfl) (neqRun (A := (ckE a b)) (B := 0) (.tmp 7) (.const (.int .i64 0)) rfl (litEv (by kernel_rfl)) (litEv (by kernel_rfl)))) rfl (by decide) ?_
    refine plD ?_
    refine then_normal (hK9 _ _ ?_)
    refine wp_cond_false (litEv (by kernel_rfl)) ?_
    refine wp_skip ?_
    refine then_normal (hK8 _ _ ?_)
    refine wp_seq_k fun K13 hK13 => ?_
    refine plStart ?_
    refine litVal (v := .agg (pcs a).toArray) rfl (wn rfl) (gLoadAg (vs := pcs a) (k := 0) 0 hm11 rfl (by kernel_rfl) (by kernel_rfl) (.tmp 2) Ty.ag_voxel_api_Point rfl (litEv (by kernel_rfl))) rfl (by decide) ?_
    refine litVal (v := .agg (pcs b).toArray) rfl (wn rfl) (gLoadAg (vs := pcs b) (k := 0) 1 hm11 rfl (by kernel_rfl) (by kernel_rfl) (.tmp 3) Ty.ag_voxel_api_Point rfl (litEv (by kernel_rfl))) rfl (by decide) ?_
    refine plCall (i := 2) 21 [.agg (pcs a).toArray, .agg (pcs b).toArray] [] [] rfl (by kernel_rfl) (wn rfl) rfl (litEv (by kernel_rfl)) (litArgs (by kernel_rfl)) (dist_any a b (ckE_ok h12).1 (ckE_ok h12).2.1 _) ?_
    rintro e w14 ⟨rfl, hbz⟩
    have hm15 := hm11.below hbz
    clear hbz hm11
    refine ⟨_, rfl, ?_⟩
    refine qP rfl ?_
    by_cases h16 : (a.dist b) ≤ 12
    · refine litVal (v := .bool true) rfl (wn rfl) (boolTo (decide_eq_true h16) (leqRun (A := (a.dist b)) (B := 12) (.tmp 11) (.const (.int .i64 12)) rfl (litEv (by kernel_rfl)) (litEv (by kernel_rfl)))) rfl (by decide) ?_
      refine lk (v := .bool true) rfl rfl rfl ?_
      refine plD ?_
      refine then_normal (hK13 _ _ ?_)
      refine wpPrune [(4, .bool true)] ⟨litGet (by kernel_rfl), trivial⟩ (fun X17 => ?_)
      refine wp_ret ?_
      refine bodyPost_ret (v := .bool true) (gRes1 rfl (gResTmp (t := 4) (v := .bool true) (litGet (by kernel_rfl)))) rfl ?_
      exact ⟨congrArg (fun b_ => Ending.returned (.bool b_)) (decide_eq_true (by simp_all)).symm, hm15.bel⟩
    refine litVal (v := .bool false) rfl (wn rfl) (boolTo (decide_eq_false h16) (leqRun (A := (a.dist b)) (B := 12) (.tmp 11) (.const (.int .i64 12)) rfl (litEv (by kernel_rfl)) (litEv (by kernel_rfl)))) rfl (by decide) ?_
    refine lk (v := .bool false) rfl rfl rfl ?_
    refine plD ?_
    refine then_normal (hK13 _ _ ?_)
    refine wpPrune [(4, .bool false)] ⟨litGet (by kernel_rfl), trivial⟩ (fun X18 => ?_)
    refine wp_ret ?_
    refine bodyPost_ret (v := .bool false) (gRes1 rfl (gResTmp (t := 4) (v := .bool false) (litGet (by kernel_rfl)))) rfl ?_
    exact ⟨congrArg (fun b_ => Ending.returned (.bool b_)) (decide_eq_false (by simp_all)).symm, hm15.bel⟩
  refine litVal (v := .bool true) rfl (wn rfl) (boolTo (by rw [decide_eq_false h12]; rfl) (neqRun (A := (ckE a b)) (B := 0) (.tmp 7) (.const (.int .i64 0)) rfl (litEv (by kernel_rfl)) (litEv (by kernel_rfl)))) rfl (by decide) ?_
  refine plD ?_
  refine then_normal (hK9 _ _ ?_)
  refine wp_cond_true (litEv (by kernel_rfl)) ?_
  refine wp_seq_k fun K19 hK19 => ?_
  refine plStart ?_
  refine lk (v := .bool true) rfl rfl rfl ?_
  refine plD ?_
  refine then_normal (hK19 _ _ ?_)
  refine wp_ret ?_
  refine then_ret ?_
  refine bodyPost_ret (v := .bool true) (gRes1 rfl (gResTmp (t := 4) (v := .bool true) (litGet (by kernel_rfl)))) rfl ?_
  exact ⟨congrArg (fun b_ => Ending.returned (.bool b_)) (decide_eq_true (by simp_all)).symm, hm11.bel⟩
end Go.Proofs.Ytopdcdjmiepdfaa
namespace Go.Proofs.Ytopdcdjmiepdfaa
open Go.RowKit
set_option linter.unusedVariables false
set_option linter.unusedSimpArgs false
set_option maxRecDepth 100000 in
set_option maxHeartbeats 4000000 in
theorem inside_any (a b c : Pt) (ha : a.rng) (hb : b.rng) (hc : c.rng) (w : World) : Calls Try.prog 26 #[.agg (pcs a).toArray, .agg (pcs b).toArray, .agg (pcs c).toArray] w (RetV w (.agg (bts (insideT a b c)).toArray)) := by
  unfold Pt.rng at ha hb hc
  obtain ⟨U, hU⟩ : ∃ U, alongT a.x b.x c.x = U := ⟨_, rfl⟩
  obtain ⟨V, hV⟩ : ∃ U, alongT a.y b.y c.y = U := ⟨_, rfl⟩
  obtain ⟨W, hW⟩ : ∃ U, alongT a.z b.z c.z = U := ⟨_, rfl⟩
  obtain ⟨M1, hM1⟩ : ∃ M, U.meet V = M := ⟨_, rfl⟩
  obtain ⟨M2, hM2⟩ : ∃ M, M1.meet W = M := ⟨_, rfl⟩
  have hI : insideT a b c = M2.fin := by unfold insideT; rw [hU, hV, hW, hM1, hM2]
  have sU : U.sm := hU ▸ along_sm (by omega) (by omega) (by omega)
  have sV : V.sm := hV ▸ along_sm (by omega) (by omega) (by omega)
  have sW : W.sm := hW ▸ along_sm (by omega) (by omega) (by omega)
  have sM1 : M1.sm := hM1 ▸ meet_sm sU sV
  have sM2 : M2.sm := hM2 ▸ meet_sm sM1 sW
  have hm0 := Mem.nil w
  go_enter Try.func26, Try.ntmps26
  refine litStart 110 [(0, .agg (pcs a).toArray), (1, .agg (pcs b).toArray), (2, .agg (pcs c).toArray)] (by kernel_rfl) (fun X0 => ?_)
  refine wp_seq_k fun K1 hK1 => ?_
  refine plStart ?_
  refine plBox hm0 (cs := pcs a) (i := 0) rfl (wn rfl) rfl (litEv (by kernel_rfl)) ?_
  intro g2 w4 hm3
  clear hm0
  try simp only [List.cons_append, List.nil_append, List.set_cons_succ, List.set_cons_zero] at hm3
  refine qP rfl ?_
  refine plBox hm3 (cs := pcs b) (i := 1) rfl (wn rfl) rfl (litEv (by kernel_rfl)) ?_
  intro g5 w7 hm6
  clear hm3
  try simp only [List.cons_append, List.nil_append, List.set_cons_succ, List.set_cons_zero] at hm6
  refine qP rfl ?_
  refine plBox hm6 (cs := pcs c) (i := 2) rfl (wn rfl) rfl (litEv (by kernel_rfl)) ?_
  intro g8 w10 hm9
  clear hm6
  try simp only [List.cons_append, List.nil_append, List.set_cons_succ, List.set_cons_zero] at hm9
  refine qP rfl ?_
  refine plAlloc (z := [.int .i64 0, .int .i64 0, .int .i64 0, .int .i64 0, .bool false]) Ty.ag_voxel_voxelref42_Between hm9 (i := 3) rfl (wn rfl) rfl ?_
  intro g11 w13 hm12
  clear hm9
  try simp only [List.cons_append, List.nil_append, List.set_cons_succ, List.set_cons_zero] at hm12
  refine qP rfl ?_
  refine plD ?_
  refine then_normal (hK1 _ _ ?_)
  refine wp_seq_k fun K14 hK14 => ?_
  refine aoStart (aoV [fun _ => .pointer (some ⟨g2, 0, none⟩), fun _ => .int .i64 a.x, fun _ => .pointer (some ⟨g5, 0, none⟩), fun _ => .int .i64 b.x, fun _ => .pointer (some ⟨g8, 0, none⟩), fun _ => .int .i64 c.x, fun _ => .agg (bts U).toArray, fun _ => .pointer (some ⟨g2, 1, none⟩), fun _ => .int .i64 a.y, fun _ => .pointer (some ⟨g5, 1, none⟩), fun _ => .int .i64 b.y, fun _ => .pointer (some ⟨g8, 1, none⟩), fun _ => .int .i64 c.y, fun _ => .agg (bts V).toArray, fun _ => .pointer (some ⟨g2, 2, none⟩), fun _ => .int .i64 a.z, fun _ => .pointer (some ⟨g5, 2, none⟩), fun _ => .int .i64 b.z, fun _ => .pointer (some ⟨g8, 2, none⟩), fun _ => .int .i64 c.z, fun _ => .agg (bts W).toArray, fun γ_ => .slice (some ⟨γ_, 0, none⟩) 3 3, fun γ_ => .slice (some ⟨γ_, 0, none⟩) 3 3]) (aoA [0, 1, 2, 3, 4, 5, 6, 7, 8, 9, 10, 11, 12, 13, 14, 15, 16, 17, 18, 19, 20, 21, 21]) (fun b_ g_ => ((.arr g2 23 (pcs a)) :: (.arr g5 23 (pcs b)) :: (.arr g8 23 (pcs c)) :: (.arr g11 61 ([.int .i64 0, .int .i64 0, .int .i64 0, .int .i64 0, .bool false])) :: (bsel (b_ 21) (.arr (g_ 21) 61 ([.int .i64 U.a.1, .int .i64 U.a.2, .int .i64 U.b.1, .int .i64 U.b.2, .bool U.ok, .int .i64 V.a.1, .int .i64 V.a.2, .int .i64 V.b.1, .int .i64 V.b.2, .bool V.ok, .int .i64 W.a.1, .int .i64 W.a.2, .int .i64 W.b.1, .int .i64 W.b.2, .bool W.ok])) .free) :: [])) hm12 (by kernel_rfl) (by kernel_rfl) (fun w_ h_ => h_.pushFree) (fun b_ g_ h_ => by show (fun (x21_ : Bool) => (((.arr g2 23 (pcs a)) :: (.arr g5 23 (pcs b)) :: (.arr g8 23 (pcs c)) :: (.arr g11 61 ([.int .i64 0, .int .i64 0, .int .i64 0, .int .i64 0, .bool false])) :: (bsel x21_ (.arr (g_ 21) 61 ([.int .i64 U.a.1, .int .i64 U.a.2, .int .i64 U.b.1, .int .i64 U.b.2, .bool U.ok, .int .i64 V.a.1, .int .i64 V.a.2, .int .i64 V.b.1, .int .i64 V.b.2, .bool V.ok, .int .i64 W.a.1, .int .i64 W.a.2, .int .i64 W.b.1, .int .i64 W.b.2, .bool W.ok])) .free) :: []) : List Res)) (b_ 21) = _; rw [h_ 21 (by decide)]) ?_ ?_
  · refine aoNext rfl (aoVal (fun g_ => [(3, .pointer (some ⟨g2, 0, none⟩))]) (fun g_ a_ h_k => ⟨(h_k.out 3 (by kernel_rfl)).trans (litGet (by kernel_rfl)), trivial⟩) (fun g_ X_ => (wn rfl)) (fun b_ g_ => by kernel_rfl) (fun b_ g_ X_ w_ h_b h_ => valTo (b := .pointer (some ⟨g2, 0, none⟩)) (by kernel_rfl) (litRun (by kernel_rfl)))) ?_
    refine aoNext rfl (aoVal (fun g_ => [(15, .pointer (some ⟨g2, 0, none⟩))]) (fun g_ a_ h_k => ⟨(h_k.inn 0 _ _ (by kernel_rfl) rfl rfl).trans (by kernel_rfl), trivial⟩) (fun g_ X_ => (wn rfl)) (fun b_ g_ => by kernel_rfl) (fun b_ g_ X_ w_ h_b h_ => valTo (b := .int .i64 a.x) (by kernel_rfl) (gLoad (v := .int .i64 a.x) (k := 0) 0 h_ rfl (by kernel_rfl) (.tmp 15) (by kernel_rfl) rfl (litEv (by kernel_rfl))))) ?_
    refine aoNext rfl (aoVal (fun g_ => [(4, .pointer (some ⟨g5, 0, none⟩))]) (fun g_ a_ h_k => ⟨(h_k.out 4 (by kernel_rfl)).trans (litGet (by kernel_rfl)), trivial⟩) (fun g_ X_ => (wn rfl)) (fun b_ g_ => by kernel_rfl) (fun b_ g_ X_ w_ h_b h_ => valTo (b := .pointer (some ⟨g5, 0, none⟩)) (by kernel_rfl) (litRun (by kernel_rfl)))) ?_
    refine aoNext rfl (aoVal (fun g_ => [(17, .pointer (some ⟨g5, 0, none⟩))]) (fun g_ a_ h_k => ⟨(h_k.inn 2 _ _ (by kernel_rfl) rfl rfl).trans (by kernel_rfl), trivial⟩) (fun g_ X_ => (wn rfl)) (fun b_ g_ => by kernel_rfl) (fun b_ g_ X_ w_ h_b h_ => valTo (b := .int .i64 b.x) (by kernel_rfl) (gLoad (v := .int .i64 b.x) (k := 0) 1 h_ rfl (by kernel_rfl) (.tmp 17) (by kernel_rfl) rfl (litEv (by kernel_rfl))))) ?_
    refine aoNext rfl (aoVal (fun g_ => [(5, .pointer (some ⟨g8, 0, none⟩))]) (fun g_ a_ h_k => ⟨(h_k.out 5 (by kernel_rfl)).trans (litGet (by kernel_rfl)), trivial⟩) (fun g_ X_ => (wn rfl)) (fun b_ g_ => by kernel_rfl) (fun b_ g_ X_ w_ h_b h_ => valTo (b := .pointer (some ⟨g8, 0, none⟩)) (by kernel_rfl) (litRun (by kernel_rfl)))) ?_
    refine aoNext rfl (aoVal (fun g_ => [(19, .pointer (some ⟨g8, 0, none⟩))]) (fun g_ a_ h_k => ⟨(h_k.inn 4 _ _ (by kernel_rfl) rfl rfl).trans (by kernel_rfl), trivial⟩) (fun g_ X_ => (wn rfl)) (fun b_ g_ => by kernel_rfl) (fun b_ g_ X_ w_ h_b h_ => valTo (b := .int .i64 c.x) (by kernel_rfl) (gLoad (v := .int .i64 c.x) (k := 0) 2 h_ rfl (by kernel_rfl) (.tmp 19) (by kernel_rfl) rfl (litEv (by kernel_rfl))))) ?_
    refine aoNext rfl (aoCall (fun g_ => [(16, .int .i64 a.x), (18, .int .i64 b.x), (20, .int .i64 c.x)]) (fun g_ a_ h_k => ⟨(h_k.inn 1 _ _ (by kernel_rfl) rfl rfl).trans (by kernel_rfl), (h_k.inn 3 _ _ (by kernel_rfl) rfl rfl).trans (by kernel_rfl), (h_k.inn 5 _ _ (by kernel_rfl) rfl rfl).trans (by kernel_rfl), trivial⟩) 46 (fun g_ => [.int .i64 a.x, .int .i64 b.x, .int .i64 c.x]) [] [] (by kernel_rfl) (fun g_ X_ => (wn rfl)) (fun b_ g_ => by kernel_rfl) rfl (fun g_ X_ => litEv (by kernel_rfl)) (fun g_ X_ => litArgs (by kernel_rfl)) (fun b_ g_ w_ h_b h_ => (callsTo (congrArg (fun u => Value.agg (bts u).toArray) hU) (along_any a.x b.x c.x (by omega) (by omega) (by omega) _)).mono (fun _ _ h_r => ⟨h_r.1.trans (by kernel_rfl), h_r.2⟩))) ?_
    refine aoNext rfl (aoVal (fun g_ => [(3, .pointer (some ⟨g2, 0, none⟩))]) (fun g_ a_ h_k => ⟨(h_k.out 3 (by kernel_rfl)).trans (litGet (by kernel_rfl)), trivial⟩) (fun g_ X_ => (wn rfl)) (fun b_ g_ => by kernel_rfl) (fun b_ g_ X_ w_ h_b h_ => valTo (b := .pointer (some ⟨g2, 1, none⟩)) (by kernel_rfl) (litRun (by kernel_rfl)))) ?_
    refine aoNext rfl (aoVal (fun g_ => [(22, .pointer (some ⟨g2, 1, none⟩))]) (fun g_ a_ h_k => ⟨(h_k.inn 7 _ _ (by kernel_rfl) rfl rfl).trans (by kernel_rfl), trivial⟩) (fun g_ X_ => (wn rfl)) (fun b_ g_ => by kernel_rfl) (fun b_ g_ X_ w_ h_b h_ => valTo (b := .int .i64 a.y) (by kernel_rfl) (gLoad (v := .int .i64 a.y) (k := 1) 0 h_ rfl (by kernel_rfl) (.tmp 22) (by kernel_rfl) rfl (litEv (by kernel_rfl))))) ?_
    refine aoNext rfl (aoVal (fun g_ => [(4, .pointer (some ⟨g5, 0, none⟩))]) (fun g_ a_ h_k => ⟨(h_k.out 4 (by kernel_rfl)).trans (litGet (by kernel_rfl)), trivial⟩) (fun g_ X_ => (wn rfl)) (fun b_ g_ => by kernel_rfl) (fun b_ g_ X_ w_ h_b h_ => valTo (b := .pointer (some ⟨g5, 1, none⟩)) (by kernel_rfl) (litRun (by kernel_rfl)))) ?_
    refine aoNext rfl (aoVal (fun g_ => [(24, .pointer (some ⟨g5, 1, none⟩))]) (fun g_ a_ h_k => ⟨(h_k.inn 9 _ _ (by kernel_rfl) rfl rfl).trans (by kernel_rfl), trivial⟩) (fun g_ X_ => (wn rfl)) (fun b_ g_ => by kernel_rfl) (fun b_ g_ X_ w_ h_b h_ => valTo (b := .int .i64 b.y) (by kernel_rfl) (gLoad (v := .int .i64 b.y) (k := 1) 1 h_ rfl (by kernel_rfl) (.tmp 24) (by kernel_rfl) rfl (litEv (by kernel_rfl))))) ?_
    refine aoNext rfl (aoVal (fun g_ => [(5, .pointer (some ⟨g8, 0, none⟩))]) (fun g_ a_ h_k => ⟨(h_k.out 5 (by kernel_rfl)).trans (litGet (by kernel_rfl)), trivial⟩) (fun g_ X_ => (wn rfl)) (fun b_ g_ => by kernel_rfl) (fun b_ g_ X_ w_ h_b h_ => valTo (b := .pointer (some ⟨g8, 1, none⟩)) (by kernel_rfl) (litRun (by kernel_rfl)))) ?_
    refine aoNext rfl (aoVal (fun g_ => [(26, .pointer (some ⟨g8, 1, none⟩))]) (fun g_ a_ h_k => ⟨(h_k.inn 11 _ _ (by kernel_rfl) rfl rfl).trans (by kernel_rfl), trivial⟩) (fun g_ X_ => (wn rfl)) (fun b_ g_ => by kernel_rfl) (fun b_ g_ X_ w_ h_b h_ => valTo (b := .int .i64 c.y) (by kernel_rfl) (gLoad (v := .int .i64 c.y) (k := 1) 2 h_ rfl (by kernel_rfl) (.tmp 26) (by kernel_rfl) rfl (litEv (by kernel_rfl))))) ?_
    refine aoNext rfl (aoCall (fun g_ => [(23, .int .i64 a.y), (25, .int .i64 b.y), (27, .int .i64 c.y)]) (fun g_ a_ h_k => ⟨(h_k.inn 8 _ _ (by kernel_rfl) rfl rfl).trans (by kernel_rfl), (h_k.inn 10 _ _ (by kernel_rfl) rfl rfl).trans (by kernel_rfl), (h_k.inn 12 _ _ (by kernel_rfl) rfl rfl).trans (by kernel_rfl), trivial⟩) 46 (fun g_ => [.int .i64 a.y, .int .i64 b.y, .int .i64 c.y]) [] [] (by kernel_rfl) (fun g_ X_ => (wn rfl)) (fun b_ g_ => by kernel_rfl) rfl (fun g_ X_ => litEv (by kernel_rfl)) (fun g_ X_ => litArgs (by kernel_rfl)) (fun b_ g_ w_ h_b h_ => (callsTo (congrArg (fun u => Value.agg (bts u).toArray) hV) (along_any a.y b.y c.y (by omega) (by omega) (by omega) _)).mono (fun _ _ h_r => ⟨h_r.1.trans (by kernel_rfl), h_r.2⟩))) ?_
    refine aoNext rfl (aoVal (fun g_ => [(3, .pointer (some ⟨g2, 0, none⟩))]) (fun g_ a_ h_k => ⟨(h_k.out 3 (by kernel_rfl)).trans (litGet (by kernel_rfl)), trivial⟩) (fun g_ X_ => (wn rfl)) (fun b_ g_ => by kernel_rfl) (fun b_ g_ X_ w_ h_b h_ => valTo (b := .pointer (some ⟨g2, 2, none⟩)) (by kernel_rfl) (litRun (by kernel_rfl)))) ?_
    refine aoNext rfl (aoVal (fun g_ => [(29, .pointer (some ⟨g2, 2, none⟩))]) (fun g_ a_ h_k => ⟨(h_k.inn 14 _ _ (by kernel_rfl) rfl rfl).trans (by kernel_rfl), trivial⟩) (fun g_ X_ => (wn rfl)) (fun b_ g_ => by kernel_rfl) (fun b_ g_ X_ w_ h_b h_ => valTo (b := .int .i64 a.z) (by kernel_rfl) (gLoad (v := .int .i64 a.z) (k := 2) 0 h_ rfl (by kernel_rfl) (.tmp 29) (by kernel_rfl) rfl (litEv (by kernel_rfl))))) ?_
    refine aoNext rfl (aoVal (fun g_ => [(4, .pointer (some ⟨g5, 0, none⟩))]) (fun g_ a_ h_k => ⟨(h_k.out 4 (by kernel_rfl)).trans (litGet (by kernel_rfl)), trivial⟩) (fun g_ X_ => (wn rfl)) (fun b_ g_ => by kernel_rfl) (fun b_ g_ X_ w_ h_b h_ => valTo (b := .pointer (some ⟨g5, 2, none⟩)) (by kernel_rfl) (litRun (by kernel_rfl)))) ?_
    refine aoNext rfl (aoVal (fun g_ => [(31, .pointer (some ⟨g5, 2, none⟩))]) (fun g_ a_ h_k => ⟨(h_k.inn 16 _ _ (by kernel_rfl) rfl rfl).trans (by kernel_rfl), trivial⟩) (fun g_ X_ => (wn rfl)) (fun b_ g_ => by kernel_rfl) (fun b_ g_ X_ w_ h_b h_ => valTo (b := .int .i64 b.z) (by kernel_rfl) (gLoad (v := .int .i64 b.z) (k := 2) 1 h_ rfl (by kernel_rfl) (.tmp 31) (by kernel_rfl) rfl (litEv (by kernel_rfl))))) ?_
    refine aoNext rfl (aoVal (fun g_ => [(5, .pointer (some ⟨g8, 0, none⟩))]) (fun g_ a_ h_k => ⟨(h_k.out 5 (by kernel_rfl)).trans (litGet (by kernel_rfl)), trivial⟩) (fun g_ X_ => (wn rfl)) (fun b_ g_ => by kernel_rfl) (fun b_ g_ X_ w_ h_b h_ => valTo (b := .pointer (some ⟨g8, 2, none⟩)) (by kernel_rfl) (litRun (by kernel_rfl)))) ?_
    refine aoNext rfl (aoVal (fun g_ => [(33, .pointer (some ⟨g8, 2, none⟩))]) (fun g_ a_ h_k => ⟨(h_k.inn 18 _ _ (by kernel_rfl) rfl rfl).trans (by kernel_rfl), trivial⟩) (fun g_ X_ => (wn rfl)) (fun b_ g_ => by kernel_rfl) (fun b_ g_ X_ w_ h_b h_ => valTo (b := .int .i64 c.z) (by kernel_rfl) (gLoad (v := .int .i64 c.z) (k := 2) 2 h_ rfl (by kernel_rfl) (.tmp 33) (by kernel_rfl) rfl (litEv (by kernel_rfl))))) ?_
    refine aoNext rfl (aoCall (fun g_ => [(30, .int .i64 a.z), (32, .int .i64 b.z), (34, .int .i64 c.z)]) (fun g_ a_ h_k => ⟨(h_k.inn 15 _ _ (by kernel_rfl) rfl rfl).trans (by kernel_rfl), (h_k.inn 17 _ _ (by kernel_rfl) rfl rfl).trans (by kernel_rfl), (h_k.inn 19 _ _ (by kernel_rfl) rfl rfl).trans (by kernel_rfl), trivial⟩) 46 (fun g_ => [.int .i64 a.z, .int .i64 b.z, .int .i64 c.z]) [] [] (by kernel_rfl) (fun g_ X_ => (wn rfl)) (fun b_ g_ => by kernel_rfl) rfl (fun g_ X_ => litEv (by kernel_rfl)) (fun g_ X_ => litArgs (by kernel_rfl)) (fun b_ g_ w_ h_b h_ => (callsTo (congrArg (fun u => Value.agg (bts u).toArray) hW) (along_any a.z b.z c.z (by omega) (by omega) (by omega) _)).mono (fun _ _ h_r => ⟨h_r.1.trans (by kernel_rfl), h_r.2⟩))) ?_
    refine aoNext rfl (aoLit (cs := fun g_ => [.int .i64 U.a.1, .int .i64 U.a.2, .int .i64 U.b.1, .int .i64 U.b.2, .bool U.ok, .int .i64 V.a.1, .int .i64 V.a.2, .int .i64 V.b.1, .int .i64 V.b.2, .bool V.ok, .int .i64 W.a.1, .int .i64 W.a.2, .int .i64 W.b.1, .int .i64 W.b.2, .bool W.ok]) (n := 3) 4 (fun g_ => [(21, .agg (bts U).toArray), (28, .agg (bts V).toArray), (35, .agg (bts W).toArray)]) (fun g_ a_ h_k => ⟨(h_k.inn 6 _ _ (by kernel_rfl) rfl rfl).trans (by kernel_rfl), (h_k.inn 13 _ _ (by kernel_rfl) rfl rfl).trans (by kernel_rfl), (h_k.inn 20 _ _ (by kernel_rfl) rfl rfl).trans (by kernel_rfl), trivial⟩) Ty.sl_L_voxelref42_Between (fun g_ X_ => (wn rfl)) rfl (by decide) (by decide) (fun g_ X_ => by rw [lit_eval]; kernel_rfl) (fun _ _ _ => ⟨_, rfl⟩) (fun b_ g_ γ_ h_b => by kernel_rfl) (fun _ => by kernel_rfl) (by kernel_rfl)) ?_
    refine aoNext rfl (aoVal (fun g_ => [(36, .slice (some ⟨(g_ 21), 0, none⟩) 3 3)]) (fun g_ a_ h_k => ⟨(h_k.inn 21 _ _ (by kernel_rfl) rfl rfl).trans (by kernel_rfl), trivial⟩) (fun g_ X_ => (wn rfl)) (fun b_ g_ => by kernel_rfl) (fun b_ g_ X_ w_ h_b h_ => valTo (b := .slice (some ⟨(g_ 21), 0, none⟩) 3 3) (by kernel_rfl) (litRun (by kernel_rfl)))) ?_
    exact aoDone (by decide)
  intro g_ a_ w16 hF_ hm15
  obtain ⟨X17, rfl⟩ := frLit (⟨hF_.size, hF_.defers, ⟨(hF_.out 6 (by kernel_rfl)).trans (litGet (by kernel_rfl)), (hF_.inn 22 _ _ rfl rfl).trans (by kernel_rfl), (hF_.inn 0 _ _ rfl rfl).trans (by kernel_rfl), (hF_.inn 1 _ _ rfl rfl).trans (by kernel_rfl), (hF_.inn 2 _ _ rfl rfl).trans (by kernel_rfl), (hF_.inn 3 _ _ rfl rfl).trans (by kernel_rfl), (hF_.inn 4 _ _ rfl rfl).trans (by kernel_rfl), (hF_.inn 5 _ _ rfl rfl).trans (by kernel_rfl), (hF_.inn 6 _ _ rfl rfl).trans (by kernel_rfl), (hF_.inn 7 _ _ rfl rfl).trans (by kernel_rfl), (hF_.inn 8 _ _ rfl rfl).trans (by kernel_rfl), (hF_.inn 9 _ _ rfl rfl).trans (by kernel_rfl), (hF_.inn 10 _ _ rfl rfl).trans (by kernel_rfl), (hF_.inn 11 _ _ rfl rfl).trans (by kernel_rfl), (hF_.inn 12 _ _ rfl rfl).trans (by kernel_rfl), (hF_.inn 13 _ _ rfl rfl).trans (by kernel_rfl), (hF_.inn 14 _ _ rfl rfl).trans (by kernel_rfl), (hF_.inn 15 _ _ rfl rfl).trans (by kernel_rfl), (hF_.inn 16 _ _ rfl rfl).trans (by kernel_rfl), (hF_.inn 17 _ _ rfl rfl).trans (by kernel_rfl), (hF_.inn 18 _ _ rfl rfl).trans (by kernel_rfl), (hF_.inn 19 _ _ rfl rfl).trans (by kernel_rfl), (hF_.inn 20 _ _ rfl rfl).trans (by kernel_rfl), (hF_.inn 21 _ _ rfl rfl).trans (by kernel_rfl), trivial⟩⟩ : Fr _ 110 [(6, .pointer (some ⟨g11, 0, none⟩)), (7, .slice (some ⟨(g_ 21), 0, none⟩) 3 3), (15, .pointer (some ⟨g2, 0, none⟩)), (16, .int .i64 a.x), (17, .pointer (some ⟨g5, 0, none⟩)), (18, .int .i64 b.x), (19, .pointer (some ⟨g8, 0, none⟩)), (20, .int .i64 c.x), (21, .agg (bts U).toArray), (22, .pointer (some ⟨g2, 1, none⟩)), (23, .int .i64 a.y), (24, .pointer (some ⟨g5, 1, none⟩)), (25, .int .i64 b.y), (26, .pointer (some ⟨g8, 1, none⟩)), (27, .int .i64 c.y), (28, .agg (bts V).toArray), (29, .pointer (some ⟨g2, 2, none⟩)), (30, .int .i64 a.z), (31, .pointer (some ⟨g5, 2, none⟩)), (32, .int .i64 b.z), (33, .pointer (some ⟨g8, 2, none⟩)), (34, .int .i64 c.z), (35, .agg (bts W).toArray), (36, .slice (some ⟨(g_ 21), 0, none⟩) 3 3)])
  clear hF_
  have hm18 : Mem w w16 [.arr g2 23 (pcs a), .arr g5 23 (pcs b), .arr g8 23 (pcs c), .arr g11 61 ([.int .i64 0, .int .i64 0, .int .i64 0, .int .i64 0, .bool false]), .arr (g_ 21) 61 ([.int .i64 U.a.1, .int .i64 U.a.2, .int .i64 U.b.1, .int .i64 U.b.2, .bool U.ok, .int .i64 V.a.1, .int .i64 V.a.2, .int .i64 V.b.1, .int .i64 V.b.2, .bool V.ok, .int .i64 W.a.1, .int .i64 W.a.2, .int .i64 W.b.1, .int .i64 W.b.2, .bool W.ok])] := hm15
  clear hm15 hm12
  generalize g_ 21 = g19 at hm18 ⊢
  clear g_
  refine then_normal (hK14 _ _ ?_)
  refine wpPrune [(6, .pointer (some ⟨g11, 0, none⟩)), (7, .slice (some ⟨g19, 0, none⟩) 3 3)] ⟨litGet (by kernel_rfl), ⟨litGet (by kernel_rfl), trivial⟩⟩ (fun X20 => ?_)
  refine wp_seq_k fun K21 hK21 => ?_
  refine plStart ?_
  refine lk (v := .slice (some ⟨g19, 0, none⟩) 3 3) rfl rfl rfl ?_
  refine litVal (v := .pointer (some ⟨g19, 0, none⟩)) rfl (wn rfl) (gIaSl (b := g19) (off := 0) (n := 3) (c := 3) (kk := .i64) (K := 0) (.tmp 37) (.const (.int .i64 0)) 0 Ty.sl_L_voxelref42_Between rfl (litEv (by kernel_rfl)) (litEv (by kernel_rfl)) rfl (by decide)) rfl (by decide) ?_
  refine litVal (v := .agg ([.int .i64 U.a.1, .int .i64 U.a.2, .int .i64 U.b.1, .int .i64 U.b.2, .bool U.ok]).toArray) rfl (wn rfl) (gLoadAg (vs := [.int .i64 U.a.1, .int .i64 U.a.2, .int .i64 U.b.1, .int .i64 U.b.2, .bool U.ok]) (k := 0) 4 hm18 rfl (by kernel_rfl) (by kernel_rfl) (.tmp 38) Ty.ag_voxel_voxelref42_Between rfl (litEv (by kernel_rfl))) rfl (by decide) ?_
  refine plAlloc (z := [.int .i64 0, .int .i64 0, .int .i64 0, .int .i64 0, .bool false]) Ty.ag_voxel_voxelref42_Between hm18 (i := 3) rfl (wn rfl) rfl ?_
  intro g22 w24 hm23
  clear hm18
  try simp only [List.cons_append, List.nil_append, List.set_cons_succ, List.set_cons_zero] at hm23
  refine qP rfl ?_
  refine plStore 5 Ty.ag_voxel_voxelref42_Between hm23 rfl (i := 4) (cs := [.int .i64 U.a.1, .int .i64 U.a.2, .int .i64 U.b.1, .int .i64 U.b.2, .bool U.ok]) rfl (wn rfl) rfl (litEv (by kernel_rfl)) (litEv (by kernel_rfl)) rfl rfl (by kernel_rfl) ?_
  intro w26 hm25
  clear hm23
  try simp only [List.cons_append, List.nil_append, List.set_cons_succ, List.set_cons_zero] at hm25
  refine qNone rfl ?_
  refine plD ?_
  refine then_normal (hK21 _ _ ?_)
  refine wp_seq_k fun K27 hK27 => ?_
  refine wp_seq_k fun K28 hK28 => ?_
  refine plStart ?_
  refine lk (v := .int .i64 1) rfl rfl rfl ?_
  refine plD ?_
  refine then_normal (hK28 _ _ ?_)
  refine wp_block ?_
  refine roundsStart 3 ?_
  refine wp_seq_k fun K29 hK29 => ?_
  refine wp_seq_k fun K30 hK30 => ?_
  refine plStart ?_
  refine lk (v := .int .i64 1) rfl rfl rfl ?_
  refine lk (v := .bool true) rfl rfl rfl ?_
  refine plD ?_
  refine then_normal (hK30 _ _ ?_)
  refine wp_cond_true (litEv (by kernel_rfl)) ?_
  refine wp_skip ?_
  refine then_normal (hK29 _ _ ?_)
  refine gwCut (fun a_ w_ => Fr a_ 110 [(6, .pointer (some ⟨g11, 0, none⟩)), (7, .slice (some ⟨g19, 0, none⟩) 3 3), (8, .pointer (some ⟨g22, 0, none⟩)), (9, .int .i64 1), (40, .int .i64 1), (41, .bool true)] ∧ Mem w w_ [.arr g2 23 (pcs a), .arr g5 23 (pcs b), .arr g8 23 (pcs c), .arr g11 61 ([.int .i64 0, .int .i64 0, .int .i64 0, .int .i64 0, .bool false]), .arr g19 61 ([.int .i64 U.a.1, .int .i64 U.a.2, .int .i64 U.b.1, .int .i64 U.b.2, .bool U.ok, .int .i64 V.a.1, .int .i64 V.a.2, .int .i64 V.b.1, .int .i64 V.b.2, .bool V.ok, .int .i64 W.a.1, .int .i64 W.a.2, .int .i64 W.b.1, .int .i64 W.b.2, .bool W.ok]), .arr g22 61 (bts M1)]) ?_ ?_
  · refine wp_block ?_
    refine wp_seq_k fun K31 hK31 => ?_
    refine mgStart hm25 (by kernel_rfl) ?_
    intro w33 hm32
    clear hm25
    refine mk_ (i := 0) (v := .pointer (some ⟨g22, 0, none⟩)) rfl rfl (fun _ _ _ h => h) hm32 rfl ?_
    refine mgTake (i := 1) (v := .agg (tcs U.a).toArray) rfl (by kernel_rfl) (wn rfl) (fun _ _ _ h => h) hm32 (fun w_ h_ => gLoadAg (vs := tcs U.a) (k := 0) 5 h_ rfl (by kernel_rfl) (by kernel_rfl) (.tmp 44) Ty.ag_voxel_voxelref42_Time rfl (litEv (by kernel_rfl))) ?_
    refine mP rfl ?_
    refine mk_ (i := 2) (v := .slice (some ⟨g19, 0, none⟩) 3 3) rfl rfl (fun _ _ _ h => h) hm32 rfl ?_
    refine mk_ (i := 3) (v := .int .i64 1) rfl rfl (fun _ _ _ h => h) hm32 rfl ?_
    refine mgTake (i := 4) (v := .pointer (some ⟨g19, 5, none⟩)) rfl (by kernel_rfl) (wn rfl) (fun _ _ _ h => h) hm32 (fun w_ h_ => gIaSl (b := g19) (off := 0) (n := 3) (c := 3) (kk := .i64) (K := 1) (.tmp 46) (.tmp 47) 1 Ty.sl_L_voxelref42_Between rfl (litEv (by kernel_rfl)) (litEv (by kernel_rfl)) rfl (by decide)) ?_
    refine mP rfl ?_
    refine mk_ (i := 5) (v := .pointer (some ⟨g19, 5, none⟩)) rfl rfl (fun _ _ _ h => h) hm32 rfl ?_
    refine mgTake (i := 6) (v := .agg (tcs V.a).toArray) rfl (by kernel_rfl) (wn rfl) (fun _ _ _ h => h) hm32 (fun w_ h_ => gLoadAg (vs := tcs V.a) (k := 5) 4 h_ rfl (by kernel_rfl) (by kernel_rfl) (.tmp 49) Ty.ag_voxel_voxelref42_Time rfl (litEv (by kernel_rfl))) ?_
    refine mP rfl ?_
    refine mgCall (i := 7) 34 [.agg (tcs U.a).toArray, .agg (tcs V.a).toArray] [] [] (by kernel_rfl) rfl (by kernel_rfl) (wn rfl) rfl (litEv (by kernel_rfl)) (litArgs (by kernel_rfl)) (less_any U.a V.a sU.1 sV.1 _) ?_
    rintro e w34 ⟨rfl, hbz⟩
    have hm35 := hm32.below hbz
    clear hbz hm32
    refine ⟨_, rfl, hm35, ?_⟩
    refine mP rfl ?_
    rcases bool_or (tltb U.a V.a) with h36 | h36
    · rw [h36]
      refine mk_ (i := 8) (v := .bool false) rfl rfl (fun _ _ _ h => h) hm35 rfl ?_
      refine mgDone (by kernel_rfl) ?_
      refine then_normal (hK31 _ _ ?_)
      refine wp_seq_k fun K37 hK37 => ?_
      refine wp_seq_k fun K38 hK38 => ?_
      refine plStart ?_
      refine lk (v := .bool false) rfl rfl rfl ?_
      refine plD ?_
      refine then_normal (hK38 _ _ ?_)
      refine wp_cond_false (litEv (by kernel_rfl)) ?_
      refine wp_skip ?_
      refine then_normal (hK37 _ _ ?_)
      refine wp_seq_k fun K39 hK39 => ?_
      refine mgStart hm35 (by kernel_rfl) ?_
      intro w41 hm40
      clear hm35
      refine mk_ (i := 0) (v := .slice (some ⟨g19, 0, none⟩) 3 3) rfl rfl (fun _ _ _ h => h) hm40 rfl ?_
      refine mk_ (i := 1) (v := .int .i64 1) rfl rfl (fun _ _ _ h => h) hm40 rfl ?_
      refine mgTake (i := 2) (v := .pointer (some ⟨g19, 5, none⟩)) rfl (by kernel_rfl) (wn rfl) (fun _ _ _ h => h) hm40 (fun w_ h_ => gIaSl (b := g19) (off := 0) (n := 3) (c := 3) (kk := .i64) (K := 1) (.tmp 59) (.tmp 60) 1 Ty.sl_L_voxelref42_Between rfl (litEv (by kernel_rfl)) (litEv (by kernel_rfl)) rfl (by decide)) ?_
      refine mP rfl ?_
      refine mk_ (i := 3) (v := .pointer (some ⟨g19, 7, none⟩)) rfl rfl (fun _ _ _ h => h) hm40 rfl ?_
      refine mgTake (i := 4) (v := .agg (tcs V.b).toArray) rfl (by kernel_rfl) (wn rfl) (fun _ _ _ h => h) hm40 (fun w_ h_ => gLoadAg (vs := tcs V.b) (k := 7) 4 h_ rfl (by kernel_rfl) (by kernel_rfl) (.tmp 62) Ty.ag_voxel_voxelref42_Time rfl (litEv (by kernel_rfl))) ?_
      refine mP rfl ?_
      refine mk_ (i := 5) (v := .pointer (some ⟨g22, 2, none⟩)) rfl rfl (fun _ _ _ h => h) hm40 rfl ?_
      refine mgTake (i := 6) (v := .agg (tcs U.b).toArray) rfl (by kernel_rfl) (wn rfl) (fun _ _ _ h => h) hm40 (fun w_ h_ => gLoadAg (vs := tcs U.b) (k := 2) 5 h_ rfl (by kernel_rfl) (by kernel_rfl) (.tmp 64) Ty.ag_voxel_voxelref42_Time rfl (litEv (by kernel_rfl))) ?_
      refine mP rfl ?_
      refine mgCall (i := 7) 34 [.agg (tcs V.b).toArray, .agg (tcs U.b).toArray] [] [] (by kernel_rfl) rfl (by kernel_rfl) (wn rfl) rfl (litEv (by kernel_rfl)) (litArgs (by kernel_rfl)) (less_any V.b U.b sV.2 sU.2 _) ?_
      rintro e w42 ⟨rfl, hbz⟩
      have hm43 := hm40.below hbz
      clear hbz hm40
      refine ⟨_, rfl, hm43, ?_⟩
      refine mP rfl ?_
      rcases bool_or (tltb V.b U.b) with h44 | h44
      · rw [h44]
        refine mk_ (i := 8) (v := .bool false) rfl rfl (fun _ _ _ h => h) hm43 rfl ?_
        refine mgDone (by kernel_rfl) ?_
        refine then_normal (hK39 _ _ ?_)
        refine wp_seq_k fun K45 hK45 => ?_
        refine wp_seq_k fun K46 hK46 => ?_
        refine plStart ?_
        refine lk (v := .bool false) rfl rfl rfl ?_
        refine plD ?_
        refine then_normal (hK46 _ _ ?_)
        refine wp_cond_false (litEv (by kernel_rfl)) ?_
        refine wp_skip ?_
        refine then_normal (hK45 _ _ ?_)
        refine plStart ?_
        refine lk (v := .pointer (some ⟨g22, 4, none⟩)) rfl rfl rfl ?_
        rcases bool_or (U.ok) with h47 | h47
        · refine litVal (v := .bool false) rfl (wn rfl) (boolTo h47 (gLoad (v := .bool U.ok) (k := 4) 5 hm43 rfl (by kernel_rfl) (.tmp 74) (by kernel_rfl) rfl (litEv (by kernel_rfl)))) rfl (by decide) ?_
          refine lk (v := .bool false) rfl rfl rfl ?_
          refine plSkip (i := 3) rfl (wgN rfl rfl rfl (by decide) (by kernel_rfl)) ?_
          refine qP rfl ?_
          refine plSkip (i := 4) rfl (wgN rfl rfl rfl (by decide) (by kernel_rfl)) ?_
          refine qP rfl ?_
          refine plSkip (i := 5) rfl (wgN rfl rfl rfl (by decide) (by kernel_rfl)) ?_
          refine qP rfl ?_
          refine plSkip (i := 6) rfl (wgN rfl rfl rfl (by decide) (by kernel_rfl)) ?_
          refine qP rfl ?_
          refine plSkip (i := 7) rfl (wgN rfl rfl rfl (by decide) (by kernel_rfl)) ?_
          refine qP rfl ?_
          refine lk (v := .bool false) rfl rfl rfl ?_
          refine lk (v := .pointer (some ⟨g22, 4, none⟩)) rfl rfl rfl ?_
          refine plStore1 (v := .bool false) (k := 4) 5 (by kernel_rfl) hm43 rfl (i := 10) rfl (wn rfl) rfl (litEv (by kernel_rfl)) (litEv (by kernel_rfl)) rfl rfl rfl ?_
          intro w49 hm48
          clear hm43
          try simp only [List.cons_append, List.nil_append, List.set_cons_succ, List.set_cons_zero] at hm48
          refine qNone rfl ?_
          refine plD ?_
          refine inBlock_normal ?_
          refine then_normal ?_
          have e_ : bts M1 = [.int .i64 U.a.1, .int .i64 U.a.2, .int .i64 U.b.1, .int .i64 U.b.2, .bool false] := by rw [← hM1]; simp [Btw.meet, bts, tcs, h36, h44, h47]
          exact ⟨⟨litSize, rfl, ⟨litGet (by kernel_rfl), ⟨litGet (by kernel_rfl), ⟨litGet (by kernel_rfl), ⟨litGet (by kernel_rfl), ⟨litGet (by kernel_rfl), ⟨litGet (by kernel_rfl), trivial⟩⟩⟩⟩⟩⟩⟩, (by rw [e_]; exact hm48)⟩
        refine litVal (v := .bool true) rfl (wn rfl) (boolTo h47 (gLoad (v := .bool U.ok) (k := 4) 5 hm43 rfl (by kernel_rfl) (.tmp 74) (by kernel_rfl) rfl (litEv (by kernel_rfl)))) rfl (by decide) ?_
        refine lk (v := .bool true) rfl rfl rfl ?_
        refine litVal (v := .slice (some ⟨g19, 0, none⟩) 3 3) rfl (wgY rfl rfl rfl (by decide) (by kernel_rfl)) (litRun (by kernel_rfl)) rfl (by decide) ?_
        refine litVal (v := .int .i64 1) rfl (wgY rfl rfl rfl (by decide) (by kernel_rfl)) (litRun (by kernel_rfl)) rfl (by decide) ?_
        refine litVal (v := .pointer (some ⟨g19, 5, none⟩)) rfl (wgY rfl rfl rfl (by decide) (by kernel_rfl)) (gIaSl (b := g19) (off := 0) (n := 3) (c := 3) (kk := .i64) (K := 1) (.tmp 77) (.tmp 78) 1 Ty.sl_L_voxelref42_Between rfl (litEv (by kernel_rfl)) (litEv (by kernel_rfl)) rfl (by decide)) rfl (by decide) ?_
        refine litVal (v := .pointer (some ⟨g19, 9, none⟩)) rfl (wgY rfl rfl rfl (by decide) (by kernel_rfl)) (litRun (by kernel_rfl)) rfl (by decide) ?_
        rcases bool_or (V.ok) with h50 | h50
        · refine litVal (v := .bool false) rfl (wgY rfl rfl rfl (by decide) (by kernel_rfl)) (boolTo h50 (gLoad (v := .bool V.ok) (k := 9) 4 hm43 rfl (by kernel_rfl) (.tmp 80) (by kernel_rfl) rfl (litEv (by kernel_rfl)))) rfl (by decide) ?_
          refine lk (v := .bool false) rfl rfl rfl ?_
          refine lk (v := .pointer (some ⟨g22, 4, none⟩)) rfl rfl rfl ?_
          refine plStore1 (v := .bool false) (k := 4) 5 (by kernel_rfl) hm43 rfl (i := 10) rfl (wn rfl) rfl (litEv (by kernel_rfl)) (litEv (by kernel_rfl)) rfl rfl rfl ?_
          intro w52 hm51
          clear hm43
          try simp only [List.cons_append, List.nil_append, List.set_cons_succ, List.set_cons_zero] at hm51
          refine qNone rfl ?_
          refine plD ?_
          refine inBlock_normal ?_
          refine then_normal ?_
          have e_ : bts M1 = [.int .i64 U.a.1, .int .i64 U.a.2, .int .i64 U.b.1, .int .i64 U.b.2, .bool false] := by rw [← hM1]; simp [Btw.meet, bts, tcs, h36, h44, h47, h50]
          exact ⟨⟨litSize, rfl, ⟨litGet (by kernel_rfl), ⟨litGet (by kernel_rfl), ⟨litGet (by kernel_rfl), ⟨litGet (by kernel_rfl), ⟨litGet (by kernel_rfl), ⟨litGet (by kernel_rfl), trivial⟩⟩⟩⟩⟩⟩⟩, (by rw [e_]; exact hm51)⟩
        refine litVal (v := .bool true) rfl (wgY rfl rfl rfl (by decide) (by kernel_rfl)) (boolTo h50 (gLoad (v := .bool V.ok) (k := 9) 4 hm43 rfl (by kernel_rfl) (.tmp 80) (by kernel_rfl) rfl (litEv (by kernel_rfl)))) rfl (by decide) ?_
        refine lk (v := .bool true) rfl rfl rfl ?_
        refine lk (v := .pointer (some ⟨g22, 4, none⟩)) rfl rfl rfl ?_
        refine plStore1 (v := .bool true) (k := 4) 5 (by kernel_rfl) hm43 rfl (i := 10) rfl (wn rfl) rfl (litEv (by kernel_rfl)) (litEv (by kernel_rfl)) rfl rfl rfl ?_
        intro w54 hm53
        clear hm43
        try simp only [List.cons_append, List.nil_append, List.set_cons_succ, List.set_cons_zero] at hm53
        refine qNone rfl ?_
        refine plD ?_
        refine inBlock_normal ?_
        refine then_normal ?_
        have e_ : bts M1 = [.int .i64 U.a.1, .int .i64 U.a.2, .int .i64 U.b.1, .int .i64 U.b.2, .bool true] := by rw [← hM1]; simp [Btw.meet, bts, tcs, h36, h44, h47, h50]
        exact ⟨⟨litSize, rfl, ⟨litGet (by kernel_rfl), ⟨litGet (by kernel_rfl), ⟨litGet (by kernel_rfl), ⟨litGet (by kernel_rfl), ⟨litGet (by kernel_rfl), ⟨litGet (by kernel_rfl), trivial⟩⟩⟩⟩⟩⟩⟩, (by rw [e_]; exact hm53)⟩
      rw [h44]
      refine mk_ (i := 8) (v := .bool true) rfl rfl (fun _ _ _ h => h) hm43 rfl ?_
      refine mgDone (by kernel_rfl) ?_
      refine then_normal (hK39 _ _ ?_)
      refine wp_seq_k fun K55 hK55 => ?_
      refine wp_seq_k fun K56 hK56 => ?_
      refine plStart ?_
      refine lk (v := .bool true) rfl rfl rfl ?_
      refine plD ?_
      refine then_normal (hK56 _ _ ?_)
      refine wp_cond_true (litEv (by kernel_rfl)) ?_
      refine plStart ?_
      refine lk (v := .slice (some ⟨g19, 0, none⟩) 3 3) rfl rfl rfl ?_
      refine lk (v := .int .i64 1) rfl rfl rfl ?_
      refine litVal (v := .pointer (some ⟨g19, 5, none⟩)) rfl (wn rfl) (gIaSl (b := g19) (off := 0) (n := 3) (c := 3) (kk := .i64) (K := 1) (.tmp 68) (.tmp 69) 1 Ty.sl_L_voxelref42_Between rfl (litEv (by kernel_rfl)) (litEv (by kernel_rfl)) rfl (by decide)) rfl (by decide) ?_
      refine lk (v := .pointer (some ⟨g19, 7, none⟩)) rfl rfl rfl ?_
      refine litVal (v := .agg (tcs V.b).toArray) rfl (wn rfl) (gLoadAg (vs := tcs V.b) (k := 7) 4 hm43 rfl (by kernel_rfl) (by kernel_rfl) (.tmp 71) Ty.ag_voxel_voxelref42_Time rfl (litEv (by kernel_rfl))) rfl (by decide) ?_
      refine lk (v := .pointer (some ⟨g22, 2, none⟩)) rfl rfl rfl ?_
      refine plStoreAt 5 Ty.ag_voxel_voxelref42_Time hm43 rfl (i := 6) (cs := tcs V.b) (k := 2) rfl (wn rfl) rfl (litEv (by kernel_rfl)) (litEv (by kernel_rfl)) (by kernel_rfl) rfl (by kernel_rfl) ?_
      intro w58 hm57
      clear hm43
      have hm59 : Mem w w58 [.arr g2 23 (pcs a), .arr g5 23 (pcs b), .arr g8 23 (pcs c), .arr g11 61 ([.int .i64 0, .int .i64 0, .int .i64 0, .int .i64 0, .bool false]), .arr g19 61 ([.int .i64 U.a.1, .int .i64 U.a.2, .int .i64 U.b.1, .int .i64 U.b.2, .bool U.ok, .int .i64 V.a.1, .int .i64 V.a.2, .int .i64 V.b.1, .int .i64 V.b.2, .bool V.ok, .int .i64 W.a.1, .int .i64 W.a.2, .int .i64 W.b.1, .int .i64 W.b.2, .bool W.ok]), .arr g22 61 ([.int .i64 U.a.1, .int .i64 U.a.2, .int .i64 V.b.1, .int .i64 V.b.2, .bool U.ok])] := hm57
      clear hm57
      refine qNone rfl ?_
      refine plD ?_
      refine then_normal (hK55 _ _ ?_)
      refine plStart ?_
      refine lk (v := .pointer (some ⟨g22, 4, none⟩)) rfl rfl rfl ?_
      rcases bool_or (U.ok) with h60 | h60
      · refine litVal (v := .bool false) rfl (wn rfl) (boolTo h60 (gLoad (v := .bool U.ok) (k := 4) 5 hm59 rfl (by kernel_rfl) (.tmp 74) (by kernel_rfl) rfl (litEv (by kernel_rfl)))) rfl (by decide) ?_
        refine lk (v := .bool false) rfl rfl rfl ?_
        refine plSkip (i := 3) rfl (wgN rfl rfl rfl (by decide) (by kernel_rfl)) ?_
        refine qP rfl ?_
        refine plSkip (i := 4) rfl (wgN rfl rfl rfl (by decide) (by kernel_rfl)) ?_
        refine qP rfl ?_
        refine plSkip (i := 5) rfl (wgN rfl rfl rfl (by decide) (by kernel_rfl)) ?_
        refine qP rfl ?_
        refine plSkip (i := 6) rfl (wgN rfl rfl rfl (by decide) (by kernel_rfl)) ?_
        refine qP rfl ?_
        refine plSkip (i := 7) rfl (wgN rfl rfl rfl (by decide) (by kernel_rfl)) ?_
        refine qP rfl ?_
        refine lk (v := .bool false) rfl rfl rfl ?_
        refine lk (v := .pointer (some ⟨g22, 4, none⟩)) rfl rfl rfl ?_
        refine plStore1 (v := .bool false) (k := 4) 5 (by kernel_rfl) hm59 rfl (i := 10) rfl (wn rfl) rfl (litEv (by kernel_rfl)) (litEv (by kernel_rfl)) rfl rfl rfl ?_
        intro w62 hm61
        clear hm59
        try simp only [List.cons_append, List.nil_append, List.set_cons_succ, List.set_cons_zero] at hm61
        refine qNone rfl ?_
        refine plD ?_
        refine inBlock_normal ?_
        refine then_normal ?_
        have e_ : bts M1 = [.int .i64 U.a.1, .int .i64 U.a.2, .int .i64 V.b.1, .int .i64 V.b.2, .bool false] := by rw [← hM1]; simp [Btw.meet, bts, tcs, h36, h44, h60]
        exact ⟨⟨litSize, rfl, ⟨litGet (by kernel_rfl), ⟨litGet (by kernel_rfl), ⟨litGet (by kernel_rfl), ⟨litGet (by kernel_rfl), ⟨litGet (by kernel_rfl), ⟨litGet (by kernel_rfl), trivial⟩⟩⟩⟩⟩⟩⟩, (by rw [e_]; exact hm61)⟩
      refine litVal (v := .bool true) rfl (wn rfl) (boolTo h60 (gLoad (v := .bool U.ok) (k := 4) 5 hm59 rfl (by kernel_rfl) (.tmp 74) (by kernel_rfl) rfl (litEv (by kernel_rfl)))) rfl (by decide) ?_
      refine lk (v := .bool true) rfl rfl rfl ?_
      refine litVal (v := .slice (some ⟨g19, 0, none⟩) 3 3) rfl (wgY rfl rfl rfl (by decide) (by kernel_rfl)) (litRun (by kernel_rfl)) rfl (by decide) ?_
      refine litVal (v := .int .i64 1) rfl (wgY rfl rfl rfl (by decide) (by kernel_rfl)) (litRun (by kernel_rfl)) rfl (by decide) ?_
      refine litVal (v := .pointer (some ⟨g19, 5, none⟩)) rfl (wgY rfl rfl rfl (by decide) (by kernel_rfl)) (gIaSl (b := g19) (off := 0) (n := 3) (c := 3) (kk := .i64) (K := 1) (.tmp 77) (.tmp 78) 1 Ty.sl_L_voxelref42_Between rfl (litEv (by kernel_rfl)) (litEv (by kernel_rfl)) rfl (by decide)) rfl (by decide) ?_
      refine litVal (v := .pointer (some ⟨g19, 9, none⟩)) rfl (wgY rfl rfl rfl (by decide) (by kernel_rfl)) (litRun (by kernel_rfl)) rfl (by decide) ?_
      rcases bool_or (V.ok) with h63 | h63
      · refine litVal (v := .bool false) rfl (wgY rfl rfl rfl (by decide) (by kernel_rfl)) (boolTo h63 (gLoad (v := .bool V.ok) (k := 9) 4 hm59 rfl (by kernel_rfl) (.tmp 80) (by kernel_rfl) rfl (litEv (by kernel_rfl)))) rfl (by decide) ?_
        refine lk (v := .bool false) rfl rfl rfl ?_
        refine lk (v := .pointer (some ⟨g22, 4, none⟩)) rfl rfl rfl ?_
        refine plStore1 (v := .bool false) (k := 4) 5 (by kernel_rfl) hm59 rfl (i := 10) rfl (wn rfl) rfl (litEv (by kernel_rfl)) (litEv (by kernel_rfl)) rfl rfl rfl ?_
        intro w65 hm64
        clear hm59
        try simp only [List.cons_append, List.nil_append, List.set_cons_succ, List.set_cons_zero] at hm64
        refine qNone rfl ?_
        refine plD ?_
        refine inBlock_normal ?_
        refine then_normal ?_
        have e_ : bts M1 = [.int .i64 U.a.1, .int .i64 U.a.2, .int .i64 V.b.1, .int .i64 V.b.2, .bool false] := by rw [← hM1]; simp [Btw.meet, bts, tcs, h36, h44, h60, h63]
        exact ⟨⟨litSize, rfl, ⟨litGet (by kernel_rfl), ⟨litGet (by kernel_rfl), ⟨litGet (by kernel_rfl), ⟨litGet (by kernel_rfl), ⟨litGet (by kernel_rfl), ⟨litGet (by kernel_rfl), trivial⟩⟩⟩⟩⟩⟩⟩, (by rw [e_]; exact hm64)⟩
      refine litVal (v := .bool true) rfl (wgY rfl rfl rfl (by decide) (by kernel_rfl)) (boolTo h63 (gLoad (v := .bool V.ok) (k := 9) 4 hm59 rfl (by kernel_rfl) (.tmp 80) (by kernel_rfl) rfl (litEv (by kernel_rfl)))) rfl (by decide) ?_
      refine lk (v := .bool true) rfl rfl rfl ?_
      refine lk (v := .pointer (some ⟨g22, 4, none⟩)) rfl rfl rfl ?_
      refine plStore1 (v := .bool true) (k := 4) 5 (by kernel_rfl) hm59 rfl (i := 10) rfl (wn rfl) rfl (litEv (by kernel_rfl)) (litEv (by kernel_rfl)) rfl rfl rfl ?_
      intro w67 hm66
      clear hm59
      try simp only [List.cons_append, List.nil_append, List.set_cons_succ, List.set_cons_zero] at hm66
      refine qNone rfl ?_
      refine plD ?_
      refine inBlock_normal ?_
      refine then_normal ?_
      have e_ : bts M1 = [.int .i64 U.a.1, .int .i64 U.a.2, .int .i64 V.b.1, .int .i64 V.b.2, .bool true] := by rw [← hM1]; simp [Btw.meet, bts, tcs, h36, h44, h60, h63]
      exact ⟨⟨litSize, rfl, ⟨litGet (by kernel_rfl), ⟨litGet (by kernel_rfl), ⟨litGet (by kernel_rfl), ⟨litGet (by kernel_rfl), ⟨litGet (by kernel_rfl), ⟨litGet (by kernel_rfl), trivial⟩⟩⟩⟩⟩⟩⟩, (by rw [e_]; exact hm66)⟩
    rw [h36]
    refine mk_ (i := 8) (v := .bool true) rfl rfl (fun _ _ _ h => h) hm35 rfl ?_
    refine mgDone (by kernel_rfl) ?_
    refine then_normal (hK31 _ _ ?_)
    refine wp_seq_k fun K68 hK68 => ?_
    refine wp_seq_k fun K69 hK69 => ?_
    refine plStart ?_
    refine lk (v := .bool true) rfl rfl rfl ?_
    refine plD ?_
    refine then_normal (hK69 _ _ ?_)
    refine wp_cond_true (litEv (by kernel_rfl)) ?_
    refine plStart ?_
    refine lk (v := .slice (some ⟨g19, 0, none⟩) 3 3) rfl rfl rfl ?_
    refine lk (v := .int .i64 1) rfl rfl rfl ?_
    refine litVal (v := .pointer (some ⟨g19, 5, none⟩)) rfl (wn rfl) (gIaSl (b := g19) (off := 0) (n := 3) (c := 3) (kk := .i64) (K := 1) (.tmp 53) (.tmp 54) 1 Ty.sl_L_voxelref42_Between rfl (litEv (by kernel_rfl)) (litEv (by kernel_rfl)) rfl (by decide)) rfl (by decide) ?_
    refine lk (v := .pointer (some ⟨g19, 5, none⟩)) rfl rfl rfl ?_
    refine litVal (v := .agg (tcs V.a).toArray) rfl (wn rfl) (gLoadAg (vs := tcs V.a) (k := 5) 4 hm35 rfl (by kernel_rfl) (by kernel_rfl) (.tmp 56) Ty.ag_voxel_voxelref42_Time rfl (litEv (by kernel_rfl))) rfl (by decide) ?_
    refine lk (v := .pointer (some ⟨g22, 0, none⟩)) rfl rfl rfl ?_
    refine plStoreAt 5 Ty.ag_voxel_voxelref42_Time hm35 rfl (i := 6) (cs := tcs V.a) (k := 0) rfl (wn rfl) rfl (litEv (by kernel_rfl)) (litEv (by kernel_rfl)) (by kernel_rfl) rfl (by kernel_rfl) ?_
    intro w71 hm70
    clear hm35
    have hm72 : Mem w w71 [.arr g2 23 (pcs a), .arr g5 23 (pcs b), .arr g8 23 (pcs c), .arr g11 61 ([.int .i64 0, .int .i64 0, .int .i64 0, .int .i64 0, .bool false]), .arr g19 61 ([.int .i64 U.a.1, .int .i64 U.a.2, .int .i64 U.b.1, .int .i64 U.b.2, .bool U.ok, .int .i64 V.a.1, .int .i64 V.a.2, .int .i64 V.b.1, .int .i64 V.b.2, .bool V.ok, .int .i64 W.a.1, .int .i64 W.a.2, .int .i64 W.b.1, .int .i64 W.b.2, .bool W.ok]), .arr g22 61 ([.int .i64 V.a.1, .int .i64 V.a.2, .int .i64 U.b.1, .int .i64 U.b.2, .bool U.ok])] := hm70
    clear hm70
    refine qNone rfl ?_
    refine plD ?_
    refine then_normal (hK68 _ _ ?_)
    refine wp_seq_k fun K73 hK73 => ?_
    refine mgStart hm72 (by kernel_rfl) ?_
    intro w75 hm74
    clear hm72
    refine mk_ (i := 0) (v := .slice (some ⟨g19, 0, none⟩) 3 3) rfl rfl (fun _ _ _ h => h) hm74 rfl ?_
    refine mk_ (i := 1) (v := .int .i64 1) rfl rfl (fun _ _ _ h => h) hm74 rfl ?_
    refine mgTake (i := 2) (v := .pointer (some ⟨g19, 5, none⟩)) rfl (by kernel_rfl) (wn rfl) (fun _ _ _ h => h) hm74 (fun w_ h_ => gIaSl (b := g19) (off := 0) (n := 3) (c := 3) (kk := .i64) (K := 1) (.tmp 59) (.tmp 60) 1 Ty.sl_L_voxelref42_Between rfl (litEv (by kernel_rfl)) (litEv (by kernel_rfl)) rfl (by decide)) ?_
    refine mP rfl ?_
    refine mk_ (i := 3) (v := .pointer (some ⟨g19, 7, none⟩)) rfl rfl (fun _ _ _ h => h) hm74 rfl ?_
    refine mgTake (i := 4) (v := .agg (tcs V.b).toArray) rfl (by kernel_rfl) (wn rfl) (fun _ _ _ h => h) hm74 (fun w_ h_ => gLoadAg (vs := tcs V.b) (k := 7) 4 h_ rfl (by kernel_rfl) (by kernel_rfl) (.tmp 62) Ty.ag_voxel_voxelref42_Time rfl (litEv (by kernel_rfl))) ?_
    refine mP rfl ?_
    refine mk_ (i := 5) (v := .pointer (some ⟨g22, 2, none⟩)) rfl rfl (fun _ _ _ h => h) hm74 rfl ?_
    refine mgTake (i := 6) (v := .agg (tcs U.b).toArray) rfl (by kernel_rfl) (wn rfl) (fun _ _ _ h => h) hm74 (fun w_ h_ => gLoadAg (vs := tcs U.b) (k := 2) 5 h_ rfl (by kernel_rfl) (by kernel_rfl) (.tmp 64) Ty.ag_voxel_voxelref42_Time rfl (litEv (by kernel_rfl))) ?_
    refine mP rfl ?_
    refine mgCall (i := 7) 34 [.agg (tcs V.b).toArray, .agg (tcs U.b).toArray] [] [] (by kernel_rfl) rfl (by kernel_rfl) (wn rfl) rfl (litEv (by kernel_rfl)) (litArgs (by kernel_rfl)) (less_any V.b U.b sV.2 sU.2 _) ?_
    rintro e w76 ⟨rfl, hbz⟩
    have hm77 := hm74.below hbz
    clear hbz hm74
    refine ⟨_, rfl, hm77, ?_⟩
    refine mP rfl ?_
    rcases bool_or (tltb V.b U.b) with h78 | h78
    · rw [h78]
      refine mk_ (i := 8) (v := .bool false) rfl rfl (fun _ _ _ h => h) hm77 rfl ?_
      refine mgDone (by kernel_rfl) ?_
      refine then_normal (hK73 _ _ ?_)
      refine wp_seq_k fun K79 hK79 => ?_
      refine wp_seq_k fun K80 hK80 => ?_
      refine plStart ?_
      refine lk (v := .bool false) rfl rfl rfl ?_
      refine plD ?_
      refine then_normal (hK80 _ _ ?_)
      refine wp_cond_false (litEv (by kernel_rfl)) ?_
      refine wp_skip ?_
      refine then_normal (hK79 _ _ ?_)
      refine plStart ?_
      refine lk (v := .pointer (some ⟨g22, 4, none⟩)) rfl rfl rfl ?_
      rcases bool_or (U.ok) with h81 | h81
      · refine litVal (v := .bool false) rfl (wn rfl) (boolTo h81 (gLoad (v := .bool U.ok) (k := 4) 5 hm77 rfl (by kernel_rfl) (.tmp 74) (by kernel_rfl) rfl (litEv (by kernel_rfl)))) rfl (by decide) ?_
        refine lk (v := .bool false) rfl rfl rfl ?_
        refine plSkip (i := 3) rfl (wgN rfl rfl rfl (by decide) (by kernel_rfl)) ?_
        refine qP rfl ?_
        refine plSkip (i := 4) rfl (wgN rfl rfl rfl (by decide) (by kernel_rfl)) ?_
        refine qP rfl ?_
        refine plSkip (i := 5) rfl (wgN rfl rfl rfl (by decide) (by kernel_rfl)) ?_
        refine qP rfl ?_
        refine plSkip (i := 6) rfl (wgN rfl rfl rfl (by decide) (by kernel_rfl)) ?_
        refine qP rfl ?_
        refine plSkip (i := 7) rfl (wgN rfl rfl rfl (by decide) (by kernel_rfl)) ?_
        refine qP rfl ?_
        refine lk (v := .bool false) rfl rfl rfl ?_
        refine lk (v := .pointer (some ⟨g22, 4, none⟩)) rfl rfl rfl ?_
        refine plStore1 (v := .bool false) (k := 4) 5 (by kernel_rfl) hm77 rfl (i := 10) rfl (wn rfl) rfl (litEv (by kernel_rfl)) (litEv (by kernel_rfl)) rfl rfl rfl ?_
        intro w83 hm82
        clear hm77
        try simp only [List.cons_append, List.nil_append, List.set_cons_succ, List.set_cons_zero] at hm82
        refine qNone rfl ?_
        refine plD ?_
        refine inBlock_normal ?_
        refine then_normal ?_
        have e_ : bts M1 = [.int .i64 V.a.1, .int .i64 V.a.2, .int .i64 U.b.1, .int .i64 U.b.2, .bool false] := by rw [← hM1]; simp [Btw.meet, bts, tcs, h36, h78, h81]
        exact ⟨⟨litSize, rfl, ⟨litGet (by kernel_rfl), ⟨litGet (by kernel_rfl), ⟨litGet (by kernel_rfl), ⟨litGet (by kernel_rfl), ⟨litGet (by kernel_rfl), ⟨litGet (by kernel_rfl), trivial⟩⟩⟩⟩⟩⟩⟩, (by rw [e_]; exact hm82)⟩
      refine litVal (v := .bool true) rfl (wn rfl) (boolTo h81 (gLoad (v := .bool U.ok) (k := 4) 5 hm77 rfl (by kernel_rfl) (.tmp 74) (by kernel_rfl) rfl (litEv (by kernel_rfl)))) rfl (by decide) ?_
      refine lk (v := .bool true) rfl rfl rfl ?_
      refine litVal (v := .slice (some ⟨g19, 0, none⟩) 3 3) rfl (wgY rfl rfl rfl (by decide) (by kernel_rfl)) (litRun (by kernel_rfl)) rfl (by decide) ?_
      refine litVal (v := .int .i64 1) rfl (wgY rfl rfl rfl (by decide) (by kernel_rfl)) (litRun (by kernel_rfl)) rfl (by decide) ?_
      refine litVal (v := .pointer (some ⟨g19, 5, none⟩)) rfl (wgY rfl rfl rfl (by decide) (by kernel_rfl)) (gIaSl (b := g19) (off := 0) (n := 3) (c := 3) (kk := .i64) (K := 1) (.tmp 77) (.tmp 78) 1 Ty.sl_L_voxelref42_Between rfl (litEv (by kernel_rfl)) (litEv (by kernel_rfl)) rfl (by decide)) rfl (by decide) ?_
      refine litVal (v := .pointer (some ⟨g19, 9, none⟩)) rfl (wgY rfl rfl rfl (by decide) (by kernel_rfl)) (litRun (by kernel_rfl)) rfl (by decide) ?_
      rcases bool_or (V.ok) with h84 | h84
      · refine litVal (v := .bool false) rfl (wgY rfl rfl rfl (by decide) (by kernel_rfl)) (boolTo h84 (gLoad (v := .bool V.ok) (k := 9) 4 hm77 rfl (by kernel_rfl) (.tmp 80) (by kernel_rfl) rfl (litEv (by kernel_rfl)))) rfl (by decide) ?_
        refine lk (v := .bool false) rfl rfl rfl ?_
        refine lk (v := .pointer (some ⟨g22, 4, none⟩)) rfl rfl rfl ?_
        refine plStore1 (v := .bool false) (k := 4) 5 (by kernel_rfl) hm77 rfl (i := 10) rfl (wn rfl) rfl (litEv (by kernel_rfl)) (litEv (by kernel_rfl)) rfl rfl rfl ?_
        intro w86 hm85
        clear hm77
        try simp only [List.cons_append, List.nil_append, List.set_cons_succ, List.set_cons_zero] at hm85
        refine qNone rfl ?_
        refine plD ?_
        refine inBlock_normal ?_
        refine then_normal ?_
        have e_ : bts M1 = [.int .i64 V.a.1, .int .i64 V.a.2, .int .i64 U.b.1, .int .i64 U.b.2, .bool false] := by rw [← hM1]; simp [Btw.meet, bts, tcs, h36, h78, h81, h84]
        exact ⟨⟨litSize, rfl, ⟨litGet (by kernel_rfl), ⟨litGet (by kernel_rfl), ⟨litGet (by kernel_rfl), ⟨litGet (by kernel_rfl), ⟨litGet (by kernel_rfl), ⟨litGet (by kernel_rfl), trivial⟩⟩⟩⟩⟩⟩⟩, (by rw [e_]; exact hm85)⟩
      refine litVal (v := .bool true) rfl (wgY rfl rfl rfl (by decide) (by kernel_rfl)) (boolTo h84 (gLoad (v := .bool V.ok) (k := 9) 4 hm77 rfl (by kernel_rfl) (.tmp 80) (by kernel_rfl) rfl (litEv (by kernel_rfl)))) rfl (by decide) ?_
      refine lk (v := .bool true) rfl rfl rfl ?_
      refine lk (v := .pointer (some ⟨g22, 4, none⟩)) rfl rfl rfl ?_
      refine plStore1 (v := .bool true) (k := 4) 5 (by kernel_rfl) hm77 rfl (i := 10) rfl (wn rfl) rfl (litEv (by kernel_rfl)) (litEv (by kernel_rfl)) rfl rfl rfl ?_
      intro w88 hm87
      clear hm77
      try simp only [List.cons_append, List.nil_append, List.set_cons_succ, List.set_cons_zero] at hm87
      refine qNone rfl ?_
      refine plD ?_
      refine inBlock_normal ?_
      refine then_normal ?_
      have e_ : bts M1 = [.int .i64 V.a.1, .int .i64 V.a.2, .int .i64 U.b.1, .int .i64 U.b.2, .bool true] := by rw [← hM1]; simp [Btw.meet, bts, tcs, h36, h78, h81, h84]
      exact ⟨⟨litSize, rfl, ⟨litGet (by kernel_rfl), ⟨litGet (by kernel_rfl), ⟨litGet (by kernel_rfl), ⟨litGet (by kernel_rfl), ⟨litGet (by kernel_rfl), ⟨litGet (by kernel_rfl), trivial⟩⟩⟩⟩⟩⟩⟩, (by rw [e_]; exact hm87)⟩
    rw [h78]
    refine mk_ (i := 8) (v := .bool true) rfl rfl (fun _ _ _ h => h) hm77 rfl ?_
    refine mgDone (by kernel_rfl) ?_
    refine then_normal (hK73 _ _ ?_)
    refine wp_seq_k fun K89 hK89 => ?_
    refine wp_seq_k fun K90 hK90 => ?_
    refine plStart ?_
    refine lk (v := .bool true) rfl rfl rfl ?_
    refine plD ?_
    refine then_normal (hK90 _ _ ?_)
    refine wp_cond_true (litEv (by kernel_rfl)) ?_
    refine plStart ?_
    refine lk (v := .slice (some ⟨g19, 0, none⟩) 3 3) rfl rfl rfl ?_
    refine lk (v := .int .i64 1) rfl rfl rfl ?_
    refine litVal (v := .pointer (some ⟨g19, 5, none⟩)) rfl (wn rfl) (gIaSl (b := g19) (off := 0) (n := 3) (c := 3) (kk := .i64) (K := 1) (.tmp 68) (.tmp 69) 1 Ty.sl_L_voxelref42_Between rfl (litEv (by kernel_rfl)) (litEv (by kernel_rfl)) rfl (by decide)) rfl (by decide) ?_
    refine lk (v := .pointer (some ⟨g19, 7, none⟩)) rfl rfl rfl ?_
    refine litVal (v := .agg (tcs V.b).toArray) rfl (wn rfl) (gLoadAg (vs := tcs V.b) (k := 7) 4 hm77 rfl (by kernel_rfl) (by kernel_rfl) (.tmp 71) Ty.ag_voxel_voxelref42_Time rfl (litEv (by kernel_rfl))) rfl (by decide) ?_
    refine lk (v := .pointer (some ⟨g22, 2, none⟩)) rfl rfl rfl ?_
    refine plStoreAt 5 Ty.ag_voxel_voxelref42_Time hm77 rfl (i := 6) (cs := tcs V.b) (k := 2) rfl (wn rfl) rfl (litEv (by kernel_rfl)) (litEv (by kernel_rfl)) (by kernel_rfl) rfl (by kernel_rfl) ?_
    intro w92 hm91
    clear hm77
    have hm93 : Mem w w92 [.arr g2 23 (pcs a), .arr g5 23 (pcs b), .arr g8 23 (pcs c), .arr g11 61 ([.int .i64 0, .int .i64 0, .int .i64 0, .int .i64 0, .bool false]), .arr g19 61 ([.int .i64 U.a.1, .int .i64 U.a.2, .int .i64 U.b.1, .int .i64 U.b.2, .bool U.ok, .int .i64 V.a.1, .int .i64 V.a.2, .int .i64 V.b.1, .int .i64 V.b.2, .bool V.ok, .int .i64 W.a.1, .int .i64 W.a.2, .int .i64 W.b.1, .int .i64 W.b.2, .bool W.ok]), .arr g22 61 ([.int .i64 V.a.1, .int .i64 V.a.2, .int .i64 V.b.1, .int .i64 V.b.2, .bool U.ok])] := hm91
    clear hm91
    refine qNone rfl ?_
    refine plD ?_
    refine then_normal (hK89 _ _ ?_)
    refine plStart ?_
    refine lk (v := .pointer (some ⟨g22, 4, none⟩)) rfl rfl rfl ?_
    rcases bool_or (U.ok) with h94 | h94
    · refine litVal (v := .bool false) rfl (wn rfl) (boolTo h94 (gLoad (v := .bool U.ok) (k := 4) 5 hm93 rfl (by kernel_rfl) (.tmp 74) (by kernel_rfl) rfl (litEv (by kernel_rfl)))) rfl (by decide) ?_
      refine lk (v := .bool false) rfl rfl rfl ?_
      refine plSkip (i := 3) rfl (wgN rfl rfl rfl (by decide) (by kernel_rfl)) ?_
      refine qP rfl ?_
      refine plSkip (i := 4) rfl (wgN rfl rfl rfl (by decide) (by kernel_rfl)) ?_
      refine qP rfl ?_
      refine plSkip (i := 5) rfl (wgN rfl rfl rfl (by decide) (by kernel_rfl)) ?_
      refine qP rfl ?_
      refine plSkip (i := 6) rfl (wgN rfl rfl rfl (by decide) (by kernel_rfl)) ?_
      refine qP rfl ?_
      refine plSkip (i := 7) rfl (wgN rfl rfl rfl (by decide) (by kernel_rfl)) ?_
      refine qP rfl ?_
      refine lk (v := .bool false) rfl rfl rfl ?_
      refine lk (v := .pointer (some ⟨g22, 4, none⟩)) rfl rfl rfl ?_
      refine plStore1 (v := .bool false) (k := 4) 5 (by kernel_rfl) hm93 rfl (i := 10) rfl (wn rfl) rfl (litEv (by kernel_rfl)) (litEv (by kernel_rfl)) rfl rfl rfl ?_
      intro w96 hm95
      clear hm93
      try simp only [List.cons_append, List.nil_append, List.set_cons_succ, List.set_cons_zero] at hm95
      refine qNone rfl ?_
      refine plD ?_
      refine inBlock_normal ?_
      refine then_normal ?_
      have e_ : bts M1 = [.int .i64 V.a.1, .int .i64 V.a.2, .int .i64 V.b.1, .int .i64 V.b.2, .bool false] := by rw [← hM1]; simp [Btw.meet, bts, tcs, h36, h78, h94]
      exact ⟨⟨litSize, rfl, ⟨litGet (by kernel_rfl), ⟨litGet (by kernel_rfl), ⟨litGet (by kernel_rfl), ⟨litGet (by kernel_rfl), ⟨litGet (by kernel_rfl), ⟨litGet (by kernel_rfl), trivial⟩⟩⟩⟩⟩⟩⟩, (by rw [e_]; exact hm95)⟩
    refine litVal (v := .bool true) rfl (wn rfl) (boolTo h94 (gLoad (v := .bool U.ok) (k := 4) 5 hm93 rfl (by kernel_rfl) (.tmp 74) (by kernel_rfl) rfl (litEv (by kernel_rfl)))) rfl (by decide) ?_
    refine lk (v := .bool true) rfl rfl rfl ?_
    refine litVal (v := .slice (some ⟨g19, 0, none⟩) 3 3) rfl (wgY rfl rfl rfl (by decide) (by kernel_rfl)) (litRun (by kernel_rfl)) rfl (by decide) ?_
    refine litVal (v := .int .i64 1) rfl (wgY rfl rfl rfl (by decide) (by kernel_rfl)) (litRun (by kernel_rfl)) rfl (by decide) ?_
    refine litVal (v := .pointer (some ⟨g19, 5, none⟩)) rfl (wgY rfl rfl rfl (by decide) (by kernel_rfl)) (gIaSl (b := g19) (off := 0) (n := 3) (c := 3) (kk := .i64) (K := 1) (.tmp 77) (.tmp 78) 1 Ty.sl_L_voxelref42_Between rfl (litEv (by kernel_rfl)) (litEv (by kernel_rfl)) rfl (by decide)) rfl (by decide) ?_
    refine litVal (v := .pointer (some ⟨g19, 9, none⟩)) rfl (wgY rfl rfl rfl (by decide) (by kernel_rfl)) (litRun (by kernel_rfl)) rfl (by decide) ?_
    rcases bool_or (V.ok) with h97 | h97
    · refine litVal (v := .bool false) rfl (wgY rfl rfl rfl (by decide) (by kernel_rfl)) (boolTo h97 (gLoad (v := .bool V.ok) (k := 9) 4 hm93 rfl (by kernel_rfl) (.tmp 80) (by kernel_rfl) rfl (litEv (by kernel_rfl)))) rfl (by decide) ?_
      refine lk (v := .bool false) rfl rfl rfl ?_
      refine lk (v := .pointer (some ⟨g22, 4, none⟩)) rfl rfl rfl ?_
      refine plStore1 (v := .bool false) (k := 4) 5 (by kernel_rfl) hm93 rfl (i := 10) rfl (wn rfl) rfl (litEv (by kernel_rfl)) (litEv (by kernel_rfl)) rfl rfl rfl ?_
      intro w99 hm98
      clear hm93
      try simp only [List.cons_append, List.nil_append, List.set_cons_succ, List.set_cons_zero] at hm98
      refine qNone rfl ?_
      refine plD ?_
      refine inBlock_normal ?_
      refine then_normal ?_
      have e_ : bts M1 = [.int .i64 V.a.1, .int .i64 V.a.2, .int .i64 V.b.1, .int .i64 V.b.2, .bool false] := by rw [← hM1]; simp [Btw.meet, bts, tcs, h36, h78, h94, h97]
      exact ⟨⟨litSize, rfl, ⟨litGet (by kernel_rfl), ⟨litGet (by kernel_rfl), ⟨litGet (by kernel_rfl), ⟨litGet (by kernel_rfl), ⟨litGet (by kernel_rfl), ⟨litGet (by kernel_rfl), trivial⟩⟩⟩⟩⟩⟩⟩, (by rw [e_]; exact hm98)⟩
    refine litVal (v := .bool true) rfl (wgY rfl rfl rfl (by decide) (by kernel_rfl)) (boolTo h97 (gLoad (v := .bool V.ok) (k := 9) 4 hm93 rfl (by kernel_rfl) (.tmp 80) (by kernel_rfl) rfl (litEv (by kernel_rfl)))) rfl (by decide) ?_
    refine lk (v := .bool true) rfl rfl rfl ?_
    refine lk (v := .pointer (some ⟨g22, 4, none⟩)) rfl rfl rfl ?_
    refine plStore1 (v := .bool true) (k := 4) 5 (by kernel_rfl) hm93 rfl (i := 10) rfl (wn rfl) rfl (litEv (by kernel_rfl)) (litEv (by kernel_rfl)) rfl rfl rfl ?_
    intro w101 hm100
    clear hm93
    try simp only [List.cons_append, List.nil_append, List.set_cons_succ, List.set_cons_zero] at hm100
    refine qNone rfl ?_
    refine plD ?_
    refine inBlock_normal ?_
    refine then_normal ?_
    have e_ : bts M1 = [.int .i64 V.a.1, .int .i64 V.a.2, .int .i64 V.b.1, .int .i64 V.b.2, .bool true] := by rw [← hM1]; simp [Btw.meet, bts, tcs, h36, h78, h94, h97]
    exact ⟨⟨litSize, rfl, ⟨litGet (by kernel_rfl), ⟨litGet (by kernel_rfl), ⟨litGet (by kernel_rfl), ⟨litGet (by kernel_rfl), ⟨litGet (by kernel_rfl), ⟨litGet (by kernel_rfl), trivial⟩⟩⟩⟩⟩⟩⟩, (by rw [e_]; exact hm100)⟩
  clear hm25
  intro a104 w102 hI_
  obtain ⟨hF_, hm103⟩ := hI_
  obtain ⟨X105, rfl⟩ := frLit hF_
  clear hF_
  refine plStart ?_
  refine lk (v := .int .i64 1) rfl rfl rfl ?_
  refine lk (v := .int .i64 2) rfl rfl rfl ?_
  refine lk (v := .int .i64 2) rfl rfl rfl ?_
  refine plD ?_
  refine then_normal (roundsNext ?_)
  refine wp_seq_k fun K106 hK106 => ?_
  refine wp_seq_k fun K107 hK107 => ?_
  refine plStart ?_
  refine lk (v := .int .i64 2) rfl rfl rfl ?_
  refine lk (v := .bool true) rfl rfl rfl ?_
  refine plD ?_
  refine then_normal (hK107 _ _ ?_)
  refine wp_cond_true (litEv (by kernel_rfl)) ?_
  refine wp_skip ?_
  refine then_normal (hK106 _ _ ?_)
  refine gwCut (fun a_ w_ => Fr a_ 110 [(6, .pointer (some ⟨g11, 0, none⟩)), (7, .slice (some ⟨g19, 0, none⟩) 3 3), (8, .pointer (some ⟨g22, 0, none⟩)), (9, .int .i64 2), (40, .int .i64 2), (41, .bool true), (42, .int .i64 1), (43, .int .i64 2)] ∧ Mem w w_ [.arr g2 23 (pcs a), .arr g5 23 (pcs b), .arr g8 23 (pcs c), .arr g11 61 ([.int .i64 0, .int .i64 0, .int .i64 0, .int .i64 0, .bool false]), .arr g19 61 ([.int .i64 U.a.1, .int .i64 U.a.2, .int .i64 U.b.1, .int .i64 U.b.2, .bool U.ok, .int .i64 V.a.1, .int .i64 V.a.2, .int .i64 V.b.1, .int .i64 V.b.2, .bool V.ok, .int .i64 W.a.1, .int .i64 W.a.2, .int .i64 W.b.1, .int .i64 W.b.2, .bool W.ok]), .arr g22 61 (bts M2)]) ?_ ?_
  · refine wp_block ?_
    refine wp_seq_k fun K108 hK108 => ?_
    refine mgStart hm103 (by kernel_rfl) ?_
    intro w110 hm109
    clear hm103
    refine mk_ (i := 0) (v := .pointer (some ⟨g22, 0, none⟩)) rfl rfl (fun _ _ _ h => h) hm109 rfl ?_
    refine mgTake (i := 1) (v := .agg (tcs M1.a).toArray) rfl (by kernel_rfl) (wn rfl) (fun _ _ _ h => h) hm109 (fun w_ h_ => gLoadAg (vs := tcs M1.a) (k := 0) 5 h_ rfl (by kernel_rfl) (by kernel_rfl) (.tmp 44) Ty.ag_voxel_voxelref42_Time rfl (litEv (by kernel_rfl))) ?_
    refine mP rfl ?_
    refine mk_ (i := 2) (v := .slice (some ⟨g19, 0, none⟩) 3 3) rfl rfl (fun _ _ _ h => h) hm109 rfl ?_
    refine mk_ (i := 3) (v := .int .i64 2) rfl rfl (fun _ _ _ h => h) hm109 rfl ?_
    refine mgTake (i := 4) (v := .pointer (some ⟨g19, 10, none⟩)) rfl (by kernel_rfl) (wn rfl) (fun _ _ _ h => h) hm109 (fun w_ h_ => gIaSl (b := g19) (off := 0) (n := 3) (c := 3) (kk := .i64) (K := 2) (.tmp 46) (.tmp 47) 2 Ty.sl_L_voxelref42_Between rfl (litEv (by kernel_rfl)) (litEv (by kernel_rfl)) rfl (by decide)) ?_
    refine mP rfl ?_
    refine mk_ (i := 5) (v := .pointer (some ⟨g19, 10, none⟩)) rfl rfl (fun _ _ _ h => h) hm109 rfl ?_
    refine mgTake (i := 6) (v := .agg (tcs W.a).toArray) rfl (by kernel_rfl) (wn rfl) (fun _ _ _ h => h) hm109 (fun w_ h_ => gLoadAg (vs := tcs W.a) (k := 10) 4 h_ rfl (by kernel_rfl) (by kernel_rfl) (.tmp 49) Ty.ag_voxel_voxelref42_Time rfl (litEv (by kernel_rfl))) ?_
    refine mP rfl ?_
    refine mgCall (i := 7) 34 [.agg (tcs M1.a).toArray, .agg (tcs W.a).toArray] [] [] (by kernel_rfl) rfl (by kernel_rfl) (wn rfl) rfl (litEv (by kernel_rfl)) (litArgs (by kernel_rfl)) (less_any M1.a W.a sM1.1 sW.1 _) ?_
    rintro e w111 ⟨rfl, hbz⟩
    have hm112 := hm109.below hbz
    clear hbz hm109
    refine ⟨_, rfl, hm112, ?_⟩
    refine mP rfl ?_
    rcases bool_or (tltb M1.a W.a) with h113 | h113
    · rw [h113]
      refine mk_ (i := 8) (v := .bool false) rfl rfl (fun _ _ _ h => h) hm112 rfl ?_
      refine mgDone (by kernel_rfl) ?_
      refine then_normal (hK108 _ _ ?_)
      refine wp_seq_k fun K114 hK114 => ?_
      refine wp_seq_k fun K115 hK115 => ?_
      refine plStart ?_
      refine lk (v := .bool false) rfl rfl rfl ?_
      refine plD ?_
      refine then_normal (hK115 _ _ ?_)
      refine wp_cond_false (litEv (by kernel_rfl)) ?_
      refine wp_skip ?_
      refine then_normal (hK114 _ _ ?_)
      refine wp_seq_k fun K116 hK116 => ?_
      refine mgStart hm112 (by kernel_rfl) ?_
      intro w118 hm117
      clear hm112
      refine mk_ (i := 0) (v := .slice (some ⟨g19, 0, none⟩) 3 3) rfl rfl (fun _ _ _ h => h) hm117 rfl ?_
      refine mk_ (i := 1) (v := .int .i64 2) rfl rfl (fun _ _ _ h => h) hm117 rfl ?_
      refine mgTake (i := 2) (v := .pointer (some ⟨g19, 10, none⟩)) rfl (by kernel_rfl) (wn rfl) (fun _ _ _ h => h) hm117 (fun w_ h_ => gIaSl (b := g19) (off := 0) (n := 3) (c := 3) (kk := .i64) (K := 2) (.tmp 59) (.tmp 60) 2 Ty.sl_L_voxelref42_Between rfl (litEv (by kernel_rfl)) (litEv (by kernel_rfl)) rfl (by decide)) ?_
      refine mP rfl ?_
      refine mk_ (i := 3) (v := .pointer (some ⟨g19, 12, none⟩)) rfl rfl (fun _ _ _ h => h) hm117 rfl ?_
      refine mgTake (i := 4) (v := .agg (tcs W.b).toArray) rfl (by kernel_rfl) (wn rfl) (fun _ _ _ h => h) hm117 (fun w_ h_ => gLoadAg (vs := tcs W.b) (k := 12) 4 h_ rfl (by kernel_rfl) (by kernel_rfl) (.tmp 62) Ty.ag_voxel_voxelref42_Time rfl (litEv (by kernel_rfl))) ?_
      refine mP rfl ?_
      refine mk_ (i := 5) (v := .pointer (some ⟨g22, 2, none⟩)) rfl rfl (fun _ _ _ h => h) hm117 rfl ?_
      refine mgTake (i := 6) (v := .agg (tcs M1.b).toArray) rfl (by kernel_rfl) (wn rfl) (fun _ _ _ h => h) hm117 (fun w_ h_ => gLoadAg (vs := tcs M1.b) (k := 2) 5 h_ rfl (by kernel_rfl) (by kernel_rfl) (.tmp 64) Ty.ag_voxel_voxelref42_Time rfl (litEv (by kernel_rfl))) ?_
      refine mP rfl ?_
      refine mgCall (i := 7) 34 [.agg (tcs W.b).toArray, .agg (tcs M1.b).toArray] [] [] (by kernel_rfl) rfl (by kernel_rfl) (wn rfl) rfl (litEv (by kernel_rfl)) (litArgs (by kernel_rfl)) (less_any W.b M1.b sW.2 sM1.2 _) ?_
      rintro e w119 ⟨rfl, hbz⟩
      have hm120 := hm117.below hbz
      clear hbz hm117
      refine ⟨_, rfl, hm120, ?_⟩
      refine mP rfl ?_
      rcases bool_or (tltb W.b M1.b) with h121 | h121
      · rw [h121]
        refine mk_ (i := 8) (v := .bool false) rfl rfl (fun _ _ _ h => h) hm120 rfl ?_
        refine mgDone (by kernel_rfl) ?_
        refine then_normal (hK116 _ _ ?_)
        refine wp_seq_k fun K122 hK122 => ?_
        refine wp_seq_k fun K123 hK123 => ?_
        refine plStart ?_
        refine lk (v := .bool false) rfl rfl rfl ?_
        refine plD ?_
        refine then_normal (hK123 _ _ ?_)
        refine wp_cond_false (litEv (by kernel_rfl)) ?_
        refine wp_skip ?_
        refine then_normal (hK122 _ _ ?_)
        refine plStart ?_
        refine lk (v := .pointer (some ⟨g22, 4, none⟩)) rfl rfl rfl ?_
        rcases bool_or (M1.ok) with h124 | h124
        · refine litVal (v := .bool false) rfl (wn rfl) (boolTo h124 (gLoad (v := .bool M1.ok) (k := 4) 5 hm120 rfl (by kernel_rfl) (.tmp 74) (by kernel_rfl) rfl (litEv (by kernel_rfl)))) rfl (by decide) ?_
          refine lk (v := .bool false) rfl rfl rfl ?_
          refine plSkip (i := 3) rfl (wgN rfl rfl rfl (by decide) (by kernel_rfl)) ?_
          refine qP rfl ?_
          refine plSkip (i := 4) rfl (wgN rfl rfl rfl (by decide) (by kernel_rfl)) ?_
          refine qP rfl ?_
          refine plSkip (i := 5) rfl (wgN rfl rfl rfl (by decide) (by kernel_rfl)) ?_
          refine qP rfl ?_
          refine plSkip (i := 6) rfl (wgN rfl rfl rfl (by decide) (by kernel_rfl)) ?_
          refine qP rfl ?_
          refine plSkip (i := 7) rfl (wgN rfl rfl rfl (by decide) (by kernel_rfl)) ?_
          refine qP rfl ?_
          refine lk (v := .bool false) rfl rfl rfl ?_
          refine lk (v := .pointer (some ⟨g22, 4, none⟩)) rfl rfl rfl ?_
          refine plStore1 (v := .bool false) (k := 4) 5 (by kernel_rfl) hm120 rfl (i := 10) rfl (wn rfl) rfl (litEv (by kernel_rfl)) (litEv (by kernel_rfl)) rfl rfl rfl ?_
          intro w126 hm125
          clear hm120
          try simp only [List.cons_append, List.nil_append, List.set_cons_succ, List.set_cons_zero] at hm125
          refine qNone rfl ?_
          refine plD ?_
          refine inBlock_normal ?_
          refine then_normal ?_
          have e_ : bts M2 = [.int .i64 M1.a.1, .int .i64 M1.a.2, .int .i64 M1.b.1, .int .i64 M1.b.2, .bool false] := by rw [← hM2]; simp [Btw.meet, bts, tcs, h113, h121, h124]
          exact ⟨⟨litSize, rfl, ⟨litGet (by kernel_rfl), ⟨litGet (by kernel_rfl), ⟨litGet (by kernel_rfl), ⟨litGet (by kernel_rfl), ⟨litGet (by kernel_rfl), ⟨litGet (by kernel_rfl), ⟨litGet (by kernel_rfl), ⟨litGet (by kernel_rfl), trivial⟩⟩⟩⟩⟩⟩⟩⟩⟩, (by rw [e_]; exact hm125)⟩
        refine litVal (v := .bool true) rfl (wn rfl) (boolTo h124 (gLoad (v := .bool M1.ok) (k := 4) 5 hm120 rfl (by kernel_rfl) (.tmp 74) (by kernel_rfl) rfl (litEv (by kernel_rfl)))) rfl (by decide) ?_
        refine lk (v := .bool true) rfl rfl rfl ?_
        refine litVal (v := .slice (some ⟨g19, 0, none⟩) 3 3) rfl (wgY rfl rfl rfl (by decide) (by kernel_rfl)) (litRun (by kernel_rfl)) rfl (by decide) ?_
        refine litVal (v := .int .i64 2) rfl (wgY rfl rfl rfl (by decide) (by kernel_rfl)) (litRun (by kernel_rfl)) rfl (by decide) ?_
        refine litVal (v := .pointer (some ⟨g19, 10, none⟩)) rfl (wgY rfl rfl rfl (by decide) (by kernel_rfl)) (gIaSl (b := g19) (off := 0) (n := 3) (c := 3) (kk := .i64) (K := 2) (.tmp 77) (.tmp 78) 2 Ty.sl_L_voxelref42_Between rfl (litEv (by kernel_rfl)) (litEv (by kernel_rfl)) rfl (by decide)) rfl (by decide) ?_
        refine litVal (v := .pointer (some ⟨g19, 14, none⟩)) rfl (wgY rfl rfl rfl (by decide) (by kernel_rfl)) (litRun (by kernel_rfl)) rfl (by decide) ?_
        rcases bool_or (W.ok) with h127 | h127
        · refine litVal (v := .bool false) rfl (wgY rfl rfl rfl (by decide) (by kernel_rfl)) (boolTo h127 (gLoad (v := .bool W.ok) (k := 14) 4 hm120 rfl (by kernel_rfl) (.tmp 80) (by kernel_rfl) rfl (litEv (by kernel_rfl)))) rfl (by decide) ?_
          refine lk (v := .bool false) rfl rfl rfl ?_
          refine lk (v := .pointer (some ⟨g22, 4, none⟩)) rfl rfl rfl ?_
          refine plStore1 (v := .bool false) (k := 4) 5 (by kernel_rfl) hm120 rfl (i := 10) rfl (wn rfl) rfl (litEv (by kernel_rfl)) (litEv (by kernel_rfl)) rfl rfl rfl ?_
          intro w129 hm128
          clear hm120
          try simp only [List.cons_append, List.nil_append, List.set_cons_succ, List.set_cons_zero] at hm128
          refine qNone rfl ?_
          refine plD ?_
          refine inBlock_normal ?_
          refine then_normal ?_
          have e_ : bts M2 = [.int .i64 M1.a.1, .int .i64 M1.a.2, .int .i64 M1.b.1, .int .i64 M1.b.2, .bool false] := by rw [← hM2]; simp [Btw.meet, bts, tcs, h113, h121, h124, h127]
          exact ⟨⟨litSize, rfl, ⟨litGet (by kernel_rfl), ⟨litGet (by kernel_rfl), ⟨litGet (by kernel_rfl), ⟨litGet (by kernel_rfl), ⟨litGet (by kernel_rfl), ⟨litGet (by kernel_rfl), ⟨litGet (by kernel_rfl), ⟨litGet (by kernel_rfl), trivial⟩⟩⟩⟩⟩⟩⟩⟩⟩, (by rw [e_]; exact hm128)⟩
        refine litVal (v := .bool true) rfl (wgY rfl rfl rfl (by decide) (by kernel_rfl)) (boolTo h127 (gLoad (v := .bool W.ok) (k := 14) 4 hm120 rfl (by kernel_rfl) (.tmp 80) (by kernel_rfl) rfl (litEv (by kernel_rfl)))) rfl (by decide) ?_
        refine lk (v := .bool true) rfl rfl rfl ?_
        refine lk (v := .pointer (some ⟨g22, 4, none⟩)) rfl rfl rfl ?_
        refine plStore1 (v := .bool true) (k := 4) 5 (by kernel_rfl) hm120 rfl (i := 10) rfl (wn rfl) rfl (litEv (by kernel_rfl)) (litEv (by kernel_rfl)) rfl rfl rfl ?_
        intro w131 hm130
        clear hm120
        try simp only [List.cons_append, List.nil_append, List.set_cons_succ, List.set_cons_zero] at hm130
        refine qNone rfl ?_
        refine plD ?_
        refine inBlock_normal ?_
        refine then_normal ?_
        have e_ : bts M2 = [.int .i64 M1.a.1, .int .i64 M1.a.2, .int .i64 M1.b.1, .int .i64 M1.b.2, .bool true] := by rw [← hM2]; simp [Btw.meet, bts, tcs, h113, h121, h124, h127]
        exact ⟨⟨litSize, rfl, ⟨litGet (by kernel_rfl), ⟨litGet (by kernel_rfl), ⟨litGet (by kernel_rfl), ⟨litGet (by kernel_rfl), ⟨litGet (by kernel_rfl), ⟨litGet (by kernel_rfl), ⟨litGet (by kernel_rfl), ⟨litGet (by kernel_rfl), trivial⟩⟩⟩⟩⟩⟩⟩⟩⟩, (by rw [e_]; exact hm130)⟩
      rw [h121]
      refine mk_ (i := 8) (v := .bool true) rfl rfl (fun _ _ _ h => h) hm120 rfl ?_
      refine mgDone (by kernel_rfl) ?_
      refine then_normal (hK116 _ _ ?_)
      refine wp_seq_k fun K132 hK132 => ?_
      refine wp_seq_k fun K133 hK133 => ?_
      refine plStart ?_
      refine lk (v := .bool true) rfl rfl rfl ?_
      refine plD ?_
      refine then_normal (hK133 _ _ ?_)
      refine wp_cond_true (litEv (by kernel_rfl)) ?_
      refine plStart ?_
      refine lk (v := .slice (some ⟨g19, 0, none⟩) 3 3) rfl rfl rfl ?_
      refine lk (v := .int .i64 2) rfl rfl rfl ?_
      refine litVal (v := .pointer (some ⟨g19, 10, none⟩)) rfl (wn rfl) (gIaSl (b := g19) (off := 0) (n := 3) (c := 3) (kk := .i64) (K := 2) (.tmp 68) (.tmp 69) 2 Ty.sl_L_voxelref42_Between rfl (litEv (by kernel_rfl)) (litEv (by kernel_rfl)) rfl (by decide)) rfl (by decide) ?_
      refine lk (v := .pointer (some ⟨g19, 12, none⟩)) rfl rfl rfl ?_
      refine litVal (v := .agg (tcs W.b).toArray) rfl (wn rfl) (gLoadAg (vs := tcs W.b) (k := 12) 4 hm120 rfl (by kernel_rfl) (by kernel_rfl) (.tmp 71) Ty.ag_voxel_voxelref42_Time rfl (litEv (by kernel_rfl))) rfl (by decide) ?_
      refine lk (v := .pointer (some ⟨g22, 2, none⟩)) rfl rfl rfl ?_
      refine plStoreAt 5 Ty.ag_voxel_voxelref42_Time hm120 rfl (i := 6) (cs := tcs W.b) (k := 2) rfl (wn rfl) rfl (litEv (by kernel_rfl)) (litEv (by kernel_rfl)) (by kernel_rfl) rfl (by kernel_rfl) ?_
      intro w135 hm134
      clear hm120
      have hm136 : Mem w w135 [.arr g2 23 (pcs a), .arr g5 23 (pcs b), .arr g8 23 (pcs c), .arr g11 61 ([.int .i64 0, .int .i64 0, .int .i64 0, .int .i64 0, .bool false]), .arr g19 61 ([.int .i64 U.a.1, .int .i64 U.a.2, .int .i64 U.b.1, .int .i64 U.b.2, .bool U.ok, .int .i64 V.a.1, .int .i64 V.a.2, .int .i64 V.b.1, .int .i64 V.b.2, .bool V.ok, .int .i64 W.a.1, .int .i64 W.a.2, .int .i64 W.b.1, .int .i64 W.b.2, .bool W.ok]), .arr g22 61 ([.int .i64 M1.a.1, .int .i64 M1.a.2, .int .i64 W.b.1, .int .i64 W.b.2, .bool M1.ok])] := hm134
      clear hm134
      refine qNone rfl ?_
      refine plD ?_
      refine then_normal (hK132 _ _ ?_)
      refine plStart ?_
      refine lk (v := .pointer (some ⟨g22, 4, none⟩)) rfl rfl rfl ?_
      rcases bool_or (M1.ok) with h137 | h137
      · refine litVal (v := .bool false) rfl (wn rfl) (boolTo h137 (gLoad (v := .bool M1.ok) (k := 4) 5 hm136 rfl (by kernel_rfl) (.tmp 74) (by kernel_rfl) rfl (litEv (by kernel_rfl)))) rfl (by decide) ?_
        refine lk (v := .bool false) rfl rfl rfl ?_
        refine plSkip (i := 3) rfl (wgN rfl rfl rfl (by decide) (by kernel_rfl)) ?_
        refine qP rfl ?_
        refine plSkip (i := 4) rfl (wgN rfl rfl rfl (by decide) (by kernel_rfl)) ?_
        refine qP rfl ?_
        refine plSkip (i := 5) rfl (wgN rfl rfl rfl (by decide) (by kernel_rfl)) ?_
        refine qP rfl ?_
        refine plSkip (i := 6) rfl (wgN rfl rfl rfl (by decide) (by kernel_rfl)) ?_
        refine qP rfl ?_
        refine plSkip (i := 7) rfl (wgN rfl rfl rfl (by decide) (by kernel_rfl)) ?_
        refine qP rfl ?_
        refine lk (v := .bool false) rfl rfl rfl ?_
        refine lk (v := .pointer (some ⟨g22, 4, none⟩)) rfl rfl rfl ?_
        refine plStore1 (v := .bool false) (k := 4) 5 (by kernel_rfl) hm136 rfl (i := 10) rfl (wn rfl) rfl (litEv (by kernel_rfl)) (litEv (by kernel_rfl)) rfl rfl rfl ?_
        intro w139 hm138
        clear hm136
        try simp only [List.cons_append, List.nil_append, List.set_cons_succ, List.set_cons_zero] at hm138
        refine qNone rfl ?_
        refine plD ?_
        refine inBlock_normal ?_
        refine then_normal ?_
        have e_ : bts M2 = [.int .i64 M1.a.1, .int .i64 M1.a.2, .int .i64 W.b.1, .int .i64 W.b.2, .bool false] := by rw [← hM2]; simp [Btw.meet, bts, tcs, h113, h121, h137]
        exact ⟨⟨litSize, rfl, ⟨litGet (by kernel_rfl), ⟨litGet (by kernel_rfl), ⟨litGet (by kernel_rfl), ⟨litGet (by kernel_rfl), ⟨litGet (by kernel_rfl), ⟨litGet (by kernel_rfl), ⟨litGet (by kernel_rfl), ⟨litGet (by kernel_rfl), trivial⟩⟩⟩⟩⟩⟩⟩⟩⟩, (by rw [e_]; exact hm138)⟩
      refine litVal (v := .bool true) rfl (wn rfl) (boolTo h137 (gLoad (v := .bool M1.ok) (k := 4) 5 hm136 rfl (by kernel_rfl) (.tmp 74) (by kernel_rfl) rfl (litEv (by kernel_rfl)))) rfl (by decide) ?_
      refine lk (v := .bool true) rfl rfl rfl ?_
      refine litVal (v := .slice (some ⟨g19, 0, none⟩) 3 3) rfl (wgY rfl rfl rfl (by decide) (by kernel_rfl)) (litRun (by kernel_rfl)) rfl (by decide) ?_
      refine litVal (v := .int .i64 2) rfl (wgY rfl rfl rfl (by decide) (by kernel_rfl)) (litRun (by kernel_rfl)) rfl (by decide) ?_
      refine litVal (v := .pointer (some ⟨g19, 10, none⟩)) rfl (wgY rfl rfl rfl (by decide) (by kernel_rfl)) (gIaSl (b := g19) (off := 0) (n := 3) (c := 3) (kk := .i64) (K := 2) (.tmp 77) (.tmp 78) 2 Ty.sl_L_voxelref42_Between rfl (litEv (by kernel_rfl)) (litEv (by kernel_rfl)) rfl (by decide)) rfl (by decide) ?_
      refine litVal (v := .pointer (some ⟨g19, 14, none⟩)) rfl (wgY rfl rfl rfl (by decide) (by kernel_rfl)) (litRun (by kernel_rfl)) rfl (by decide) ?_
      rcases bool_or (W.ok) with h140 | h140
      · refine litVal (v := .bool false) rfl (wgY rfl rfl rfl (by decide) (by kernel_rfl)) (boolTo h140 (gLoad (v := .bool W.ok) (k := 14) 4 hm136 rfl (by kernel_rfl) (.tmp 80) (by kernel_rfl) rfl (litEv (by kernel_rfl)))) rfl (by decide) ?_
        refine lk (v := .bool false) rfl rfl rfl ?_
        refine lk (v := .pointer (some ⟨g22, 4, none⟩)) rfl rfl rfl ?_
        refine plStore1 (v := .bool false) (k := 4) 5 (by kernel_rfl) hm136 rfl (i := 10) rfl (wn rfl) rfl (litEv (by kernel_rfl)) (litEv (by kernel_rfl)) rfl rfl rfl ?_
        intro w142 hm141
        clear hm136
        try simp only [List.cons_append, List.nil_append, List.set_cons_succ, List.set_cons_zero] at hm141
        refine qNone rfl ?_
        refine plD ?_
        refine inBlock_normal ?_
        refine then_normal ?_
        have e_ : bts M2 = [.int .i64 M1.a.1, .int .i64 M1.a.2, .int .i64 W.b.1, .int .i64 W.b.2, .bool false] := by rw [← hM2]; simp [Btw.meet, bts, tcs, h113, h121, h137, h140]
        exact ⟨⟨litSize, rfl, ⟨litGet (by kernel_rfl), ⟨litGet (by kernel_rfl), ⟨litGet (by kernel_rfl), ⟨litGet (by kernel_rfl), ⟨litGet (by kernel_rfl), ⟨litGet (by kernel_rfl), ⟨litGet (by kernel_rfl), ⟨litGet (by kernel_rfl), trivial⟩⟩⟩⟩⟩⟩⟩⟩⟩, (by rw [e_]; exact hm141)⟩
      refine litVal (v := .bool true) rfl (wgY rfl rfl rfl (by decide) (by kernel_rfl)) (boolTo h140 (gLoad (v := .bool W.ok) (k := 14) 4 hm136 rfl (by kernel_rfl) (.tmp 80) (by kernel_rfl) rfl (litEv (by kernel_rfl)))) rfl (by decide) ?_
      refine lk (v := .bool true) rfl rfl rfl ?_
      refine lk (v := .pointer (some ⟨g22, 4, none⟩)) rfl rfl rfl ?_
      refine plStore1 (v := .bool true) (k := 4) 5 (by kernel_rfl) hm136 rfl (i := 10) rfl (wn rfl) rfl (litEv (by kernel_rfl)) (litEv (by kernel_rfl)) rfl rfl rfl ?_
      intro w144 hm143
      clear hm136
      try simp only [List.cons_append, List.nil_append, List.set_cons_succ, List.set_cons_zero] at hm143
      refine qNone rfl ?_
      refine plD ?_
      refine inBlock_normal ?_
      refine then_normal ?_
      have e_ : bts M2 = [.int .i64 M1.a.1, .int .i64 M1.a.2, .int .i64 W.b.1, .int .i64 W.b.2, .bool true] := by rw [← hM2]; simp [Btw.meet, bts, tcs, h113, h121, h137, h140]
      exact ⟨⟨litSize, rfl, ⟨litGet (by kernel_rfl), ⟨litGet (by kernel_rfl), ⟨litGet (by kernel_rfl), ⟨litGet (by kernel_rfl), ⟨litGet (by kernel_rfl), ⟨litGet (by kernel_rfl), ⟨litGet (by kernel_rfl), ⟨litGet (by kernel_rfl), trivial⟩⟩⟩⟩⟩⟩⟩⟩⟩, (by rw [e_]; exact hm143)⟩
    rw [h113]
    refine mk_ (i := 8) (v := .bool true) rfl rfl (fun _ _ _ h => h) hm112 rfl ?_
    refine mgDone (by kernel_rfl) ?_
    refine then_normal (hK108 _ _ ?_)
    refine wp_seq_k fun K145 hK145 => ?_
    refine wp_seq_k fun K146 hK146 => ?_
    refine plStart ?_
    refine lk (v := .bool true) rfl rfl rfl ?_
    refine plD ?_
    refine then_normal (hK146 _ _ ?_)
    refine wp_cond_true (litEv (by kernel_rfl)) ?_
    refine plStart ?_
    refine lk (v := .slice (some ⟨g19, 0, none⟩) 3 3) rfl rfl rfl ?_
    refine lk (v := .int .i64 2) rfl rfl rfl ?_
    refine litVal (v := .pointer (some ⟨g19, 10, none⟩)) rfl (wn rfl) (gIaSl (b := g19) (off := 0) (n := 3) (c := 3) (kk := .i64) (K := 2) (.tmp 53) (.tmp 54) 2 Ty.sl_L_voxelref42_Between rfl (litEv (by kernel_rfl)) (litEv (by kernel_rfl)) rfl (by decide)) rfl (by decide) ?_
    refine lk (v := .pointer (some ⟨g19, 10, none⟩)) rfl rfl rfl ?_
    refine litVal (v := .agg (tcs W.a).toArray) rfl (wn rfl) (gLoadAg (vs := tcs W.a) (k := 10) 4 hm112 rfl (by kernel_rfl) (by kernel_rfl) (.tmp 56) Ty.ag_voxel_voxelref42_Time rfl (litEv (by kernel_rfl))) rfl (by decide) ?_
    refine lk (v := .pointer (some ⟨g22, 0, none⟩)) rfl rfl rfl ?_
    refine plStoreAt 5 Ty.ag_voxel_voxelref42_Time hm112 rfl (i := 6) (cs := tcs W.a) (k := 0) rfl (wn rfl) rfl (litEv (by kernel_rfl)) (litEv (by kernel_rfl)) (by kernel_rfl) rfl (by kernel_rfl) ?_
    intro w148 hm147
    clear hm112
    have hm149 : Mem w w148 [.arr g2 23 (pcs a), .arr g5 23 (pcs b), .arr g8 23 (pcs c), .arr g11 61 ([.int .i64 0, .int .i64 0, .int .i64 0, .int .i64 0, .bool false]), .arr g19 61 ([.int .i64 U.a.1, .int .i64 U.a.2, .int .i64 U.b.1, .int .i64 U.b.2, .bool U.ok, .int .i64 V.a.1, .int .i64 V.a.2, .int .i64 V.b.1, .int .i64 V.b.2, .bool V.ok, .int .i64 W.a.1, .int .i64 W.a.2, .int .i64 W.b.1, .int .i64 W.b.2, .bool W.ok]), .arr g22 61 ([.int .i64 W.a.1, .int .i64 W.a.2, .int .i64 M1.b.1, .int .i64 M1.b.2, .bool M1.ok])] := hm147
    clear hm147
    refine qNone rfl ?_
    refine plD ?_
    refine then_normal (hK145 _ _ ?_)
    refine wp_seq_k fun K150 hK150 => ?_
    refine mgStart hm149 (by kernel_rfl) ?_
    intro w152 hm151
    clear hm149
    refine mk_ (i := 0) (v := .slice (some ⟨g19, 0, none⟩) 3 3) rfl rfl (fun _ _ _ h => h) hm151 rfl ?_
    refine mk_ (i := 1) (v := .int .i64 2) rfl rfl (fun _ _ _ h => h) hm151 rfl ?_
    refine mgTake (i := 2) (v := .pointer (some ⟨g19, 10, none⟩)) rfl (by kernel_rfl) (wn rfl) (fun _ _ _ h => h) hm151 (fun w_ h_ => gIaSl (b := g19) (off := 0) (n := 3) (c := 3) (kk := .i64) (K := 2) (.tmp 59) (.tmp 60) 2 Ty.sl_L_voxelref42_Between rfl (litEv (by kernel_rfl)) (litEv (by kernel_rfl)) rfl (by decide)) ?_
    refine mP rfl ?_
    refine mk_ (i := 3) (v := .pointer (some ⟨g19, 12, none⟩)) rfl rfl (fun _ _ _ h => h) hm151 rfl ?_
    refine mgTake (i := 4) (v := .agg (tcs W.b).toArray) rfl (by kernel_rfl) (wn rfl) (fun _ _ _ h => h) hm151 (fun w_ h_ => gLoadAg (vs := tcs W.b) (k := 12) 4 h_ rfl (by kernel_rfl) (by kernel_rfl) (.tmp 62) Ty.ag_voxel_voxelref42_Time rfl (litEv (by kernel_rfl))) ?_
    refine mP rfl ?_
    refine mk_ (i := 5) (v := .pointer (some ⟨g22, 2, none⟩)) rfl rfl (fun _ _ _ h => h) hm151 rfl ?_
    refine mgTake (i := 6) (v := .agg (tcs M1.b).toArray) rfl (by kernel_rfl) (wn rfl) (fun _ _ _ h => h) hm151 (fun w_ h_ => gLoadAg (vs := tcs M1.b) (k := 2) 5 h_ rfl (by kernel_rfl) (by kernel_rfl) (.tmp 64) Ty.ag_voxel_voxelref42_Time rfl (litEv (by kernel_rfl))) ?_
    refine mP rfl ?_
    refine mgCall (i := 7) 34 [.agg (tcs W.b).toArray, .agg (tcs M1.b).toArray] [] [] (by kernel_rfl) rfl (by kernel_rfl) (wn rfl) rfl (litEv (by kernel_rfl)) (litArgs (by kernel_rfl)) (less_any W.b M1.b sW.2 sM1.2 _) ?_
    rintro e w153 ⟨rfl, hbz⟩
    have hm154 := hm151.below hbz
    clear hbz hm151
    refine ⟨_, rfl, hm154, ?_⟩
    refine mP rfl ?_
    rcases bool_or (tltb W.b M1.b) with h155 | h155
    · rw [h155]
      refine mk_ (i := 8) (v := .bool false) rfl rfl (fun _ _ _ h => h) hm154 rfl ?_
      refine mgDone (by kernel_rfl) ?_
      refine then_normal (hK150 _ _ ?_)
      refine wp_seq_k fun K156 hK156 => ?_
      refine wp_seq_k fun K157 hK157 => ?_
      refine plStart ?_
      refine lk (v := .bool false) rfl rfl rfl ?_
      refine plD ?_
      refine then_normal (hK157 _ _ ?_)
      refine wp_cond_false (litEv (by kernel_rfl)) ?_
      refine wp_skip ?_
      refine then_normal (hK156 _ _ ?_)
      refine plStart ?_
      refine lk (v := .pointer (some ⟨g22, 4, none⟩)) rfl rfl rfl ?_
      rcases bool_or (M1.ok) with h158 | h158
      · refine litVal (v := .bool false) rfl (wn rfl) (boolTo h158 (gLoad (v := .bool M1.ok) (k := 4) 5 hm154 rfl (by kernel_rfl) (.tmp 74) (by kernel_rfl) rfl (litEv (by kernel_rfl)))) rfl (by decide) ?_
        refine lk (v := .bool false) rfl rfl rfl ?_
        refine plSkip (i := 3) rfl (wgN rfl rfl rfl (by decide) (by kernel_rfl)) ?_
        refine qP rfl ?_
        refine plSkip (i := 4) rfl (wgN rfl rfl rfl (by decide) (by kernel_rfl)) ?_
        refine qP rfl ?_
        refine plSkip (i := 5) rfl (wgN rfl rfl rfl (by decide) (by kernel_rfl)) ?_
        refine qP rfl ?_
        refine plSkip (i := 6) rfl (wgN rfl rfl rfl (by decide) (by kernel_rfl)) ?_
        refine qP rfl ?_
        refine plSkip (i := 7) rfl (wgN rfl rfl rfl (by decide) (by kernel_rfl)) ?_
        refine qP rfl ?_
        refine lk (v := .bool false) rfl rfl rfl ?_
        refine lk (v := .pointer (some ⟨g22, 4, none⟩)) rfl rfl rfl ?_
        refine plStore1 (v := .bool false) (k := 4) 5 (by kernel_rfl) hm154 rfl (i := 10) rfl (wn rfl) rfl (litEv (by kernel_rfl)) (litEv (by kernel_rfl)) rfl rfl rfl ?_
        intro w160 hm159
        clear hm154
        try simp only [List.cons_append, List.nil_append, List.set_cons_succ, List.set_cons_zero] at hm159
        refine qNone rfl ?_
        refine plD ?_
        refine inBlock_normal ?_
        refine then_normal ?_
        have e_ : bts M2 = [.int .i64 W.a.1, .int .i64 W.a.2, .int .i64 M1.b.1, .int .i64 M1.b.2, .bool false] := by rw [← hM2]; simp [Btw.meet, bts, tcs, h113, h155, h158]
        exact ⟨⟨litSize, rfl, ⟨litGet (by kernel_rfl), ⟨litGet (by kernel_rfl), ⟨litGet (by kernel_rfl), ⟨litGet (by kernel_rfl), ⟨litGet (by kernel_rfl), ⟨litGet (by kernel_rfl), ⟨litGet (by kernel_rfl), ⟨litGet (by kernel_rfl), trivial⟩⟩⟩⟩⟩⟩⟩⟩⟩, (by rw [e_]; exact hm159)⟩
      refine litVal (v := .bool true) rfl (wn rfl) (boolTo h158 (gLoad (v := .bool M1.ok) (k := 4) 5 hm154 rfl (by kernel_rfl) (.tmp 74) (by kernel_rfl) rfl (litEv (by kernel_rfl)))) rfl (by decide) ?_
      refine lk (v := .bool true) rfl rfl rfl ?_
      refine litVal (v := .slice (some ⟨g19, 0, none⟩) 3 3) rfl (wgY rfl rfl rfl (by decide) (by kernel_rfl)) (litRun (by kernel_rfl)) rfl (by decide) ?_
      refine litVal (v := .int .i64 2) rfl (wgY rfl rfl rfl (by decide) (by kernel_rfl)) (litRun (by kernel_rfl)) rfl (by decide) ?_
      refine litVal (v := .pointer (some ⟨g19, 10, none⟩)) rfl (wgY rfl rfl rfl (by decide) (by kernel_rfl)) (gIaSl (b := g19) (off := 0) (n := 3) (c := 3) (kk := .i64) (K := 2) (.tmp 77) (.tmp 78) 2 Ty.sl_L_voxelref42_Between rfl (litEv (by kernel_rfl)) (litEv (by kernel_rfl)) rfl (by decide)) rfl (by decide) ?_
      refine litVal (v := .pointer (some ⟨g19, 14, none⟩)) rfl (wgY rfl rfl rfl (by decide) (by kernel_rfl)) (litRun (by kernel_rfl)) rfl (by decide) ?_
      rcases bool_or (W.ok) with h161 | h161
      · refine litVal (v := .bool false) rfl (wgY rfl rfl rfl (by decide) (by kernel_rfl)) (boolTo h161 (gLoad (v := .bool W.ok) (k := 14) 4 hm154 rfl (by kernel_rfl) (.tmp 80) (by kernel_rfl) rfl (litEv (by kernel_rfl)))) rfl (by decide) ?_
        refine lk (v := .bool false) rfl rfl rfl ?_
        refine lk (v := .pointer (some ⟨g22, 4, none⟩)) rfl rfl rfl ?_
        refine plStore1 (v := .bool false) (k := 4) 5 (by kernel_rfl) hm154 rfl (i := 10) rfl (wn rfl) rfl (litEv (by kernel_rfl)) (litEv (by kernel_rfl)) rfl rfl rfl ?_
        intro w163 hm162
        clear hm154
        try simp only [List.cons_append, List.nil_append, List.set_cons_succ, List.set_cons_zero] at hm162
        refine qNone rfl ?_
        refine plD ?_
        refine inBlock_normal ?_
        refine then_normal ?_
        have e_ : bts M2 = [.int .i64 W.a.1, .int .i64 W.a.2, .int .i64 M1.b.1, .int .i64 M1.b.2, .bool false] := by rw [← hM2]; simp [Btw.meet, bts, tcs, h113, h155, h158, h161]
        exact ⟨⟨litSize, rfl, ⟨litGet (by kernel_rfl), ⟨litGet (by kernel_rfl), ⟨litGet (by kernel_rfl), ⟨litGet (by kernel_rfl), ⟨litGet (by kernel_rfl), ⟨litGet (by kernel_rfl), ⟨litGet (by kernel_rfl), ⟨litGet (by kernel_rfl), trivial⟩⟩⟩⟩⟩⟩⟩⟩⟩, (by rw [e_]; exact hm162)⟩
      refine litVal (v := .bool true) rfl (wgY rfl rfl rfl (by decide) (by kernel_rfl)) (boolTo h161 (gLoad (v := .bool W.ok) (k := 14) 4 hm154 rfl (by kernel_rfl) (.tmp 80) (by kernel_rfl) rfl (litEv (by kernel_rfl)))) rfl (by decide) ?_
      refine lk (v := .bool true) rfl rfl rfl ?_
      refine lk (v := .pointer (some ⟨g22, 4, none⟩)) rfl rfl rfl ?_
      refine plStore1 (v := .bool true) (k := 4) 5 (by kernel_rfl) hm154 rfl (i := 10) rfl (wn rfl) rfl (litEv (by kernel_rfl)) (litEv (by kernel_rfl)) rfl rfl rfl ?_
      intro w165 hm164
      clear hm154
      try simp only [List.cons_append, List.nil_append, List.set_cons_succ, List.set_cons_zero] at hm164
      refine qNone rfl ?_
      refine plD ?_
      refine inBlock_normal ?_
      refine then_normal ?_
      have e_ : bts M2 = [.int .i64 W.a.1, .int .i64 W.a.2, .int .i64 M1.b.1, .int .i64 M1.b.2, .bool true] := by rw [← hM2]; simp [Btw.meet, bts, tcs, h113, h155, h158, h161]
      exact ⟨⟨litSize, rfl, ⟨litGet (by kernel_rfl), ⟨litGet (by kernel_rfl), ⟨litGet (by kernel_rfl), ⟨litGet (by kernel_rfl), ⟨litGet (by kernel_rfl), ⟨litGet (by kernel_rfl), ⟨litGet (by kernel_rfl), ⟨litGet (by kernel_rfl), trivial⟩⟩⟩⟩⟩⟩⟩⟩⟩, (by rw [e_]; exact hm164)⟩
    rw [h155]
    refine mk_ (i := 8) (v := .bool true) rfl rfl (fun _ _ _ h => h) hm154 rfl ?_
    refine mgDone (by kernel_rfl) ?_
    refine then_normal (hK150 _ _ ?_)
    refine wp_seq_k fun K166 hK166 => ?_
    refine wp_seq_k fun K167 hK167 => ?_
    refine plStart ?_
    refine lk (v := .bool true) rfl rfl rfl ?_
    refine plD ?_
    refine then_normal (hK167 _ _ ?_)
    refine wp_cond_true (litEv (by kernel_rfl)) ?_
    refine plStart ?_
    refine lk (v := .slice (some ⟨g19, 0, none⟩) 3 3) rfl rfl rfl ?_
    refine lk (v := .int .i64 2) rfl rfl rfl ?_
    refine litVal (v := .pointer (some ⟨g19, 10, none⟩)) rfl (wn rfl) (gIaSl (b := g19) (off := 0) (n := 3) (c := 3) (kk := .i64) (K := 2) (.tmp 68) (.tmp 69) 2 Ty.sl_L_voxelref42_Between rfl (litEv (by kernel_rfl)) (litEv (by kernel_rfl)) rfl (by decide)) rfl (by decide) ?_
    refine lk (v := .pointer (some ⟨g19, 12, none⟩)) rfl rfl rfl ?_
    refine litVal (v := .agg (tcs W.b).toArray) rfl (wn rfl) (gLoadAg (vs := tcs W.b) (k := 12) 4 hm154 rfl (by kernel_rfl) (by kernel_rfl) (.tmp 71) Ty.ag_voxel_voxelref42_Time rfl (litEv (by kernel_rfl))) rfl (by decide) ?_
    refine lk (v := .pointer (some ⟨g22, 2, none⟩)) rfl rfl rfl ?_
    refine plStoreAt 5 Ty.ag_voxel_voxelref42_Time hm154 rfl (i := 6) (cs := tcs W.b) (k := 2) rfl (wn rfl) rfl (litEv (by kernel_rfl)) (litEv (by kernel_rfl)) (by kernel_rfl) rfl (by kernel_rfl) ?_
    intro w169 hm168
    clear hm154
    have hm170 : Mem w w169 [.arr g2 23 (pcs a), .arr g5 23 (pcs b), .arr g8 23 (pcs c), .arr g11 61 ([.int .i64 0, .int .i64 0, .int .i64 0, .int .i64 0, .bool false]), .arr g19 61 ([.int .i64 U.a.1, .int .i64 U.a.2, .int .i64 U.b.1, .int .i64 U.b.2, .bool U.ok, .int .i64 V.a.1, .int .i64 V.a.2, .int .i64 V.b.1, .int .i64 V.b.2, .bool V.ok, .int .i64 W.a.1, .int .i64 W.a.2, .int .i64 W.b.1, .int .i64 W.b.2, .bool W.ok]), .arr g22 61 ([.int .i64 W.a.1, .int .i64 W.a.2, .int .i64 W.b.1, .int .i64 W.b.2, .bool M1.ok])] := hm168
    clear hm168
    refine qNone rfl ?_
    refine plD ?_
    refine then_normal (hK166 _ _ ?_)
    refine plStart ?_
    refine lk (v := .pointer (some ⟨g22, 4, none⟩)) rfl rfl rfl ?_
    rcases bool_or (M1.ok) with h171 | h171
    · refine litVal (v := .bool false) rfl (wn rfl) (boolTo h171 (gLoad (v := .bool M1.ok) (k := 4) 5 hm170 rfl (by kernel_rfl) (.tmp 74) (by kernel_rfl) rfl (litEv (by kernel_rfl)))) rfl (by decide) ?_
      refine lk (v := .bool false) rfl rfl rfl ?_
      refine plSkip (i := 3) rfl (wgN rfl rfl rfl (by decide) (by kernel_rfl)) ?_
      refine qP rfl ?_
      refine plSkip (i := 4) rfl (wgN rfl rfl rfl (by decide) (by kernel_rfl)) ?_
      refine qP rfl ?_
      refine plSkip (i := 5) rfl (wgN rfl rfl rfl (by decide) (by kernel_rfl)) ?_
      refine qP rfl ?_
      refine plSkip (i := 6) rfl (wgN rfl rfl rfl (by decide) (by kernel_rfl)) ?_
      refine qP rfl ?_
      refine plSkip (i := 7) rfl (wgN rfl rfl rfl (by decide) (by kernel_rfl)) ?_
      refine qP rfl ?_
      refine lk (v := .bool false) rfl rfl rfl ?_
      refine lk (v := .pointer (some ⟨g22, 4, none⟩)) rfl rfl rfl ?_
      refine plStore1 (v := .bool false) (k := 4) 5 (by kernel_rfl) hm170 rfl (i := 10) rfl (wn rfl) rfl (litEv (by kernel_rfl)) (litEv (by kernel_rfl)) rfl rfl rfl ?_
      intro w173 hm172
      clear hm170
      try simp only [List.cons_append, List.nil_append, List.set_cons_succ, List.set_cons_zero] at hm172
      refine qNone rfl ?_
      refine plD ?_
      refine inBlock_normal ?_
      refine then_normal ?_
      have e_ : bts M2 = [.int .i64 W.a.1, .int .i64 W.a.2, .int .i64 W.b.1, .int .i64 W.b.2, .bool false] := by rw [← hM2]; simp [Btw.meet, bts, tcs, h113, h155, h171]
      exact ⟨⟨litSize, rfl, ⟨litGet (by kernel_rfl), ⟨litGet (by kernel_rfl), ⟨litGet (by kernel_rfl), ⟨litGet (by kernel_rfl), ⟨litGet (by kernel_rfl), ⟨litGet (by kernel_rfl), ⟨litGet (by kernel_rfl), ⟨litGet (by kernel_rfl), trivial⟩⟩⟩⟩⟩⟩⟩⟩⟩, (by rw [e_]; exact hm172)⟩
    refine litVal (v := .bool true) rfl (wn rfl) (boolTo h171 (gLoad (v := .bool M1.ok) (k := 4) 5 hm170 rfl (by kernel_rfl) (.tmp 74) (by kernel_rfl) rfl (litEv (by kernel_rfl)))) rfl (by decide) ?_
    refine lk (v := .bool true) rfl rfl rfl ?_
    refine litVal (v := .slice (some ⟨g19, 0, none⟩) 3 3) rfl (wgY rfl rfl rfl (by decide) (by kernel_rfl)) (litRun (by kernel_rfl)) rfl (by decide) ?_
    refine litVal (v := .int .i64 2) rfl (wgY rfl rfl rfl (by decide) (by kernel_rfl)) (litRun (by kernel_rfl)) rfl (by decide) ?_
    refine litVal (v := .pointer (some ⟨g19, 10, none⟩)) rfl (wgY rfl rfl rfl (by decide) (by kernel_rfl)) (gIaSl (b := g19) (off := 0) (n := 3) (c := 3) (kk := .i64) (K := 2) (.tmp 77) (.tmp 78) 2 Ty.sl_L_voxelref42_Between rfl (litEv (by kernel_rfl)) (litEv (by kernel_rfl)) rfl (by decide)) rfl (by decide) ?_
    refine litVal (v := .pointer (some ⟨g19, 14, none⟩)) rfl (wgY rfl rfl rfl (by decide) (by kernel_rfl)) (litRun (by kernel_rfl)) rfl (by decide) ?_
    rcases bool_or (W.ok) with h174 | h174
    · refine litVal (v := .bool false) rfl (wgY rfl rfl rfl (by decide) (by kernel_rfl)) (boolTo h174 (gLoad (v := .bool W.ok) (k := 14) 4 hm170 rfl (by kernel_rfl) (.tmp 80) (by kernel_rfl) rfl (litEv (by kernel_rfl)))) rfl (by decide) ?_
      refine lk (v := .bool false) rfl rfl rfl ?_
      refine lk (v := .pointer (some ⟨g22, 4, none⟩)) rfl rfl rfl ?_
      refine plStore1 (v := .bool false) (k := 4) 5 (by kernel_rfl) hm170 rfl (i := 10) rfl (wn rfl) rfl (litEv (by kernel_rfl)) (litEv (by kernel_rfl)) rfl rfl rfl ?_
      intro w176 hm175
      clear hm170
      try simp only [List.cons_append, List.nil_append, List.set_cons_succ, List.set_cons_zero] at hm175
      refine qNone rfl ?_
      refine plD ?_
      refine inBlock_normal ?_
      refine then_normal ?_
      have e_ : bts M2 = [.int .i64 W.a.1, .int .i64 W.a.2, .int .i64 W.b.1, .int .i64 W.b.2, .bool false] := by rw [← hM2]; simp [Btw.meet, bts, tcs, h113, h155, h171, h174]
      exact ⟨⟨litSize, rfl, ⟨litGet (by kernel_rfl), ⟨litGet (by kernel_rfl), ⟨litGet (by kernel_rfl), ⟨litGet (by kernel_rfl), ⟨litGet (by kernel_rfl), ⟨litGet (by kernel_rfl), ⟨litGet (by kernel_rfl), ⟨litGet (by kernel_rfl), trivial⟩⟩⟩⟩⟩⟩⟩⟩⟩, (by rw [e_]; exact hm175)⟩
    refine litVal (v := .bool true) rfl (wgY rfl rfl rfl (by decide) (by kernel_rfl)) (boolTo h174 (gLoad (v := .bool W.ok) (k := 14) 4 hm170 rfl (by kernel_rfl) (.tmp 80) (by kernel_rfl) rfl (litEv (by kernel_rfl)))) rfl (by decide) ?_
    refine lk (v := .bool true) rfl rfl rfl ?_
    refine lk (v := .pointer (some ⟨g22, 4, none⟩)) rfl rfl rfl ?_
    refine plStore1 (v := .bool true) (k := 4) 5 (by kernel_rfl) hm170 rfl (i := 10) rfl (wn rfl) rfl (litEv (by kernel_rfl)) (litEv (by kernel_rfl)) rfl rfl rfl ?_
    intro w178 hm177
    clear hm170
    try simp only [List.cons_append, List.nil_append, List.set_cons_succ, List.set_cons_zero] at hm177
    refine qNone rfl ?_
    refine plD ?_
    refine inBlock_normal ?_
    refine then_normal ?_
    have e_ : bts M2 = [.int .i64 W.a.1, .int .i64 W.a.2, .int .i64 W.b.1, .int .i64 W.b.2, .bool true] := by rw [← hM2]; simp [Btw.meet, bts, tcs, h113, h155, h171, h174]
    exact ⟨⟨litSize, rfl, ⟨litGet (by kernel_rfl), ⟨litGet (by kernel_rfl), ⟨litGet (by kernel_rfl), ⟨litGet (by kernel_rfl), ⟨litGet (by kernel_rfl), ⟨litGet (by kernel_rfl), ⟨litGet (by kernel_rfl), ⟨litGet (by kernel_rfl), trivial⟩⟩⟩⟩⟩⟩⟩⟩⟩, (by rw [e_]; exact hm177)⟩
  clear hm103
  intro a181 w179 hI_
  obtain ⟨hF_, hm180⟩ := hI_
  obtain ⟨X182, rfl⟩ := frLit hF_
  clear hF_
  refine plStart ?_
  refine lk (v := .int .i64 2) rfl rfl rfl ?_
  refine lk (v := .int .i64 3) rfl rfl rfl ?_
  refine lk (v := .int .i64 3) rfl rfl rfl ?_
  refine plD ?_
  refine then_normal (roundsNext ?_)
  refine wp_seq_k fun K183 hK183 => ?_
  refine wp_seq_k fun K184 hK184 => ?_
  refine plStart ?_
  refine lk (v := .int .i64 3) rfl rfl rfl ?_
  refine lk (v := .bool false) rfl rfl rfl ?_
  refine plD ?_
  refine then_normal (hK184 _ _ ?_)
  refine wp_cond_false (litEv (by kernel_rfl)) ?_
  refine wp_exit ?_
  refine then_exit ?_
  refine then_exit ?_
  refine inBlock_exit ?_
  refine then_normal (hK27 _ _ ?_)
  refine wp_seq_k fun K185 hK185 => ?_
  refine plStart ?_
  refine lk (v := .pointer (some ⟨g22, 0, none⟩)) rfl rfl rfl ?_
  refine litVal (v := .agg (tcs M2.a).toArray) rfl (wn rfl) (gLoadAg (vs := tcs M2.a) (k := 0) 5 hm180 rfl (by kernel_rfl) (by kernel_rfl) (.tmp 84) Ty.ag_voxel_voxelref42_Time rfl (litEv (by kernel_rfl))) rfl (by decide) ?_
  refine lk (v := .pointer (some ⟨g22, 2, none⟩)) rfl rfl rfl ?_
  refine litVal (v := .agg (tcs M2.b).toArray) rfl (wn rfl) (gLoadAg (vs := tcs M2.b) (k := 2) 5 hm180 rfl (by kernel_rfl) (by kernel_rfl) (.tmp 86) Ty.ag_voxel_voxelref42_Time rfl (litEv (by kernel_rfl))) rfl (by decide) ?_
  refine plCall (i := 4) 34 [.agg (tcs M2.a).toArray, .agg (tcs M2.b).toArray] [] [] rfl (by kernel_rfl) (wn rfl) rfl (litEv (by kernel_rfl)) (litArgs (by kernel_rfl)) (less_any M2.a M2.b sM2.1 sM2.2 _) ?_
  rintro e w186 ⟨rfl, hbz⟩
  have hm187 := hm180.below hbz
  clear hbz hm180
  refine ⟨_, rfl, ?_⟩
  refine qP rfl ?_
  rcases bool_or (tltb M2.a M2.b) with h188 | h188
  · rw [h188]
    refine lk (v := .bool false) rfl rfl rfl ?_
    refine plD ?_
    refine then_normal (hK185 _ _ ?_)
    refine wpPrune [(6, .pointer (some ⟨g11, 0, none⟩)), (8, .pointer (some ⟨g22, 0, none⟩)), (12, .bool false)] ⟨litGet (by kernel_rfl), ⟨litGet (by kernel_rfl), ⟨litGet (by kernel_rfl), trivial⟩⟩⟩ (fun X189 => ?_)
    refine wp_seq_k fun K190 hK190 => ?_
    refine plStart ?_
    refine lk (v := .pointer (some ⟨g22, 0, none⟩)) rfl rfl rfl ?_
    refine litVal (v := .agg (tcs M2.a).toArray) rfl (wn rfl) (gLoadAg (vs := tcs M2.a) (k := 0) 5 hm187 rfl (by kernel_rfl) (by kernel_rfl) (.tmp 89) Ty.ag_voxel_voxelref42_Time rfl (litEv (by kernel_rfl))) rfl (by decide) ?_
    refine lk (v := .agg (tcs (1, 1)).toArray) rfl rfl rfl ?_
    refine plCall (i := 3) 34 [.agg (tcs M2.a).toArray, .agg (tcs (1, 1)).toArray] [] [] rfl (by kernel_rfl) (wn rfl) rfl (litEv (by kernel_rfl)) (litArgs (by kernel_rfl)) (less_any M2.a (1, 1) sM2.1 (tsm_lit (by decide) (by decide)) _) ?_
    rintro e w191 ⟨rfl, hbz⟩
    have hm192 := hm187.below hbz
    clear hbz hm187
    refine ⟨_, rfl, ?_⟩
    refine qP rfl ?_
    rcases bool_or (tltb M2.a (1, 1)) with h193 | h193
    · rw [h193]
      refine lk (v := .bool false) rfl rfl rfl ?_
      refine plD ?_
      refine then_normal (hK190 _ _ ?_)
      refine wp_seq_k fun K194 hK194 => ?_
      refine plStart ?_
      refine lk (v := .agg (tcs (0, 1)).toArray) rfl rfl rfl ?_
      refine lk (v := .pointer (some ⟨g22, 2, none⟩)) rfl rfl rfl ?_
      refine litVal (v := .agg (tcs M2.b).toArray) rfl (wn rfl) (gLoadAg (vs := tcs M2.b) (k := 2) 5 hm192 rfl (by kernel_rfl) (by kernel_rfl) (.tmp 94) Ty.ag_voxel_voxelref42_Time rfl (litEv (by kernel_rfl))) rfl (by decide) ?_
      refine plCall (i := 3) 34 [.agg (tcs (0, 1)).toArray, .agg (tcs M2.b).toArray] [] [] rfl (by kernel_rfl) (wn rfl) rfl (litEv (by kernel_rfl)) (litArgs (by kernel_rfl)) (less_any (0, 1) M2.b (tsm_lit (by decide) (by decide)) sM2.2 _) ?_
      rintro e w195 ⟨rfl, hbz⟩
      have hm196 := hm192.below hbz
      clear hbz hm192
      refine ⟨_, rfl, ?_⟩
      refine qP rfl ?_
      rcases bool_or (tltb (0, 1) M2.b) with h197 | h197
      · rw [h197]
        refine lk (v := .bool false) rfl rfl rfl ?_
        refine plD ?_
        refine then_normal (hK194 _ _ ?_)
        refine wp_seq_k fun K198 hK198 => ?_
        refine plStart ?_
        refine lk (v := .pointer (some ⟨g22, 4, none⟩)) rfl rfl rfl ?_
        rcases bool_or (M2.ok) with h199 | h199
        · refine litVal (v := .bool false) rfl (wn rfl) (boolTo h199 (gLoad (v := .bool M2.ok) (k := 4) 5 hm196 rfl (by kernel_rfl) (.tmp 97) (by kernel_rfl) rfl (litEv (by kernel_rfl)))) rfl (by decide) ?_
          refine lk (v := .bool false) rfl rfl rfl ?_
          refine plSkip (i := 3) rfl (wgN rfl rfl rfl (by decide) (by kernel_rfl)) ?_
          refine qP rfl ?_
          refine lk (v := .bool false) rfl rfl rfl ?_
          refine lk (v := .bool false) rfl rfl rfl ?_
          refine plSkip (i := 6) rfl (wgN rfl rfl rfl (by decide) (by kernel_rfl)) ?_
          refine qP rfl ?_
          refine lk (v := .bool false) rfl rfl rfl ?_
          refine lk (v := .bool false) rfl rfl rfl ?_
          refine plSkip (i := 9) rfl (wgN rfl rfl rfl (by decide) (by kernel_rfl)) ?_
          refine qP rfl ?_
          refine lk (v := .bool false) rfl rfl rfl ?_
          refine lk (v := .pointer (some ⟨g22, 4, none⟩)) rfl rfl rfl ?_
          refine plStore1 (v := .bool false) (k := 4) 5 (by kernel_rfl) hm196 rfl (i := 12) rfl (wn rfl) rfl (litEv (by kernel_rfl)) (litEv (by kernel_rfl)) rfl rfl rfl ?_
          intro w201 hm200
          clear hm196
          try simp only [List.cons_append, List.nil_append, List.set_cons_succ, List.set_cons_zero] at hm200
          refine qNone rfl ?_
          refine plD ?_
          refine then_normal (hK198 _ _ ?_)
          refine wpPrune [(6, .pointer (some ⟨g11, 0, none⟩)), (8, .pointer (some ⟨g22, 0, none⟩))] ⟨litGet (by kernel_rfl), ⟨litGet (by kernel_rfl), trivial⟩⟩ (fun X202 => ?_)
          refine wp_seq_k fun K203 hK203 => ?_
          refine plStart ?_
          refine litVal (v := .agg ([.int .i64 M2.a.1, .int .i64 M2.a.2, .int .i64 M2.b.1, .int .i64 M2.b.2, .bool false]).toArray) rfl (wn rfl) (gLoadAg (vs := [.int .i64 M2.a.1, .int .i64 M2.a.2, .int .i64 M2.b.1, .int .i64 M2.b.2, .bool false]) (k := 0) 5 hm200 rfl (by kernel_rfl) (by kernel_rfl) (.tmp 8) Ty.ag_voxel_voxelref42_Between rfl (litEv (by kernel_rfl))) rfl (by decide) ?_
          refine plStore 3 Ty.ag_voxel_voxelref42_Between hm200 rfl (i := 1) (cs := [.int .i64 M2.a.1, .int .i64 M2.a.2, .int .i64 M2.b.1, .int .i64 M2.b.2, .bool false]) rfl (wn rfl) rfl (litEv (by kernel_rfl)) (litEv (by kernel_rfl)) rfl rfl (by kernel_rfl) ?_
          intro w205 hm204
          clear hm200
          try simp only [List.cons_append, List.nil_append, List.set_cons_succ, List.set_cons_zero] at hm204
          refine qNone rfl ?_
          refine plD ?_
          refine then_normal (hK203 _ _ ?_)
          refine wp_ret ?_
          refine bodyPost_ret (v := .agg ([.int .i64 M2.a.1, .int .i64 M2.a.2, .int .i64 M2.b.1, .int .i64 M2.b.2, .bool false]).toArray) (gRes1 rfl (gResAg (cs := [.int .i64 M2.a.1, .int .i64 M2.a.2, .int .i64 M2.b.1, .int .i64 M2.b.2, .bool false]) 3 hm204 rfl Ty.ag_voxel_voxelref42_Between rfl (litGet (by kernel_rfl)))) rfl ?_
          exact ⟨by rw [hI]; simp [Btw.fin, bts, tcs, h188, h193, h197, h199], hm204.bel⟩
        refine litVal (v := .bool true) rfl (wn rfl) (boolTo h199 (gLoad (v := .bool M2.ok) (k := 4) 5 hm196 rfl (by kernel_rfl) (.tmp 97) (by kernel_rfl) rfl (litEv (by kernel_rfl)))) rfl (by decide) ?_
        refine lk (v := .bool true) rfl rfl rfl ?_
        refine litVal (v := .bool false) rfl (wgY rfl rfl rfl (by decide) (by kernel_rfl)) (litRun (by kernel_rfl)) rfl (by decide) ?_
        refine lk (v := .bool false) rfl rfl rfl ?_
        refine lk (v := .bool false) rfl rfl rfl ?_
        refine plSkip (i := 6) rfl (wgN rfl rfl rfl (by decide) (by kernel_rfl)) ?_
        refine qP rfl ?_
        refine lk (v := .bool false) rfl rfl rfl ?_
        refine lk (v := .bool false) rfl rfl rfl ?_
        refine plSkip (i := 9) rfl (wgN rfl rfl rfl (by decide) (by kernel_rfl)) ?_
        refine qP rfl ?_
        refine lk (v := .bool false) rfl rfl rfl ?_
        refine lk (v := .pointer (some ⟨g22, 4, none⟩)) rfl rfl rfl ?_
        refine plStore1 (v := .bool false) (k := 4) 5 (by kernel_rfl) hm196 rfl (i := 12) rfl (wn rfl) rfl (litEv (by kernel_rfl)) (litEv (by kernel_rfl)) rfl rfl rfl ?_
        intro w207 hm206
        clear hm196
        try simp only [List.cons_append, List.nil_append, List.set_cons_succ, List.set_cons_zero] at hm206
        refine qNone rfl ?_
        refine plD ?_
        refine then_normal (hK198 _ _ ?_)
        refine wpPrune [(6, .pointer (some ⟨g11, 0, none⟩)), (8, .pointer (some ⟨g22, 0, none⟩))] ⟨litGet (by kernel_rfl), ⟨litGet (by kernel_rfl), trivial⟩⟩ (fun X208 => ?_)
        refine wp_seq_k fun K209 hK209 => ?_
        refine plStart ?_
        refine litVal (v := .agg ([.int .i64 M2.a.1, .int .i64 M2.a.2, .int .i64 M2.b.1, .int .i64 M2.b.2, .bool false]).toArray) rfl (wn rfl) (gLoadAg (vs := [.int .i64 M2.a.1, .int .i64 M2.a.2, .int .i64 M2.b.1, .int .i64 M2.b.2, .bool false]) (k := 0) 5 hm206 rfl (by kernel_rfl) (by kernel_rfl) (.tmp 8) Ty.ag_voxel_voxelref42_Between rfl (litEv (by kernel_rfl))) rfl (by decide) ?_
        refine plStore 3 Ty.ag_voxel_voxelref42_Between hm206 rfl (i := 1) (cs := [.int .i64 M2.a.1, .int .i64 M2.a.2, .int .i64 M2.b.1, .int .i64 M2.b.2, .bool false]) rfl (wn rfl) rfl (litEv (by kernel_rfl)) (litEv (by kernel_rfl)) rfl rfl (by kernel_rfl) ?_
        intro w211 hm210
        clear hm206
        try simp only [List.cons_append, List.nil_append, List.set_cons_succ, List.set_cons_zero] at hm210
        refine qNone rfl ?_
        refine plD ?_
        refine then_normal (hK209 _ _ ?_)
        refine wp_ret ?_
        refine bodyPost_ret (v := .agg ([.int .i64 M2.a.1, .int .i64 M2.a.2, .int .i64 M2.b.1, .int .i64 M2.b.2, .bool false]).toArray) (gRes1 rfl (gResAg (cs := [.int .i64 M2.a.1, .int .i64 M2.a.2, .int .i64 M2.b.1, .int .i64 M2.b.2, .bool false]) 3 hm210 rfl Ty.ag_voxel_voxelref42_Between rfl (litGet (by kernel_rfl)))) rfl ?_
        exact ⟨by rw [hI]; simp [Btw.fin, bts, tcs, h188, h193, h197, h199], hm210.bel⟩
      rw [h197]
      refine lk (v := .bool true) rfl rfl rfl ?_
      refine plD ?_
      refine then_normal (hK194 _ _ ?_)
      refine wp_seq_k fun K212 hK212 => ?_
      refine plStart ?_
      refine lk (v := .pointer (some ⟨g22, 4, none⟩)) rfl rfl rfl ?_
      rcases bool_or (M2.ok) with h213 | h213
      · refine litVal (v := .bool false) rfl (wn rfl) (boolTo h213 (gLoad (v := .bool M2.ok) (k := 4) 5 hm196 rfl (by kernel_rfl) (.tmp 97) (by kernel_rfl) rfl (litEv (by kernel_rfl)))) rfl (by decide) ?_
        refine lk (v := .bool false) rfl rfl rfl ?_
        refine plSkip (i := 3) rfl (wgN rfl rfl rfl (by decide) (by kernel_rfl)) ?_
        refine qP rfl ?_
        refine lk (v := .bool false) rfl rfl rfl ?_
        refine lk (v := .bool false) rfl rfl rfl ?_
        refine plSkip (i := 6) rfl (wgN rfl rfl rfl (by decide) (by kernel_rfl)) ?_
        refine qP rfl ?_
        refine lk (v := .bool false) rfl rfl rfl ?_
        refine lk (v := .bool false) rfl rfl rfl ?_
        refine plSkip (i := 9) rfl (wgN rfl rfl rfl (by decide) (by kernel_rfl)) ?_
        refine qP rfl ?_
        refine lk (v := .bool false) rfl rfl rfl ?_
        refine lk (v := .pointer (some ⟨g22, 4, none⟩)) rfl rfl rfl ?_
        refine plStore1 (v := .bool false) (k := 4) 5 (by kernel_rfl) hm196 rfl (i := 12) rfl (wn rfl) rfl (litEv (by kernel_rfl)) (litEv (by kernel_rfl)) rfl rfl rfl ?_
        intro w215 hm214
        clear hm196
        try simp only [List.cons_append, List.nil_append, List.set_cons_succ, List.set_cons_zero] at hm214
        refine qNone rfl ?_
        refine plD ?_
        refine then_normal (hK212 _ _ ?_)
        refine wpPrune [(6, .pointer (some ⟨g11, 0, none⟩)), (8, .pointer (some ⟨g22, 0, none⟩))] ⟨litGet (by kernel_rfl), ⟨litGet (by kernel_rfl), trivial⟩⟩ (fun X216 => ?_)
        refine wp_seq_k fun K217 hK217 => ?_
        refine plStart ?_
        refine litVal (v := .agg ([.int .i64 M2.a.1, .int .i64 M2.a.2, .int .i64 M2.b.1, .int .i64 M2.b.2, .bool false]).toArray) rfl (wn rfl) (gLoadAg (vs := [.int .i64 M2.a.1, .int .i64 M2.a.2, .int .i64 M2.b.1, .int .i64 M2.b.2, .bool false]) (k := 0) 5 hm214 rfl (by kernel_rfl) (by kernel_rfl) (.tmp 8) Ty.ag_voxel_voxelref42_Between rfl (litEv (by kernel_rfl))) rfl (by decide) ?_
        refine plStore 3 Ty.ag_voxel_voxelref42_Between hm214 rfl (i := 1) (cs := [.int .i64 M2.a.1, .int .i64 M2.a.2, .int .i64 M2.b.1, .int .i64 M2.b.2, .bool false]) rfl (wn rfl) rfl (litEv (by kernel_rfl)) (litEv (by kernel_rfl)) rfl rfl (by kernel_rfl) ?_
        intro w219 hm218
        clear hm214
        try simp only [List.cons_append, List.nil_append, List.set_cons_succ, List.set_cons_zero] at hm218
        refine qNone rfl ?_
        refine plD ?_
        refine then_normal (hK217 _ _ ?_)
        refine wp_ret ?_
        refine bodyPost_ret (v := .agg ([.int .i64 M2.a.1, .int .i64 M2.a.2, .int .i64 M2.b.1, .int .i64 M2.b.2, .bool false]).toArray) (gRes1 rfl (gResAg (cs := [.int .i64 M2.a.1, .int .i64 M2.a.2, .int .i64 M2.b.1, .int .i64 M2.b.2, .bool false]) 3 hm218 rfl Ty.ag_voxel_voxelref42_Between rfl (litGet (by kernel_rfl)))) rfl ?_
        exact ⟨by rw [hI]; simp [Btw.fin, bts, tcs, h188, h193, h197, h213], hm218.bel⟩
      refine litVal (v := .bool true) rfl (wn rfl) (boolTo h213 (gLoad (v := .bool M2.ok) (k := 4) 5 hm196 rfl (by kernel_rfl) (.tmp 97) (by kernel_rfl) rfl (litEv (by kernel_rfl)))) rfl (by decide) ?_
      refine lk (v := .bool true) rfl rfl rfl ?_
      refine litVal (v := .bool false) rfl (wgY rfl rfl rfl (by decide) (by kernel_rfl)) (litRun (by kernel_rfl)) rfl (by decide) ?_
      refine lk (v := .bool false) rfl rfl rfl ?_
      refine lk (v := .bool false) rfl rfl rfl ?_
      refine plSkip (i := 6) rfl (wgN rfl rfl rfl (by decide) (by kernel_rfl)) ?_
      refine qP rfl ?_
      refine lk (v := .bool false) rfl rfl rfl ?_
      refine lk (v := .bool false) rfl rfl rfl ?_
      refine plSkip (i := 9) rfl (wgN rfl rfl rfl (by decide) (by kernel_rfl)) ?_
      refine qP rfl ?_
      refine lk (v := .bool false) rfl rfl rfl ?_
      refine lk (v := .pointer (some ⟨g22, 4, none⟩)) rfl rfl rfl ?_
      refine plStore1 (v := .bool false) (k := 4) 5 (by kernel_rfl) hm196 rfl (i := 12) rfl (wn rfl) rfl (litEv (by kernel_rfl)) (litEv (by kernel_rfl)) rfl rfl rfl ?_
      intro w221 hm220
      clear hm196
      try simp only [List.cons_append, List.nil_append, List.set_cons_succ, List.set_cons_zero] at hm220
      refine qNone rfl ?_
      refine plD ?_
      refine then_normal (hK212 _ _ ?_)
      refine wpPrune [(6, .pointer (some ⟨g11, 0, none⟩)), (8, .pointer (some ⟨g22, 0, none⟩))] ⟨litGet (by kernel_rfl), ⟨litGet (by kernel_rfl), trivial⟩⟩ (fun X222 => ?_)
      refine wp_seq_k fun K223 hK223 => ?_
      refine plStart ?_
      refine litVal (v := .agg ([.int .i64 M2.a.1, .int .i64 M2.a.2, .int .i64 M2.b.1, .int .i64 M2.b.2, .bool false]).toArray) rfl (wn rfl) (gLoadAg (vs := [.int .i64 M2.a.1, .int .i64 M2.a.2, .int .i64 M2.b.1, .int .i64 M2.b.2, .bool false]) (k := 0) 5 hm220 rfl (by kernel_rfl) (by kernel_rfl) (.tmp 8) Ty.ag_voxel_voxelref42_Between rfl (litEv (by kernel_rfl))) rfl (by decide) ?_
      refine plStore 3 Ty.ag_voxel_voxelref42_Between hm220 rfl (i := 1) (cs := [.int .i64 M2.a.1, .int .i64 M2.a.2, .int .i64 M2.b.1, .int .i64 M2.b.2, .bool false]) rfl (wn rfl) rfl (litEv (by kernel_rfl)) (litEv (by kernel_rfl)) rfl rfl (by kernel_rfl) ?_
      intro w225 hm224
      clear hm220
      try simp only [List.cons_append, List.nil_append, List.set_cons_succ, List.set_cons_zero] at hm224
      refine qNone rfl ?_
      refine plD ?_
      refine then_normal (hK223 _ _ ?_)
      refine wp_ret ?_
      refine bodyPost_ret (v := .agg ([.int .i64 M2.a.1, .int .i64 M2.a.2, .int .i64 M2.b.1, .int .i64 M2.b.2, .bool false]).toArray) (gRes1 rfl (gResAg (cs := [.int .i64 M2.a.1, .int .i64 M2.a.2, .int .i64 M2.b.1, .int .i64 M2.b.2, .bool false]) 3 hm224 rfl Ty.ag_voxel_voxelref42_Between rfl (litGet (by kernel_rfl)))) rfl ?_
      exact ⟨by rw [hI]; simp [Btw.fin, bts, tcs, h188, h193, h197, h213], hm224.bel⟩
    rw [h193]
    refine lk (v := .bool true) rfl rfl rfl ?_
    refine plD ?_
    refine then_normal (hK190 _ _ ?_)
    refine wp_seq_k fun K226 hK226 => ?_
    refine plStart ?_
    refine lk (v := .agg (tcs (0, 1)).toArray) rfl rfl rfl ?_
    refine lk (v := .pointer (some ⟨g22, 2, none⟩)) rfl rfl rfl ?_
    refine litVal (v := .agg (tcs M2.b).toArray) rfl (wn rfl) (gLoadAg (vs := tcs M2.b) (k := 2) 5 hm192 rfl (by kernel_rfl) (by kernel_rfl) (.tmp 94) Ty.ag_voxel_voxelref42_Time rfl (litEv (by kernel_rfl))) rfl (by decide) ?_
    refine plCall (i := 3) 34 [.agg (tcs (0, 1)).toArray, .agg (tcs M2.b).toArray] [] [] rfl (by kernel_rfl) (wn rfl) rfl (litEv (by kernel_rfl)) (litArgs (by kernel_rfl)) (less_any (0, 1) M2.b (tsm_lit (by decide) (by decide)) sM2.2 _) ?_
    rintro e w227 ⟨rfl, hbz⟩
    have hm228 := hm192.below hbz
    clear hbz hm192
    refine ⟨_, rfl, ?_⟩
    refine qP rfl ?_
    rcases bool_or (tltb (0, 1) M2.b) with h229 | h229
    · rw [h229]
      refine lk (v := .bool false) rfl rfl rfl ?_
      refine plD ?_
      refine then_normal (hK226 _ _ ?_)
      refine wp_seq_k fun K230 hK230 => ?_
      refine plStart ?_
      refine lk (v := .pointer (some ⟨g22, 4, none⟩)) rfl rfl rfl ?_
      rcases bool_or (M2.ok) with h231 | h231
      · refine litVal (v := .bool false) rfl (wn rfl) (boolTo h231 (gLoad (v := .bool M2.ok) (k := 4) 5 hm228 rfl (by kernel_rfl) (.tmp 97) (by kernel_rfl) rfl (litEv (by kernel_rfl)))) rfl (by decide) ?_
        refine lk (v := .bool false) rfl rfl rfl ?_
        refine plSkip (i := 3) rfl (wgN rfl rfl rfl (by decide) (by kernel_rfl)) ?_
        refine qP rfl ?_
        refine lk (v := .bool false) rfl rfl rfl ?_
        refine lk (v := .bool false) rfl rfl rfl ?_
        refine plSkip (i := 6) rfl (wgN rfl rfl rfl (by decide) (by kernel_rfl)) ?_
        refine qP rfl ?_
        refine lk (v := .bool false) rfl rfl rfl ?_
        refine lk (v := .bool false) rfl rfl rfl ?_
        refine plSkip (i := 9) rfl (wgN rfl rfl rfl (by decide) (by kernel_rfl)) ?_
        refine qP rfl ?_
        refine lk (v := .bool false) rfl rfl rfl ?_
        refine lk (v := .pointer (some ⟨g22, 4, none⟩)) rfl rfl rfl ?_
        refine plStore1 (v := .bool false) (k := 4) 5 (by kernel_rfl) hm228 rfl (i := 12) rfl (wn rfl) rfl (litEv (by kernel_rfl)) (litEv (by kernel_rfl)) rfl rfl rfl ?_
        intro w233 hm232
        clear hm228
        try simp only [List.cons_append, List.nil_append, List.set_cons_succ, List.set_cons_zero] at hm232
        refine qNone rfl ?_
        refine plD ?_
        refine then_normal (hK230 _ _ ?_)
        refine wpPrune [(6, .pointer (some ⟨g11, 0, none⟩)), (8, .pointer (some ⟨g22, 0, none⟩))] ⟨litGet (by kernel_rfl), ⟨litGet (by kernel_rfl), trivial⟩⟩ (fun X234 => ?_)
        refine wp_seq_k fun K235 hK235 => ?_
        refine plStart ?_
        refine litVal (v := .agg ([.int .i64 M2.a.1, .int .i64 M2.a.2, .int .i64 M2.b.1, .int .i64 M2.b.2, .bool false]).toArray) rfl (wn rfl) (gLoadAg (vs := [.int .i64 M2.a.1, .int .i64 M2.a.2, .int .i64 M2.b.1, .int .i64 M2.b.2, .bool false]) (k := 0) 5 hm232 rfl (by kernel_rfl) (by kernel_rfl) (.tmp 8) Ty.ag_voxel_voxelref42_Between rfl (litEv (by kernel_rfl))) rfl (by decide) ?_
        refine plStore 3 Ty.ag_voxel_voxelref42_Between hm232 rfl (i := 1) (cs := [.int .i64 M2.a.1, .int .i64 M2.a.2, .int .i64 M2.b.1, .int .i64 M2.b.2, .bool false]) rfl (wn rfl) rfl (litEv (by kernel_rfl)) (litEv (by kernel_rfl)) rfl rfl (by kernel_rfl) ?_
        intro w237 hm236
        clear hm232
        try simp only [List.cons_append, List.nil_append, List.set_cons_succ, List.set_cons_zero] at hm236
        refine qNone rfl ?_
        refine plD ?_
        refine then_normal (hK235 _ _ ?_)
        refine wp_ret ?_
        refine bodyPost_ret (v := .agg ([.int .i64 M2.a.1, .int .i64 M2.a.2, .int .i64 M2.b.1, .int .i64 M2.b.2, .bool false]).toArray) (gRes1 rfl (gResAg (cs := [.int .i64 M2.a.1, .int .i64 M2.a.2, .int .i64 M2.b.1, .int .i64 M2.b.2, .bool false]) 3 hm236 rfl Ty.ag_voxel_voxelref42_Between rfl (litGet (by kernel_rfl)))) rfl ?_
        exact ⟨by rw [hI]; simp [Btw.fin, bts, tcs, h188, h193, h229, h231], hm236.bel⟩
      refine litVal (v := .bool true) rfl (wn rfl) (boolTo h231 (gLoad (v := .bool M2.ok) (k := 4) 5 hm228 rfl (by kernel_rfl) (.tmp 97) (by kernel_rfl) rfl (litEv (by kernel_rfl)))) rfl (by decide) ?_
      refine lk (v := .bool true) rfl rfl rfl ?_
      refine litVal (v := .bool false) rfl (wgY rfl rfl rfl (by decide) (by kernel_rfl)) (litRun (by kernel_rfl)) rfl (by decide) ?_
      refine lk (v := .bool false) rfl rfl rfl ?_
      refine lk (v := .bool false) rfl rfl rfl ?_
      refine plSkip (i := 6) rfl (wgN rfl rfl rfl (by decide) (by kernel_rfl)) ?_
      refine qP rfl ?_
      refine lk (v := .bool false) rfl rfl rfl ?_
      refine lk (v := .bool false) rfl rfl rfl ?_
      refine plSkip (i := 9) rfl (wgN rfl rfl rfl (by decide) (by kernel_rfl)) ?_
      refine qP rfl ?_
      refine lk (v := .bool false) rfl rfl rfl ?_
      refine lk (v := .pointer (some ⟨g22, 4, none⟩)) rfl rfl rfl ?_
      refine plStore1 (v := .bool false) (k := 4) 5 (by kernel_rfl) hm228 rfl (i := 12) rfl (wn rfl) rfl (litEv (by kernel_rfl)) (litEv (by kernel_rfl)) rfl rfl rfl ?_
      intro w239 hm238
      clear hm228
      try simp only [List.cons_append, List.nil_append, List.set_cons_succ, List.set_cons_zero] at hm238
      refine qNone rfl ?_
      refine plD ?_
      refine then_normal (hK230 _ _ ?_)
      refine wpPrune [(6, .pointer (some ⟨g11, 0, none⟩)), (8, .pointer (some ⟨g22, 0, none⟩))] ⟨litGet (by kernel_rfl), ⟨litGet (by kernel_rfl), trivial⟩⟩ (fun X240 => ?_)
      refine wp_seq_k fun K241 hK241 => ?_
      refine plStart ?_
      refine litVal (v := .agg ([.int .i64 M2.a.1, .int .i64 M2.a.2, .int .i64 M2.b.1, .int .i64 M2.b.2, .bool false]).toArray) rfl (wn rfl) (gLoadAg (vs := [.int .i64 M2.a.1, .int .i64 M2.a.2, .int .i64 M2.b.1, .int .i64 M2.b.2, .bool false]) (k := 0) 5 hm238 rfl (by kernel_rfl) (by kernel_rfl) (.tmp 8) Ty.ag_voxel_voxelref42_Between rfl (litEv (by kernel_rfl))) rfl (by decide) ?_
      refine plStore 3 Ty.ag_voxel_voxelref42_Between hm238 rfl (i := 1) (cs := [.int .i64 M2.a.1, .int .i64 M2.a.2, .int .i64 M2.b.1, .int .i64 M2.b.2, .bool false]) rfl (wn rfl) rfl (litEv (by kernel_rfl)) (litEv (by kernel_rfl)) rfl rfl (by kernel_rfl) ?_
      intro w243 hm242
      clear hm238
      try simp only [List.cons_append, List.nil_append, List.set_cons_succ, List.set_cons_zero] at hm242
      refine qNone rfl ?_
      refine plD ?_
      refine then_normal (hK241 _ _ ?_)
      refine wp_ret ?_
      refine bodyPost_ret (v := .agg ([.int .i64 M2.a.1, .int .i64 M2.a.2, .int .i64 M2.b.1, .int .i64 M2.b.2, .bool false]).toArray) (gRes1 rfl (gResAg (cs := [.int .i64 M2.a.1, .int .i64 M2.a.2, .int .i64 M2.b.1, .int .i64 M2.b.2, .bool false]) 3 hm242 rfl Ty.ag_voxel_voxelref42_Between rfl (litGet (by kernel_rfl)))) rfl ?_
      exact ⟨by rw [hI]; simp [Btw.fin, bts, tcs, h188, h193, h229, h231], hm242.bel⟩
    rw [h229]
    refine lk (v := .bool true) rfl rfl rfl ?_
    refine plD ?_
    refine then_normal (hK226 _ _ ?_)
    refine wp_seq_k fun K244 hK244 => ?_
    refine plStart ?_
    refine lk (v := .pointer (some ⟨g22, 4, none⟩)) rfl rfl rfl ?_
    rcases bool_or (M2.ok) with h245 | h245
    · refine litVal (v := .bool false) rfl (wn rfl) (boolTo h245 (gLoad (v := .bool M2.ok) (k := 4) 5 hm228 rfl (by kernel_rfl) (.tmp 97) (by kernel_rfl) rfl (litEv (by kernel_rfl)))) rfl (by decide) ?_
      refine lk (v := .bool false) rfl rfl rfl ?_
      refine plSkip (i := 3) rfl (wgN rfl rfl rfl (by decide) (by kernel_rfl)) ?_
      refine qP rfl ?_
      refine lk (v := .bool false) rfl rfl rfl ?_
      refine lk (v := .bool false) rfl rfl rfl ?_
      refine plSkip (i := 6) rfl (wgN rfl rfl rfl (by decide) (by kernel_rfl)) ?_
      refine qP rfl ?_
      refine lk (v := .bool false) rfl rfl rfl ?_
      refine lk (v := .bool false) rfl rfl rfl ?_
      refine plSkip (i := 9) rfl (wgN rfl rfl rfl (by decide) (by kernel_rfl)) ?_
      refine qP rfl ?_
      refine lk (v := .bool false) rfl rfl rfl ?_
      refine lk (v := .pointer (some ⟨g22, 4, none⟩)) rfl rfl rfl ?_
      refine plStore1 (v := .bool false) (k := 4) 5 (by kernel_rfl) hm228 rfl (i := 12) rfl (wn rfl) rfl (litEv (by kernel_rfl)) (litEv (by kernel_rfl)) rfl rfl rfl ?_
      intro w247 hm246
      clear hm228
      try simp only [List.cons_append, List.nil_append, List.set_cons_succ, List.set_cons_zero] at hm246
      refine qNone rfl ?_
      refine plD ?_
      refine then_normal (hK244 _ _ ?_)
      refine wpPrune [(6, .pointer (some ⟨g11, 0, none⟩)), (8, .pointer (some ⟨g22, 0, none⟩))] ⟨litGet (by kernel_rfl), ⟨litGet (by kernel_rfl), trivial⟩⟩ (fun X248 => ?_)
      refine wp_seq_k fun K249 hK249 => ?_
      refine plStart ?_
      refine litVal (v := .agg ([.int .i64 M2.a.1, .int .i64 M2.a.2, .int .i64 M2.b.1, .int .i64 M2.b.2, .bool false]).toArray) rfl (wn rfl) (gLoadAg (vs := [.int .i64 M2.a.1, .int .i64 M2.a.2, .int .i64 M2.b.1, .int .i64 M2.b.2, .bool false]) (k := 0) 5 hm246 rfl (by kernel_rfl) (by kernel_rfl) (.tmp 8) Ty.ag_voxel_voxelref42_Between rfl (litEv (by kernel_rfl))) rfl (by decide) ?_
      refine plStore 3 Ty.ag_voxel_voxelref42_Between hm246 rfl (i := 1) (cs := [.int .i64 M2.a.1, .int .i64 M2.a.2, .int .i64 M2.b.1, .int .i64 M2.b.2, .bool false]) rfl (wn rfl) rfl (litEv (by kernel_rfl)) (litEv (by kernel_rfl)) rfl rfl (by kernel_rfl) ?_
      intro w251 hm250
      clear hm246
      try simp only [List.cons_append, List.nil_append, List.set_cons_succ, List.set_cons_zero] at hm250
      refine qNone rfl ?_
      refine plD ?_
      refine then_normal (hK249 _ _ ?_)
      refine wp_ret ?_
      refine bodyPost_ret (v := .agg ([.int .i64 M2.a.1, .int .i64 M2.a.2, .int .i64 M2.b.1, .int .i64 M2.b.2, .bool false]).toArray) (gRes1 rfl (gResAg (cs := [.int .i64 M2.a.1, .int .i64 M2.a.2, .int .i64 M2.b.1, .int .i64 M2.b.2, .bool false]) 3 hm250 rfl Ty.ag_voxel_voxelref42_Between rfl (litGet (by kernel_rfl)))) rfl ?_
      exact ⟨by rw [hI]; simp [Btw.fin, bts, tcs, h188, h193, h229, h245], hm250.bel⟩
    refine litVal (v := .bool true) rfl (wn rfl) (boolTo h245 (gLoad (v := .bool M2.ok) (k := 4) 5 hm228 rfl (by kernel_rfl) (.tmp 97) (by kernel_rfl) rfl (litEv (by kernel_rfl)))) rfl (by decide) ?_
    refine lk (v := .bool true) rfl rfl rfl ?_
    refine litVal (v := .bool false) rfl (wgY rfl rfl rfl (by decide) (by kernel_rfl)) (litRun (by kernel_rfl)) rfl (by decide) ?_
    refine lk (v := .bool false) rfl rfl rfl ?_
    refine lk (v := .bool false) rfl rfl rfl ?_
    refine plSkip (i := 6) rfl (wgN rfl rfl rfl (by decide) (by kernel_rfl)) ?_
    refine qP rfl ?_
    refine lk (v := .bool false) rfl rfl rfl ?_
    refine lk (v := .bool false) rfl rfl rfl ?_
    refine plSkip (i := 9) rfl (wgN rfl rfl rfl (by decide) (by kernel_rfl)) ?_
    refine qP rfl ?_
    refine lk (v := .bool false) rfl rfl rfl ?_
    refine lk (v := .pointer (some ⟨g22, 4, none⟩)) rfl rfl rfl ?_
    refine plStore1 (v := .bool false) (k := 4) 5 (by kernel_rfl) hm228 rfl (i := 12) rfl (wn rfl) rfl (litEv (by kernel_rfl)) (litEv (by kernel_rfl)) rfl rfl rfl ?_
    intro w253 hm252
    clear hm228
    try simp only [List.cons_append, List.nil_append, List.set_cons_succ, List.set_cons_zero] at hm252
    refine qNone rfl ?_
    refine plD ?_
    refine then_normal (hK244 _ _ ?_)
    refine wpPrune [(6, .pointer (some ⟨g11, 0, none⟩)), (8, .pointer (some ⟨g22, 0, none⟩))] ⟨litGet (by kernel_rfl), ⟨litGet (by kernel_rfl), trivial⟩⟩ (fun X254 => ?_)
    refine wp_seq_k fun K255 hK255 => ?_
    refine plStart ?_
    refine litVal (v := .agg ([.int .i64 M2.a.1, .int .i64 M2.a.2, .int .i64 M2.b.1, .int .i64 M2.b.2, .bool false]).toArray) rfl (wn rfl) (gLoadAg (vs := [.int .i64 M2.a.1, .int .i64 M2.a.2, .int .i64 M2.b.1, .int .i64 M2.b.2, .bool false]) (k := 0) 5 hm252 rfl (by kernel_rfl) (by kernel_rfl) (.tmp 8) Ty.ag_voxel_voxelref42_Between rfl (litEv (by kernel_rfl))) rfl (by decide) ?_
    refine plStore 3 Ty.ag_voxel_voxelref42_Between hm252 rfl (i := 1) (cs := [.int .i64 M2.a.1, .int .i64 M2.a.2, .int .i64 M2.b.1, .int .i64 M2.b.2, .bool false]) rfl (wn rfl) rfl (litEv (by kernel_rfl)) (litEv (by kernel_rfl)) rfl rfl (by kernel_rfl) ?_
    intro w257 hm256
    clear hm252
    try simp only [List.cons_append, List.nil_append, List.set_cons_succ, List.set_cons_zero] at hm256
    refine qNone rfl ?_
    refine plD ?_
    refine then_normal (hK255 _ _ ?_)
    refine wp_ret ?_
    refine bodyPost_ret (v := .agg ([.int .i64 M2.a.1, .int .i64 M2.a.2, .int .i64 M2.b.1, .int .i64 M2.b.2, .bool false]).toArray) (gRes1 rfl (gResAg (cs := [.int .i64 M2.a.1, .int .i64 M2.a.2, .int .i64 M2.b.1, .int .i64 M2.b.2, .bool false]) 3 hm256 rfl Ty.ag_voxel_voxelref42_Between rfl (litGet (by kernel_rfl)))) rfl ?_
    exact ⟨by rw [hI]; simp [Btw.fin, bts, tcs, h188, h193, h229, h245], hm256.bel⟩
  rw [h188]
  refine lk (v := .bool true) rfl rfl rfl ?_
  refine plD ?_
  refine then_normal (hK185 _ _ ?_)
  refine wpPrune [(6, .pointer (some ⟨g11, 0, none⟩)), (8, .pointer (some ⟨g22, 0, none⟩)), (12, .bool true)] ⟨litGet (by kernel_rfl), ⟨litGet (by kernel_rfl), ⟨litGet (by kernel_rfl), trivial⟩⟩⟩ (fun X258 => ?_)
  refine wp_seq_k fun K259 hK259 => ?_
  refine plStart ?_
  refine lk (v := .pointer (some ⟨g22, 0, none⟩)) rfl rfl rfl ?_
  refine litVal (v := .agg (tcs M2.a).toArray) rfl (wn rfl) (gLoadAg (vs := tcs M2.a) (k := 0) 5 hm187 rfl (by kernel_rfl) (by kernel_rfl) (.tmp 89) Ty.ag_voxel_voxelref42_Time rfl (litEv (by kernel_rfl))) rfl (by decide) ?_
  refine lk (v := .agg (tcs (1, 1)).toArray) rfl rfl rfl ?_
  refine plCall (i := 3) 34 [.agg (tcs M2.a).toArray, .agg (tcs (1, 1)).toArray] [] [] rfl (by kernel_rfl) (wn rfl) rfl (litEv (by kernel_rfl)) (litArgs (by kernel_rfl)) (less_any M2.a (1, 1) sM2.1 (tsm_lit (by decide) (by decide)) _) ?_
  rintro e w260 ⟨rfl, hbz⟩
  have hm261 := hm187.below hbz
  clear hbz hm187
  refine ⟨_, rfl, ?_⟩
  refine qP rfl ?_
  rcases bool_or (tltb M2.a (1, 1)) with h262 | h262
  · rw [h262]
    refine lk (v := .bool false) rfl rfl rfl ?_
    refine plD ?_
    refine then_normal (hK259 _ _ ?_)
    refine wp_seq_k fun K263 hK263 => ?_
    refine plStart ?_
    refine lk (v := .agg (tcs (0, 1)).toArray) rfl rfl rfl ?_
    refine lk (v := .pointer (some ⟨g22, 2, none⟩)) rfl rfl rfl ?_
    refine litVal (v := .agg (tcs M2.b).toArray) rfl (wn rfl) (gLoadAg (vs := tcs M2.b) (k := 2) 5 hm261 rfl (by kernel_rfl) (by kernel_rfl) (.tmp 94) Ty.ag_voxel_voxelref42_Time rfl (litEv (by kernel_rfl))) rfl (by decide) ?_
    refine plCall (i := 3) 34 [.agg (tcs (0, 1)).toArray, .agg (tcs M2.b).toArray] [] [] rfl (by kernel_rfl) (wn rfl) rfl (litEv (by kernel_rfl)) (litArgs (by kernel_rfl)) (less_any (0, 1) M2.b (tsm_lit (by decide) (by decide)) sM2.2 _) ?_
    rintro e w264 ⟨rfl, hbz⟩
    have hm265 := hm261.below hbz
    clear hbz hm261
    refine ⟨_, rfl, ?_⟩
    refine qP rfl ?_
    rcases bool_or (tltb (0, 1) M2.b) with h266 | h266
    · rw [h266]
      refine lk (v := .bool false) rfl rfl rfl ?_
      refine plD ?_
      refine then_normal (hK263 _ _ ?_)
      refine wp_seq_k fun K267 hK267 => ?_
      refine plStart ?_
      refine lk (v := .pointer (some ⟨g22, 4, none⟩)) rfl rfl rfl ?_
      rcases bool_or (M2.ok) with h268 | h268
      · refine litVal (v := .bool false) rfl (wn rfl) (boolTo h268 (gLoad (v := .bool M2.ok) (k := 4) 5 hm265 rfl (by kernel_rfl) (.tmp 97) (by kernel_rfl) rfl (litEv (by kernel_rfl)))) rfl (by decide) ?_
        refine lk (v := .bool false) rfl rfl rfl ?_
        refine plSkip (i := 3) rfl (wgN rfl rfl rfl (by decide) (by kernel_rfl)) ?_
        refine qP rfl ?_
        refine lk (v := .bool false) rfl rfl rfl ?_
        refine lk (v := .bool false) rfl rfl rfl ?_
        refine plSkip (i := 6) rfl (wgN rfl rfl rfl (by decide) (by kernel_rfl)) ?_
        refine qP rfl ?_
        refine lk (v := .bool false) rfl rfl rfl ?_
        refine lk (v := .bool false) rfl rfl rfl ?_
        refine plSkip (i := 9) rfl (wgN rfl rfl rfl (by decide) (by kernel_rfl)) ?_
        refine qP rfl ?_
        refine lk (v := .bool false) rfl rfl rfl ?_
        refine lk (v := .pointer (some ⟨g22, 4, none⟩)) rfl rfl rfl ?_
        refine plStore1 (v := .bool false) (k := 4) 5 (by kernel_rfl) hm265 rfl (i := 12) rfl (wn rfl) rfl (litEv (by kernel_rfl)) (litEv (by kernel_rfl)) rfl rfl rfl ?_
        intro w270 hm269
        clear hm265
        try simp only [List.cons_append, List.nil_append, List.set_cons_succ, List.set_cons_zero] at hm269
        refine qNone rfl ?_
        refine plD ?_
        refine then_normal (hK267 _ _ ?_)
        refine wpPrune [(6, .pointer (some ⟨g11, 0, none⟩)), (8, .pointer (some ⟨g22, 0, none⟩))] ⟨litGet (by kernel_rfl), ⟨litGet (by kernel_rfl), trivial⟩⟩ (fun X271 => ?_)
        refine wp_seq_k fun K272 hK272 => ?_
        refine plStart ?_
        refine litVal (v := .agg ([.int .i64 M2.a.1, .int .i64 M2.a.2, .int .i64 M2.b.1, .int .i64 M2.b.2, .bool false]).toArray) rfl (wn rfl) (gLoadAg (vs := [.int .i64 M2.a.1, .int .i64 M2.a.2, .int .i64 M2.b.1, .int .i64 M2.b.2, .bool false]) (k := 0) 5 hm269 rfl (by kernel_rfl) (by kernel_rfl) (.tmp 8) Ty.ag_voxel_voxelref42_Between rfl (litEv (by kernel_rfl))) rfl (by decide) ?_
        refine plStore 3 Ty.ag_voxel_voxelref42_Between hm269 rfl (i := 1) (cs := [.int .i64 M2.a.1, .int .i64 M2.a.2, .int .i64 M2.b.1, .int .i64 M2.b.2, .bool false]) rfl (wn rfl) rfl (litEv (by kernel_rfl)) (litEv (by kernel_rfl)) rfl rfl (by kernel_rfl) ?_
        intro w274 hm273
        clear hm269
        try simp only [List.cons_append, List.nil_append, List.set_cons_succ, List.set_cons_zero] at hm273
        refine qNone rfl ?_
        refine plD ?_
        refine then_normal (hK272 _ _ ?_)
        refine wp_ret ?_
        refine bodyPost_ret (v := .agg ([.int .i64 M2.a.1, .int .i64 M2.a.2, .int .i64 M2.b.1, .int .i64 M2.b.2, .bool false]).toArray) (gRes1 rfl (gResAg (cs := [.int .i64 M2.a.1, .int .i64 M2.a.2, .int .i64 M2.b.1, .int .i64 M2.b.2, .bool false]) 3 hm273 rfl Ty.ag_voxel_voxelref42_Between rfl (litGet (by kernel_rfl)))) rfl ?_
        exact ⟨by rw [hI]; simp [Btw.fin, bts, tcs, h188, h262, h266, h268], hm273.bel⟩
      refine litVal (v := .bool true) rfl (wn rfl) (boolTo h268 (gLoad (v := .bool M2.ok) (k := 4) 5 hm265 rfl (by kernel_rfl) (.tmp 97) (by kernel_rfl) rfl (litEv (by kernel_rfl)))) rfl (by decide) ?_
      refine lk (v := .bool true) rfl rfl rfl ?_
      refine litVal (v := .bool true) rfl (wgY rfl rfl rfl (by decide) (by kernel_rfl)) (litRun (by kernel_rfl)) rfl (by decide) ?_
      refine lk (v := .bool true) rfl rfl rfl ?_
      refine lk (v := .bool true) rfl rfl rfl ?_
      refine litVal (v := .bool false) rfl (wgY rfl rfl rfl (by decide) (by kernel_rfl)) (litRun (by kernel_rfl)) rfl (by decide) ?_
      refine lk (v := .bool false) rfl rfl rfl ?_
      refine lk (v := .bool false) rfl rfl rfl ?_
      refine plSkip (i := 9) rfl (wgN rfl rfl rfl (by decide) (by kernel_rfl)) ?_
      refine qP rfl ?_
      refine lk (v := .bool false) rfl rfl rfl ?_
      refine lk (v := .pointer (some ⟨g22, 4, none⟩)) rfl rfl rfl ?_
      refine plStore1 (v := .bool false) (k := 4) 5 (by kernel_rfl) hm265 rfl (i := 12) rfl (wn rfl) rfl (litEv (by kernel_rfl)) (litEv (by kernel_rfl)) rfl rfl rfl ?_
      intro w276 hm275
      clear hm265
      try simp only [List.cons_append, List.nil_append, List.set_cons_succ, List.set_cons_zero] at hm275
      refine qNone rfl ?_
      refine plD ?_
      refine then_normal (hK267 _ _ ?_)
      refine wpPrune [(6, .pointer (some ⟨g11, 0, none⟩)), (8, .pointer (some ⟨g22, 0, none⟩))] ⟨litGet (by kernel_rfl), ⟨litGet (by kernel_rfl), trivial⟩⟩ (fun X277 => ?_)
      refine wp_seq_k fun K278 hK278 => ?_
      refine plStart ?_
      refine litVal (v := .agg ([.int .i64 M2.a.1, .int .i64 M2.a.2, .int .i64 M2.b.1, .int .i64 M2.b.2, .bool false]).toArray) rfl (wn rfl) (gLoadAg (vs := [.int .i64 M2.a.1, .int .i64 M2.a.2, .int .i64 M2.b.1, .int .i64 M2.b.2, .bool false]) (k := 0) 5 hm275 rfl (by kernel_rfl) (by kernel_rfl) (.tmp 8) Ty.ag_voxel_voxelref42_Between rfl (litEv (by kernel_rfl))) rfl (by decide) ?_
      refine plStore 3 Ty.ag_voxel_voxelref42_Between hm275 rfl (i := 1) (cs := [.int .i64 M2.a.1, .int .i64 M2.a.2, .int .i64 M2.b.1, .int .i64 M2.b.2, .bool false]) rfl (wn rfl) rfl (litEv (by kernel_rfl)) (litEv (by kernel_rfl)) rfl rfl (by kernel_rfl) ?_
      intro w280 hm279
      clear hm275
      try simp only [List.cons_append, List.nil_append, List.set_cons_succ, List.set_cons_zero] at hm279
      refine qNone rfl ?_
      refine plD ?_
      refine then_normal (hK278 _ _ ?_)
      refine wp_ret ?_
      refine bodyPost_ret (v := .agg ([.int .i64 M2.a.1, .int .i64 M2.a.2, .int .i64 M2.b.1, .int .i64 M2.b.2, .bool false]).toArray) (gRes1 rfl (gResAg (cs := [.int .i64 M2.a.1, .int .i64 M2.a.2, .int .i64 M2.b.1, .int .i64 M2.b.2, .bool false]) 3 hm279 rfl Ty.ag_voxel_voxelref42_Between rfl (litGet (by kernel_rfl)))) rfl ?_
      exact ⟨by rw [hI]; simp [Btw.fin, bts, tcs, h188, h262, h266, h268], hm279.bel⟩
    rw [h266]
    refine lk (v := .bool true) rfl rfl rfl ?_
    refine plD ?_
    refine then_normal (hK263 _ _ ?_)
    refine wp_seq_k fun K281 hK281 => ?_
    refine plStart ?_
    refine lk (v := .pointer (some ⟨g22, 4, none⟩)) rfl rfl rfl ?_
    rcases bool_or (M2.ok) with h282 | h282
    · refine litVal (v := .bool false) rfl (wn rfl) (boolTo h282 (gLoad (v := .bool M2.ok) (k := 4) 5 hm265 rfl (by kernel_rfl) (.tmp 97) (by kernel_rfl) rfl (litEv (by kernel_rfl)))) rfl (by decide) ?_
      refine lk (v := .bool false) rfl rfl rfl ?_
      refine plSkip (i := 3) rfl (wgN rfl rfl rfl (by decide) (by kernel_rfl)) ?_
      refine qP rfl ?_
      refine lk (v := .bool false) rfl rfl rfl ?_
      refine lk (v := .bool false) rfl rfl rfl ?_
      refine plSkip (i := 6) rfl (wgN rfl rfl rfl (by decide) (by kernel_rfl)) ?_
      refine qP rfl ?_
      refine lk (v := .bool false) rfl rfl rfl ?_
      refine lk (v := .bool false) rfl rfl rfl ?_
      refine plSkip (i := 9) rfl (wgN rfl rfl rfl (by decide) (by kernel_rfl)) ?_
      refine qP rfl ?_
      refine lk (v := .bool false) rfl rfl rfl ?_
      refine lk (v := .pointer (some ⟨g22, 4, none⟩)) rfl rfl rfl ?_
      refine plStore1 (v := .bool false) (k := 4) 5 (by kernel_rfl) hm265 rfl (i := 12) rfl (wn rfl) rfl (litEv (by kernel_rfl)) (litEv (by kernel_rfl)) rfl rfl rfl ?_
      intro w284 hm283
      clear hm265
      try simp only [List.cons_append, List.nil_append, List.set_cons_succ, List.set_cons_zero] at hm283
      refine qNone rfl ?_
      refine plD ?_
      refine then_normal (hK281 _ _ ?_)
      refine wpPrune [(6, .pointer (some ⟨g11, 0, none⟩)), (8, .pointer (some ⟨g22, 0, none⟩))] ⟨litGet (by kernel_rfl), ⟨litGet (by kernel_rfl), trivial⟩⟩ (fun X285 => ?_)
      refine wp_seq_k fun K286 hK286 => ?_
      refine plStart ?_
      refine litVal (v := .agg ([.int .i64 M2.a.1, .int .i64 M2.a.2, .int .i64 M2.b.1, .int .i64 M2.b.2, .bool false]).toArray) rfl (wn rfl) (gLoadAg (vs := [.int .i64 M2.a.1, .int .i64 M2.a.2, .int .i64 M2.b.1, .int .i64 M2.b.2, .bool false]) (k := 0) 5 hm283 rfl (by kernel_rfl) (by kernel_rfl) (.tmp 8) Ty.ag_voxel_voxelref42_Between rfl (litEv (by kernel_rfl))) rfl (by decide) ?_
      refine plStore 3 Ty.ag_voxel_voxelref42_Between hm283 rfl (i := 1) (cs := [.int .i64 M2.a.1, .int .i64 M2.a.2, .int .i64 M2.b.1, .int .i64 M2.b.2, .bool false]) rfl (wn rfl) rfl (litEv (by kernel_rfl)) (litEv (by kernel_rfl)) rfl rfl (by kernel_rfl) ?_
      intro w288 hm287
      clear hm283
      try simp only [List.cons_append, List.nil_append, List.set_cons_succ, List.set_cons_zero] at hm287
      refine qNone rfl ?_
      refine plD ?_
      refine then_normal (hK286 _ _ ?_)
      refine wp_ret ?_
      refine bodyPost_ret (v := .agg ([.int .i64 M2.a.1, .int .i64 M2.a.2, .int .i64 M2.b.1, .int .i64 M2.b.2, .bool false]).toArray) (gRes1 rfl (gResAg (cs := [.int .i64 M2.a.1, .int .i64 M2.a.2, .int .i64 M2.b.1, .int .i64 M2.b.2, .bool false]) 3 hm287 rfl Ty.ag_voxel_voxelref42_Between rfl (litGet (by kernel_rfl)))) rfl ?_
      exact ⟨by rw [hI]; simp [Btw.fin, bts, tcs, h188, h262, h266, h282], hm287.bel⟩
    refine litVal (v := .bool true) rfl (wn rfl) (boolTo h282 (gLoad (v := .bool M2.ok) (k := 4) 5 hm265 rfl (by kernel_rfl) (.tmp 97) (by kernel_rfl) rfl (litEv (by kernel_rfl)))) rfl (by decide) ?_
    refine lk (v := .bool true) rfl rfl rfl ?_
    refine litVal (v := .bool true) rfl (wgY rfl rfl rfl (by decide) (by kernel_rfl)) (litRun (by kernel_rfl)) rfl (by decide) ?_
    refine lk (v := .bool true) rfl rfl rfl ?_
    refine lk (v := .bool true) rfl rfl rfl ?_
    refine litVal (v := .bool false) rfl (wgY rfl rfl rfl (by decide) (by kernel_rfl)) (litRun (by kernel_rfl)) rfl (by decide) ?_
    refine lk (v := .bool false) rfl rfl rfl ?_
    refine lk (v := .bool false) rfl rfl rfl ?_
    refine plSkip (i := 9) rfl (wgN rfl rfl rfl (by decide) (by kernel_rfl)) ?_
    refine qP rfl ?_
    refine lk (v := .bool false) rfl rfl rfl ?_
    refine lk (v := .pointer (some ⟨g22, 4, none⟩)) rfl rfl rfl ?_
    refine plStore1 (v := .bool false) (k := 4) 5 (by kernel_rfl) hm265 rfl (i := 12) rfl (wn rfl) rfl (litEv (by kernel_rfl)) (litEv (by kernel_rfl)) rfl rfl rfl ?_
    intro w290 hm289
    clear hm265
    try simp only [List.cons_append, List.nil_append, List.set_cons_succ, List.set_cons_zero] at hm289
    refine qNone rfl ?_
    refine plD ?_
    refine then_normal (hK281 _ _ ?_)
    refine wpPrune [(6, .pointer (some ⟨g11, 0, none⟩)), (8, .pointer (some ⟨g22, 0, none⟩))] ⟨litGet (by kernel_rfl), ⟨litGet (by kernel_rfl), trivial⟩⟩ (fun X291 => ?_)
    refine wp_seq_k fun K292 hK292 => ?_
    refine plStart ?_
    refine litVal (v := .agg ([.int .i64 M2.a.1, .int .i64 M2.a.2, .int .i64 M2.b.1, .int .i64 M2.b.2, .bool false]).toArray) rfl (wn rfl) (gLoadAg (vs := [.int .i64 M2.a.1, .int .i64 M2.a.2, .int .i64 M2.b.1, .int .i64 M2.b.2, .bool false]) (k := 0) 5 hm289 rfl (by kernel_rfl) (by kernel_rfl) (.tmp 8) Ty.ag_voxel_voxelref42_Between rfl (litEv (by kernel_rfl))) rfl (by decide) ?_
    refine plStore 3 Ty.ag_voxel_voxelref42_Between hm289 rfl (i := 1) (cs := [.int .i64 M2.a.1, .int .i64 M2.a.2, .int .i64 M2.b.1, .int .i64 M2.b.2, .bool false]) rfl (wn rfl) rfl (litEv (by kernel_rfl)) (litEv (by kernel_rfl)) rfl rfl (by kernel_rfl) ?_
    intro w294 hm293
    clear hm289
    try simp only [List.cons_append, List.nil_append, List.set_cons_succ, List.set_cons_zero] at hm293
    refine qNone rfl ?_
    refine plD ?_
    refine then_normal (hK292 _ _ ?_)
    refine wp_ret ?_
    refine bodyPost_ret (v := .agg ([.int .i64 M2.a.1, .int .i64 M2.a.2, .int .i64 M2.b.1, .int .i64 M2.b.2, .bool false]).toArray) (gRes1 rfl (gResAg (cs := [.int .i64 M2.a.1, .int .i64 M2.a.2, .int .i64 M2.b.1, .int .i64 M2.b.2, .bool false]) 3 hm293 rfl Ty.ag_voxel_voxelref42_Between rfl (litGet (by kernel_rfl)))) rfl ?_
    exact ⟨by rw [hI]; simp [Btw.fin, bts, tcs, h188, h262, h266, h282], hm293.bel⟩
  rw [h262]
  refine lk (v := .bool true) rfl rfl rfl ?_
  refine plD ?_
  refine then_normal (hK259 _ _ ?_)
  refine wp_seq_k fun K295 hK295 => ?_
  refine plStart ?_
  refine lk (v := .agg (tcs (0, 1)).toArray) rfl rfl rfl ?_
  refine lk (v := .pointer (some ⟨g22, 2, none⟩)) rfl rfl rfl ?_
  refine litVal (v := .agg (tcs M2.b).toArray) rfl (wn rfl) (gLoadAg (vs := tcs M2.b) (k := 2) 5 hm261 rfl (by kernel_rfl) (by kernel_rfl) (.tmp 94) Ty.ag_voxel_voxelref42_Time rfl (litEv (by kernel_rfl))) rfl (by decide) ?_
  refine plCall (i := 3) 34 [.agg (tcs (0, 1)).toArray, .agg (tcs M2.b).toArray] [] [] rfl (by kernel_rfl) (wn rfl) rfl (litEv (by kernel_rfl)) (litArgs (by kernel_rfl)) (less_any (0, 1) M2.b (tsm_lit (by decide) (by decide)) sM2.2 _) ?_
  rintro e w296 ⟨rfl, hbz⟩
  have hm297 := hm261.below hbz
  clear hbz hm261
  refine ⟨_, rfl, ?_⟩
  refine qP rfl ?_
  rcases bool_or (tltb (0, 1) M2.b) with h298 | h298
  · rw [h298]
    refine lk (v := .bool false) rfl rfl rfl ?_
    refine plD ?_
    refine then_normal (hK295 _ _ ?_)
    refine wp_seq_k fun K299 hK299 => ?_
    refine plStart ?_
    refine lk (v := .pointer (some ⟨g22, 4, none⟩)) rfl rfl rfl ?_
    rcases bool_or (M2.ok) with h300 | h300
    · refine litVal (v := .bool false) rfl (wn rfl) (boolTo h300 (gLoad (v := .bool M2.ok) (k := 4) 5 hm297 rfl (by kernel_rfl) (.tmp 97) (by kernel_rfl) rfl (litEv (by kernel_rfl)))) rfl (by decide) ?_
      refine lk (v := .bool false) rfl rfl rfl ?_
      refine plSkip (i := 3) rfl (wgN rfl rfl rfl (by decide) (by kernel_rfl)) ?_
      refine qP rfl ?_
      refine lk (v := .bool false) rfl rfl rfl ?_
      refine lk (v := .bool false) rfl rfl rfl ?_
      refine plSkip (i := 6) rfl (wgN rfl rfl rfl (by decide) (by kernel_rfl)) ?_
      refine qP rfl ?_
      refine lk (v := .bool false) rfl rfl rfl ?_
      refine lk (v := .bool false) rfl rfl rfl ?_
      refine plSkip (i := 9) rfl (wgN rfl rfl rfl (by decide) (by kernel_rfl)) ?_
      refine qP rfl ?_
      refine lk (v := .bool false) rfl rfl rfl ?_
      refine lk (v := .pointer (some ⟨g22, 4, none⟩)) rfl rfl rfl ?_
      refine plStore1 (v := .bool false) (k := 4) 5 (by kernel_rfl) hm297 rfl (i := 12) rfl (wn rfl) rfl (litEv (by kernel_rfl)) (litEv (by kernel_rfl)) rfl rfl rfl ?_
      intro w302 hm301
      clear hm297
      try simp only [List.cons_append, List.nil_append, List.set_cons_succ, List.set_cons_zero] at hm301
      refine qNone rfl ?_
      refine plD ?_
      refine then_normal (hK299 _ _ ?_)
      refine wpPrune [(6, .pointer (some ⟨g11, 0, none⟩)), (8, .pointer (some ⟨g22, 0, none⟩))] ⟨litGet (by kernel_rfl), ⟨litGet (by kernel_rfl), trivial⟩⟩ (fun X303 => ?_)
      refine wp_seq_k fun K304 hK304 => ?_
      refine plStart ?_
      refine litVal (v := .agg ([.int .i64 M2.a.1, .int .i64 M2.a.2, .int .i64 M2.b.1, .int .i64 M2.b.2, .bool false]).toArray) rfl (wn rfl) (gLoadAg (vs := [.int .i64 M2.a.1, .int .i64 M2.a.2, .int .i64 M2.b.1, .int .i64 M2.b.2, .bool false]) (k := 0) 5 hm301 rfl (by kernel_rfl) (by kernel_rfl) (.tmp 8) Ty.ag_voxel_voxelref42_Between rfl (litEv (by kernel_rfl))) rfl (by decide) ?_
      refine plStore 3 Ty.ag_voxel_voxelref42_Between hm301 rfl (i := 1) (cs := [.int .i64 M2.a.1, .int .i64 M2.a.2, .int .i64 M2.b.1, .int .i64 M2.b.2, .bool false]) rfl (wn rfl) rfl (litEv (by kernel_rfl)) (litEv (by kernel_rfl)) rfl rfl (by kernel_rfl) ?_
      intro w306 hm305
      clear hm301
      try simp only [List.cons_append, List.nil_append, List.set_cons_succ, List.set_cons_zero] at hm305
      refine qNone rfl ?_
      refine plD ?_
      refine then_normal (hK304 _ _ ?_)
      refine wp_ret ?_
      refine bodyPost_ret (v := .agg ([.int .i64 M2.a.1, .int .i64 M2.a.2, .int .i64 M2.b.1, .int .i64 M2.b.2, .bool false]).toArray) (gRes1 rfl (gResAg (cs := [.int .i64 M2.a.1, .int .i64 M2.a.2, .int .i64 M2.b.1, .int .i64 M2.b.2, .bool false]) 3 hm305 rfl Ty.ag_voxel_voxelref42_Between rfl (litGet (by kernel_rfl)))) rfl ?_
      exact ⟨by rw [hI]; simp [Btw.fin, bts, tcs, h188, h262, h298, h300], hm305.bel⟩
    refine litVal (v := .bool true) rfl (wn rfl) (boolTo h300 (gLoad (v := .bool M2.ok) (k := 4) 5 hm297 rfl (by kernel_rfl) (.tmp 97) (by kernel_rfl) rfl (litEv (by kernel_rfl)))) rfl (by decide) ?_
    refine lk (v := .bool true) rfl rfl rfl ?_
    refine litVal (v := .bool true) rfl (wgY rfl rfl rfl (by decide) (by kernel_rfl)) (litRun (by kernel_rfl)) rfl (by decide) ?_
    refine lk (v := .bool true) rfl rfl rfl ?_
    refine lk (v := .bool true) rfl rfl rfl ?_
    refine litVal (v := .bool true) rfl (wgY rfl rfl rfl (by decide) (by kernel_rfl)) (litRun (by kernel_rfl)) rfl (by decide) ?_
    refine lk (v := .bool true) rfl rfl rfl ?_
    refine lk (v := .bool true) rfl rfl rfl ?_
    refine litVal (v := .bool false) rfl (wgY rfl rfl rfl (by decide) (by kernel_rfl)) (litRun (by kernel_rfl)) rfl (by decide) ?_
    refine lk (v := .bool false) rfl rfl rfl ?_
    refine lk (v := .pointer (some ⟨g22, 4, none⟩)) rfl rfl rfl ?_
    refine plStore1 (v := .bool false) (k := 4) 5 (by kernel_rfl) hm297 rfl (i := 12) rfl (wn rfl) rfl (litEv (by kernel_rfl)) (litEv (by kernel_rfl)) rfl rfl rfl ?_
    intro w308 hm307
    clear hm297
    try simp only [List.cons_append, List.nil_append, List.set_cons_succ, List.set_cons_zero] at hm307
    refine qNone rfl ?_
    refine plD ?_
    refine then_normal (hK299 _ _ ?_)
    refine wpPrune [(6, .pointer (some ⟨g11, 0, none⟩)), (8, .pointer (some ⟨g22, 0, none⟩))] ⟨litGet (by kernel_rfl), ⟨litGet (by kernel_rfl), trivial⟩⟩ (fun X309 => ?_)
    refine wp_seq_k fun K310 hK310 => ?_
    refine plStart ?_
    refine litVal (v := .agg ([.int .i64 M2.a.1, .int .i64 M2.a.2, .int .i64 M2.b.1, .int .i64 M2.b.2, .bool false]).toArray) rfl (wn rfl) (gLoadAg (vs := [.int .i64 M2.a.1, .int .i64 M2.a.2, .int .i64 M2.b.1, .int .i64 M2.b.2, .bool false]) (k := 0) 5 hm307 rfl (by kernel_rfl) (by kernel_rfl) (.tmp 8) Ty.ag_voxel_voxelref42_Between rfl (litEv (by kernel_rfl))) rfl (by decide) ?_
    refine plStore 3 Ty.ag_voxel_voxelref42_Between hm307 rfl (i := 1) (cs := [.int .i64 M2.a.1, .int .i64 M2.a.2, .int .i64 M2.b.1, .int .i64 M2.b.2, .bool false]) rfl (wn rfl) rfl (litEv (by kernel_rfl)) (litEv (by kernel_rfl)) rfl rfl (by kernel_rfl) ?_
    intro w312 hm311
    clear hm307
    try simp only [List.cons_append, List.nil_append, List.set_cons_succ, List.set_cons_zero] at hm311
    refine qNone rfl ?_
    refine plD ?_
    refine then_normal (hK310 _ _ ?_)
    refine wp_ret ?_
    refine bodyPost_ret (v := .agg ([.int .i64 M2.a.1, .int .i64 M2.a.2, .int .i64 M2.b.1, .int .i64 M2.b.2, .bool false]).toArray) (gRes1 rfl (gResAg (cs := [.int .i64 M2.a.1, .int .i64 M2.a.2, .int .i64 M2.b.1, .int .i64 M2.b.2, .bool false]) 3 hm311 rfl Ty.ag_voxel_voxelref42_Between rfl (litGet (by kernel_rfl)))) rfl ?_
    exact ⟨by rw [hI]; simp [Btw.fin, bts, tcs, h188, h262, h298, h300], hm311.bel⟩
  rw [h298]
  refine lk (v := .bool true) rfl rfl rfl ?_
  refine plD ?_
  refine then_normal (hK295 _ _ ?_)
  refine wp_seq_k fun K313 hK313 => ?_
  refine plStart ?_
  refine lk (v := .pointer (some ⟨g22, 4, none⟩)) rfl rfl rfl ?_
  rcases bool_or (M2.ok) with h314 | h314
  · refine litVal (v := .bool false) rfl (wn rfl) (boolTo h314 (gLoad (v := .bool M2.ok) (k := 4) 5 hm297 rfl (by kernel_rfl) (.tmp 97) (by kernel_rfl) rfl (litEv (by kernel_rfl)))) rfl (by decide) ?_
    refine lk (v := .bool false) rfl rfl rfl ?_
    refine plSkip (i := 3) rfl (wgN rfl rfl rfl (by decide) (by kernel_rfl)) ?_
    refine qP rfl ?_
    refine lk (v := .bool false) rfl rfl rfl ?_
    refine lk (v := .bool false) rfl rfl rfl ?_
    refine plSkip (i := 6) rfl (wgN rfl rfl rfl (by decide) (by kernel_rfl)) ?_
    refine qP rfl ?_
    refine lk (v := .bool false) rfl rfl rfl ?_
    refine lk (v := .bool false) rfl rfl rfl ?_
    refine plSkip (i := 9) rfl (wgN rfl rfl rfl (by decide) (by kernel_rfl)) ?_
    refine qP rfl ?_
    refine lk (v := .bool false) rfl rfl rfl ?_
    refine lk (v := .pointer (some ⟨g22, 4, none⟩)) rfl rfl rfl ?_
    refine plStore1 (v := .bool false) (k := 4) 5 (by kernel_rfl) hm297 rfl (i := 12) rfl (wn rfl) rfl (litEv (by kernel_rfl)) (litEv (by kernel_rfl)) rfl rfl rfl ?_
    intro w316 hm315
    clear hm297
    try simp only [List.cons_append, List.nil_append, List.set_cons_succ, List.set_cons_zero] at hm315
    refine qNone rfl ?_
    refine plD ?_
    refine then_normal (hK313 _ _ ?_)
    refine wpPrune [(6, .pointer (some ⟨g11, 0, none⟩)), (8, .pointer (some ⟨g22, 0, none⟩))] ⟨litGet (by kernel_rfl), ⟨litGet (by kernel_rfl), trivial⟩⟩ (fun X317 => ?_)
    refine wp_seq_k fun K318 hK318 => ?_
    refine plStart ?_
    refine litVal (v := .agg ([.int .i64 M2.a.1, .int .i64 M2.a.2, .int .i64 M2.b.1, .int .i64 M2.b.2, .bool false]).toArray) rfl (wn rfl) (gLoadAg (vs := [.int .i64 M2.a.1, .int .i64 M2.a.2, .int .i64 M2.b.1, .int .i64 M2.b.2, .bool false]) (k := 0) 5 hm315 rfl (by kernel_rfl) (by kernel_rfl) (.tmp 8) Ty.ag_voxel_voxelref42_Between rfl (litEv (by kernel_rfl))) rfl (by decide) ?_
    refine plStore 3 Ty.ag_voxel_voxelref42_Between hm315 rfl (i := 1) (cs := [.int .i64 M2.a.1, .int .i64 M2.a.2, .int .i64 M2.b.1, .int .i64 M2.b.2, .bool false]) rfl (wn rfl) rfl (litEv (by kernel_rfl)) (litEv (by kernel_rfl)) rfl rfl (by kernel_rfl) ?_
    intro w320 hm319
    clear hm315
    try simp only [List.cons_append, List.nil_append, List.set_cons_succ, List.set_cons_zero] at hm319
    refine qNone rfl ?_
    refine plD ?_
    refine then_normal (hK318 _ _ ?_)
    refine wp_ret ?_
    refine bodyPost_ret (v := .agg ([.int .i64 M2.a.1, .int .i64 M2.a.2, .int .i64 M2.b.1, .int .i64 M2.b.2, .bool false]).toArray) (gRes1 rfl (gResAg (cs := [.int .i64 M2.a.1, .int .i64 M2.a.2, .int .i64 M2.b.1, .int .i64 M2.b.2, .bool false]) 3 hm319 rfl Ty.ag_voxel_voxelref42_Between rfl (litGet (by kernel_rfl)))) rfl ?_
    exact ⟨by rw [hI]; simp [Btw.fin, bts, tcs, h188, h262, h298, h314], hm319.bel⟩
  refine litVal (v := .bool true) rfl (wn rfl) (boolTo h314 (gLoad (v := .bool M2.ok) (k := 4) 5 hm297 rfl (by kernel_rfl) (.tmp 97) (by kernel_rfl) rfl (litEv (by kernel_rfl)))) rfl (by decide) ?_
  refine lk (v := .bool true) rfl rfl rfl ?_
  refine litVal (v := .bool true) rfl (wgY rfl rfl rfl (by decide) (by kernel_rfl)) (litRun (by kernel_rfl)) rfl (by decide) ?_
  refine lk (v := .bool true) rfl rfl rfl ?_
  refine lk (v := .bool true) rfl rfl rfl ?_
  refine litVal (v := .bool true) rfl (wgY rfl rfl rfl (by decide) (by kernel_rfl)) (litRun (by kernel_rfl)) rfl (by decide) ?_
  refine lk (v := .bool true) rfl rfl rfl ?_
  refine lk (v := .bool true) rfl rfl rfl ?_
  refine litVal (v := .bool true) rfl (wgY rfl rfl rfl (by decide) (by kernel_rfl)) (litRun (by kernel_rfl)) rfl (by decide) ?_
  refine lk (v := .bool true) rfl rfl rfl ?_
  refine lk (v := .pointer (some ⟨g22, 4, none⟩)) rfl rfl rfl ?_
  refine plStore1 (v := .bool true) (k := 4) 5 (by kernel_rfl) hm297 rfl (i := 12) rfl (wn rfl) rfl (litEv (by kernel_rfl)) (litEv (by kernel_rfl)) rfl rfl rfl ?_
  intro w322 hm321
  clear hm297
  try simp only [List.cons_append, List.nil_append, List.set_cons_succ, List.set_cons_zero] at hm321
  refine qNone rfl ?_
  refine plD ?_
  refine then_normal (hK313 _ _ ?_)
  refine wpPrune [(6, .pointer (some ⟨g11, 0, none⟩)), (8, .pointer (some ⟨g22, 0, none⟩))] ⟨litGet (by kernel_rfl), ⟨litGet (by kernel_rfl), trivial⟩⟩ (fun X323 => ?_)
  refine wp_seq_k fun K324 hK324 => ?_
  refine plStart ?_
  refine litVal (v := .agg ([.int .i64 M2.a.1, .int .i64 M2.a.2, .int .i64 M2.b.1, .int .i64 M2.b.2, .bool true]).toArray) rfl (wn rfl) (gLoadAg (vs := [.int .i64 M2.a.1, .int .i64 M2.a.2, .int .i64 M2.b.1, .int .i64 M2.b.2, .bool true]) (k := 0) 5 hm321 rfl (by kernel_rfl) (by kernel_rfl) (.tmp 8) Ty.ag_voxel_voxelref42_Between rfl (litEv (by kernel_rfl))) rfl (by decide) ?_
  refine plStore 3 Ty.ag_voxel_voxelref42_Between hm321 rfl (i := 1) (cs := [.int .i64 M2.a.1, .int .i64 M2.a.2, .int .i64 M2.b.1, .int .i64 M2.b.2, .bool true]) rfl (wn rfl) rfl (litEv (by kernel_rfl)) (litEv (by kernel_rfl)) rfl rfl (by kernel_rfl) ?_
  intro w326 hm325
  clear hm321
  try simp only [List.cons_append, List.nil_append, List.set_cons_succ, List.set_cons_zero] at hm325
  refine qNone rfl ?_
  refine plD ?_
  refine then_normal (hK324 _ _ ?_)
  refine wp_ret ?_
  refine bodyPost_ret (v := .agg ([.int .i64 M2.a.1, .int .i64 M2.a.2, .int .i64 M2.b.1, .int .i64 M2.b.2, .bool true]).toArray) (gRes1 rfl (gResAg (cs := [.int .i64 M2.a.1, .int .i64 M2.a.2, .int .i64 M2.b.1, .int .i64 M2.b.2, .bool true]) 3 hm325 rfl Ty.ag_voxel_voxelref42_Between rfl (litGet (by kernel_rfl)))) rfl ?_
  exact ⟨by rw [hI]; simp [Btw.fin, bts, tcs, h188, h262, h298, h314], hm325.bel⟩
end Go.Proofs.Ytopdcdjmiepdfaa
