/-
  RE: several texts in one. No statement is proved here.
-/
import Derived.Test.YtopdcdjmiepdfaaRD
set_option linter.unusedVariables false
set_option linter.unusedSimpArgs false
namespace Go.Proofs.Ytopdcdjmiepdfaa
open Go.RowKit
set_option linter.unusedVariables false
set_option linter.unusedSimpArgs false
set_option maxRecDepth 100000 in
set_option maxHeartbeats 4000000 in
theorem inRange_any (l : List Pt) (A : Option Addr) (c : Nat) (w : World) (hn : l.length ≤ 1000) (hrd : Rd w w.heap.size 3 A l.length c (ptsC l)) : Calls Try.prog 35 #[.slice A l.length c] w (RetV w (.bool (decide (∀ p ∈ l, p.rng)))) := by
  have hm0 := Mem.nil w
  go_enter Try.func35, Try.ntmps35
  refine litStart 26 [(0, .slice A l.length c)] (by kernel_rfl) (fun X0 => ?_)
  refine wp_seq_k fun K1 hK1 => ?_
  refine plStart ?_
  refine litK (v := .bool false) rfl rfl (by kernel_rfl) rfl (by decide) ?_
  refine plDone (by decide) ?_
  refine then_normal (hK1 _ _ ?_)
  refine wp_seq_k fun K2 hK2 => ?_
  refine wp_seq_k fun K3 hK3 => ?_
  refine plStart ?_
  refine litK (v := .slice A l.length c) rfl rfl (by kernel_rfl) rfl (by decide) ?_
  refine litVal (v := .int .i64 (l.length : Int)) rfl (wn rfl) (lenSlRun (A := A) (n := l.length) (c := c) (.tmp 7) Ty.und_L_api_Point rfl (litEv (by kernel_rfl))) rfl (by decide) ?_
  refine litK (v := .int .i64 0) rfl rfl (by kernel_rfl) rfl (by decide) ?_
  refine plDone (by decide) ?_
  refine then_normal (hK3 _ _ ?_)
  refine wp_block ?_
  refine gwLoop (fun n_ a_ w_ => ∃ (k : Nat), n_ = l.length - k ∧ (k ≤ l.length) ∧ (∀ p ∈ l.take k, p.rng) ∧ Fr a_ 26 [(7, .slice A l.length c), (8, .int .i64 (l.length : Int)), (9, .int .i64 (k : Int))] ∧ Mem w w_ []) (l.length - 0) ⟨0, rfl, by omega, by simp, ⟨litSize, rfl, ⟨litGet (by kernel_rfl), ⟨litGet (by kernel_rfl), ⟨litGet (by kernel_rfl), trivial⟩⟩⟩⟩, hm0⟩ ?_
  clear hm0
  intro n_ a6 w4 hI_
  obtain ⟨k, rfl, hk_, hk2_, hF_, hm5⟩ := hI_
  obtain ⟨X7, rfl⟩ := frLit hF_
  clear hF_
  refine wp_seq_k fun K8 hK8 => ?_
  refine plStart ?_
  by_cases h9 : (k : Int) < (l.length : Int)
  · have hkl_ : k < l.length := by omega
    obtain ⟨p, hp⟩ : ∃ p, l[k]? = some p := ⟨_, List.getElem?_eq_getElem hkl_⟩
    obtain ⟨b_, off_, rfl, _, _⟩ := hrd.cells (by omega)
    refine litVal (v := .bool true) rfl (wn rfl) (boolTo (decide_eq_true h9) (lssRun (A := (k : Int)) (B := (l.length : Int)) (.tmp 9) (.tmp 8) rfl (litEv (by kernel_rfl)) (litEv (by kernel_rfl)))) rfl (by decide) ?_
    refine plDone (by decide) ?_
    refine then_normal (hK8 _ _ ?_)
    refine wp_seq_k fun K10 hK10 => ?_
    refine wp_cond_true (litEv (by kernel_rfl)) ?_
    refine wp_skip ?_
    refine then_normal (hK10 _ _ ?_)
    refine wp_seq_k fun K11 hK11 => ?_
    refine wp_block ?_
    refine wp_seq_k fun K12 hK12 => ?_
    refine plStart ?_
    refine litVal (v := .pointer (some ⟨b_, off_ + k * 3, none⟩)) rfl (wn rfl) (gIaSl (b := b_) (off := off_) (n := l.length) (c := c) (kk := .i64) (K := (k : Int)) (.tmp 7) (.tmp 9) k Ty.sl_L_api_Point rfl (litEv (by kernel_rfl)) (litEv (by kernel_rfl)) (rfl) (hkl_)) rfl (by decide) ?_
    refine litVal (v := .agg (pcs p).toArray) rfl (wn rfl) (gLoadAgRd (vs := pcs p) (m := k * 3) ((Rd.below hrd hm5.bel).more hm5.bel.size) rfl (ptsC_get hp) (by kernel_rfl) (by omega) (.tmp 11) Ty.ag_voxel_api_Point rfl (litEv (by kernel_rfl))) rfl (by decide) ?_
    refine plAlloc (z := [.int .i64 0, .int .i64 0, .int .i64 0]) Ty.ag_voxel_api_Point hm5 (i := 2) rfl (wn rfl) rfl ?_
    intro g13 w15 hm14
    clear hm5
    try simp only [List.cons_append, List.nil_append, List.set_cons_succ, List.set_cons_zero] at hm14
    refine qPut rfl (by decide) ?_
    refine plStore 0 Ty.ag_voxel_api_Point hm14 rfl (i := 3) (cs := pcs p) rfl (wn rfl) rfl (litEv (by kernel_rfl)) (litEv (by kernel_rfl)) rfl rfl (by kernel_rfl) ?_
    intro w17 hm16
    clear hm14
    try simp only [List.cons_append, List.nil_append, List.set_cons_succ, List.set_cons_zero] at hm16
    refine qNone rfl ?_
    refine plDone (by decide) ?_
    refine then_normal (hK12 _ _ ?_)
    refine wp_seq_k fun K18 hK18 => ?_
    refine plStart ?_
    refine litVal (v := .agg (pcs p).toArray) rfl (wn rfl) (gLoadAg (vs := pcs p) (k := 0) 0 hm16 rfl (by kernel_rfl) (by kernel_rfl) (.tmp 4) Ty.ag_voxel_api_Point rfl (litEv (by kernel_rfl))) rfl (by decide) ?_
    refine plCall (i := 1) 36 [.agg (pcs p).toArray] [] [] rfl (by kernel_rfl) (wn rfl) rfl (litEv (by kernel_rfl)) (litArgs (by kernel_rfl)) (coordinates_any p _) ?_
    rintro e w19 ⟨rfl, hbz⟩
    have hm20 := hm16.below hbz
    clear hbz hm16
    refine ⟨_, rfl, ?_⟩
    refine qPut rfl (by decide) ?_
    refine litK (v := .int .i64 0) rfl rfl (by kernel_rfl) rfl (by decide) ?_
    refine plDone (by decide) ?_
    refine then_normal (hK18 _ _ ?_)
    refine wp_block ?_
    refine roundsStart 3 ?_
    refine wp_seq_k fun K21 hK21 => ?_
    refine plStart ?_
    refine litK (v := .bool true) rfl rfl (by kernel_rfl) rfl (by decide) ?_
    refine plDone (by decide) ?_
    refine then_normal (hK21 _ _ ?_)
    refine wp_seq_k fun K22 hK22 => ?_
    refine wp_cond_true (litEv (by kernel_rfl)) ?_
    refine wp_skip ?_
    refine then_normal (hK22 _ _ ?_)
    refine wp_seq_k fun K23 hK23 => ?_
    refine wp_block ?_
    refine wp_seq_k fun K24 hK24 => ?_
    refine plStart ?_
    refine litK (v := .int .i64 p.x) rfl rfl (by kernel_rfl) rfl (by decide) ?_
    refine litK (v := .int .i64 p.x) rfl rfl (by kernel_rfl) rfl (by decide) ?_
    refine plDone (by decide) ?_
    refine then_normal (hK24 _ _ ?_)
    refine wp_seq_k fun K25 hK25 => ?_
    refine plStart ?_
    refine litK (v := .int .i64 p.x) rfl rfl (by kernel_rfl) rfl (by decide) ?_
    by_cases h26 : p.x < (-1048575)
    · refine litVal (v := .bool true) rfl (wn rfl) (boolTo (decide_eq_true h26) (lssRun (A := p.x) (B := (-1048575)) (.tmp 18) (.const (.int .i64 (-1048575))) rfl (litEv (by kernel_rfl)) (litEv (by kernel_rfl)))) rfl (by decide) ?_
      refine litK (v := .bool true) rfl rfl (by kernel_rfl) rfl (by decide) ?_
      refine plSkip (i := 3) rfl (wgN rfl rfl rfl (by decide) (by kernel_rfl)) ?_
      refine qPut rfl (by decide) ?_
      refine plSkip (i := 4) rfl (wgN rfl rfl rfl (by decide) (by kernel_rfl)) ?_
      refine qPut rfl (by decide) ?_
      refine litK (v := .bool true) rfl rfl (by kernel_rfl) rfl (by decide) ?_
      refine plDone (by decide) ?_
      refine then_normal (hK25 _ _ ?_)
      refine wp_cond_true (litEv (by kernel_rfl)) ?_
      refine wp_seq_k fun K27 hK27 => ?_
      refine plStart ?_
      refine litK (v := .bool false) rfl rfl (by kernel_rfl) rfl (by decide) ?_
      refine plDone (by decide) ?_
      refine then_normal (hK27 _ _ ?_)
      refine wp_ret ?_
      refine inBlock_ret ?_
      refine then_ret ?_
      refine then_ret ?_
      refine inBlock_ret ?_
      refine inBlock_ret ?_
      refine then_ret ?_
      refine then_ret ?_
      refine inBlock_ret ?_
      refine then_ret ?_
      refine bodyPost_ret (v := .bool false) (gRes1 rfl (gResTmp (t := 2) (v := .bool false) (litGet (by kernel_rfl)))) rfl ?_
      exact ⟨congrArg (fun b_ => Ending.returned (.bool b_)) (decide_eq_false (fun hall => by have hpr := hall p (List.mem_of_getElem? hp); unfold Pt.rng at hpr; omega)).symm, hm20.bel⟩
    refine litVal (v := .bool false) rfl (wn rfl) (boolTo (decide_eq_false h26) (lssRun (A := p.x) (B := (-1048575)) (.tmp 18) (.const (.int .i64 (-1048575))) rfl (litEv (by kernel_rfl)) (litEv (by kernel_rfl)))) rfl (by decide) ?_
    refine litK (v := .bool false) rfl rfl (by kernel_rfl) rfl (by decide) ?_
    refine litVal (v := .int .i64 p.x) rfl (wgY rfl rfl rfl (by decide) (by kernel_rfl)) (litRun (by kernel_rfl)) rfl (by decide) ?_
    by_cases h28 : 1048575 < p.x
    · refine litVal (v := .bool true) rfl (wgY rfl rfl rfl (by decide) (by kernel_rfl)) (boolTo (decide_eq_true h28) (gtrRun (A := p.x) (B := 1048575) (.tmp 21) (.const (.int .i64 1048575)) rfl (litEv (by kernel_rfl)) (litEv (by kernel_rfl)))) rfl (by decide) ?_
      refine litK (v := .bool true) rfl rfl (by kernel_rfl) rfl (by decide) ?_
      refine plDone (by decide) ?_
      refine then_normal (hK25 _ _ ?_)
      refine wp_cond_true (litEv (by kernel_rfl)) ?_
      refine wp_seq_k fun K29 hK29 => ?_
      refine plStart ?_
      refine litK (v := .bool false) rfl rfl (by kernel_rfl) rfl (by decide) ?_
      refine plDone (by decide) ?_
      refine then_normal (hK29 _ _ ?_)
      refine wp_ret ?_
      refine inBlock_ret ?_
      refine then_ret ?_
      refine then_ret ?_
      refine inBlock_ret ?_
      refine inBlock_ret ?_
      refine then_ret ?_
      refine then_ret ?_
      refine inBlock_ret ?_
      refine then_ret ?_
      refine bodyPost_ret (v := .bool false) (gRes1 rfl (gResTmp (t := 2) (v := .bool false) (litGet (by kernel_rfl)))) rfl ?_
      exact ⟨congrArg (fun b_ => Ending.returned (.bool b_)) (decide_eq_false (fun hall => by have hpr := hall p (List.mem_of_getElem? hp); unfold Pt.rng at hpr; omega)).symm, hm20.bel⟩
    refine litVal (v := .bool false) rfl (wgY rfl rfl rfl (by decide) (by kernel_rfl)) (boolTo (decide_eq_false h28) (gtrRun (A := p.x) (B := 1048575) (.tmp 21) (.const (.int .i64 1048575)) rfl (litEv (by kernel_rfl)) (litEv (by kernel_rfl)))) rfl (by decide) ?_
    refine litK (v := .bool false) rfl rfl (by kernel_rfl) rfl (by decide) ?_
    refine plDone (by decide) ?_
    refine then_normal (hK25 _ _ ?_)
    refine wp_cond_false (litEv (by kernel_rfl)) ?_
    refine wp_skip ?_
    refine inBlock_normal ?_
    refine then_normal (hK23 _ _ ?_)
    refine plStart ?_
    refine litK (v := .int .i64 1) rfl rfl (by kernel_rfl) rfl (by decide) ?_
    refine litK (v := .int .i64 1) rfl rfl (by kernel_rfl) rfl (by decide) ?_
    refine plDone (by decide) ?_
    refine then_normal (roundsNext ?_)
    refine wp_seq_k fun K30 hK30 => ?_
    refine plStart ?_
    refine litK (v := .bool true) rfl rfl (by kernel_rfl) rfl (by decide) ?_
    refine plDone (by decide) ?_
    refine then_normal (hK30 _ _ ?_)
    refine wp_seq_k fun K31 hK31 => ?_
    refine wp_cond_true (litEv (by kernel_rfl)) ?_
    refine wp_skip ?_
    refine then_normal (hK31 _ _ ?_)
    refine wp_seq_k fun K32 hK32 => ?_
    refine wp_block ?_
    refine wp_seq_k fun K33 hK33 => ?_
    refine plStart ?_
    refine litK (v := .int .i64 p.y) rfl rfl (by kernel_rfl) rfl (by decide) ?_
    refine litK (v := .int .i64 p.y) rfl rfl (by kernel_rfl) rfl (by decide) ?_
    refine plDone (by decide) ?_
    refine then_normal (hK33 _ _ ?_)
    refine wp_seq_k fun K34 hK34 => ?_
    refine plStart ?_
    refine litK (v := .int .i64 p.y) rfl rfl (by kernel_rfl) rfl (by decide) ?_
    by_cases h35 : p.y < (-1048575)
    · refine litVal (v := .bool true) rfl (wn rfl) (boolTo (decide_eq_true h35) (lssRun (A := p.y) (B := (-1048575)) (.tmp 18) (.const (.int .i64 (-1048575))) rfl (litEv (by kernel_rfl)) (litEv (by kernel_rfl)))) rfl (by decide) ?_
      refine litK (v := .bool true) rfl rfl (by kernel_rfl) rfl (by decide) ?_
      refine plSkip (i := 3) rfl (wgN rfl rfl rfl (by decide) (by kernel_rfl)) ?_
      refine qPut rfl (by decide) ?_
      refine plSkip (i := 4) rfl (wgN rfl rfl rfl (by decide) (by kernel_rfl)) ?_
      refine qPut rfl (by decide) ?_
      refine litK (v := .bool true) rfl rfl (by kernel_rfl) rfl (by decide) ?_
      refine plDone (by decide) ?_
      refine then_normal (hK34 _ _ ?_)
      refine wp_cond_true (litEv (by kernel_rfl)) ?_
      refine wp_seq_k fun K36 hK36 => ?_
      refine plStart ?_
      refine litK (v := .bool false) rfl rfl (by kernel_rfl) rfl (by decide) ?_
      refine plDone (by decide) ?_
      refine then_normal (hK36 _ _ ?_)
      refine wp_ret ?_
      refine inBlock_ret ?_
      refine then_ret ?_
      refine then_ret ?_
      refine inBlock_ret ?_
      refine inBlock_ret ?_
      refine then_ret ?_
      refine then_ret ?_
      refine inBlock_ret ?_
      refine then_ret ?_
      refine bodyPost_ret (v := .bool false) (gRes1 rfl (gResTmp (t := 2) (v := .bool false) (litGet (by kernel_rfl)))) rfl ?_
      exact ⟨congrArg (fun b_ => Ending.returned (.bool b_)) (decide_eq_false (fun hall => by have hpr := hall p (List.mem_of_getElem? hp); unfold Pt.rng at hpr; omega)).symm, hm20.bel⟩
    refine litVal (v := .bool false) rfl (wn rfl) (boolTo (decide_eq_false h35) (lssRun (A := p.y) (B := (-1048575)) (.tmp 18) (.const (.int .i64 (-1048575))) rfl (litEv (by kernel_rfl)) (litEv (by kernel_rfl)))) rfl (by decide) ?_
    refine litK (v := .bool false) rfl rfl (by kernel_rfl) rfl (by decide) ?_
    refine litVal (v := .int .i64 p.y) rfl (wgY rfl rfl rfl (by decide) (by kernel_rfl)) (litRun (by kernel_rfl)) rfl (by decide) ?_
    by_cases h37 : 1048575 < p.y
    · refine litVal (v := .bool true) rfl (wgY rfl rfl rfl (by decide) (by kernel_rfl)) (boolTo (decide_eq_true h37) (gtrRun (A := p.y) (B := 1048575) (.tmp 21) (.const (.int .i64 1048575)) rfl (litEv (by kernel_rfl)) (litEv (by kernel_rfl)))) rfl (by decide) ?_
      refine litK (v := .bool true) rfl rfl (by kernel_rfl) rfl (by decide) ?_
      refine plDone (by decide) ?_
      refine then_normal (hK34 _ _ ?_)
      refine wp_cond_true (litEv (by kernel_rfl)) ?_
      refine wp_seq_k fun K38 hK38 => ?_
      refine plStart ?_
      refine litK (v := .bool false) rfl rfl (by kernel_rfl) rfl (by decide) ?_
      refine plDone (by decide) ?_
      refine then_normal (hK38 _ _ ?_)
      refine wp_ret ?_
      refine inBlock_ret ?_
      refine then_ret ?_
      refine then_ret ?_
      refine inBlock_ret ?_
      refine inBlock_ret ?_
      refine then_ret ?_
      refine then_ret ?_
      refine inBlock_ret ?_
      refine then_ret ?_
      refine bodyPost_ret (v := .bool false) (gRes1 rfl (gResTmp (t := 2) (v := .bool false) (litGet (by kernel_rfl)))) rfl ?_
      exact ⟨congrArg (fun b_ => Ending.returned (.bool b_)) (decide_eq_false (fun hall => by have hpr := hall p (List.mem_of_getElem? hp); unfold Pt.rng at hpr; omega)).symm, hm20.bel⟩
    refine litVal (v := .bool false) rfl (wgY rfl rfl rfl (by decide) (by kernel_rfl)) (boolTo (decide_eq_false h37) (gtrRun (A := p.y) (B := 1048575) (.tmp 21) (.const (.int .i64 1048575)) rfl (litEv (by kernel_rfl)) (litEv (by kernel_rfl)))) rfl (by decide) ?_
    refine litK (v := .bool false) rfl rfl (by kernel_rfl) rfl (by decide) ?_
    refine plDone (by decide) ?_
    refine then_normal (hK34 _ _ ?_)
    refine wp_cond_false (litEv (by kernel_rfl)) ?_
    refine wp_skip ?_
    refine inBlock_normal ?_
    refine then_normal (hK32 _ _ ?_)
    refine plStart ?_
    refine litK (v := .int .i64 2) rfl rfl (by kernel_rfl) rfl (by decide) ?_
    refine litK (v := .int .i64 2) rfl rfl (by kernel_rfl) rfl (by decide) ?_
    refine plDone (by decide) ?_
    refine then_normal (roundsNext ?_)
    refine wp_seq_k fun K39 hK39 => ?_
    refine plStart ?_
    refine litK (v := .bool true) rfl rfl (by kernel_rfl) rfl (by decide) ?_
    refine plDone (by decide) ?_
    refine then_normal (hK39 _ _ ?_)
    refine wpPrune [(4, .pointer (some ⟨g13, 0, none⟩)), (6, .int .i64 p.y), (7, .slice (some ⟨b_, off_, none⟩) l.length c), (8, .int .i64 (l.length : Int)), (9, .int .i64 (k : Int)), (10, .bool true), (11, .pointer (some ⟨b_, off_ + k * 3, none⟩)), (12, .agg (pcs p).toArray), (13, .agg (pcs p).toArray), (14, .agg (pcs p).toArray), (15, .int .i64 2), (16, .bool true), (17, .int .i64 p.y), (18, .int .i64 p.y), (19, .bool false), (20, .bool false), (21, .int .i64 p.y), (22, .bool false), (23, .bool false), (24, .int .i64 2)] ⟨litGet (by kernel_rfl), ⟨litGet (by kernel_rfl), ⟨litGet (by kernel_rfl), ⟨litGet (by kernel_rfl), ⟨litGet (by kernel_rfl), ⟨litGet (by kernel_rfl), ⟨litGet (by kernel_rfl), ⟨litGet (by kernel_rfl), ⟨litGet (by kernel_rfl), ⟨litGet (by kernel_rfl), ⟨litGet (by kernel_rfl), ⟨litGet (by kernel_rfl), ⟨litGet (by kernel_rfl), ⟨litGet (by kernel_rfl), ⟨litGet (by kernel_rfl), ⟨litGet (by kernel_rfl), ⟨litGet (by kernel_rfl), ⟨litGet (by kernel_rfl), ⟨litGet (by kernel_rfl), ⟨litGet (by kernel_rfl), trivial⟩⟩⟩⟩⟩⟩⟩⟩⟩⟩⟩⟩⟩⟩⟩⟩⟩⟩⟩⟩ (fun X40 => ?_)
    refine wp_seq_k fun K41 hK41 => ?_
    refine wp_cond_true (litEv (by kernel_rfl)) ?_
    refine wp_skip ?_
    refine then_normal (hK41 _ _ ?_)
    refine wp_seq_k fun K42 hK42 => ?_
    refine wp_block ?_
    refine wp_seq_k fun K43 hK43 => ?_
    refine plStart ?_
    refine litK (v := .int .i64 p.z) rfl rfl (by kernel_rfl) rfl (by decide) ?_
    refine litK (v := .int .i64 p.z) rfl rfl (by kernel_rfl) rfl (by decide) ?_
    refine plDone (by decide) ?_
    refine then_normal (hK43 _ _ ?_)
    refine wp_seq_k fun K44 hK44 => ?_
    refine plStart ?_
    refine litK (v := .int .i64 p.z) rfl rfl (by kernel_rfl) rfl (by decide) ?_
    by_cases h45 : p.z < (-1048575)
    · refine litVal (v := .bool true) rfl (wn rfl) (boolTo (decide_eq_true h45) (lssRun (A := p.z) (B := (-1048575)) (.tmp 18) (.const (.int .i64 (-1048575))) rfl (litEv (by kernel_rfl)) (litEv (by kernel_rfl)))) rfl (by decide) ?_
      refine litK (v := .bool true) rfl rfl (by kernel_rfl) rfl (by decide) ?_
      refine plSkip (i := 3) rfl (wgN rfl rfl rfl (by decide) (by kernel_rfl)) ?_
      refine qPut rfl (by decide) ?_
      refine plSkip (i := 4) rfl (wgN rfl rfl rfl (by decide) (by kernel_rfl)) ?_
      refine qPut rfl (by decide) ?_
      refine litK (v := .bool true) rfl rfl (by kernel_rfl) rfl (by decide) ?_
      refine plDone (by decide) ?_
      refine then_normal (hK44 _ _ ?_)
      refine wp_cond_true (litEv (by kernel_rfl)) ?_
      refine wp_seq_k fun K46 hK46 => ?_
      refine plStart ?_
      refine litK (v := .bool false) rfl rfl (by kernel_rfl) rfl (by decide) ?_
      refine plDone (by decide) ?_
      refine then_normal (hK46 _ _ ?_)
      refine wp_ret ?_
      refine inBlock_ret ?_
      refine then_ret ?_
      refine then_ret ?_
      refine inBlock_ret ?_
      refine inBlock_ret ?_
      refine then_ret ?_
      refine then_ret ?_
      refine inBlock_ret ?_
      refine then_ret ?_
      refine bodyPost_ret (v := .bool false) (gRes1 rfl (gResTmp (t := 2) (v := .bool false) (litGet (by kernel_rfl)))) rfl ?_
      exact ⟨congrArg (fun b_ => Ending.returned (.bool b_)) (decide_eq_false (fun hall => by have hpr := hall p (List.mem_of_getElem? hp); unfold Pt.rng at hpr; omega)).symm, hm20.bel⟩
    refine litVal (v := .bool false) rfl (wn rfl) (boolTo (decide_eq_false h45) (lssRun (A := p.z) (B := (-1048575)) (.tmp 18) (.const (.int .i64 (-1048575))) rfl (litEv (by kernel_rfl)) (litEv (by kernel_rfl)))) rfl (by decide) ?_
    refine litK (v := .bool false) rfl rfl (by kernel_rfl) rfl (by decide) ?_
    refine litVal (v := .int .i64 p.z) rfl (wgY rfl rfl rfl (by decide) (by kernel_rfl)) (litRun (by kernel_rfl)) rfl (by decide) ?_
    by_cases h47 : 1048575 < p.z
    · refine litVal (v := .bool true) rfl (wgY rfl rfl rfl (by decide) (by kernel_rfl)) (boolTo (decide_eq_true h47) (gtrRun (A := p.z) (B := 1048575) (.tmp 21) (.const (.int .i64 1048575)) rfl (litEv (by kernel_rfl)) (litEv (by kernel_rfl)))) rfl (by decide) ?_
      refine litK (v := .bool true) rfl rfl (by kernel_rfl) rfl (by decide) ?_
      refine plDone (by decide) ?_
      refine then_normal (hK44 _ _ ?_)
      refine wp_cond_true (litEv (by kernel_rfl)) ?_
      refine wp_seq_k fun K48 hK48 => ?_
      refine plStart ?_
      refine litK (v := .bool false) rfl rfl (by kernel_rfl) rfl (by decide) ?_
      refine plDone (by decide) ?_
      refine then_normal (hK48 _ _ ?_)
      refine wp_ret ?_
      refine inBlock_ret ?_
      refine then_ret ?_
      refine then_ret ?_
      refine inBlock_ret ?_
      refine inBlock_ret ?_
      refine then_ret ?_
      refine then_ret ?_
      refine inBlock_ret ?_
      refine then_ret ?_
      refine bodyPost_ret (v := .bool false) (gRes1 rfl (gResTmp (t := 2) (v := .bool false) (litGet (by kernel_rfl)))) rfl ?_
      exact ⟨congrArg (fun b_ => Ending.returned (.bool b_)) (decide_eq_false (fun hall => by have hpr := hall p (List.mem_of_getElem? hp); unfold Pt.rng at hpr; omega)).symm, hm20.bel⟩
    refine litVal (v := .bool false) rfl (wgY rfl rfl rfl (by decide) (by kernel_rfl)) (boolTo (decide_eq_false h47) (gtrRun (A := p.z) (B := 1048575) (.tmp 21) (.const (.int .i64 1048575)) rfl (litEv (by kernel_rfl)) (litEv (by kernel_rfl)))) rfl (by decide) ?_
    refine litK (v := .bool false) rfl rfl (by kernel_rfl) rfl (by decide) ?_
    refine plDone (by decide) ?_
    refine then_normal (hK44 _ _ ?_)
    refine wp_cond_false (litEv (by kernel_rfl)) ?_
    refine wp_skip ?_
    refine inBlock_normal ?_
    refine then_normal (hK42 _ _ ?_)
    refine plStart ?_
    refine litK (v := .int .i64 3) rfl rfl (by kernel_rfl) rfl (by decide) ?_
    refine litK (v := .int .i64 3) rfl rfl (by kernel_rfl) rfl (by decide) ?_
    refine plDone (by decide) ?_
    refine then_normal (roundsNext ?_)
    refine wp_seq_k fun K49 hK49 => ?_
    refine plStart ?_
    refine litK (v := .bool false) rfl rfl (by kernel_rfl) rfl (by decide) ?_
    refine plDone (by decide) ?_
    refine then_normal (hK49 _ _ ?_)
    refine wp_seq_k fun K50 hK50 => ?_
    refine wp_cond_false (litEv (by kernel_rfl)) ?_
    refine wp_exit ?_
    refine then_exit ?_
    refine then_exit ?_
    refine inBlock_exit ?_
    refine inBlock_normal ?_
    refine then_normal (hK11 _ _ ?_)
    refine plStart ?_
    refine litVal (v := .int .i64 ((k : Int) + 1)) rfl (wn rfl) (addRun (A := (k : Int)) (B := 1) (C := (k : Int) + 1) (.tmp 9) (.const (.int .i64 1)) rfl (litEv (by kernel_rfl)) (litEv (by kernel_rfl)) rfl (by omega)) rfl (by decide) ?_
    refine litK (v := .int .i64 ((k : Int) + 1)) rfl rfl (by kernel_rfl) rfl (by decide) ?_
    refine plDone (by decide) ?_
    refine then_normal ?_
    exact ⟨_, by omega, (k + 1), rfl, by omega, rngAll_succ hp hk2_ (by unfold Pt.rng; omega), ⟨litSize, rfl, ⟨litGet (by kernel_rfl), ⟨litGet (by kernel_rfl), ⟨litGet (by kernel_rfl), trivial⟩⟩⟩⟩, (hm20.sub (List.nil_sublist _))⟩
  refine litVal (v := .bool false) rfl (wn rfl) (boolTo (decide_eq_false h9) (lssRun (A := (k : Int)) (B := (l.length : Int)) (.tmp 9) (.tmp 8) rfl (litEv (by kernel_rfl)) (litEv (by kernel_rfl)))) rfl (by decide) ?_
  refine plDone (by decide) ?_
  refine then_normal (hK8 _ _ ?_)
  refine wp_seq_k fun K51 hK51 => ?_
  refine wp_cond_false (litEv (by kernel_rfl)) ?_
  refine wp_exit ?_
  refine then_exit ?_
  refine then_exit ?_
  refine inBlock_exit ?_
  refine then_normal (hK2 _ _ ?_)
  refine wp_seq_k fun K52 hK52 => ?_
  refine plStart ?_
  refine litK (v := .bool true) rfl rfl (by kernel_rfl) rfl (by decide) ?_
  refine plDone (by decide) ?_
  refine then_normal (hK52 _ _ ?_)
  refine wp_ret ?_
  refine bodyPost_ret (v := .bool true) (gRes1 rfl (gResTmp (t := 2) (v := .bool true) (litGet (by kernel_rfl)))) rfl ?_
  exact ⟨congrArg (fun b_ => Ending.returned (.bool b_)) (decide_eq_true (by rw [List.take_of_length_le (by omega)] at hk2_; exact hk2_)).symm, hm5.bel⟩
set_option maxRecDepth 100000 in
set_option maxHeartbeats 4000000 in
theorem check_any (a b : Pt) (w : World) : Calls Try.prog 31 #[.agg (pcs a).toArray, .agg (pcs b).toArray] w (RetV w (.int .i64 (ckE a b))) := by
  have hm0 := Mem.nil w
  go_enter Try.func31, Try.ntmps31
  refine litStart 41 [(0, .agg (pcs a).toArray), (1, .agg (pcs b).toArray)] (by kernel_rfl) (fun X0 => ?_)
  refine wp_seq_k fun K1 hK1 => ?_
  refine plStart ?_
  refine plBox hm0 (cs := pcs a) (i := 0) rfl (wn rfl) rfl (litEv (by kernel_rfl)) ?_
  intro g2 w4 hm3
  clear hm0
  try simp only [List.cons_append, List.nil_append, List.set_cons_succ, List.set_cons_zero] at hm3
  refine qPut rfl (by decide) ?_
  refine plBox hm3 (cs := pcs b) (i := 1) rfl (wn rfl) rfl (litEv (by kernel_rfl)) ?_
  intro g5 w7 hm6
  clear hm3
  try simp only [List.cons_append, List.nil_append, List.set_cons_succ, List.set_cons_zero] at hm6
  refine qPut rfl (by decide) ?_
  refine litK (v := .int .i64 0) rfl rfl (by kernel_rfl) rfl (by decide) ?_
  refine plDone (by decide) ?_
  refine then_normal (hK1 _ _ ?_)
  refine wp_seq_k fun K8 hK8 => ?_
  refine wp_seq_k fun K9 hK9 => ?_
  refine plStart ?_
  refine litVal (v := .agg (pcs a).toArray) rfl (wn rfl) (gLoadAg (vs := pcs a) (k := 0) 0 hm6 rfl (by kernel_rfl) (by kernel_rfl) (.tmp 2) Ty.ag_voxel_api_Point rfl (litEv (by kernel_rfl))) rfl (by decide) ?_
  refine litVal (v := .agg (pcs b).toArray) rfl (wn rfl) (gLoadAg (vs := pcs b) (k := 0) 1 hm6 rfl (by kernel_rfl) (by kernel_rfl) (.tmp 3) Ty.ag_voxel_api_Point rfl (litEv (by kernel_rfl))) rfl (by decide) ?_
  refine plLit (cs := [.int .i64 a.x, .int .i64 a.y, .int .i64 a.z, .int .i64 b.x, .int .i64 b.y, .int .i64 b.z]) (n := 2) Ty.sl_L_api_Point hm6 (i := 2) rfl (wn rfl) rfl (by decide) (by decide) (by rw [lit_eval]; kernel_rfl) ?_
  intro g10 w12 hm11
  clear hm6
  try simp only [List.cons_append, List.nil_append, List.set_cons_succ, List.set_cons_zero] at hm11
  refine qPut rfl (by decide) ?_
  refine plCall (i := 3) 35 [.slice (some ⟨g10, 0, none⟩) 2 2] [] [] rfl (by kernel_rfl) (wn rfl) rfl (litEv (by kernel_rfl)) (litArgs (by kernel_rfl)) (by have h := inRange_any [a, b] (some ⟨g10, 0, none⟩) 2 w12 (of_decide_eq_true (by kernel_rfl)) (Rd.of_arr (t := 23) (cs := [.int .i64 a.x, .int .i64 a.y, .int .i64 a.z, .int .i64 b.x, .int .i64 b.y, .int .i64 b.z]) (hm11.arr 2 (by kernel_rfl)) (by kernel_rfl) (of_decide_eq_true (by kernel_rfl))); rw [rng2] at h; exact h) ?_
  rintro e w13 ⟨rfl, hbz⟩
  have hm14 := hm11.below hbz
  clear hbz hm11
  refine ⟨_, rfl, ?_⟩
  refine qPut rfl (by decide) ?_
  rcases bool_or (decide (a.rng ∧ b.rng)) with h15 | h15
  · rw [h15]
    refine litK (v := .bool true) rfl rfl (by kernel_rfl) rfl (by decide) ?_
    refine plDone (by decide) ?_
    refine then_normal (hK9 _ _ ?_)
    refine wp_cond_true (litEv (by kernel_rfl)) ?_
    refine wp_seq_k fun K16 hK16 => ?_
    refine plStart ?_
    refine litK (v := .int .i64 1) rfl rfl (by kernel_rfl) rfl (by decide) ?_
    refine plDone (by decide) ?_
    refine then_normal (hK16 _ _ ?_)
    refine wp_ret ?_
    refine then_ret ?_
    refine bodyPost_ret (v := .int .i64 1) (gRes1 rfl (gResTmp (t := 4) (v := .int .i64 1) (litGet (by kernel_rfl)))) rfl ?_
    exact ⟨by unfold ckE; rw [if_neg (of_decide_eq_false h15)], hm14.bel⟩
  rw [h15]
  refine litK (v := .bool false) rfl rfl (by kernel_rfl) rfl (by decide) ?_
  refine plDone (by decide) ?_
  refine then_normal (hK9 _ _ ?_)
  refine wp_cond_false (litEv (by kernel_rfl)) ?_
  refine wp_skip ?_
  refine then_normal (hK8 _ _ ?_)
  refine wp_seq_k fun K17 hK17 => ?_
  refine plStart ?_
  refine litK (v := .int .i64 0) rfl rfl (by kernel_rfl) rfl (by decide) ?_
  refine plDone (by decide) ?_
  refine then_normal (hK17 _ _ ?_)
  refine wp_seq_k fun K18 hK18 => ?_
  refine aoStart (aoV [fun _ => .agg (pcs a).toArray, fun _ => .agg (pcs a).toArray, fun _ => .agg (pcs b).toArray, fun _ => .agg (pcs b).toArray, fun γ_ => .pointer (some ⟨γ_, 0, none⟩), fun γ_ => .pointer (some ⟨γ_, 0, none⟩), fun _ => undef, fun _ => undef]) (aoA [0, 1, 2, 3, 4, 5, 6, 7]) (fun b_ g_ => ((.arr g2 23 (pcs a)) :: (.arr g5 23 (pcs b)) :: (.arr g10 23 ([.int .i64 a.x, .int .i64 a.y, .int .i64 a.z, .int .i64 b.x, .int .i64 b.y, .int .i64 b.z])) :: (bsel (b_ 4) (.arr (g_ 4) 71 (bsel (b_ 6) [.int .i64 a.x, .int .i64 a.y, .int .i64 a.z] [.int .i64 0, .int .i64 0, .int .i64 0])) .free) :: (bsel (b_ 5) (.arr (g_ 5) 71 (bsel (b_ 7) [.int .i64 b.x, .int .i64 b.y, .int .i64 b.z] [.int .i64 0, .int .i64 0, .int .i64 0])) .free) :: [])) hm14 (by kernel_rfl) (by kernel_rfl) (fun w_ h_ => h_.pushFree.pushFree) (fun b_ g_ h_ => by show (fun (x4_ x5_ x6_ x7_ : Bool) => (((.arr g2 23 (pcs a)) :: (.arr g5 23 (pcs b)) :: (.arr g10 23 ([.int .i64 a.x, .int .i64 a.y, .int .i64 a.z, .int .i64 b.x, .int .i64 b.y, .int .i64 b.z])) :: (bsel x4_ (.arr (g_ 4) 71 (bsel x6_ [.int .i64 a.x, .int .i64 a.y, .int .i64 a.z] [.int .i64 0, .int .i64 0, .int .i64 0])) .free) :: (bsel x5_ (.arr (g_ 5) 71 (bsel x7_ [.int .i64 b.x, .int .i64 b.y, .int .i64 b.z] [.int .i64 0, .int .i64 0, .int .i64 0])) .free) :: []) : List Res)) (b_ 4) (b_ 5) (b_ 6) (b_ 7) = _; rw [h_ 4 (by decide), h_ 5 (by decide), h_ 6 (by decide), h_ 7 (by decide)]) ?_ ?_
  · refine aoNext rfl (aoVal (fun g_ => [(2, .pointer (some ⟨g2, 0, none⟩))]) (fun g_ a_ h_k => ⟨(h_k.out 2 (by kernel_rfl)).trans (litGet (by kernel_rfl)), trivial⟩) (fun g_ X_ => (wn rfl)) (fun b_ g_ => by kernel_rfl) (fun b_ g_ X_ w_ h_b h_ => valTo (b := .agg (pcs a).toArray) (by kernel_rfl) (gLoadAg (vs := pcs a) (k := 0) 0 h_ rfl (by kernel_rfl) (by kernel_rfl) (.tmp 2) Ty.ag_voxel_api_Point rfl (litEv (by kernel_rfl))))) ?_
    refine aoNext rfl (aoCall (fun g_ => [(14, .agg (pcs a).toArray)]) (fun g_ a_ h_k => ⟨(h_k.inn 0 _ _ (by kernel_rfl) rfl rfl).trans (by kernel_rfl), trivial⟩) 36 (fun g_ => [.agg (pcs a).toArray]) [] [] (by kernel_rfl) (fun g_ X_ => (wn rfl)) (fun b_ g_ => by kernel_rfl) rfl (fun g_ X_ => litEv (by kernel_rfl)) (fun g_ X_ => litArgs (by kernel_rfl)) (fun b_ g_ w_ h_b h_ => (coordinates_any a _).mono (fun _ _ h_r => ⟨h_r.1.trans (by kernel_rfl), h_r.2⟩))) ?_
    refine aoNext rfl (aoVal (fun g_ => [(3, .pointer (some ⟨g5, 0, none⟩))]) (fun g_ a_ h_k => ⟨(h_k.out 3 (by kernel_rfl)).trans (litGet (by kernel_rfl)), trivial⟩) (fun g_ X_ => (wn rfl)) (fun b_ g_ => by kernel_rfl) (fun b_ g_ X_ w_ h_b h_ => valTo (b := .agg (pcs b).toArray) (by kernel_rfl) (gLoadAg (vs := pcs b) (k := 0) 1 h_ rfl (by kernel_rfl) (by kernel_rfl) (.tmp 3) Ty.ag_voxel_api_Point rfl (litEv (by kernel_rfl))))) ?_
    refine aoNext rfl (aoCall (fun g_ => [(16, .agg (pcs b).toArray)]) (fun g_ a_ h_k => ⟨(h_k.inn 2 _ _ (by kernel_rfl) rfl rfl).trans (by kernel_rfl), trivial⟩) 36 (fun g_ => [.agg (pcs b).toArray]) [] [] (by kernel_rfl) (fun g_ X_ => (wn rfl)) (fun b_ g_ => by kernel_rfl) rfl (fun g_ X_ => litEv (by kernel_rfl)) (fun g_ X_ => litArgs (by kernel_rfl)) (fun b_ g_ w_ h_b h_ => (coordinates_any b _).mono (fun _ _ h_r => ⟨h_r.1.trans (by kernel_rfl), h_r.2⟩))) ?_
    refine aoNext rfl (aoNewAg (z := [.int .i64 0, .int .i64 0, .int .i64 0]) 3 Ty.ag_3_int rfl rfl (fun _ _ _ => ⟨_, rfl⟩) (fun b_ g_ γ_ h_b => Eq.trans (by kernel_rfl) (congrArg (fun x_ => List.set _ 3 (Res.arr γ_ 71 x_)) (bselF (α := List Value) (h_b.post 6 (by kernel_rfl)) [.int .i64 a.x, .int .i64 a.y, .int .i64 a.z] [.int .i64 0, .int .i64 0, .int .i64 0]))) (fun _ => by kernel_rfl) (by kernel_rfl)) ?_
    refine aoNext rfl (aoNewAg (z := [.int .i64 0, .int .i64 0, .int .i64 0]) 4 Ty.ag_3_int rfl rfl (fun _ _ _ => ⟨_, rfl⟩) (fun b_ g_ γ_ h_b => Eq.trans (by kernel_rfl) (congrArg (fun x_ => List.set _ 4 (Res.arr γ_ 71 x_)) (bselF (α := List Value) (h_b.post 7 (by kernel_rfl)) [.int .i64 b.x, .int .i64 b.y, .int .i64 b.z] [.int .i64 0, .int .i64 0, .int .i64 0]))) (fun _ => by kernel_rfl) (by kernel_rfl)) ?_
    refine aoNext rfl (aoStore (gb := fun g_ => (g_ 4)) (k := 0) (cur := fun g_ => [.int .i64 0, .int .i64 0, .int .i64 0]) (vs := fun g_ => pcs a) 3 (fun g_ => [(6, .pointer (some ⟨(g_ 4), 0, none⟩)), (15, .agg (pcs a).toArray)]) (fun g_ a_ h_k => ⟨(h_k.inn 4 _ _ (by kernel_rfl) rfl rfl).trans (by kernel_rfl), (h_k.inn 1 _ _ (by kernel_rfl) rfl rfl).trans (by kernel_rfl), trivial⟩) Ty.ag_3_int (fun b_ g_ h_b => by show some (bsel (b_ 4) (Res.arr (g_ 4) 71 (bsel (b_ 6) [.int .i64 a.x, .int .i64 a.y, .int .i64 a.z] [.int .i64 0, .int .i64 0, .int .i64 0])) Res.free) = some (Res.arr (g_ 4) 71 ([.int .i64 0, .int .i64 0, .int .i64 0])); rw [bselT (h_b.pre 4 (by kernel_rfl)), bselF h_b.no]) (fun g_ X_ => (wn rfl)) rfl (fun g_ X_ => litEv (by kernel_rfl)) (fun g_ X_ => litEv (by kernel_rfl)) (fun _ => by kernel_rfl) (fun _ => by kernel_rfl) (fun _ => by kernel_rfl) (fun b_ g_ h_b => Eq.trans (b := List.set (((.arr g2 23 (pcs a)) :: (.arr g5 23 (pcs b)) :: (.arr g10 23 ([.int .i64 a.x, .int .i64 a.y, .int .i64 a.z, .int .i64 b.x, .int .i64 b.y, .int .i64 b.z])) :: (bsel (b_ 4) (.arr (g_ 4) 71 (bsel (b_ 6) [.int .i64 a.x, .int .i64 a.y, .int .i64 a.z] [.int .i64 0, .int .i64 0, .int .i64 0])) .free) :: (bsel (b_ 5) (.arr (g_ 5) 71 (bsel (b_ 7) [.int .i64 b.x, .int .i64 b.y, .int .i64 b.z] [.int .i64 0, .int .i64 0, .int .i64 0])) .free) :: [])) 3 (bsel (b_ 4) (Res.arr (g_ 4) 71 ([.int .i64 a.x, .int .i64 a.y, .int .i64 a.z])) Res.free)) (by kernel_rfl) (congrArg (fun x_ => List.set _ 3 x_) (bselT (h_b.pre 4 (by kernel_rfl)) _ _))) rfl) ?_
    refine aoNext rfl (aoStore (gb := fun g_ => (g_ 5)) (k := 0) (cur := fun g_ => [.int .i64 0, .int .i64 0, .int .i64 0]) (vs := fun g_ => pcs b) 4 (fun g_ => [(7, .pointer (some ⟨(g_ 5), 0, none⟩)), (17, .agg (pcs b).toArray)]) (fun g_ a_ h_k => ⟨(h_k.inn 5 _ _ (by kernel_rfl) rfl rfl).trans (by kernel_rfl), (h_k.inn 3 _ _ (by kernel_rfl) rfl rfl).trans (by kernel_rfl), trivial⟩) Ty.ag_3_int (fun b_ g_ h_b => by show some (bsel (b_ 5) (Res.arr (g_ 5) 71 (bsel (b_ 7) [.int .i64 b.x, .int .i64 b.y, .int .i64 b.z] [.int .i64 0, .int .i64 0, .int .i64 0])) Res.free) = some (Res.arr (g_ 5) 71 ([.int .i64 0, .int .i64 0, .int .i64 0])); rw [bselT (h_b.pre 5 (by kernel_rfl)), bselF h_b.no]) (fun g_ X_ => (wn rfl)) rfl (fun g_ X_ => litEv (by kernel_rfl)) (fun g_ X_ => litEv (by kernel_rfl)) (fun _ => by kernel_rfl) (fun _ => by kernel_rfl) (fun _ => by kernel_rfl) (fun b_ g_ h_b => Eq.trans (b := List.set (((.arr g2 23 (pcs a)) :: (.arr g5 23 (pcs b)) :: (.arr g10 23 ([.int .i64 a.x, .int .i64 a.y, .int .i64 a.z, .int .i64 b.x, .int .i64 b.y, .int .i64 b.z])) :: (bsel (b_ 4) (.arr (g_ 4) 71 (bsel (b_ 6) [.int .i64 a.x, .int .i64 a.y, .int .i64 a.z] [.int .i64 0, .int .i64 0, .int .i64 0])) .free) :: (bsel (b_ 5) (.arr (g_ 5) 71 (bsel (b_ 7) [.int .i64 b.x, .int .i64 b.y, .int .i64 b.z] [.int .i64 0, .int .i64 0, .int .i64 0])) .free) :: [])) 4 (bsel (b_ 5) (Res.arr (g_ 5) 71 ([.int .i64 b.x, .int .i64 b.y, .int .i64 b.z])) Res.free)) (by kernel_rfl) (congrArg (fun x_ => List.set _ 4 x_) (bselT (h_b.pre 5 (by kernel_rfl)) _ _))) rfl) ?_
    exact aoDone (by decide)
  intro g_ a_ w20 hF_ hm19
  obtain ⟨X21, rfl⟩ := frLit (⟨hF_.size, hF_.defers, ⟨(hF_.out 4 (by kernel_rfl)).trans (litGet (by kernel_rfl)), (hF_.out 5 (by kernel_rfl)).trans (litGet (by kernel_rfl)), (hF_.inn 4 _ _ rfl rfl).trans (by kernel_rfl), (hF_.inn 5 _ _ rfl rfl).trans (by kernel_rfl), (hF_.inn 0 _ _ rfl rfl).trans (by kernel_rfl), (hF_.inn 1 _ _ rfl rfl).trans (by kernel_rfl), (hF_.inn 2 _ _ rfl rfl).trans (by kernel_rfl), (hF_.inn 3 _ _ rfl rfl).trans (by kernel_rfl), trivial⟩⟩ : Fr _ 41 [(4, .int .i64 0), (5, .int .i64 0), (6, .pointer (some ⟨(g_ 4), 0, none⟩)), (7, .pointer (some ⟨(g_ 5), 0, none⟩)), (14, .agg (pcs a).toArray), (15, .agg (pcs a).toArray), (16, .agg (pcs b).toArray), (17, .agg (pcs b).toArray)])
  clear hF_
  have hm22 : Mem w w20 [.arr g2 23 (pcs a), .arr g5 23 (pcs b), .arr g10 23 ([.int .i64 a.x, .int .i64 a.y, .int .i64 a.z, .int .i64 b.x, .int .i64 b.y, .int .i64 b.z]), .arr (g_ 4) 71 ([.int .i64 a.x, .int .i64 a.y, .int .i64 a.z]), .arr (g_ 5) 71 ([.int .i64 b.x, .int .i64 b.y, .int .i64 b.z])] := hm19
  clear hm19 hm14
  generalize g_ 4 = g23 at hm22 ⊢
  generalize g_ 5 = g24 at hm22 ⊢
  clear g_
  refine then_normal (hK18 _ _ ?_)
  refine wp_seq_k fun K25 hK25 => ?_
  refine wp_seq_k fun K26 hK26 => ?_
  refine plStart ?_
  refine litK (v := .int .i64 0) rfl rfl (by kernel_rfl) rfl (by decide) ?_
  refine plDone (by decide) ?_
  refine then_normal (hK26 _ _ ?_)
  refine wp_block ?_
  refine roundsStart 3 ?_
  refine wp_seq_k fun K27 hK27 => ?_
  refine plStart ?_
  refine litK (v := .bool true) rfl rfl (by kernel_rfl) rfl (by decide) ?_
  refine plDone (by decide) ?_
  refine then_normal (hK27 _ _ ?_)
  refine wp_seq_k fun K28 hK28 => ?_
  refine wp_cond_true (litEv (by kernel_rfl)) ?_
  refine wp_skip ?_
  refine then_normal (hK28 _ _ ?_)
  refine wp_seq_k fun K29 hK29 => ?_
  refine wp_block ?_
  refine wp_seq_k fun K30 hK30 => ?_
  refine plStart ?_
  refine litK (v := .int .i64 0) rfl rfl (by kernel_rfl) rfl (by decide) ?_
  refine litK (v := .int .i64 0) rfl rfl (by kernel_rfl) rfl (by decide) ?_
  refine plDone (by decide) ?_
  refine then_normal (hK30 _ _ ?_)
  refine mgStart hm22 (by kernel_rfl) ?_
  intro w32 hm31
  clear hm22
  refine mgK (i := 0) (v := .int .i64 0) rfl (by kernel_rfl) rfl (fun _ _ _ h => h) hm31 (fun _ => by kernel_rfl) rfl (by decide) ?_
  refine mgK (i := 1) (v := .int .i64 0) rfl (by kernel_rfl) rfl (fun _ _ _ h => h) hm31 (fun _ => by kernel_rfl) rfl (by decide) ?_
  refine mgTake (i := 2) (v := .pointer (some ⟨g23, 0, none⟩)) rfl (by kernel_rfl) (wn rfl) (fun _ _ _ h => h) hm31 (fun w_ h_ => iaRun (b := g23) (off := 0) (s := 1) (n := 3) (kk := .i64) (.tmp 6) (.tmp 22) 0 Ty.und_3_int (by kernel_rfl) rfl (litEv (by kernel_rfl)) (litEv (by kernel_rfl)) rfl (by decide)) ?_
  refine mPut rfl (by decide) ?_
  refine mgTake (i := 3) (v := .int .i64 a.x) rfl (by kernel_rfl) (wn rfl) (fun _ _ _ h => h) hm31 (fun w_ h_ => gLoad (v := .int .i64 a.x) (k := 0) 3 h_ rfl (by kernel_rfl) (.tmp 23) (by kernel_rfl) rfl (litEv (by kernel_rfl))) ?_
  refine mPut rfl (by decide) ?_
  refine mgK (i := 4) (v := .int .i64 0) rfl (by kernel_rfl) rfl (fun _ _ _ h => h) hm31 (fun _ => by kernel_rfl) rfl (by decide) ?_
  refine mgTake (i := 5) (v := .pointer (some ⟨g24, 0, none⟩)) rfl (by kernel_rfl) (wn rfl) (fun _ _ _ h => h) hm31 (fun w_ h_ => iaRun (b := g24) (off := 0) (s := 1) (n := 3) (kk := .i64) (.tmp 7) (.tmp 25) 0 Ty.und_3_int (by kernel_rfl) rfl (litEv (by kernel_rfl)) (litEv (by kernel_rfl)) rfl (by decide)) ?_
  refine mPut rfl (by decide) ?_
  refine mgTake (i := 6) (v := .int .i64 b.x) rfl (by kernel_rfl) (wn rfl) (fun _ _ _ h => h) hm31 (fun w_ h_ => gLoad (v := .int .i64 b.x) (k := 0) 4 h_ rfl (by kernel_rfl) (.tmp 26) (by kernel_rfl) rfl (litEv (by kernel_rfl))) ?_
  refine mPut rfl (by decide) ?_
  refine mgTake (i := 7) (v := .int .i64 (a.x - b.x)) rfl (by kernel_rfl) (wn rfl) (fun _ _ _ h => h) hm31 (fun w_ h_ => subRun (A := a.x) (B := b.x) (C := a.x - b.x) (.tmp 24) (.tmp 27) rfl (litEv (by kernel_rfl)) (litEv (by kernel_rfl)) rfl (by have hr_ := of_decide_eq_true h15; unfold Pt.rng at hr_; omega)) ?_
  refine mPut rfl (by decide) ?_
  refine mgK (i := 8) (v := .int .i64 0) rfl (by kernel_rfl) rfl (fun _ _ _ h => h) hm31 (fun _ => by kernel_rfl) rfl (by decide) ?_
  refine mgTake (i := 9) (v := .pointer (some ⟨g24, 0, none⟩)) rfl (by kernel_rfl) (wn rfl) (fun _ _ _ h => h) hm31 (fun w_ h_ => iaRun (b := g24) (off := 0) (s := 1) (n := 3) (kk := .i64) (.tmp 7) (.tmp 29) 0 Ty.und_3_int (by kernel_rfl) rfl (litEv (by kernel_rfl)) (litEv (by kernel_rfl)) rfl (by decide)) ?_
  refine mPut rfl (by decide) ?_
  refine mgTake (i := 10) (v := .int .i64 b.x) rfl (by kernel_rfl) (wn rfl) (fun _ _ _ h => h) hm31 (fun w_ h_ => gLoad (v := .int .i64 b.x) (k := 0) 4 h_ rfl (by kernel_rfl) (.tmp 30) (by kernel_rfl) rfl (litEv (by kernel_rfl))) ?_
  refine mPut rfl (by decide) ?_
  refine mgK (i := 11) (v := .int .i64 0) rfl (by kernel_rfl) rfl (fun _ _ _ h => h) hm31 (fun _ => by kernel_rfl) rfl (by decide) ?_
  refine mgTake (i := 12) (v := .pointer (some ⟨g23, 0, none⟩)) rfl (by kernel_rfl) (wn rfl) (fun _ _ _ h => h) hm31 (fun w_ h_ => iaRun (b := g23) (off := 0) (s := 1) (n := 3) (kk := .i64) (.tmp 6) (.tmp 32) 0 Ty.und_3_int (by kernel_rfl) rfl (litEv (by kernel_rfl)) (litEv (by kernel_rfl)) rfl (by decide)) ?_
  refine mPut rfl (by decide) ?_
  refine mgTake (i := 13) (v := .int .i64 a.x) rfl (by kernel_rfl) (wn rfl) (fun _ _ _ h => h) hm31 (fun w_ h_ => gLoad (v := .int .i64 a.x) (k := 0) 3 h_ rfl (by kernel_rfl) (.tmp 33) (by kernel_rfl) rfl (litEv (by kernel_rfl))) ?_
  refine mPut rfl (by decide) ?_
  refine mgTake (i := 14) (v := .int .i64 (b.x - a.x)) rfl (by kernel_rfl) (wn rfl) (fun _ _ _ h => h) hm31 (fun w_ h_ => subRun (A := b.x) (B := a.x) (C := b.x - a.x) (.tmp 31) (.tmp 34) rfl (litEv (by kernel_rfl)) (litEv (by kernel_rfl)) rfl (by have hr_ := of_decide_eq_true h15; unfold Pt.rng at hr_; omega)) ?_
  refine mPut rfl (by decide) ?_
  refine mgTake (i := 15) (v := .int .i64 (max (a.x - b.x) (b.x - a.x))) rfl (by kernel_rfl) (wn rfl) (fun _ _ _ h => h) hm31 (fun w_ h_ => gMax (.tmp 28) (.tmp 35) rfl (litEv (by kernel_rfl)) (litEv (by kernel_rfl))) ?_
  refine mPut rfl (by decide) ?_
  refine mgTake (i := 16) (v := .int .i64 (0 + (max (a.x - b.x) (b.x - a.x)))) rfl (by kernel_rfl) (wn rfl) (fun _ _ _ h => h) hm31 (fun w_ h_ => addRun (A := 0) (B := (max (a.x - b.x) (b.x - a.x))) (C := 0 + (max (a.x - b.x) (b.x - a.x))) (.tmp 21) (.tmp 36) rfl (litEv (by kernel_rfl)) (litEv (by kernel_rfl)) rfl (by have hr_ := of_decide_eq_true h15; unfold Pt.rng at hr_; omega)) ?_
  refine mPut rfl (by decide) ?_
  refine mgK (i := 17) (v := .int .i64 (0 + (max (a.x - b.x) (b.x - a.x)))) rfl (by kernel_rfl) rfl (fun _ _ _ h => h) hm31 (fun _ => by kernel_rfl) rfl (by decide) ?_
  refine mgDone (by kernel_rfl) ?_
  refine inBlock_normal ?_
  refine then_normal (hK29 _ _ ?_)
  refine plStart ?_
  refine litK (v := .int .i64 1) rfl rfl (by kernel_rfl) rfl (by decide) ?_
  refine litK (v := .int .i64 1) rfl rfl (by kernel_rfl) rfl (by decide) ?_
  refine plDone (by decide) ?_
  refine then_normal (roundsNext ?_)
  refine wp_seq_k fun K33 hK33 => ?_
  refine plStart ?_
  refine litK (v := .bool true) rfl rfl (by kernel_rfl) rfl (by decide) ?_
  refine plDone (by decide) ?_
  refine then_normal (hK33 _ _ ?_)
  refine wp_seq_k fun K34 hK34 => ?_
  refine wp_cond_true (litEv (by kernel_rfl)) ?_
  refine wp_skip ?_
  refine then_normal (hK34 _ _ ?_)
  refine wp_seq_k fun K35 hK35 => ?_
  refine wp_block ?_
  refine wp_seq_k fun K36 hK36 => ?_
  refine plStart ?_
  refine litK (v := .int .i64 1) rfl rfl (by kernel_rfl) rfl (by decide) ?_
  refine litK (v := .int .i64 1) rfl rfl (by kernel_rfl) rfl (by decide) ?_
  refine plDone (by decide) ?_
  refine then_normal (hK36 _ _ ?_)
  refine mgStart hm31 (by kernel_rfl) ?_
  intro w38 hm37
  clear hm31
  refine mgK (i := 0) (v := .int .i64 (0 + (max (a.x - b.x) (b.x - a.x)))) rfl (by kernel_rfl) rfl (fun _ _ _ h => h) hm37 (fun _ => by kernel_rfl) rfl (by decide) ?_
  refine mgK (i := 1) (v := .int .i64 1) rfl (by kernel_rfl) rfl (fun _ _ _ h => h) hm37 (fun _ => by kernel_rfl) rfl (by decide) ?_
  refine mgTake (i := 2) (v := .pointer (some ⟨g23, 1, none⟩)) rfl (by kernel_rfl) (wn rfl) (fun _ _ _ h => h) hm37 (fun w_ h_ => iaRun (b := g23) (off := 0) (s := 1) (n := 3) (kk := .i64) (.tmp 6) (.tmp 22) 1 Ty.und_3_int (by kernel_rfl) rfl (litEv (by kernel_rfl)) (litEv (by kernel_rfl)) rfl (by decide)) ?_
  refine mPut rfl (by decide) ?_
  refine mgTake (i := 3) (v := .int .i64 a.y) rfl (by kernel_rfl) (wn rfl) (fun _ _ _ h => h) hm37 (fun w_ h_ => gLoad (v := .int .i64 a.y) (k := 1) 3 h_ rfl (by kernel_rfl) (.tmp 23) (by kernel_rfl) rfl (litEv (by kernel_rfl))) ?_
  refine mPut rfl (by decide) ?_
  refine mgK (i := 4) (v := .int .i64 1) rfl (by kernel_rfl) rfl (fun _ _ _ h => h) hm37 (fun _ => by kernel_rfl) rfl (by decide) ?_
  refine mgTake (i := 5) (v := .pointer (some ⟨g24, 1, none⟩)) rfl (by kernel_rfl) (wn rfl) (fun _ _ _ h => h) hm37 (fun w_ h_ => iaRun (b := g24) (off := 0) (s := 1) (n := 3) (kk := .i64) (.tmp 7) (.tmp 25) 1 Ty.und_3_int (by kernel_rfl) rfl (litEv (by kernel_rfl)) (litEv (by kernel_rfl)) rfl (by decide)) ?_
  refine mPut rfl (by decide) ?_
  refine mgTake (i := 6) (v := .int .i64 b.y) rfl (by kernel_rfl) (wn rfl) (fun _ _ _ h => h) hm37 (fun w_ h_ => gLoad (v := .int .i64 b.y) (k := 1) 4 h_ rfl (by kernel_rfl) (.tmp 26) (by kernel_rfl) rfl (litEv (by kernel_rfl))) ?_
  refine mPut rfl (by decide) ?_
  refine mgTake (i := 7) (v := .int .i64 (a.y - b.y)) rfl (by kernel_rfl) (wn rfl) (fun _ _ _ h => h) hm37 (fun w_ h_ => subRun (A := a.y) (B := b.y) (C := a.y - b.y) (.tmp 24) (.tmp 27) rfl (litEv (by kernel_rfl)) (litEv (by kernel_rfl)) rfl (by have hr_ := of_decide_eq_true h15; unfold Pt.rng at hr_; omega)) ?_
  refine mPut rfl (by decide) ?_
  refine mgK (i := 8) (v := .int .i64 1) rfl (by kernel_rfl) rfl (fun _ _ _ h => h) hm37 (fun _ => by kernel_rfl) rfl (by decide) ?_
  refine mgTake (i := 9) (v := .pointer (some ⟨g24, 1, none⟩)) rfl (by kernel_rfl) (wn rfl) (fun _ _ _ h => h) hm37 (fun w_ h_ => iaRun (b := g24) (off := 0) (s := 1) (n := 3) (kk := .i64) (.tmp 7) (.tmp 29) 1 Ty.und_3_int (by kernel_rfl) rfl (litEv (by kernel_rfl)) (litEv (by kernel_rfl)) rfl (by decide)) ?_
  refine mPut rfl (by decide) ?_
  refine mgTake (i := 10) (v := .int .i64 b.y) rfl (by kernel_rfl) (wn rfl) (fun _ _ _ h => h) hm37 (fun w_ h_ => gLoad (v := .int .i64 b.y) (k := 1) 4 h_ rfl (by kernel_rfl) (.tmp 30) (by kernel_rfl) rfl (litEv (by kernel_rfl))) ?_
  refine mPut rfl (by decide) ?_
  refine mgK (i := 11) (v := .int .i64 1) rfl (by kernel_rfl) rfl (fun _ _ _ h => h) hm37 (fun _ => by kernel_rfl) rfl (by decide) ?_
  refine mgTake (i := 12) (v := .pointer (some ⟨g23, 1, none⟩)) rfl (by kernel_rfl) (wn rfl) (fun _ _ _ h => h) hm37 (fun w_ h_ => iaRun (b := g23) (off := 0) (s := 1) (n := 3) (kk := .i64) (.tmp 6) (.tmp 32) 1 Ty.und_3_int (by kernel_rfl) rfl (litEv (by kernel_rfl)) (litEv (by kernel_rfl)) rfl (by decide)) ?_
  refine mPut rfl (by decide) ?_
  refine mgTake (i := 13) (v := .int .i64 a.y) rfl (by kernel_rfl) (wn rfl) (fun _ _ _ h => h) hm37 (fun w_ h_ => gLoad (v := .int .i64 a.y) (k := 1) 3 h_ rfl (by kernel_rfl) (.tmp 33) (by kernel_rfl) rfl (litEv (by kernel_rfl))) ?_
  refine mPut rfl (by decide) ?_
  refine mgTake (i := 14) (v := .int .i64 (b.y - a.y)) rfl (by kernel_rfl) (wn rfl) (fun _ _ _ h => h) hm37 (fun w_ h_ => subRun (A := b.y) (B := a.y) (C := b.y - a.y) (.tmp 31) (.tmp 34) rfl (litEv (by kernel_rfl)) (litEv (by kernel_rfl)) rfl (by have hr_ := of_decide_eq_true h15; unfold Pt.rng at hr_; omega)) ?_
  refine mPut rfl (by decide) ?_
  refine mgTake (i := 15) (v := .int .i64 (max (a.y - b.y) (b.y - a.y))) rfl (by kernel_rfl) (wn rfl) (fun _ _ _ h => h) hm37 (fun w_ h_ => gMax (.tmp 28) (.tmp 35) rfl (litEv (by kernel_rfl)) (litEv (by kernel_rfl))) ?_
  refine mPut rfl (by decide) ?_
  refine mgTake (i := 16) (v := .int .i64 ((0 + (max (a.x - b.x) (b.x - a.x))) + (max (a.y - b.y) (b.y - a.y)))) rfl (by kernel_rfl) (wn rfl) (fun _ _ _ h => h) hm37 (fun w_ h_ => addRun (A := (0 + (max (a.x - b.x) (b.x - a.x)))) (B := (max (a.y - b.y) (b.y - a.y))) (C := (0 + (max (a.x - b.x) (b.x - a.x))) + (max (a.y - b.y) (b.y - a.y))) (.tmp 21) (.tmp 36) rfl (litEv (by kernel_rfl)) (litEv (by kernel_rfl)) rfl (by have hr_ := of_decide_eq_true h15; unfold Pt.rng at hr_; omega)) ?_
  refine mPut rfl (by decide) ?_
  refine mgK (i := 17) (v := .int .i64 ((0 + (max (a.x - b.x) (b.x - a.x))) + (max (a.y - b.y) (b.y - a.y)))) rfl (by kernel_rfl) rfl (fun _ _ _ h => h) hm37 (fun _ => by kernel_rfl) rfl (by decide) ?_
  refine mgDone (by kernel_rfl) ?_
  refine inBlock_normal ?_
  refine then_normal (hK35 _ _ ?_)
  refine wpPrune [(4, .int .i64 0), (5, .int .i64 ((0 + (max (a.x - b.x) (b.x - a.x))) + (max (a.y - b.y) (b.y - a.y)))), (6, .pointer (some ⟨g23, 0, none⟩)), (7, .pointer (some ⟨g24, 0, none⟩)), (8, .int .i64 1), (18, .int .i64 1), (19, .bool true), (20, .int .i64 1), (21, .int .i64 (0 + (max (a.x - b.x) (b.x - a.x)))), (22, .int .i64 1), (23, .pointer (some ⟨g23, 1, none⟩)), (24, .int .i64 a.y), (25, .int .i64 1), (26, .pointer (some ⟨g24, 1, none⟩)), (27, .int .i64 b.y), (28, .int .i64 (a.y - b.y)), (29, .int .i64 1), (30, .pointer (some ⟨g24, 1, none⟩)), (31, .int .i64 b.y), (32, .int .i64 1), (33, .pointer (some ⟨g23, 1, none⟩)), (34, .int .i64 a.y), (35, .int .i64 (b.y - a.y)), (36, .int .i64 (max (a.y - b.y) (b.y - a.y))), (37, .int .i64 ((0 + (max (a.x - b.x) (b.x - a.x))) + (max (a.y - b.y) (b.y - a.y)))), (38, .int .i64 1)] ⟨litGet (by kernel_rfl), ⟨litGet (by kernel_rfl), ⟨litGet (by kernel_rfl), ⟨litGet (by kernel_rfl), ⟨litGet (by kernel_rfl), ⟨litGet (by kernel_rfl), ⟨litGet (by kernel_rfl), ⟨litGet (by kernel_rfl), ⟨litGet (by kernel_rfl), ⟨litGet (by kernel_rfl), ⟨litGet (by kernel_rfl), ⟨litGet (by kernel_rfl), ⟨litGet (by kernel_rfl), ⟨litGet (by kernel_rfl), ⟨litGet (by kernel_rfl), ⟨litGet (by kernel_rfl), ⟨litGet (by kernel_rfl), ⟨litGet (by kernel_rfl), ⟨litGet (by kernel_rfl), ⟨litGet (by kernel_rfl), ⟨litGet (by kernel_rfl), ⟨litGet (by kernel_rfl), ⟨litGet (by kernel_rfl), ⟨litGet (by kernel_rfl), ⟨litGet (by kernel_rfl), ⟨litGet (by kernel_rfl), trivial⟩⟩⟩⟩⟩⟩⟩⟩⟩⟩⟩⟩⟩⟩⟩⟩⟩⟩⟩⟩⟩⟩⟩⟩⟩⟩ (fun X39 => ?_)
  refine plStart ?_
  refine litK (v := .int .i64 2) rfl rfl (by kernel_rfl) rfl (by decide) ?_
  refine litK (v := .int .i64 2) rfl rfl (by kernel_rfl) rfl (by decide) ?_
  refine plDone (by decide) ?_
  refine then_normal (roundsNext ?_)
  refine wp_seq_k fun K40 hK40 => ?_
  refine plStart ?_
  refine litK (v := .bool true) rfl rfl (by kernel_rfl) rfl (by decide) ?_
  refine plDone (by decide) ?_
  refine then_normal (hK40 _ _ ?_)
  refine wp_seq_k fun K41 hK41 => ?_
  refine wp_cond_true (litEv (by kernel_rfl)) ?_
  refine wp_skip ?_
  refine then_normal (hK41 _ _ ?_)
  refine wp_seq_k fun K42 hK42 => ?_
  refine wp_block ?_
  refine wp_seq_k fun K43 hK43 => ?_
  refine plStart ?_
  refine litK (v := .int .i64 2) rfl rfl (by kernel_rfl) rfl (by decide) ?_
  refine litK (v := .int .i64 2) rfl rfl (by kernel_rfl) rfl (by decide) ?_
  refine plDone (by decide) ?_
  refine then_normal (hK43 _ _ ?_)
  refine mgStart hm37 (by kernel_rfl) ?_
  intro w45 hm44
  clear hm37
  refine mgK (i := 0) (v := .int .i64 ((0 + (max (a.x - b.x) (b.x - a.x))) + (max (a.y - b.y) (b.y - a.y)))) rfl (by kernel_rfl) rfl (fun _ _ _ h => h) hm44 (fun _ => by kernel_rfl) rfl (by decide) ?_
  refine mgK (i := 1) (v := .int .i64 2) rfl (by kernel_rfl) rfl (fun _ _ _ h => h) hm44 (fun _ => by kernel_rfl) rfl (by decide) ?_
  refine mgTake (i := 2) (v := .pointer (some ⟨g23, 2, none⟩)) rfl (by kernel_rfl) (wn rfl) (fun _ _ _ h => h) hm44 (fun w_ h_ => iaRun (b := g23) (off := 0) (s := 1) (n := 3) (kk := .i64) (.tmp 6) (.tmp 22) 2 Ty.und_3_int (by kernel_rfl) rfl (litEv (by kernel_rfl)) (litEv (by kernel_rfl)) rfl (by decide)) ?_
  refine mPut rfl (by decide) ?_
  refine mgTake (i := 3) (v := .int .i64 a.z) rfl (by kernel_rfl) (wn rfl) (fun _ _ _ h => h) hm44 (fun w_ h_ => gLoad (v := .int .i64 a.z) (k := 2) 3 h_ rfl (by kernel_rfl) (.tmp 23) (by kernel_rfl) rfl (litEv (by kernel_rfl))) ?_
  refine mPut rfl (by decide) ?_
  refine mgK (i := 4) (v := .int .i64 2) rfl (by kernel_rfl) rfl (fun _ _ _ h => h) hm44 (fun _ => by kernel_rfl) rfl (by decide) ?_
  refine mgTake (i := 5) (v := .pointer (some ⟨g24, 2, none⟩)) rfl (by kernel_rfl) (wn rfl) (fun _ _ _ h => h) hm44 (fun w_ h_ => iaRun (b := g24) (off := 0) (s := 1) (n := 3) (kk := .i64) (.tmp 7) (.tmp 25) 2 Ty.und_3_int (by kernel_rfl) rfl (litEv (by kernel_rfl)) (litEv (by kernel_rfl)) rfl (by decide)) ?_
  refine mPut rfl (by decide) ?_
  refine mgTake (i := 6) (v := .int .i64 b.z) rfl (by kernel_rfl) (wn rfl) (fun _ _ _ h => h) hm44 (fun w_ h_ => gLoad (v := .int .i64 b.z) (k := 2) 4 h_ rfl (by kernel_rfl) (.tmp 26) (by kernel_rfl) rfl (litEv (by kernel_rfl))) ?_
  refine mPut rfl (by decide) ?_
  refine mgTake (i := 7) (v := .int .i64 (a.z - b.z)) rfl (by kernel_rfl) (wn rfl) (fun _ _ _ h => h) hm44 (fun w_ h_ => subRun (A := a.z) (B := b.z) (C := a.z - b.z) (.tmp 24) (.tmp 27) rfl (litEv (by kernel_rfl)) (litEv (by kernel_rfl)) rfl (by have hr_ := of_decide_eq_true h15; unfold Pt.rng at hr_; omega)) ?_
  refine mPut rfl (by decide) ?_
  refine mgK (i := 8) (v := .int .i64 2) rfl (by kernel_rfl) rfl (fun _ _ _ h => h) hm44 (fun _ => by kernel_rfl) rfl (by decide) ?_
  refine mgTake (i := 9) (v := .pointer (some ⟨g24, 2, none⟩)) rfl (by kernel_rfl) (wn rfl) (fun _ _ _ h => h) hm44 (fun w_ h_ => iaRun (b := g24) (off := 0) (s := 1) (n := 3) (kk := .i64) (.tmp 7) (.tmp 29) 2 Ty.und_3_int (by kernel_rfl) rfl (litEv (by kernel_rfl)) (litEv (by kernel_rfl)) rfl (by decide)) ?_
  refine mPut rfl (by decide) ?_
  refine mgTake (i := 10) (v := .int .i64 b.z) rfl (by kernel_rfl) (wn rfl) (fun _ _ _ h => h) hm44 (fun w_ h_ => gLoad (v := .int .i64 b.z) (k := 2) 4 h_ rfl (by kernel_rfl) (.tmp 30) (by kernel_rfl) rfl (litEv (by kernel_rfl))) ?_
  refine mPut rfl (by decide) ?_
  refine mgK (i := 11) (v := .int .i64 2) rfl (by kernel_rfl) rfl (fun _ _ _ h => h) hm44 (fun _ => by kernel_rfl) rfl (by decide) ?_
  refine mgTake (i := 12) (v := .pointer (some ⟨g23, 2, none⟩)) rfl (by kernel_rfl) (wn rfl) (fun _ _ _ h => h) hm44 (fun w_ h_ => iaRun (b := g23) (off := 0) (s := 1) (n := 3) (kk := .i64) (.tmp 6) (.tmp 32) 2 Ty.und_3_int (by kernel_rfl) rfl (litEv (by kernel_rfl)) (litEv (by kernel_rfl)) rfl (by decide)) ?_
  refine mPut rfl (by decide) ?_
  refine mgTake (i := 13) (v := .int .i64 a.z) rfl (by kernel_rfl) (wn rfl) (fun _ _ _ h => h) hm44 (fun w_ h_ => gLoad (v := .int .i64 a.z) (k := 2) 3 h_ rfl (by kernel_rfl) (.tmp 33) (by kernel_rfl) rfl (litEv (by kernel_rfl))) ?_
  refine mPut rfl (by decide) ?_
  refine mgTake (i := 14) (v := .int .i64 (b.z - a.z)) rfl (by kernel_rfl) (wn rfl) (fun _ _ _ h => h) hm44 (fun w_ h_ => subRun (A := b.z) (B := a.z) (C := b.z - a.z) (.tmp 31) (.tmp 34) rfl (litEv (by kernel_rfl)) (litEv (by kernel_rfl)) rfl (by have hr_ := of_decide_eq_true h15; unfold Pt.rng at hr_; omega)) ?_
  refine mPut rfl (by decide) ?_
  refine mgTake (i := 15) (v := .int .i64 (max (a.z - b.z) (b.z - a.z))) rfl (by kernel_rfl) (wn rfl) (fun _ _ _ h => h) hm44 (fun w_ h_ => gMax (.tmp 28) (.tmp 35) rfl (litEv (by kernel_rfl)) (litEv (by kernel_rfl))) ?_
  refine mPut rfl (by decide) ?_
  refine mgTake (i := 16) (v := .int .i64 (((0 + (max (a.x - b.x) (b.x - a.x))) + (max (a.y - b.y) (b.y - a.y))) + (max (a.z - b.z) (b.z - a.z)))) rfl (by kernel_rfl) (wn rfl) (fun _ _ _ h => h) hm44 (fun w_ h_ => addRun (A := ((0 + (max (a.x - b.x) (b.x - a.x))) + (max (a.y - b.y) (b.y - a.y)))) (B := (max (a.z - b.z) (b.z - a.z))) (C := ((0 + (max (a.x - b.x) (b.x - a.x))) + (max (a.y - b.y) (b.y - a.y))) + (max (a.z - b.z) (b.z - a.z))) (.tmp 21) (.tmp 36) rfl (litEv (by kernel_rfl)) (litEv (by kernel_rfl)) rfl (by have hr_ := of_decide_eq_true h15; unfold Pt.rng at hr_; omega)) ?_
  refine mPut rfl (by decide) ?_
  refine mgK (i := 17) (v := .int .i64 (((0 + (max (a.x - b.x) (b.x - a.x))) + (max (a.y - b.y) (b.y - a.y))) + (max (a.z - b.z) (b.z - a.z)))) rfl (by kernel_rfl) rfl (fun _ _ _ h => h) hm44 (fun _ => by kernel_rfl) rfl (by decide) ?_
  refine mgDone (by kernel_rfl) ?_
  refine inBlock_normal ?_
  refine then_normal (hK42 _ _ ?_)
  refine wpPrune [(4, .int .i64 0), (5, .int .i64 (((0 + (max (a.x - b.x) (b.x - a.x))) + (max (a.y - b.y) (b.y - a.y))) + (max (a.z - b.z) (b.z - a.z)))), (6, .pointer (some ⟨g23, 0, none⟩)), (7, .pointer (some ⟨g24, 0, none⟩)), (8, .int .i64 2), (18, .int .i64 2), (19, .bool true), (20, .int .i64 2), (21, .int .i64 ((0 + (max (a.x - b.x) (b.x - a.x))) + (max (a.y - b.y) (b.y - a.y)))), (22, .int .i64 2), (23, .pointer (some ⟨g23, 2, none⟩)), (24, .int .i64 a.z), (25, .int .i64 2), (26, .pointer (some ⟨g24, 2, none⟩)), (27, .int .i64 b.z), (28, .int .i64 (a.z - b.z)), (29, .int .i64 2), (30, .pointer (some ⟨g24, 2, none⟩)), (31, .int .i64 b.z), (32, .int .i64 2), (33, .pointer (some ⟨g23, 2, none⟩)), (34, .int .i64 a.z), (35, .int .i64 (b.z - a.z)), (36, .int .i64 (max (a.z - b.z) (b.z - a.z))), (37, .int .i64 (((0 + (max (a.x - b.x) (b.x - a.x))) + (max (a.y - b.y) (b.y - a.y))) + (max (a.z - b.z) (b.z - a.z)))), (38, .int .i64 2)] ⟨litGet (by kernel_rfl), ⟨litGet (by kernel_rfl), ⟨litGet (by kernel_rfl), ⟨litGet (by kernel_rfl), ⟨litGet (by kernel_rfl), ⟨litGet (by kernel_rfl), ⟨litGet (by kernel_rfl), ⟨litGet (by kernel_rfl), ⟨litGet (by kernel_rfl), ⟨litGet (by kernel_rfl), ⟨litGet (by kernel_rfl), ⟨litGet (by kernel_rfl), ⟨litGet (by kernel_rfl), ⟨litGet (by kernel_rfl), ⟨litGet (by kernel_rfl), ⟨litGet (by kernel_rfl), ⟨litGet (by kernel_rfl), ⟨litGet (by kernel_rfl), ⟨litGet (by kernel_rfl), ⟨litGet (by kernel_rfl), ⟨litGet (by kernel_rfl), ⟨litGet (by kernel_rfl), ⟨litGet (by kernel_rfl), ⟨litGet (by kernel_rfl), ⟨litGet (by kernel_rfl), ⟨litGet (by kernel_rfl), trivial⟩⟩⟩⟩⟩⟩⟩⟩⟩⟩⟩⟩⟩⟩⟩⟩⟩⟩⟩⟩⟩⟩⟩⟩⟩⟩ (fun X46 => ?_)
  refine plStart ?_
  refine litK (v := .int .i64 3) rfl rfl (by kernel_rfl) rfl (by decide) ?_
  refine litK (v := .int .i64 3) rfl rfl (by kernel_rfl) rfl (by decide) ?_
  refine plDone (by decide) ?_
  refine then_normal (roundsNext ?_)
  refine wp_seq_k fun K47 hK47 => ?_
  refine plStart ?_
  refine litK (v := .bool false) rfl rfl (by kernel_rfl) rfl (by decide) ?_
  refine plDone (by decide) ?_
  refine then_normal (hK47 _ _ ?_)
  refine wp_seq_k fun K48 hK48 => ?_
  refine wp_cond_false (litEv (by kernel_rfl)) ?_
  refine wp_exit ?_
  refine then_exit ?_
  refine then_exit ?_
  refine inBlock_exit ?_
  refine then_normal (hK25 _ _ ?_)
  refine wpPrune [(4, .int .i64 0), (5, .int .i64 (((0 + (max (a.x - b.x) (b.x - a.x))) + (max (a.y - b.y) (b.y - a.y))) + (max (a.z - b.z) (b.z - a.z))))] ⟨litGet (by kernel_rfl), ⟨litGet (by kernel_rfl), trivial⟩⟩ (fun X49 => ?_)
  refine wp_seq_k fun K50 hK50 => ?_
  refine wp_seq_k fun K51 hK51 => ?_
  refine plStart ?_
  refine litK (v := .int .i64 (((0 + (max (a.x - b.x) (b.x - a.x))) + (max (a.y - b.y) (b.y - a.y))) + (max (a.z - b.z) (b.z - a.z)))) rfl rfl (by kernel_rfl) rfl (by decide) ?_
  by_cases h52 : 65536 < (((0 + (max (a.x - b.x) (b.x - a.x))) + (max (a.y - b.y) (b.y - a.y))) + (max (a.z - b.z) (b.z - a.z)))
  · refine litVal (v := .bool true) rfl (wn rfl) (boolTo (decide_eq_true h52) (gtrRun (A := (((0 + (max (a.x - b.x) (b.x - a.x))) + (max (a.y - b.y) (b.y - a.y))) + (max (a.z - b.z) (b.z - a.z)))) (B := 65536) (.tmp 39) (.const (.int .i64 65536)) rfl (litEv (by kernel_rfl)) (litEv (by kernel_rfl)))) rfl (by decide) ?_
    refine plDone (by decide) ?_
    refine then_normal (hK51 _ _ ?_)
    refine wp_cond_true (litEv (by kernel_rfl)) ?_
    refine wp_seq_k fun K53 hK53 => ?_
    refine plStart ?_
    refine litK (v := .int .i64 2) rfl rfl (by kernel_rfl) rfl (by decide) ?_
    refine plDone (by decide) ?_
    refine then_normal (hK53 _ _ ?_)
    refine wp_ret ?_
    refine then_ret ?_
    refine bodyPost_ret (v := .int .i64 2) (gRes1 rfl (gResTmp (t := 4) (v := .int .i64 2) (litGet (by kernel_rfl)))) rfl ?_
    exact ⟨by unfold ckE; rw [if_pos (of_decide_eq_true h15), if_pos (by unfold Pt.sum dif; omega)], hm44.bel⟩
  refine litVal (v := .bool false) rfl (wn rfl) (boolTo (decide_eq_false h52) (gtrRun (A := (((0 + (max (a.x - b.x) (b.x - a.x))) + (max (a.y - b.y) (b.y - a.y))) + (max (a.z - b.z) (b.z - a.z)))) (B := 65536) (.tmp 39) (.const (.int .i64 65536)) rfl (litEv (by kernel_rfl)) (litEv (by kernel_rfl)))) rfl (by decide) ?_
  refine plDone (by decide) ?_
  refine then_normal (hK51 _ _ ?_)
  refine wp_cond_false (litEv (by kernel_rfl)) ?_
  refine wp_skip ?_
  refine then_normal (hK50 _ _ ?_)
  refine wp_seq_k fun K54 hK54 => ?_
  refine plStart ?_
  refine litK (v := .int .i64 0) rfl rfl (by kernel_rfl) rfl (by decide) ?_
  refine plDone (by decide) ?_
  refine then_normal (hK54 _ _ ?_)
  refine wp_ret ?_
  refine bodyPost_ret (v := .int .i64 0) (gRes1 rfl (gResTmp (t := 4) (v := .int .i64 0) (litGet (by kernel_rfl)))) rfl ?_
  exact ⟨by unfold ckE; rw [if_pos (of_decide_eq_true h15), if_neg (by unfold Pt.sum dif; omega)], hm44.bel⟩
set_option maxRecDepth 100000 in
set_option maxHeartbeats 4000000 in
theorem dist_any (p q : Pt) (hp : p.rng) (hq : q.rng) (w : World) : Calls Try.prog 21 #[.agg (pcs p).toArray, .agg (pcs q).toArray] w (RetV w (.int .i64 (p.dist q))) := by
  unfold Pt.rng at hp hq
  have hm0 := Mem.nil w
  go_enter Try.func21, Try.ntmps21
  refine litStart 26 [(0, .agg (pcs p).toArray), (1, .agg (pcs q).toArray)] (by kernel_rfl) (fun X0 => ?_)
  refine wp_seq_k fun K1 hK1 => ?_
  refine plStart ?_
  refine plBox hm0 (cs := pcs p) (i := 0) rfl (wn rfl) rfl (litEv (by kernel_rfl)) ?_
  intro g2 w4 hm3
  clear hm0
  try simp only [List.cons_append, List.nil_append, List.set_cons_succ, List.set_cons_zero] at hm3
  refine qPut rfl (by decide) ?_
  refine plBox hm3 (cs := pcs q) (i := 1) rfl (wn rfl) rfl (litEv (by kernel_rfl)) ?_
  intro g5 w7 hm6
  clear hm3
  try simp only [List.cons_append, List.nil_append, List.set_cons_succ, List.set_cons_zero] at hm6
  refine qPut rfl (by decide) ?_
  refine litK (v := .int .i64 0) rfl rfl (by kernel_rfl) rfl (by decide) ?_
  refine plDone (by decide) ?_
  refine then_normal (hK1 _ _ ?_)
  refine wp_seq_k fun K8 hK8 => ?_
  refine plStart ?_
  refine litVal (v := .agg (pcs p).toArray) rfl (wn rfl) (gLoadAg (vs := pcs p) (k := 0) 0 hm6 rfl (by kernel_rfl) (by kernel_rfl) (.tmp 2) Ty.ag_voxel_api_Point rfl (litEv (by kernel_rfl))) rfl (by decide) ?_
  refine litVal (v := .agg (pcs q).toArray) rfl (wn rfl) (gLoadAg (vs := pcs q) (k := 0) 1 hm6 rfl (by kernel_rfl) (by kernel_rfl) (.tmp 3) Ty.ag_voxel_api_Point rfl (litEv (by kernel_rfl))) rfl (by decide) ?_
  refine plCall (i := 2) 24 [.agg (pcs p).toArray, .agg (pcs q).toArray] [] [] rfl (by kernel_rfl) (wn rfl) rfl (litEv (by kernel_rfl)) (litArgs (by kernel_rfl)) (sub_any p q (by omega) (by omega) _) ?_
  rintro e w9 ⟨rfl, hbz⟩
  have hm10 := hm6.below hbz
  clear hbz hm6
  refine ⟨_, rfl, ?_⟩
  refine qPut rfl (by decide) ?_
  refine plCall (i := 3) 45 [.agg (pcs (p.sub q)).toArray] [] [] rfl (by kernel_rfl) (wn rfl) rfl (litEv (by kernel_rfl)) (litArgs (by kernel_rfl)) (list_any (p.sub q) _) ?_
  rintro e w11 ⟨rfl, hbz⟩
  have hm12 := hm10.below hbz
  clear hbz hm10
  refine ⟨_, rfl, ?_⟩
  refine qPut rfl (by decide) ?_
  refine plAlloc (z := [.int .i64 0, .int .i64 0, .int .i64 0]) Ty.ag_3_int hm12 (i := 4) rfl (wn rfl) rfl ?_
  intro g13 w15 hm14
  clear hm12
  try simp only [List.cons_append, List.nil_append, List.set_cons_succ, List.set_cons_zero] at hm14
  refine qPut rfl (by decide) ?_
  refine plStore 2 Ty.ag_3_int hm14 rfl (i := 5) (cs := pcs (p.sub q)) rfl (wn rfl) rfl (litEv (by kernel_rfl)) (litEv (by kernel_rfl)) rfl rfl (by kernel_rfl) ?_
  intro w17 hm16
  clear hm14
  try simp only [List.cons_append, List.nil_append, List.set_cons_succ, List.set_cons_zero] at hm16
  refine qNone rfl ?_
  refine plDone (by decide) ?_
  refine then_normal (hK8 _ _ ?_)
  refine wp_seq_k fun K18 hK18 => ?_
  refine plStart ?_
  refine litK (v := .int .i64 0) rfl rfl (by kernel_rfl) rfl (by decide) ?_
  refine plDone (by decide) ?_
  refine then_normal (hK18 _ _ ?_)
  refine wp_seq_k fun K19 hK19 => ?_
  refine wp_seq_k fun K20 hK20 => ?_
  refine plStart ?_
  refine litK (v := .int .i64 0) rfl rfl (by kernel_rfl) rfl (by decide) ?_
  refine plDone (by decide) ?_
  refine then_normal (hK20 _ _ ?_)
  refine wp_block ?_
  refine roundsStart 3 ?_
  refine wp_seq_k fun K21 hK21 => ?_
  refine wp_seq_k fun K22 hK22 => ?_
  refine plStart ?_
  refine litK (v := .int .i64 0) rfl rfl (by kernel_rfl) rfl (by decide) ?_
  refine litK (v := .bool true) rfl rfl (by kernel_rfl) rfl (by decide) ?_
  refine plDone (by decide) ?_
  refine then_normal (hK22 _ _ ?_)
  refine wp_cond_true (litEv (by kernel_rfl)) ?_
  refine wp_skip ?_
  refine then_normal (hK21 _ _ ?_)
  refine wp_seq_k fun K23 hK23 => ?_
  refine wp_block ?_
  refine mgStart hm16 (by kernel_rfl) ?_
  intro w25 hm24
  clear hm16
  refine mgK (i := 0) (v := .int .i64 0) rfl (by kernel_rfl) rfl (fun _ _ _ h => h) hm24 (fun _ => by kernel_rfl) rfl (by decide) ?_
  refine mgK (i := 1) (v := .int .i64 0) rfl (by kernel_rfl) rfl (fun _ _ _ h => h) hm24 (fun _ => by kernel_rfl) rfl (by decide) ?_
  refine mgTake (i := 2) (v := .pointer (some ⟨g13, 0, none⟩)) rfl (by kernel_rfl) (wn rfl) (fun _ _ _ h => h) hm24 (fun w_ h_ => iaRun (b := g13) (off := 0) (s := 1) (n := 3) (kk := .i64) (.tmp 5) (.tmp 17) 0 Ty.und_3_int (by kernel_rfl) rfl (litEv (by kernel_rfl)) (litEv (by kernel_rfl)) rfl (by decide)) ?_
  refine mPut rfl (by decide) ?_
  refine mgTake (i := 3) (v := .int .i64 (p.x - q.x)) rfl (by kernel_rfl) (wn rfl) (fun _ _ _ h => h) hm24 (fun w_ h_ => gLoad (v := .int .i64 (p.x - q.x)) (k := 0) 2 h_ rfl (by kernel_rfl) (.tmp 18) (by kernel_rfl) rfl (litEv (by kernel_rfl))) ?_
  refine mPut rfl (by decide) ?_
  refine mgK (i := 4) (v := .int .i64 0) rfl (by kernel_rfl) rfl (fun _ _ _ h => h) hm24 (fun _ => by kernel_rfl) rfl (by decide) ?_
  refine mgTake (i := 5) (v := .pointer (some ⟨g13, 0, none⟩)) rfl (by kernel_rfl) (wn rfl) (fun _ _ _ h => h) hm24 (fun w_ h_ => iaRun (b := g13) (off := 0) (s := 1) (n := 3) (kk := .i64) (.tmp 5) (.tmp 20) 0 Ty.und_3_int (by kernel_rfl) rfl (litEv (by kernel_rfl)) (litEv (by kernel_rfl)) rfl (by decide)) ?_
  refine mPut rfl (by decide) ?_
  refine mgTake (i := 6) (v := .int .i64 (p.x - q.x)) rfl (by kernel_rfl) (wn rfl) (fun _ _ _ h => h) hm24 (fun w_ h_ => gLoad (v := .int .i64 (p.x - q.x)) (k := 0) 2 h_ rfl (by kernel_rfl) (.tmp 21) (by kernel_rfl) rfl (litEv (by kernel_rfl))) ?_
  refine mPut rfl (by decide) ?_
  refine mgTake (i := 7) (v := .int .i64 (-(p.x - q.x))) rfl (by kernel_rfl) (wn rfl) (fun _ _ _ h => h) hm24 (fun w_ h_ => gNeg (.tmp 22) rfl (litEv (by kernel_rfl)) (by omega)) ?_
  refine mPut rfl (by decide) ?_
  refine mgTake (i := 8) (v := .int .i64 (max (max 0 (p.x - q.x)) (-(p.x - q.x)))) rfl (by kernel_rfl) (wn rfl) (fun _ _ _ h => h) hm24 (fun w_ h_ => gMax3 (.tmp 16) (.tmp 19) (.tmp 23) rfl (litEv (by kernel_rfl)) (litEv (by kernel_rfl)) (litEv (by kernel_rfl))) ?_
  refine mPut rfl (by decide) ?_
  refine mgK (i := 9) (v := .int .i64 (max (max 0 (p.x - q.x)) (-(p.x - q.x)))) rfl (by kernel_rfl) rfl (fun _ _ _ h => h) hm24 (fun _ => by kernel_rfl) rfl (by decide) ?_
  refine mgDone (by kernel_rfl) ?_
  refine inBlock_normal ?_
  refine then_normal (hK23 _ _ ?_)
  refine plStart ?_
  refine litK (v := .int .i64 0) rfl rfl (by kernel_rfl) rfl (by decide) ?_
  refine litK (v := .int .i64 1) rfl rfl (by kernel_rfl) rfl (by decide) ?_
  refine litK (v := .int .i64 1) rfl rfl (by kernel_rfl) rfl (by decide) ?_
  refine plDone (by decide) ?_
  refine then_normal (roundsNext ?_)
  refine wp_seq_k fun K26 hK26 => ?_
  refine wp_seq_k fun K27 hK27 => ?_
  refine plStart ?_
  refine litK (v := .int .i64 1) rfl rfl (by kernel_rfl) rfl (by decide) ?_
  refine litK (v := .bool true) rfl rfl (by kernel_rfl) rfl (by decide) ?_
  refine plDone (by decide) ?_
  refine then_normal (hK27 _ _ ?_)
  refine wp_cond_true (litEv (by kernel_rfl)) ?_
  refine wp_skip ?_
  refine then_normal (hK26 _ _ ?_)
  refine wp_seq_k fun K28 hK28 => ?_
  refine wp_block ?_
  refine mgStart hm24 (by kernel_rfl) ?_
  intro w30 hm29
  clear hm24
  refine mgK (i := 0) (v := .int .i64 (max (max 0 (p.x - q.x)) (-(p.x - q.x)))) rfl (by kernel_rfl) rfl (fun _ _ _ h => h) hm29 (fun _ => by kernel_rfl) rfl (by decide) ?_
  refine mgK (i := 1) (v := .int .i64 1) rfl (by kernel_rfl) rfl (fun _ _ _ h => h) hm29 (fun _ => by kernel_rfl) rfl (by decide) ?_
  refine mgTake (i := 2) (v := .pointer (some ⟨g13, 1, none⟩)) rfl (by kernel_rfl) (wn rfl) (fun _ _ _ h => h) hm29 (fun w_ h_ => iaRun (b := g13) (off := 0) (s := 1) (n := 3) (kk := .i64) (.tmp 5) (.tmp 17) 1 Ty.und_3_int (by kernel_rfl) rfl (litEv (by kernel_rfl)) (litEv (by kernel_rfl)) rfl (by decide)) ?_
  refine mPut rfl (by decide) ?_
  refine mgTake (i := 3) (v := .int .i64 (p.y - q.y)) rfl (by kernel_rfl) (wn rfl) (fun _ _ _ h => h) hm29 (fun w_ h_ => gLoad (v := .int .i64 (p.y - q.y)) (k := 1) 2 h_ rfl (by kernel_rfl) (.tmp 18) (by kernel_rfl) rfl (litEv (by kernel_rfl))) ?_
  refine mPut rfl (by decide) ?_
  refine mgK (i := 4) (v := .int .i64 1) rfl (by kernel_rfl) rfl (fun _ _ _ h => h) hm29 (fun _ => by kernel_rfl) rfl (by decide) ?_
  refine mgTake (i := 5) (v := .pointer (some ⟨g13, 1, none⟩)) rfl (by kernel_rfl) (wn rfl) (fun _ _ _ h => h) hm29 (fun w_ h_ => iaRun (b := g13) (off := 0) (s := 1) (n := 3) (kk := .i64) (.tmp 5) (.tmp 20) 1 Ty.und_3_int (by kernel_rfl) rfl (litEv (by kernel_rfl)) (litEv (by kernel_rfl)) rfl (by decide)) ?_
  refine mPut rfl (by decide) ?_
  refine mgTake (i := 6) (v := .int .i64 (p.y - q.y)) rfl (by kernel_rfl) (wn rfl) (fun _ _ _ h => h) hm29 (fun w_ h_ => gLoad (v := .int .i64 (p.y - q.y)) (k := 1) 2 h_ rfl (by kernel_rfl) (.tmp 21) (by kernel_rfl) rfl (litEv (by kernel_rfl))) ?_
  refine mPut rfl (by decide) ?_
  refine mgTake (i := 7) (v := .int .i64 (-(p.y - q.y))) rfl (by kernel_rfl) (wn rfl) (fun _ _ _ h => h) hm29 (fun w_ h_ => gNeg (.tmp 22) rfl (litEv (by kernel_rfl)) (by omega)) ?_
  refine mPut rfl (by decide) ?_
  refine mgTake (i := 8) (v := .int .i64 (max (max (max (max 0 (p.x - q.x)) (-(p.x - q.x))) (p.y - q.y)) (-(p.y - q.y)))) rfl (by kernel_rfl) (wn rfl) (fun _ _ _ h => h) hm29 (fun w_ h_ => gMax3 (.tmp 16) (.tmp 19) (.tmp 23) rfl (litEv (by kernel_rfl)) (litEv (by kernel_rfl)) (litEv (by kernel_rfl))) ?_
  refine mPut rfl (by decide) ?_
  refine mgK (i := 9) (v := .int .i64 (max (max (max (max 0 (p.x - q.x)) (-(p.x - q.x))) (p.y - q.y)) (-(p.y - q.y)))) rfl (by kernel_rfl) rfl (fun _ _ _ h => h) hm29 (fun _ => by kernel_rfl) rfl (by decide) ?_
  refine mgDone (by kernel_rfl) ?_
  refine inBlock_normal ?_
  refine then_normal (hK28 _ _ ?_)
  refine wpPrune [(4, .int .i64 0), (5, .pointer (some ⟨g13, 0, none⟩)), (6, .int .i64 (max (max (max (max 0 (p.x - q.x)) (-(p.x - q.x))) (p.y - q.y)) (-(p.y - q.y)))), (7, .int .i64 1), (12, .int .i64 1), (13, .bool true), (14, .int .i64 0), (15, .int .i64 1), (16, .int .i64 (max (max 0 (p.x - q.x)) (-(p.x - q.x)))), (17, .int .i64 1), (18, .pointer (some ⟨g13, 1, none⟩)), (19, .int .i64 (p.y - q.y)), (20, .int .i64 1), (21, .pointer (some ⟨g13, 1, none⟩)), (22, .int .i64 (p.y - q.y)), (23, .int .i64 (-(p.y - q.y))), (24, .int .i64 (max (max (max (max 0 (p.x - q.x)) (-(p.x - q.x))) (p.y - q.y)) (-(p.y - q.y))))] ⟨litGet (by kernel_rfl), ⟨litGet (by kernel_rfl), ⟨litGet (by kernel_rfl), ⟨litGet (by kernel_rfl), ⟨litGet (by kernel_rfl), ⟨litGet (by kernel_rfl), ⟨litGet (by kernel_rfl), ⟨litGet (by kernel_rfl), ⟨litGet (by kernel_rfl), ⟨litGet (by kernel_rfl), ⟨litGet (by kernel_rfl), ⟨litGet (by kernel_rfl), ⟨litGet (by kernel_rfl), ⟨litGet (by kernel_rfl), ⟨litGet (by kernel_rfl), ⟨litGet (by kernel_rfl), ⟨litGet (by kernel_rfl), trivial⟩⟩⟩⟩⟩⟩⟩⟩⟩⟩⟩⟩⟩⟩⟩⟩⟩ (fun X31 => ?_)
  refine plStart ?_
  refine litK (v := .int .i64 1) rfl rfl (by kernel_rfl) rfl (by decide) ?_
  refine litK (v := .int .i64 2) rfl rfl (by kernel_rfl) rfl (by decide) ?_
  refine litK (v := .int .i64 2) rfl rfl (by kernel_rfl) rfl (by decide) ?_
  refine plDone (by decide) ?_
  refine then_normal (roundsNext ?_)
  refine wp_seq_k fun K32 hK32 => ?_
  refine wp_seq_k fun K33 hK33 => ?_
  refine plStart ?_
  refine litK (v := .int .i64 2) rfl rfl (by kernel_rfl) rfl (by decide) ?_
  refine litK (v := .bool true) rfl rfl (by kernel_rfl) rfl (by decide) ?_
  refine plDone (by decide) ?_
  refine then_normal (hK33 _ _ ?_)
  refine wp_cond_true (litEv (by kernel_rfl)) ?_
  refine wp_skip ?_
  refine then_normal (hK32 _ _ ?_)
  refine wp_seq_k fun K34 hK34 => ?_
  refine wp_block ?_
  refine mgStart hm29 (by kernel_rfl) ?_
  intro w36 hm35
  clear hm29
  refine mgK (i := 0) (v := .int .i64 (max (max (max (max 0 (p.x - q.x)) (-(p.x - q.x))) (p.y - q.y)) (-(p.y - q.y)))) rfl (by kernel_rfl) rfl (fun _ _ _ h => h) hm35 (fun _ => by kernel_rfl) rfl (by decide) ?_
  refine mgK (i := 1) (v := .int .i64 2) rfl (by kernel_rfl) rfl (fun _ _ _ h => h) hm35 (fun _ => by kernel_rfl) rfl (by decide) ?_
  refine mgTake (i := 2) (v := .pointer (some ⟨g13, 2, none⟩)) rfl (by kernel_rfl) (wn rfl) (fun _ _ _ h => h) hm35 (fun w_ h_ => iaRun (b := g13) (off := 0) (s := 1) (n := 3) (kk := .i64) (.tmp 5) (.tmp 17) 2 Ty.und_3_int (by kernel_rfl) rfl (litEv (by kernel_rfl)) (litEv (by kernel_rfl)) rfl (by decide)) ?_
  refine mPut rfl (by decide) ?_
  refine mgTake (i := 3) (v := .int .i64 (p.z - q.z)) rfl (by kernel_rfl) (wn rfl) (fun _ _ _ h => h) hm35 (fun w_ h_ => gLoad (v := .int .i64 (p.z - q.z)) (k := 2) 2 h_ rfl (by kernel_rfl) (.tmp 18) (by kernel_rfl) rfl (litEv (by kernel_rfl))) ?_
  refine mPut rfl (by decide) ?_
  refine mgK (i := 4) (v := .int .i64 2) rfl (by kernel_rfl) rfl (fun _ _ _ h => h) hm35 (fun _ => by kernel_rfl) rfl (by decide) ?_
  refine mgTake (i := 5) (v := .pointer (some ⟨g13, 2, none⟩)) rfl (by kernel_rfl) (wn rfl) (fun _ _ _ h => h) hm35 (fun w_ h_ => iaRun (b := g13) (off := 0) (s := 1) (n := 3) (kk := .i64) (.tmp 5) (.tmp 20) 2 Ty.und_3_int (by kernel_rfl) rfl (litEv (by kernel_rfl)) (litEv (by kernel_rfl)) rfl (by decide)) ?_
  refine mPut rfl (by decide) ?_
  refine mgTake (i := 6) (v := .int .i64 (p.z - q.z)) rfl (by kernel_rfl) (wn rfl) (fun _ _ _ h => h) hm35 (fun w_ h_ => gLoad (v := .int .i64 (p.z - q.z)) (k := 2) 2 h_ rfl (by kernel_rfl) (.tmp 21) (by kernel_rfl) rfl (litEv (by kernel_rfl))) ?_
  refine mPut rfl (by decide) ?_
  refine mgTake (i := 7) (v := .int .i64 (-(p.z - q.z))) rfl (by kernel_rfl) (wn rfl) (fun _ _ _ h => h) hm35 (fun w_ h_ => gNeg (.tmp 22) rfl (litEv (by kernel_rfl)) (by omega)) ?_
  refine mPut rfl (by decide) ?_
  refine mgTake (i := 8) (v := .int .i64 (max (max (max (max (max (max 0 (p.x - q.x)) (-(p.x - q.x))) (p.y - q.y)) (-(p.y - q.y))) (p.z - q.z)) (-(p.z - q.z)))) rfl (by kernel_rfl) (wn rfl) (fun _ _ _ h => h) hm35 (fun w_ h_ => gMax3 (.tmp 16) (.tmp 19) (.tmp 23) rfl (litEv (by kernel_rfl)) (litEv (by kernel_rfl)) (litEv (by kernel_rfl))) ?_
  refine mPut rfl (by decide) ?_
  refine mgK (i := 9) (v := .int .i64 (max (max (max (max (max (max 0 (p.x - q.x)) (-(p.x - q.x))) (p.y - q.y)) (-(p.y - q.y))) (p.z - q.z)) (-(p.z - q.z)))) rfl (by kernel_rfl) rfl (fun _ _ _ h => h) hm35 (fun _ => by kernel_rfl) rfl (by decide) ?_
  refine mgDone (by kernel_rfl) ?_
  refine inBlock_normal ?_
  refine then_normal (hK34 _ _ ?_)
  refine wpPrune [(4, .int .i64 0), (5, .pointer (some ⟨g13, 0, none⟩)), (6, .int .i64 (max (max (max (max (max (max 0 (p.x - q.x)) (-(p.x - q.x))) (p.y - q.y)) (-(p.y - q.y))) (p.z - q.z)) (-(p.z - q.z)))), (7, .int .i64 2), (12, .int .i64 2), (13, .bool true), (14, .int .i64 1), (15, .int .i64 2), (16, .int .i64 (max (max (max (max 0 (p.x - q.x)) (-(p.x - q.x))) (p.y - q.y)) (-(p.y - q.y)))), (17, .int .i64 2), (18, .pointer (some ⟨g13, 2, none⟩)), (19, .int .i64 (p.z - q.z)), (20, .int .i64 2), (21, .pointer (some ⟨g13, 2, none⟩)), (22, .int .i64 (p.z - q.z)), (23, .int .i64 (-(p.z - q.z))), (24, .int .i64 (max (max (max (max (max (max 0 (p.x - q.x)) (-(p.x - q.x))) (p.y - q.y)) (-(p.y - q.y))) (p.z - q.z)) (-(p.z - q.z))))] ⟨litGet (by kernel_rfl), ⟨litGet (by kernel_rfl), ⟨litGet (by kernel_rfl), ⟨litGet (by kernel_rfl), ⟨litGet (by kernel_rfl), ⟨litGet (by kernel_rfl), ⟨litGet (by kernel_rfl), ⟨litGet (by kernel_rfl), ⟨litGet (by kernel_rfl), ⟨litGet (by kernel_rfl), ⟨litGet (by kernel_rfl), ⟨litGet (by kernel_rfl), ⟨litGet (by kernel_rfl), ⟨litGet (by kernel_rfl), ⟨litGet (by kernel_rfl), ⟨litGet (by kernel_rfl), ⟨litGet (by kernel_rfl), trivial⟩⟩⟩⟩⟩⟩⟩⟩⟩⟩⟩⟩⟩⟩⟩⟩⟩ (fun X37 => ?_)
  refine plStart ?_
  refine litK (v := .int .i64 2) rfl rfl (by kernel_rfl) rfl (by decide) ?_
  refine litK (v := .int .i64 3) rfl rfl (by kernel_rfl) rfl (by decide) ?_
  refine litK (v := .int .i64 3) rfl rfl (by kernel_rfl) rfl (by decide) ?_
  refine plDone (by decide) ?_
  refine then_normal (roundsNext ?_)
  refine wp_seq_k fun K38 hK38 => ?_
  refine wp_seq_k fun K39 hK39 => ?_
  refine plStart ?_
  refine litK (v := .int .i64 3) rfl rfl (by kernel_rfl) rfl (by decide) ?_
  refine litK (v := .bool false) rfl rfl (by kernel_rfl) rfl (by decide) ?_
  refine plDone (by decide) ?_
  refine then_normal (hK39 _ _ ?_)
  refine wp_cond_false (litEv (by kernel_rfl)) ?_
  refine wp_exit ?_
  refine then_exit ?_
  refine then_exit ?_
  refine inBlock_exit ?_
  refine then_normal (hK19 _ _ ?_)
  refine wpPrune [(4, .int .i64 0), (6, .int .i64 (max (max (max (max (max (max 0 (p.x - q.x)) (-(p.x - q.x))) (p.y - q.y)) (-(p.y - q.y))) (p.z - q.z)) (-(p.z - q.z))))] ⟨litGet (by kernel_rfl), ⟨litGet (by kernel_rfl), trivial⟩⟩ (fun X40 => ?_)
  refine wp_seq_k fun K41 hK41 => ?_
  refine plStart ?_
  refine litK (v := .int .i64 (max (max (max (max (max (max 0 (p.x - q.x)) (-(p.x - q.x))) (p.y - q.y)) (-(p.y - q.y))) (p.z - q.z)) (-(p.z - q.z)))) rfl rfl (by kernel_rfl) rfl (by decide) ?_
  refine litK (v := .int .i64 (max (max (max (max (max (max 0 (p.x - q.x)) (-(p.x - q.x))) (p.y - q.y)) (-(p.y - q.y))) (p.z - q.z)) (-(p.z - q.z)))) rfl rfl (by kernel_rfl) rfl (by decide) ?_
  refine plDone (by decide) ?_
  refine then_normal (hK41 _ _ ?_)
  refine wp_ret ?_
  refine bodyPost_ret (v := .int .i64 (max (max (max (max (max (max 0 (p.x - q.x)) (-(p.x - q.x))) (p.y - q.y)) (-(p.y - q.y))) (p.z - q.z)) (-(p.z - q.z)))) (gRes1 rfl (gResTmp (t := 4) (v := .int .i64 (max (max (max (max (max (max 0 (p.x - q.x)) (-(p.x - q.x))) (p.y - q.y)) (-(p.y - q.y))) (p.z - q.z)) (-(p.z - q.z)))) (litGet (by kernel_rfl)))) rfl ?_
  exact ⟨congrArg (fun n_ => Ending.returned (.int .i64 n_)) (by unfold Pt.dist dif; omega), hm35.bel⟩
end Go.Proofs.Ytopdcdjmiepdfaa
namespace Go.Proofs.Ytopdcdjmiepdfaa
open Go.RowKit
set_option linter.unusedVariables false
set_option linter.unusedSimpArgs false
end Go.Proofs.Ytopdcdjmiepdfaa
