/-
  RayWalksAreConnected: the steps of a walk.
-/
import Derived.Test.YtopdcdjmiepdfaaRH
import Derived.Test.YtopdcdjmiepdfaaRC
namespace Go.Proofs.Ytopdcdjmiepdfaa
open Go.RowKit
set_option linter.unusedVariables false
set_option linter.unusedSimpArgs false

set_option maxRecDepth 100000 in
set_option maxHeartbeats 4000000 in
theorem walk_RayWalksAreConnected (a b : Pt) (w : World) (_b0_x : -9223372036854775808 ≤ a.x ∧ a.x ≤ 9223372036854775807) (_b0_y : -9223372036854775808 ≤ a.y ∧ a.y ≤ 9223372036854775807) (_b0_z : -9223372036854775808 ≤ a.z ∧ a.z ≤ 9223372036854775807) (_b1_x : -9223372036854775808 ≤ b.x ∧ b.x ≤ 9223372036854775807) (_b1_y : -9223372036854775808 ≤ b.y ∧ b.y ≤ 9223372036854775807) (_b1_z : -9223372036854775808 ≤ b.z ∧ b.z ≤ 9223372036854775807) : Calls Try.prog 5 #[.agg (pcs a).toArray, .agg (pcs b).toArray] w (RetB w true) := by
  have hm0 := Mem.nil w
  go_enter Try.func5, Try.ntmps5
  refine litStart 181 [(0, .agg (pcs a).toArray), (1, .agg (pcs b).toArray)] (by kernel_rfl) (fun X0 => ?_)
  refine wp_seq_k fun K1 hK1 => ?_
  refine plStart ?_
  refine plBox hm0 (cs := pcs a) (i := 0) rfl (wn rfl) rfl (litEv (by kernel_rfl)) ?_
  intro g2 w4 hm3
  clear hm0
  try simp only [List.cons_append, List.nil_append, List.set_cons_succ, List.set_cons_zero] at hm3
  refine qPut rfl (by decide) ?_
  refine plBox hm3 (cs := pcs b) (i := 1) rfl (wn rfl) rfl (litEv (by kernel_rfl)) ?_
  intro g5 w7 hm6
  clear hm3
  try simp only [List.cons_append, List.nil_append, List.set_cons_succ, List.set_cons_zero] at hm6
  refine qPut rfl (by decide) ?_
  refine litK (v := .bool false) rfl rfl (by kernel_rfl) rfl (by decide) ?_
  refine plDone (by decide) ?_
  refine then_normal (hK1 _ _ ?_)
  refine wp_seq_k fun K8 hK8 => ?_
  refine plStart ?_
  refine plCall (i := 0) 8 [] [] [] rfl (by kernel_rfl) (wn rfl) rfl (litEv (by kernel_rfl)) (litArgs (by kernel_rfl)) (sanity_any _) ?_
  rintro e w9 ⟨rfl, hbz⟩
  have hm10 := hm6.below hbz
  clear hbz hm6
  refine ⟨_, rfl, ?_⟩
  refine qPut rfl (by decide) ?_
  refine litK (v := .bool true) rfl rfl (by kernel_rfl) rfl (by decide) ?_
  refine plDone (by decide) ?_
  refine then_normal (hK8 _ _ ?_)
  refine wp_seq_k fun K11 hK11 => ?_
  refine wp_seq_k fun K12 hK12 => ?_
  refine plStart ?_
  refine litVal (v := .agg (pcs a).toArray) rfl (wn rfl) (gLoadAg (vs := pcs a) (k := 0) 0 hm10 rfl (by kernel_rfl) (by kernel_rfl) (.tmp 2) Ty.ag_voxel_api_Point rfl (litEv (by kernel_rfl))) rfl (by decide) ?_
  refine plCall (i := 1) 20 [.agg (pcs a).toArray] [] [] rfl (by kernel_rfl) (wn rfl) rfl (litEv (by kernel_rfl)) (litArgs (by kernel_rfl)) (inRange1_any a _) ?_
  rintro e w13 ⟨rfl, hbz⟩
  have hm14 := hm10.below hbz
  clear hbz hm10
  refine ⟨_, rfl, ?_⟩
  refine qPut rfl (by decide) ?_
  rcases bool_or (decide a.rng) with h15 | h15
  · rw [h15]
    refine litK (v := .bool true) rfl rfl (by kernel_rfl) rfl (by decide) ?_
    refine litK (v := .bool true) rfl rfl (by kernel_rfl) rfl (by decide) ?_
    refine plSkip (i := 4) rfl (wgN rfl rfl rfl (by decide) (by kernel_rfl)) ?_
    refine qPut rfl (by decide) ?_
    refine plSkip (i := 5) rfl (wgN rfl rfl rfl (by decide) (by kernel_rfl)) ?_
    refine qPut rfl (by decide) ?_
    refine plSkip (i := 6) rfl (wgN rfl rfl rfl (by decide) (by kernel_rfl)) ?_
    refine qPut rfl (by decide) ?_
    refine litK (v := .bool true) rfl rfl (by kernel_rfl) rfl (by decide) ?_
    refine litK (v := .bool true) rfl rfl (by kernel_rfl) rfl (by decide) ?_
    refine plSkip (i := 9) rfl (wgN rfl rfl rfl (by decide) (by kernel_rfl)) ?_
    refine qPut rfl (by decide) ?_
    refine plSkip (i := 10) rfl (wgN rfl rfl rfl (by decide) (by kernel_rfl)) ?_
    refine qPut rfl (by decide) ?_
    refine plSkip (i := 11) rfl (wgN rfl rfl rfl (by decide) (by kernel_rfl)) ?_
    refine qPut rfl (by decide) ?_
    refine plSkip (i := 12) rfl (wgN rfl rfl rfl (by decide) (by kernel_rfl)) ?_
    refine qPut rfl (by decide) ?_
    refine litK (v := .bool true) rfl rfl (by kernel_rfl) rfl (by decide) ?_
    refine plDone (by decide) ?_
    refine then_normal (hK12 _ _ ?_)
    refine wpPrune [(2, .pointer (some ⟨g2, 0, none⟩)), (3, .pointer (some ⟨g5, 0, none⟩)), (4, .bool false), (5, .bool true), (29, .bool true)] ⟨litGet (by kernel_rfl), ⟨litGet (by kernel_rfl), ⟨litGet (by kernel_rfl), ⟨litGet (by kernel_rfl), ⟨litGet (by kernel_rfl), trivial⟩⟩⟩⟩⟩ (fun X16 => ?_)
    refine wp_cond_true (litEv (by kernel_rfl)) ?_
    refine wp_seq_k fun K17 hK17 => ?_
    refine plStart ?_
    refine litK (v := .bool true) rfl rfl (by kernel_rfl) rfl (by decide) ?_
    refine litK (v := .bool true) rfl rfl (by kernel_rfl) rfl (by decide) ?_
    refine plDone (by decide) ?_
    refine then_normal (hK17 _ _ ?_)
    refine wp_ret ?_
    refine then_ret ?_
    refine bodyPost_ret (v := .bool true) (gRes1 rfl (gResTmp (t := 4) (v := .bool true) (litGet (by kernel_rfl)))) rfl ?_
    exact ⟨rfl, hm14.bel⟩
  rw [h15]
  refine litK (v := .bool false) rfl rfl (by kernel_rfl) rfl (by decide) ?_
  refine litK (v := .bool false) rfl rfl (by kernel_rfl) rfl (by decide) ?_
  refine litVal (v := .agg (pcs b).toArray) rfl (wgY rfl rfl rfl (by decide) (by kernel_rfl)) (gLoadAg (vs := pcs b) (k := 0) 1 hm14 rfl (by kernel_rfl) (by kernel_rfl) (.tmp 3) Ty.ag_voxel_api_Point rfl (litEv (by kernel_rfl))) rfl (by decide) ?_
  refine plCall (i := 5) 20 [.agg (pcs b).toArray] [] [] rfl (by kernel_rfl) (wgY rfl rfl rfl (by decide) (by kernel_rfl)) rfl (litEv (by kernel_rfl)) (litArgs (by kernel_rfl)) (inRange1_any b _) ?_
  rintro e w18 ⟨rfl, hbz⟩
  have hm19 := hm14.below hbz
  clear hbz hm14
  refine ⟨_, rfl, ?_⟩
  refine qPut rfl (by decide) ?_
  rcases bool_or (decide b.rng) with h20 | h20
  · rw [h20]
    refine litVal (v := .bool true) rfl (wgY rfl rfl rfl (by decide) (by kernel_rfl)) (litRun (by kernel_rfl)) rfl (by decide) ?_
    refine litK (v := .bool true) rfl rfl (by kernel_rfl) rfl (by decide) ?_
    refine litK (v := .bool true) rfl rfl (by kernel_rfl) rfl (by decide) ?_
    refine plSkip (i := 9) rfl (wgN rfl rfl rfl (by decide) (by kernel_rfl)) ?_
    refine qPut rfl (by decide) ?_
    refine plSkip (i := 10) rfl (wgN rfl rfl rfl (by decide) (by kernel_rfl)) ?_
    refine qPut rfl (by decide) ?_
    refine plSkip (i := 11) rfl (wgN rfl rfl rfl (by decide) (by kernel_rfl)) ?_
    refine qPut rfl (by decide) ?_
    refine plSkip (i := 12) rfl (wgN rfl rfl rfl (by decide) (by kernel_rfl)) ?_
    refine qPut rfl (by decide) ?_
    refine litK (v := .bool true) rfl rfl (by kernel_rfl) rfl (by decide) ?_
    refine plDone (by decide) ?_
    refine then_normal (hK12 _ _ ?_)
    refine wpPrune [(2, .pointer (some ⟨g2, 0, none⟩)), (3, .pointer (some ⟨g5, 0, none⟩)), (4, .bool false), (5, .bool true), (29, .bool true)] ⟨litGet (by kernel_rfl), ⟨litGet (by kernel_rfl), ⟨litGet (by kernel_rfl), ⟨litGet (by kernel_rfl), ⟨litGet (by kernel_rfl), trivial⟩⟩⟩⟩⟩ (fun X21 => ?_)
    refine wp_cond_true (litEv (by kernel_rfl)) ?_
    refine wp_seq_k fun K22 hK22 => ?_
    refine plStart ?_
    refine litK (v := .bool true) rfl rfl (by kernel_rfl) rfl (by decide) ?_
    refine litK (v := .bool true) rfl rfl (by kernel_rfl) rfl (by decide) ?_
    refine plDone (by decide) ?_
    refine then_normal (hK22 _ _ ?_)
    refine wp_ret ?_
    refine then_ret ?_
    refine bodyPost_ret (v := .bool true) (gRes1 rfl (gResTmp (t := 4) (v := .bool true) (litGet (by kernel_rfl)))) rfl ?_
    exact ⟨rfl, hm19.bel⟩
  rw [h20]
  refine litVal (v := .bool false) rfl (wgY rfl rfl rfl (by decide) (by kernel_rfl)) (litRun (by kernel_rfl)) rfl (by decide) ?_
  refine litK (v := .bool false) rfl rfl (by kernel_rfl) rfl (by decide) ?_
  refine litK (v := .bool false) rfl rfl (by kernel_rfl) rfl (by decide) ?_
  refine litVal (v := .agg (pcs a).toArray) rfl (wgY rfl rfl rfl (by decide) (by kernel_rfl)) (gLoadAg (vs := pcs a) (k := 0) 0 hm19 rfl (by kernel_rfl) (by kernel_rfl) (.tmp 2) Ty.ag_voxel_api_Point rfl (litEv (by kernel_rfl))) rfl (by decide) ?_
  refine litVal (v := .agg (pcs b).toArray) rfl (wgY rfl rfl rfl (by decide) (by kernel_rfl)) (gLoadAg (vs := pcs b) (k := 0) 1 hm19 rfl (by kernel_rfl) (by kernel_rfl) (.tmp 3) Ty.ag_voxel_api_Point rfl (litEv (by kernel_rfl))) rfl (by decide) ?_
  refine plCall (i := 11) 21 [.agg (pcs a).toArray, .agg (pcs b).toArray] [] [] rfl (by kernel_rfl) (wgY rfl rfl rfl (by decide) (by kernel_rfl)) rfl (litEv (by kernel_rfl)) (litArgs (by kernel_rfl)) (dist_any a b (of_decide_eq_true h15) (of_decide_eq_true h20) _) ?_
  rintro e w23 ⟨rfl, hbz⟩
  have hm24 := hm19.below hbz
  clear hbz hm19
  refine ⟨_, rfl, ?_⟩
  refine qPut rfl (by decide) ?_
  by_cases h25 : 2000 < (a.dist b)
  · refine litVal (v := .bool true) rfl (wgY rfl rfl rfl (by decide) (by kernel_rfl)) (boolTo (decide_eq_true h25) (gtrRun (A := (a.dist b)) (B := 2000) (.tmp 27) (.const (.int .i64 2000)) rfl (litEv (by kernel_rfl)) (litEv (by kernel_rfl)))) rfl (by decide) ?_
    refine litK (v := .bool true) rfl rfl (by kernel_rfl) rfl (by decide) ?_
    refine plDone (by decide) ?_
    refine then_normal (hK12 _ _ ?_)
    refine wpPrune [(2, .pointer (some ⟨g2, 0, none⟩)), (3, .pointer (some ⟨g5, 0, none⟩)), (4, .bool false), (5, .bool true), (29, .bool true)] ⟨litGet (by kernel_rfl), ⟨litGet (by kernel_rfl), ⟨litGet (by kernel_rfl), ⟨litGet (by kernel_rfl), ⟨litGet (by kernel_rfl), trivial⟩⟩⟩⟩⟩ (fun X26 => ?_)
    refine wp_cond_true (litEv (by kernel_rfl)) ?_
    refine wp_seq_k fun K27 hK27 => ?_
    refine plStart ?_
    refine litK (v := .bool true) rfl rfl (by kernel_rfl) rfl (by decide) ?_
    refine litK (v := .bool true) rfl rfl (by kernel_rfl) rfl (by decide) ?_
    refine plDone (by decide) ?_
    refine then_normal (hK27 _ _ ?_)
    refine wp_ret ?_
    refine then_ret ?_
    refine bodyPost_ret (v := .bool true) (gRes1 rfl (gResTmp (t := 4) (v := .bool true) (litGet (by kernel_rfl)))) rfl ?_
    exact ⟨rfl, hm24.bel⟩
  have ha := of_decide_eq_true h15
  have hb := of_decide_eq_true h20
  have hck := dist_ck ha hb (by omega)
  obtain ⟨l, hl⟩ : ∃ l, walk a b = l := ⟨_, rfl⟩
  have hWl : walkR a b = l := by unfold walkR; rw [if_pos hck, hl]
  have h0 := walk_head a b
  have hLa := walk_last a b
  have hlen := walk_len a b
  have hpos : 0 < (walk a b).length := (List.getElem?_eq_some_iff.1 h0).1
  have hmem : ∀ q ∈ walk a b, (insideT a b q).ok = true ∧ inB a b q := fun q hq => walk_mem hq
  have hst : ∀ (i : Nat) (p q : Pt), (walk a b)[i]? = some p → (walk a b)[i + 1]? = some q → StepOf a b p q := fun i p q hp hq => walk_steps hp hq
  rw [hl] at h0 hLa hlen hpos hmem hst
  have hs1 := (ckE_ok hck).2.2
  have ha_ := ha
  have hb_ := hb
  unfold Pt.rng at ha_ hb_
  refine litVal (v := .bool false) rfl (wgY rfl rfl rfl (by decide) (by kernel_rfl)) (boolTo (decide_eq_false h25) (gtrRun (A := (a.dist b)) (B := 2000) (.tmp 27) (.const (.int .i64 2000)) rfl (litEv (by kernel_rfl)) (litEv (by kernel_rfl)))) rfl (by decide) ?_
  refine litK (v := .bool false) rfl rfl (by kernel_rfl) rfl (by decide) ?_
  refine plDone (by decide) ?_
  refine then_normal (hK12 _ _ ?_)
  refine wpPrune [(2, .pointer (some ⟨g2, 0, none⟩)), (3, .pointer (some ⟨g5, 0, none⟩)), (4, .bool false), (5, .bool true), (29, .bool false)] ⟨litGet (by kernel_rfl), ⟨litGet (by kernel_rfl), ⟨litGet (by kernel_rfl), ⟨litGet (by kernel_rfl), ⟨litGet (by kernel_rfl), trivial⟩⟩⟩⟩⟩ (fun X28 => ?_)
  refine wp_cond_false (litEv (by kernel_rfl)) ?_
  refine wp_skip ?_
  refine then_normal (hK11 _ _ ?_)
  refine wp_seq_k fun K29 hK29 => ?_
  refine plStart ?_
  refine litVal (v := .agg (pcs a).toArray) rfl (wn rfl) (gLoadAg (vs := pcs a) (k := 0) 0 hm24 rfl (by kernel_rfl) (by kernel_rfl) (.tmp 2) Ty.ag_voxel_api_Point rfl (litEv (by kernel_rfl))) rfl (by decide) ?_
  refine litVal (v := .agg (pcs b).toArray) rfl (wn rfl) (gLoadAg (vs := pcs b) (k := 0) 1 hm24 rfl (by kernel_rfl) (by kernel_rfl) (.tmp 3) Ty.ag_voxel_api_Point rfl (litEv (by kernel_rfl))) rfl (by decide) ?_
  refine plCall (i := 2) 10 [.agg (pcs a).toArray, .agg (pcs b).toArray] [] [] rfl (by kernel_rfl) (wn rfl) rfl (litEv (by kernel_rfl)) (litArgs (by kernel_rfl)) (by have h := walk_any a b w23; rw [hWl, hck] at h; exact h) ?_
  rintro e w30 ⟨v32, rfl, hown_, hbz⟩
  obtain ⟨A33, c34, rfl, hrd_⟩ := Rd.of_own hown_
  clear hrd_
  have hm31 := hm24.newRow hbz hown_
  clear hown_ hbz hm24
  try simp only [List.cons_append, List.nil_append, List.set_cons_succ, List.set_cons_zero] at hm31
  obtain ⟨b35, rfl⟩ := hm31.rowBlk (A := A33) (n := l.length) (c := c34) 2 rfl hpos
  refine ⟨_, rfl, ?_⟩
  refine qPut rfl (by decide) ?_
  refine litK (v := .tuple #[.slice (some ⟨b35, 0, none⟩) l.length c34, .int .i64 0]) rfl rfl (by kernel_rfl) rfl (by decide) ?_
  refine litK (v := .slice (some ⟨b35, 0, none⟩) l.length c34) rfl rfl (by kernel_rfl) rfl (by decide) ?_
  refine litK (v := .int .i64 0) rfl rfl (by kernel_rfl) rfl (by decide) ?_
  refine litK (v := .slice (some ⟨b35, 0, none⟩) l.length c34) rfl rfl (by kernel_rfl) rfl (by decide) ?_
  refine litK (v := .int .i64 0) rfl rfl (by kernel_rfl) rfl (by decide) ?_
  refine plDone (by decide) ?_
  refine then_normal (hK29 _ _ ?_)
  refine wp_seq_k fun K36 hK36 => ?_
  refine wp_seq_k fun K37 hK37 => ?_
  refine mgStart hm31 (by kernel_rfl) ?_
  intro w39 hm38
  clear hm31
  refine mgK (i := 0) (v := .int .i64 0) rfl (by kernel_rfl) rfl (fun _ _ _ h => h) hm38 (fun _ => by kernel_rfl) rfl (by decide) ?_
  refine mgK (i := 1) (v := .bool false) rfl (by kernel_rfl) rfl (fun _ _ _ h => h) hm38 (fun _ => by kernel_rfl) rfl (by decide) ?_
  refine mgK (i := 2) (v := .bool false) rfl (by kernel_rfl) rfl (fun _ _ _ h => h) hm38 (fun _ => by kernel_rfl) rfl (by decide) ?_
  refine mgTake (i := 3) (v := .slice (some ⟨b35, 0, none⟩) l.length c34) rfl (by kernel_rfl) (wgY rfl rfl rfl (by decide) (by kernel_rfl)) (fun _ _ _ h => h) hm38 (fun w_ h_ => litRun (by kernel_rfl)) ?_
  refine mPut rfl (by decide) ?_
  refine mgTake (i := 4) (v := .int .i64 (l.length : Int)) rfl (by kernel_rfl) (wgY rfl rfl rfl (by decide) (by kernel_rfl)) (fun _ _ _ h => h) hm38 (fun w_ h_ => lenSlRun (A := some ⟨b35, 0, none⟩) (n := l.length) (c := c34) (.tmp 40) Ty.und_L_api_Point rfl (litEv (by kernel_rfl))) ?_
  refine mPut rfl (by decide) ?_
  refine mgTake (i := 5) (v := .bool false) rfl (by kernel_rfl) (wgY rfl rfl rfl (by decide) (by kernel_rfl)) (fun _ _ _ h => h) hm38 (fun w_ h_ => boolTo (decide_eq_false (by omega)) (eqlRun (A := (l.length : Int)) (B := 0) (.tmp 41) (.const (.int .i64 0)) rfl (litEv (by kernel_rfl)) (litEv (by kernel_rfl)))) ?_
  refine mPut rfl (by decide) ?_
  refine mgK (i := 6) (v := .bool false) rfl (by kernel_rfl) rfl (fun _ _ _ h => h) hm38 (fun _ => by kernel_rfl) rfl (by decide) ?_
  refine mgK (i := 7) (v := .bool false) rfl (by kernel_rfl) rfl (fun _ _ _ h => h) hm38 (fun _ => by kernel_rfl) rfl (by decide) ?_
  refine mgTake (i := 8) (v := .slice (some ⟨b35, 0, none⟩) l.length c34) rfl (by kernel_rfl) (wgY rfl rfl rfl (by decide) (by kernel_rfl)) (fun _ _ _ h => h) hm38 (fun w_ h_ => litRun (by kernel_rfl)) ?_
  refine mPut rfl (by decide) ?_
  refine mgTake (i := 9) (v := .pointer (some ⟨b35, 0 + 0 * 3, none⟩)) rfl (by kernel_rfl) (wgY rfl rfl rfl (by decide) (by kernel_rfl)) (fun _ _ _ h => h) hm38 (fun w_ h_ => gIaSl (b := b35) (off := 0) (n := l.length) (c := c34) (kk := .i64) (K := 0) (.tmp 45) (.const (.int .i64 0)) 0 Ty.sl_L_api_Point rfl (litEv (by kernel_rfl)) (litEv (by kernel_rfl)) (rfl) (hpos)) ?_
  refine mPut rfl (by decide) ?_
  refine mgTake (i := 10) (v := .agg (pcs a).toArray) rfl (by kernel_rfl) (wgY rfl rfl rfl (by decide) (by kernel_rfl)) (fun _ _ _ h => h) hm38 (fun w_ h_ => gLoadAgRd (vs := pcs a) (m := 0 * 3) (h_.rdRow 2 rfl) rfl (ptsC_get h0) (by kernel_rfl) (by omega) (.tmp 46) Ty.ag_voxel_api_Point rfl (litEv (by kernel_rfl))) ?_
  refine mPut rfl (by decide) ?_
  refine mgTake (i := 11) (v := .agg (pcs a).toArray) rfl (by kernel_rfl) (wgY rfl rfl rfl (by decide) (by kernel_rfl)) (fun _ _ _ h => h) hm38 (fun w_ h_ => gLoadAg (vs := pcs a) (k := 0) 0 h_ rfl (by kernel_rfl) (by kernel_rfl) (.tmp 2) Ty.ag_voxel_api_Point rfl (litEv (by kernel_rfl))) ?_
  refine mPut rfl (by decide) ?_
  refine mgTake (i := 12) (v := .bool false) rfl (by kernel_rfl) (wgY rfl rfl rfl (by decide) (by kernel_rfl)) (fun _ _ _ h => h) hm38 (fun w_ h_ => boolTo (by rw [decide_eq_true rfl]; rfl) (neqPtRun (.tmp 47) (.tmp 48) a a (by kernel_rfl) (by kernel_rfl) (by kernel_rfl) (by kernel_rfl) rfl (litEv (by kernel_rfl)) (litEv (by kernel_rfl)))) ?_
  refine mPut rfl (by decide) ?_
  refine mgK (i := 13) (v := .bool false) rfl (by kernel_rfl) rfl (fun _ _ _ h => h) hm38 (fun _ => by kernel_rfl) rfl (by decide) ?_
  refine mgK (i := 14) (v := .bool false) rfl (by kernel_rfl) rfl (fun _ _ _ h => h) hm38 (fun _ => by kernel_rfl) rfl (by decide) ?_
  refine mgTake (i := 15) (v := .slice (some ⟨b35, 0, none⟩) l.length c34) rfl (by kernel_rfl) (wgY rfl rfl rfl (by decide) (by kernel_rfl)) (fun _ _ _ h => h) hm38 (fun w_ h_ => litRun (by kernel_rfl)) ?_
  refine mPut rfl (by decide) ?_
  refine mgTake (i := 16) (v := .slice (some ⟨b35, 0, none⟩) l.length c34) rfl (by kernel_rfl) (wgY rfl rfl rfl (by decide) (by kernel_rfl)) (fun _ _ _ h => h) hm38 (fun w_ h_ => litRun (by kernel_rfl)) ?_
  refine mPut rfl (by decide) ?_
  refine mgTake (i := 17) (v := .int .i64 (l.length : Int)) rfl (by kernel_rfl) (wgY rfl rfl rfl (by decide) (by kernel_rfl)) (fun _ _ _ h => h) hm38 (fun w_ h_ => lenSlRun (A := some ⟨b35, 0, none⟩) (n := l.length) (c := c34) (.tmp 53) Ty.und_L_api_Point rfl (litEv (by kernel_rfl))) ?_
  refine mPut rfl (by decide) ?_
  refine mgTake (i := 18) (v := .int .i64 ((l.length : Int) - 1)) rfl (by kernel_rfl) (wgY rfl rfl rfl (by decide) (by kernel_rfl)) (fun _ _ _ h => h) hm38 (fun w_ h_ => subRun (A := (l.length : Int)) (B := 1) (C := (l.length : Int) - 1) (.tmp 54) (.const (.int .i64 1)) rfl (litEv (by kernel_rfl)) (litEv (by kernel_rfl)) rfl (by omega)) ?_
  refine mPut rfl (by decide) ?_
  refine mgTake (i := 19) (v := .pointer (some ⟨b35, 0 + (l.length - 1) * 3, none⟩)) rfl (by kernel_rfl) (wgY rfl rfl rfl (by decide) (by kernel_rfl)) (fun _ _ _ h => h) hm38 (fun w_ h_ => gIaSl (b := b35) (off := 0) (n := l.length) (c := c34) (kk := .i64) (K := ((l.length : Int) - 1)) (.tmp 52) (.tmp 55) (l.length - 1) Ty.sl_L_api_Point rfl (litEv (by kernel_rfl)) (litEv (by kernel_rfl)) ((by omega)) ((by omega))) ?_
  refine mPut rfl (by decide) ?_
  refine mgTake (i := 20) (v := .agg (pcs b).toArray) rfl (by kernel_rfl) (wgY rfl rfl rfl (by decide) (by kernel_rfl)) (fun _ _ _ h => h) hm38 (fun w_ h_ => gLoadAgRd (vs := pcs b) (m := (l.length - 1) * 3) (h_.rdRow 2 rfl) rfl (ptsC_get hLa) (by kernel_rfl) (by omega) (.tmp 56) Ty.ag_voxel_api_Point rfl (litEv (by kernel_rfl))) ?_
  refine mPut rfl (by decide) ?_
  refine mgTake (i := 21) (v := .agg (pcs b).toArray) rfl (by kernel_rfl) (wgY rfl rfl rfl (by decide) (by kernel_rfl)) (fun _ _ _ h => h) hm38 (fun w_ h_ => gLoadAg (vs := pcs b) (k := 0) 1 h_ rfl (by kernel_rfl) (by kernel_rfl) (.tmp 3) Ty.ag_voxel_api_Point rfl (litEv (by kernel_rfl))) ?_
  refine mPut rfl (by decide) ?_
  refine mgTake (i := 22) (v := .bool false) rfl (by kernel_rfl) (wgY rfl rfl rfl (by decide) (by kernel_rfl)) (fun _ _ _ h => h) hm38 (fun w_ h_ => boolTo (by rw [decide_eq_true rfl]; rfl) (neqPtRun (.tmp 57) (.tmp 58) b b (by kernel_rfl) (by kernel_rfl) (by kernel_rfl) (by kernel_rfl) rfl (litEv (by kernel_rfl)) (litEv (by kernel_rfl)))) ?_
  refine mPut rfl (by decide) ?_
  refine mgK (i := 23) (v := .bool false) rfl (by kernel_rfl) rfl (fun _ _ _ h => h) hm38 (fun _ => by kernel_rfl) rfl (by decide) ?_
  refine mgK (i := 24) (v := .bool false) rfl (by kernel_rfl) rfl (fun _ _ _ h => h) hm38 (fun _ => by kernel_rfl) rfl (by decide) ?_
  refine mgTake (i := 25) (v := .slice (some ⟨b35, 0, none⟩) l.length c34) rfl (by kernel_rfl) (wgY rfl rfl rfl (by decide) (by kernel_rfl)) (fun _ _ _ h => h) hm38 (fun w_ h_ => litRun (by kernel_rfl)) ?_
  refine mPut rfl (by decide) ?_
  refine mgTake (i := 26) (v := .int .i64 (l.length : Int)) rfl (by kernel_rfl) (wgY rfl rfl rfl (by decide) (by kernel_rfl)) (fun _ _ _ h => h) hm38 (fun w_ h_ => lenSlRun (A := some ⟨b35, 0, none⟩) (n := l.length) (c := c34) (.tmp 62) Ty.und_L_api_Point rfl (litEv (by kernel_rfl))) ?_
  refine mPut rfl (by decide) ?_
  refine mgTake (i := 27) (v := .agg (pcs a).toArray) rfl (by kernel_rfl) (wgY rfl rfl rfl (by decide) (by kernel_rfl)) (fun _ _ _ h => h) hm38 (fun w_ h_ => gLoadAg (vs := pcs a) (k := 0) 0 h_ rfl (by kernel_rfl) (by kernel_rfl) (.tmp 2) Ty.ag_voxel_api_Point rfl (litEv (by kernel_rfl))) ?_
  refine mPut rfl (by decide) ?_
  refine mgTake (i := 28) (v := .agg (pcs b).toArray) rfl (by kernel_rfl) (wgY rfl rfl rfl (by decide) (by kernel_rfl)) (fun _ _ _ h => h) hm38 (fun w_ h_ => gLoadAg (vs := pcs b) (k := 0) 1 h_ rfl (by kernel_rfl) (by kernel_rfl) (.tmp 3) Ty.ag_voxel_api_Point rfl (litEv (by kernel_rfl))) ?_
  refine mPut rfl (by decide) ?_
  refine mgCall (i := 29) 22 [.agg (pcs a).toArray, .agg (pcs b).toArray] [] [] (by kernel_rfl) rfl (by kernel_rfl) (wgY rfl rfl rfl (by decide) (by kernel_rfl)) rfl (litEv (by kernel_rfl)) (litArgs (by kernel_rfl)) (sum_any a b (of_decide_eq_true h15) (of_decide_eq_true h20) _) ?_
  rintro e w40 ⟨rfl, hbz⟩
  have hm41 := hm38.below hbz
  clear hbz hm38
  refine ⟨_, rfl, hm41, ?_⟩
  refine mPut rfl (by decide) ?_
  refine mgTake (i := 30) (v := .int .i64 (1 + (a.sum b))) rfl (by kernel_rfl) (wgY rfl rfl rfl (by decide) (by kernel_rfl)) (fun _ _ _ h => h) hm41 (fun w_ h_ => addRun (A := 1) (B := (a.sum b)) (C := 1 + (a.sum b)) (.const (.int .i64 1)) (.tmp 66) rfl (litEv (by kernel_rfl)) (litEv (by kernel_rfl)) rfl (by omega)) ?_
  refine mPut rfl (by decide) ?_
  refine mgTake (i := 31) (v := .bool false) rfl (by kernel_rfl) (wgY rfl rfl rfl (by decide) (by kernel_rfl)) (fun _ _ _ h => h) hm41 (fun w_ h_ => boolTo (decide_eq_false (by omega)) (gtrRun (A := (l.length : Int)) (B := (1 + (a.sum b))) (.tmp 63) (.tmp 67) rfl (litEv (by kernel_rfl)) (litEv (by kernel_rfl)))) ?_
  refine mPut rfl (by decide) ?_
  refine mgK (i := 32) (v := .bool false) rfl (by kernel_rfl) rfl (fun _ _ _ h => h) hm41 (fun _ => by kernel_rfl) rfl (by decide) ?_
  refine mgDone (by kernel_rfl) ?_
  refine then_normal (hK37 _ _ ?_)
  refine wpPrune [(2, .pointer (some ⟨g2, 0, none⟩)), (3, .pointer (some ⟨g5, 0, none⟩)), (4, .bool false), (5, .bool true), (6, .slice (some ⟨b35, 0, none⟩) l.length c34), (69, .bool false)] ⟨litGet (by kernel_rfl), ⟨litGet (by kernel_rfl), ⟨litGet (by kernel_rfl), ⟨litGet (by kernel_rfl), ⟨litGet (by kernel_rfl), ⟨litGet (by kernel_rfl), trivial⟩⟩⟩⟩⟩⟩ (fun X42 => ?_)
  refine wp_cond_false (litEv (by kernel_rfl)) ?_
  refine wp_skip ?_
  refine then_normal (hK36 _ _ ?_)
  refine wp_seq_k fun K43 hK43 => ?_
  refine plStart ?_
  refine litK (v := .pointer (some ⟨g5, 0, none⟩)) rfl rfl (by kernel_rfl) rfl (by decide) ?_
  refine litVal (v := .int .i64 b.x) rfl (wn rfl) (gLoad (v := .int .i64 b.x) (k := 0) 1 hm41 rfl (by kernel_rfl) (.tmp 70) (by kernel_rfl) rfl (litEv (by kernel_rfl))) rfl (by decide) ?_
  refine litK (v := .pointer (some ⟨g2, 0, none⟩)) rfl rfl (by kernel_rfl) rfl (by decide) ?_
  refine litVal (v := .int .i64 a.x) rfl (wn rfl) (gLoad (v := .int .i64 a.x) (k := 0) 0 hm41 rfl (by kernel_rfl) (.tmp 72) (by kernel_rfl) rfl (litEv (by kernel_rfl))) rfl (by decide) ?_
  refine litVal (v := .int .i64 (b.x - a.x)) rfl (wn rfl) (subRun (A := b.x) (B := a.x) (C := b.x - a.x) (.tmp 71) (.tmp 73) rfl (litEv (by kernel_rfl)) (litEv (by kernel_rfl)) rfl (by omega)) rfl (by decide) ?_
  refine plCall (i := 5) 23 [.int .i64 (b.x - a.x)] [] [] rfl (by kernel_rfl) (wn rfl) rfl (litEv (by kernel_rfl)) (litArgs (by kernel_rfl)) (sign_any (b.x - a.x) _) ?_
  rintro e w44 ⟨rfl, hbz⟩
  have hm45 := hm41.below hbz
  clear hbz hm41
  refine ⟨_, rfl, ?_⟩
  refine qPut rfl (by decide) ?_
  refine litK (v := .int .i64 (max (-1) (min 1 (b.x - a.x)))) rfl rfl (by kernel_rfl) rfl (by decide) ?_
  refine plDone (by decide) ?_
  refine then_normal (hK43 _ _ ?_)
  refine wp_seq_k fun K46 hK46 => ?_
  refine plStart ?_
  refine litK (v := .pointer (some ⟨g5, 1, none⟩)) rfl rfl (by kernel_rfl) rfl (by decide) ?_
  refine litVal (v := .int .i64 b.y) rfl (wn rfl) (gLoad (v := .int .i64 b.y) (k := 1) 1 hm45 rfl (by kernel_rfl) (.tmp 76) (by kernel_rfl) rfl (litEv (by kernel_rfl))) rfl (by decide) ?_
  refine litK (v := .pointer (some ⟨g2, 1, none⟩)) rfl rfl (by kernel_rfl) rfl (by decide) ?_
  refine litVal (v := .int .i64 a.y) rfl (wn rfl) (gLoad (v := .int .i64 a.y) (k := 1) 0 hm45 rfl (by kernel_rfl) (.tmp 78) (by kernel_rfl) rfl (litEv (by kernel_rfl))) rfl (by decide) ?_
  refine litVal (v := .int .i64 (b.y - a.y)) rfl (wn rfl) (subRun (A := b.y) (B := a.y) (C := b.y - a.y) (.tmp 77) (.tmp 79) rfl (litEv (by kernel_rfl)) (litEv (by kernel_rfl)) rfl (by omega)) rfl (by decide) ?_
  refine plCall (i := 5) 23 [.int .i64 (b.y - a.y)] [] [] rfl (by kernel_rfl) (wn rfl) rfl (litEv (by kernel_rfl)) (litArgs (by kernel_rfl)) (sign_any (b.y - a.y) _) ?_
  rintro e w47 ⟨rfl, hbz⟩
  have hm48 := hm45.below hbz
  clear hbz hm45
  refine ⟨_, rfl, ?_⟩
  refine qPut rfl (by decide) ?_
  refine litK (v := .int .i64 (max (-1) (min 1 (b.y - a.y)))) rfl rfl (by kernel_rfl) rfl (by decide) ?_
  refine plDone (by decide) ?_
  refine then_normal (hK46 _ _ ?_)
  refine wpPrune [(2, .pointer (some ⟨g2, 0, none⟩)), (3, .pointer (some ⟨g5, 0, none⟩)), (4, .bool false), (5, .bool true), (6, .slice (some ⟨b35, 0, none⟩) l.length c34), (8, .int .i64 (max (-1) (min 1 (b.x - a.x)))), (9, .int .i64 (max (-1) (min 1 (b.y - a.y))))] ⟨litGet (by kernel_rfl), ⟨litGet (by kernel_rfl), ⟨litGet (by kernel_rfl), ⟨litGet (by kernel_rfl), ⟨litGet (by kernel_rfl), ⟨litGet (by kernel_rfl), ⟨litGet (by kernel_rfl), trivial⟩⟩⟩⟩⟩⟩⟩ (fun X49 => ?_)
  refine wp_seq_k fun K50 hK50 => ?_
  refine plStart ?_
  refine litK (v := .pointer (some ⟨g5, 2, none⟩)) rfl rfl (by kernel_rfl) rfl (by decide) ?_
  refine litVal (v := .int .i64 b.z) rfl (wn rfl) (gLoad (v := .int .i64 b.z) (k := 2) 1 hm48 rfl (by kernel_rfl) (.tmp 82) (by kernel_rfl) rfl (litEv (by kernel_rfl))) rfl (by decide) ?_
  refine litK (v := .pointer (some ⟨g2, 2, none⟩)) rfl rfl (by kernel_rfl) rfl (by decide) ?_
  refine litVal (v := .int .i64 a.z) rfl (wn rfl) (gLoad (v := .int .i64 a.z) (k := 2) 0 hm48 rfl (by kernel_rfl) (.tmp 84) (by kernel_rfl) rfl (litEv (by kernel_rfl))) rfl (by decide) ?_
  refine litVal (v := .int .i64 (b.z - a.z)) rfl (wn rfl) (subRun (A := b.z) (B := a.z) (C := b.z - a.z) (.tmp 83) (.tmp 85) rfl (litEv (by kernel_rfl)) (litEv (by kernel_rfl)) rfl (by omega)) rfl (by decide) ?_
  refine plCall (i := 5) 23 [.int .i64 (b.z - a.z)] [] [] rfl (by kernel_rfl) (wn rfl) rfl (litEv (by kernel_rfl)) (litArgs (by kernel_rfl)) (sign_any (b.z - a.z) _) ?_
  rintro e w51 ⟨rfl, hbz⟩
  have hm52 := hm48.below hbz
  clear hbz hm48
  refine ⟨_, rfl, ?_⟩
  refine qPut rfl (by decide) ?_
  refine litK (v := .int .i64 (max (-1) (min 1 (b.z - a.z)))) rfl rfl (by kernel_rfl) rfl (by decide) ?_
  refine plDone (by decide) ?_
  refine then_normal (hK50 _ _ ?_)
  refine wp_seq_k fun K53 hK53 => ?_
  refine wp_seq_k fun K54 hK54 => ?_
  refine plStart ?_
  refine litK (v := .int .i64 0) rfl rfl (by kernel_rfl) rfl (by decide) ?_
  refine plDone (by decide) ?_
  refine then_normal (hK54 _ _ ?_)
  refine wp_block ?_
  refine gwLoop (fun n_ a_ w_ => ∃ (i : Nat), n_ = l.length - i ∧ (i ≤ l.length) ∧ Fr a_ 181 [(2, .pointer (some ⟨g2, 0, none⟩)), (3, .pointer (some ⟨g5, 0, none⟩)), (5, .bool true), (6, .slice (some ⟨b35, 0, none⟩) l.length c34), (8, .int .i64 (max (-1) (min 1 (b.x - a.x)))), (9, .int .i64 (max (-1) (min 1 (b.y - a.y)))), (10, .int .i64 (max (-1) (min 1 (b.z - a.z)))), (11, .int .i64 (i : Int))] ∧ Mem w w_ [.arr g2 23 (pcs a), .arr g5 23 (pcs b), .row (.slice (some ⟨b35, 0, none⟩) l.length c34) 23 3 l.length (ptsC l)]) (l.length - 0) ⟨0, rfl, (Nat.zero_le _), ⟨litSize, rfl, ⟨litGet (by kernel_rfl), ⟨litGet (by kernel_rfl), ⟨litGet (by kernel_rfl), ⟨litGet (by kernel_rfl), ⟨litGet (by kernel_rfl), ⟨litGet (by kernel_rfl), ⟨litGet (by kernel_rfl), ⟨litGet (by kernel_rfl), trivial⟩⟩⟩⟩⟩⟩⟩⟩⟩, (hm52.sub (.cons_cons _ (.cons_cons _ (.cons_cons _ .slnil))))⟩ ?_
  clear hm52
  intro n_ a57 w55 hI_
  obtain ⟨i, rfl, hi_, hF_, hm56⟩ := hI_
  obtain ⟨X58, rfl⟩ := frLit hF_
  clear hF_
  refine wp_seq_k fun K59 hK59 => ?_
  refine wp_seq_k fun K60 hK60 => ?_
  refine plStart ?_
  refine litK (v := .int .i64 (i : Int)) rfl rfl (by kernel_rfl) rfl (by decide) ?_
  refine litK (v := .slice (some ⟨b35, 0, none⟩) l.length c34) rfl rfl (by kernel_rfl) rfl (by decide) ?_
  refine litVal (v := .int .i64 (l.length : Int)) rfl (wn rfl) (lenSlRun (A := some ⟨b35, 0, none⟩) (n := l.length) (c := c34) (.tmp 89) Ty.und_L_api_Point rfl (litEv (by kernel_rfl))) rfl (by decide) ?_
  by_cases h61 : (i : Int) < (l.length : Int)
  · have hil : i < l.length := by omega
    obtain ⟨q, hq⟩ : ∃ q, l[i]? = some q := ⟨_, List.getElem?_eq_getElem hil⟩
    have hmq := hmem q (List.mem_of_getElem? hq)
    have hqr := box_rng ha hb hmq.2
    refine litVal (v := .bool true) rfl (wn rfl) (boolTo (decide_eq_true h61) (lssRun (A := (i : Int)) (B := (l.length : Int)) (.tmp 88) (.tmp 90) rfl (litEv (by kernel_rfl)) (litEv (by kernel_rfl)))) rfl (by decide) ?_
    refine plDone (by decide) ?_
    refine then_normal (hK60 _ _ ?_)
    refine wp_cond_true (litEv (by kernel_rfl)) ?_
    refine wp_skip ?_
    refine then_normal (hK59 _ _ ?_)
    refine wp_seq_k fun K62 hK62 => ?_
    refine wp_block ?_
    refine wp_seq_k fun K63 hK63 => ?_
    refine wp_seq_k fun K64 hK64 => ?_
    refine mgStart hm56 (by kernel_rfl) ?_
    intro w66 hm65
    clear hm56
    refine mgTake (i := 0) (v := .agg (pcs a).toArray) rfl (by kernel_rfl) (wn rfl) (fun _ _ _ h => h) hm65 (fun w_ h_ => gLoadAg (vs := pcs a) (k := 0) 0 h_ rfl (by kernel_rfl) (by kernel_rfl) (.tmp 2) Ty.ag_voxel_api_Point rfl (litEv (by kernel_rfl))) ?_
    refine mPut rfl (by decide) ?_
    refine mgTake (i := 1) (v := .agg (pcs b).toArray) rfl (by kernel_rfl) (wn rfl) (fun _ _ _ h => h) hm65 (fun w_ h_ => gLoadAg (vs := pcs b) (k := 0) 1 h_ rfl (by kernel_rfl) (by kernel_rfl) (.tmp 3) Ty.ag_voxel_api_Point rfl (litEv (by kernel_rfl))) ?_
    refine mPut rfl (by decide) ?_
    refine mgK (i := 2) (v := .slice (some ⟨b35, 0, none⟩) l.length c34) rfl (by kernel_rfl) rfl (fun _ _ _ h => h) hm65 (fun _ => by kernel_rfl) rfl (by decide) ?_
    refine mgK (i := 3) (v := .int .i64 (i : Int)) rfl (by kernel_rfl) rfl (fun _ _ _ h => h) hm65 (fun _ => by kernel_rfl) rfl (by decide) ?_
    refine mgTake (i := 4) (v := .pointer (some ⟨b35, 0 + i * 3, none⟩)) rfl (by kernel_rfl) (wn rfl) (fun _ _ _ h => h) hm65 (fun w_ h_ => gIaSl (b := b35) (off := 0) (n := l.length) (c := c34) (kk := .i64) (K := (i : Int)) (.tmp 96) (.tmp 97) i Ty.sl_L_api_Point rfl (litEv (by kernel_rfl)) (litEv (by kernel_rfl)) (rfl) (hil)) ?_
    refine mPut rfl (by decide) ?_
    refine mgTake (i := 5) (v := .agg (pcs q).toArray) rfl (by kernel_rfl) (wn rfl) (fun _ _ _ h => h) hm65 (fun w_ h_ => gLoadAgRd (vs := pcs q) (m := i * 3) (h_.rdRow 2 rfl) rfl (ptsC_get hq) (by kernel_rfl) (by omega) (.tmp 98) Ty.ag_voxel_api_Point rfl (litEv (by kernel_rfl))) ?_
    refine mPut rfl (by decide) ?_
    refine mgCall (i := 6) 14 [.agg (pcs a).toArray, .agg (pcs b).toArray, .agg (pcs q).toArray] [] [] (by kernel_rfl) rfl (by kernel_rfl) (wn rfl) rfl (litEv (by kernel_rfl)) (litArgs (by kernel_rfl)) (callsTo (congrArg Value.bool (cross_yes ha hb hqr hmq.1)) (refCrosses_any a b q _)) ?_
    rintro e w67 ⟨rfl, hbz⟩
    have hm68 := hm65.below hbz
    clear hbz hm65
    refine ⟨_, rfl, hm68, ?_⟩
    refine mPut rfl (by decide) ?_
    refine mgK (i := 7) (v := .bool false) rfl (by kernel_rfl) rfl (fun _ _ _ h => h) hm68 (fun _ => by kernel_rfl) rfl (by decide) ?_
    refine mgDone (by kernel_rfl) ?_
    refine then_normal (hK64 _ _ ?_)
    refine wp_cond_false (litEv (by kernel_rfl)) ?_
    refine wp_skip ?_
    refine then_normal (hK63 _ _ ?_)
    refine wp_seq_k fun K69 hK69 => ?_
    refine wp_seq_k fun K70 hK70 => ?_
    refine plStart ?_
    refine litK (v := .int .i64 (i : Int)) rfl rfl (by kernel_rfl) rfl (by decide) ?_
    by_cases h71 : (i : Int) = 0
    · refine litVal (v := .bool true) rfl (wn rfl) (boolTo (decide_eq_true h71) (eqlRun (A := (i : Int)) (B := 0) (.tmp 102) (.const (.int .i64 0)) rfl (litEv (by kernel_rfl)) (litEv (by kernel_rfl)))) rfl (by decide) ?_
      refine plDone (by decide) ?_
      refine then_normal (hK70 _ _ ?_)
      refine wp_cond_true (litEv (by kernel_rfl)) ?_
      refine wp_exit ?_
      refine then_exit ?_
      refine inBlock_exit ?_
      refine then_normal (hK62 _ _ ?_)
      refine plStart ?_
      refine litK (v := .int .i64 (i : Int)) rfl rfl (by kernel_rfl) rfl (by decide) ?_
      refine litVal (v := .int .i64 ((i : Int) + 1)) rfl (wn rfl) (addRun (A := (i : Int)) (B := 1) (C := (i : Int) + 1) (.tmp 92) (.const (.int .i64 1)) rfl (litEv (by kernel_rfl)) (litEv (by kernel_rfl)) rfl (by omega)) rfl (by decide) ?_
      refine litK (v := .int .i64 ((i : Int) + 1)) rfl rfl (by kernel_rfl) rfl (by decide) ?_
      refine plDone (by decide) ?_
      refine then_normal ?_
      exact ⟨_, by omega, (i + 1), rfl, (by omega), ⟨litSize, rfl, ⟨litGet (by kernel_rfl), ⟨litGet (by kernel_rfl), ⟨litGet (by kernel_rfl), ⟨litGet (by kernel_rfl), ⟨litGet (by kernel_rfl), ⟨litGet (by kernel_rfl), ⟨litGet (by kernel_rfl), ⟨litGet (by kernel_rfl), trivial⟩⟩⟩⟩⟩⟩⟩⟩⟩, (hm68.sub (.cons_cons _ (.cons_cons _ (.cons_cons _ .slnil))))⟩
    have hi0 : 0 < i := by omega
    obtain ⟨p, hp⟩ : ∃ p, l[i - 1]? = some p := ⟨_, List.getElem?_eq_getElem (by omega)⟩
    have hmp := hmem p (List.mem_of_getElem? hp)
    have hpr := box_rng ha hb hmp.2
    have hS := (hst (i - 1) p q hp (by rw [show i - 1 + 1 = i by omega]; exact hq)).facts
    have hq30 := rng_small hqr
    have hp30 := rng_small hpr
    refine litVal (v := .bool false) rfl (wn rfl) (boolTo (decide_eq_false h71) (eqlRun (A := (i : Int)) (B := 0) (.tmp 102) (.const (.int .i64 0)) rfl (litEv (by kernel_rfl)) (litEv (by kernel_rfl)))) rfl (by decide) ?_
    refine plDone (by decide) ?_
    refine then_normal (hK70 _ _ ?_)
    refine wp_cond_false (litEv (by kernel_rfl)) ?_
    refine wp_skip ?_
    refine then_normal (hK69 _ _ ?_)
    refine wp_seq_k fun K72 hK72 => ?_
    refine aoStart (aoV [fun _ => .slice (some ⟨b35, 0, none⟩) l.length c34, fun _ => .int .i64 (i : Int), fun _ => .pointer (some ⟨b35, 0 + i * 3, none⟩), fun _ => .agg (pcs q).toArray, fun _ => .slice (some ⟨b35, 0, none⟩) l.length c34, fun _ => .int .i64 (i : Int), fun _ => .int .i64 ((i : Int) - 1), fun _ => .pointer (some ⟨b35, 0 + (i - 1) * 3, none⟩), fun _ => .agg (pcs p).toArray, fun _ => .agg (pcs (q.sub p)).toArray, fun γ_ => .pointer (some ⟨γ_, 0, none⟩), fun _ => undef]) (aoA [0, 1, 2, 3, 4, 5, 6, 7, 8, 9, 10, 11]) (fun b_ g_ => ((.arr g2 23 (pcs a)) :: (.arr g5 23 (pcs b)) :: (.row (.slice (some ⟨b35, 0, none⟩) l.length c34) 23 3 l.length (ptsC l)) :: (bsel (b_ 10) (.arr (g_ 10) 23 (bsel (b_ 11) [.int .i64 (q.x - p.x), .int .i64 (q.y - p.y), .int .i64 (q.z - p.z)] [.int .i64 0, .int .i64 0, .int .i64 0])) .free) :: [])) hm68 (by kernel_rfl) (by kernel_rfl) (fun w_ h_ => h_.pushFree) (fun b_ g_ h_ => by show (fun (x10_ x11_ : Bool) => (((.arr g2 23 (pcs a)) :: (.arr g5 23 (pcs b)) :: (.row (.slice (some ⟨b35, 0, none⟩) l.length c34) 23 3 l.length (ptsC l)) :: (bsel x10_ (.arr (g_ 10) 23 (bsel x11_ [.int .i64 (q.x - p.x), .int .i64 (q.y - p.y), .int .i64 (q.z - p.z)] [.int .i64 0, .int .i64 0, .int .i64 0])) .free) :: []) : List Res)) (b_ 10) (b_ 11) = _; rw [h_ 10 (by decide), h_ 11 (by decide)]) ?_ ?_
    · refine aoNext rfl (aoVal (fun g_ => [(6, .slice (some ⟨b35, 0, none⟩) l.length c34)]) (fun g_ a_ h_k => ⟨(h_k.out 6 (by kernel_rfl)).trans (litGet (by kernel_rfl)), trivial⟩) (fun g_ X_ => (wn rfl)) (fun b_ g_ => by kernel_rfl) (fun b_ g_ X_ w_ h_b h_ => valTo (b := .slice (some ⟨b35, 0, none⟩) l.length c34) (by kernel_rfl) (litRun (by kernel_rfl)))) ?_
      refine aoNext rfl (aoVal (fun g_ => [(11, .int .i64 (i : Int))]) (fun g_ a_ h_k => ⟨(h_k.out 11 (by kernel_rfl)).trans (litGet (by kernel_rfl)), trivial⟩) (fun g_ X_ => (wn rfl)) (fun b_ g_ => by kernel_rfl) (fun b_ g_ X_ w_ h_b h_ => valTo (b := .int .i64 (i : Int)) (by kernel_rfl) (litRun (by kernel_rfl)))) ?_
      refine aoNext rfl (aoVal (fun g_ => [(104, .slice (some ⟨b35, 0, none⟩) l.length c34), (105, .int .i64 (i : Int))]) (fun g_ a_ h_k => ⟨(h_k.inn 0 _ _ (by kernel_rfl) rfl rfl).trans (by kernel_rfl), (h_k.inn 1 _ _ (by kernel_rfl) rfl rfl).trans (by kernel_rfl), trivial⟩) (fun g_ X_ => (wn rfl)) (fun b_ g_ => by kernel_rfl) (fun b_ g_ X_ w_ h_b h_ => valTo (b := .pointer (some ⟨b35, 0 + i * 3, none⟩)) (by kernel_rfl) (gIaSl (b := b35) (off := 0) (n := l.length) (c := c34) (kk := .i64) (K := (i : Int)) (.tmp 104) (.tmp 105) i Ty.sl_L_api_Point rfl (litEv (by kernel_rfl)) (litEv (by kernel_rfl)) (rfl) (hil)))) ?_
      refine aoNext rfl (aoVal (fun g_ => [(106, .pointer (some ⟨b35, 0 + i * 3, none⟩))]) (fun g_ a_ h_k => ⟨(h_k.inn 2 _ _ (by kernel_rfl) rfl rfl).trans (by kernel_rfl), trivial⟩) (fun g_ X_ => (wn rfl)) (fun b_ g_ => by kernel_rfl) (fun b_ g_ X_ w_ h_b h_ => valTo (b := .agg (pcs q).toArray) (by kernel_rfl) (gLoadAgRd (vs := pcs q) (m := i * 3) (h_.rdRow 2 rfl) rfl (ptsC_get hq) (by kernel_rfl) (by omega) (.tmp 106) Ty.ag_voxel_api_Point rfl (litEv (by kernel_rfl))))) ?_
      refine aoNext rfl (aoVal (fun g_ => [(6, .slice (some ⟨b35, 0, none⟩) l.length c34)]) (fun g_ a_ h_k => ⟨(h_k.out 6 (by kernel_rfl)).trans (litGet (by kernel_rfl)), trivial⟩) (fun g_ X_ => (wn rfl)) (fun b_ g_ => by kernel_rfl) (fun b_ g_ X_ w_ h_b h_ => valTo (b := .slice (some ⟨b35, 0, none⟩) l.length c34) (by kernel_rfl) (litRun (by kernel_rfl)))) ?_
      refine aoNext rfl (aoVal (fun g_ => [(11, .int .i64 (i : Int))]) (fun g_ a_ h_k => ⟨(h_k.out 11 (by kernel_rfl)).trans (litGet (by kernel_rfl)), trivial⟩) (fun g_ X_ => (wn rfl)) (fun b_ g_ => by kernel_rfl) (fun b_ g_ X_ w_ h_b h_ => valTo (b := .int .i64 (i : Int)) (by kernel_rfl) (litRun (by kernel_rfl)))) ?_
      refine aoNext rfl (aoVal (fun g_ => [(109, .int .i64 (i : Int))]) (fun g_ a_ h_k => ⟨(h_k.inn 5 _ _ (by kernel_rfl) rfl rfl).trans (by kernel_rfl), trivial⟩) (fun g_ X_ => (wn rfl)) (fun b_ g_ => by kernel_rfl) (fun b_ g_ X_ w_ h_b h_ => valTo (b := .int .i64 ((i : Int) - 1)) (by kernel_rfl) (subRun (A := (i : Int)) (B := 1) (C := (i : Int) - 1) (.tmp 109) (.const (.int .i64 1)) rfl (litEv (by kernel_rfl)) (litEv (by kernel_rfl)) rfl (by omega)))) ?_
      refine aoNext rfl (aoVal (fun g_ => [(108, .slice (some ⟨b35, 0, none⟩) l.length c34), (110, .int .i64 ((i : Int) - 1))]) (fun g_ a_ h_k => ⟨(h_k.inn 4 _ _ (by kernel_rfl) rfl rfl).trans (by kernel_rfl), (h_k.inn 6 _ _ (by kernel_rfl) rfl rfl).trans (by kernel_rfl), trivial⟩) (fun g_ X_ => (wn rfl)) (fun b_ g_ => by kernel_rfl) (fun b_ g_ X_ w_ h_b h_ => valTo (b := .pointer (some ⟨b35, 0 + (i - 1) * 3, none⟩)) (by kernel_rfl) (gIaSl (b := b35) (off := 0) (n := l.length) (c := c34) (kk := .i64) (K := ((i : Int) - 1)) (.tmp 108) (.tmp 110) (i - 1) Ty.sl_L_api_Point rfl (litEv (by kernel_rfl)) (litEv (by kernel_rfl)) ((by omega)) ((by omega))))) ?_
      refine aoNext rfl (aoVal (fun g_ => [(111, .pointer (some ⟨b35, 0 + (i - 1) * 3, none⟩))]) (fun g_ a_ h_k => ⟨(h_k.inn 7 _ _ (by kernel_rfl) rfl rfl).trans (by kernel_rfl), trivial⟩) (fun g_ X_ => (wn rfl)) (fun b_ g_ => by kernel_rfl) (fun b_ g_ X_ w_ h_b h_ => valTo (b := .agg (pcs p).toArray) (by kernel_rfl) (gLoadAgRd (vs := pcs p) (m := (i - 1) * 3) (h_.rdRow 2 rfl) rfl (ptsC_get hp) (by kernel_rfl) (by omega) (.tmp 111) Ty.ag_voxel_api_Point rfl (litEv (by kernel_rfl))))) ?_
      refine aoNext rfl (aoCall (fun g_ => [(107, .agg (pcs q).toArray), (112, .agg (pcs p).toArray)]) (fun g_ a_ h_k => ⟨(h_k.inn 3 _ _ (by kernel_rfl) rfl rfl).trans (by kernel_rfl), (h_k.inn 8 _ _ (by kernel_rfl) rfl rfl).trans (by kernel_rfl), trivial⟩) 24 (fun g_ => [.agg (pcs q).toArray, .agg (pcs p).toArray]) [] [] (by kernel_rfl) (fun g_ X_ => (wn rfl)) (fun b_ g_ => by kernel_rfl) rfl (fun g_ X_ => litEv (by kernel_rfl)) (fun g_ X_ => litArgs (by kernel_rfl)) (fun b_ g_ w_ h_b h_ => (sub_any q p hq30 hp30 _).mono (fun _ _ h_r => ⟨h_r.1.trans (by kernel_rfl), h_r.2⟩))) ?_
      refine aoNext rfl (aoNewAg (z := [.int .i64 0, .int .i64 0, .int .i64 0]) 3 Ty.ag_voxel_api_Point rfl rfl (fun _ _ _ => ⟨_, rfl⟩) (fun b_ g_ γ_ h_b => Eq.trans (by kernel_rfl) (congrArg (fun x_ => List.set _ 3 (Res.arr γ_ 23 x_)) (bselF (α := List Value) (h_b.post 11 (by kernel_rfl)) [.int .i64 (q.x - p.x), .int .i64 (q.y - p.y), .int .i64 (q.z - p.z)] [.int .i64 0, .int .i64 0, .int .i64 0]))) (fun _ => by kernel_rfl) (by kernel_rfl)) ?_
      refine aoNext rfl (aoStore (gb := fun g_ => (g_ 10)) (k := 0) (cur := fun g_ => [.int .i64 0, .int .i64 0, .int .i64 0]) (vs := fun g_ => pcs (q.sub p)) 3 (fun g_ => [(12, .pointer (some ⟨(g_ 10), 0, none⟩)), (113, .agg (pcs (q.sub p)).toArray)]) (fun g_ a_ h_k => ⟨(h_k.inn 10 _ _ (by kernel_rfl) rfl rfl).trans (by kernel_rfl), (h_k.inn 9 _ _ (by kernel_rfl) rfl rfl).trans (by kernel_rfl), trivial⟩) Ty.ag_voxel_api_Point (fun b_ g_ h_b => by show some (bsel (b_ 10) (Res.arr (g_ 10) 23 (bsel (b_ 11) [.int .i64 (q.x - p.x), .int .i64 (q.y - p.y), .int .i64 (q.z - p.z)] [.int .i64 0, .int .i64 0, .int .i64 0])) Res.free) = some (Res.arr (g_ 10) 23 ([.int .i64 0, .int .i64 0, .int .i64 0])); rw [bselT (h_b.pre 10 (by kernel_rfl)), bselF h_b.no]) (fun g_ X_ => (wn rfl)) rfl (fun g_ X_ => litEv (by kernel_rfl)) (fun g_ X_ => litEv (by kernel_rfl)) (fun _ => by kernel_rfl) (fun _ => by kernel_rfl) (fun _ => by kernel_rfl) (fun b_ g_ h_b => Eq.trans (b := List.set (((.arr g2 23 (pcs a)) :: (.arr g5 23 (pcs b)) :: (.row (.slice (some ⟨b35, 0, none⟩) l.length c34) 23 3 l.length (ptsC l)) :: (bsel (b_ 10) (.arr (g_ 10) 23 (bsel (b_ 11) [.int .i64 (q.x - p.x), .int .i64 (q.y - p.y), .int .i64 (q.z - p.z)] [.int .i64 0, .int .i64 0, .int .i64 0])) .free) :: [])) 3 (bsel (b_ 10) (Res.arr (g_ 10) 23 ([.int .i64 (q.x - p.x), .int .i64 (q.y - p.y), .int .i64 (q.z - p.z)])) Res.free)) (by kernel_rfl) (congrArg (fun x_ => List.set _ 3 x_) (bselT (h_b.pre 10 (by kernel_rfl)) _ _))) rfl) ?_
      exact aoDone (by decide)
    intro g_ a_ w74 hF_ hm73
    obtain ⟨X75, rfl⟩ := frLit (⟨hF_.size, hF_.defers, ⟨(hF_.out 2 (by kernel_rfl)).trans (litGet (by kernel_rfl)), (hF_.out 3 (by kernel_rfl)).trans (litGet (by kernel_rfl)), (hF_.out 5 (by kernel_rfl)).trans (litGet (by kernel_rfl)), (hF_.out 6 (by kernel_rfl)).trans (litGet (by kernel_rfl)), (hF_.out 8 (by kernel_rfl)).trans (litGet (by kernel_rfl)), (hF_.out 9 (by kernel_rfl)).trans (litGet (by kernel_rfl)), (hF_.out 10 (by kernel_rfl)).trans (litGet (by kernel_rfl)), (hF_.out 11 (by kernel_rfl)).trans (litGet (by kernel_rfl)), (hF_.inn 10 _ _ rfl rfl).trans (by kernel_rfl), (hF_.out 88 (by kernel_rfl)).trans (litGet (by kernel_rfl)), (hF_.out 89 (by kernel_rfl)).trans (litGet (by kernel_rfl)), (hF_.out 90 (by kernel_rfl)).trans (litGet (by kernel_rfl)), (hF_.out 91 (by kernel_rfl)).trans (litGet (by kernel_rfl)), (hF_.out 94 (by kernel_rfl)).trans (litGet (by kernel_rfl)), (hF_.out 95 (by kernel_rfl)).trans (litGet (by kernel_rfl)), (hF_.out 96 (by kernel_rfl)).trans (litGet (by kernel_rfl)), (hF_.out 97 (by kernel_rfl)).trans (litGet (by kernel_rfl)), (hF_.out 98 (by kernel_rfl)).trans (litGet (by kernel_rfl)), (hF_.out 99 (by kernel_rfl)).trans (litGet (by kernel_rfl)), (hF_.out 100 (by kernel_rfl)).trans (litGet (by kernel_rfl)), (hF_.out 101 (by kernel_rfl)).trans (litGet (by kernel_rfl)), (hF_.out 102 (by kernel_rfl)).trans (litGet (by kernel_rfl)), (hF_.out 103 (by kernel_rfl)).trans (litGet (by kernel_rfl)), (hF_.inn 0 _ _ rfl rfl).trans (by kernel_rfl), (hF_.inn 1 _ _ rfl rfl).trans (by kernel_rfl), (hF_.inn 2 _ _ rfl rfl).trans (by kernel_rfl), (hF_.inn 3 _ _ rfl rfl).trans (by kernel_rfl), (hF_.inn 4 _ _ rfl rfl).trans (by kernel_rfl), (hF_.inn 5 _ _ rfl rfl).trans (by kernel_rfl), (hF_.inn 6 _ _ rfl rfl).trans (by kernel_rfl), (hF_.inn 7 _ _ rfl rfl).trans (by kernel_rfl), (hF_.inn 8 _ _ rfl rfl).trans (by kernel_rfl), (hF_.inn 9 _ _ rfl rfl).trans (by kernel_rfl), trivial⟩⟩ : Fr _ 181 [(2, .pointer (some ⟨g2, 0, none⟩)), (3, .pointer (some ⟨g5, 0, none⟩)), (5, .bool true), (6, .slice (some ⟨b35, 0, none⟩) l.length c34), (8, .int .i64 (max (-1) (min 1 (b.x - a.x)))), (9, .int .i64 (max (-1) (min 1 (b.y - a.y)))), (10, .int .i64 (max (-1) (min 1 (b.z - a.z)))), (11, .int .i64 (i : Int)), (12, .pointer (some ⟨(g_ 10), 0, none⟩)), (88, .int .i64 (i : Int)), (89, .slice (some ⟨b35, 0, none⟩) l.length c34), (90, .int .i64 (l.length : Int)), (91, .bool true), (94, .agg (pcs a).toArray), (95, .agg (pcs b).toArray), (96, .slice (some ⟨b35, 0, none⟩) l.length c34), (97, .int .i64 (i : Int)), (98, .pointer (some ⟨b35, 0 + i * 3, none⟩)), (99, .agg (pcs q).toArray), (100, .bool true), (101, .bool false), (102, .int .i64 (i : Int)), (103, .bool false), (104, .slice (some ⟨b35, 0, none⟩) l.length c34), (105, .int .i64 (i : Int)), (106, .pointer (some ⟨b35, 0 + i * 3, none⟩)), (107, .agg (pcs q).toArray), (108, .slice (some ⟨b35, 0, none⟩) l.length c34), (109, .int .i64 (i : Int)), (110, .int .i64 ((i : Int) - 1)), (111, .pointer (some ⟨b35, 0 + (i - 1) * 3, none⟩)), (112, .agg (pcs p).toArray), (113, .agg (pcs (q.sub p)).toArray)])
    clear hF_
    have hm76 : Mem w w74 [.arr g2 23 (pcs a), .arr g5 23 (pcs b), .row (.slice (some ⟨b35, 0, none⟩) l.length c34) 23 3 l.length (ptsC l), .arr (g_ 10) 23 (pcs (q.sub p))] := hm73
    clear hm73 hm68
    generalize g_ 10 = g77 at hm76 ⊢
    clear g_
    refine then_normal (hK72 _ _ ?_)
    refine gwCut (fun a_ w_ => Fr a_ 181 [(2, .pointer (some ⟨g2, 0, none⟩)), (3, .pointer (some ⟨g5, 0, none⟩)), (5, .bool true), (6, .slice (some ⟨b35, 0, none⟩) l.length c34), (8, .int .i64 (max (-1) (min 1 (b.x - a.x)))), (9, .int .i64 (max (-1) (min 1 (b.y - a.y)))), (10, .int .i64 (max (-1) (min 1 (b.z - a.z)))), (11, .int .i64 (i : Int)), (12, .pointer (some ⟨g77, 0, none⟩)), (88, .int .i64 (i : Int)), (89, .slice (some ⟨b35, 0, none⟩) l.length c34), (90, .int .i64 (l.length : Int)), (91, .bool true), (94, .agg (pcs a).toArray), (95, .agg (pcs b).toArray), (96, .slice (some ⟨b35, 0, none⟩) l.length c34), (97, .int .i64 (i : Int)), (98, .pointer (some ⟨b35, 0 + i * 3, none⟩)), (99, .agg (pcs q).toArray), (100, .bool true), (101, .bool false), (102, .int .i64 (i : Int)), (103, .bool false), (104, .slice (some ⟨b35, 0, none⟩) l.length c34), (105, .int .i64 (i : Int)), (106, .pointer (some ⟨b35, 0 + i * 3, none⟩)), (107, .agg (pcs q).toArray), (108, .slice (some ⟨b35, 0, none⟩) l.length c34), (109, .int .i64 (i : Int)), (110, .int .i64 ((i : Int) - 1)), (111, .pointer (some ⟨b35, 0 + (i - 1) * 3, none⟩)), (112, .agg (pcs p).toArray), (113, .agg (pcs (q.sub p)).toArray)] ∧ Mem w w_ [.arr g2 23 (pcs a), .arr g5 23 (pcs b), .row (.slice (some ⟨b35, 0, none⟩) l.length c34) 23 3 l.length (ptsC l)]) ?_ ?_
    · refine wp_seq_k fun K78 hK78 => ?_
      refine mgStart hm76 (by kernel_rfl) ?_
      intro w80 hm79
      clear hm76
      refine mgTake (i := 0) (v := .agg (pcs (q.sub p)).toArray) rfl (by kernel_rfl) (wn rfl) (fun _ _ _ h => h) hm79 (fun w_ h_ => gLoadAg (vs := pcs (q.sub p)) (k := 0) 3 h_ rfl (by kernel_rfl) (by kernel_rfl) (.tmp 12) Ty.ag_voxel_api_Point rfl (litEv (by kernel_rfl))) ?_
      refine mPut rfl (by decide) ?_
      refine mgCall (i := 1) 25 [.int .i64 0, .int .i64 0, .int .i64 0] [] [] (by kernel_rfl) rfl (by kernel_rfl) (wn rfl) rfl (litEv (by kernel_rfl)) (litArgs (by kernel_rfl)) (at_any 0 0 0 _) ?_
      rintro e w81 ⟨rfl, hbz⟩
      have hm82 := hm79.below hbz
      clear hbz hm79
      refine ⟨_, rfl, hm82, ?_⟩
      refine mPut rfl (by decide) ?_
      refine mgTake (i := 2) (v := .bool false) rfl (by kernel_rfl) (wn rfl) (fun _ _ _ h => h) hm82 (fun w_ h_ => boolTo (decide_eq_false (sub_ne hS.2.2.2.1)) (eqPtRun (.tmp 114) (.tmp 115) (q.sub p) (⟨0, 0, 0⟩) (by kernel_rfl) (by kernel_rfl) (by kernel_rfl) (by kernel_rfl) rfl (litEv (by kernel_rfl)) (litEv (by kernel_rfl)))) ?_
      refine mPut rfl (by decide) ?_
      refine mgK (i := 3) (v := .bool false) rfl (by kernel_rfl) rfl (fun _ _ _ h => h) hm82 (fun _ => by kernel_rfl) rfl (by decide) ?_
      refine mgTake (i := 4) (v := .pointer (some ⟨g77, 0, none⟩)) rfl (by kernel_rfl) (wgY rfl rfl rfl (by decide) (by kernel_rfl)) (fun _ _ _ h => h) hm82 (fun w_ h_ => litRun (by kernel_rfl)) ?_
      refine mPut rfl (by decide) ?_
      refine mgTake (i := 5) (v := .int .i64 (q.x - p.x)) rfl (by kernel_rfl) (wgY rfl rfl rfl (by decide) (by kernel_rfl)) (fun _ _ _ h => h) hm82 (fun w_ h_ => gLoad (v := .int .i64 (q.x - p.x)) (k := 0) 3 h_ rfl (by kernel_rfl) (.tmp 118) (by kernel_rfl) rfl (litEv (by kernel_rfl))) ?_
      refine mPut rfl (by decide) ?_
      by_cases h83 : (q.x - p.x) = 0
      · refine mgTake (i := 6) (v := .bool false) rfl (by kernel_rfl) (wgY rfl rfl rfl (by decide) (by kernel_rfl)) (fun _ _ _ h => h) hm82 (fun w_ h_ => boolTo (by rw [decide_eq_true h83]; rfl) (neqRun (A := (q.x - p.x)) (B := 0) (.tmp 119) (.const (.int .i64 0)) rfl (litEv (by kernel_rfl)) (litEv (by kernel_rfl)))) ?_
        refine mPut rfl (by decide) ?_
        refine mgTake (i := 7) (v := .bool false) rfl (by kernel_rfl) (wgY rfl rfl rfl (by decide) (by kernel_rfl)) (fun _ _ _ h => h) hm82 (fun w_ h_ => litRun (by kernel_rfl)) ?_
        refine mPut rfl (by decide) ?_
        refine mgSkip (i := 8) rfl (by kernel_rfl) (wgN rfl rfl rfl (by decide) (by kernel_rfl)) (fun _ _ _ h => h) hm82 ?_
        refine mPut rfl (by decide) ?_
        refine mgSkip (i := 9) rfl (by kernel_rfl) (wgN rfl rfl rfl (by decide) (by kernel_rfl)) (fun _ _ _ h => h) hm82 ?_
        refine mPut rfl (by decide) ?_
        refine mgSkip (i := 10) rfl (by kernel_rfl) (wgN rfl rfl rfl (by decide) (by kernel_rfl)) (fun _ _ _ h => h) hm82 ?_
        refine mPut rfl (by decide) ?_
        refine mgSkip (i := 11) rfl (by kernel_rfl) (wgN rfl rfl rfl (by decide) (by kernel_rfl)) (fun _ _ _ h => h) hm82 ?_
        refine mPut rfl (by decide) ?_
        refine mgTake (i := 12) (v := .bool false) rfl (by kernel_rfl) (wgY rfl rfl rfl (by decide) (by kernel_rfl)) (fun _ _ _ h => h) hm82 (fun w_ h_ => litRun (by kernel_rfl)) ?_
        refine mPut rfl (by decide) ?_
        refine mgK (i := 13) (v := .bool false) rfl (by kernel_rfl) rfl (fun _ _ _ h => h) hm82 (fun _ => by kernel_rfl) rfl (by decide) ?_
        refine mgK (i := 14) (v := .bool false) rfl (by kernel_rfl) rfl (fun _ _ _ h => h) hm82 (fun _ => by kernel_rfl) rfl (by decide) ?_
        refine mgTake (i := 15) (v := .pointer (some ⟨g77, 1, none⟩)) rfl (by kernel_rfl) (wgY rfl rfl rfl (by decide) (by kernel_rfl)) (fun _ _ _ h => h) hm82 (fun w_ h_ => litRun (by kernel_rfl)) ?_
        refine mPut rfl (by decide) ?_
        refine mgTake (i := 16) (v := .int .i64 (q.y - p.y)) rfl (by kernel_rfl) (wgY rfl rfl rfl (by decide) (by kernel_rfl)) (fun _ _ _ h => h) hm82 (fun w_ h_ => gLoad (v := .int .i64 (q.y - p.y)) (k := 1) 3 h_ rfl (by kernel_rfl) (.tmp 129) (by kernel_rfl) rfl (litEv (by kernel_rfl))) ?_
        refine mPut rfl (by decide) ?_
        by_cases h84 : (q.y - p.y) = 0
        · refine mgTake (i := 17) (v := .bool false) rfl (by kernel_rfl) (wgY rfl rfl rfl (by decide) (by kernel_rfl)) (fun _ _ _ h => h) hm82 (fun w_ h_ => boolTo (by rw [decide_eq_true h84]; rfl) (neqRun (A := (q.y - p.y)) (B := 0) (.tmp 130) (.const (.int .i64 0)) rfl (litEv (by kernel_rfl)) (litEv (by kernel_rfl)))) ?_
          refine mPut rfl (by decide) ?_
          refine mgTake (i := 18) (v := .bool false) rfl (by kernel_rfl) (wgY rfl rfl rfl (by decide) (by kernel_rfl)) (fun _ _ _ h => h) hm82 (fun w_ h_ => litRun (by kernel_rfl)) ?_
          refine mPut rfl (by decide) ?_
          refine mgSkip (i := 19) rfl (by kernel_rfl) (wgN rfl rfl rfl (by decide) (by kernel_rfl)) (fun _ _ _ h => h) hm82 ?_
          refine mPut rfl (by decide) ?_
          refine mgSkip (i := 20) rfl (by kernel_rfl) (wgN rfl rfl rfl (by decide) (by kernel_rfl)) (fun _ _ _ h => h) hm82 ?_
          refine mPut rfl (by decide) ?_
          refine mgSkip (i := 21) rfl (by kernel_rfl) (wgN rfl rfl rfl (by decide) (by kernel_rfl)) (fun _ _ _ h => h) hm82 ?_
          refine mPut rfl (by decide) ?_
          refine mgSkip (i := 22) rfl (by kernel_rfl) (wgN rfl rfl rfl (by decide) (by kernel_rfl)) (fun _ _ _ h => h) hm82 ?_
          refine mPut rfl (by decide) ?_
          refine mgTake (i := 23) (v := .bool false) rfl (by kernel_rfl) (wgY rfl rfl rfl (by decide) (by kernel_rfl)) (fun _ _ _ h => h) hm82 (fun w_ h_ => litRun (by kernel_rfl)) ?_
          refine mPut rfl (by decide) ?_
          refine mgK (i := 24) (v := .bool false) rfl (by kernel_rfl) rfl (fun _ _ _ h => h) hm82 (fun _ => by kernel_rfl) rfl (by decide) ?_
          refine mgK (i := 25) (v := .bool false) rfl (by kernel_rfl) rfl (fun _ _ _ h => h) hm82 (fun _ => by kernel_rfl) rfl (by decide) ?_
          refine mgTake (i := 26) (v := .pointer (some ⟨g77, 2, none⟩)) rfl (by kernel_rfl) (wgY rfl rfl rfl (by decide) (by kernel_rfl)) (fun _ _ _ h => h) hm82 (fun w_ h_ => litRun (by kernel_rfl)) ?_
          refine mPut rfl (by decide) ?_
          refine mgTake (i := 27) (v := .int .i64 (q.z - p.z)) rfl (by kernel_rfl) (wgY rfl rfl rfl (by decide) (by kernel_rfl)) (fun _ _ _ h => h) hm82 (fun w_ h_ => gLoad (v := .int .i64 (q.z - p.z)) (k := 2) 3 h_ rfl (by kernel_rfl) (.tmp 140) (by kernel_rfl) rfl (litEv (by kernel_rfl))) ?_
          refine mPut rfl (by decide) ?_
          by_cases h85 : (q.z - p.z) = 0
          · refine mgTake (i := 28) (v := .bool false) rfl (by kernel_rfl) (wgY rfl rfl rfl (by decide) (by kernel_rfl)) (fun _ _ _ h => h) hm82 (fun w_ h_ => boolTo (by rw [decide_eq_true h85]; rfl) (neqRun (A := (q.z - p.z)) (B := 0) (.tmp 141) (.const (.int .i64 0)) rfl (litEv (by kernel_rfl)) (litEv (by kernel_rfl)))) ?_
            refine mPut rfl (by decide) ?_
            refine mgTake (i := 29) (v := .bool false) rfl (by kernel_rfl) (wgY rfl rfl rfl (by decide) (by kernel_rfl)) (fun _ _ _ h => h) hm82 (fun w_ h_ => litRun (by kernel_rfl)) ?_
            refine mPut rfl (by decide) ?_
            refine mgSkip (i := 30) rfl (by kernel_rfl) (wgN rfl rfl rfl (by decide) (by kernel_rfl)) (fun _ _ _ h => h) hm82 ?_
            refine mPut rfl (by decide) ?_
            refine mgSkip (i := 31) rfl (by kernel_rfl) (wgN rfl rfl rfl (by decide) (by kernel_rfl)) (fun _ _ _ h => h) hm82 ?_
            refine mPut rfl (by decide) ?_
            refine mgSkip (i := 32) rfl (by kernel_rfl) (wgN rfl rfl rfl (by decide) (by kernel_rfl)) (fun _ _ _ h => h) hm82 ?_
            refine mPut rfl (by decide) ?_
            refine mgSkip (i := 33) rfl (by kernel_rfl) (wgN rfl rfl rfl (by decide) (by kernel_rfl)) (fun _ _ _ h => h) hm82 ?_
            refine mPut rfl (by decide) ?_
            refine mgTake (i := 34) (v := .bool false) rfl (by kernel_rfl) (wgY rfl rfl rfl (by decide) (by kernel_rfl)) (fun _ _ _ h => h) hm82 (fun w_ h_ => litRun (by kernel_rfl)) ?_
            refine mPut rfl (by decide) ?_
            refine mgK (i := 35) (v := .bool false) rfl (by kernel_rfl) rfl (fun _ _ _ h => h) hm82 (fun _ => by kernel_rfl) rfl (by decide) ?_
            refine mgDone (by kernel_rfl) ?_
            refine then_normal (hK78 _ _ ?_)
            refine wp_cond_false (litEv (by kernel_rfl)) ?_
            refine wp_skip ?_
            refine then_normal ?_
            exact ⟨⟨litSize, rfl, ⟨litGet (by kernel_rfl), ⟨litGet (by kernel_rfl), ⟨litGet (by kernel_rfl), ⟨litGet (by kernel_rfl), ⟨litGet (by kernel_rfl), ⟨litGet (by kernel_rfl), ⟨litGet (by kernel_rfl), ⟨litGet (by kernel_rfl), ⟨litGet (by kernel_rfl), ⟨litGet (by kernel_rfl), ⟨litGet (by kernel_rfl), ⟨litGet (by kernel_rfl), ⟨litGet (by kernel_rfl), ⟨litGet (by kernel_rfl), ⟨litGet (by kernel_rfl), ⟨litGet (by kernel_rfl), ⟨litGet (by kernel_rfl), ⟨litGet (by kernel_rfl), ⟨litGet (by kernel_rfl), ⟨litGet (by kernel_rfl), ⟨litGet (by kernel_rfl), ⟨litGet (by kernel_rfl), ⟨litGet (by kernel_rfl), ⟨litGet (by kernel_rfl), ⟨litGet (by kernel_rfl), ⟨litGet (by kernel_rfl), ⟨litGet (by kernel_rfl), ⟨litGet (by kernel_rfl), ⟨litGet (by kernel_rfl), ⟨litGet (by kernel_rfl), ⟨litGet (by kernel_rfl), ⟨litGet (by kernel_rfl), ⟨litGet (by kernel_rfl), trivial⟩⟩⟩⟩⟩⟩⟩⟩⟩⟩⟩⟩⟩⟩⟩⟩⟩⟩⟩⟩⟩⟩⟩⟩⟩⟩⟩⟩⟩⟩⟩⟩⟩⟩, (hm82.sub (.cons_cons _ (.cons_cons _ (.cons_cons _ (.cons _ .slnil)))))⟩
          refine mgTake (i := 28) (v := .bool true) rfl (by kernel_rfl) (wgY rfl rfl rfl (by decide) (by kernel_rfl)) (fun _ _ _ h => h) hm82 (fun w_ h_ => boolTo (by rw [decide_eq_false h85]; rfl) (neqRun (A := (q.z - p.z)) (B := 0) (.tmp 141) (.const (.int .i64 0)) rfl (litEv (by kernel_rfl)) (litEv (by kernel_rfl)))) ?_
          refine mPut rfl (by decide) ?_
          refine mgTake (i := 29) (v := .bool true) rfl (by kernel_rfl) (wgY rfl rfl rfl (by decide) (by kernel_rfl)) (fun _ _ _ h => h) hm82 (fun w_ h_ => litRun (by kernel_rfl)) ?_
          refine mPut rfl (by decide) ?_
          refine mgTake (i := 30) (v := .pointer (some ⟨g77, 2, none⟩)) rfl (by kernel_rfl) (wgY rfl rfl rfl (by decide) (by kernel_rfl)) (fun _ _ _ h => h) hm82 (fun w_ h_ => litRun (by kernel_rfl)) ?_
          refine mPut rfl (by decide) ?_
          refine mgTake (i := 31) (v := .int .i64 (q.z - p.z)) rfl (by kernel_rfl) (wgY rfl rfl rfl (by decide) (by kernel_rfl)) (fun _ _ _ h => h) hm82 (fun w_ h_ => gLoad (v := .int .i64 (q.z - p.z)) (k := 2) 3 h_ rfl (by kernel_rfl) (.tmp 144) (by kernel_rfl) rfl (litEv (by kernel_rfl))) ?_
          refine mPut rfl (by decide) ?_
          refine mgTake (i := 32) (v := .int .i64 (max (-1) (min 1 (b.z - a.z)))) rfl (by kernel_rfl) (wgY rfl rfl rfl (by decide) (by kernel_rfl)) (fun _ _ _ h => h) hm82 (fun w_ h_ => litRun (by kernel_rfl)) ?_
          refine mPut rfl (by decide) ?_
          refine mgTake (i := 33) (v := .bool false) rfl (by kernel_rfl) (wgY rfl rfl rfl (by decide) (by kernel_rfl)) (fun _ _ _ h => h) hm82 (fun w_ h_ => boolTo (by rw [decide_eq_true (by have h_ := hS.2.2.1; unfold sgn at h_; omega)]; rfl) (neqRun (A := (q.z - p.z)) (B := (max (-1) (min 1 (b.z - a.z)))) (.tmp 145) (.tmp 146) rfl (litEv (by kernel_rfl)) (litEv (by kernel_rfl)))) ?_
          refine mPut rfl (by decide) ?_
          refine mgTake (i := 34) (v := .bool false) rfl (by kernel_rfl) (wgY rfl rfl rfl (by decide) (by kernel_rfl)) (fun _ _ _ h => h) hm82 (fun w_ h_ => litRun (by kernel_rfl)) ?_
          refine mPut rfl (by decide) ?_
          refine mgK (i := 35) (v := .bool false) rfl (by kernel_rfl) rfl (fun _ _ _ h => h) hm82 (fun _ => by kernel_rfl) rfl (by decide) ?_
          refine mgDone (by kernel_rfl) ?_
          refine then_normal (hK78 _ _ ?_)
          refine wp_cond_false (litEv (by kernel_rfl)) ?_
          refine wp_skip ?_
          refine then_normal ?_
          exact ⟨⟨litSize, rfl, ⟨litGet (by kernel_rfl), ⟨litGet (by kernel_rfl), ⟨litGet (by kernel_rfl), ⟨litGet (by kernel_rfl), ⟨litGet (by kernel_rfl), ⟨litGet (by kernel_rfl), ⟨litGet (by kernel_rfl), ⟨litGet (by kernel_rfl), ⟨litGet (by kernel_rfl), ⟨litGet (by kernel_rfl), ⟨litGet (by kernel_rfl), ⟨litGet (by kernel_rfl), ⟨litGet (by kernel_rfl), ⟨litGet (by kernel_rfl), ⟨litGet (by kernel_rfl), ⟨litGet (by kernel_rfl), ⟨litGet (by kernel_rfl), ⟨litGet (by kernel_rfl), ⟨litGet (by kernel_rfl), ⟨litGet (by kernel_rfl), ⟨litGet (by kernel_rfl), ⟨litGet (by kernel_rfl), ⟨litGet (by kernel_rfl), ⟨litGet (by kernel_rfl), ⟨litGet (by kernel_rfl), ⟨litGet (by kernel_rfl), ⟨litGet (by kernel_rfl), ⟨litGet (by kernel_rfl), ⟨litGet (by kernel_rfl), ⟨litGet (by kernel_rfl), ⟨litGet (by kernel_rfl), ⟨litGet (by kernel_rfl), ⟨litGet (by kernel_rfl), trivial⟩⟩⟩⟩⟩⟩⟩⟩⟩⟩⟩⟩⟩⟩⟩⟩⟩⟩⟩⟩⟩⟩⟩⟩⟩⟩⟩⟩⟩⟩⟩⟩⟩⟩, (hm82.sub (.cons_cons _ (.cons_cons _ (.cons_cons _ (.cons _ .slnil)))))⟩
        refine mgTake (i := 17) (v := .bool true) rfl (by kernel_rfl) (wgY rfl rfl rfl (by decide) (by kernel_rfl)) (fun _ _ _ h => h) hm82 (fun w_ h_ => boolTo (by rw [decide_eq_false h84]; rfl) (neqRun (A := (q.y - p.y)) (B := 0) (.tmp 130) (.const (.int .i64 0)) rfl (litEv (by kernel_rfl)) (litEv (by kernel_rfl)))) ?_
        refine mPut rfl (by decide) ?_
        refine mgTake (i := 18) (v := .bool true) rfl (by kernel_rfl) (wgY rfl rfl rfl (by decide) (by kernel_rfl)) (fun _ _ _ h => h) hm82 (fun w_ h_ => litRun (by kernel_rfl)) ?_
        refine mPut rfl (by decide) ?_
        refine mgTake (i := 19) (v := .pointer (some ⟨g77, 1, none⟩)) rfl (by kernel_rfl) (wgY rfl rfl rfl (by decide) (by kernel_rfl)) (fun _ _ _ h => h) hm82 (fun w_ h_ => litRun (by kernel_rfl)) ?_
        refine mPut rfl (by decide) ?_
        refine mgTake (i := 20) (v := .int .i64 (q.y - p.y)) rfl (by kernel_rfl) (wgY rfl rfl rfl (by decide) (by kernel_rfl)) (fun _ _ _ h => h) hm82 (fun w_ h_ => gLoad (v := .int .i64 (q.y - p.y)) (k := 1) 3 h_ rfl (by kernel_rfl) (.tmp 133) (by kernel_rfl) rfl (litEv (by kernel_rfl))) ?_
        refine mPut rfl (by decide) ?_
        refine mgTake (i := 21) (v := .int .i64 (max (-1) (min 1 (b.y - a.y)))) rfl (by kernel_rfl) (wgY rfl rfl rfl (by decide) (by kernel_rfl)) (fun _ _ _ h => h) hm82 (fun w_ h_ => litRun (by kernel_rfl)) ?_
        refine mPut rfl (by decide) ?_
        refine mgTake (i := 22) (v := .bool false) rfl (by kernel_rfl) (wgY rfl rfl rfl (by decide) (by kernel_rfl)) (fun _ _ _ h => h) hm82 (fun w_ h_ => boolTo (by rw [decide_eq_true (by have h_ := hS.2.1; unfold sgn at h_; omega)]; rfl) (neqRun (A := (q.y - p.y)) (B := (max (-1) (min 1 (b.y - a.y)))) (.tmp 134) (.tmp 135) rfl (litEv (by kernel_rfl)) (litEv (by kernel_rfl)))) ?_
        refine mPut rfl (by decide) ?_
        refine mgTake (i := 23) (v := .bool false) rfl (by kernel_rfl) (wgY rfl rfl rfl (by decide) (by kernel_rfl)) (fun _ _ _ h => h) hm82 (fun w_ h_ => litRun (by kernel_rfl)) ?_
        refine mPut rfl (by decide) ?_
        refine mgK (i := 24) (v := .bool false) rfl (by kernel_rfl) rfl (fun _ _ _ h => h) hm82 (fun _ => by kernel_rfl) rfl (by decide) ?_
        refine mgK (i := 25) (v := .bool false) rfl (by kernel_rfl) rfl (fun _ _ _ h => h) hm82 (fun _ => by kernel_rfl) rfl (by decide) ?_
        refine mgTake (i := 26) (v := .pointer (some ⟨g77, 2, none⟩)) rfl (by kernel_rfl) (wgY rfl rfl rfl (by decide) (by kernel_rfl)) (fun _ _ _ h => h) hm82 (fun w_ h_ => litRun (by kernel_rfl)) ?_
        refine mPut rfl (by decide) ?_
        refine mgTake (i := 27) (v := .int .i64 (q.z - p.z)) rfl (by kernel_rfl) (wgY rfl rfl rfl (by decide) (by kernel_rfl)) (fun _ _ _ h => h) hm82 (fun w_ h_ => gLoad (v := .int .i64 (q.z - p.z)) (k := 2) 3 h_ rfl (by kernel_rfl) (.tmp 140) (by kernel_rfl) rfl (litEv (by kernel_rfl))) ?_
        refine mPut rfl (by decide) ?_
        by_cases h86 : (q.z - p.z) = 0
        · refine mgTake (i := 28) (v := .bool false) rfl (by kernel_rfl) (wgY rfl rfl rfl (by decide) (by kernel_rfl)) (fun _ _ _ h => h) hm82 (fun w_ h_ => boolTo (by rw [decide_eq_true h86]; rfl) (neqRun (A := (q.z - p.z)) (B := 0) (.tmp 141) (.const (.int .i64 0)) rfl (litEv (by kernel_rfl)) (litEv (by kernel_rfl)))) ?_
          refine mPut rfl (by decide) ?_
          refine mgTake (i := 29) (v := .bool false) rfl (by kernel_rfl) (wgY rfl rfl rfl (by decide) (by kernel_rfl)) (fun _ _ _ h => h) hm82 (fun w_ h_ => litRun (by kernel_rfl)) ?_
          refine mPut rfl (by decide) ?_
          refine mgSkip (i := 30) rfl (by kernel_rfl) (wgN rfl rfl rfl (by decide) (by kernel_rfl)) (fun _ _ _ h => h) hm82 ?_
          refine mPut rfl (by decide) ?_
          refine mgSkip (i := 31) rfl (by kernel_rfl) (wgN rfl rfl rfl (by decide) (by kernel_rfl)) (fun _ _ _ h => h) hm82 ?_
          refine mPut rfl (by decide) ?_
          refine mgSkip (i := 32) rfl (by kernel_rfl) (wgN rfl rfl rfl (by decide) (by kernel_rfl)) (fun _ _ _ h => h) hm82 ?_
          refine mPut rfl (by decide) ?_
          refine mgSkip (i := 33) rfl (by kernel_rfl) (wgN rfl rfl rfl (by decide) (by kernel_rfl)) (fun _ _ _ h => h) hm82 ?_
          refine mPut rfl (by decide) ?_
          refine mgTake (i := 34) (v := .bool false) rfl (by kernel_rfl) (wgY rfl rfl rfl (by decide) (by kernel_rfl)) (fun _ _ _ h => h) hm82 (fun w_ h_ => litRun (by kernel_rfl)) ?_
          refine mPut rfl (by decide) ?_
          refine mgK (i := 35) (v := .bool false) rfl (by kernel_rfl) rfl (fun _ _ _ h => h) hm82 (fun _ => by kernel_rfl) rfl (by decide) ?_
          refine mgDone (by kernel_rfl) ?_
          refine then_normal (hK78 _ _ ?_)
          refine wp_cond_false (litEv (by kernel_rfl)) ?_
          refine wp_skip ?_
          refine then_normal ?_
          exact ⟨⟨litSize, rfl, ⟨litGet (by kernel_rfl), ⟨litGet (by kernel_rfl), ⟨litGet (by kernel_rfl), ⟨litGet (by kernel_rfl), ⟨litGet (by kernel_rfl), ⟨litGet (by kernel_rfl), ⟨litGet (by kernel_rfl), ⟨litGet (by kernel_rfl), ⟨litGet (by kernel_rfl), ⟨litGet (by kernel_rfl), ⟨litGet (by kernel_rfl), ⟨litGet (by kernel_rfl), ⟨litGet (by kernel_rfl), ⟨litGet (by kernel_rfl), ⟨litGet (by kernel_rfl), ⟨litGet (by kernel_rfl), ⟨litGet (by kernel_rfl), ⟨litGet (by kernel_rfl), ⟨litGet (by kernel_rfl), ⟨litGet (by kernel_rfl), ⟨litGet (by kernel_rfl), ⟨litGet (by kernel_rfl), ⟨litGet (by kernel_rfl), ⟨litGet (by kernel_rfl), ⟨litGet (by kernel_rfl), ⟨litGet (by kernel_rfl), ⟨litGet (by kernel_rfl), ⟨litGet (by kernel_rfl), ⟨litGet (by kernel_rfl), ⟨litGet (by kernel_rfl), ⟨litGet (by kernel_rfl), ⟨litGet (by kernel_rfl), ⟨litGet (by kernel_rfl), trivial⟩⟩⟩⟩⟩⟩⟩⟩⟩⟩⟩⟩⟩⟩⟩⟩⟩⟩⟩⟩⟩⟩⟩⟩⟩⟩⟩⟩⟩⟩⟩⟩⟩⟩, (hm82.sub (.cons_cons _ (.cons_cons _ (.cons_cons _ (.cons _ .slnil)))))⟩
        refine mgTake (i := 28) (v := .bool true) rfl (by kernel_rfl) (wgY rfl rfl rfl (by decide) (by kernel_rfl)) (fun _ _ _ h => h) hm82 (fun w_ h_ => boolTo (by rw [decide_eq_false h86]; rfl) (neqRun (A := (q.z - p.z)) (B := 0) (.tmp 141) (.const (.int .i64 0)) rfl (litEv (by kernel_rfl)) (litEv (by kernel_rfl)))) ?_
        refine mPut rfl (by decide) ?_
        refine mgTake (i := 29) (v := .bool true) rfl (by kernel_rfl) (wgY rfl rfl rfl (by decide) (by kernel_rfl)) (fun _ _ _ h => h) hm82 (fun w_ h_ => litRun (by kernel_rfl)) ?_
        refine mPut rfl (by decide) ?_
        refine mgTake (i := 30) (v := .pointer (some ⟨g77, 2, none⟩)) rfl (by kernel_rfl) (wgY rfl rfl rfl (by decide) (by kernel_rfl)) (fun _ _ _ h => h) hm82 (fun w_ h_ => litRun (by kernel_rfl)) ?_
        refine mPut rfl (by decide) ?_
        refine mgTake (i := 31) (v := .int .i64 (q.z - p.z)) rfl (by kernel_rfl) (wgY rfl rfl rfl (by decide) (by kernel_rfl)) (fun _ _ _ h => h) hm82 (fun w_ h_ => gLoad (v := .int .i64 (q.z - p.z)) (k := 2) 3 h_ rfl (by kernel_rfl) (.tmp 144) (by kernel_rfl) rfl (litEv (by kernel_rfl))) ?_
        refine mPut rfl (by decide) ?_
        refine mgTake (i := 32) (v := .int .i64 (max (-1) (min 1 (b.z - a.z)))) rfl (by kernel_rfl) (wgY rfl rfl rfl (by decide) (by kernel_rfl)) (fun _ _ _ h => h) hm82 (fun w_ h_ => litRun (by kernel_rfl)) ?_
        refine mPut rfl (by decide) ?_
        refine mgTake (i := 33) (v := .bool false) rfl (by kernel_rfl) (wgY rfl rfl rfl (by decide) (by kernel_rfl)) (fun _ _ _ h => h) hm82 (fun w_ h_ => boolTo (by rw [decide_eq_true (by have h_ := hS.2.2.1; unfold sgn at h_; omega)]; rfl) (neqRun (A := (q.z - p.z)) (B := (max (-1) (min 1 (b.z - a.z)))) (.tmp 145) (.tmp 146) rfl (litEv (by kernel_rfl)) (litEv (by kernel_rfl)))) ?_
        refine mPut rfl (by decide) ?_
        refine mgTake (i := 34) (v := .bool false) rfl (by kernel_rfl) (wgY rfl rfl rfl (by decide) (by kernel_rfl)) (fun _ _ _ h => h) hm82 (fun w_ h_ => litRun (by kernel_rfl)) ?_
        refine mPut rfl (by decide) ?_
        refine mgK (i := 35) (v := .bool false) rfl (by kernel_rfl) rfl (fun _ _ _ h => h) hm82 (fun _ => by kernel_rfl) rfl (by decide) ?_
        refine mgDone (by kernel_rfl) ?_
        refine then_normal (hK78 _ _ ?_)
        refine wp_cond_false (litEv (by kernel_rfl)) ?_
        refine wp_skip ?_
        refine then_normal ?_
        exact ⟨⟨litSize, rfl, ⟨litGet (by kernel_rfl), ⟨litGet (by kernel_rfl), ⟨litGet (by kernel_rfl), ⟨litGet (by kernel_rfl), ⟨litGet (by kernel_rfl), ⟨litGet (by kernel_rfl), ⟨litGet (by kernel_rfl), ⟨litGet (by kernel_rfl), ⟨litGet (by kernel_rfl), ⟨litGet (by kernel_rfl), ⟨litGet (by kernel_rfl), ⟨litGet (by kernel_rfl), ⟨litGet (by kernel_rfl), ⟨litGet (by kernel_rfl), ⟨litGet (by kernel_rfl), ⟨litGet (by kernel_rfl), ⟨litGet (by kernel_rfl), ⟨litGet (by kernel_rfl), ⟨litGet (by kernel_rfl), ⟨litGet (by kernel_rfl), ⟨litGet (by kernel_rfl), ⟨litGet (by kernel_rfl), ⟨litGet (by kernel_rfl), ⟨litGet (by kernel_rfl), ⟨litGet (by kernel_rfl), ⟨litGet (by kernel_rfl), ⟨litGet (by kernel_rfl), ⟨litGet (by kernel_rfl), ⟨litGet (by kernel_rfl), ⟨litGet (by kernel_rfl), ⟨litGet (by kernel_rfl), ⟨litGet (by kernel_rfl), ⟨litGet (by kernel_rfl), trivial⟩⟩⟩⟩⟩⟩⟩⟩⟩⟩⟩⟩⟩⟩⟩⟩⟩⟩⟩⟩⟩⟩⟩⟩⟩⟩⟩⟩⟩⟩⟩⟩⟩⟩, (hm82.sub (.cons_cons _ (.cons_cons _ (.cons_cons _ (.cons _ .slnil)))))⟩
      refine mgTake (i := 6) (v := .bool true) rfl (by kernel_rfl) (wgY rfl rfl rfl (by decide) (by kernel_rfl)) (fun _ _ _ h => h) hm82 (fun w_ h_ => boolTo (by rw [decide_eq_false h83]; rfl) (neqRun (A := (q.x - p.x)) (B := 0) (.tmp 119) (.const (.int .i64 0)) rfl (litEv (by kernel_rfl)) (litEv (by kernel_rfl)))) ?_
      refine mPut rfl (by decide) ?_
      refine mgTake (i := 7) (v := .bool true) rfl (by kernel_rfl) (wgY rfl rfl rfl (by decide) (by kernel_rfl)) (fun _ _ _ h => h) hm82 (fun w_ h_ => litRun (by kernel_rfl)) ?_
      refine mPut rfl (by decide) ?_
      refine mgTake (i := 8) (v := .pointer (some ⟨g77, 0, none⟩)) rfl (by kernel_rfl) (wgY rfl rfl rfl (by decide) (by kernel_rfl)) (fun _ _ _ h => h) hm82 (fun w_ h_ => litRun (by kernel_rfl)) ?_
      refine mPut rfl (by decide) ?_
      refine mgTake (i := 9) (v := .int .i64 (q.x - p.x)) rfl (by kernel_rfl) (wgY rfl rfl rfl (by decide) (by kernel_rfl)) (fun _ _ _ h => h) hm82 (fun w_ h_ => gLoad (v := .int .i64 (q.x - p.x)) (k := 0) 3 h_ rfl (by kernel_rfl) (.tmp 122) (by kernel_rfl) rfl (litEv (by kernel_rfl))) ?_
      refine mPut rfl (by decide) ?_
      refine mgTake (i := 10) (v := .int .i64 (max (-1) (min 1 (b.x - a.x)))) rfl (by kernel_rfl) (wgY rfl rfl rfl (by decide) (by kernel_rfl)) (fun _ _ _ h => h) hm82 (fun w_ h_ => litRun (by kernel_rfl)) ?_
      refine mPut rfl (by decide) ?_
      refine mgTake (i := 11) (v := .bool false) rfl (by kernel_rfl) (wgY rfl rfl rfl (by decide) (by kernel_rfl)) (fun _ _ _ h => h) hm82 (fun w_ h_ => boolTo (by rw [decide_eq_true (by have h_ := hS.1; unfold sgn at h_; omega)]; rfl) (neqRun (A := (q.x - p.x)) (B := (max (-1) (min 1 (b.x - a.x)))) (.tmp 123) (.tmp 124) rfl (litEv (by kernel_rfl)) (litEv (by kernel_rfl)))) ?_
      refine mPut rfl (by decide) ?_
      refine mgTake (i := 12) (v := .bool false) rfl (by kernel_rfl) (wgY rfl rfl rfl (by decide) (by kernel_rfl)) (fun _ _ _ h => h) hm82 (fun w_ h_ => litRun (by kernel_rfl)) ?_
      refine mPut rfl (by decide) ?_
      refine mgK (i := 13) (v := .bool false) rfl (by kernel_rfl) rfl (fun _ _ _ h => h) hm82 (fun _ => by kernel_rfl) rfl (by decide) ?_
      refine mgK (i := 14) (v := .bool false) rfl (by kernel_rfl) rfl (fun _ _ _ h => h) hm82 (fun _ => by kernel_rfl) rfl (by decide) ?_
      refine mgTake (i := 15) (v := .pointer (some ⟨g77, 1, none⟩)) rfl (by kernel_rfl) (wgY rfl rfl rfl (by decide) (by kernel_rfl)) (fun _ _ _ h => h) hm82 (fun w_ h_ => litRun (by kernel_rfl)) ?_
      refine mPut rfl (by decide) ?_
      refine mgTake (i := 16) (v := .int .i64 (q.y - p.y)) rfl (by kernel_rfl) (wgY rfl rfl rfl (by decide) (by kernel_rfl)) (fun _ _ _ h => h) hm82 (fun w_ h_ => gLoad (v := .int .i64 (q.y - p.y)) (k := 1) 3 h_ rfl (by kernel_rfl) (.tmp 129) (by kernel_rfl) rfl (litEv (by kernel_rfl))) ?_
      refine mPut rfl (by decide) ?_
      by_cases h87 : (q.y - p.y) = 0
      · refine mgTake (i := 17) (v := .bool false) rfl (by kernel_rfl) (wgY rfl rfl rfl (by decide) (by kernel_rfl)) (fun _ _ _ h => h) hm82 (fun w_ h_ => boolTo (by rw [decide_eq_true h87]; rfl) (neqRun (A := (q.y - p.y)) (B := 0) (.tmp 130) (.const (.int .i64 0)) rfl (litEv (by kernel_rfl)) (litEv (by kernel_rfl)))) ?_
        refine mPut rfl (by decide) ?_
        refine mgTake (i := 18) (v := .bool false) rfl (by kernel_rfl) (wgY rfl rfl rfl (by decide) (by kernel_rfl)) (fun _ _ _ h => h) hm82 (fun w_ h_ => litRun (by kernel_rfl)) ?_
        refine mPut rfl (by decide) ?_
        refine mgSkip (i := 19) rfl (by kernel_rfl) (wgN rfl rfl rfl (by decide) (by kernel_rfl)) (fun _ _ _ h => h) hm82 ?_
        refine mPut rfl (by decide) ?_
        refine mgSkip (i := 20) rfl (by kernel_rfl) (wgN rfl rfl rfl (by decide) (by kernel_rfl)) (fun _ _ _ h => h) hm82 ?_
        refine mPut rfl (by decide) ?_
        refine mgSkip (i := 21) rfl (by kernel_rfl) (wgN rfl rfl rfl (by decide) (by kernel_rfl)) (fun _ _ _ h => h) hm82 ?_
        refine mPut rfl (by decide) ?_
        refine mgSkip (i := 22) rfl (by kernel_rfl) (wgN rfl rfl rfl (by decide) (by kernel_rfl)) (fun _ _ _ h => h) hm82 ?_
        refine mPut rfl (by decide) ?_
        refine mgTake (i := 23) (v := .bool false) rfl (by kernel_rfl) (wgY rfl rfl rfl (by decide) (by kernel_rfl)) (fun _ _ _ h => h) hm82 (fun w_ h_ => litRun (by kernel_rfl)) ?_
        refine mPut rfl (by decide) ?_
        refine mgK (i := 24) (v := .bool false) rfl (by kernel_rfl) rfl (fun _ _ _ h => h) hm82 (fun _ => by kernel_rfl) rfl (by decide) ?_
        refine mgK (i := 25) (v := .bool false) rfl (by kernel_rfl) rfl (fun _ _ _ h => h) hm82 (fun _ => by kernel_rfl) rfl (by decide) ?_
        refine mgTake (i := 26) (v := .pointer (some ⟨g77, 2, none⟩)) rfl (by kernel_rfl) (wgY rfl rfl rfl (by decide) (by kernel_rfl)) (fun _ _ _ h => h) hm82 (fun w_ h_ => litRun (by kernel_rfl)) ?_
        refine mPut rfl (by decide) ?_
        refine mgTake (i := 27) (v := .int .i64 (q.z - p.z)) rfl (by kernel_rfl) (wgY rfl rfl rfl (by decide) (by kernel_rfl)) (fun _ _ _ h => h) hm82 (fun w_ h_ => gLoad (v := .int .i64 (q.z - p.z)) (k := 2) 3 h_ rfl (by kernel_rfl) (.tmp 140) (by kernel_rfl) rfl (litEv (by kernel_rfl))) ?_
        refine mPut rfl (by decide) ?_
        by_cases h88 : (q.z - p.z) = 0
        · refine mgTake (i := 28) (v := .bool false) rfl (by kernel_rfl) (wgY rfl rfl rfl (by decide) (by kernel_rfl)) (fun _ _ _ h => h) hm82 (fun w_ h_ => boolTo (by rw [decide_eq_true h88]; rfl) (neqRun (A := (q.z - p.z)) (B := 0) (.tmp 141) (.const (.int .i64 0)) rfl (litEv (by kernel_rfl)) (litEv (by kernel_rfl)))) ?_
          refine mPut rfl (by decide) ?_
          refine mgTake (i := 29) (v := .bool false) rfl (by kernel_rfl) (wgY rfl rfl rfl (by decide) (by kernel_rfl)) (fun _ _ _ h => h) hm82 (fun w_ h_ => litRun (by kernel_rfl)) ?_
          refine mPut rfl (by decide) ?_
          refine mgSkip (i := 30) rfl (by kernel_rfl) (wgN rfl rfl rfl (by decide) (by kernel_rfl)) (fun _ _ _ h => h) hm82 ?_
          refine mPut rfl (by decide) ?_
          refine mgSkip (i := 31) rfl (by kernel_rfl) (wgN rfl rfl rfl (by decide) (by kernel_rfl)) (fun _ _ _ h => h) hm82 ?_
          refine mPut rfl (by decide) ?_
          refine mgSkip (i := 32) rfl (by kernel_rfl) (wgN rfl rfl rfl (by decide) (by kernel_rfl)) (fun _ _ _ h => h) hm82 ?_
          refine mPut rfl (by decide) ?_
          refine mgSkip (i := 33) rfl (by kernel_rfl) (wgN rfl rfl rfl (by decide) (by kernel_rfl)) (fun _ _ _ h => h) hm82 ?_
          refine mPut rfl (by decide) ?_
          refine mgTake (i := 34) (v := .bool false) rfl (by kernel_rfl) (wgY rfl rfl rfl (by decide) (by kernel_rfl)) (fun _ _ _ h => h) hm82 (fun w_ h_ => litRun (by kernel_rfl)) ?_
          refine mPut rfl (by decide) ?_
          refine mgK (i := 35) (v := .bool false) rfl (by kernel_rfl) rfl (fun _ _ _ h => h) hm82 (fun _ => by kernel_rfl) rfl (by decide) ?_
          refine mgDone (by kernel_rfl) ?_
          refine then_normal (hK78 _ _ ?_)
          refine wp_cond_false (litEv (by kernel_rfl)) ?_
          refine wp_skip ?_
          refine then_normal ?_
          exact ⟨⟨litSize, rfl, ⟨litGet (by kernel_rfl), ⟨litGet (by kernel_rfl), ⟨litGet (by kernel_rfl), ⟨litGet (by kernel_rfl), ⟨litGet (by kernel_rfl), ⟨litGet (by kernel_rfl), ⟨litGet (by kernel_rfl), ⟨litGet (by kernel_rfl), ⟨litGet (by kernel_rfl), ⟨litGet (by kernel_rfl), ⟨litGet (by kernel_rfl), ⟨litGet (by kernel_rfl), ⟨litGet (by kernel_rfl), ⟨litGet (by kernel_rfl), ⟨litGet (by kernel_rfl), ⟨litGet (by kernel_rfl), ⟨litGet (by kernel_rfl), ⟨litGet (by kernel_rfl), ⟨litGet (by kernel_rfl), ⟨litGet (by kernel_rfl), ⟨litGet (by kernel_rfl), ⟨litGet (by kernel_rfl), ⟨litGet (by kernel_rfl), ⟨litGet (by kernel_rfl), ⟨litGet (by kernel_rfl), ⟨litGet (by kernel_rfl), ⟨litGet (by kernel_rfl), ⟨litGet (by kernel_rfl), ⟨litGet (by kernel_rfl), ⟨litGet (by kernel_rfl), ⟨litGet (by kernel_rfl), ⟨litGet (by kernel_rfl), ⟨litGet (by kernel_rfl), trivial⟩⟩⟩⟩⟩⟩⟩⟩⟩⟩⟩⟩⟩⟩⟩⟩⟩⟩⟩⟩⟩⟩⟩⟩⟩⟩⟩⟩⟩⟩⟩⟩⟩⟩, (hm82.sub (.cons_cons _ (.cons_cons _ (.cons_cons _ (.cons _ .slnil)))))⟩
        refine mgTake (i := 28) (v := .bool true) rfl (by kernel_rfl) (wgY rfl rfl rfl (by decide) (by kernel_rfl)) (fun _ _ _ h => h) hm82 (fun w_ h_ => boolTo (by rw [decide_eq_false h88]; rfl) (neqRun (A := (q.z - p.z)) (B := 0) (.tmp 141) (.const (.int .i64 0)) rfl (litEv (by kernel_rfl)) (litEv (by kernel_rfl)))) ?_
        refine mPut rfl (by decide) ?_
        refine mgTake (i := 29) (v := .bool true) rfl (by kernel_rfl) (wgY rfl rfl rfl (by decide) (by kernel_rfl)) (fun _ _ _ h => h) hm82 (fun w_ h_ => litRun (by kernel_rfl)) ?_
        refine mPut rfl (by decide) ?_
        refine mgTake (i := 30) (v := .pointer (some ⟨g77, 2, none⟩)) rfl (by kernel_rfl) (wgY rfl rfl rfl (by decide) (by kernel_rfl)) (fun _ _ _ h => h) hm82 (fun w_ h_ => litRun (by kernel_rfl)) ?_
        refine mPut rfl (by decide) ?_
        refine mgTake (i := 31) (v := .int .i64 (q.z - p.z)) rfl (by kernel_rfl) (wgY rfl rfl rfl (by decide) (by kernel_rfl)) (fun _ _ _ h => h) hm82 (fun w_ h_ => gLoad (v := .int .i64 (q.z - p.z)) (k := 2) 3 h_ rfl (by kernel_rfl) (.tmp 144) (by kernel_rfl) rfl (litEv (by kernel_rfl))) ?_
        refine mPut rfl (by decide) ?_
        refine mgTake (i := 32) (v := .int .i64 (max (-1) (min 1 (b.z - a.z)))) rfl (by kernel_rfl) (wgY rfl rfl rfl (by decide) (by kernel_rfl)) (fun _ _ _ h => h) hm82 (fun w_ h_ => litRun (by kernel_rfl)) ?_
        refine mPut rfl (by decide) ?_
        refine mgTake (i := 33) (v := .bool false) rfl (by kernel_rfl) (wgY rfl rfl rfl (by decide) (by kernel_rfl)) (fun _ _ _ h => h) hm82 (fun w_ h_ => boolTo (by rw [decide_eq_true (by have h_ := hS.2.2.1; unfold sgn at h_; omega)]; rfl) (neqRun (A := (q.z - p.z)) (B := (max (-1) (min 1 (b.z - a.z)))) (.tmp 145) (.tmp 146) rfl (litEv (by kernel_rfl)) (litEv (by kernel_rfl)))) ?_
        refine mPut rfl (by decide) ?_
        refine mgTake (i := 34) (v := .bool false) rfl (by kernel_rfl) (wgY rfl rfl rfl (by decide) (by kernel_rfl)) (fun _ _ _ h => h) hm82 (fun w_ h_ => litRun (by kernel_rfl)) ?_
        refine mPut rfl (by decide) ?_
        refine mgK (i := 35) (v := .bool false) rfl (by kernel_rfl) rfl (fun _ _ _ h => h) hm82 (fun _ => by kernel_rfl) rfl (by decide) ?_
        refine mgDone (by kernel_rfl) ?_
        refine then_normal (hK78 _ _ ?_)
        refine wp_cond_false (litEv (by kernel_rfl)) ?_
        refine wp_skip ?_
        refine then_normal ?_
        exact ⟨⟨litSize, rfl, ⟨litGet (by kernel_rfl), ⟨litGet (by kernel_rfl), ⟨litGet (by kernel_rfl), ⟨litGet (by kernel_rfl), ⟨litGet (by kernel_rfl), ⟨litGet (by kernel_rfl), ⟨litGet (by kernel_rfl), ⟨litGet (by kernel_rfl), ⟨litGet (by kernel_rfl), ⟨litGet (by kernel_rfl), ⟨litGet (by kernel_rfl), ⟨litGet (by kernel_rfl), ⟨litGet (by kernel_rfl), ⟨litGet (by kernel_rfl), ⟨litGet (by kernel_rfl), ⟨litGet (by kernel_rfl), ⟨litGet (by kernel_rfl), ⟨litGet (by kernel_rfl), ⟨litGet (by kernel_rfl), ⟨litGet (by kernel_rfl), ⟨litGet (by kernel_rfl), ⟨litGet (by kernel_rfl), ⟨litGet (by kernel_rfl), ⟨litGet (by kernel_rfl), ⟨litGet (by kernel_rfl), ⟨litGet (by kernel_rfl), ⟨litGet (by kernel_rfl), ⟨litGet (by kernel_rfl), ⟨litGet (by kernel_rfl), ⟨litGet (by kernel_rfl), ⟨litGet (by kernel_rfl), ⟨litGet (by kernel_rfl), ⟨litGet (by kernel_rfl), trivial⟩⟩⟩⟩⟩⟩⟩⟩⟩⟩⟩⟩⟩⟩⟩⟩⟩⟩⟩⟩⟩⟩⟩⟩⟩⟩⟩⟩⟩⟩⟩⟩⟩⟩, (hm82.sub (.cons_cons _ (.cons_cons _ (.cons_cons _ (.cons _ .slnil)))))⟩
      refine mgTake (i := 17) (v := .bool true) rfl (by kernel_rfl) (wgY rfl rfl rfl (by decide) (by kernel_rfl)) (fun _ _ _ h => h) hm82 (fun w_ h_ => boolTo (by rw [decide_eq_false h87]; rfl) (neqRun (A := (q.y - p.y)) (B := 0) (.tmp 130) (.const (.int .i64 0)) rfl (litEv (by kernel_rfl)) (litEv (by kernel_rfl)))) ?_
      refine mPut rfl (by decide) ?_
      refine mgTake (i := 18) (v := .bool true) rfl (by kernel_rfl) (wgY rfl rfl rfl (by decide) (by kernel_rfl)) (fun _ _ _ h => h) hm82 (fun w_ h_ => litRun (by kernel_rfl)) ?_
      refine mPut rfl (by decide) ?_
      refine mgTake (i := 19) (v := .pointer (some ⟨g77, 1, none⟩)) rfl (by kernel_rfl) (wgY rfl rfl rfl (by decide) (by kernel_rfl)) (fun _ _ _ h => h) hm82 (fun w_ h_ => litRun (by kernel_rfl)) ?_
      refine mPut rfl (by decide) ?_
      refine mgTake (i := 20) (v := .int .i64 (q.y - p.y)) rfl (by kernel_rfl) (wgY rfl rfl rfl (by decide) (by kernel_rfl)) (fun _ _ _ h => h) hm82 (fun w_ h_ => gLoad (v := .int .i64 (q.y - p.y)) (k := 1) 3 h_ rfl (by kernel_rfl) (.tmp 133) (by kernel_rfl) rfl (litEv (by kernel_rfl))) ?_
      refine mPut rfl (by decide) ?_
      refine mgTake (i := 21) (v := .int .i64 (max (-1) (min 1 (b.y - a.y)))) rfl (by kernel_rfl) (wgY rfl rfl rfl (by decide) (by kernel_rfl)) (fun _ _ _ h => h) hm82 (fun w_ h_ => litRun (by kernel_rfl)) ?_
      refine mPut rfl (by decide) ?_
      refine mgTake (i := 22) (v := .bool false) rfl (by kernel_rfl) (wgY rfl rfl rfl (by decide) (by kernel_rfl)) (fun _ _ _ h => h) hm82 (fun w_ h_ => boolTo (by rw [decide_eq_true (by have h_ := hS.2.1; unfold sgn at h_; omega)]; rfl) (neqRun (A := (q.y - p.y)) (B := (max (-1) (min 1 (b.y - a.y)))) (.tmp 134) (.tmp 135) rfl (litEv (by kernel_rfl)) (litEv (by kernel_rfl)))) ?_
      refine mPut rfl (by decide) ?_
      refine mgTake (i := 23) (v := .bool false) rfl (by kernel_rfl) (wgY rfl rfl rfl (by decide) (by kernel_rfl)) (fun _ _ _ h => h) hm82 (fun w_ h_ => litRun (by kernel_rfl)) ?_
      refine mPut rfl (by decide) ?_
      refine mgK (i := 24) (v := .bool false) rfl (by kernel_rfl) rfl (fun _ _ _ h => h) hm82 (fun _ => by kernel_rfl) rfl (by decide) ?_
      refine mgK (i := 25) (v := .bool false) rfl (by kernel_rfl) rfl (fun _ _ _ h => h) hm82 (fun _ => by kernel_rfl) rfl (by decide) ?_
      refine mgTake (i := 26) (v := .pointer (some ⟨g77, 2, none⟩)) rfl (by kernel_rfl) (wgY rfl rfl rfl (by decide) (by kernel_rfl)) (fun _ _ _ h => h) hm82 (fun w_ h_ => litRun (by kernel_rfl)) ?_
      refine mPut rfl (by decide) ?_
      refine mgTake (i := 27) (v := .int .i64 (q.z - p.z)) rfl (by kernel_rfl) (wgY rfl rfl rfl (by decide) (by kernel_rfl)) (fun _ _ _ h => h) hm82 (fun w_ h_ => gLoad (v := .int .i64 (q.z - p.z)) (k := 2) 3 h_ rfl (by kernel_rfl) (.tmp 140) (by kernel_rfl) rfl (litEv (by kernel_rfl))) ?_
      refine mPut rfl (by decide) ?_
      by_cases h89 : (q.z - p.z) = 0
      · refine mgTake (i := 28) (v := .bool false) rfl (by kernel_rfl) (wgY rfl rfl rfl (by decide) (by kernel_rfl)) (fun _ _ _ h => h) hm82 (fun w_ h_ => boolTo (by rw [decide_eq_true h89]; rfl) (neqRun (A := (q.z - p.z)) (B := 0) (.tmp 141) (.const (.int .i64 0)) rfl (litEv (by kernel_rfl)) (litEv (by kernel_rfl)))) ?_
        refine mPut rfl (by decide) ?_
        refine mgTake (i := 29) (v := .bool false) rfl (by kernel_rfl) (wgY rfl rfl rfl (by decide) (by kernel_rfl)) (fun _ _ _ h => h) hm82 (fun w_ h_ => litRun (by kernel_rfl)) ?_
        refine mPut rfl (by decide) ?_
        refine mgSkip (i := 30) rfl (by kernel_rfl) (wgN rfl rfl rfl (by decide) (by kernel_rfl)) (fun _ _ _ h => h) hm82 ?_
        refine mPut rfl (by decide) ?_
        refine mgSkip (i := 31) rfl (by kernel_rfl) (wgN rfl rfl rfl (by decide) (by kernel_rfl)) (fun _ _ _ h => h) hm82 ?_
        refine mPut rfl (by decide) ?_
        refine mgSkip (i := 32) rfl (by kernel_rfl) (wgN rfl rfl rfl (by decide) (by kernel_rfl)) (fun _ _ _ h => h) hm82 ?_
        refine mPut rfl (by decide) ?_
        refine mgSkip (i := 33) rfl (by kernel_rfl) (wgN rfl rfl rfl (by decide) (by kernel_rfl)) (fun _ _ _ h => h) hm82 ?_
        refine mPut rfl (by decide) ?_
        refine mgTake (i := 34) (v := .bool false) rfl (by kernel_rfl) (wgY rfl rfl rfl (by decide) (by kernel_rfl)) (fun _ _ _ h => h) hm82 (fun w_ h_ => litRun (by kernel_rfl)) ?_
        refine mPut rfl (by decide) ?_
        refine mgK (i := 35) (v := .bool false) rfl (by kernel_rfl) rfl (fun _ _ _ h => h) hm82 (fun _ => by kernel_rfl) rfl (by decide) ?_
        refine mgDone (by kernel_rfl) ?_
        refine then_normal (hK78 _ _ ?_)
        refine wp_cond_false (litEv (by kernel_rfl)) ?_
        refine wp_skip ?_
        refine then_normal ?_
        exact ⟨⟨litSize, rfl, ⟨litGet (by kernel_rfl), ⟨litGet (by kernel_rfl), ⟨litGet (by kernel_rfl), ⟨litGet (by kernel_rfl), ⟨litGet (by kernel_rfl), ⟨litGet (by kernel_rfl), ⟨litGet (by kernel_rfl), ⟨litGet (by kernel_rfl), ⟨litGet (by kernel_rfl), ⟨litGet (by kernel_rfl), ⟨litGet (by kernel_rfl), ⟨litGet (by kernel_rfl), ⟨litGet (by kernel_rfl), ⟨litGet (by kernel_rfl), ⟨litGet (by kernel_rfl), ⟨litGet (by kernel_rfl), ⟨litGet (by kernel_rfl), ⟨litGet (by kernel_rfl), ⟨litGet (by kernel_rfl), ⟨litGet (by kernel_rfl), ⟨litGet (by kernel_rfl), ⟨litGet (by kernel_rfl), ⟨litGet (by kernel_rfl), ⟨litGet (by kernel_rfl), ⟨litGet (by kernel_rfl), ⟨litGet (by kernel_rfl), ⟨litGet (by kernel_rfl), ⟨litGet (by kernel_rfl), ⟨litGet (by kernel_rfl), ⟨litGet (by kernel_rfl), ⟨litGet (by kernel_rfl), ⟨litGet (by kernel_rfl), ⟨litGet (by kernel_rfl), trivial⟩⟩⟩⟩⟩⟩⟩⟩⟩⟩⟩⟩⟩⟩⟩⟩⟩⟩⟩⟩⟩⟩⟩⟩⟩⟩⟩⟩⟩⟩⟩⟩⟩⟩, (hm82.sub (.cons_cons _ (.cons_cons _ (.cons_cons _ (.cons _ .slnil)))))⟩
      refine mgTake (i := 28) (v := .bool true) rfl (by kernel_rfl) (wgY rfl rfl rfl (by decide) (by kernel_rfl)) (fun _ _ _ h => h) hm82 (fun w_ h_ => boolTo (by rw [decide_eq_false h89]; rfl) (neqRun (A := (q.z - p.z)) (B := 0) (.tmp 141) (.const (.int .i64 0)) rfl (litEv (by kernel_rfl)) (litEv (by kernel_rfl)))) ?_
      refine mPut rfl (by decide) ?_
      refine mgTake (i := 29) (v := .bool true) rfl (by kernel_rfl) (wgY rfl rfl rfl (by decide) (by kernel_rfl)) (fun _ _ _ h => h) hm82 (fun w_ h_ => litRun (by kernel_rfl)) ?_
      refine mPut rfl (by decide) ?_
      refine mgTake (i := 30) (v := .pointer (some ⟨g77, 2, none⟩)) rfl (by kernel_rfl) (wgY rfl rfl rfl (by decide) (by kernel_rfl)) (fun _ _ _ h => h) hm82 (fun w_ h_ => litRun (by kernel_rfl)) ?_
      refine mPut rfl (by decide) ?_
      refine mgTake (i := 31) (v := .int .i64 (q.z - p.z)) rfl (by kernel_rfl) (wgY rfl rfl rfl (by decide) (by kernel_rfl)) (fun _ _ _ h => h) hm82 (fun w_ h_ => gLoad (v := .int .i64 (q.z - p.z)) (k := 2) 3 h_ rfl (by kernel_rfl) (.tmp 144) (by kernel_rfl) rfl (litEv (by kernel_rfl))) ?_
      refine mPut rfl (by decide) ?_
      refine mgTake (i := 32) (v := .int .i64 (max (-1) (min 1 (b.z - a.z)))) rfl (by kernel_rfl) (wgY rfl rfl rfl (by decide) (by kernel_rfl)) (fun _ _ _ h => h) hm82 (fun w_ h_ => litRun (by kernel_rfl)) ?_
      refine mPut rfl (by decide) ?_
      refine mgTake (i := 33) (v := .bool false) rfl (by kernel_rfl) (wgY rfl rfl rfl (by decide) (by kernel_rfl)) (fun _ _ _ h => h) hm82 (fun w_ h_ => boolTo (by rw [decide_eq_true (by have h_ := hS.2.2.1; unfold sgn at h_; omega)]; rfl) (neqRun (A := (q.z - p.z)) (B := (max (-1) (min 1 (b.z - a.z)))) (.tmp 145) (.tmp 146) rfl (litEv (by kernel_rfl)) (litEv (by kernel_rfl)))) ?_
      refine mPut rfl (by decide) ?_
      refine mgTake (i := 34) (v := .bool false) rfl (by kernel_rfl) (wgY rfl rfl rfl (by decide) (by kernel_rfl)) (fun _ _ _ h => h) hm82 (fun w_ h_ => litRun (by kernel_rfl)) ?_
      refine mPut rfl (by decide) ?_
      refine mgK (i := 35) (v := .bool false) rfl (by kernel_rfl) rfl (fun _ _ _ h => h) hm82 (fun _ => by kernel_rfl) rfl (by decide) ?_
      refine mgDone (by kernel_rfl) ?_
      refine then_normal (hK78 _ _ ?_)
      refine wp_cond_false (litEv (by kernel_rfl)) ?_
      refine wp_skip ?_
      refine then_normal ?_
      exact ⟨⟨litSize, rfl, ⟨litGet (by kernel_rfl), ⟨litGet (by kernel_rfl), ⟨litGet (by kernel_rfl), ⟨litGet (by kernel_rfl), ⟨litGet (by kernel_rfl), ⟨litGet (by kernel_rfl), ⟨litGet (by kernel_rfl), ⟨litGet (by kernel_rfl), ⟨litGet (by kernel_rfl), ⟨litGet (by kernel_rfl), ⟨litGet (by kernel_rfl), ⟨litGet (by kernel_rfl), ⟨litGet (by kernel_rfl), ⟨litGet (by kernel_rfl), ⟨litGet (by kernel_rfl), ⟨litGet (by kernel_rfl), ⟨litGet (by kernel_rfl), ⟨litGet (by kernel_rfl), ⟨litGet (by kernel_rfl), ⟨litGet (by kernel_rfl), ⟨litGet (by kernel_rfl), ⟨litGet (by kernel_rfl), ⟨litGet (by kernel_rfl), ⟨litGet (by kernel_rfl), ⟨litGet (by kernel_rfl), ⟨litGet (by kernel_rfl), ⟨litGet (by kernel_rfl), ⟨litGet (by kernel_rfl), ⟨litGet (by kernel_rfl), ⟨litGet (by kernel_rfl), ⟨litGet (by kernel_rfl), ⟨litGet (by kernel_rfl), ⟨litGet (by kernel_rfl), trivial⟩⟩⟩⟩⟩⟩⟩⟩⟩⟩⟩⟩⟩⟩⟩⟩⟩⟩⟩⟩⟩⟩⟩⟩⟩⟩⟩⟩⟩⟩⟩⟩⟩⟩, (hm82.sub (.cons_cons _ (.cons_cons _ (.cons_cons _ (.cons _ .slnil)))))⟩
    clear hm76
    intro a92 w90 hI_
    obtain ⟨hF_, hm91⟩ := hI_
    obtain ⟨X93, rfl⟩ := frLit hF_
    clear hF_
    refine wp_seq_k fun K94 hK94 => ?_
    refine aoStart (aoV [fun _ => .agg (pcs a).toArray, fun _ => .agg (pcs b).toArray, fun _ => .slice (some ⟨b35, 0, none⟩) l.length c34, fun _ => .int .i64 (i : Int), fun _ => .int .i64 ((i : Int) - 1), fun _ => .pointer (some ⟨b35, 0 + (i - 1) * 3, none⟩), fun _ => .agg (pcs p).toArray, fun _ => .agg (bts (insideT a b p)).toArray, fun γ_ => .pointer (some ⟨γ_, 0, none⟩), fun _ => undef]) (aoA [0, 1, 2, 3, 4, 5, 6, 7, 8, 9]) (fun b_ g_ => ((.arr g2 23 (pcs a)) :: (.arr g5 23 (pcs b)) :: (.row (.slice (some ⟨b35, 0, none⟩) l.length c34) 23 3 l.length (ptsC l)) :: (bsel (b_ 8) (.arr (g_ 8) 61 (bsel (b_ 9) [.int .i64 ((insideT a b p).a.1), .int .i64 ((insideT a b p).a.2), .int .i64 ((insideT a b p).b.1), .int .i64 ((insideT a b p).b.2), .bool ((insideT a b p).ok)] [.int .i64 0, .int .i64 0, .int .i64 0, .int .i64 0, .bool false])) .free) :: [])) hm91 (by kernel_rfl) (by kernel_rfl) (fun w_ h_ => h_.pushFree) (fun b_ g_ h_ => by show (fun (x8_ x9_ : Bool) => (((.arr g2 23 (pcs a)) :: (.arr g5 23 (pcs b)) :: (.row (.slice (some ⟨b35, 0, none⟩) l.length c34) 23 3 l.length (ptsC l)) :: (bsel x8_ (.arr (g_ 8) 61 (bsel x9_ [.int .i64 ((insideT a b p).a.1), .int .i64 ((insideT a b p).a.2), .int .i64 ((insideT a b p).b.1), .int .i64 ((insideT a b p).b.2), .bool ((insideT a b p).ok)] [.int .i64 0, .int .i64 0, .int .i64 0, .int .i64 0, .bool false])) .free) :: []) : List Res)) (b_ 8) (b_ 9) = _; rw [h_ 8 (by decide), h_ 9 (by decide)]) ?_ ?_
    · refine aoNext rfl (aoVal (fun g_ => [(2, .pointer (some ⟨g2, 0, none⟩))]) (fun g_ a_ h_k => ⟨(h_k.out 2 (by kernel_rfl)).trans (litGet (by kernel_rfl)), trivial⟩) (fun g_ X_ => (wn rfl)) (fun b_ g_ => by kernel_rfl) (fun b_ g_ X_ w_ h_b h_ => valTo (b := .agg (pcs a).toArray) (by kernel_rfl) (gLoadAg (vs := pcs a) (k := 0) 0 h_ rfl (by kernel_rfl) (by kernel_rfl) (.tmp 2) Ty.ag_voxel_api_Point rfl (litEv (by kernel_rfl))))) ?_
      refine aoNext rfl (aoVal (fun g_ => [(3, .pointer (some ⟨g5, 0, none⟩))]) (fun g_ a_ h_k => ⟨(h_k.out 3 (by kernel_rfl)).trans (litGet (by kernel_rfl)), trivial⟩) (fun g_ X_ => (wn rfl)) (fun b_ g_ => by kernel_rfl) (fun b_ g_ X_ w_ h_b h_ => valTo (b := .agg (pcs b).toArray) (by kernel_rfl) (gLoadAg (vs := pcs b) (k := 0) 1 h_ rfl (by kernel_rfl) (by kernel_rfl) (.tmp 3) Ty.ag_voxel_api_Point rfl (litEv (by kernel_rfl))))) ?_
      refine aoNext rfl (aoVal (fun g_ => [(6, .slice (some ⟨b35, 0, none⟩) l.length c34)]) (fun g_ a_ h_k => ⟨(h_k.out 6 (by kernel_rfl)).trans (litGet (by kernel_rfl)), trivial⟩) (fun g_ X_ => (wn rfl)) (fun b_ g_ => by kernel_rfl) (fun b_ g_ X_ w_ h_b h_ => valTo (b := .slice (some ⟨b35, 0, none⟩) l.length c34) (by kernel_rfl) (litRun (by kernel_rfl)))) ?_
      refine aoNext rfl (aoVal (fun g_ => [(11, .int .i64 (i : Int))]) (fun g_ a_ h_k => ⟨(h_k.out 11 (by kernel_rfl)).trans (litGet (by kernel_rfl)), trivial⟩) (fun g_ X_ => (wn rfl)) (fun b_ g_ => by kernel_rfl) (fun b_ g_ X_ w_ h_b h_ => valTo (b := .int .i64 (i : Int)) (by kernel_rfl) (litRun (by kernel_rfl)))) ?_
      refine aoNext rfl (aoVal (fun g_ => [(153, .int .i64 (i : Int))]) (fun g_ a_ h_k => ⟨(h_k.inn 3 _ _ (by kernel_rfl) rfl rfl).trans (by kernel_rfl), trivial⟩) (fun g_ X_ => (wn rfl)) (fun b_ g_ => by kernel_rfl) (fun b_ g_ X_ w_ h_b h_ => valTo (b := .int .i64 ((i : Int) - 1)) (by kernel_rfl) (subRun (A := (i : Int)) (B := 1) (C := (i : Int) - 1) (.tmp 153) (.const (.int .i64 1)) rfl (litEv (by kernel_rfl)) (litEv (by kernel_rfl)) rfl (by omega)))) ?_
      refine aoNext rfl (aoVal (fun g_ => [(152, .slice (some ⟨b35, 0, none⟩) l.length c34), (154, .int .i64 ((i : Int) - 1))]) (fun g_ a_ h_k => ⟨(h_k.inn 2 _ _ (by kernel_rfl) rfl rfl).trans (by kernel_rfl), (h_k.inn 4 _ _ (by kernel_rfl) rfl rfl).trans (by kernel_rfl), trivial⟩) (fun g_ X_ => (wn rfl)) (fun b_ g_ => by kernel_rfl) (fun b_ g_ X_ w_ h_b h_ => valTo (b := .pointer (some ⟨b35, 0 + (i - 1) * 3, none⟩)) (by kernel_rfl) (gIaSl (b := b35) (off := 0) (n := l.length) (c := c34) (kk := .i64) (K := ((i : Int) - 1)) (.tmp 152) (.tmp 154) (i - 1) Ty.sl_L_api_Point rfl (litEv (by kernel_rfl)) (litEv (by kernel_rfl)) ((by omega)) ((by omega))))) ?_
      refine aoNext rfl (aoVal (fun g_ => [(155, .pointer (some ⟨b35, 0 + (i - 1) * 3, none⟩))]) (fun g_ a_ h_k => ⟨(h_k.inn 5 _ _ (by kernel_rfl) rfl rfl).trans (by kernel_rfl), trivial⟩) (fun g_ X_ => (wn rfl)) (fun b_ g_ => by kernel_rfl) (fun b_ g_ X_ w_ h_b h_ => valTo (b := .agg (pcs p).toArray) (by kernel_rfl) (gLoadAgRd (vs := pcs p) (m := (i - 1) * 3) (h_.rdRow 2 rfl) rfl (ptsC_get hp) (by kernel_rfl) (by omega) (.tmp 155) Ty.ag_voxel_api_Point rfl (litEv (by kernel_rfl))))) ?_
      refine aoNext rfl (aoCall (fun g_ => [(150, .agg (pcs a).toArray), (151, .agg (pcs b).toArray), (156, .agg (pcs p).toArray)]) (fun g_ a_ h_k => ⟨(h_k.inn 0 _ _ (by kernel_rfl) rfl rfl).trans (by kernel_rfl), (h_k.inn 1 _ _ (by kernel_rfl) rfl rfl).trans (by kernel_rfl), (h_k.inn 6 _ _ (by kernel_rfl) rfl rfl).trans (by kernel_rfl), trivial⟩) 26 (fun g_ => [.agg (pcs a).toArray, .agg (pcs b).toArray, .agg (pcs p).toArray]) [] [] (by kernel_rfl) (fun g_ X_ => (wn rfl)) (fun b_ g_ => by kernel_rfl) rfl (fun g_ X_ => litEv (by kernel_rfl)) (fun g_ X_ => litArgs (by kernel_rfl)) (fun b_ g_ w_ h_b h_ => (inside_any a b p ha hb hpr _).mono (fun _ _ h_r => ⟨h_r.1.trans (by kernel_rfl), h_r.2⟩))) ?_
      refine aoNext rfl (aoNewAg (z := [.int .i64 0, .int .i64 0, .int .i64 0, .int .i64 0, .bool false]) 3 Ty.ag_voxel_voxelref42_Between rfl rfl (fun _ _ _ => ⟨_, rfl⟩) (fun b_ g_ γ_ h_b => Eq.trans (by kernel_rfl) (congrArg (fun x_ => List.set _ 3 (Res.arr γ_ 61 x_)) (bselF (α := List Value) (h_b.post 9 (by kernel_rfl)) [.int .i64 ((insideT a b p).a.1), .int .i64 ((insideT a b p).a.2), .int .i64 ((insideT a b p).b.1), .int .i64 ((insideT a b p).b.2), .bool ((insideT a b p).ok)] [.int .i64 0, .int .i64 0, .int .i64 0, .int .i64 0, .bool false]))) (fun _ => by kernel_rfl) (by kernel_rfl)) ?_
      refine aoNext rfl (aoStore (gb := fun g_ => (g_ 8)) (k := 0) (cur := fun g_ => [.int .i64 0, .int .i64 0, .int .i64 0, .int .i64 0, .bool false]) (vs := fun g_ => bts (insideT a b p)) 3 (fun g_ => [(13, .pointer (some ⟨(g_ 8), 0, none⟩)), (157, .agg (bts (insideT a b p)).toArray)]) (fun g_ a_ h_k => ⟨(h_k.inn 8 _ _ (by kernel_rfl) rfl rfl).trans (by kernel_rfl), (h_k.inn 7 _ _ (by kernel_rfl) rfl rfl).trans (by kernel_rfl), trivial⟩) Ty.ag_voxel_voxelref42_Between (fun b_ g_ h_b => by show some (bsel (b_ 8) (Res.arr (g_ 8) 61 (bsel (b_ 9) [.int .i64 ((insideT a b p).a.1), .int .i64 ((insideT a b p).a.2), .int .i64 ((insideT a b p).b.1), .int .i64 ((insideT a b p).b.2), .bool ((insideT a b p).ok)] [.int .i64 0, .int .i64 0, .int .i64 0, .int .i64 0, .bool false])) Res.free) = some (Res.arr (g_ 8) 61 ([.int .i64 0, .int .i64 0, .int .i64 0, .int .i64 0, .bool false])); rw [bselT (h_b.pre 8 (by kernel_rfl)), bselF h_b.no]) (fun g_ X_ => (wn rfl)) rfl (fun g_ X_ => litEv (by kernel_rfl)) (fun g_ X_ => litEv (by kernel_rfl)) (fun _ => by kernel_rfl) (fun _ => by kernel_rfl) (fun _ => by kernel_rfl) (fun b_ g_ h_b => Eq.trans (b := List.set (((.arr g2 23 (pcs a)) :: (.arr g5 23 (pcs b)) :: (.row (.slice (some ⟨b35, 0, none⟩) l.length c34) 23 3 l.length (ptsC l)) :: (bsel (b_ 8) (.arr (g_ 8) 61 (bsel (b_ 9) [.int .i64 ((insideT a b p).a.1), .int .i64 ((insideT a b p).a.2), .int .i64 ((insideT a b p).b.1), .int .i64 ((insideT a b p).b.2), .bool ((insideT a b p).ok)] [.int .i64 0, .int .i64 0, .int .i64 0, .int .i64 0, .bool false])) .free) :: [])) 3 (bsel (b_ 8) (Res.arr (g_ 8) 61 ([.int .i64 ((insideT a b p).a.1), .int .i64 ((insideT a b p).a.2), .int .i64 ((insideT a b p).b.1), .int .i64 ((insideT a b p).b.2), .bool ((insideT a b p).ok)])) Res.free)) (by kernel_rfl) (congrArg (fun x_ => List.set _ 3 x_) (bselT (h_b.pre 8 (by kernel_rfl)) _ _))) rfl) ?_
      exact aoDone (by decide)
    intro g_ a_ w96 hF_ hm95
    obtain ⟨X97, rfl⟩ := frLit (⟨hF_.size, hF_.defers, ⟨(hF_.out 2 (by kernel_rfl)).trans (litGet (by kernel_rfl)), (hF_.out 3 (by kernel_rfl)).trans (litGet (by kernel_rfl)), (hF_.out 5 (by kernel_rfl)).trans (litGet (by kernel_rfl)), (hF_.out 6 (by kernel_rfl)).trans (litGet (by kernel_rfl)), (hF_.out 8 (by kernel_rfl)).trans (litGet (by kernel_rfl)), (hF_.out 9 (by kernel_rfl)).trans (litGet (by kernel_rfl)), (hF_.out 10 (by kernel_rfl)).trans (litGet (by kernel_rfl)), (hF_.out 11 (by kernel_rfl)).trans (litGet (by kernel_rfl)), (hF_.out 12 (by kernel_rfl)).trans (litGet (by kernel_rfl)), (hF_.inn 8 _ _ rfl rfl).trans (by kernel_rfl), (hF_.out 88 (by kernel_rfl)).trans (litGet (by kernel_rfl)), (hF_.out 89 (by kernel_rfl)).trans (litGet (by kernel_rfl)), (hF_.out 90 (by kernel_rfl)).trans (litGet (by kernel_rfl)), (hF_.out 91 (by kernel_rfl)).trans (litGet (by kernel_rfl)), (hF_.out 94 (by kernel_rfl)).trans (litGet (by kernel_rfl)), (hF_.out 95 (by kernel_rfl)).trans (litGet (by kernel_rfl)), (hF_.out 96 (by kernel_rfl)).trans (litGet (by kernel_rfl)), (hF_.out 97 (by kernel_rfl)).trans (litGet (by kernel_rfl)), (hF_.out 98 (by kernel_rfl)).trans (litGet (by kernel_rfl)), (hF_.out 99 (by kernel_rfl)).trans (litGet (by kernel_rfl)), (hF_.out 100 (by kernel_rfl)).trans (litGet (by kernel_rfl)), (hF_.out 101 (by kernel_rfl)).trans (litGet (by kernel_rfl)), (hF_.out 102 (by kernel_rfl)).trans (litGet (by kernel_rfl)), (hF_.out 103 (by kernel_rfl)).trans (litGet (by kernel_rfl)), (hF_.out 104 (by kernel_rfl)).trans (litGet (by kernel_rfl)), (hF_.out 105 (by kernel_rfl)).trans (litGet (by kernel_rfl)), (hF_.out 106 (by kernel_rfl)).trans (litGet (by kernel_rfl)), (hF_.out 107 (by kernel_rfl)).trans (litGet (by kernel_rfl)), (hF_.out 108 (by kernel_rfl)).trans (litGet (by kernel_rfl)), (hF_.out 109 (by kernel_rfl)).trans (litGet (by kernel_rfl)), (hF_.out 110 (by kernel_rfl)).trans (litGet (by kernel_rfl)), (hF_.out 111 (by kernel_rfl)).trans (litGet (by kernel_rfl)), (hF_.out 112 (by kernel_rfl)).trans (litGet (by kernel_rfl)), (hF_.out 113 (by kernel_rfl)).trans (litGet (by kernel_rfl)), (hF_.inn 0 _ _ rfl rfl).trans (by kernel_rfl), (hF_.inn 1 _ _ rfl rfl).trans (by kernel_rfl), (hF_.inn 2 _ _ rfl rfl).trans (by kernel_rfl), (hF_.inn 3 _ _ rfl rfl).trans (by kernel_rfl), (hF_.inn 4 _ _ rfl rfl).trans (by kernel_rfl), (hF_.inn 5 _ _ rfl rfl).trans (by kernel_rfl), (hF_.inn 6 _ _ rfl rfl).trans (by kernel_rfl), (hF_.inn 7 _ _ rfl rfl).trans (by kernel_rfl), trivial⟩⟩ : Fr _ 181 [(2, .pointer (some ⟨g2, 0, none⟩)), (3, .pointer (some ⟨g5, 0, none⟩)), (5, .bool true), (6, .slice (some ⟨b35, 0, none⟩) l.length c34), (8, .int .i64 (max (-1) (min 1 (b.x - a.x)))), (9, .int .i64 (max (-1) (min 1 (b.y - a.y)))), (10, .int .i64 (max (-1) (min 1 (b.z - a.z)))), (11, .int .i64 (i : Int)), (12, .pointer (some ⟨g77, 0, none⟩)), (13, .pointer (some ⟨(g_ 8), 0, none⟩)), (88, .int .i64 (i : Int)), (89, .slice (some ⟨b35, 0, none⟩) l.length c34), (90, .int .i64 (l.length : Int)), (91, .bool true), (94, .agg (pcs a).toArray), (95, .agg (pcs b).toArray), (96, .slice (some ⟨b35, 0, none⟩) l.length c34), (97, .int .i64 (i : Int)), (98, .pointer (some ⟨b35, 0 + i * 3, none⟩)), (99, .agg (pcs q).toArray), (100, .bool true), (101, .bool false), (102, .int .i64 (i : Int)), (103, .bool false), (104, .slice (some ⟨b35, 0, none⟩) l.length c34), (105, .int .i64 (i : Int)), (106, .pointer (some ⟨b35, 0 + i * 3, none⟩)), (107, .agg (pcs q).toArray), (108, .slice (some ⟨b35, 0, none⟩) l.length c34), (109, .int .i64 (i : Int)), (110, .int .i64 ((i : Int) - 1)), (111, .pointer (some ⟨b35, 0 + (i - 1) * 3, none⟩)), (112, .agg (pcs p).toArray), (113, .agg (pcs (q.sub p)).toArray), (150, .agg (pcs a).toArray), (151, .agg (pcs b).toArray), (152, .slice (some ⟨b35, 0, none⟩) l.length c34), (153, .int .i64 (i : Int)), (154, .int .i64 ((i : Int) - 1)), (155, .pointer (some ⟨b35, 0 + (i - 1) * 3, none⟩)), (156, .agg (pcs p).toArray), (157, .agg (bts (insideT a b p)).toArray)])
    clear hF_
    have hm98 : Mem w w96 [.arr g2 23 (pcs a), .arr g5 23 (pcs b), .row (.slice (some ⟨b35, 0, none⟩) l.length c34) 23 3 l.length (ptsC l), .arr (g_ 8) 61 (bts (insideT a b p))] := hm95
    clear hm95 hm91
    generalize g_ 8 = g99 at hm98 ⊢
    clear g_
    refine then_normal (hK94 _ _ ?_)
    refine wp_seq_k fun K100 hK100 => ?_
    refine aoStart (aoV [fun _ => .agg (pcs a).toArray, fun _ => .agg (pcs b).toArray, fun _ => .slice (some ⟨b35, 0, none⟩) l.length c34, fun _ => .int .i64 (i : Int), fun _ => .pointer (some ⟨b35, 0 + i * 3, none⟩), fun _ => .agg (pcs q).toArray, fun _ => .agg (bts (insideT a b q)).toArray, fun γ_ => .pointer (some ⟨γ_, 0, none⟩), fun _ => undef]) (aoA [0, 1, 2, 3, 4, 5, 6, 7, 8]) (fun b_ g_ => ((.arr g2 23 (pcs a)) :: (.arr g5 23 (pcs b)) :: (.row (.slice (some ⟨b35, 0, none⟩) l.length c34) 23 3 l.length (ptsC l)) :: (.arr g99 61 (bts (insideT a b p))) :: (bsel (b_ 7) (.arr (g_ 7) 61 (bsel (b_ 8) [.int .i64 ((insideT a b q).a.1), .int .i64 ((insideT a b q).a.2), .int .i64 ((insideT a b q).b.1), .int .i64 ((insideT a b q).b.2), .bool ((insideT a b q).ok)] [.int .i64 0, .int .i64 0, .int .i64 0, .int .i64 0, .bool false])) .free) :: [])) hm98 (by kernel_rfl) (by kernel_rfl) (fun w_ h_ => h_.pushFree) (fun b_ g_ h_ => by show (fun (x7_ x8_ : Bool) => (((.arr g2 23 (pcs a)) :: (.arr g5 23 (pcs b)) :: (.row (.slice (some ⟨b35, 0, none⟩) l.length c34) 23 3 l.length (ptsC l)) :: (.arr g99 61 (bts (insideT a b p))) :: (bsel x7_ (.arr (g_ 7) 61 (bsel x8_ [.int .i64 ((insideT a b q).a.1), .int .i64 ((insideT a b q).a.2), .int .i64 ((insideT a b q).b.1), .int .i64 ((insideT a b q).b.2), .bool ((insideT a b q).ok)] [.int .i64 0, .int .i64 0, .int .i64 0, .int .i64 0, .bool false])) .free) :: []) : List Res)) (b_ 7) (b_ 8) = _; rw [h_ 7 (by decide), h_ 8 (by decide)]) ?_ ?_
    · refine aoNext rfl (aoVal (fun g_ => [(2, .pointer (some ⟨g2, 0, none⟩))]) (fun g_ a_ h_k => ⟨(h_k.out 2 (by kernel_rfl)).trans (litGet (by kernel_rfl)), trivial⟩) (fun g_ X_ => (wn rfl)) (fun b_ g_ => by kernel_rfl) (fun b_ g_ X_ w_ h_b h_ => valTo (b := .agg (pcs a).toArray) (by kernel_rfl) (gLoadAg (vs := pcs a) (k := 0) 0 h_ rfl (by kernel_rfl) (by kernel_rfl) (.tmp 2) Ty.ag_voxel_api_Point rfl (litEv (by kernel_rfl))))) ?_
      refine aoNext rfl (aoVal (fun g_ => [(3, .pointer (some ⟨g5, 0, none⟩))]) (fun g_ a_ h_k => ⟨(h_k.out 3 (by kernel_rfl)).trans (litGet (by kernel_rfl)), trivial⟩) (fun g_ X_ => (wn rfl)) (fun b_ g_ => by kernel_rfl) (fun b_ g_ X_ w_ h_b h_ => valTo (b := .agg (pcs b).toArray) (by kernel_rfl) (gLoadAg (vs := pcs b) (k := 0) 1 h_ rfl (by kernel_rfl) (by kernel_rfl) (.tmp 3) Ty.ag_voxel_api_Point rfl (litEv (by kernel_rfl))))) ?_
      refine aoNext rfl (aoVal (fun g_ => [(6, .slice (some ⟨b35, 0, none⟩) l.length c34)]) (fun g_ a_ h_k => ⟨(h_k.out 6 (by kernel_rfl)).trans (litGet (by kernel_rfl)), trivial⟩) (fun g_ X_ => (wn rfl)) (fun b_ g_ => by kernel_rfl) (fun b_ g_ X_ w_ h_b h_ => valTo (b := .slice (some ⟨b35, 0, none⟩) l.length c34) (by kernel_rfl) (litRun (by kernel_rfl)))) ?_
      refine aoNext rfl (aoVal (fun g_ => [(11, .int .i64 (i : Int))]) (fun g_ a_ h_k => ⟨(h_k.out 11 (by kernel_rfl)).trans (litGet (by kernel_rfl)), trivial⟩) (fun g_ X_ => (wn rfl)) (fun b_ g_ => by kernel_rfl) (fun b_ g_ X_ w_ h_b h_ => valTo (b := .int .i64 (i : Int)) (by kernel_rfl) (litRun (by kernel_rfl)))) ?_
      refine aoNext rfl (aoVal (fun g_ => [(160, .slice (some ⟨b35, 0, none⟩) l.length c34), (161, .int .i64 (i : Int))]) (fun g_ a_ h_k => ⟨(h_k.inn 2 _ _ (by kernel_rfl) rfl rfl).trans (by kernel_rfl), (h_k.inn 3 _ _ (by kernel_rfl) rfl rfl).trans (by kernel_rfl), trivial⟩) (fun g_ X_ => (wn rfl)) (fun b_ g_ => by kernel_rfl) (fun b_ g_ X_ w_ h_b h_ => valTo (b := .pointer (some ⟨b35, 0 + i * 3, none⟩)) (by kernel_rfl) (gIaSl (b := b35) (off := 0) (n := l.length) (c := c34) (kk := .i64) (K := (i : Int)) (.tmp 160) (.tmp 161) i Ty.sl_L_api_Point rfl (litEv (by kernel_rfl)) (litEv (by kernel_rfl)) (rfl) (hil)))) ?_
      refine aoNext rfl (aoVal (fun g_ => [(162, .pointer (some ⟨b35, 0 + i * 3, none⟩))]) (fun g_ a_ h_k => ⟨(h_k.inn 4 _ _ (by kernel_rfl) rfl rfl).trans (by kernel_rfl), trivial⟩) (fun g_ X_ => (wn rfl)) (fun b_ g_ => by kernel_rfl) (fun b_ g_ X_ w_ h_b h_ => valTo (b := .agg (pcs q).toArray) (by kernel_rfl) (gLoadAgRd (vs := pcs q) (m := i * 3) (h_.rdRow 2 rfl) rfl (ptsC_get hq) (by kernel_rfl) (by omega) (.tmp 162) Ty.ag_voxel_api_Point rfl (litEv (by kernel_rfl))))) ?_
      refine aoNext rfl (aoCall (fun g_ => [(158, .agg (pcs a).toArray), (159, .agg (pcs b).toArray), (163, .agg (pcs q).toArray)]) (fun g_ a_ h_k => ⟨(h_k.inn 0 _ _ (by kernel_rfl) rfl rfl).trans (by kernel_rfl), (h_k.inn 1 _ _ (by kernel_rfl) rfl rfl).trans (by kernel_rfl), (h_k.inn 5 _ _ (by kernel_rfl) rfl rfl).trans (by kernel_rfl), trivial⟩) 26 (fun g_ => [.agg (pcs a).toArray, .agg (pcs b).toArray, .agg (pcs q).toArray]) [] [] (by kernel_rfl) (fun g_ X_ => (wn rfl)) (fun b_ g_ => by kernel_rfl) rfl (fun g_ X_ => litEv (by kernel_rfl)) (fun g_ X_ => litArgs (by kernel_rfl)) (fun b_ g_ w_ h_b h_ => (inside_any a b q ha hb hqr _).mono (fun _ _ h_r => ⟨h_r.1.trans (by kernel_rfl), h_r.2⟩))) ?_
      refine aoNext rfl (aoNewAg (z := [.int .i64 0, .int .i64 0, .int .i64 0, .int .i64 0, .bool false]) 4 Ty.ag_voxel_voxelref42_Between rfl rfl (fun _ _ _ => ⟨_, rfl⟩) (fun b_ g_ γ_ h_b => Eq.trans (by kernel_rfl) (congrArg (fun x_ => List.set _ 4 (Res.arr γ_ 61 x_)) (bselF (α := List Value) (h_b.post 8 (by kernel_rfl)) [.int .i64 ((insideT a b q).a.1), .int .i64 ((insideT a b q).a.2), .int .i64 ((insideT a b q).b.1), .int .i64 ((insideT a b q).b.2), .bool ((insideT a b q).ok)] [.int .i64 0, .int .i64 0, .int .i64 0, .int .i64 0, .bool false]))) (fun _ => by kernel_rfl) (by kernel_rfl)) ?_
      refine aoNext rfl (aoStore (gb := fun g_ => (g_ 7)) (k := 0) (cur := fun g_ => [.int .i64 0, .int .i64 0, .int .i64 0, .int .i64 0, .bool false]) (vs := fun g_ => bts (insideT a b q)) 4 (fun g_ => [(14, .pointer (some ⟨(g_ 7), 0, none⟩)), (164, .agg (bts (insideT a b q)).toArray)]) (fun g_ a_ h_k => ⟨(h_k.inn 7 _ _ (by kernel_rfl) rfl rfl).trans (by kernel_rfl), (h_k.inn 6 _ _ (by kernel_rfl) rfl rfl).trans (by kernel_rfl), trivial⟩) Ty.ag_voxel_voxelref42_Between (fun b_ g_ h_b => by show some (bsel (b_ 7) (Res.arr (g_ 7) 61 (bsel (b_ 8) [.int .i64 ((insideT a b q).a.1), .int .i64 ((insideT a b q).a.2), .int .i64 ((insideT a b q).b.1), .int .i64 ((insideT a b q).b.2), .bool ((insideT a b q).ok)] [.int .i64 0, .int .i64 0, .int .i64 0, .int .i64 0, .bool false])) Res.free) = some (Res.arr (g_ 7) 61 ([.int .i64 0, .int .i64 0, .int .i64 0, .int .i64 0, .bool false])); rw [bselT (h_b.pre 7 (by kernel_rfl)), bselF h_b.no]) (fun g_ X_ => (wn rfl)) rfl (fun g_ X_ => litEv (by kernel_rfl)) (fun g_ X_ => litEv (by kernel_rfl)) (fun _ => by kernel_rfl) (fun _ => by kernel_rfl) (fun _ => by kernel_rfl) (fun b_ g_ h_b => Eq.trans (b := List.set (((.arr g2 23 (pcs a)) :: (.arr g5 23 (pcs b)) :: (.row (.slice (some ⟨b35, 0, none⟩) l.length c34) 23 3 l.length (ptsC l)) :: (.arr g99 61 (bts (insideT a b p))) :: (bsel (b_ 7) (.arr (g_ 7) 61 (bsel (b_ 8) [.int .i64 ((insideT a b q).a.1), .int .i64 ((insideT a b q).a.2), .int .i64 ((insideT a b q).b.1), .int .i64 ((insideT a b q).b.2), .bool ((insideT a b q).ok)] [.int .i64 0, .int .i64 0, .int .i64 0, .int .i64 0, .bool false])) .free) :: [])) 4 (bsel (b_ 7) (Res.arr (g_ 7) 61 ([.int .i64 ((insideT a b q).a.1), .int .i64 ((insideT a b q).a.2), .int .i64 ((insideT a b q).b.1), .int .i64 ((insideT a b q).b.2), .bool ((insideT a b q).ok)])) Res.free)) (by kernel_rfl) (congrArg (fun x_ => List.set _ 4 x_) (bselT (h_b.pre 7 (by kernel_rfl)) _ _))) rfl) ?_
      exact aoDone (by decide)
    intro g_ a_ w102 hF_ hm101
    obtain ⟨X103, rfl⟩ := frLit (⟨hF_.size, hF_.defers, ⟨(hF_.out 2 (by kernel_rfl)).trans (litGet (by kernel_rfl)), (hF_.out 3 (by kernel_rfl)).trans (litGet (by kernel_rfl)), (hF_.out 5 (by kernel_rfl)).trans (litGet (by kernel_rfl)), (hF_.out 6 (by kernel_rfl)).trans (litGet (by kernel_rfl)), (hF_.out 8 (by kernel_rfl)).trans (litGet (by kernel_rfl)), (hF_.out 9 (by kernel_rfl)).trans (litGet (by kernel_rfl)), (hF_.out 10 (by kernel_rfl)).trans (litGet (by kernel_rfl)), (hF_.out 11 (by kernel_rfl)).trans (litGet (by kernel_rfl)), (hF_.out 12 (by kernel_rfl)).trans (litGet (by kernel_rfl)), (hF_.out 13 (by kernel_rfl)).trans (litGet (by kernel_rfl)), (hF_.inn 7 _ _ rfl rfl).trans (by kernel_rfl), (hF_.out 88 (by kernel_rfl)).trans (litGet (by kernel_rfl)), (hF_.out 89 (by kernel_rfl)).trans (litGet (by kernel_rfl)), (hF_.out 90 (by kernel_rfl)).trans (litGet (by kernel_rfl)), (hF_.out 91 (by kernel_rfl)).trans (litGet (by kernel_rfl)), (hF_.out 94 (by kernel_rfl)).trans (litGet (by kernel_rfl)), (hF_.out 95 (by kernel_rfl)).trans (litGet (by kernel_rfl)), (hF_.out 96 (by kernel_rfl)).trans (litGet (by kernel_rfl)), (hF_.out 97 (by kernel_rfl)).trans (litGet (by kernel_rfl)), (hF_.out 98 (by kernel_rfl)).trans (litGet (by kernel_rfl)), (hF_.out 99 (by kernel_rfl)).trans (litGet (by kernel_rfl)), (hF_.out 100 (by kernel_rfl)).trans (litGet (by kernel_rfl)), (hF_.out 101 (by kernel_rfl)).trans (litGet (by kernel_rfl)), (hF_.out 102 (by kernel_rfl)).trans (litGet (by kernel_rfl)), (hF_.out 103 (by kernel_rfl)).trans (litGet (by kernel_rfl)), (hF_.out 104 (by kernel_rfl)).trans (litGet (by kernel_rfl)), (hF_.out 105 (by kernel_rfl)).trans (litGet (by kernel_rfl)), (hF_.out 106 (by kernel_rfl)).trans (litGet (by kernel_rfl)), (hF_.out 107 (by kernel_rfl)).trans (litGet (by kernel_rfl)), (hF_.out 108 (by kernel_rfl)).trans (litGet (by kernel_rfl)), (hF_.out 109 (by kernel_rfl)).trans (litGet (by kernel_rfl)), (hF_.out 110 (by kernel_rfl)).trans (litGet (by kernel_rfl)), (hF_.out 111 (by kernel_rfl)).trans (litGet (by kernel_rfl)), (hF_.out 112 (by kernel_rfl)).trans (litGet (by kernel_rfl)), (hF_.out 113 (by kernel_rfl)).trans (litGet (by kernel_rfl)), (hF_.out 150 (by kernel_rfl)).trans (litGet (by kernel_rfl)), (hF_.out 151 (by kernel_rfl)).trans (litGet (by kernel_rfl)), (hF_.out 152 (by kernel_rfl)).trans (litGet (by kernel_rfl)), (hF_.out 153 (by kernel_rfl)).trans (litGet (by kernel_rfl)), (hF_.out 154 (by kernel_rfl)).trans (litGet (by kernel_rfl)), (hF_.out 155 (by kernel_rfl)).trans (litGet (by kernel_rfl)), (hF_.out 156 (by kernel_rfl)).trans (litGet (by kernel_rfl)), (hF_.out 157 (by kernel_rfl)).trans (litGet (by kernel_rfl)), (hF_.inn 0 _ _ rfl rfl).trans (by kernel_rfl), (hF_.inn 1 _ _ rfl rfl).trans (by kernel_rfl), (hF_.inn 2 _ _ rfl rfl).trans (by kernel_rfl), (hF_.inn 3 _ _ rfl rfl).trans (by kernel_rfl), (hF_.inn 4 _ _ rfl rfl).trans (by kernel_rfl), (hF_.inn 5 _ _ rfl rfl).trans (by kernel_rfl), (hF_.inn 6 _ _ rfl rfl).trans (by kernel_rfl), trivial⟩⟩ : Fr _ 181 [(2, .pointer (some ⟨g2, 0, none⟩)), (3, .pointer (some ⟨g5, 0, none⟩)), (5, .bool true), (6, .slice (some ⟨b35, 0, none⟩) l.length c34), (8, .int .i64 (max (-1) (min 1 (b.x - a.x)))), (9, .int .i64 (max (-1) (min 1 (b.y - a.y)))), (10, .int .i64 (max (-1) (min 1 (b.z - a.z)))), (11, .int .i64 (i : Int)), (12, .pointer (some ⟨g77, 0, none⟩)), (13, .pointer (some ⟨g99, 0, none⟩)), (14, .pointer (some ⟨(g_ 7), 0, none⟩)), (88, .int .i64 (i : Int)), (89, .slice (some ⟨b35, 0, none⟩) l.length c34), (90, .int .i64 (l.length : Int)), (91, .bool true), (94, .agg (pcs a).toArray), (95, .agg (pcs b).toArray), (96, .slice (some ⟨b35, 0, none⟩) l.length c34), (97, .int .i64 (i : Int)), (98, .pointer (some ⟨b35, 0 + i * 3, none⟩)), (99, .agg (pcs q).toArray), (100, .bool true), (101, .bool false), (102, .int .i64 (i : Int)), (103, .bool false), (104, .slice (some ⟨b35, 0, none⟩) l.length c34), (105, .int .i64 (i : Int)), (106, .pointer (some ⟨b35, 0 + i * 3, none⟩)), (107, .agg (pcs q).toArray), (108, .slice (some ⟨b35, 0, none⟩) l.length c34), (109, .int .i64 (i : Int)), (110, .int .i64 ((i : Int) - 1)), (111, .pointer (some ⟨b35, 0 + (i - 1) * 3, none⟩)), (112, .agg (pcs p).toArray), (113, .agg (pcs (q.sub p)).toArray), (150, .agg (pcs a).toArray), (151, .agg (pcs b).toArray), (152, .slice (some ⟨b35, 0, none⟩) l.length c34), (153, .int .i64 (i : Int)), (154, .int .i64 ((i : Int) - 1)), (155, .pointer (some ⟨b35, 0 + (i - 1) * 3, none⟩)), (156, .agg (pcs p).toArray), (157, .agg (bts (insideT a b p)).toArray), (158, .agg (pcs a).toArray), (159, .agg (pcs b).toArray), (160, .slice (some ⟨b35, 0, none⟩) l.length c34), (161, .int .i64 (i : Int)), (162, .pointer (some ⟨b35, 0 + i * 3, none⟩)), (163, .agg (pcs q).toArray), (164, .agg (bts (insideT a b q)).toArray)])
    clear hF_
    have hm104 : Mem w w102 [.arr g2 23 (pcs a), .arr g5 23 (pcs b), .row (.slice (some ⟨b35, 0, none⟩) l.length c34) 23 3 l.length (ptsC l), .arr g99 61 (bts (insideT a b p)), .arr (g_ 7) 61 (bts (insideT a b q))] := hm101
    clear hm101 hm98
    generalize g_ 7 = g105 at hm104 ⊢
    clear g_
    refine then_normal (hK100 _ _ ?_)
    refine wp_seq_k fun K106 hK106 => ?_
    refine plStart ?_
    refine litK (v := .pointer (some ⟨g99, 2, none⟩)) rfl rfl (by kernel_rfl) rfl (by decide) ?_
    refine litK (v := .pointer (some ⟨g99, 2, none⟩)) rfl rfl (by kernel_rfl) rfl (by decide) ?_
    refine litVal (v := .int .i64 ((insideT a b p).b.1)) rfl (wn rfl) (gLoad (v := .int .i64 ((insideT a b p).b.1)) (k := 2) 3 hm104 rfl (by kernel_rfl) (.tmp 166) (by kernel_rfl) rfl (litEv (by kernel_rfl))) rfl (by decide) ?_
    refine litK (v := .pointer (some ⟨g105, 0, none⟩)) rfl rfl (by kernel_rfl) rfl (by decide) ?_
    refine litK (v := .pointer (some ⟨g105, 1, none⟩)) rfl rfl (by kernel_rfl) rfl (by decide) ?_
    refine litVal (v := .int .i64 ((insideT a b q).a.2)) rfl (wn rfl) (gLoad (v := .int .i64 ((insideT a b q).a.2)) (k := 1) 4 hm104 rfl (by kernel_rfl) (.tmp 169) (by kernel_rfl) rfl (litEv (by kernel_rfl))) rfl (by decide) ?_
    refine litVal (v := .int .i64 (((insideT a b p).b.1) * ((insideT a b q).a.2))) rfl (wn rfl) (mulRun' (A := ((insideT a b p).b.1)) (B := ((insideT a b q).a.2)) (.tmp 167) (.tmp 170) rfl (litEv (by kernel_rfl)) (litEv (by kernel_rfl)) rfl (mul_in (inside_tm ha hb hpr).2.1 (inside_tm ha hb hqr).1.2)) rfl (by decide) ?_
    refine litK (v := .pointer (some ⟨g105, 0, none⟩)) rfl rfl (by kernel_rfl) rfl (by decide) ?_
    refine litK (v := .pointer (some ⟨g105, 0, none⟩)) rfl rfl (by kernel_rfl) rfl (by decide) ?_
    refine litVal (v := .int .i64 ((insideT a b q).a.1)) rfl (wn rfl) (gLoad (v := .int .i64 ((insideT a b q).a.1)) (k := 0) 4 hm104 rfl (by kernel_rfl) (.tmp 173) (by kernel_rfl) rfl (litEv (by kernel_rfl))) rfl (by decide) ?_
    refine litK (v := .pointer (some ⟨g99, 2, none⟩)) rfl rfl (by kernel_rfl) rfl (by decide) ?_
    refine litK (v := .pointer (some ⟨g99, 3, none⟩)) rfl rfl (by kernel_rfl) rfl (by decide) ?_
    refine litVal (v := .int .i64 ((insideT a b p).b.2)) rfl (wn rfl) (gLoad (v := .int .i64 ((insideT a b p).b.2)) (k := 3) 3 hm104 rfl (by kernel_rfl) (.tmp 176) (by kernel_rfl) rfl (litEv (by kernel_rfl))) rfl (by decide) ?_
    refine litVal (v := .int .i64 (((insideT a b q).a.1) * ((insideT a b p).b.2))) rfl (wn rfl) (mulRun' (A := ((insideT a b q).a.1)) (B := ((insideT a b p).b.2)) (.tmp 174) (.tmp 177) rfl (litEv (by kernel_rfl)) (litEv (by kernel_rfl)) rfl (mul_in (inside_tm ha hb hqr).1.1 (inside_tm ha hb hpr).2.2)) rfl (by decide) ?_
    refine litVal (v := .bool false) rfl (wn rfl) (boolTo (by rw [decide_eq_true hS.2.2.2.2]; rfl) (neqRun (A := (((insideT a b p).b.1) * ((insideT a b q).a.2))) (B := (((insideT a b q).a.1) * ((insideT a b p).b.2))) (.tmp 171) (.tmp 178) rfl (litEv (by kernel_rfl)) (litEv (by kernel_rfl)))) rfl (by decide) ?_
    refine plDone (by decide) ?_
    refine then_normal (hK106 _ _ ?_)
    refine wp_cond_false (litEv (by kernel_rfl)) ?_
    refine wp_skip ?_
    refine inBlock_normal ?_
    refine then_normal (hK62 _ _ ?_)
    refine plStart ?_
    refine litK (v := .int .i64 (i : Int)) rfl rfl (by kernel_rfl) rfl (by decide) ?_
    refine litVal (v := .int .i64 ((i : Int) + 1)) rfl (wn rfl) (addRun (A := (i : Int)) (B := 1) (C := (i : Int) + 1) (.tmp 92) (.const (.int .i64 1)) rfl (litEv (by kernel_rfl)) (litEv (by kernel_rfl)) rfl (by omega)) rfl (by decide) ?_
    refine litK (v := .int .i64 ((i : Int) + 1)) rfl rfl (by kernel_rfl) rfl (by decide) ?_
    refine plDone (by decide) ?_
    refine then_normal ?_
    exact ⟨_, by omega, (i + 1), rfl, (by omega), ⟨litSize, rfl, ⟨litGet (by kernel_rfl), ⟨litGet (by kernel_rfl), ⟨litGet (by kernel_rfl), ⟨litGet (by kernel_rfl), ⟨litGet (by kernel_rfl), ⟨litGet (by kernel_rfl), ⟨litGet (by kernel_rfl), ⟨litGet (by kernel_rfl), trivial⟩⟩⟩⟩⟩⟩⟩⟩⟩, (hm104.sub (.cons_cons _ (.cons_cons _ (.cons_cons _ (.cons _ (.cons _ .slnil))))))⟩
  refine litVal (v := .bool false) rfl (wn rfl) (boolTo (decide_eq_false h61) (lssRun (A := (i : Int)) (B := (l.length : Int)) (.tmp 88) (.tmp 90) rfl (litEv (by kernel_rfl)) (litEv (by kernel_rfl)))) rfl (by decide) ?_
  refine plDone (by decide) ?_
  refine then_normal (hK60 _ _ ?_)
  refine wp_cond_false (litEv (by kernel_rfl)) ?_
  refine wp_exit ?_
  refine then_exit ?_
  refine then_exit ?_
  refine inBlock_exit ?_
  refine then_normal (hK53 _ _ ?_)
  refine wp_seq_k fun K107 hK107 => ?_
  refine plStart ?_
  refine litK (v := .bool true) rfl rfl (by kernel_rfl) rfl (by decide) ?_
  refine litK (v := .bool true) rfl rfl (by kernel_rfl) rfl (by decide) ?_
  refine plDone (by decide) ?_
  refine then_normal (hK107 _ _ ?_)
  refine wpPrune [(4, .bool true)] ⟨litGet (by kernel_rfl), trivial⟩ (fun X108 => ?_)
  refine wp_ret ?_
  refine bodyPost_ret (v := .bool true) (gRes1 rfl (gResTmp (t := 4) (v := .bool true) (litGet (by kernel_rfl)))) rfl ?_
  exact ⟨rfl, hm56.bel⟩
end Go.Proofs.Ytopdcdjmiepdfaa
