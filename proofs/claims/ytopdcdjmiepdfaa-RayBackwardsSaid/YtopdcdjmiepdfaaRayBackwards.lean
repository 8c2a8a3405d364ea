/-
  RayBackwards: the walk back, moved, and turned.
-/
import Derived.Test.YtopdcdjmiepdfaaRH
import Derived.Test.YtopdcdjmiepdfaaRC
namespace Go.Proofs.Ytopdcdjmiepdfaa
open Go.RowKit
set_option linter.unusedVariables false
set_option linter.unusedSimpArgs false

theorem box_small {v : Pt} (h : (⟨⟨-1000, -1000, -1000⟩, ⟨1001, 1001, 1001⟩⟩ : Bx).has v) : (-1073741824 ≤ v.x ∧ v.x ≤ 1073741824) ∧ (-1073741824 ≤ v.y ∧ v.y ≤ 1073741824) ∧ (-1073741824 ≤ v.z ∧ v.z ≤ 1073741824) := by unfold Bx.has at h; simp only at h; omega
set_option maxRecDepth 100000 in
set_option maxHeartbeats 4000000 in
theorem walk_RayBackwards (a b v : Pt) (w : World) (_b0_x : -9223372036854775808 ≤ a.x ∧ a.x ≤ 9223372036854775807) (_b0_y : -9223372036854775808 ≤ a.y ∧ a.y ≤ 9223372036854775807) (_b0_z : -9223372036854775808 ≤ a.z ∧ a.z ≤ 9223372036854775807) (_b1_x : -9223372036854775808 ≤ b.x ∧ b.x ≤ 9223372036854775807) (_b1_y : -9223372036854775808 ≤ b.y ∧ b.y ≤ 9223372036854775807) (_b1_z : -9223372036854775808 ≤ b.z ∧ b.z ≤ 9223372036854775807) (_b2_x : -9223372036854775808 ≤ v.x ∧ v.x ≤ 9223372036854775807) (_b2_y : -9223372036854775808 ≤ v.y ∧ v.y ≤ 9223372036854775807) (_b2_z : -9223372036854775808 ≤ v.z ∧ v.z ≤ 9223372036854775807) : Calls Try.prog 6 #[.agg (pcs a).toArray, .agg (pcs b).toArray, .agg (pcs v).toArray] w (RetB w true) := by
  have hm0 := Mem.nil w
  go_enter Try.func6, Try.ntmps6
  refine litStart 188 [(0, .agg (pcs a).toArray), (1, .agg (pcs b).toArray), (2, .agg (pcs v).toArray)] (by kernel_rfl) (fun X0 => ?_)
  refine wp_seq_k fun K1 hK1 => ?_
  refine plStart ?_
  refine plBox hm0 (cs := pcs a) (i := 0) rfl (wn rfl) rfl (litEv (by kernel_rfl)) ?_
  intro g2 w4 hm3
  clear hm0
  try simp only [List.cons_append, List.nil_append, List.set_cons_succ, List.set_cons_zero] at hm3
  refine qPut rfl (by decide) ?_
  refine plBox hm3 (cs := pcs b) (i := 1) rfl (wn rfl) rfl (litEv (by kernel_rfl)) ?_
  intro g5 w7 hm6
  clear hm3
  try simp only [List.cons_append, List.nil_append, List.set_cons_succ, List.set_cons_zero] at hm6
  refine qPut rfl (by decide) ?_
  refine plBox hm6 (cs := pcs v) (i := 2) rfl (wn rfl) rfl (litEv (by kernel_rfl)) ?_
  intro g8 w10 hm9
  clear hm6
  try simp only [List.cons_append, List.nil_append, List.set_cons_succ, List.set_cons_zero] at hm9
  refine qPut rfl (by decide) ?_
  refine litK (v := .bool false) rfl rfl (by kernel_rfl) rfl (by decide) ?_
  refine plDone (by decide) ?_
  refine then_normal (hK1 _ _ ?_)
  refine wp_seq_k fun K11 hK11 => ?_
  refine plStart ?_
  refine plCall (i := 0) 8 [] [] [] rfl (by kernel_rfl) (wn rfl) rfl (litEv (by kernel_rfl)) (litArgs (by kernel_rfl)) (sanity_any _) ?_
  rintro e w12 ⟨rfl, hbz⟩
  have hm13 := hm9.below hbz
  clear hbz hm9
  refine ⟨_, rfl, ?_⟩
  refine qPut rfl (by decide) ?_
  refine litK (v := .bool true) rfl rfl (by kernel_rfl) rfl (by decide) ?_
  refine plDone (by decide) ?_
  refine then_normal (hK11 _ _ ?_)
  refine wp_seq_k fun K14 hK14 => ?_
  refine wp_seq_k fun K15 hK15 => ?_
  refine mgStart hm13 (by kernel_rfl) ?_
  intro w17 hm16
  clear hm13
  refine mgTake (i := 0) (v := .agg (pcs a).toArray) rfl (by kernel_rfl) (wn rfl) (fun _ _ _ h => h) hm16 (fun w_ h_ => gLoadAg (vs := pcs a) (k := 0) 0 h_ rfl (by kernel_rfl) (by kernel_rfl) (.tmp 3) Ty.ag_voxel_api_Point rfl (litEv (by kernel_rfl))) ?_
  refine mPut rfl (by decide) ?_
  refine mgCall (i := 1) 20 [.agg (pcs a).toArray] [] [] (by kernel_rfl) rfl (by kernel_rfl) (wn rfl) rfl (litEv (by kernel_rfl)) (litArgs (by kernel_rfl)) (inRange1_any a _) ?_
  rintro e w18 ⟨rfl, hbz⟩
  have hm19 := hm16.below hbz
  clear hbz hm16
  refine ⟨_, rfl, hm19, ?_⟩
  refine mPut rfl (by decide) ?_
  rcases bool_or (decide a.rng) with h20 | h20
  · rw [h20]
    refine mgK (i := 2) (v := .bool true) rfl (by kernel_rfl) rfl (fun _ _ _ h => h) hm19 (fun _ => by kernel_rfl) rfl (by decide) ?_
    refine mgK (i := 3) (v := .bool true) rfl (by kernel_rfl) rfl (fun _ _ _ h => h) hm19 (fun _ => by kernel_rfl) rfl (by decide) ?_
    refine mgSkip (i := 4) rfl (by kernel_rfl) (wgN rfl rfl rfl (by decide) (by kernel_rfl)) (fun _ _ _ h => h) hm19 ?_
    refine mPut rfl (by decide) ?_
    refine mgSkip (i := 5) rfl (by kernel_rfl) (wgN rfl rfl rfl (by decide) (by kernel_rfl)) (fun _ _ _ h => h) hm19 ?_
    refine mPut rfl (by decide) ?_
    refine mgSkip (i := 6) rfl (by kernel_rfl) (wgN rfl rfl rfl (by decide) (by kernel_rfl)) (fun _ _ _ h => h) hm19 ?_
    refine mPut rfl (by decide) ?_
    refine mgK (i := 7) (v := .bool true) rfl (by kernel_rfl) rfl (fun _ _ _ h => h) hm19 (fun _ => by kernel_rfl) rfl (by decide) ?_
    refine mgK (i := 8) (v := .bool true) rfl (by kernel_rfl) rfl (fun _ _ _ h => h) hm19 (fun _ => by kernel_rfl) rfl (by decide) ?_
    refine mgSkip (i := 9) rfl (by kernel_rfl) (wgN rfl rfl rfl (by decide) (by kernel_rfl)) (fun _ _ _ h => h) hm19 ?_
    refine mPut rfl (by decide) ?_
    refine mgSkip (i := 10) rfl (by kernel_rfl) (wgN rfl rfl rfl (by decide) (by kernel_rfl)) (fun _ _ _ h => h) hm19 ?_
    refine mPut rfl (by decide) ?_
    refine mgSkip (i := 11) rfl (by kernel_rfl) (wgN rfl rfl rfl (by decide) (by kernel_rfl)) (fun _ _ _ h => h) hm19 ?_
    refine mPut rfl (by decide) ?_
    refine mgSkip (i := 12) rfl (by kernel_rfl) (wgN rfl rfl rfl (by decide) (by kernel_rfl)) (fun _ _ _ h => h) hm19 ?_
    refine mPut rfl (by decide) ?_
    refine mgK (i := 13) (v := .bool true) rfl (by kernel_rfl) rfl (fun _ _ _ h => h) hm19 (fun _ => by kernel_rfl) rfl (by decide) ?_
    refine mgK (i := 14) (v := .bool true) rfl (by kernel_rfl) rfl (fun _ _ _ h => h) hm19 (fun _ => by kernel_rfl) rfl (by decide) ?_
    refine mgSkip (i := 15) rfl (by kernel_rfl) (wgN rfl rfl rfl (by decide) (by kernel_rfl)) (fun _ _ _ h => h) hm19 ?_
    refine mPut rfl (by decide) ?_
    refine mgSkip (i := 16) rfl (by kernel_rfl) (wgN rfl rfl rfl (by decide) (by kernel_rfl)) (fun _ _ _ h => h) hm19 ?_
    refine mPut rfl (by decide) ?_
    refine mgSkip (i := 17) rfl (by kernel_rfl) (wgN rfl rfl rfl (by decide) (by kernel_rfl)) (fun _ _ _ h => h) hm19 ?_
    refine mPut rfl (by decide) ?_
    refine mgSkip (i := 18) rfl (by kernel_rfl) (wgN rfl rfl rfl (by decide) (by kernel_rfl)) (fun _ _ _ h => h) hm19 ?_
    refine mPut rfl (by decide) ?_
    refine mgSkip (i := 19) rfl (by kernel_rfl) (wgN rfl rfl rfl (by decide) (by kernel_rfl)) (fun _ _ _ h => h) hm19 ?_
    refine mPut rfl (by decide) ?_
    refine mgSkip (i := 20) rfl (by kernel_rfl) (wgN rfl rfl rfl (by decide) (by kernel_rfl)) (fun _ _ _ h => h) hm19 ?_
    refine mPut rfl (by decide) ?_
    refine mgK (i := 21) (v := .bool true) rfl (by kernel_rfl) rfl (fun _ _ _ h => h) hm19 (fun _ => by kernel_rfl) rfl (by decide) ?_
    refine mgDone (by kernel_rfl) ?_
    refine then_normal (hK15 _ _ ?_)
    refine wpPrune [(3, .pointer (some ⟨g2, 0, none⟩)), (4, .pointer (some ⟨g5, 0, none⟩)), (5, .pointer (some ⟨g8, 0, none⟩)), (6, .bool false), (7, .bool true), (42, .bool true)] ⟨litGet (by kernel_rfl), ⟨litGet (by kernel_rfl), ⟨litGet (by kernel_rfl), ⟨litGet (by kernel_rfl), ⟨litGet (by kernel_rfl), ⟨litGet (by kernel_rfl), trivial⟩⟩⟩⟩⟩⟩ (fun X21 => ?_)
    refine wp_cond_true (litEv (by kernel_rfl)) ?_
    refine wp_seq_k fun K22 hK22 => ?_
    refine plStart ?_
    refine litK (v := .bool true) rfl rfl (by kernel_rfl) rfl (by decide) ?_
    refine litK (v := .bool true) rfl rfl (by kernel_rfl) rfl (by decide) ?_
    refine plDone (by decide) ?_
    refine then_normal (hK22 _ _ ?_)
    refine wp_ret ?_
    refine then_ret ?_
    refine bodyPost_ret (v := .bool true) (gRes1 rfl (gResTmp (t := 6) (v := .bool true) (litGet (by kernel_rfl)))) rfl ?_
    exact ⟨rfl, hm19.bel⟩
  rw [h20]
  refine mgK (i := 2) (v := .bool false) rfl (by kernel_rfl) rfl (fun _ _ _ h => h) hm19 (fun _ => by kernel_rfl) rfl (by decide) ?_
  refine mgK (i := 3) (v := .bool false) rfl (by kernel_rfl) rfl (fun _ _ _ h => h) hm19 (fun _ => by kernel_rfl) rfl (by decide) ?_
  refine mgTake (i := 4) (v := .agg (pcs b).toArray) rfl (by kernel_rfl) (wgY rfl rfl rfl (by decide) (by kernel_rfl)) (fun _ _ _ h => h) hm19 (fun w_ h_ => gLoadAg (vs := pcs b) (k := 0) 1 h_ rfl (by kernel_rfl) (by kernel_rfl) (.tmp 4) Ty.ag_voxel_api_Point rfl (litEv (by kernel_rfl))) ?_
  refine mPut rfl (by decide) ?_
  refine mgCall (i := 5) 20 [.agg (pcs b).toArray] [] [] (by kernel_rfl) rfl (by kernel_rfl) (wgY rfl rfl rfl (by decide) (by kernel_rfl)) rfl (litEv (by kernel_rfl)) (litArgs (by kernel_rfl)) (inRange1_any b _) ?_
  rintro e w23 ⟨rfl, hbz⟩
  have hm24 := hm19.below hbz
  clear hbz hm19
  refine ⟨_, rfl, hm24, ?_⟩
  refine mPut rfl (by decide) ?_
  rcases bool_or (decide b.rng) with h25 | h25
  · rw [h25]
    refine mgTake (i := 6) (v := .bool true) rfl (by kernel_rfl) (wgY rfl rfl rfl (by decide) (by kernel_rfl)) (fun _ _ _ h => h) hm24 (fun w_ h_ => litRun (by kernel_rfl)) ?_
    refine mPut rfl (by decide) ?_
    refine mgK (i := 7) (v := .bool true) rfl (by kernel_rfl) rfl (fun _ _ _ h => h) hm24 (fun _ => by kernel_rfl) rfl (by decide) ?_
    refine mgK (i := 8) (v := .bool true) rfl (by kernel_rfl) rfl (fun _ _ _ h => h) hm24 (fun _ => by kernel_rfl) rfl (by decide) ?_
    refine mgSkip (i := 9) rfl (by kernel_rfl) (wgN rfl rfl rfl (by decide) (by kernel_rfl)) (fun _ _ _ h => h) hm24 ?_
    refine mPut rfl (by decide) ?_
    refine mgSkip (i := 10) rfl (by kernel_rfl) (wgN rfl rfl rfl (by decide) (by kernel_rfl)) (fun _ _ _ h => h) hm24 ?_
    refine mPut rfl (by decide) ?_
    refine mgSkip (i := 11) rfl (by kernel_rfl) (wgN rfl rfl rfl (by decide) (by kernel_rfl)) (fun _ _ _ h => h) hm24 ?_
    refine mPut rfl (by decide) ?_
    refine mgSkip (i := 12) rfl (by kernel_rfl) (wgN rfl rfl rfl (by decide) (by kernel_rfl)) (fun _ _ _ h => h) hm24 ?_
    refine mPut rfl (by decide) ?_
    refine mgK (i := 13) (v := .bool true) rfl (by kernel_rfl) rfl (fun _ _ _ h => h) hm24 (fun _ => by kernel_rfl) rfl (by decide) ?_
    refine mgK (i := 14) (v := .bool true) rfl (by kernel_rfl) rfl (fun _ _ _ h => h) hm24 (fun _ => by kernel_rfl) rfl (by decide) ?_
    refine mgSkip (i := 15) rfl (by kernel_rfl) (wgN rfl rfl rfl (by decide) (by kernel_rfl)) (fun _ _ _ h => h) hm24 ?_
    refine mPut rfl (by decide) ?_
    refine mgSkip (i := 16) rfl (by kernel_rfl) (wgN rfl rfl rfl (by decide) (by kernel_rfl)) (fun _ _ _ h => h) hm24 ?_
    refine mPut rfl (by decide) ?_
    refine mgSkip (i := 17) rfl (by kernel_rfl) (wgN rfl rfl rfl (by decide) (by kernel_rfl)) (fun _ _ _ h => h) hm24 ?_
    refine mPut rfl (by decide) ?_
    refine mgSkip (i := 18) rfl (by kernel_rfl) (wgN rfl rfl rfl (by decide) (by kernel_rfl)) (fun _ _ _ h => h) hm24 ?_
    refine mPut rfl (by decide) ?_
    refine mgSkip (i := 19) rfl (by kernel_rfl) (wgN rfl rfl rfl (by decide) (by kernel_rfl)) (fun _ _ _ h => h) hm24 ?_
    refine mPut rfl (by decide) ?_
    refine mgSkip (i := 20) rfl (by kernel_rfl) (wgN rfl rfl rfl (by decide) (by kernel_rfl)) (fun _ _ _ h => h) hm24 ?_
    refine mPut rfl (by decide) ?_
    refine mgK (i := 21) (v := .bool true) rfl (by kernel_rfl) rfl (fun _ _ _ h => h) hm24 (fun _ => by kernel_rfl) rfl (by decide) ?_
    refine mgDone (by kernel_rfl) ?_
    refine then_normal (hK15 _ _ ?_)
    refine wpPrune [(3, .pointer (some ⟨g2, 0, none⟩)), (4, .pointer (some ⟨g5, 0, none⟩)), (5, .pointer (some ⟨g8, 0, none⟩)), (6, .bool false), (7, .bool true), (42, .bool true)] ⟨litGet (by kernel_rfl), ⟨litGet (by kernel_rfl), ⟨litGet (by kernel_rfl), ⟨litGet (by kernel_rfl), ⟨litGet (by kernel_rfl), ⟨litGet (by kernel_rfl), trivial⟩⟩⟩⟩⟩⟩ (fun X26 => ?_)
    refine wp_cond_true (litEv (by kernel_rfl)) ?_
    refine wp_seq_k fun K27 hK27 => ?_
    refine plStart ?_
    refine litK (v := .bool true) rfl rfl (by kernel_rfl) rfl (by decide) ?_
    refine litK (v := .bool true) rfl rfl (by kernel_rfl) rfl (by decide) ?_
    refine plDone (by decide) ?_
    refine then_normal (hK27 _ _ ?_)
    refine wp_ret ?_
    refine then_ret ?_
    refine bodyPost_ret (v := .bool true) (gRes1 rfl (gResTmp (t := 6) (v := .bool true) (litGet (by kernel_rfl)))) rfl ?_
    exact ⟨rfl, hm24.bel⟩
  rw [h25]
  refine mgTake (i := 6) (v := .bool false) rfl (by kernel_rfl) (wgY rfl rfl rfl (by decide) (by kernel_rfl)) (fun _ _ _ h => h) hm24 (fun w_ h_ => litRun (by kernel_rfl)) ?_
  refine mPut rfl (by decide) ?_
  refine mgK (i := 7) (v := .bool false) rfl (by kernel_rfl) rfl (fun _ _ _ h => h) hm24 (fun _ => by kernel_rfl) rfl (by decide) ?_
  refine mgK (i := 8) (v := .bool false) rfl (by kernel_rfl) rfl (fun _ _ _ h => h) hm24 (fun _ => by kernel_rfl) rfl (by decide) ?_
  refine mgTake (i := 9) (v := .agg (pcs a).toArray) rfl (by kernel_rfl) (wgY rfl rfl rfl (by decide) (by kernel_rfl)) (fun _ _ _ h => h) hm24 (fun w_ h_ => gLoadAg (vs := pcs a) (k := 0) 0 h_ rfl (by kernel_rfl) (by kernel_rfl) (.tmp 3) Ty.ag_voxel_api_Point rfl (litEv (by kernel_rfl))) ?_
  refine mPut rfl (by decide) ?_
  refine mgTake (i := 10) (v := .agg (pcs b).toArray) rfl (by kernel_rfl) (wgY rfl rfl rfl (by decide) (by kernel_rfl)) (fun _ _ _ h => h) hm24 (fun w_ h_ => gLoadAg (vs := pcs b) (k := 0) 1 h_ rfl (by kernel_rfl) (by kernel_rfl) (.tmp 4) Ty.ag_voxel_api_Point rfl (litEv (by kernel_rfl))) ?_
  refine mPut rfl (by decide) ?_
  refine mgCall (i := 11) 21 [.agg (pcs a).toArray, .agg (pcs b).toArray] [] [] (by kernel_rfl) rfl (by kernel_rfl) (wgY rfl rfl rfl (by decide) (by kernel_rfl)) rfl (litEv (by kernel_rfl)) (litArgs (by kernel_rfl)) (dist_any a b (of_decide_eq_true h20) (of_decide_eq_true h25) _) ?_
  rintro e w28 ⟨rfl, hbz⟩
  have hm29 := hm24.below hbz
  clear hbz hm24
  refine ⟨_, rfl, hm29, ?_⟩
  refine mPut rfl (by decide) ?_
  by_cases h30 : 2000 < (a.dist b)
  · refine mgTake (i := 12) (v := .bool true) rfl (by kernel_rfl) (wgY rfl rfl rfl (by decide) (by kernel_rfl)) (fun _ _ _ h => h) hm29 (fun w_ h_ => boolTo (decide_eq_true h30) (gtrRun (A := (a.dist b)) (B := 2000) (.tmp 32) (.const (.int .i64 2000)) rfl (litEv (by kernel_rfl)) (litEv (by kernel_rfl)))) ?_
    refine mPut rfl (by decide) ?_
    refine mgK (i := 13) (v := .bool true) rfl (by kernel_rfl) rfl (fun _ _ _ h => h) hm29 (fun _ => by kernel_rfl) rfl (by decide) ?_
    refine mgK (i := 14) (v := .bool true) rfl (by kernel_rfl) rfl (fun _ _ _ h => h) hm29 (fun _ => by kernel_rfl) rfl (by decide) ?_
    refine mgSkip (i := 15) rfl (by kernel_rfl) (wgN rfl rfl rfl (by decide) (by kernel_rfl)) (fun _ _ _ h => h) hm29 ?_
    refine mPut rfl (by decide) ?_
    refine mgSkip (i := 16) rfl (by kernel_rfl) (wgN rfl rfl rfl (by decide) (by kernel_rfl)) (fun _ _ _ h => h) hm29 ?_
    refine mPut rfl (by decide) ?_
    refine mgSkip (i := 17) rfl (by kernel_rfl) (wgN rfl rfl rfl (by decide) (by kernel_rfl)) (fun _ _ _ h => h) hm29 ?_
    refine mPut rfl (by decide) ?_
    refine mgSkip (i := 18) rfl (by kernel_rfl) (wgN rfl rfl rfl (by decide) (by kernel_rfl)) (fun _ _ _ h => h) hm29 ?_
    refine mPut rfl (by decide) ?_
    refine mgSkip (i := 19) rfl (by kernel_rfl) (wgN rfl rfl rfl (by decide) (by kernel_rfl)) (fun _ _ _ h => h) hm29 ?_
    refine mPut rfl (by decide) ?_
    refine mgSkip (i := 20) rfl (by kernel_rfl) (wgN rfl rfl rfl (by decide) (by kernel_rfl)) (fun _ _ _ h => h) hm29 ?_
    refine mPut rfl (by decide) ?_
    refine mgK (i := 21) (v := .bool true) rfl (by kernel_rfl) rfl (fun _ _ _ h => h) hm29 (fun _ => by kernel_rfl) rfl (by decide) ?_
    refine mgDone (by kernel_rfl) ?_
    refine then_normal (hK15 _ _ ?_)
    refine wpPrune [(3, .pointer (some ⟨g2, 0, none⟩)), (4, .pointer (some ⟨g5, 0, none⟩)), (5, .pointer (some ⟨g8, 0, none⟩)), (6, .bool false), (7, .bool true), (42, .bool true)] ⟨litGet (by kernel_rfl), ⟨litGet (by kernel_rfl), ⟨litGet (by kernel_rfl), ⟨litGet (by kernel_rfl), ⟨litGet (by kernel_rfl), ⟨litGet (by kernel_rfl), trivial⟩⟩⟩⟩⟩⟩ (fun X31 => ?_)
    refine wp_cond_true (litEv (by kernel_rfl)) ?_
    refine wp_seq_k fun K32 hK32 => ?_
    refine plStart ?_
    refine litK (v := .bool true) rfl rfl (by kernel_rfl) rfl (by decide) ?_
    refine litK (v := .bool true) rfl rfl (by kernel_rfl) rfl (by decide) ?_
    refine plDone (by decide) ?_
    refine then_normal (hK32 _ _ ?_)
    refine wp_ret ?_
    refine then_ret ?_
    refine bodyPost_ret (v := .bool true) (gRes1 rfl (gResTmp (t := 6) (v := .bool true) (litGet (by kernel_rfl)))) rfl ?_
    exact ⟨rfl, hm29.bel⟩
  have ha := of_decide_eq_true h20
  have hb := of_decide_eq_true h25
  have hck := dist_ck ha hb (by omega)
  obtain ⟨l, hl⟩ : ∃ l, walk a b = l := ⟨_, rfl⟩
  have hWl : walkR a b = l := by unfold walkR; rw [if_pos hck, hl]
  have h0 := walk_head a b
  have hLa := walk_last a b
  have hlen := walk_len a b
  have hpos : 0 < (walk a b).length := (List.getElem?_eq_some_iff.1 h0).1
  have hmem : ∀ q ∈ walk a b, (insideT a b q).ok = true ∧ inB a b q := fun q hq => walk_mem hq
  have hst : ∀ (i : Nat) (p q : Pt), (walk a b)[i]? = some p → (walk a b)[i + 1]? = some q → StepOf a b p q := fun i p q hp hq => walk_steps hp hq
  rw [hl] at h0 hLa hlen hpos hmem hst
  have hs1 := (ckE_ok hck).2.2
  have ha_ := ha
  have hb_ := hb
  unfold Pt.rng at ha_ hb_
  have hck2 : ckE b a = 0 := dist_ck hb ha (by rw [dist_back]; omega)
  have hWm : walkR b a = l.reverse := by unfold walkR; rw [if_pos hck2, walk_back, hl]
  have hck3 : ckE ⟨a.z, a.y, a.x⟩ ⟨b.z, b.y, b.x⟩ = 0 := dist_ck (rng_turn ha) (rng_turn hb) (by show a.turn.dist b.turn ≤ 2000; rw [dist_turn]; omega)
  have hWn : walkR ⟨a.z, a.y, a.x⟩ ⟨b.z, b.y, b.x⟩ = l.map Pt.turn := by unfold walkR; rw [if_pos hck3]; show walk a.turn b.turn = _; rw [walk_turn, hl]
  have hck4 : (a.add v).rng → (b.add v).rng → ckE (a.add v) (b.add v) = 0 := fun h1 h2 => dist_ck h1 h2 (by rw [dist_move]; omega)
  have hWo : (a.add v).rng → (b.add v).rng → walkR (a.add v) (b.add v) = l.map (·.add v) := fun h1 h2 => by unfold walkR; rw [if_pos (hck4 h1 h2), walk_move, hl]
  refine mgTake (i := 12) (v := .bool false) rfl (by kernel_rfl) (wgY rfl rfl rfl (by decide) (by kernel_rfl)) (fun _ _ _ h => h) hm29 (fun w_ h_ => boolTo (decide_eq_false h30) (gtrRun (A := (a.dist b)) (B := 2000) (.tmp 32) (.const (.int .i64 2000)) rfl (litEv (by kernel_rfl)) (litEv (by kernel_rfl)))) ?_
  refine mPut rfl (by decide) ?_
  refine mgK (i := 13) (v := .bool false) rfl (by kernel_rfl) rfl (fun _ _ _ h => h) hm29 (fun _ => by kernel_rfl) rfl (by decide) ?_
  refine mgK (i := 14) (v := .bool false) rfl (by kernel_rfl) rfl (fun _ _ _ h => h) hm29 (fun _ => by kernel_rfl) rfl (by decide) ?_
  refine mgTake (i := 15) (v := .agg (pcs v).toArray) rfl (by kernel_rfl) (wgY rfl rfl rfl (by decide) (by kernel_rfl)) (fun _ _ _ h => h) hm29 (fun w_ h_ => gLoadAg (vs := pcs v) (k := 0) 2 h_ rfl (by kernel_rfl) (by kernel_rfl) (.tmp 5) Ty.ag_voxel_api_Point rfl (litEv (by kernel_rfl))) ?_
  refine mPut rfl (by decide) ?_
  refine mgCall (i := 16) 25 [.int .i64 (-1000), .int .i64 (-1000), .int .i64 (-1000)] [] [] (by kernel_rfl) rfl (by kernel_rfl) (wgY rfl rfl rfl (by decide) (by kernel_rfl)) rfl (litEv (by kernel_rfl)) (litArgs (by kernel_rfl)) (at_any (-1000) (-1000) (-1000) _) ?_
  rintro e w33 ⟨rfl, hbz⟩
  have hm34 := hm29.below hbz
  clear hbz hm29
  refine ⟨_, rfl, hm34, ?_⟩
  refine mPut rfl (by decide) ?_
  refine mgCall (i := 17) 25 [.int .i64 1001, .int .i64 1001, .int .i64 1001] [] [] (by kernel_rfl) rfl (by kernel_rfl) (wgY rfl rfl rfl (by decide) (by kernel_rfl)) rfl (litEv (by kernel_rfl)) (litArgs (by kernel_rfl)) (at_any 1001 1001 1001 _) ?_
  rintro e w35 ⟨rfl, hbz⟩
  have hm36 := hm34.below hbz
  clear hbz hm34
  refine ⟨_, rfl, hm36, ?_⟩
  refine mPut rfl (by decide) ?_
  refine mgTake (i := 18) (v := .agg ([.int .i64 (-1000), .int .i64 (-1000), .int .i64 (-1000), .int .i64 1001, .int .i64 1001, .int .i64 1001]).toArray) rfl (by kernel_rfl) (wgY rfl rfl rfl (by decide) (by kernel_rfl)) (fun _ _ _ h => h) hm36 (fun w_ h_ => litRun (by kernel_rfl)) ?_
  refine mPut rfl (by decide) ?_
  refine mgCall (i := 19) 27 [.agg (pcs v).toArray, .agg ([.int .i64 (-1000), .int .i64 (-1000), .int .i64 (-1000), .int .i64 1001, .int .i64 1001, .int .i64 1001]).toArray] [] [] (by kernel_rfl) rfl (by kernel_rfl) (wgY rfl rfl rfl (by decide) (by kernel_rfl)) rfl (litEv (by kernel_rfl)) (litArgs (by kernel_rfl)) (in_any v ⟨⟨-1000, -1000, -1000⟩, ⟨1001, 1001, 1001⟩⟩ _) ?_
  rintro e w37 ⟨rfl, hbz⟩
  have hm38 := hm36.below hbz
  clear hbz hm36
  refine ⟨_, rfl, hm38, ?_⟩
  refine mPut rfl (by decide) ?_
  rcases bool_or (decide ((⟨⟨-1000, -1000, -1000⟩, ⟨1001, 1001, 1001⟩⟩ : Bx).has v)) with h39 | h39
  · rw [h39]
    refine mgTake (i := 20) (v := .bool true) rfl (by kernel_rfl) (wgY rfl rfl rfl (by decide) (by kernel_rfl)) (fun _ _ _ h => h) hm38 (fun w_ h_ => litRun (by kernel_rfl)) ?_
    refine mPut rfl (by decide) ?_
    refine mgK (i := 21) (v := .bool true) rfl (by kernel_rfl) rfl (fun _ _ _ h => h) hm38 (fun _ => by kernel_rfl) rfl (by decide) ?_
    refine mgDone (by kernel_rfl) ?_
    refine then_normal (hK15 _ _ ?_)
    refine wpPrune [(3, .pointer (some ⟨g2, 0, none⟩)), (4, .pointer (some ⟨g5, 0, none⟩)), (5, .pointer (some ⟨g8, 0, none⟩)), (6, .bool false), (7, .bool true), (42, .bool true)] ⟨litGet (by kernel_rfl), ⟨litGet (by kernel_rfl), ⟨litGet (by kernel_rfl), ⟨litGet (by kernel_rfl), ⟨litGet (by kernel_rfl), ⟨litGet (by kernel_rfl), trivial⟩⟩⟩⟩⟩⟩ (fun X40 => ?_)
    refine wp_cond_true (litEv (by kernel_rfl)) ?_
    refine wp_seq_k fun K41 hK41 => ?_
    refine plStart ?_
    refine litK (v := .bool true) rfl rfl (by kernel_rfl) rfl (by decide) ?_
    refine litK (v := .bool true) rfl rfl (by kernel_rfl) rfl (by decide) ?_
    refine plDone (by decide) ?_
    refine then_normal (hK41 _ _ ?_)
    refine wp_ret ?_
    refine then_ret ?_
    refine bodyPost_ret (v := .bool true) (gRes1 rfl (gResTmp (t := 6) (v := .bool true) (litGet (by kernel_rfl)))) rfl ?_
    exact ⟨rfl, hm38.bel⟩
  rw [h39]
  refine mgTake (i := 20) (v := .bool false) rfl (by kernel_rfl) (wgY rfl rfl rfl (by decide) (by kernel_rfl)) (fun _ _ _ h => h) hm38 (fun w_ h_ => litRun (by kernel_rfl)) ?_
  refine mPut rfl (by decide) ?_
  refine mgK (i := 21) (v := .bool false) rfl (by kernel_rfl) rfl (fun _ _ _ h => h) hm38 (fun _ => by kernel_rfl) rfl (by decide) ?_
  refine mgDone (by kernel_rfl) ?_
  refine then_normal (hK15 _ _ ?_)
  refine wpPrune [(3, .pointer (some ⟨g2, 0, none⟩)), (4, .pointer (some ⟨g5, 0, none⟩)), (5, .pointer (some ⟨g8, 0, none⟩)), (6, .bool false), (7, .bool true), (42, .bool false)] ⟨litGet (by kernel_rfl), ⟨litGet (by kernel_rfl), ⟨litGet (by kernel_rfl), ⟨litGet (by kernel_rfl), ⟨litGet (by kernel_rfl), ⟨litGet (by kernel_rfl), trivial⟩⟩⟩⟩⟩⟩ (fun X42 => ?_)
  refine wp_cond_false (litEv (by kernel_rfl)) ?_
  refine wp_skip ?_
  refine then_normal (hK14 _ _ ?_)
  refine wp_seq_k fun K43 hK43 => ?_
  refine plStart ?_
  refine litVal (v := .agg (pcs a).toArray) rfl (wn rfl) (gLoadAg (vs := pcs a) (k := 0) 0 hm38 rfl (by kernel_rfl) (by kernel_rfl) (.tmp 3) Ty.ag_voxel_api_Point rfl (litEv (by kernel_rfl))) rfl (by decide) ?_
  refine litVal (v := .agg (pcs b).toArray) rfl (wn rfl) (gLoadAg (vs := pcs b) (k := 0) 1 hm38 rfl (by kernel_rfl) (by kernel_rfl) (.tmp 4) Ty.ag_voxel_api_Point rfl (litEv (by kernel_rfl))) rfl (by decide) ?_
  refine plCall (i := 2) 10 [.agg (pcs a).toArray, .agg (pcs b).toArray] [] [] rfl (by kernel_rfl) (wn rfl) rfl (litEv (by kernel_rfl)) (litArgs (by kernel_rfl)) (by have h := walk_any a b w37; rw [hWl, hck] at h; exact h) ?_
  rintro e w44 ⟨v46, rfl, hown_, hbz⟩
  obtain ⟨A47, c48, rfl, hrd_⟩ := Rd.of_own hown_
  clear hrd_
  have hm45 := hm38.newRow hbz hown_
  clear hown_ hbz hm38
  try simp only [List.cons_append, List.nil_append, List.set_cons_succ, List.set_cons_zero] at hm45
  obtain ⟨b49, rfl⟩ := hm45.rowBlk (A := A47) (n := l.length) (c := c48) 3 rfl hpos
  refine ⟨_, rfl, ?_⟩
  refine qPut rfl (by decide) ?_
  refine litK (v := .tuple #[.slice (some ⟨b49, 0, none⟩) l.length c48, .int .i64 0]) rfl rfl (by kernel_rfl) rfl (by decide) ?_
  refine litK (v := .slice (some ⟨b49, 0, none⟩) l.length c48) rfl rfl (by kernel_rfl) rfl (by decide) ?_
  refine litK (v := .int .i64 0) rfl rfl (by kernel_rfl) rfl (by decide) ?_
  refine litK (v := .slice (some ⟨b49, 0, none⟩) l.length c48) rfl rfl (by kernel_rfl) rfl (by decide) ?_
  refine litK (v := .int .i64 0) rfl rfl (by kernel_rfl) rfl (by decide) ?_
  refine plDone (by decide) ?_
  refine then_normal (hK43 _ _ ?_)
  refine wp_seq_k fun K50 hK50 => ?_
  refine plStart ?_
  refine litVal (v := .agg (pcs b).toArray) rfl (wn rfl) (gLoadAg (vs := pcs b) (k := 0) 1 hm45 rfl (by kernel_rfl) (by kernel_rfl) (.tmp 4) Ty.ag_voxel_api_Point rfl (litEv (by kernel_rfl))) rfl (by decide) ?_
  refine litVal (v := .agg (pcs a).toArray) rfl (wn rfl) (gLoadAg (vs := pcs a) (k := 0) 0 hm45 rfl (by kernel_rfl) (by kernel_rfl) (.tmp 3) Ty.ag_voxel_api_Point rfl (litEv (by kernel_rfl))) rfl (by decide) ?_
  refine plCall (i := 2) 10 [.agg (pcs b).toArray, .agg (pcs a).toArray] [] [] rfl (by kernel_rfl) (wn rfl) rfl (litEv (by kernel_rfl)) (litArgs (by kernel_rfl)) (by have h := walk_any b a w44; rw [hWm, hck2, List.length_reverse] at h; exact h) ?_
  rintro e w51 ⟨v53, rfl, hown_, hbz⟩
  obtain ⟨A54, c55, rfl, hrd_⟩ := Rd.of_own hown_
  clear hrd_
  have hm52 := hm45.newRow hbz hown_
  clear hown_ hbz hm45
  try simp only [List.cons_append, List.nil_append, List.set_cons_succ, List.set_cons_zero] at hm52
  obtain ⟨b56, rfl⟩ := hm52.rowBlk (A := A54) (n := l.length) (c := c55) 4 rfl hpos
  refine ⟨_, rfl, ?_⟩
  refine qPut rfl (by decide) ?_
  refine litK (v := .tuple #[.slice (some ⟨b56, 0, none⟩) l.length c55, .int .i64 0]) rfl rfl (by kernel_rfl) rfl (by decide) ?_
  refine litK (v := .slice (some ⟨b56, 0, none⟩) l.length c55) rfl rfl (by kernel_rfl) rfl (by decide) ?_
  refine litK (v := .int .i64 0) rfl rfl (by kernel_rfl) rfl (by decide) ?_
  refine litK (v := .slice (some ⟨b56, 0, none⟩) l.length c55) rfl rfl (by kernel_rfl) rfl (by decide) ?_
  refine litK (v := .int .i64 0) rfl rfl (by kernel_rfl) rfl (by decide) ?_
  refine plDone (by decide) ?_
  refine then_normal (hK50 _ _ ?_)
  refine wpPrune [(3, .pointer (some ⟨g2, 0, none⟩)), (4, .pointer (some ⟨g5, 0, none⟩)), (5, .pointer (some ⟨g8, 0, none⟩)), (6, .bool false), (7, .bool true), (8, .slice (some ⟨b49, 0, none⟩) l.length c48), (9, .int .i64 0), (10, .slice (some ⟨b56, 0, none⟩) l.length c55), (11, .int .i64 0)] ⟨litGet (by kernel_rfl), ⟨litGet (by kernel_rfl), ⟨litGet (by kernel_rfl), ⟨litGet (by kernel_rfl), ⟨litGet (by kernel_rfl), ⟨litGet (by kernel_rfl), ⟨litGet (by kernel_rfl), ⟨litGet (by kernel_rfl), ⟨litGet (by kernel_rfl), trivial⟩⟩⟩⟩⟩⟩⟩⟩⟩ (fun X57 => ?_)
  refine wp_seq_k fun K58 hK58 => ?_
  refine mgStart hm52 (by kernel_rfl) ?_
  intro w60 hm59
  clear hm52
  refine mgK (i := 0) (v := .pointer (some ⟨g2, 2, none⟩)) rfl (by kernel_rfl) rfl (fun _ _ _ h => h) hm59 (fun _ => by kernel_rfl) rfl (by decide) ?_
  refine mgTake (i := 1) (v := .int .i64 a.z) rfl (by kernel_rfl) (wn rfl) (fun _ _ _ h => h) hm59 (fun w_ h_ => gLoad (v := .int .i64 a.z) (k := 2) 0 h_ rfl (by kernel_rfl) (.tmp 57) (by kernel_rfl) rfl (litEv (by kernel_rfl))) ?_
  refine mPut rfl (by decide) ?_
  refine mgK (i := 2) (v := .pointer (some ⟨g2, 1, none⟩)) rfl (by kernel_rfl) rfl (fun _ _ _ h => h) hm59 (fun _ => by kernel_rfl) rfl (by decide) ?_
  refine mgTake (i := 3) (v := .int .i64 a.y) rfl (by kernel_rfl) (wn rfl) (fun _ _ _ h => h) hm59 (fun w_ h_ => gLoad (v := .int .i64 a.y) (k := 1) 0 h_ rfl (by kernel_rfl) (.tmp 59) (by kernel_rfl) rfl (litEv (by kernel_rfl))) ?_
  refine mPut rfl (by decide) ?_
  refine mgK (i := 4) (v := .pointer (some ⟨g2, 0, none⟩)) rfl (by kernel_rfl) rfl (fun _ _ _ h => h) hm59 (fun _ => by kernel_rfl) rfl (by decide) ?_
  refine mgTake (i := 5) (v := .int .i64 a.x) rfl (by kernel_rfl) (wn rfl) (fun _ _ _ h => h) hm59 (fun w_ h_ => gLoad (v := .int .i64 a.x) (k := 0) 0 h_ rfl (by kernel_rfl) (.tmp 61) (by kernel_rfl) rfl (litEv (by kernel_rfl))) ?_
  refine mPut rfl (by decide) ?_
  refine mgK (i := 7) (v := .pointer (some ⟨g5, 2, none⟩)) rfl (by kernel_rfl) rfl (fun _ _ _ h => h) hm59 (fun _ => by kernel_rfl) rfl (by decide) ?_
  refine mgTake (i := 8) (v := .int .i64 b.z) rfl (by kernel_rfl) (wn rfl) (fun _ _ _ h => h) hm59 (fun w_ h_ => gLoad (v := .int .i64 b.z) (k := 2) 1 h_ rfl (by kernel_rfl) (.tmp 64) (by kernel_rfl) rfl (litEv (by kernel_rfl))) ?_
  refine mPut rfl (by decide) ?_
  refine mgK (i := 9) (v := .pointer (some ⟨g5, 1, none⟩)) rfl (by kernel_rfl) rfl (fun _ _ _ h => h) hm59 (fun _ => by kernel_rfl) rfl (by decide) ?_
  refine mgTake (i := 10) (v := .int .i64 b.y) rfl (by kernel_rfl) (wn rfl) (fun _ _ _ h => h) hm59 (fun w_ h_ => gLoad (v := .int .i64 b.y) (k := 1) 1 h_ rfl (by kernel_rfl) (.tmp 66) (by kernel_rfl) rfl (litEv (by kernel_rfl))) ?_
  refine mPut rfl (by decide) ?_
  refine mgK (i := 11) (v := .pointer (some ⟨g5, 0, none⟩)) rfl (by kernel_rfl) rfl (fun _ _ _ h => h) hm59 (fun _ => by kernel_rfl) rfl (by decide) ?_
  refine mgTake (i := 12) (v := .int .i64 b.x) rfl (by kernel_rfl) (wn rfl) (fun _ _ _ h => h) hm59 (fun w_ h_ => gLoad (v := .int .i64 b.x) (k := 0) 1 h_ rfl (by kernel_rfl) (.tmp 68) (by kernel_rfl) rfl (litEv (by kernel_rfl))) ?_
  refine mPut rfl (by decide) ?_
  refine mgCall (i := 6) 25 [.int .i64 a.z, .int .i64 a.y, .int .i64 a.x] [] [] (by kernel_rfl) rfl (by kernel_rfl) (wn rfl) rfl (litEv (by kernel_rfl)) (litArgs (by kernel_rfl)) (at_any a.z a.y a.x _) ?_
  rintro e w61 ⟨rfl, hbz⟩
  have hm62 := hm59.below hbz
  clear hbz hm59
  refine ⟨_, rfl, hm62, ?_⟩
  refine mPut rfl (by decide) ?_
  refine mgCall (i := 13) 25 [.int .i64 b.z, .int .i64 b.y, .int .i64 b.x] [] [] (by kernel_rfl) rfl (by kernel_rfl) (wn rfl) rfl (litEv (by kernel_rfl)) (litArgs (by kernel_rfl)) (at_any b.z b.y b.x _) ?_
  rintro e w63 ⟨rfl, hbz⟩
  have hm64 := hm62.below hbz
  clear hbz hm62
  refine ⟨_, rfl, hm64, ?_⟩
  refine mPut rfl (by decide) ?_
  refine mgCall (i := 14) 10 [.agg (pcs ⟨a.z, a.y, a.x⟩).toArray, .agg (pcs ⟨b.z, b.y, b.x⟩).toArray] [] [] (by kernel_rfl) rfl (by kernel_rfl) (wn rfl) rfl (litEv (by kernel_rfl)) (litArgs (by kernel_rfl)) (by have h := walk_any ⟨a.z, a.y, a.x⟩ ⟨b.z, b.y, b.x⟩ w63; rw [hWn, hck3, List.length_map] at h; exact h) ?_
  rintro e w65 ⟨v67, rfl, hown_, hbz⟩
  obtain ⟨A68, c69, rfl, hrd_⟩ := Rd.of_own hown_
  clear hrd_
  have hm66 := hm64.newRow hbz hown_
  clear hown_ hbz hm64
  try simp only [List.cons_append, List.nil_append, List.set_cons_succ, List.set_cons_zero] at hm66
  obtain ⟨b70, rfl⟩ := hm66.rowBlk (A := A68) (n := l.length) (c := c69) 5 rfl hpos
  refine ⟨_, rfl, (hm66.sub (.cons_cons _ (.cons_cons _ (.cons_cons _ (.cons_cons _ (.cons_cons _ (.cons _ .slnil))))))), ?_⟩
  refine mgMore (L' := [.arr g2 23 (pcs a), .arr g5 23 (pcs b), .arr g8 23 (pcs v), .row (.slice (some ⟨b49, 0, none⟩) l.length c48) 23 3 l.length (ptsC l), .row (.slice (some ⟨b56, 0, none⟩) l.length c55) 23 3 l.length (ptsC l.reverse), .row (.slice (some ⟨b70, 0, none⟩) l.length c69) 23 3 l.length (ptsC (l.map Pt.turn))]) (fun _ h_ => (h_.sub (.cons_cons _ (.cons_cons _ (.cons_cons _ (.cons_cons _ (.cons_cons _ (.cons _ .slnil)))))))) ?_
  refine mPut rfl (by decide) ?_
  refine mgK (i := 15) (v := .tuple #[.slice (some ⟨b70, 0, none⟩) l.length c69, .int .i64 0]) rfl (by kernel_rfl) rfl (fun _ _ _ h => h) hm66 (fun _ => by kernel_rfl) rfl (by decide) ?_
  refine mgK (i := 16) (v := .slice (some ⟨b70, 0, none⟩) l.length c69) rfl (by kernel_rfl) rfl (fun _ _ _ h => h) hm66 (fun _ => by kernel_rfl) rfl (by decide) ?_
  refine mgK (i := 17) (v := .int .i64 0) rfl (by kernel_rfl) rfl (fun _ _ _ h => h) hm66 (fun _ => by kernel_rfl) rfl (by decide) ?_
  refine mgK (i := 18) (v := .slice (some ⟨b70, 0, none⟩) l.length c69) rfl (by kernel_rfl) rfl (fun _ _ _ h => h) hm66 (fun _ => by kernel_rfl) rfl (by decide) ?_
  refine mgK (i := 19) (v := .int .i64 0) rfl (by kernel_rfl) rfl (fun _ _ _ h => h) hm66 (fun _ => by kernel_rfl) rfl (by decide) ?_
  refine mgDone (by kernel_rfl) ?_
  refine then_normal (hK58 _ _ ?_)
  refine wpPrune [(3, .pointer (some ⟨g2, 0, none⟩)), (4, .pointer (some ⟨g5, 0, none⟩)), (5, .pointer (some ⟨g8, 0, none⟩)), (6, .bool false), (7, .bool true), (8, .slice (some ⟨b49, 0, none⟩) l.length c48), (9, .int .i64 0), (10, .slice (some ⟨b56, 0, none⟩) l.length c55), (11, .int .i64 0), (12, .slice (some ⟨b70, 0, none⟩) l.length c69), (13, .int .i64 0)] ⟨litGet (by kernel_rfl), ⟨litGet (by kernel_rfl), ⟨litGet (by kernel_rfl), ⟨litGet (by kernel_rfl), ⟨litGet (by kernel_rfl), ⟨litGet (by kernel_rfl), ⟨litGet (by kernel_rfl), ⟨litGet (by kernel_rfl), ⟨litGet (by kernel_rfl), ⟨litGet (by kernel_rfl), ⟨litGet (by kernel_rfl), trivial⟩⟩⟩⟩⟩⟩⟩⟩⟩⟩⟩ (fun X71 => ?_)
  refine wp_seq_k fun K72 hK72 => ?_
  refine wp_seq_k fun K73 hK73 => ?_
  refine plStart ?_
  refine litK (v := .int .i64 0) rfl rfl (by kernel_rfl) rfl (by decide) ?_
  refine litK (v := .bool false) rfl rfl (by kernel_rfl) rfl (by decide) ?_
  refine litK (v := .bool false) rfl rfl (by kernel_rfl) rfl (by decide) ?_
  refine litVal (v := .int .i64 0) rfl (wgY rfl rfl rfl (by decide) (by kernel_rfl)) (litRun (by kernel_rfl)) rfl (by decide) ?_
  refine litVal (v := .bool false) rfl (wgY rfl rfl rfl (by decide) (by kernel_rfl)) (litRun (by kernel_rfl)) rfl (by decide) ?_
  refine litK (v := .bool false) rfl rfl (by kernel_rfl) rfl (by decide) ?_
  refine litK (v := .bool false) rfl rfl (by kernel_rfl) rfl (by decide) ?_
  refine litVal (v := .int .i64 0) rfl (wgY rfl rfl rfl (by decide) (by kernel_rfl)) (litRun (by kernel_rfl)) rfl (by decide) ?_
  refine litVal (v := .bool false) rfl (wgY rfl rfl rfl (by decide) (by kernel_rfl)) (litRun (by kernel_rfl)) rfl (by decide) ?_
  refine litK (v := .bool false) rfl rfl (by kernel_rfl) rfl (by decide) ?_
  refine litK (v := .bool false) rfl rfl (by kernel_rfl) rfl (by decide) ?_
  refine litVal (v := .slice (some ⟨b49, 0, none⟩) l.length c48) rfl (wgY rfl rfl rfl (by decide) (by kernel_rfl)) (litRun (by kernel_rfl)) rfl (by decide) ?_
  refine litVal (v := .int .i64 (l.length : Int)) rfl (wgY rfl rfl rfl (by decide) (by kernel_rfl)) (lenSlRun (A := some ⟨b49, 0, none⟩) (n := l.length) (c := c48) (.tmp 85) Ty.und_L_api_Point rfl (litEv (by kernel_rfl))) rfl (by decide) ?_
  refine litVal (v := .slice (some ⟨b56, 0, none⟩) l.length c55) rfl (wgY rfl rfl rfl (by decide) (by kernel_rfl)) (litRun (by kernel_rfl)) rfl (by decide) ?_
  refine litVal (v := .int .i64 (l.length : Int)) rfl (wgY rfl rfl rfl (by decide) (by kernel_rfl)) (lenSlRun (A := some ⟨b56, 0, none⟩) (n := l.length) (c := c55) (.tmp 87) Ty.und_L_api_Point rfl (litEv (by kernel_rfl))) rfl (by decide) ?_
  refine litVal (v := .bool false) rfl (wgY rfl rfl rfl (by decide) (by kernel_rfl)) (boolTo (by simp) (neqRun (A := (l.length : Int)) (B := (l.length : Int)) (.tmp 86) (.tmp 88) rfl (litEv (by kernel_rfl)) (litEv (by kernel_rfl)))) rfl (by decide) ?_
  refine litK (v := .bool false) rfl rfl (by kernel_rfl) rfl (by decide) ?_
  refine litK (v := .bool false) rfl rfl (by kernel_rfl) rfl (by decide) ?_
  refine litVal (v := .slice (some ⟨b49, 0, none⟩) l.length c48) rfl (wgY rfl rfl rfl (by decide) (by kernel_rfl)) (litRun (by kernel_rfl)) rfl (by decide) ?_
  refine litVal (v := .int .i64 (l.length : Int)) rfl (wgY rfl rfl rfl (by decide) (by kernel_rfl)) (lenSlRun (A := some ⟨b49, 0, none⟩) (n := l.length) (c := c48) (.tmp 92) Ty.und_L_api_Point rfl (litEv (by kernel_rfl))) rfl (by decide) ?_
  refine litVal (v := .slice (some ⟨b70, 0, none⟩) l.length c69) rfl (wgY rfl rfl rfl (by decide) (by kernel_rfl)) (litRun (by kernel_rfl)) rfl (by decide) ?_
  refine litVal (v := .int .i64 (l.length : Int)) rfl (wgY rfl rfl rfl (by decide) (by kernel_rfl)) (lenSlRun (A := some ⟨b70, 0, none⟩) (n := l.length) (c := c69) (.tmp 94) Ty.und_L_api_Point rfl (litEv (by kernel_rfl))) rfl (by decide) ?_
  refine litVal (v := .bool false) rfl (wgY rfl rfl rfl (by decide) (by kernel_rfl)) (boolTo (by simp) (neqRun (A := (l.length : Int)) (B := (l.length : Int)) (.tmp 93) (.tmp 95) rfl (litEv (by kernel_rfl)) (litEv (by kernel_rfl)))) rfl (by decide) ?_
  refine litK (v := .bool false) rfl rfl (by kernel_rfl) rfl (by decide) ?_
  refine plDone (by decide) ?_
  refine then_normal (hK73 _ _ ?_)
  refine wpPrune [(3, .pointer (some ⟨g2, 0, none⟩)), (4, .pointer (some ⟨g5, 0, none⟩)), (5, .pointer (some ⟨g8, 0, none⟩)), (6, .bool false), (7, .bool true), (8, .slice (some ⟨b49, 0, none⟩) l.length c48), (10, .slice (some ⟨b56, 0, none⟩) l.length c55), (12, .slice (some ⟨b70, 0, none⟩) l.length c69), (97, .bool false)] ⟨litGet (by kernel_rfl), ⟨litGet (by kernel_rfl), ⟨litGet (by kernel_rfl), ⟨litGet (by kernel_rfl), ⟨litGet (by kernel_rfl), ⟨litGet (by kernel_rfl), ⟨litGet (by kernel_rfl), ⟨litGet (by kernel_rfl), ⟨litGet (by kernel_rfl), trivial⟩⟩⟩⟩⟩⟩⟩⟩⟩ (fun X74 => ?_)
  refine wp_cond_false (litEv (by kernel_rfl)) ?_
  refine wp_skip ?_
  refine then_normal (hK72 _ _ ?_)
  refine wp_seq_k fun K75 hK75 => ?_
  refine wp_seq_k fun K76 hK76 => ?_
  refine plStart ?_
  refine litK (v := .int .i64 0) rfl rfl (by kernel_rfl) rfl (by decide) ?_
  refine plDone (by decide) ?_
  refine then_normal (hK76 _ _ ?_)
  refine wp_block ?_
  refine gwLoop (fun n_ a_ w_ => ∃ (i : Nat), n_ = l.length - i ∧ (i ≤ l.length) ∧ Fr a_ 188 [(3, .pointer (some ⟨g2, 0, none⟩)), (4, .pointer (some ⟨g5, 0, none⟩)), (5, .pointer (some ⟨g8, 0, none⟩)), (7, .bool true), (8, .slice (some ⟨b49, 0, none⟩) l.length c48), (10, .slice (some ⟨b56, 0, none⟩) l.length c55), (12, .slice (some ⟨b70, 0, none⟩) l.length c69), (14, .int .i64 (i : Int))] ∧ Mem w w_ [.arr g2 23 (pcs a), .arr g5 23 (pcs b), .arr g8 23 (pcs v), .row (.slice (some ⟨b49, 0, none⟩) l.length c48) 23 3 l.length (ptsC l), .row (.slice (some ⟨b56, 0, none⟩) l.length c55) 23 3 l.length (ptsC l.reverse), .row (.slice (some ⟨b70, 0, none⟩) l.length c69) 23 3 l.length (ptsC (l.map Pt.turn))]) (l.length - 0) ⟨0, rfl, (Nat.zero_le _), ⟨litSize, rfl, ⟨litGet (by kernel_rfl), ⟨litGet (by kernel_rfl), ⟨litGet (by kernel_rfl), ⟨litGet (by kernel_rfl), ⟨litGet (by kernel_rfl), ⟨litGet (by kernel_rfl), ⟨litGet (by kernel_rfl), ⟨litGet (by kernel_rfl), trivial⟩⟩⟩⟩⟩⟩⟩⟩⟩, (hm66.sub (.cons_cons _ (.cons_cons _ (.cons_cons _ (.cons_cons _ (.cons_cons _ (.cons_cons _ .slnil)))))))⟩ ?_
  clear hm66
  intro n_ a79 w77 hI_
  obtain ⟨i, rfl, hi_, hF_, hm78⟩ := hI_
  obtain ⟨X80, rfl⟩ := frLit hF_
  clear hF_
  refine wp_seq_k fun K81 hK81 => ?_
  refine wp_seq_k fun K82 hK82 => ?_
  refine plStart ?_
  refine litK (v := .int .i64 (i : Int)) rfl rfl (by kernel_rfl) rfl (by decide) ?_
  refine litK (v := .slice (some ⟨b49, 0, none⟩) l.length c48) rfl rfl (by kernel_rfl) rfl (by decide) ?_
  refine litVal (v := .int .i64 (l.length : Int)) rfl (wn rfl) (lenSlRun (A := some ⟨b49, 0, none⟩) (n := l.length) (c := c48) (.tmp 99) Ty.und_L_api_Point rfl (litEv (by kernel_rfl))) rfl (by decide) ?_
  by_cases h83 : (i : Int) < (l.length : Int)
  · have hil : i < l.length := by omega
    obtain ⟨q, hq⟩ : ∃ q, l[i]? = some q := ⟨_, List.getElem?_eq_getElem hil⟩
    have hmq := hmem q (List.mem_of_getElem? hq)
    have hqr := box_rng ha hb hmq.2
    have hq30 := rng_small hqr
    refine litVal (v := .bool true) rfl (wn rfl) (boolTo (decide_eq_true h83) (lssRun (A := (i : Int)) (B := (l.length : Int)) (.tmp 98) (.tmp 100) rfl (litEv (by kernel_rfl)) (litEv (by kernel_rfl)))) rfl (by decide) ?_
    refine plDone (by decide) ?_
    refine then_normal (hK82 _ _ ?_)
    refine wp_cond_true (litEv (by kernel_rfl)) ?_
    refine wp_skip ?_
    refine then_normal (hK81 _ _ ?_)
    refine wp_seq_k fun K84 hK84 => ?_
    refine wp_block ?_
    refine wp_seq_k fun K85 hK85 => ?_
    refine mgStart hm78 (by kernel_rfl) ?_
    intro w87 hm86
    clear hm78
    refine mgK (i := 0) (v := .slice (some ⟨b49, 0, none⟩) l.length c48) rfl (by kernel_rfl) rfl (fun _ _ _ h => h) hm86 (fun _ => by kernel_rfl) rfl (by decide) ?_
    refine mgK (i := 1) (v := .int .i64 (i : Int)) rfl (by kernel_rfl) rfl (fun _ _ _ h => h) hm86 (fun _ => by kernel_rfl) rfl (by decide) ?_
    refine mgTake (i := 2) (v := .pointer (some ⟨b49, 0 + i * 3, none⟩)) rfl (by kernel_rfl) (wn rfl) (fun _ _ _ h => h) hm86 (fun w_ h_ => gIaSl (b := b49) (off := 0) (n := l.length) (c := c48) (kk := .i64) (K := (i : Int)) (.tmp 104) (.tmp 105) i Ty.sl_L_api_Point rfl (litEv (by kernel_rfl)) (litEv (by kernel_rfl)) (rfl) (hil)) ?_
    refine mPut rfl (by decide) ?_
    refine mgTake (i := 3) (v := .agg (pcs q).toArray) rfl (by kernel_rfl) (wn rfl) (fun _ _ _ h => h) hm86 (fun w_ h_ => gLoadAgRd (vs := pcs q) (m := i * 3) (h_.rdRow 3 rfl) rfl (ptsC_get hq) (by kernel_rfl) (by omega) (.tmp 106) Ty.ag_voxel_api_Point rfl (litEv (by kernel_rfl))) ?_
    refine mPut rfl (by decide) ?_
    refine mgK (i := 4) (v := .slice (some ⟨b56, 0, none⟩) l.length c55) rfl (by kernel_rfl) rfl (fun _ _ _ h => h) hm86 (fun _ => by kernel_rfl) rfl (by decide) ?_
    refine mgK (i := 5) (v := .slice (some ⟨b49, 0, none⟩) l.length c48) rfl (by kernel_rfl) rfl (fun _ _ _ h => h) hm86 (fun _ => by kernel_rfl) rfl (by decide) ?_
    refine mgTake (i := 6) (v := .int .i64 (l.length : Int)) rfl (by kernel_rfl) (wn rfl) (fun _ _ _ h => h) hm86 (fun w_ h_ => lenSlRun (A := some ⟨b49, 0, none⟩) (n := l.length) (c := c48) (.tmp 109) Ty.und_L_api_Point rfl (litEv (by kernel_rfl))) ?_
    refine mPut rfl (by decide) ?_
    refine mgTake (i := 7) (v := .int .i64 ((l.length : Int) - 1)) rfl (by kernel_rfl) (wn rfl) (fun _ _ _ h => h) hm86 (fun w_ h_ => subRun (A := (l.length : Int)) (B := 1) (C := (l.length : Int) - 1) (.tmp 110) (.const (.int .i64 1)) rfl (litEv (by kernel_rfl)) (litEv (by kernel_rfl)) rfl (by omega)) ?_
    refine mPut rfl (by decide) ?_
    refine mgK (i := 8) (v := .int .i64 (i : Int)) rfl (by kernel_rfl) rfl (fun _ _ _ h => h) hm86 (fun _ => by kernel_rfl) rfl (by decide) ?_
    refine mgTake (i := 9) (v := .int .i64 (((l.length : Int) - 1) - (i : Int))) rfl (by kernel_rfl) (wn rfl) (fun _ _ _ h => h) hm86 (fun w_ h_ => subRun (A := ((l.length : Int) - 1)) (B := (i : Int)) (C := ((l.length : Int) - 1) - (i : Int)) (.tmp 111) (.tmp 112) rfl (litEv (by kernel_rfl)) (litEv (by kernel_rfl)) rfl (by omega)) ?_
    refine mPut rfl (by decide) ?_
    refine mgTake (i := 10) (v := .pointer (some ⟨b56, 0 + (l.length - 1 - i) * 3, none⟩)) rfl (by kernel_rfl) (wn rfl) (fun _ _ _ h => h) hm86 (fun w_ h_ => gIaSl (b := b56) (off := 0) (n := l.length) (c := c55) (kk := .i64) (K := (((l.length : Int) - 1) - (i : Int))) (.tmp 108) (.tmp 113) (l.length - 1 - i) Ty.sl_L_api_Point rfl (litEv (by kernel_rfl)) (litEv (by kernel_rfl)) ((by omega)) ((by omega))) ?_
    refine mPut rfl (by decide) ?_
    refine mgTake (i := 11) (v := .agg (pcs q).toArray) rfl (by kernel_rfl) (wn rfl) (fun _ _ _ h => h) hm86 (fun w_ h_ => gLoadAgRd (vs := pcs q) (m := (l.length - 1 - i) * 3) (h_.rdRow 4 rfl) rfl (ptsC_get (rev_get hq)) (by kernel_rfl) (by omega) (.tmp 114) Ty.ag_voxel_api_Point rfl (litEv (by kernel_rfl))) ?_
    refine mPut rfl (by decide) ?_
    refine mgTake (i := 12) (v := .bool false) rfl (by kernel_rfl) (wn rfl) (fun _ _ _ h => h) hm86 (fun w_ h_ => boolTo (by rw [decide_eq_true rfl]; rfl) (neqPtRun (.tmp 107) (.tmp 115) q q (by kernel_rfl) (by kernel_rfl) (by kernel_rfl) (by kernel_rfl) rfl (litEv (by kernel_rfl)) (litEv (by kernel_rfl)))) ?_
    refine mPut rfl (by decide) ?_
    refine mgK (i := 13) (v := .bool false) rfl (by kernel_rfl) rfl (fun _ _ _ h => h) hm86 (fun _ => by kernel_rfl) rfl (by decide) ?_
    refine mgTake (i := 14) (v := .slice (some ⟨b70, 0, none⟩) l.length c69) rfl (by kernel_rfl) (wgY rfl rfl rfl (by decide) (by kernel_rfl)) (fun _ _ _ h => h) hm86 (fun w_ h_ => litRun (by kernel_rfl)) ?_
    refine mPut rfl (by decide) ?_
    refine mgTake (i := 15) (v := .int .i64 (i : Int)) rfl (by kernel_rfl) (wgY rfl rfl rfl (by decide) (by kernel_rfl)) (fun _ _ _ h => h) hm86 (fun w_ h_ => litRun (by kernel_rfl)) ?_
    refine mPut rfl (by decide) ?_
    refine mgTake (i := 16) (v := .pointer (some ⟨b70, 0 + i * 3, none⟩)) rfl (by kernel_rfl) (wgY rfl rfl rfl (by decide) (by kernel_rfl)) (fun _ _ _ h => h) hm86 (fun w_ h_ => gIaSl (b := b70) (off := 0) (n := l.length) (c := c69) (kk := .i64) (K := (i : Int)) (.tmp 118) (.tmp 119) i Ty.sl_L_api_Point rfl (litEv (by kernel_rfl)) (litEv (by kernel_rfl)) (rfl) (hil)) ?_
    refine mPut rfl (by decide) ?_
    refine mgTake (i := 17) (v := .agg (pcs ⟨q.z, q.y, q.x⟩).toArray) rfl (by kernel_rfl) (wgY rfl rfl rfl (by decide) (by kernel_rfl)) (fun _ _ _ h => h) hm86 (fun w_ h_ => gLoadAgRd (vs := pcs ⟨q.z, q.y, q.x⟩) (m := i * 3) (h_.rdRow 5 rfl) rfl (ptsC_get (map_get Pt.turn hq)) (by kernel_rfl) (by omega) (.tmp 120) Ty.ag_voxel_api_Point rfl (litEv (by kernel_rfl))) ?_
    refine mPut rfl (by decide) ?_
    refine mgTake (i := 18) (v := .slice (some ⟨b49, 0, none⟩) l.length c48) rfl (by kernel_rfl) (wgY rfl rfl rfl (by decide) (by kernel_rfl)) (fun _ _ _ h => h) hm86 (fun w_ h_ => litRun (by kernel_rfl)) ?_
    refine mPut rfl (by decide) ?_
    refine mgTake (i := 19) (v := .int .i64 (i : Int)) rfl (by kernel_rfl) (wgY rfl rfl rfl (by decide) (by kernel_rfl)) (fun _ _ _ h => h) hm86 (fun w_ h_ => litRun (by kernel_rfl)) ?_
    refine mPut rfl (by decide) ?_
    refine mgTake (i := 20) (v := .pointer (some ⟨b49, 0 + i * 3, none⟩)) rfl (by kernel_rfl) (wgY rfl rfl rfl (by decide) (by kernel_rfl)) (fun _ _ _ h => h) hm86 (fun w_ h_ => gIaSl (b := b49) (off := 0) (n := l.length) (c := c48) (kk := .i64) (K := (i : Int)) (.tmp 122) (.tmp 123) i Ty.sl_L_api_Point rfl (litEv (by kernel_rfl)) (litEv (by kernel_rfl)) (rfl) (hil)) ?_
    refine mPut rfl (by decide) ?_
    refine mgTake (i := 21) (v := .pointer (some ⟨b49, 0 + i * 3 + 2, none⟩)) rfl (by kernel_rfl) (wgY rfl rfl rfl (by decide) (by kernel_rfl)) (fun _ _ _ h => h) hm86 (fun w_ h_ => litRun (by kernel_rfl)) ?_
    refine mPut rfl (by decide) ?_
    refine mgTake (i := 22) (v := .int .i64 q.z) rfl (by kernel_rfl) (wgY rfl rfl rfl (by decide) (by kernel_rfl)) (fun _ _ _ h => h) hm86 (fun w_ h_ => gLoadRd (v := .int .i64 q.z) (m := i * 3 + 2) (h_.rdRow 3 rfl) rfl (ptsC_get hq 2 _ rfl) (by omega) (.tmp 125) (by kernel_rfl) rfl (litEv (by kernel_rfl))) ?_
    refine mPut rfl (by decide) ?_
    refine mgTake (i := 23) (v := .slice (some ⟨b49, 0, none⟩) l.length c48) rfl (by kernel_rfl) (wgY rfl rfl rfl (by decide) (by kernel_rfl)) (fun _ _ _ h => h) hm86 (fun w_ h_ => litRun (by kernel_rfl)) ?_
    refine mPut rfl (by decide) ?_
    refine mgTake (i := 24) (v := .int .i64 (i : Int)) rfl (by kernel_rfl) (wgY rfl rfl rfl (by decide) (by kernel_rfl)) (fun _ _ _ h => h) hm86 (fun w_ h_ => litRun (by kernel_rfl)) ?_
    refine mPut rfl (by decide) ?_
    refine mgTake (i := 25) (v := .pointer (some ⟨b49, 0 + i * 3, none⟩)) rfl (by kernel_rfl) (wgY rfl rfl rfl (by decide) (by kernel_rfl)) (fun _ _ _ h => h) hm86 (fun w_ h_ => gIaSl (b := b49) (off := 0) (n := l.length) (c := c48) (kk := .i64) (K := (i : Int)) (.tmp 127) (.tmp 128) i Ty.sl_L_api_Point rfl (litEv (by kernel_rfl)) (litEv (by kernel_rfl)) (rfl) (hil)) ?_
    refine mPut rfl (by decide) ?_
    refine mgTake (i := 26) (v := .pointer (some ⟨b49, 0 + i * 3 + 1, none⟩)) rfl (by kernel_rfl) (wgY rfl rfl rfl (by decide) (by kernel_rfl)) (fun _ _ _ h => h) hm86 (fun w_ h_ => litRun (by kernel_rfl)) ?_
    refine mPut rfl (by decide) ?_
    refine mgTake (i := 27) (v := .int .i64 q.y) rfl (by kernel_rfl) (wgY rfl rfl rfl (by decide) (by kernel_rfl)) (fun _ _ _ h => h) hm86 (fun w_ h_ => gLoadRd (v := .int .i64 q.y) (m := i * 3 + 1) (h_.rdRow 3 rfl) rfl (ptsC_get hq 1 _ rfl) (by omega) (.tmp 130) (by kernel_rfl) rfl (litEv (by kernel_rfl))) ?_
    refine mPut rfl (by decide) ?_
    refine mgTake (i := 28) (v := .slice (some ⟨b49, 0, none⟩) l.length c48) rfl (by kernel_rfl) (wgY rfl rfl rfl (by decide) (by kernel_rfl)) (fun _ _ _ h => h) hm86 (fun w_ h_ => litRun (by kernel_rfl)) ?_
    refine mPut rfl (by decide) ?_
    refine mgTake (i := 29) (v := .int .i64 (i : Int)) rfl (by kernel_rfl) (wgY rfl rfl rfl (by decide) (by kernel_rfl)) (fun _ _ _ h => h) hm86 (fun w_ h_ => litRun (by kernel_rfl)) ?_
    refine mPut rfl (by decide) ?_
    refine mgTake (i := 30) (v := .pointer (some ⟨b49, 0 + i * 3, none⟩)) rfl (by kernel_rfl) (wgY rfl rfl rfl (by decide) (by kernel_rfl)) (fun _ _ _ h => h) hm86 (fun w_ h_ => gIaSl (b := b49) (off := 0) (n := l.length) (c := c48) (kk := .i64) (K := (i : Int)) (.tmp 132) (.tmp 133) i Ty.sl_L_api_Point rfl (litEv (by kernel_rfl)) (litEv (by kernel_rfl)) (rfl) (hil)) ?_
    refine mPut rfl (by decide) ?_
    refine mgTake (i := 31) (v := .pointer (some ⟨b49, 0 + i * 3, none⟩)) rfl (by kernel_rfl) (wgY rfl rfl rfl (by decide) (by kernel_rfl)) (fun _ _ _ h => h) hm86 (fun w_ h_ => litRun (by kernel_rfl)) ?_
    refine mPut rfl (by decide) ?_
    refine mgTake (i := 32) (v := .int .i64 q.x) rfl (by kernel_rfl) (wgY rfl rfl rfl (by decide) (by kernel_rfl)) (fun _ _ _ h => h) hm86 (fun w_ h_ => gLoadRd (v := .int .i64 q.x) (m := i * 3) (h_.rdRow 3 rfl) rfl (ptsC_get hq 0 _ rfl) (by omega) (.tmp 135) (by kernel_rfl) rfl (litEv (by kernel_rfl))) ?_
    refine mPut rfl (by decide) ?_
    refine mgCall (i := 33) 25 [.int .i64 q.z, .int .i64 q.y, .int .i64 q.x] [] [] (by kernel_rfl) rfl (by kernel_rfl) (wgY rfl rfl rfl (by decide) (by kernel_rfl)) rfl (litEv (by kernel_rfl)) (litArgs (by kernel_rfl)) (at_any q.z q.y q.x _) ?_
    rintro e w88 ⟨rfl, hbz⟩
    have hm89 := hm86.below hbz
    clear hbz hm86
    refine ⟨_, rfl, hm89, ?_⟩
    refine mPut rfl (by decide) ?_
    refine mgTake (i := 34) (v := .bool false) rfl (by kernel_rfl) (wgY rfl rfl rfl (by decide) (by kernel_rfl)) (fun _ _ _ h => h) hm89 (fun w_ h_ => boolTo (by rw [decide_eq_true rfl]; rfl) (neqPtRun (.tmp 121) (.tmp 137) (⟨q.z, q.y, q.x⟩) (⟨q.z, q.y, q.x⟩) (by kernel_rfl) (by kernel_rfl) (by kernel_rfl) (by kernel_rfl) rfl (litEv (by kernel_rfl)) (litEv (by kernel_rfl)))) ?_
    refine mPut rfl (by decide) ?_
    refine mgK (i := 35) (v := .bool false) rfl (by kernel_rfl) rfl (fun _ _ _ h => h) hm89 (fun _ => by kernel_rfl) rfl (by decide) ?_
    refine mgDone (by kernel_rfl) ?_
    refine then_normal (hK85 _ _ ?_)
    refine wp_cond_false (litEv (by kernel_rfl)) ?_
    refine wp_skip ?_
    refine inBlock_normal ?_
    refine then_normal (hK84 _ _ ?_)
    refine plStart ?_
    refine litK (v := .int .i64 (i : Int)) rfl rfl (by kernel_rfl) rfl (by decide) ?_
    refine litVal (v := .int .i64 ((i : Int) + 1)) rfl (wn rfl) (addRun (A := (i : Int)) (B := 1) (C := (i : Int) + 1) (.tmp 102) (.const (.int .i64 1)) rfl (litEv (by kernel_rfl)) (litEv (by kernel_rfl)) rfl (by omega)) rfl (by decide) ?_
    refine litK (v := .int .i64 ((i : Int) + 1)) rfl rfl (by kernel_rfl) rfl (by decide) ?_
    refine plDone (by decide) ?_
    refine then_normal ?_
    exact ⟨_, by omega, (i + 1), rfl, (by omega), ⟨litSize, rfl, ⟨litGet (by kernel_rfl), ⟨litGet (by kernel_rfl), ⟨litGet (by kernel_rfl), ⟨litGet (by kernel_rfl), ⟨litGet (by kernel_rfl), ⟨litGet (by kernel_rfl), ⟨litGet (by kernel_rfl), ⟨litGet (by kernel_rfl), trivial⟩⟩⟩⟩⟩⟩⟩⟩⟩, (hm89.sub (.cons_cons _ (.cons_cons _ (.cons_cons _ (.cons_cons _ (.cons_cons _ (.cons_cons _ .slnil)))))))⟩
  refine litVal (v := .bool false) rfl (wn rfl) (boolTo (decide_eq_false h83) (lssRun (A := (i : Int)) (B := (l.length : Int)) (.tmp 98) (.tmp 100) rfl (litEv (by kernel_rfl)) (litEv (by kernel_rfl)))) rfl (by decide) ?_
  refine plDone (by decide) ?_
  refine then_normal (hK82 _ _ ?_)
  refine wp_cond_false (litEv (by kernel_rfl)) ?_
  refine wp_exit ?_
  refine then_exit ?_
  refine then_exit ?_
  refine inBlock_exit ?_
  refine then_normal (hK75 _ _ ?_)
  refine wp_seq_k fun K90 hK90 => ?_
  refine plStart ?_
  refine litVal (v := .agg (pcs a).toArray) rfl (wn rfl) (gLoadAg (vs := pcs a) (k := 0) 0 hm78 rfl (by kernel_rfl) (by kernel_rfl) (.tmp 3) Ty.ag_voxel_api_Point rfl (litEv (by kernel_rfl))) rfl (by decide) ?_
  refine litVal (v := .agg (pcs v).toArray) rfl (wn rfl) (gLoadAg (vs := pcs v) (k := 0) 2 hm78 rfl (by kernel_rfl) (by kernel_rfl) (.tmp 5) Ty.ag_voxel_api_Point rfl (litEv (by kernel_rfl))) rfl (by decide) ?_
  refine plCall (i := 2) 28 [.agg (pcs a).toArray, .agg (pcs v).toArray] [] [] rfl (by kernel_rfl) (wn rfl) rfl (litEv (by kernel_rfl)) (litArgs (by kernel_rfl)) (add_any a v (rng_small ha) (box_small (of_decide_eq_true h39)) _) ?_
  rintro e w91 ⟨rfl, hbz⟩
  have hm92 := hm78.below hbz
  clear hbz hm78
  refine ⟨_, rfl, ?_⟩
  refine qPut rfl (by decide) ?_
  refine plAlloc (z := [.int .i64 0, .int .i64 0, .int .i64 0]) Ty.ag_voxel_api_Point hm92 (i := 3) rfl (wn rfl) rfl ?_
  intro g93 w95 hm94
  clear hm92
  try simp only [List.cons_append, List.nil_append, List.set_cons_succ, List.set_cons_zero] at hm94
  refine qPut rfl (by decide) ?_
  refine plStore 6 Ty.ag_voxel_api_Point hm94 rfl (i := 4) (cs := pcs (a.add v)) rfl (wn rfl) rfl (litEv (by kernel_rfl)) (litEv (by kernel_rfl)) rfl rfl (by kernel_rfl) ?_
  intro w97 hm96
  clear hm94
  try simp only [List.cons_append, List.nil_append, List.set_cons_succ, List.set_cons_zero] at hm96
  refine qNone rfl ?_
  refine plDone (by decide) ?_
  refine then_normal (hK90 _ _ ?_)
  refine wp_seq_k fun K98 hK98 => ?_
  refine plStart ?_
  refine litVal (v := .agg (pcs b).toArray) rfl (wn rfl) (gLoadAg (vs := pcs b) (k := 0) 1 hm96 rfl (by kernel_rfl) (by kernel_rfl) (.tmp 4) Ty.ag_voxel_api_Point rfl (litEv (by kernel_rfl))) rfl (by decide) ?_
  refine litVal (v := .agg (pcs v).toArray) rfl (wn rfl) (gLoadAg (vs := pcs v) (k := 0) 2 hm96 rfl (by kernel_rfl) (by kernel_rfl) (.tmp 5) Ty.ag_voxel_api_Point rfl (litEv (by kernel_rfl))) rfl (by decide) ?_
  refine plCall (i := 2) 28 [.agg (pcs b).toArray, .agg (pcs v).toArray] [] [] rfl (by kernel_rfl) (wn rfl) rfl (litEv (by kernel_rfl)) (litArgs (by kernel_rfl)) (add_any b v (rng_small hb) (box_small (of_decide_eq_true h39)) _) ?_
  rintro e w99 ⟨rfl, hbz⟩
  have hm100 := hm96.below hbz
  clear hbz hm96
  refine ⟨_, rfl, ?_⟩
  refine qPut rfl (by decide) ?_
  refine plAlloc (z := [.int .i64 0, .int .i64 0, .int .i64 0]) Ty.ag_voxel_api_Point hm100 (i := 3) rfl (wn rfl) rfl ?_
  intro g101 w103 hm102
  clear hm100
  try simp only [List.cons_append, List.nil_append, List.set_cons_succ, List.set_cons_zero] at hm102
  refine qPut rfl (by decide) ?_
  refine plStore 7 Ty.ag_voxel_api_Point hm102 rfl (i := 4) (cs := pcs (b.add v)) rfl (wn rfl) rfl (litEv (by kernel_rfl)) (litEv (by kernel_rfl)) rfl rfl (by kernel_rfl) ?_
  intro w105 hm104
  clear hm102
  try simp only [List.cons_append, List.nil_append, List.set_cons_succ, List.set_cons_zero] at hm104
  refine qNone rfl ?_
  refine plDone (by decide) ?_
  refine then_normal (hK98 _ _ ?_)
  refine wpPrune [(5, .pointer (some ⟨g8, 0, none⟩)), (7, .bool true), (8, .slice (some ⟨b49, 0, none⟩) l.length c48), (15, .pointer (some ⟨g93, 0, none⟩)), (16, .pointer (some ⟨g101, 0, none⟩))] ⟨litGet (by kernel_rfl), ⟨litGet (by kernel_rfl), ⟨litGet (by kernel_rfl), ⟨litGet (by kernel_rfl), ⟨litGet (by kernel_rfl), trivial⟩⟩⟩⟩⟩ (fun X106 => ?_)
  refine wp_seq_k fun K107 hK107 => ?_
  refine wp_seq_k fun K108 hK108 => ?_
  refine plStart ?_
  refine litVal (v := .agg (pcs (a.add v)).toArray) rfl (wn rfl) (gLoadAg (vs := pcs (a.add v)) (k := 0) 6 hm104 rfl (by kernel_rfl) (by kernel_rfl) (.tmp 15) Ty.ag_voxel_api_Point rfl (litEv (by kernel_rfl))) rfl (by decide) ?_
  refine plCall (i := 1) 20 [.agg (pcs (a.add v)).toArray] [] [] rfl (by kernel_rfl) (wn rfl) rfl (litEv (by kernel_rfl)) (litArgs (by kernel_rfl)) (inRange1_any (a.add v) _) ?_
  rintro e w109 ⟨rfl, hbz⟩
  have hm110 := hm104.below hbz
  clear hbz hm104
  refine ⟨_, rfl, ?_⟩
  refine qPut rfl (by decide) ?_
  rcases bool_or (decide (a.add v).rng) with h111 | h111
  · rw [h111]
    refine litK (v := .bool true) rfl rfl (by kernel_rfl) rfl (by decide) ?_
    refine litK (v := .bool true) rfl rfl (by kernel_rfl) rfl (by decide) ?_
    refine plSkip (i := 4) rfl (wgN rfl rfl rfl (by decide) (by kernel_rfl)) ?_
    refine qPut rfl (by decide) ?_
    refine plSkip (i := 5) rfl (wgN rfl rfl rfl (by decide) (by kernel_rfl)) ?_
    refine qPut rfl (by decide) ?_
    refine plSkip (i := 6) rfl (wgN rfl rfl rfl (by decide) (by kernel_rfl)) ?_
    refine qPut rfl (by decide) ?_
    refine litK (v := .bool true) rfl rfl (by kernel_rfl) rfl (by decide) ?_
    refine plDone (by decide) ?_
    refine then_normal (hK108 _ _ ?_)
    refine wp_cond_true (litEv (by kernel_rfl)) ?_
    refine wp_seq_k fun K112 hK112 => ?_
    refine plStart ?_
    refine litK (v := .bool true) rfl rfl (by kernel_rfl) rfl (by decide) ?_
    refine litK (v := .bool true) rfl rfl (by kernel_rfl) rfl (by decide) ?_
    refine plDone (by decide) ?_
    refine then_normal (hK112 _ _ ?_)
    refine wp_ret ?_
    refine then_ret ?_
    refine bodyPost_ret (v := .bool true) (gRes1 rfl (gResTmp (t := 6) (v := .bool true) (litGet (by kernel_rfl)))) rfl ?_
    exact ⟨rfl, hm110.bel⟩
  rw [h111]
  refine litK (v := .bool false) rfl rfl (by kernel_rfl) rfl (by decide) ?_
  refine litK (v := .bool false) rfl rfl (by kernel_rfl) rfl (by decide) ?_
  refine litVal (v := .agg (pcs (b.add v)).toArray) rfl (wgY rfl rfl rfl (by decide) (by kernel_rfl)) (gLoadAg (vs := pcs (b.add v)) (k := 0) 7 hm110 rfl (by kernel_rfl) (by kernel_rfl) (.tmp 16) Ty.ag_voxel_api_Point rfl (litEv (by kernel_rfl))) rfl (by decide) ?_
  refine plCall (i := 5) 20 [.agg (pcs (b.add v)).toArray] [] [] rfl (by kernel_rfl) (wgY rfl rfl rfl (by decide) (by kernel_rfl)) rfl (litEv (by kernel_rfl)) (litArgs (by kernel_rfl)) (inRange1_any (b.add v) _) ?_
  rintro e w113 ⟨rfl, hbz⟩
  have hm114 := hm110.below hbz
  clear hbz hm110
  refine ⟨_, rfl, ?_⟩
  refine qPut rfl (by decide) ?_
  rcases bool_or (decide (b.add v).rng) with h115 | h115
  · rw [h115]
    refine litVal (v := .bool true) rfl (wgY rfl rfl rfl (by decide) (by kernel_rfl)) (litRun (by kernel_rfl)) rfl (by decide) ?_
    refine litK (v := .bool true) rfl rfl (by kernel_rfl) rfl (by decide) ?_
    refine plDone (by decide) ?_
    refine then_normal (hK108 _ _ ?_)
    refine wp_cond_true (litEv (by kernel_rfl)) ?_
    refine wp_seq_k fun K116 hK116 => ?_
    refine plStart ?_
    refine litK (v := .bool true) rfl rfl (by kernel_rfl) rfl (by decide) ?_
    refine litK (v := .bool true) rfl rfl (by kernel_rfl) rfl (by decide) ?_
    refine plDone (by decide) ?_
    refine then_normal (hK116 _ _ ?_)
    refine wp_ret ?_
    refine then_ret ?_
    refine bodyPost_ret (v := .bool true) (gRes1 rfl (gResTmp (t := 6) (v := .bool true) (litGet (by kernel_rfl)))) rfl ?_
    exact ⟨rfl, hm114.bel⟩
  rw [h115]
  refine litVal (v := .bool false) rfl (wgY rfl rfl rfl (by decide) (by kernel_rfl)) (litRun (by kernel_rfl)) rfl (by decide) ?_
  refine litK (v := .bool false) rfl rfl (by kernel_rfl) rfl (by decide) ?_
  refine plDone (by decide) ?_
  refine then_normal (hK108 _ _ ?_)
  refine wp_cond_false (litEv (by kernel_rfl)) ?_
  refine wp_skip ?_
  refine then_normal (hK107 _ _ ?_)
  refine wp_seq_k fun K117 hK117 => ?_
  refine plStart ?_
  refine litVal (v := .agg (pcs (a.add v)).toArray) rfl (wn rfl) (gLoadAg (vs := pcs (a.add v)) (k := 0) 6 hm114 rfl (by kernel_rfl) (by kernel_rfl) (.tmp 15) Ty.ag_voxel_api_Point rfl (litEv (by kernel_rfl))) rfl (by decide) ?_
  refine litVal (v := .agg (pcs (b.add v)).toArray) rfl (wn rfl) (gLoadAg (vs := pcs (b.add v)) (k := 0) 7 hm114 rfl (by kernel_rfl) (by kernel_rfl) (.tmp 16) Ty.ag_voxel_api_Point rfl (litEv (by kernel_rfl))) rfl (by decide) ?_
  refine plCall (i := 2) 10 [.agg (pcs (a.add v)).toArray, .agg (pcs (b.add v)).toArray] [] [] rfl (by kernel_rfl) (wn rfl) rfl (litEv (by kernel_rfl)) (litArgs (by kernel_rfl)) (by have h := walk_any (a.add v) (b.add v) w113; rw [hWo (of_decide_eq_true h111) (of_decide_eq_true h115), hck4 (of_decide_eq_true h111) (of_decide_eq_true h115), List.length_map] at h; exact h) ?_
  rintro e w118 ⟨v120, rfl, hown_, hbz⟩
  obtain ⟨A121, c122, rfl, hrd_⟩ := Rd.of_own hown_
  clear hrd_
  have hm119 := hm114.newRow hbz hown_
  clear hown_ hbz hm114
  try simp only [List.cons_append, List.nil_append, List.set_cons_succ, List.set_cons_zero] at hm119
  obtain ⟨b123, rfl⟩ := hm119.rowBlk (A := A121) (n := l.length) (c := c122) 8 rfl hpos
  refine ⟨_, rfl, ?_⟩
  refine qPut rfl (by decide) ?_
  refine litK (v := .tuple #[.slice (some ⟨b123, 0, none⟩) l.length c122, .int .i64 0]) rfl rfl (by kernel_rfl) rfl (by decide) ?_
  refine litK (v := .slice (some ⟨b123, 0, none⟩) l.length c122) rfl rfl (by kernel_rfl) rfl (by decide) ?_
  refine litK (v := .int .i64 0) rfl rfl (by kernel_rfl) rfl (by decide) ?_
  refine litK (v := .slice (some ⟨b123, 0, none⟩) l.length c122) rfl rfl (by kernel_rfl) rfl (by decide) ?_
  refine litK (v := .int .i64 0) rfl rfl (by kernel_rfl) rfl (by decide) ?_
  refine plDone (by decide) ?_
  refine then_normal (hK117 _ _ ?_)
  refine wpPrune [(5, .pointer (some ⟨g8, 0, none⟩)), (7, .bool true), (8, .slice (some ⟨b49, 0, none⟩) l.length c48), (17, .slice (some ⟨b123, 0, none⟩) l.length c122), (18, .int .i64 0)] ⟨litGet (by kernel_rfl), ⟨litGet (by kernel_rfl), ⟨litGet (by kernel_rfl), ⟨litGet (by kernel_rfl), ⟨litGet (by kernel_rfl), trivial⟩⟩⟩⟩⟩ (fun X124 => ?_)
  refine wp_seq_k fun K125 hK125 => ?_
  refine wp_seq_k fun K126 hK126 => ?_
  refine plStart ?_
  refine litK (v := .int .i64 0) rfl rfl (by kernel_rfl) rfl (by decide) ?_
  refine litK (v := .bool false) rfl rfl (by kernel_rfl) rfl (by decide) ?_
  refine litK (v := .bool false) rfl rfl (by kernel_rfl) rfl (by decide) ?_
  refine litVal (v := .slice (some ⟨b123, 0, none⟩) l.length c122) rfl (wgY rfl rfl rfl (by decide) (by kernel_rfl)) (litRun (by kernel_rfl)) rfl (by decide) ?_
  refine litVal (v := .int .i64 (l.length : Int)) rfl (wgY rfl rfl rfl (by decide) (by kernel_rfl)) (lenSlRun (A := some ⟨b123, 0, none⟩) (n := l.length) (c := c122) (.tmp 164) Ty.und_L_api_Point rfl (litEv (by kernel_rfl))) rfl (by decide) ?_
  refine litVal (v := .slice (some ⟨b49, 0, none⟩) l.length c48) rfl (wgY rfl rfl rfl (by decide) (by kernel_rfl)) (litRun (by kernel_rfl)) rfl (by decide) ?_
  refine litVal (v := .int .i64 (l.length : Int)) rfl (wgY rfl rfl rfl (by decide) (by kernel_rfl)) (lenSlRun (A := some ⟨b49, 0, none⟩) (n := l.length) (c := c48) (.tmp 166) Ty.und_L_api_Point rfl (litEv (by kernel_rfl))) rfl (by decide) ?_
  refine litVal (v := .bool false) rfl (wgY rfl rfl rfl (by decide) (by kernel_rfl)) (boolTo (by simp) (neqRun (A := (l.length : Int)) (B := (l.length : Int)) (.tmp 165) (.tmp 167) rfl (litEv (by kernel_rfl)) (litEv (by kernel_rfl)))) rfl (by decide) ?_
  refine litK (v := .bool false) rfl rfl (by kernel_rfl) rfl (by decide) ?_
  refine plDone (by decide) ?_
  refine then_normal (hK126 _ _ ?_)
  refine wp_cond_false (litEv (by kernel_rfl)) ?_
  refine wp_skip ?_
  refine then_normal (hK125 _ _ ?_)
  refine wp_seq_k fun K127 hK127 => ?_
  refine wp_seq_k fun K128 hK128 => ?_
  refine plStart ?_
  refine litK (v := .int .i64 0) rfl rfl (by kernel_rfl) rfl (by decide) ?_
  refine plDone (by decide) ?_
  refine then_normal (hK128 _ _ ?_)
  refine wp_block ?_
  refine gwLoop (fun n_ a_ w_ => ∃ (j : Nat), n_ = l.length - j ∧ (j ≤ l.length) ∧ Fr a_ 188 [(5, .pointer (some ⟨g8, 0, none⟩)), (7, .bool true), (8, .slice (some ⟨b49, 0, none⟩) l.length c48), (17, .slice (some ⟨b123, 0, none⟩) l.length c122), (19, .int .i64 (j : Int))] ∧ Mem w w_ [.arr g8 23 (pcs v), .row (.slice (some ⟨b49, 0, none⟩) l.length c48) 23 3 l.length (ptsC l), .row (.slice (some ⟨b123, 0, none⟩) l.length c122) 23 3 l.length (ptsC (l.map (·.add v)))]) (l.length - 0) ⟨0, rfl, (Nat.zero_le _), ⟨litSize, rfl, ⟨litGet (by kernel_rfl), ⟨litGet (by kernel_rfl), ⟨litGet (by kernel_rfl), ⟨litGet (by kernel_rfl), ⟨litGet (by kernel_rfl), trivial⟩⟩⟩⟩⟩⟩, (hm119.sub (.cons _ (.cons _ (.cons_cons _ (.cons_cons _ (.cons _ (.cons _ (.cons _ (.cons _ (.cons_cons _ .slnil))))))))))⟩ ?_
  clear hm119
  intro n_ a131 w129 hI_
  obtain ⟨j, rfl, hj_, hF_, hm130⟩ := hI_
  obtain ⟨X132, rfl⟩ := frLit hF_
  clear hF_
  refine wp_seq_k fun K133 hK133 => ?_
  refine wp_seq_k fun K134 hK134 => ?_
  refine plStart ?_
  refine litK (v := .int .i64 (j : Int)) rfl rfl (by kernel_rfl) rfl (by decide) ?_
  refine litK (v := .slice (some ⟨b49, 0, none⟩) l.length c48) rfl rfl (by kernel_rfl) rfl (by decide) ?_
  refine litVal (v := .int .i64 (l.length : Int)) rfl (wn rfl) (lenSlRun (A := some ⟨b49, 0, none⟩) (n := l.length) (c := c48) (.tmp 171) Ty.und_L_api_Point rfl (litEv (by kernel_rfl))) rfl (by decide) ?_
  by_cases h135 : (j : Int) < (l.length : Int)
  · have hjl : j < l.length := by omega
    obtain ⟨q, hq⟩ : ∃ q, l[j]? = some q := ⟨_, List.getElem?_eq_getElem hjl⟩
    have hmq := hmem q (List.mem_of_getElem? hq)
    have hqr := box_rng ha hb hmq.2
    have hq30 := rng_small hqr
    refine litVal (v := .bool true) rfl (wn rfl) (boolTo (decide_eq_true h135) (lssRun (A := (j : Int)) (B := (l.length : Int)) (.tmp 170) (.tmp 172) rfl (litEv (by kernel_rfl)) (litEv (by kernel_rfl)))) rfl (by decide) ?_
    refine plDone (by decide) ?_
    refine then_normal (hK134 _ _ ?_)
    refine wp_cond_true (litEv (by kernel_rfl)) ?_
    refine wp_skip ?_
    refine then_normal (hK133 _ _ ?_)
    refine wp_seq_k fun K136 hK136 => ?_
    refine wp_block ?_
    refine wp_seq_k fun K137 hK137 => ?_
    refine mgStart hm130 (by kernel_rfl) ?_
    intro w139 hm138
    clear hm130
    refine mgK (i := 0) (v := .slice (some ⟨b123, 0, none⟩) l.length c122) rfl (by kernel_rfl) rfl (fun _ _ _ h => h) hm138 (fun _ => by kernel_rfl) rfl (by decide) ?_
    refine mgK (i := 1) (v := .int .i64 (j : Int)) rfl (by kernel_rfl) rfl (fun _ _ _ h => h) hm138 (fun _ => by kernel_rfl) rfl (by decide) ?_
    refine mgTake (i := 2) (v := .pointer (some ⟨b123, 0 + j * 3, none⟩)) rfl (by kernel_rfl) (wn rfl) (fun _ _ _ h => h) hm138 (fun w_ h_ => gIaSl (b := b123) (off := 0) (n := l.length) (c := c122) (kk := .i64) (K := (j : Int)) (.tmp 176) (.tmp 177) j Ty.sl_L_api_Point rfl (litEv (by kernel_rfl)) (litEv (by kernel_rfl)) (rfl) (hjl)) ?_
    refine mPut rfl (by decide) ?_
    refine mgTake (i := 3) (v := .agg (pcs ⟨q.x + v.x, q.y + v.y, q.z + v.z⟩).toArray) rfl (by kernel_rfl) (wn rfl) (fun _ _ _ h => h) hm138 (fun w_ h_ => gLoadAgRd (vs := pcs ⟨q.x + v.x, q.y + v.y, q.z + v.z⟩) (m := j * 3) (h_.rdRow 2 rfl) rfl (ptsC_get (map_get (·.add v) hq)) (by kernel_rfl) (by omega) (.tmp 178) Ty.ag_voxel_api_Point rfl (litEv (by kernel_rfl))) ?_
    refine mPut rfl (by decide) ?_
    refine mgK (i := 4) (v := .slice (some ⟨b49, 0, none⟩) l.length c48) rfl (by kernel_rfl) rfl (fun _ _ _ h => h) hm138 (fun _ => by kernel_rfl) rfl (by decide) ?_
    refine mgK (i := 5) (v := .int .i64 (j : Int)) rfl (by kernel_rfl) rfl (fun _ _ _ h => h) hm138 (fun _ => by kernel_rfl) rfl (by decide) ?_
    refine mgTake (i := 6) (v := .pointer (some ⟨b49, 0 + j * 3, none⟩)) rfl (by kernel_rfl) (wn rfl) (fun _ _ _ h => h) hm138 (fun w_ h_ => gIaSl (b := b49) (off := 0) (n := l.length) (c := c48) (kk := .i64) (K := (j : Int)) (.tmp 180) (.tmp 181) j Ty.sl_L_api_Point rfl (litEv (by kernel_rfl)) (litEv (by kernel_rfl)) (rfl) (hjl)) ?_
    refine mPut rfl (by decide) ?_
    refine mgTake (i := 7) (v := .agg (pcs q).toArray) rfl (by kernel_rfl) (wn rfl) (fun _ _ _ h => h) hm138 (fun w_ h_ => gLoadAgRd (vs := pcs q) (m := j * 3) (h_.rdRow 1 rfl) rfl (ptsC_get hq) (by kernel_rfl) (by omega) (.tmp 182) Ty.ag_voxel_api_Point rfl (litEv (by kernel_rfl))) ?_
    refine mPut rfl (by decide) ?_
    refine mgTake (i := 8) (v := .agg (pcs v).toArray) rfl (by kernel_rfl) (wn rfl) (fun _ _ _ h => h) hm138 (fun w_ h_ => gLoadAg (vs := pcs v) (k := 0) 0 h_ rfl (by kernel_rfl) (by kernel_rfl) (.tmp 5) Ty.ag_voxel_api_Point rfl (litEv (by kernel_rfl))) ?_
    refine mPut rfl (by decide) ?_
    refine mgCall (i := 9) 28 [.agg (pcs q).toArray, .agg (pcs v).toArray] [] [] (by kernel_rfl) rfl (by kernel_rfl) (wn rfl) rfl (litEv (by kernel_rfl)) (litArgs (by kernel_rfl)) (add_any q v hq30 (box_small (of_decide_eq_true h39)) _) ?_
    rintro e w140 ⟨rfl, hbz⟩
    have hm141 := hm138.below hbz
    clear hbz hm138
    refine ⟨_, rfl, hm141, ?_⟩
    refine mPut rfl (by decide) ?_
    refine mgTake (i := 10) (v := .bool false) rfl (by kernel_rfl) (wn rfl) (fun _ _ _ h => h) hm141 (fun w_ h_ => boolTo (by rw [decide_eq_true rfl]; rfl) (neqPtRun (.tmp 179) (.tmp 185) (⟨q.x + v.x, q.y + v.y, q.z + v.z⟩) (⟨q.x + v.x, q.y + v.y, q.z + v.z⟩) (by kernel_rfl) (by kernel_rfl) (by kernel_rfl) (by kernel_rfl) rfl (litEv (by kernel_rfl)) (litEv (by kernel_rfl)))) ?_
    refine mPut rfl (by decide) ?_
    refine mgDone (by kernel_rfl) ?_
    refine then_normal (hK137 _ _ ?_)
    refine wp_cond_false (litEv (by kernel_rfl)) ?_
    refine wp_skip ?_
    refine inBlock_normal ?_
    refine then_normal (hK136 _ _ ?_)
    refine plStart ?_
    refine litK (v := .int .i64 (j : Int)) rfl rfl (by kernel_rfl) rfl (by decide) ?_
    refine litVal (v := .int .i64 ((j : Int) + 1)) rfl (wn rfl) (addRun (A := (j : Int)) (B := 1) (C := (j : Int) + 1) (.tmp 174) (.const (.int .i64 1)) rfl (litEv (by kernel_rfl)) (litEv (by kernel_rfl)) rfl (by omega)) rfl (by decide) ?_
    refine litK (v := .int .i64 ((j : Int) + 1)) rfl rfl (by kernel_rfl) rfl (by decide) ?_
    refine plDone (by decide) ?_
    refine then_normal ?_
    exact ⟨_, by omega, (j + 1), rfl, (by omega), ⟨litSize, rfl, ⟨litGet (by kernel_rfl), ⟨litGet (by kernel_rfl), ⟨litGet (by kernel_rfl), ⟨litGet (by kernel_rfl), ⟨litGet (by kernel_rfl), trivial⟩⟩⟩⟩⟩⟩, (hm141.sub (.cons_cons _ (.cons_cons _ (.cons_cons _ .slnil))))⟩
  refine litVal (v := .bool false) rfl (wn rfl) (boolTo (decide_eq_false h135) (lssRun (A := (j : Int)) (B := (l.length : Int)) (.tmp 170) (.tmp 172) rfl (litEv (by kernel_rfl)) (litEv (by kernel_rfl)))) rfl (by decide) ?_
  refine plDone (by decide) ?_
  refine then_normal (hK134 _ _ ?_)
  refine wp_cond_false (litEv (by kernel_rfl)) ?_
  refine wp_exit ?_
  refine then_exit ?_
  refine then_exit ?_
  refine inBlock_exit ?_
  refine then_normal (hK127 _ _ ?_)
  refine wp_seq_k fun K142 hK142 => ?_
  refine plStart ?_
  refine litK (v := .bool true) rfl rfl (by kernel_rfl) rfl (by decide) ?_
  refine litK (v := .bool true) rfl rfl (by kernel_rfl) rfl (by decide) ?_
  refine plDone (by decide) ?_
  refine then_normal (hK142 _ _ ?_)
  refine wp_ret ?_
  refine bodyPost_ret (v := .bool true) (gRes1 rfl (gResTmp (t := 6) (v := .bool true) (litGet (by kernel_rfl)))) rfl ?_
  exact ⟨rfl, hm130.bel⟩
end Go.Proofs.Ytopdcdjmiepdfaa
