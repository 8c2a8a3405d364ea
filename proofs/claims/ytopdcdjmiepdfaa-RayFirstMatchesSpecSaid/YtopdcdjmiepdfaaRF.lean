/-
  RF: several texts in one. No statement is proved here.
-/
import Derived.Test.YtopdcdjmiepdfaaRE
set_option linter.unusedVariables false
set_option linter.unusedSimpArgs false
namespace Go.Proofs.Ytopdcdjmiepdfaa
open Go.RowKit
set_option linter.unusedVariables false
set_option linter.unusedSimpArgs false
set_option maxRecDepth 100000 in
set_option maxHeartbeats 4000000 in
theorem crosses_any (a b c : Pt) (w : World) : Calls Try.prog 13 #[.agg (pcs a).toArray, .agg (pcs b).toArray, .agg (pcs c).toArray] w (RetV w (.bool (decide (a.rng ∧ b.rng ∧ c.rng) && crossR a b c))) := by
  obtain ⟨M1, hM1⟩ : ∃ M, stepC btw0 a.x b.x c.x = M := ⟨_, rfl⟩
  obtain ⟨M2, hM2⟩ : ∃ M, stepC M1 a.y b.y c.y = M := ⟨_, rfl⟩
  obtain ⟨M3, hM3⟩ : ∃ M, stepC M2 a.z b.z c.z = M := ⟨_, rfl⟩
  have hM : crossM a b c = M3 := by unfold crossM; rw [hM1, hM2, hM3]
  have hMo : M3.ok = true := hM ▸ crossM_ok a b c
  have hm0 := Mem.nil w
  go_enter Try.func13, Try.ntmps13
  refine litStart 113 [(0, .agg (pcs a).toArray), (1, .agg (pcs b).toArray), (2, .agg (pcs c).toArray)] (by kernel_rfl) (fun X0 => ?_)
  refine wp_seq_k fun K1 hK1 => ?_
  refine plStart ?_
  refine plBox hm0 (cs := pcs a) (i := 0) rfl (wn rfl) rfl (litEv (by kernel_rfl)) ?_
  intro g2 w4 hm3
  clear hm0
  try simp only [List.cons_append, List.nil_append, List.set_cons_succ, List.set_cons_zero] at hm3
  refine qP rfl ?_
  refine plBox hm3 (cs := pcs b) (i := 1) rfl (wn rfl) rfl (litEv (by kernel_rfl)) ?_
  intro g5 w7 hm6
  clear hm3
  try simp only [List.cons_append, List.nil_append, List.set_cons_succ, List.set_cons_zero] at hm6
  refine qP rfl ?_
  refine plBox hm6 (cs := pcs c) (i := 2) rfl (wn rfl) rfl (litEv (by kernel_rfl)) ?_
  intro g8 w10 hm9
  clear hm6
  try simp only [List.cons_append, List.nil_append, List.set_cons_succ, List.set_cons_zero] at hm9
  refine qP rfl ?_
  refine lk (v := .bool false) rfl rfl rfl ?_
  refine plD ?_
  refine then_normal (hK1 _ _ ?_)
  refine wp_seq_k fun K11 hK11 => ?_
  refine wp_seq_k fun K12 hK12 => ?_
  refine plStart ?_
  refine litVal (v := .agg (pcs a).toArray) rfl (wn rfl) (gLoadAg (vs := pcs a) (k := 0) 0 hm9 rfl (by kernel_rfl) (by kernel_rfl) (.tmp 3) Ty.ag_voxel_api_Point rfl (litEv (by kernel_rfl))) rfl (by decide) ?_
  refine litVal (v := .agg (pcs b).toArray) rfl (wn rfl) (gLoadAg (vs := pcs b) (k := 0) 1 hm9 rfl (by kernel_rfl) (by kernel_rfl) (.tmp 4) Ty.ag_voxel_api_Point rfl (litEv (by kernel_rfl))) rfl (by decide) ?_
  refine litVal (v := .agg (pcs c).toArray) rfl (wn rfl) (gLoadAg (vs := pcs c) (k := 0) 2 hm9 rfl (by kernel_rfl) (by kernel_rfl) (.tmp 5) Ty.ag_voxel_api_Point rfl (litEv (by kernel_rfl))) rfl (by decide) ?_
  refine plLit (cs := [.int .i64 a.x, .int .i64 a.y, .int .i64 a.z, .int .i64 b.x, .int .i64 b.y, .int .i64 b.z, .int .i64 c.x, .int .i64 c.y, .int .i64 c.z]) (n := 3) Ty.sl_L_api_Point hm9 (i := 3) rfl (wn rfl) rfl (by decide) (by decide) (by rw [lit_eval]; kernel_rfl) ?_
  intro g13 w15 hm14
  clear hm9
  try simp only [List.cons_append, List.nil_append, List.set_cons_succ, List.set_cons_zero] at hm14
  refine qP rfl ?_
  refine plCall (i := 4) 35 [.slice (some ⟨g13, 0, none⟩) 3 3] [] [] rfl (by kernel_rfl) (wn rfl) rfl (litEv (by kernel_rfl)) (litArgs (by kernel_rfl)) (by have h := inRange_any [a, b, c] (some ⟨g13, 0, none⟩) 3 w15 (of_decide_eq_true (by kernel_rfl)) (Rd.of_arr (t := 23) (cs := [.int .i64 a.x, .int .i64 a.y, .int .i64 a.z, .int .i64 b.x, .int .i64 b.y, .int .i64 b.z, .int .i64 c.x, .int .i64 c.y, .int .i64 c.z]) (hm14.arr 3 (by kernel_rfl)) (by kernel_rfl) (of_decide_eq_true (by kernel_rfl))); rw [rng3] at h; exact h) ?_
  rintro e w16 ⟨rfl, hbz⟩
  have hm17 := hm14.below hbz
  clear hbz hm14
  refine ⟨_, rfl, ?_⟩
  refine qP rfl ?_
  rcases bool_or (decide (a.rng ∧ b.rng ∧ c.rng)) with h18 | h18
  · rw [h18]
    refine lk (v := .bool true) rfl rfl rfl ?_
    refine plD ?_
    refine then_normal (hK12 _ _ ?_)
    refine wp_cond_true (litEv (by kernel_rfl)) ?_
    refine wp_seq_k fun K19 hK19 => ?_
    refine plStart ?_
    refine lk (v := .bool false) rfl rfl rfl ?_
    refine plD ?_
    refine then_normal (hK19 _ _ ?_)
    refine wp_ret ?_
    refine then_ret ?_
    refine bodyPost_ret (v := .bool false) (gRes1 rfl (gResTmp (t := 6) (v := .bool false) (litGet (by kernel_rfl)))) rfl ?_
    exact ⟨congrArg (fun b_ => Ending.returned (.bool b_)) (Eq.symm (by rw [h18]; rfl)), hm17.bel⟩
  rw [h18]
  refine lk (v := .bool false) rfl rfl rfl ?_
  refine plD ?_
  refine then_normal (hK12 _ _ ?_)
  refine wp_cond_false (litEv (by kernel_rfl)) ?_
  refine wp_skip ?_
  refine then_normal (hK11 _ _ ?_)
  refine wp_seq_k fun K20 hK20 => ?_
  refine plStart ?_
  refine lk (v := .agg (tcs (-1, 1)).toArray) rfl rfl rfl ?_
  refine lk (v := .agg (tcs (2, 1)).toArray) rfl rfl rfl ?_
  refine plAlloc (z := [.int .i64 0, .int .i64 0]) Ty.ag_voxel_ray_time hm17 (i := 2) rfl (wn rfl) rfl ?_
  intro g21 w23 hm22
  clear hm17
  try simp only [List.cons_append, List.nil_append, List.set_cons_succ, List.set_cons_zero] at hm22
  refine qP rfl ?_
  refine plAlloc (z := [.int .i64 0, .int .i64 0]) Ty.ag_voxel_ray_time hm22 (i := 3) rfl (wn rfl) rfl ?_
  intro g24 w26 hm25
  clear hm22
  try simp only [List.cons_append, List.nil_append, List.set_cons_succ, List.set_cons_zero] at hm25
  refine qP rfl ?_
  refine plStore 4 Ty.ag_voxel_ray_time hm25 rfl (i := 4) (cs := tcs (-1, 1)) rfl (wn rfl) rfl (litEv (by kernel_rfl)) (litEv (by kernel_rfl)) rfl rfl (by kernel_rfl) ?_
  intro w28 hm27
  clear hm25
  try simp only [List.cons_append, List.nil_append, List.set_cons_succ, List.set_cons_zero] at hm27
  refine qNone rfl ?_
  refine plStore 5 Ty.ag_voxel_ray_time hm27 rfl (i := 5) (cs := tcs (2, 1)) rfl (wn rfl) rfl (litEv (by kernel_rfl)) (litEv (by kernel_rfl)) rfl rfl (by kernel_rfl) ?_
  intro w30 hm29
  clear hm27
  try simp only [List.cons_append, List.nil_append, List.set_cons_succ, List.set_cons_zero] at hm29
  refine qNone rfl ?_
  refine plD ?_
  refine then_normal (hK20 _ _ ?_)
  refine wp_seq_k fun K31 hK31 => ?_
  refine aoStart (aoV [fun _ => .agg (pcs a).toArray, fun _ => .agg (pcs a).toArray, fun _ => .agg (pcs b).toArray, fun _ => .agg (pcs b).toArray, fun _ => .agg (pcs c).toArray, fun _ => .agg (pcs c).toArray, fun γ_ => .pointer (some ⟨γ_, 0, none⟩), fun γ_ => .pointer (some ⟨γ_, 0, none⟩), fun γ_ => .pointer (some ⟨γ_, 0, none⟩), fun _ => undef, fun _ => undef, fun _ => undef]) (aoA [0, 1, 2, 3, 4, 5, 6, 7, 8, 9, 10, 11]) (fun b_ g_ => ((.arr g2 23 (pcs a)) :: (.arr g5 23 (pcs b)) :: (.arr g8 23 (pcs c)) :: (.arr g13 23 ([.int .i64 a.x, .int .i64 a.y, .int .i64 a.z, .int .i64 b.x, .int .i64 b.y, .int .i64 b.z, .int .i64 c.x, .int .i64 c.y, .int .i64 c.z])) :: (.arr g21 70 (tcs (-1, 1))) :: (.arr g24 70 (tcs (2, 1))) :: (bsel (b_ 6) (.arr (g_ 6) 71 (bsel (b_ 9) [.int .i64 a.x, .int .i64 a.y, .int .i64 a.z] [.int .i64 0, .int .i64 0, .int .i64 0])) .free) :: (bsel (b_ 7) (.arr (g_ 7) 71 (bsel (b_ 10) [.int .i64 b.x, .int .i64 b.y, .int .i64 b.z] [.int .i64 0, .int .i64 0, .int .i64 0])) .free) :: (bsel (b_ 8) (.arr (g_ 8) 71 (bsel (b_ 11) [.int .i64 c.x, .int .i64 c.y, .int .i64 c.z] [.int .i64 0, .int .i64 0, .int .i64 0])) .free) :: [])) hm29 (by kernel_rfl) (by kernel_rfl) (fun w_ h_ => h_.pushFree.pushFree.pushFree) (fun b_ g_ h_ => by show (fun (x6_ x7_ x8_ x9_ x10_ x11_ : Bool) => (((.arr g2 23 (pcs a)) :: (.arr g5 23 (pcs b)) :: (.arr g8 23 (pcs c)) :: (.arr g13 23 ([.int .i64 a.x, .int .i64 a.y, .int .i64 a.z, .int .i64 b.x, .int .i64 b.y, .int .i64 b.z, .int .i64 c.x, .int .i64 c.y, .int .i64 c.z])) :: (.arr g21 70 (tcs (-1, 1))) :: (.arr g24 70 (tcs (2, 1))) :: (bsel x6_ (.arr (g_ 6) 71 (bsel x9_ [.int .i64 a.x, .int .i64 a.y, .int .i64 a.z] [.int .i64 0, .int .i64 0, .int .i64 0])) .free) :: (bsel x7_ (.arr (g_ 7) 71 (bsel x10_ [.int .i64 b.x, .int .i64 b.y, .int .i64 b.z] [.int .i64 0, .int .i64 0, .int .i64 0])) .free) :: (bsel x8_ (.arr (g_ 8) 71 (bsel x11_ [.int .i64 c.x, .int .i64 c.y, .int .i64 c.z] [.int .i64 0, .int .i64 0, .int .i64 0])) .free) :: []) : List Res)) (b_ 6) (b_ 7) (b_ 8) (b_ 9) (b_ 10) (b_ 11) = _; rw [h_ 6 (by decide), h_ 7 (by decide), h_ 8 (by decide), h_ 9 (by decide), h_ 10 (by decide), h_ 11 (by decide)]) ?_ ?_
  · refine aoNext rfl (aoVal (fun g_ => [(3, .pointer (some ⟨g2, 0, none⟩))]) (fun g_ a_ h_k => ⟨(h_k.out 3 (by kernel_rfl)).trans (litGet (by kernel_rfl)), trivial⟩) (fun g_ X_ => (wn rfl)) (fun b_ g_ => by kernel_rfl) (fun b_ g_ X_ w_ h_b h_ => valTo (b := .agg (pcs a).toArray) (by kernel_rfl) (gLoadAg (vs := pcs a) (k := 0) 0 h_ rfl (by kernel_rfl) (by kernel_rfl) (.tmp 3) Ty.ag_voxel_api_Point rfl (litEv (by kernel_rfl))))) ?_
    refine aoNext rfl (aoCall (fun g_ => [(26, .agg (pcs a).toArray)]) (fun g_ a_ h_k => ⟨(h_k.inn 0 _ _ (by kernel_rfl) rfl rfl).trans (by kernel_rfl), trivial⟩) 36 (fun g_ => [.agg (pcs a).toArray]) [] [] (by kernel_rfl) (fun g_ X_ => (wn rfl)) (fun b_ g_ => by kernel_rfl) rfl (fun g_ X_ => litEv (by kernel_rfl)) (fun g_ X_ => litArgs (by kernel_rfl)) (fun b_ g_ w_ h_b h_ => (coordinates_any a _).mono (fun _ _ h_r => ⟨h_r.1.trans (by kernel_rfl), h_r.2⟩))) ?_
    refine aoNext rfl (aoVal (fun g_ => [(4, .pointer (some ⟨g5, 0, none⟩))]) (fun g_ a_ h_k => ⟨(h_k.out 4 (by kernel_rfl)).trans (litGet (by kernel_rfl)), trivial⟩) (fun g_ X_ => (wn rfl)) (fun b_ g_ => by kernel_rfl) (fun b_ g_ X_ w_ h_b h_ => valTo (b := .agg (pcs b).toArray) (by kernel_rfl) (gLoadAg (vs := pcs b) (k := 0) 1 h_ rfl (by kernel_rfl) (by kernel_rfl) (.tmp 4) Ty.ag_voxel_api_Point rfl (litEv (by kernel_rfl))))) ?_
    refine aoNext rfl (aoCall (fun g_ => [(28, .agg (pcs b).toArray)]) (fun g_ a_ h_k => ⟨(h_k.inn 2 _ _ (by kernel_rfl) rfl rfl).trans (by kernel_rfl), trivial⟩) 36 (fun g_ => [.agg (pcs b).toArray]) [] [] (by kernel_rfl) (fun g_ X_ => (wn rfl)) (fun b_ g_ => by kernel_rfl) rfl (fun g_ X_ => litEv (by kernel_rfl)) (fun g_ X_ => litArgs (by kernel_rfl)) (fun b_ g_ w_ h_b h_ => (coordinates_any b _).mono (fun _ _ h_r => ⟨h_r.1.trans (by kernel_rfl), h_r.2⟩))) ?_
    refine aoNext rfl (aoVal (fun g_ => [(5, .pointer (some ⟨g8, 0, none⟩))]) (fun g_ a_ h_k => ⟨(h_k.out 5 (by kernel_rfl)).trans (litGet (by kernel_rfl)), trivial⟩) (fun g_ X_ => (wn rfl)) (fun b_ g_ => by kernel_rfl) (fun b_ g_ X_ w_ h_b h_ => valTo (b := .agg (pcs c).toArray) (by kernel_rfl) (gLoadAg (vs := pcs c) (k := 0) 2 h_ rfl (by kernel_rfl) (by kernel_rfl) (.tmp 5) Ty.ag_voxel_api_Point rfl (litEv (by kernel_rfl))))) ?_
    refine aoNext rfl (aoCall (fun g_ => [(30, .agg (pcs c).toArray)]) (fun g_ a_ h_k => ⟨(h_k.inn 4 _ _ (by kernel_rfl) rfl rfl).trans (by kernel_rfl), trivial⟩) 36 (fun g_ => [.agg (pcs c).toArray]) [] [] (by kernel_rfl) (fun g_ X_ => (wn rfl)) (fun b_ g_ => by kernel_rfl) rfl (fun g_ X_ => litEv (by kernel_rfl)) (fun g_ X_ => litArgs (by kernel_rfl)) (fun b_ g_ w_ h_b h_ => (coordinates_any c _).mono (fun _ _ h_r => ⟨h_r.1.trans (by kernel_rfl), h_r.2⟩))) ?_
    refine aoNext rfl (aoNewAg (z := [.int .i64 0, .int .i64 0, .int .i64 0]) 6 Ty.ag_3_int rfl rfl (fun _ _ _ => ⟨_, rfl⟩) (fun b_ g_ γ_ h_b => Eq.trans (by kernel_rfl) (congrArg (fun x_ => List.set _ 6 (Res.arr γ_ 71 x_)) (bselF (α := List Value) (h_b.post 9 (by kernel_rfl)) [.int .i64 a.x, .int .i64 a.y, .int .i64 a.z] [.int .i64 0, .int .i64 0, .int .i64 0]))) (fun _ => by kernel_rfl) (by kernel_rfl)) ?_
    refine aoNext rfl (aoNewAg (z := [.int .i64 0, .int .i64 0, .int .i64 0]) 7 Ty.ag_3_int rfl rfl (fun _ _ _ => ⟨_, rfl⟩) (fun b_ g_ γ_ h_b => Eq.trans (by kernel_rfl) (congrArg (fun x_ => List.set _ 7 (Res.arr γ_ 71 x_)) (bselF (α := List Value) (h_b.post 10 (by kernel_rfl)) [.int .i64 b.x, .int .i64 b.y, .int .i64 b.z] [.int .i64 0, .int .i64 0, .int .i64 0]))) (fun _ => by kernel_rfl) (by kernel_rfl)) ?_
    refine aoNext rfl (aoNewAg (z := [.int .i64 0, .int .i64 0, .int .i64 0]) 8 Ty.ag_3_int rfl rfl (fun _ _ _ => ⟨_, rfl⟩) (fun b_ g_ γ_ h_b => Eq.trans (by kernel_rfl) (congrArg (fun x_ => List.set _ 8 (Res.arr γ_ 71 x_)) (bselF (α := List Value) (h_b.post 11 (by kernel_rfl)) [.int .i64 c.x, .int .i64 c.y, .int .i64 c.z] [.int .i64 0, .int .i64 0, .int .i64 0]))) (fun _ => by kernel_rfl) (by kernel_rfl)) ?_
    refine aoNext rfl (aoStore (gb := fun g_ => (g_ 6)) (k := 0) (cur := fun g_ => [.int .i64 0, .int .i64 0, .int .i64 0]) (vs := fun g_ => pcs a) 6 (fun g_ => [(9, .pointer (some ⟨(g_ 6), 0, none⟩)), (27, .agg (pcs a).toArray)]) (fun g_ a_ h_k => ⟨(h_k.inn 6 _ _ (by kernel_rfl) rfl rfl).trans (by kernel_rfl), (h_k.inn 1 _ _ (by kernel_rfl) rfl rfl).trans (by kernel_rfl), trivial⟩) Ty.ag_3_int (fun b_ g_ h_b => by show some (bsel (b_ 6) (Res.arr (g_ 6) 71 (bsel (b_ 9) [.int .i64 a.x, .int .i64 a.y, .int .i64 a.z] [.int .i64 0, .int .i64 0, .int .i64 0])) Res.free) = some (Res.arr (g_ 6) 71 ([.int .i64 0, .int .i64 0, .int .i64 0])); rw [bselT (h_b.pre 6 (by kernel_rfl)), bselF h_b.no]) (fun g_ X_ => (wn rfl)) rfl (fun g_ X_ => litEv (by kernel_rfl)) (fun g_ X_ => litEv (by kernel_rfl)) (fun _ => by kernel_rfl) (fun _ => by kernel_rfl) (fun _ => by kernel_rfl) (fun b_ g_ h_b => Eq.trans (b := List.set (((.arr g2 23 (pcs a)) :: (.arr g5 23 (pcs b)) :: (.arr g8 23 (pcs c)) :: (.arr g13 23 ([.int .i64 a.x, .int .i64 a.y, .int .i64 a.z, .int .i64 b.x, .int .i64 b.y, .int .i64 b.z, .int .i64 c.x, .int .i64 c.y, .int .i64 c.z])) :: (.arr g21 70 (tcs (-1, 1))) :: (.arr g24 70 (tcs (2, 1))) :: (bsel (b_ 6) (.arr (g_ 6) 71 (bsel (b_ 9) [.int .i64 a.x, .int .i64 a.y, .int .i64 a.z] [.int .i64 0, .int .i64 0, .int .i64 0])) .free) :: (bsel (b_ 7) (.arr (g_ 7) 71 (bsel (b_ 10) [.int .i64 b.x, .int .i64 b.y, .int .i64 b.z] [.int .i64 0, .int .i64 0, .int .i64 0])) .free) :: (bsel (b_ 8) (.arr (g_ 8) 71 (bsel (b_ 11) [.int .i64 c.x, .int .i64 c.y, .int .i64 c.z] [.int .i64 0, .int .i64 0, .int .i64 0])) .free) :: [])) 6 (bsel (b_ 6) (Res.arr (g_ 6) 71 ([.int .i64 a.x, .int .i64 a.y, .int .i64 a.z])) Res.free)) (by kernel_rfl) (congrArg (fun x_ => List.set _ 6 x_) (bselT (h_b.pre 6 (by kernel_rfl)) _ _))) rfl) ?_
    refine aoNext rfl (aoStore (gb := fun g_ => (g_ 7)) (k := 0) (cur := fun g_ => [.int .i64 0, .int .i64 0, .int .i64 0]) (vs := fun g_ => pcs b) 7 (fun g_ => [(10, .pointer (some ⟨(g_ 7), 0, none⟩)), (29, .agg (pcs b).toArray)]) (fun g_ a_ h_k => ⟨(h_k.inn 7 _ _ (by kernel_rfl) rfl rfl).trans (by kernel_rfl), (h_k.inn 3 _ _ (by kernel_rfl) rfl rfl).trans (by kernel_rfl), trivial⟩) Ty.ag_3_int (fun b_ g_ h_b => by show some (bsel (b_ 7) (Res.arr (g_ 7) 71 (bsel (b_ 10) [.int .i64 b.x, .int .i64 b.y, .int .i64 b.z] [.int .i64 0, .int .i64 0, .int .i64 0])) Res.free) = some (Res.arr (g_ 7) 71 ([.int .i64 0, .int .i64 0, .int .i64 0])); rw [bselT (h_b.pre 7 (by kernel_rfl)), bselF h_b.no]) (fun g_ X_ => (wn rfl)) rfl (fun g_ X_ => litEv (by kernel_rfl)) (fun g_ X_ => litEv (by kernel_rfl)) (fun _ => by kernel_rfl) (fun _ => by kernel_rfl) (fun _ => by kernel_rfl) (fun b_ g_ h_b => Eq.trans (b := List.set (((.arr g2 23 (pcs a)) :: (.arr g5 23 (pcs b)) :: (.arr g8 23 (pcs c)) :: (.arr g13 23 ([.int .i64 a.x, .int .i64 a.y, .int .i64 a.z, .int .i64 b.x, .int .i64 b.y, .int .i64 b.z, .int .i64 c.x, .int .i64 c.y, .int .i64 c.z])) :: (.arr g21 70 (tcs (-1, 1))) :: (.arr g24 70 (tcs (2, 1))) :: (bsel (b_ 6) (.arr (g_ 6) 71 (bsel (b_ 9) [.int .i64 a.x, .int .i64 a.y, .int .i64 a.z] [.int .i64 0, .int .i64 0, .int .i64 0])) .free) :: (bsel (b_ 7) (.arr (g_ 7) 71 (bsel (b_ 10) [.int .i64 b.x, .int .i64 b.y, .int .i64 b.z] [.int .i64 0, .int .i64 0, .int .i64 0])) .free) :: (bsel (b_ 8) (.arr (g_ 8) 71 (bsel (b_ 11) [.int .i64 c.x, .int .i64 c.y, .int .i64 c.z] [.int .i64 0, .int .i64 0, .int .i64 0])) .free) :: [])) 7 (bsel (b_ 7) (Res.arr (g_ 7) 71 ([.int .i64 b.x, .int .i64 b.y, .int .i64 b.z])) Res.free)) (by kernel_rfl) (congrArg (fun x_ => List.set _ 7 x_) (bselT (h_b.pre 7 (by kernel_rfl)) _ _))) rfl) ?_
    refine aoNext rfl (aoStore (gb := fun g_ => (g_ 8)) (k := 0) (cur := fun g_ => [.int .i64 0, .int .i64 0, .int .i64 0]) (vs := fun g_ => pcs c) 8 (fun g_ => [(11, .pointer (some ⟨(g_ 8), 0, none⟩)), (31, .agg (pcs c).toArray)]) (fun g_ a_ h_k => ⟨(h_k.inn 8 _ _ (by kernel_rfl) rfl rfl).trans (by kernel_rfl), (h_k.inn 5 _ _ (by kernel_rfl) rfl rfl).trans (by kernel_rfl), trivial⟩) Ty.ag_3_int (fun b_ g_ h_b => by show some (bsel (b_ 8) (Res.arr (g_ 8) 71 (bsel (b_ 11) [.int .i64 c.x, .int .i64 c.y, .int .i64 c.z] [.int .i64 0, .int .i64 0, .int .i64 0])) Res.free) = some (Res.arr (g_ 8) 71 ([.int .i64 0, .int .i64 0, .int .i64 0])); rw [bselT (h_b.pre 8 (by kernel_rfl)), bselF h_b.no]) (fun g_ X_ => (wn rfl)) rfl (fun g_ X_ => litEv (by kernel_rfl)) (fun g_ X_ => litEv (by kernel_rfl)) (fun _ => by kernel_rfl) (fun _ => by kernel_rfl) (fun _ => by kernel_rfl) (fun b_ g_ h_b => Eq.trans (b := List.set (((.arr g2 23 (pcs a)) :: (.arr g5 23 (pcs b)) :: (.arr g8 23 (pcs c)) :: (.arr g13 23 ([.int .i64 a.x, .int .i64 a.y, .int .i64 a.z, .int .i64 b.x, .int .i64 b.y, .int .i64 b.z, .int .i64 c.x, .int .i64 c.y, .int .i64 c.z])) :: (.arr g21 70 (tcs (-1, 1))) :: (.arr g24 70 (tcs (2, 1))) :: (bsel (b_ 6) (.arr (g_ 6) 71 (bsel (b_ 9) [.int .i64 a.x, .int .i64 a.y, .int .i64 a.z] [.int .i64 0, .int .i64 0, .int .i64 0])) .free) :: (bsel (b_ 7) (.arr (g_ 7) 71 (bsel (b_ 10) [.int .i64 b.x, .int .i64 b.y, .int .i64 b.z] [.int .i64 0, .int .i64 0, .int .i64 0])) .free) :: (bsel (b_ 8) (.arr (g_ 8) 71 (bsel (b_ 11) [.int .i64 c.x, .int .i64 c.y, .int .i64 c.z] [.int .i64 0, .int .i64 0, .int .i64 0])) .free) :: [])) 8 (bsel (b_ 8) (Res.arr (g_ 8) 71 ([.int .i64 c.x, .int .i64 c.y, .int .i64 c.z])) Res.free)) (by kernel_rfl) (congrArg (fun x_ => List.set _ 8 x_) (bselT (h_b.pre 8 (by kernel_rfl)) _ _))) rfl) ?_
    exact aoDone (by decide)
  intro g_ a_ w33 hF_ hm32
  obtain ⟨X34, rfl⟩ := frLit (⟨hF_.size, hF_.defers, ⟨(hF_.out 6 (by kernel_rfl)).trans (litGet (by kernel_rfl)), (hF_.out 7 (by kernel_rfl)).trans (litGet (by kernel_rfl)), (hF_.out 8 (by kernel_rfl)).trans (litGet (by kernel_rfl)), (hF_.inn 6 _ _ rfl rfl).trans (by kernel_rfl), (hF_.inn 7 _ _ rfl rfl).trans (by kernel_rfl), (hF_.inn 8 _ _ rfl rfl).trans (by kernel_rfl), (hF_.inn 0 _ _ rfl rfl).trans (by kernel_rfl), (hF_.inn 1 _ _ rfl rfl).trans (by kernel_rfl), (hF_.inn 2 _ _ rfl rfl).trans (by kernel_rfl), (hF_.inn 3 _ _ rfl rfl).trans (by kernel_rfl), (hF_.inn 4 _ _ rfl rfl).trans (by kernel_rfl), (hF_.inn 5 _ _ rfl rfl).trans (by kernel_rfl), trivial⟩⟩ : Fr _ 113 [(6, .bool false), (7, .pointer (some ⟨g21, 0, none⟩)), (8, .pointer (some ⟨g24, 0, none⟩)), (9, .pointer (some ⟨(g_ 6), 0, none⟩)), (10, .pointer (some ⟨(g_ 7), 0, none⟩)), (11, .pointer (some ⟨(g_ 8), 0, none⟩)), (26, .agg (pcs a).toArray), (27, .agg (pcs a).toArray), (28, .agg (pcs b).toArray), (29, .agg (pcs b).toArray), (30, .agg (pcs c).toArray), (31, .agg (pcs c).toArray)])
  clear hF_
  have hm35 : Mem w w33 [.arr g2 23 (pcs a), .arr g5 23 (pcs b), .arr g8 23 (pcs c), .arr g13 23 ([.int .i64 a.x, .int .i64 a.y, .int .i64 a.z, .int .i64 b.x, .int .i64 b.y, .int .i64 b.z, .int .i64 c.x, .int .i64 c.y, .int .i64 c.z]), .arr g21 70 (tcs (-1, 1)), .arr g24 70 (tcs (2, 1)), .arr (g_ 6) 71 (pcs a), .arr (g_ 7) 71 (pcs b), .arr (g_ 8) 71 (pcs c)] := hm32
  clear hm32 hm29
  generalize g_ 6 = g36 at hm35 ⊢
  generalize g_ 7 = g37 at hm35 ⊢
  generalize g_ 8 = g38 at hm35 ⊢
  clear g_
  refine then_normal (hK31 _ _ ?_)
  refine wp_seq_k fun K39 hK39 => ?_
  refine wp_seq_k fun K40 hK40 => ?_
  refine plStart ?_
  refine lk (v := .int .i64 0) rfl rfl rfl ?_
  refine plD ?_
  refine then_normal (hK40 _ _ ?_)
  refine wp_block ?_
  have hr_ := of_decide_eq_true h18
  obtain ⟨ha, hb, hc⟩ := hr_
  unfold Pt.rng at ha hb hc
  have sM1 : M1.sm := hM1 ▸ stepC_sm btw0_sm (by omega) (by omega) (by omega)
  have sM2 : M2.sm := hM2 ▸ stepC_sm sM1 (by omega) (by omega) (by omega)
  have sM3 : M3.sm := hM3 ▸ stepC_sm sM2 (by omega) (by omega) (by omega)
  refine roundsStart 4 ?_
  refine wp_seq_k fun K41 hK41 => ?_
  refine plStart ?_
  refine lk (v := .bool true) rfl rfl rfl ?_
  refine plD ?_
  refine then_normal (hK41 _ _ ?_)
  refine wp_seq_k fun K42 hK42 => ?_
  refine wp_cond_true (litEv (by kernel_rfl)) ?_
  refine wp_skip ?_
  refine then_normal (hK42 _ _ ?_)
  refine gwCut (fun a_ w_ => (¬ crossOff a.x b.x c.x) ∧ Fr a_ 113 [(7, .pointer (some ⟨g21, 0, none⟩)), (8, .pointer (some ⟨g24, 0, none⟩)), (9, .pointer (some ⟨g36, 0, none⟩)), (10, .pointer (some ⟨g37, 0, none⟩)), (11, .pointer (some ⟨g38, 0, none⟩)), (32, .int .i64 0), (33, .bool true)] ∧ Mem w w_ [.arr g2 23 (pcs a), .arr g5 23 (pcs b), .arr g8 23 (pcs c), .arr g13 23 ([.int .i64 a.x, .int .i64 a.y, .int .i64 a.z, .int .i64 b.x, .int .i64 b.y, .int .i64 b.z, .int .i64 c.x, .int .i64 c.y, .int .i64 c.z]), .arr g21 70 (tcs M1.a), .arr g24 70 (tcs M1.b), .arr g36 71 (pcs a), .arr g37 71 (pcs b), .arr g38 71 (pcs c)]) ?_ ?_
  · refine wp_block ?_
    refine wp_seq_k fun K43 hK43 => ?_
    refine plStart ?_
    refine lk (v := .int .i64 0) rfl rfl rfl ?_
    refine lk (v := .int .i64 0) rfl rfl rfl ?_
    refine plD ?_
    refine then_normal (hK43 _ _ ?_)
    refine wp_seq_k fun K44 hK44 => ?_
    refine mgStart hm35 (by kernel_rfl) ?_
    intro w46 hm45
    clear hm35
    refine mk_ (i := 0) (v := .int .i64 0) rfl rfl (fun _ _ _ h => h) hm45 rfl ?_
    refine mgTake (i := 1) (v := .pointer (some ⟨g37, 0, none⟩)) rfl (by kernel_rfl) (wn rfl) (fun _ _ _ h => h) hm45 (fun w_ h_ => iaRun (b := g37) (off := 0) (s := 1) (n := 3) (kk := .i64) (.tmp 10) (.tmp 35) 0 Ty.und_3_int (by kernel_rfl) rfl (litEv (by kernel_rfl)) (litEv (by kernel_rfl)) rfl (by decide)) ?_
    refine mP rfl ?_
    refine mgTake (i := 2) (v := .int .i64 b.x) rfl (by kernel_rfl) (wn rfl) (fun _ _ _ h => h) hm45 (fun w_ h_ => gLoad (v := .int .i64 b.x) (k := 0) 7 h_ rfl (by kernel_rfl) (.tmp 36) (by kernel_rfl) rfl (litEv (by kernel_rfl))) ?_
    refine mP rfl ?_
    refine mk_ (i := 3) (v := .int .i64 0) rfl rfl (fun _ _ _ h => h) hm45 rfl ?_
    refine mgTake (i := 4) (v := .pointer (some ⟨g36, 0, none⟩)) rfl (by kernel_rfl) (wn rfl) (fun _ _ _ h => h) hm45 (fun w_ h_ => iaRun (b := g36) (off := 0) (s := 1) (n := 3) (kk := .i64) (.tmp 9) (.tmp 38) 0 Ty.und_3_int (by kernel_rfl) rfl (litEv (by kernel_rfl)) (litEv (by kernel_rfl)) rfl (by decide)) ?_
    refine mP rfl ?_
    refine mgTake (i := 5) (v := .int .i64 a.x) rfl (by kernel_rfl) (wn rfl) (fun _ _ _ h => h) hm45 (fun w_ h_ => gLoad (v := .int .i64 a.x) (k := 0) 6 h_ rfl (by kernel_rfl) (.tmp 39) (by kernel_rfl) rfl (litEv (by kernel_rfl))) ?_
    refine mP rfl ?_
    refine mgTake (i := 6) (v := .int .i64 (b.x - a.x)) rfl (by kernel_rfl) (wn rfl) (fun _ _ _ h => h) hm45 (fun w_ h_ => subRun (A := b.x) (B := a.x) (C := b.x - a.x) (.tmp 37) (.tmp 40) rfl (litEv (by kernel_rfl)) (litEv (by kernel_rfl)) rfl (by omega)) ?_
    refine mP rfl ?_
    refine mgTake (i := 7) (v := .int .i64 (2 * (b.x - a.x))) rfl (by kernel_rfl) (wn rfl) (fun _ _ _ h => h) hm45 (fun w_ h_ => mulRun (A := 2) (B := (b.x - a.x)) (C := 2 * (b.x - a.x)) (.const (.int .i64 2)) (.tmp 41) rfl (litEv (by kernel_rfl)) (litEv (by kernel_rfl)) rfl (by omega)) ?_
    refine mP rfl ?_
    refine mk_ (i := 8) (v := .int .i64 (2 * (b.x - a.x))) rfl rfl (fun _ _ _ h => h) hm45 rfl ?_
    refine mgDone (by kernel_rfl) ?_
    refine then_normal (hK44 _ _ ?_)
    refine wp_seq_k fun K47 hK47 => ?_
    refine mgStart hm45 (by kernel_rfl) ?_
    intro w49 hm48
    clear hm45
    refine mk_ (i := 0) (v := .int .i64 0) rfl rfl (fun _ _ _ h => h) hm48 rfl ?_
    refine mgTake (i := 1) (v := .pointer (some ⟨g38, 0, none⟩)) rfl (by kernel_rfl) (wn rfl) (fun _ _ _ h => h) hm48 (fun w_ h_ => iaRun (b := g38) (off := 0) (s := 1) (n := 3) (kk := .i64) (.tmp 11) (.tmp 43) 0 Ty.und_3_int (by kernel_rfl) rfl (litEv (by kernel_rfl)) (litEv (by kernel_rfl)) rfl (by decide)) ?_
    refine mP rfl ?_
    refine mgTake (i := 2) (v := .int .i64 c.x) rfl (by kernel_rfl) (wn rfl) (fun _ _ _ h => h) hm48 (fun w_ h_ => gLoad (v := .int .i64 c.x) (k := 0) 8 h_ rfl (by kernel_rfl) (.tmp 44) (by kernel_rfl) rfl (litEv (by kernel_rfl))) ?_
    refine mP rfl ?_
    refine mk_ (i := 3) (v := .int .i64 0) rfl rfl (fun _ _ _ h => h) hm48 rfl ?_
    refine mgTake (i := 4) (v := .pointer (some ⟨g36, 0, none⟩)) rfl (by kernel_rfl) (wn rfl) (fun _ _ _ h => h) hm48 (fun w_ h_ => iaRun (b := g36) (off := 0) (s := 1) (n := 3) (kk := .i64) (.tmp 9) (.tmp 46) 0 Ty.und_3_int (by kernel_rfl) rfl (litEv (by kernel_rfl)) (litEv (by kernel_rfl)) rfl (by decide)) ?_
    refine mP rfl ?_
    refine mgTake (i := 5) (v := .int .i64 a.x) rfl (by kernel_rfl) (wn rfl) (fun _ _ _ h => h) hm48 (fun w_ h_ => gLoad (v := .int .i64 a.x) (k := 0) 6 h_ rfl (by kernel_rfl) (.tmp 47) (by kernel_rfl) rfl (litEv (by kernel_rfl))) ?_
    refine mP rfl ?_
    refine mgTake (i := 6) (v := .int .i64 (c.x - a.x)) rfl (by kernel_rfl) (wn rfl) (fun _ _ _ h => h) hm48 (fun w_ h_ => subRun (A := c.x) (B := a.x) (C := c.x - a.x) (.tmp 45) (.tmp 48) rfl (litEv (by kernel_rfl)) (litEv (by kernel_rfl)) rfl (by omega)) ?_
    refine mP rfl ?_
    refine mgTake (i := 7) (v := .int .i64 (2 * (c.x - a.x))) rfl (by kernel_rfl) (wn rfl) (fun _ _ _ h => h) hm48 (fun w_ h_ => mulRun (A := 2) (B := (c.x - a.x)) (C := 2 * (c.x - a.x)) (.const (.int .i64 2)) (.tmp 49) rfl (litEv (by kernel_rfl)) (litEv (by kernel_rfl)) rfl (by omega)) ?_
    refine mP rfl ?_
    refine mgTake (i := 8) (v := .int .i64 ((2 * (c.x - a.x)) - 1)) rfl (by kernel_rfl) (wn rfl) (fun _ _ _ h => h) hm48 (fun w_ h_ => subRun (A := (2 * (c.x - a.x))) (B := 1) (C := (2 * (c.x - a.x)) - 1) (.tmp 50) (.const (.int .i64 1)) rfl (litEv (by kernel_rfl)) (litEv (by kernel_rfl)) rfl (by omega)) ?_
    refine mP rfl ?_
    refine mk_ (i := 9) (v := .int .i64 0) rfl rfl (fun _ _ _ h => h) hm48 rfl ?_
    refine mgTake (i := 10) (v := .pointer (some ⟨g38, 0, none⟩)) rfl (by kernel_rfl) (wn rfl) (fun _ _ _ h => h) hm48 (fun w_ h_ => iaRun (b := g38) (off := 0) (s := 1) (n := 3) (kk := .i64) (.tmp 11) (.tmp 52) 0 Ty.und_3_int (by kernel_rfl) rfl (litEv (by kernel_rfl)) (litEv (by kernel_rfl)) rfl (by decide)) ?_
    refine mP rfl ?_
    refine mgTake (i := 11) (v := .int .i64 c.x) rfl (by kernel_rfl) (wn rfl) (fun _ _ _ h => h) hm48 (fun w_ h_ => gLoad (v := .int .i64 c.x) (k := 0) 8 h_ rfl (by kernel_rfl) (.tmp 53) (by kernel_rfl) rfl (litEv (by kernel_rfl))) ?_
    refine mP rfl ?_
    refine mk_ (i := 12) (v := .int .i64 0) rfl rfl (fun _ _ _ h => h) hm48 rfl ?_
    refine mgTake (i := 13) (v := .pointer (some ⟨g36, 0, none⟩)) rfl (by kernel_rfl) (wn rfl) (fun _ _ _ h => h) hm48 (fun w_ h_ => iaRun (b := g36) (off := 0) (s := 1) (n := 3) (kk := .i64) (.tmp 9) (.tmp 55) 0 Ty.und_3_int (by kernel_rfl) rfl (litEv (by kernel_rfl)) (litEv (by kernel_rfl)) rfl (by decide)) ?_
    refine mP rfl ?_
    refine mgTake (i := 14) (v := .int .i64 a.x) rfl (by kernel_rfl) (wn rfl) (fun _ _ _ h => h) hm48 (fun w_ h_ => gLoad (v := .int .i64 a.x) (k := 0) 6 h_ rfl (by kernel_rfl) (.tmp 56) (by kernel_rfl) rfl (litEv (by kernel_rfl))) ?_
    refine mP rfl ?_
    refine mgTake (i := 15) (v := .int .i64 (c.x - a.x)) rfl (by kernel_rfl) (wn rfl) (fun _ _ _ h => h) hm48 (fun w_ h_ => subRun (A := c.x) (B := a.x) (C := c.x - a.x) (.tmp 54) (.tmp 57) rfl (litEv (by kernel_rfl)) (litEv (by kernel_rfl)) rfl (by omega)) ?_
    refine mP rfl ?_
    refine mgTake (i := 16) (v := .int .i64 (2 * (c.x - a.x))) rfl (by kernel_rfl) (wn rfl) (fun _ _ _ h => h) hm48 (fun w_ h_ => mulRun (A := 2) (B := (c.x - a.x)) (C := 2 * (c.x - a.x)) (.const (.int .i64 2)) (.tmp 58) rfl (litEv (by kernel_rfl)) (litEv (by kernel_rfl)) rfl (by omega)) ?_
    refine mP rfl ?_
    refine mgTake (i := 17) (v := .int .i64 ((2 * (c.x - a.x)) + 1)) rfl (by kernel_rfl) (wn rfl) (fun _ _ _ h => h) hm48 (fun w_ h_ => addRun (A := (2 * (c.x - a.x))) (B := 1) (C := (2 * (c.x - a.x)) + 1) (.tmp 59) (.const (.int .i64 1)) rfl (litEv (by kernel_rfl)) (litEv (by kernel_rfl)) rfl (by omega)) ?_
    refine mP rfl ?_
    refine mk_ (i := 18) (v := .int .i64 ((2 * (c.x - a.x)) - 1)) rfl rfl (fun _ _ _ h => h) hm48 rfl ?_
    refine mk_ (i := 19) (v := .int .i64 ((2 * (c.x - a.x)) + 1)) rfl rfl (fun _ _ _ h => h) hm48 rfl ?_
    refine mgDone (by kernel_rfl) ?_
    refine then_normal (hK47 _ _ ?_)
    refine wp_seq_k fun K50 hK50 => ?_
    refine wp_block ?_
    refine wp_seq_k fun K51 hK51 => ?_
    refine mgStart hm48 (by kernel_rfl) ?_
    intro w53 hm52
    clear hm48
    refine mk_ (i := 0) (v := .int .i64 (2 * (b.x - a.x))) rfl rfl (fun _ _ _ h => h) hm52 rfl ?_
    by_cases h54 : (2 * (b.x - a.x)) = 0
    · refine mgTake (i := 1) (v := .bool true) rfl (by kernel_rfl) (wn rfl) (fun _ _ _ h => h) hm52 (fun w_ h_ => boolTo (decide_eq_true h54) (eqlRun (A := (2 * (b.x - a.x))) (B := 0) (.tmp 62) (.const (.int .i64 0)) rfl (litEv (by kernel_rfl)) (litEv (by kernel_rfl)))) ?_
      refine mP rfl ?_
      refine mk_ (i := 2) (v := .bool true) rfl rfl (fun _ _ _ h => h) hm52 rfl ?_
      refine mgTake (i := 3) (v := .int .i64 0) rfl (by kernel_rfl) (wgY rfl rfl rfl (by decide) (by kernel_rfl)) (fun _ _ _ h => h) hm52 (fun w_ h_ => litRun (by kernel_rfl)) ?_
      refine mP rfl ?_
      refine mgTake (i := 4) (v := .pointer (some ⟨g36, 0, none⟩)) rfl (by kernel_rfl) (wgY rfl rfl rfl (by decide) (by kernel_rfl)) (fun _ _ _ h => h) hm52 (fun w_ h_ => iaRun (b := g36) (off := 0) (s := 1) (n := 3) (kk := .i64) (.tmp 9) (.tmp 65) 0 Ty.und_3_int (by kernel_rfl) rfl (litEv (by kernel_rfl)) (litEv (by kernel_rfl)) rfl (by decide)) ?_
      refine mP rfl ?_
      refine mgTake (i := 5) (v := .int .i64 a.x) rfl (by kernel_rfl) (wgY rfl rfl rfl (by decide) (by kernel_rfl)) (fun _ _ _ h => h) hm52 (fun w_ h_ => gLoad (v := .int .i64 a.x) (k := 0) 6 h_ rfl (by kernel_rfl) (.tmp 66) (by kernel_rfl) rfl (litEv (by kernel_rfl))) ?_
      refine mP rfl ?_
      refine mgTake (i := 6) (v := .int .i64 0) rfl (by kernel_rfl) (wgY rfl rfl rfl (by decide) (by kernel_rfl)) (fun _ _ _ h => h) hm52 (fun w_ h_ => litRun (by kernel_rfl)) ?_
      refine mP rfl ?_
      refine mgTake (i := 7) (v := .pointer (some ⟨g38, 0, none⟩)) rfl (by kernel_rfl) (wgY rfl rfl rfl (by decide) (by kernel_rfl)) (fun _ _ _ h => h) hm52 (fun w_ h_ => iaRun (b := g38) (off := 0) (s := 1) (n := 3) (kk := .i64) (.tmp 11) (.tmp 68) 0 Ty.und_3_int (by kernel_rfl) rfl (litEv (by kernel_rfl)) (litEv (by kernel_rfl)) rfl (by decide)) ?_
      refine mP rfl ?_
      refine mgTake (i := 8) (v := .int .i64 c.x) rfl (by kernel_rfl) (wgY rfl rfl rfl (by decide) (by kernel_rfl)) (fun _ _ _ h => h) hm52 (fun w_ h_ => gLoad (v := .int .i64 c.x) (k := 0) 8 h_ rfl (by kernel_rfl) (.tmp 69) (by kernel_rfl) rfl (litEv (by kernel_rfl))) ?_
      refine mP rfl ?_
      by_cases h55 : a.x = c.x
      · refine mgTake (i := 9) (v := .bool false) rfl (by kernel_rfl) (wgY rfl rfl rfl (by decide) (by kernel_rfl)) (fun _ _ _ h => h) hm52 (fun w_ h_ => boolTo (by rw [decide_eq_true h55]; rfl) (neqRun (A := a.x) (B := c.x) (.tmp 67) (.tmp 70) rfl (litEv (by kernel_rfl)) (litEv (by kernel_rfl)))) ?_
        refine mP rfl ?_
        refine mk_ (i := 10) (v := .bool false) rfl rfl (fun _ _ _ h => h) hm52 rfl ?_
        refine mk_ (i := 11) (v := .bool false) rfl rfl (fun _ _ _ h => h) hm52 rfl ?_
        refine mgDone (by kernel_rfl) ?_
        refine then_normal (hK51 _ _ ?_)
        refine wp_cond_false (litEv (by kernel_rfl)) ?_
        refine wp_seq_k fun K56 hK56 => ?_
        refine plStart ?_
        refine lk (v := .int .i64 (2 * (b.x - a.x))) rfl rfl rfl ?_
        refine litVal (v := .bool true) rfl (wn rfl) (boolTo (decide_eq_true h54) (eqlRun (A := (2 * (b.x - a.x))) (B := 0) (.tmp 74) (.const (.int .i64 0)) rfl (litEv (by kernel_rfl)) (litEv (by kernel_rfl)))) rfl (by decide) ?_
        refine lk (v := .bool true) rfl rfl rfl ?_
        refine plD ?_
        refine then_normal (hK56 _ _ ?_)
        refine wp_cond_true (litEv (by kernel_rfl)) ?_
        refine wp_exit ?_
        refine inBlock_other (by decide) ?_
        refine then_exit ?_
        refine inBlock_exit ?_
        refine then_normal ?_
        have ea_ : tcs M1.a = tcs (-1, 1) := by rw [← hM1]; unfold stepC; rw [if_pos h54] <;> rfl
        have eb_ : tcs M1.b = tcs (2, 1) := by rw [← hM1]; unfold stepC; rw [if_pos h54] <;> rfl
        exact ⟨(by unfold crossOff; omega), ⟨litSize, rfl, ⟨litGet (by kernel_rfl), ⟨litGet (by kernel_rfl), ⟨litGet (by kernel_rfl), ⟨litGet (by kernel_rfl), ⟨litGet (by kernel_rfl), ⟨litGet (by kernel_rfl), ⟨litGet (by kernel_rfl), trivial⟩⟩⟩⟩⟩⟩⟩⟩, (by rw [ea_, eb_]; exact (hm52.firsts 9))⟩
      refine mgTake (i := 9) (v := .bool true) rfl (by kernel_rfl) (wgY rfl rfl rfl (by decide) (by kernel_rfl)) (fun _ _ _ h => h) hm52 (fun w_ h_ => boolTo (by rw [decide_eq_false h55]; rfl) (neqRun (A := a.x) (B := c.x) (.tmp 67) (.tmp 70) rfl (litEv (by kernel_rfl)) (litEv (by kernel_rfl)))) ?_
      refine mP rfl ?_
      refine mk_ (i := 10) (v := .bool true) rfl rfl (fun _ _ _ h => h) hm52 rfl ?_
      refine mk_ (i := 11) (v := .bool true) rfl rfl (fun _ _ _ h => h) hm52 rfl ?_
      refine mgDone (by kernel_rfl) ?_
      refine then_normal (hK51 _ _ ?_)
      refine wp_cond_true (litEv (by kernel_rfl)) ?_
      refine wp_seq_k fun K57 hK57 => ?_
      refine plStart ?_
      refine lk (v := .bool false) rfl rfl rfl ?_
      refine plD ?_
      refine then_normal (hK57 _ _ ?_)
      refine wp_ret ?_
      refine inBlock_ret ?_
      refine then_ret ?_
      refine inBlock_ret ?_
      refine then_ret ?_
      refine then_ret ?_
      refine inBlock_ret ?_
      refine then_ret ?_
      refine bodyPost_ret (v := .bool false) (gRes1 rfl (gResTmp (t := 6) (v := .bool false) (litGet (by kernel_rfl)))) rfl ?_
      exact ⟨congrArg (fun b_ => Ending.returned (.bool b_)) (Eq.symm (by rw [h18, Bool.true_and]; unfold crossR; rw [if_pos (by unfold crossOff; omega)])), hm52.bel⟩
    refine mgTake (i := 1) (v := .bool false) rfl (by kernel_rfl) (wn rfl) (fun _ _ _ h => h) hm52 (fun w_ h_ => boolTo (decide_eq_false h54) (eqlRun (A := (2 * (b.x - a.x))) (B := 0) (.tmp 62) (.const (.int .i64 0)) rfl (litEv (by kernel_rfl)) (litEv (by kernel_rfl)))) ?_
    refine mP rfl ?_
    refine mk_ (i := 2) (v := .bool false) rfl rfl (fun _ _ _ h => h) hm52 rfl ?_
    refine mgSkip (i := 3) rfl (by kernel_rfl) (wgN rfl rfl rfl (by decide) (by kernel_rfl)) (fun _ _ _ h => h) hm52 ?_
    refine mP rfl ?_
    refine mgSkip (i := 4) rfl (by kernel_rfl) (wgN rfl rfl rfl (by decide) (by kernel_rfl)) (fun _ _ _ h => h) hm52 ?_
    refine mP rfl ?_
    refine mgSkip (i := 5) rfl (by kernel_rfl) (wgN rfl rfl rfl (by decide) (by kernel_rfl)) (fun _ _ _ h => h) hm52 ?_
    refine mP rfl ?_
    refine mgSkip (i := 6) rfl (by kernel_rfl) (wgN rfl rfl rfl (by decide) (by kernel_rfl)) (fun _ _ _ h => h) hm52 ?_
    refine mP rfl ?_
    refine mgSkip (i := 7) rfl (by kernel_rfl) (wgN rfl rfl rfl (by decide) (by kernel_rfl)) (fun _ _ _ h => h) hm52 ?_
    refine mP rfl ?_
    refine mgSkip (i := 8) rfl (by kernel_rfl) (wgN rfl rfl rfl (by decide) (by kernel_rfl)) (fun _ _ _ h => h) hm52 ?_
    refine mP rfl ?_
    refine mgSkip (i := 9) rfl (by kernel_rfl) (wgN rfl rfl rfl (by decide) (by kernel_rfl)) (fun _ _ _ h => h) hm52 ?_
    refine mP rfl ?_
    refine mk_ (i := 10) (v := .bool false) rfl rfl (fun _ _ _ h => h) hm52 rfl ?_
    refine mk_ (i := 11) (v := .bool false) rfl rfl (fun _ _ _ h => h) hm52 rfl ?_
    refine mgDone (by kernel_rfl) ?_
    refine then_normal (hK51 _ _ ?_)
    refine wpPrune [(6, .bool false), (7, .pointer (some ⟨g21, 0, none⟩)), (8, .pointer (some ⟨g24, 0, none⟩)), (9, .pointer (some ⟨g36, 0, none⟩)), (10, .pointer (some ⟨g37, 0, none⟩)), (11, .pointer (some ⟨g38, 0, none⟩)), (12, .int .i64 0), (13, .int .i64 (2 * (b.x - a.x))), (14, .int .i64 ((2 * (c.x - a.x)) - 1)), (15, .int .i64 ((2 * (c.x - a.x)) + 1)), (32, .int .i64 0), (33, .bool true), (34, .int .i64 0), (35, .int .i64 0), (36, .pointer (some ⟨g37, 0, none⟩)), (37, .int .i64 b.x), (38, .int .i64 0), (39, .pointer (some ⟨g36, 0, none⟩)), (40, .int .i64 a.x), (41, .int .i64 (b.x - a.x)), (42, .int .i64 (2 * (b.x - a.x))), (43, .int .i64 0), (44, .pointer (some ⟨g38, 0, none⟩)), (45, .int .i64 c.x), (46, .int .i64 0), (47, .pointer (some ⟨g36, 0, none⟩)), (48, .int .i64 a.x), (49, .int .i64 (c.x - a.x)), (50, .int .i64 (2 * (c.x - a.x))), (51, .int .i64 ((2 * (c.x - a.x)) - 1)), (52, .int .i64 0), (53, .pointer (some ⟨g38, 0, none⟩)), (54, .int .i64 c.x), (55, .int .i64 0), (56, .pointer (some ⟨g36, 0, none⟩)), (57, .int .i64 a.x), (58, .int .i64 (c.x - a.x)), (59, .int .i64 (2 * (c.x - a.x))), (60, .int .i64 ((2 * (c.x - a.x)) + 1)), (61, .bool false), (62, .int .i64 (2 * (b.x - a.x))), (63, .bool false), (64, .bool false), (72, .bool false)] ⟨litGet (by kernel_rfl), ⟨litGet (by kernel_rfl), ⟨litGet (by kernel_rfl), ⟨litGet (by kernel_rfl), ⟨litGet (by kernel_rfl), ⟨litGet (by kernel_rfl), ⟨litGet (by kernel_rfl), ⟨litGet (by kernel_rfl), ⟨litGet (by kernel_rfl), ⟨litGet (by kernel_rfl), ⟨litGet (by kernel_rfl), ⟨litGet (by kernel_rfl), ⟨litGet (by kernel_rfl), ⟨litGet (by kernel_rfl), ⟨litGet (by kernel_rfl), ⟨litGet (by kernel_rfl), ⟨litGet (by kernel_rfl), ⟨litGet (by kernel_rfl), ⟨litGet (by kernel_rfl), ⟨litGet (by kernel_rfl), ⟨litGet (by kernel_rfl), ⟨litGet (by kernel_rfl), ⟨litGet (by kernel_rfl), ⟨litGet (by kernel_rfl), ⟨litGet (by kernel_rfl), ⟨litGet (by kernel_rfl), ⟨litGet (by kernel_rfl), ⟨litGet (by kernel_rfl), ⟨litGet (by kernel_rfl), ⟨litGet (by kernel_rfl), ⟨litGet (by kernel_rfl), ⟨litGet (by kernel_rfl), ⟨litGet (by kernel_rfl), ⟨litGet (by kernel_rfl), ⟨litGet (by kernel_rfl), ⟨litGet (by kernel_rfl), ⟨litGet (by kernel_rfl), ⟨litGet (by kernel_rfl), ⟨litGet (by kernel_rfl), ⟨litGet (by kernel_rfl), ⟨litGet (by kernel_rfl), ⟨litGet (by kernel_rfl), ⟨litGet (by kernel_rfl), ⟨litGet (by kernel_rfl), trivial⟩⟩⟩⟩⟩⟩⟩⟩⟩⟩⟩⟩⟩⟩⟩⟩⟩⟩⟩⟩⟩⟩⟩⟩⟩⟩⟩⟩⟩⟩⟩⟩⟩⟩⟩⟩⟩⟩⟩⟩⟩⟩⟩⟩ (fun X58 => ?_)
    refine wp_cond_false (litEv (by kernel_rfl)) ?_
    refine wp_seq_k fun K59 hK59 => ?_
    refine plStart ?_
    refine lk (v := .int .i64 (2 * (b.x - a.x))) rfl rfl rfl ?_
    refine litVal (v := .bool false) rfl (wn rfl) (boolTo (decide_eq_false h54) (eqlRun (A := (2 * (b.x - a.x))) (B := 0) (.tmp 74) (.const (.int .i64 0)) rfl (litEv (by kernel_rfl)) (litEv (by kernel_rfl)))) rfl (by decide) ?_
    refine lk (v := .bool false) rfl rfl rfl ?_
    refine plD ?_
    refine then_normal (hK59 _ _ ?_)
    refine wp_cond_false (litEv (by kernel_rfl)) ?_
    refine wp_seq_k fun K60 hK60 => ?_
    refine plStart ?_
    refine lk (v := .int .i64 (2 * (b.x - a.x))) rfl rfl rfl ?_
    by_cases h61 : (2 * (b.x - a.x)) < 0
    · refine litVal (v := .bool true) rfl (wn rfl) (boolTo (decide_eq_true h61) (lssRun (A := (2 * (b.x - a.x))) (B := 0) (.tmp 77) (.const (.int .i64 0)) rfl (litEv (by kernel_rfl)) (litEv (by kernel_rfl)))) rfl (by decide) ?_
      refine lk (v := .bool true) rfl rfl rfl ?_
      refine plD ?_
      refine then_normal (hK60 _ _ ?_)
      refine wp_cond_true (litEv (by kernel_rfl)) ?_
      refine plStart ?_
      refine lk (v := .int .i64 (2 * (b.x - a.x))) rfl rfl rfl ?_
      refine litVal (v := .int .i64 (-(2 * (b.x - a.x)))) rfl (wn rfl) (gNeg (.tmp 79) rfl (litEv (by kernel_rfl)) (by omega)) rfl (by decide) ?_
      refine lk (v := .int .i64 ((2 * (c.x - a.x)) + 1)) rfl rfl rfl ?_
      refine litVal (v := .int .i64 (-((2 * (c.x - a.x)) + 1))) rfl (wn rfl) (gNeg (.tmp 81) rfl (litEv (by kernel_rfl)) (by omega)) rfl (by decide) ?_
      refine lk (v := .int .i64 ((2 * (c.x - a.x)) - 1)) rfl rfl rfl ?_
      refine litVal (v := .int .i64 (-((2 * (c.x - a.x)) - 1))) rfl (wn rfl) (gNeg (.tmp 83) rfl (litEv (by kernel_rfl)) (by omega)) rfl (by decide) ?_
      refine lk (v := .int .i64 (-(2 * (b.x - a.x)))) rfl rfl rfl ?_
      refine lk (v := .int .i64 (-((2 * (c.x - a.x)) + 1))) rfl rfl rfl ?_
      refine lk (v := .int .i64 (-((2 * (c.x - a.x)) - 1))) rfl rfl rfl ?_
      refine plD ?_
      refine inBlock_normal ?_
      refine then_normal (hK50 _ _ ?_)
      refine wp_seq_k fun K62 hK62 => ?_
      refine wp_seq_k fun K63 hK63 => ?_
      refine plStart ?_
      refine lk (v := .int .i64 (-((2 * (c.x - a.x)) + 1))) rfl rfl rfl ?_
      refine lk (v := .int .i64 (-(2 * (b.x - a.x)))) rfl rfl rfl ?_
      refine lk (v := .agg (tcs (-((2 * (c.x - a.x)) + 1), -(2 * (b.x - a.x)))).toArray) rfl rfl rfl ?_
      refine plAlloc (z := [.int .i64 0, .int .i64 0]) Ty.ag_voxel_ray_time hm52 (i := 3) rfl (wn rfl) rfl ?_
      intro g64 w66 hm65
      clear hm52
      try simp only [List.cons_append, List.nil_append, List.set_cons_succ, List.set_cons_zero] at hm65
      refine qP rfl ?_
      refine plStore 9 Ty.ag_voxel_ray_time hm65 rfl (i := 4) (cs := tcs (-((2 * (c.x - a.x)) + 1), -(2 * (b.x - a.x)))) rfl (wn rfl) rfl (litEv (by kernel_rfl)) (litEv (by kernel_rfl)) rfl rfl (by kernel_rfl) ?_
      intro w68 hm67
      clear hm65
      try simp only [List.cons_append, List.nil_append, List.set_cons_succ, List.set_cons_zero] at hm67
      refine qNone rfl ?_
      refine plD ?_
      refine then_normal (hK63 _ _ ?_)
      refine wp_seq_k fun K69 hK69 => ?_
      refine plStart ?_
      refine litVal (v := .agg (tcs (-1, 1)).toArray) rfl (wn rfl) (gLoadAg (vs := tcs (-1, 1)) (k := 0) 4 hm67 rfl (by kernel_rfl) (by kernel_rfl) (.tmp 7) Ty.ag_voxel_ray_time rfl (litEv (by kernel_rfl))) rfl (by decide) ?_
      refine litVal (v := .agg (tcs (-((2 * (c.x - a.x)) + 1), -(2 * (b.x - a.x)))).toArray) rfl (wn rfl) (gLoadAg (vs := tcs (-((2 * (c.x - a.x)) + 1), -(2 * (b.x - a.x)))) (k := 0) 9 hm67 rfl (by kernel_rfl) (by kernel_rfl) (.tmp 16) Ty.ag_voxel_ray_time rfl (litEv (by kernel_rfl))) rfl (by decide) ?_
      refine plCall (i := 2) 37 [.agg (tcs (-1, 1)).toArray, .agg (tcs (-((2 * (c.x - a.x)) + 1), -(2 * (b.x - a.x)))).toArray] [] [] rfl (by kernel_rfl) (wn rfl) rfl (litEv (by kernel_rfl)) (litArgs (by kernel_rfl)) (before_any (-1, 1) (-((2 * (c.x - a.x)) + 1), -(2 * (b.x - a.x))) (by unfold Tsm Tm30; simp only; omega) (by unfold Tsm Tm30; simp only; omega) _) ?_
      rintro e w70 ⟨rfl, hbz⟩
      have hm71 := hm67.below hbz
      clear hbz hm67
      refine ⟨_, rfl, ?_⟩
      refine qP rfl ?_
      rcases bool_or (tltb (-1, 1) (-((2 * (c.x - a.x)) + 1), -(2 * (b.x - a.x)))) with h72 | h72
      · rw [h72]
        refine plD ?_
        refine then_normal (hK69 _ _ ?_)
        refine wp_cond_false (litEv (by kernel_rfl)) ?_
        refine wp_skip ?_
        refine then_normal (hK62 _ _ ?_)
        refine wp_seq_k fun K73 hK73 => ?_
        refine plStart ?_
        refine lk (v := .int .i64 (-((2 * (c.x - a.x)) - 1))) rfl rfl rfl ?_
        refine lk (v := .int .i64 (-(2 * (b.x - a.x)))) rfl rfl rfl ?_
        refine lk (v := .agg (tcs (-((2 * (c.x - a.x)) - 1), -(2 * (b.x - a.x)))).toArray) rfl rfl rfl ?_
        refine plAlloc (z := [.int .i64 0, .int .i64 0]) Ty.ag_voxel_ray_time hm71 (i := 3) rfl (wn rfl) rfl ?_
        intro g74 w76 hm75
        clear hm71
        try simp only [List.cons_append, List.nil_append, List.set_cons_succ, List.set_cons_zero] at hm75
        refine qP rfl ?_
        refine plStore 10 Ty.ag_voxel_ray_time hm75 rfl (i := 4) (cs := tcs (-((2 * (c.x - a.x)) - 1), -(2 * (b.x - a.x)))) rfl (wn rfl) rfl (litEv (by kernel_rfl)) (litEv (by kernel_rfl)) rfl rfl (by kernel_rfl) ?_
        intro w78 hm77
        clear hm75
        try simp only [List.cons_append, List.nil_append, List.set_cons_succ, List.set_cons_zero] at hm77
        refine qNone rfl ?_
        refine plD ?_
        refine then_normal (hK73 _ _ ?_)
        refine wp_seq_k fun K79 hK79 => ?_
        refine plStart ?_
        refine litVal (v := .agg (tcs (-((2 * (c.x - a.x)) - 1), -(2 * (b.x - a.x)))).toArray) rfl (wn rfl) (gLoadAg (vs := tcs (-((2 * (c.x - a.x)) - 1), -(2 * (b.x - a.x)))) (k := 0) 10 hm77 rfl (by kernel_rfl) (by kernel_rfl) (.tmp 17) Ty.ag_voxel_ray_time rfl (litEv (by kernel_rfl))) rfl (by decide) ?_
        refine litVal (v := .agg (tcs (2, 1)).toArray) rfl (wn rfl) (gLoadAg (vs := tcs (2, 1)) (k := 0) 5 hm77 rfl (by kernel_rfl) (by kernel_rfl) (.tmp 8) Ty.ag_voxel_ray_time rfl (litEv (by kernel_rfl))) rfl (by decide) ?_
        refine plCall (i := 2) 37 [.agg (tcs (-((2 * (c.x - a.x)) - 1), -(2 * (b.x - a.x)))).toArray, .agg (tcs (2, 1)).toArray] [] [] rfl (by kernel_rfl) (wn rfl) rfl (litEv (by kernel_rfl)) (litArgs (by kernel_rfl)) (before_any (-((2 * (c.x - a.x)) - 1), -(2 * (b.x - a.x))) (2, 1) (by unfold Tsm Tm30; simp only; omega) (by unfold Tsm Tm30; simp only; omega) _) ?_
        rintro e w80 ⟨rfl, hbz⟩
        have hm81 := hm77.below hbz
        clear hbz hm77
        refine ⟨_, rfl, ?_⟩
        refine qP rfl ?_
        rcases bool_or (tltb (-((2 * (c.x - a.x)) - 1), -(2 * (b.x - a.x))) (2, 1)) with h82 | h82
        · rw [h82]
          refine plD ?_
          refine then_normal (hK79 _ _ ?_)
          refine wp_cond_false (litEv (by kernel_rfl)) ?_
          refine wp_skip ?_
          refine inBlock_normal ?_
          refine then_normal ?_
          have ea_ : tcs M1.a = tcs (-1, 1) := by rw [← hM1]; simp [stepC, alongP, btw0, Btw.meet, tcs, h54, h61, h72, h82]
          have eb_ : tcs M1.b = tcs (2, 1) := by rw [← hM1]; simp [stepC, alongP, btw0, Btw.meet, tcs, h54, h61, h72, h82]
          exact ⟨(by unfold crossOff; omega), ⟨litSize, rfl, ⟨litGet (by kernel_rfl), ⟨litGet (by kernel_rfl), ⟨litGet (by kernel_rfl), ⟨litGet (by kernel_rfl), ⟨litGet (by kernel_rfl), ⟨litGet (by kernel_rfl), ⟨litGet (by kernel_rfl), trivial⟩⟩⟩⟩⟩⟩⟩⟩, (by rw [ea_, eb_]; exact (hm81.firsts 9))⟩
        rw [h82]
        refine plD ?_
        refine then_normal (hK79 _ _ ?_)
        refine wp_cond_true (litEv (by kernel_rfl)) ?_
        refine plStart ?_
        refine litVal (v := .agg (tcs (-((2 * (c.x - a.x)) - 1), -(2 * (b.x - a.x)))).toArray) rfl (wn rfl) (gLoadAg (vs := tcs (-((2 * (c.x - a.x)) - 1), -(2 * (b.x - a.x)))) (k := 0) 10 hm81 rfl (by kernel_rfl) (by kernel_rfl) (.tmp 17) Ty.ag_voxel_ray_time rfl (litEv (by kernel_rfl))) rfl (by decide) ?_
        refine plStore 5 Ty.ag_voxel_ray_time hm81 rfl (i := 1) (cs := tcs (-((2 * (c.x - a.x)) - 1), -(2 * (b.x - a.x)))) rfl (wn rfl) rfl (litEv (by kernel_rfl)) (litEv (by kernel_rfl)) rfl rfl (by kernel_rfl) ?_
        intro w84 hm83
        clear hm81
        try simp only [List.cons_append, List.nil_append, List.set_cons_succ, List.set_cons_zero] at hm83
        refine qNone rfl ?_
        refine plD ?_
        refine inBlock_normal ?_
        refine then_normal ?_
        have ea_ : tcs M1.a = tcs (-1, 1) := by rw [← hM1]; simp [stepC, alongP, btw0, Btw.meet, tcs, h54, h61, h72, h82]
        have eb_ : tcs M1.b = tcs (-((2 * (c.x - a.x)) - 1), -(2 * (b.x - a.x))) := by rw [← hM1]; simp [stepC, alongP, btw0, Btw.meet, tcs, h54, h61, h72, h82]
        exact ⟨(by unfold crossOff; omega), ⟨litSize, rfl, ⟨litGet (by kernel_rfl), ⟨litGet (by kernel_rfl), ⟨litGet (by kernel_rfl), ⟨litGet (by kernel_rfl), ⟨litGet (by kernel_rfl), ⟨litGet (by kernel_rfl), ⟨litGet (by kernel_rfl), trivial⟩⟩⟩⟩⟩⟩⟩⟩, (by rw [ea_, eb_]; exact (hm83.firsts 9))⟩
      rw [h72]
      refine plD ?_
      refine then_normal (hK69 _ _ ?_)
      refine wp_cond_true (litEv (by kernel_rfl)) ?_
      refine plStart ?_
      refine litVal (v := .agg (tcs (-((2 * (c.x - a.x)) + 1), -(2 * (b.x - a.x)))).toArray) rfl (wn rfl) (gLoadAg (vs := tcs (-((2 * (c.x - a.x)) + 1), -(2 * (b.x - a.x)))) (k := 0) 9 hm71 rfl (by kernel_rfl) (by kernel_rfl) (.tmp 16) Ty.ag_voxel_ray_time rfl (litEv (by kernel_rfl))) rfl (by decide) ?_
      refine plStore 4 Ty.ag_voxel_ray_time hm71 rfl (i := 1) (cs := tcs (-((2 * (c.x - a.x)) + 1), -(2 * (b.x - a.x)))) rfl (wn rfl) rfl (litEv (by kernel_rfl)) (litEv (by kernel_rfl)) rfl rfl (by kernel_rfl) ?_
      intro w86 hm85
      clear hm71
      try simp only [List.cons_append, List.nil_append, List.set_cons_succ, List.set_cons_zero] at hm85
      refine qNone rfl ?_
      refine plD ?_
      refine then_normal (hK62 _ _ ?_)
      refine wp_seq_k fun K87 hK87 => ?_
      refine plStart ?_
      refine lk (v := .int .i64 (-((2 * (c.x - a.x)) - 1))) rfl rfl rfl ?_
      refine lk (v := .int .i64 (-(2 * (b.x - a.x)))) rfl rfl rfl ?_
      refine lk (v := .agg (tcs (-((2 * (c.x - a.x)) - 1), -(2 * (b.x - a.x)))).toArray) rfl rfl rfl ?_
      refine plAlloc (z := [.int .i64 0, .int .i64 0]) Ty.ag_voxel_ray_time hm85 (i := 3) rfl (wn rfl) rfl ?_
      intro g88 w90 hm89
      clear hm85
      try simp only [List.cons_append, List.nil_append, List.set_cons_succ, List.set_cons_zero] at hm89
      refine qP rfl ?_
      refine plStore 10 Ty.ag_voxel_ray_time hm89 rfl (i := 4) (cs := tcs (-((2 * (c.x - a.x)) - 1), -(2 * (b.x - a.x)))) rfl (wn rfl) rfl (litEv (by kernel_rfl)) (litEv (by kernel_rfl)) rfl rfl (by kernel_rfl) ?_
      intro w92 hm91
      clear hm89
      try simp only [List.cons_append, List.nil_append, List.set_cons_succ, List.set_cons_zero] at hm91
      refine qNone rfl ?_
      refine plD ?_
      refine then_normal (hK87 _ _ ?_)
      refine wp_seq_k fun K93 hK93 => ?_
      refine plStart ?_
      refine litVal (v := .agg (tcs (-((2 * (c.x - a.x)) - 1), -(2 * (b.x - a.x)))).toArray) rfl (wn rfl) (gLoadAg (vs := tcs (-((2 * (c.x - a.x)) - 1), -(2 * (b.x - a.x)))) (k := 0) 10 hm91 rfl (by kernel_rfl) (by kernel_rfl) (.tmp 17) Ty.ag_voxel_ray_time rfl (litEv (by kernel_rfl))) rfl (by decide) ?_
      refine litVal (v := .agg (tcs (2, 1)).toArray) rfl (wn rfl) (gLoadAg (vs := tcs (2, 1)) (k := 0) 5 hm91 rfl (by kernel_rfl) (by kernel_rfl) (.tmp 8) Ty.ag_voxel_ray_time rfl (litEv (by kernel_rfl))) rfl (by decide) ?_
      refine plCall (i := 2) 37 [.agg (tcs (-((2 * (c.x - a.x)) - 1), -(2 * (b.x - a.x)))).toArray, .agg (tcs (2, 1)).toArray] [] [] rfl (by kernel_rfl) (wn rfl) rfl (litEv (by kernel_rfl)) (litArgs (by kernel_rfl)) (before_any (-((2 * (c.x - a.x)) - 1), -(2 * (b.x - a.x))) (2, 1) (by unfold Tsm Tm30; simp only; omega) (by unfold Tsm Tm30; simp only; omega) _) ?_
      rintro e w94 ⟨rfl, hbz⟩
      have hm95 := hm91.below hbz
      clear hbz hm91
      refine ⟨_, rfl, ?_⟩
      refine qP rfl ?_
      rcases bool_or (tltb (-((2 * (c.x - a.x)) - 1), -(2 * (b.x - a.x))) (2, 1)) with h96 | h96
      · rw [h96]
        refine plD ?_
        refine then_normal (hK93 _ _ ?_)
        refine wp_cond_false (litEv (by kernel_rfl)) ?_
        refine wp_skip ?_
        refine inBlock_normal ?_
        refine then_normal ?_
        have ea_ : tcs M1.a = tcs (-((2 * (c.x - a.x)) + 1), -(2 * (b.x - a.x))) := by rw [← hM1]; simp [stepC, alongP, btw0, Btw.meet, tcs, h54, h61, h72, h96]
        have eb_ : tcs M1.b = tcs (2, 1) := by rw [← hM1]; simp [stepC, alongP, btw0, Btw.meet, tcs, h54, h61, h72, h96]
        exact ⟨(by unfold crossOff; omega), ⟨litSize, rfl, ⟨litGet (by kernel_rfl), ⟨litGet (by kernel_rfl), ⟨litGet (by kernel_rfl), ⟨litGet (by kernel_rfl), ⟨litGet (by kernel_rfl), ⟨litGet (by kernel_rfl), ⟨litGet (by kernel_rfl), trivial⟩⟩⟩⟩⟩⟩⟩⟩, (by rw [ea_, eb_]; exact (hm95.firsts 9))⟩
      rw [h96]
      refine plD ?_
      refine then_normal (hK93 _ _ ?_)
      refine wp_cond_true (litEv (by kernel_rfl)) ?_
      refine plStart ?_
      refine litVal (v := .agg (tcs (-((2 * (c.x - a.x)) - 1), -(2 * (b.x - a.x)))).toArray) rfl (wn rfl) (gLoadAg (vs := tcs (-((2 * (c.x - a.x)) - 1), -(2 * (b.x - a.x)))) (k := 0) 10 hm95 rfl (by kernel_rfl) (by kernel_rfl) (.tmp 17) Ty.ag_voxel_ray_time rfl (litEv (by kernel_rfl))) rfl (by decide) ?_
      refine plStore 5 Ty.ag_voxel_ray_time hm95 rfl (i := 1) (cs := tcs (-((2 * (c.x - a.x)) - 1), -(2 * (b.x - a.x)))) rfl (wn rfl) rfl (litEv (by kernel_rfl)) (litEv (by kernel_rfl)) rfl rfl (by kernel_rfl) ?_
      intro w98 hm97
      clear hm95
      try simp only [List.cons_append, List.nil_append, List.set_cons_succ, List.set_cons_zero] at hm97
      refine qNone rfl ?_
      refine plD ?_
      refine inBlock_normal ?_
      refine then_normal ?_
      have ea_ : tcs M1.a = tcs (-((2 * (c.x - a.x)) + 1), -(2 * (b.x - a.x))) := by rw [← hM1]; simp [stepC, alongP, btw0, Btw.meet, tcs, h54, h61, h72, h96]
      have eb_ : tcs M1.b = tcs (-((2 * (c.x - a.x)) - 1), -(2 * (b.x - a.x))) := by rw [← hM1]; simp [stepC, alongP, btw0, Btw.meet, tcs, h54, h61, h72, h96]
      exact ⟨(by unfold crossOff; omega), ⟨litSize, rfl, ⟨litGet (by kernel_rfl), ⟨litGet (by kernel_rfl), ⟨litGet (by kernel_rfl), ⟨litGet (by kernel_rfl), ⟨litGet (by kernel_rfl), ⟨litGet (by kernel_rfl), ⟨litGet (by kernel_rfl), trivial⟩⟩⟩⟩⟩⟩⟩⟩, (by rw [ea_, eb_]; exact (hm97.firsts 9))⟩
    refine litVal (v := .bool false) rfl (wn rfl) (boolTo (decide_eq_false h61) (lssRun (A := (2 * (b.x - a.x))) (B := 0) (.tmp 77) (.const (.int .i64 0)) rfl (litEv (by kernel_rfl)) (litEv (by kernel_rfl)))) rfl (by decide) ?_
    refine lk (v := .bool false) rfl rfl rfl ?_
    refine plD ?_
    refine then_normal (hK60 _ _ ?_)
    refine wp_cond_false (litEv (by kernel_rfl)) ?_
    refine wp_skip ?_
    refine inBlock_normal ?_
    refine then_normal (hK50 _ _ ?_)
    refine wp_seq_k fun K99 hK99 => ?_
    refine wp_seq_k fun K100 hK100 => ?_
    refine plStart ?_
    refine lk (v := .int .i64 ((2 * (c.x - a.x)) - 1)) rfl rfl rfl ?_
    refine lk (v := .int .i64 (2 * (b.x - a.x))) rfl rfl rfl ?_
    refine lk (v := .agg (tcs ((2 * (c.x - a.x)) - 1, 2 * (b.x - a.x))).toArray) rfl rfl rfl ?_
    refine plAlloc (z := [.int .i64 0, .int .i64 0]) Ty.ag_voxel_ray_time hm52 (i := 3) rfl (wn rfl) rfl ?_
    intro g101 w103 hm102
    clear hm52
    try simp only [List.cons_append, List.nil_append, List.set_cons_succ, List.set_cons_zero] at hm102
    refine qP rfl ?_
    refine plStore 9 Ty.ag_voxel_ray_time hm102 rfl (i := 4) (cs := tcs ((2 * (c.x - a.x)) - 1, 2 * (b.x - a.x))) rfl (wn rfl) rfl (litEv (by kernel_rfl)) (litEv (by kernel_rfl)) rfl rfl (by kernel_rfl) ?_
    intro w105 hm104
    clear hm102
    try simp only [List.cons_append, List.nil_append, List.set_cons_succ, List.set_cons_zero] at hm104
    refine qNone rfl ?_
    refine plD ?_
    refine then_normal (hK100 _ _ ?_)
    refine wp_seq_k fun K106 hK106 => ?_
    refine plStart ?_
    refine litVal (v := .agg (tcs (-1, 1)).toArray) rfl (wn rfl) (gLoadAg (vs := tcs (-1, 1)) (k := 0) 4 hm104 rfl (by kernel_rfl) (by kernel_rfl) (.tmp 7) Ty.ag_voxel_ray_time rfl (litEv (by kernel_rfl))) rfl (by decide) ?_
    refine litVal (v := .agg (tcs ((2 * (c.x - a.x)) - 1, 2 * (b.x - a.x))).toArray) rfl (wn rfl) (gLoadAg (vs := tcs ((2 * (c.x - a.x)) - 1, 2 * (b.x - a.x))) (k := 0) 9 hm104 rfl (by kernel_rfl) (by kernel_rfl) (.tmp 16) Ty.ag_voxel_ray_time rfl (litEv (by kernel_rfl))) rfl (by decide) ?_
    refine plCall (i := 2) 37 [.agg (tcs (-1, 1)).toArray, .agg (tcs ((2 * (c.x - a.x)) - 1, 2 * (b.x - a.x))).toArray] [] [] rfl (by kernel_rfl) (wn rfl) rfl (litEv (by kernel_rfl)) (litArgs (by kernel_rfl)) (before_any (-1, 1) ((2 * (c.x - a.x)) - 1, 2 * (b.x - a.x)) (by unfold Tsm Tm30; simp only; omega) (by unfold Tsm Tm30; simp only; omega) _) ?_
    rintro e w107 ⟨rfl, hbz⟩
    have hm108 := hm104.below hbz
    clear hbz hm104
    refine ⟨_, rfl, ?_⟩
    refine qP rfl ?_
    rcases bool_or (tltb (-1, 1) ((2 * (c.x - a.x)) - 1, 2 * (b.x - a.x))) with h109 | h109
    · rw [h109]
      refine plD ?_
      refine then_normal (hK106 _ _ ?_)
      refine wp_cond_false (litEv (by kernel_rfl)) ?_
      refine wp_skip ?_
      refine then_normal (hK99 _ _ ?_)
      refine wp_seq_k fun K110 hK110 => ?_
      refine plStart ?_
      refine lk (v := .int .i64 ((2 * (c.x - a.x)) + 1)) rfl rfl rfl ?_
      refine lk (v := .int .i64 (2 * (b.x - a.x))) rfl rfl rfl ?_
      refine lk (v := .agg (tcs ((2 * (c.x - a.x)) + 1, 2 * (b.x - a.x))).toArray) rfl rfl rfl ?_
      refine plAlloc (z := [.int .i64 0, .int .i64 0]) Ty.ag_voxel_ray_time hm108 (i := 3) rfl (wn rfl) rfl ?_
      intro g111 w113 hm112
      clear hm108
      try simp only [List.cons_append, List.nil_append, List.set_cons_succ, List.set_cons_zero] at hm112
      refine qP rfl ?_
      refine plStore 10 Ty.ag_voxel_ray_time hm112 rfl (i := 4) (cs := tcs ((2 * (c.x - a.x)) + 1, 2 * (b.x - a.x))) rfl (wn rfl) rfl (litEv (by kernel_rfl)) (litEv (by kernel_rfl)) rfl rfl (by kernel_rfl) ?_
      intro w115 hm114
      clear hm112
      try simp only [List.cons_append, List.nil_append, List.set_cons_succ, List.set_cons_zero] at hm114
      refine qNone rfl ?_
      refine plD ?_
      refine then_normal (hK110 _ _ ?_)
      refine wp_seq_k fun K116 hK116 => ?_
      refine plStart ?_
      refine litVal (v := .agg (tcs ((2 * (c.x - a.x)) + 1, 2 * (b.x - a.x))).toArray) rfl (wn rfl) (gLoadAg (vs := tcs ((2 * (c.x - a.x)) + 1, 2 * (b.x - a.x))) (k := 0) 10 hm114 rfl (by kernel_rfl) (by kernel_rfl) (.tmp 17) Ty.ag_voxel_ray_time rfl (litEv (by kernel_rfl))) rfl (by decide) ?_
      refine litVal (v := .agg (tcs (2, 1)).toArray) rfl (wn rfl) (gLoadAg (vs := tcs (2, 1)) (k := 0) 5 hm114 rfl (by kernel_rfl) (by kernel_rfl) (.tmp 8) Ty.ag_voxel_ray_time rfl (litEv (by kernel_rfl))) rfl (by decide) ?_
      refine plCall (i := 2) 37 [.agg (tcs ((2 * (c.x - a.x)) + 1, 2 * (b.x - a.x))).toArray, .agg (tcs (2, 1)).toArray] [] [] rfl (by kernel_rfl) (wn rfl) rfl (litEv (by kernel_rfl)) (litArgs (by kernel_rfl)) (before_any ((2 * (c.x - a.x)) + 1, 2 * (b.x - a.x)) (2, 1) (by unfold Tsm Tm30; simp only; omega) (by unfold Tsm Tm30; simp only; omega) _) ?_
      rintro e w117 ⟨rfl, hbz⟩
      have hm118 := hm114.below hbz
      clear hbz hm114
      refine ⟨_, rfl, ?_⟩
      refine qP rfl ?_
      rcases bool_or (tltb ((2 * (c.x - a.x)) + 1, 2 * (b.x - a.x)) (2, 1)) with h119 | h119
      · rw [h119]
        refine plD ?_
        refine then_normal (hK116 _ _ ?_)
        refine wp_cond_false (litEv (by kernel_rfl)) ?_
        refine wp_skip ?_
        refine inBlock_normal ?_
        refine then_normal ?_
        have ea_ : tcs M1.a = tcs (-1, 1) := by rw [← hM1]; simp [stepC, alongP, btw0, Btw.meet, tcs, h54, h61, h109, h119]
        have eb_ : tcs M1.b = tcs (2, 1) := by rw [← hM1]; simp [stepC, alongP, btw0, Btw.meet, tcs, h54, h61, h109, h119]
        exact ⟨(by unfold crossOff; omega), ⟨litSize, rfl, ⟨litGet (by kernel_rfl), ⟨litGet (by kernel_rfl), ⟨litGet (by kernel_rfl), ⟨litGet (by kernel_rfl), ⟨litGet (by kernel_rfl), ⟨litGet (by kernel_rfl), ⟨litGet (by kernel_rfl), trivial⟩⟩⟩⟩⟩⟩⟩⟩, (by rw [ea_, eb_]; exact (hm118.firsts 9))⟩
      rw [h119]
      refine plD ?_
      refine then_normal (hK116 _ _ ?_)
      refine wp_cond_true (litEv (by kernel_rfl)) ?_
      refine plStart ?_
      refine litVal (v := .agg (tcs ((2 * (c.x - a.x)) + 1, 2 * (b.x - a.x))).toArray) rfl (wn rfl) (gLoadAg (vs := tcs ((2 * (c.x - a.x)) + 1, 2 * (b.x - a.x))) (k := 0) 10 hm118 rfl (by kernel_rfl) (by kernel_rfl) (.tmp 17) Ty.ag_voxel_ray_time rfl (litEv (by kernel_rfl))) rfl (by decide) ?_
      refine plStore 5 Ty.ag_voxel_ray_time hm118 rfl (i := 1) (cs := tcs ((2 * (c.x - a.x)) + 1, 2 * (b.x - a.x))) rfl (wn rfl) rfl (litEv (by kernel_rfl)) (litEv (by kernel_rfl)) rfl rfl (by kernel_rfl) ?_
      intro w121 hm120
      clear hm118
      try simp only [List.cons_append, List.nil_append, List.set_cons_succ, List.set_cons_zero] at hm120
      refine qNone rfl ?_
      refine plD ?_
      refine inBlock_normal ?_
      refine then_normal ?_
      have ea_ : tcs M1.a = tcs (-1, 1) := by rw [← hM1]; simp [stepC, alongP, btw0, Btw.meet, tcs, h54, h61, h109, h119]
      have eb_ : tcs M1.b = tcs ((2 * (c.x - a.x)) + 1, 2 * (b.x - a.x)) := by rw [← hM1]; simp [stepC, alongP, btw0, Btw.meet, tcs, h54, h61, h109, h119]
      exact ⟨(by unfold crossOff; omega), ⟨litSize, rfl, ⟨litGet (by kernel_rfl), ⟨litGet (by kernel_rfl), ⟨litGet (by kernel_rfl), ⟨litGet (by kernel_rfl), ⟨litGet (by kernel_rfl), ⟨litGet (by kernel_rfl), ⟨litGet (by kernel_rfl), trivial⟩⟩⟩⟩⟩⟩⟩⟩, (by rw [ea_, eb_]; exact (hm120.firsts 9))⟩
    rw [h109]
    refine plD ?_
    refine then_normal (hK106 _ _ ?_)
    refine wp_cond_true (litEv (by kernel_rfl)) ?_
    refine plStart ?_
    refine litVal (v := .agg (tcs ((2 * (c.x - a.x)) - 1, 2 * (b.x - a.x))).toArray) rfl (wn rfl) (gLoadAg (vs := tcs ((2 * (c.x - a.x)) - 1, 2 * (b.x - a.x))) (k := 0) 9 hm108 rfl (by kernel_rfl) (by kernel_rfl) (.tmp 16) Ty.ag_voxel_ray_time rfl (litEv (by kernel_rfl))) rfl (by decide) ?_
    refine plStore 4 Ty.ag_voxel_ray_time hm108 rfl (i := 1) (cs := tcs ((2 * (c.x - a.x)) - 1, 2 * (b.x - a.x))) rfl (wn rfl) rfl (litEv (by kernel_rfl)) (litEv (by kernel_rfl)) rfl rfl (by kernel_rfl) ?_
    intro w123 hm122
    clear hm108
    try simp only [List.cons_append, List.nil_append, List.set_cons_succ, List.set_cons_zero] at hm122
    refine qNone rfl ?_
    refine plD ?_
    refine then_normal (hK99 _ _ ?_)
    refine wp_seq_k fun K124 hK124 => ?_
    refine plStart ?_
    refine lk (v := .int .i64 ((2 * (c.x - a.x)) + 1)) rfl rfl rfl ?_
    refine lk (v := .int .i64 (2 * (b.x - a.x))) rfl rfl rfl ?_
    refine lk (v := .agg (tcs ((2 * (c.x - a.x)) + 1, 2 * (b.x - a.x))).toArray) rfl rfl rfl ?_
    refine plAlloc (z := [.int .i64 0, .int .i64 0]) Ty.ag_voxel_ray_time hm122 (i := 3) rfl (wn rfl) rfl ?_
    intro g125 w127 hm126
    clear hm122
    try simp only [List.cons_append, List.nil_append, List.set_cons_succ, List.set_cons_zero] at hm126
    refine qP rfl ?_
    refine plStore 10 Ty.ag_voxel_ray_time hm126 rfl (i := 4) (cs := tcs ((2 * (c.x - a.x)) + 1, 2 * (b.x - a.x))) rfl (wn rfl) rfl (litEv (by kernel_rfl)) (litEv (by kernel_rfl)) rfl rfl (by kernel_rfl) ?_
    intro w129 hm128
    clear hm126
    try simp only [List.cons_append, List.nil_append, List.set_cons_succ, List.set_cons_zero] at hm128
    refine qNone rfl ?_
    refine plD ?_
    refine then_normal (hK124 _ _ ?_)
    refine wp_seq_k fun K130 hK130 => ?_
    refine plStart ?_
    refine litVal (v := .agg (tcs ((2 * (c.x - a.x)) + 1, 2 * (b.x - a.x))).toArray) rfl (wn rfl) (gLoadAg (vs := tcs ((2 * (c.x - a.x)) + 1, 2 * (b.x - a.x))) (k := 0) 10 hm128 rfl (by kernel_rfl) (by kernel_rfl) (.tmp 17) Ty.ag_voxel_ray_time rfl (litEv (by kernel_rfl))) rfl (by decide) ?_
    refine litVal (v := .agg (tcs (2, 1)).toArray) rfl (wn rfl) (gLoadAg (vs := tcs (2, 1)) (k := 0) 5 hm128 rfl (by kernel_rfl) (by kernel_rfl) (.tmp 8) Ty.ag_voxel_ray_time rfl (litEv (by kernel_rfl))) rfl (by decide) ?_
    refine plCall (i := 2) 37 [.agg (tcs ((2 * (c.x - a.x)) + 1, 2 * (b.x - a.x))).toArray, .agg (tcs (2, 1)).toArray] [] [] rfl (by kernel_rfl) (wn rfl) rfl (litEv (by kernel_rfl)) (litArgs (by kernel_rfl)) (before_any ((2 * (c.x - a.x)) + 1, 2 * (b.x - a.x)) (2, 1) (by unfold Tsm Tm30; simp only; omega) (by unfold Tsm Tm30; simp only; omega) _) ?_
    rintro e w131 ⟨rfl, hbz⟩
    have hm132 := hm128.below hbz
    clear hbz hm128
    refine ⟨_, rfl, ?_⟩
    refine qP rfl ?_
    rcases bool_or (tltb ((2 * (c.x - a.x)) + 1, 2 * (b.x - a.x)) (2, 1)) with h133 | h133
    · rw [h133]
      refine plD ?_
      refine then_normal (hK130 _ _ ?_)
      refine wp_cond_false (litEv (by kernel_rfl)) ?_
      refine wp_skip ?_
      refine inBlock_normal ?_
      refine then_normal ?_
      have ea_ : tcs M1.a = tcs ((2 * (c.x - a.x)) - 1, 2 * (b.x - a.x)) := by rw [← hM1]; simp [stepC, alongP, btw0, Btw.meet, tcs, h54, h61, h109, h133]
      have eb_ : tcs M1.b = tcs (2, 1) := by rw [← hM1]; simp [stepC, alongP, btw0, Btw.meet, tcs, h54, h61, h109, h133]
      exact ⟨(by unfold crossOff; omega), ⟨litSize, rfl, ⟨litGet (by kernel_rfl), ⟨litGet (by kernel_rfl), ⟨litGet (by kernel_rfl), ⟨litGet (by kernel_rfl), ⟨litGet (by kernel_rfl), ⟨litGet (by kernel_rfl), ⟨litGet (by kernel_rfl), trivial⟩⟩⟩⟩⟩⟩⟩⟩, (by rw [ea_, eb_]; exact (hm132.firsts 9))⟩
    rw [h133]
    refine plD ?_
    refine then_normal (hK130 _ _ ?_)
    refine wp_cond_true (litEv (by kernel_rfl)) ?_
    refine plStart ?_
    refine litVal (v := .agg (tcs ((2 * (c.x - a.x)) + 1, 2 * (b.x - a.x))).toArray) rfl (wn rfl) (gLoadAg (vs := tcs ((2 * (c.x - a.x)) + 1, 2 * (b.x - a.x))) (k := 0) 10 hm132 rfl (by kernel_rfl) (by kernel_rfl) (.tmp 17) Ty.ag_voxel_ray_time rfl (litEv (by kernel_rfl))) rfl (by decide) ?_
    refine plStore 5 Ty.ag_voxel_ray_time hm132 rfl (i := 1) (cs := tcs ((2 * (c.x - a.x)) + 1, 2 * (b.x - a.x))) rfl (wn rfl) rfl (litEv (by kernel_rfl)) (litEv (by kernel_rfl)) rfl rfl (by kernel_rfl) ?_
    intro w135 hm134
    clear hm132
    try simp only [List.cons_append, List.nil_append, List.set_cons_succ, List.set_cons_zero] at hm134
    refine qNone rfl ?_
    refine plD ?_
    refine inBlock_normal ?_
    refine then_normal ?_
    have ea_ : tcs M1.a = tcs ((2 * (c.x - a.x)) - 1, 2 * (b.x - a.x)) := by rw [← hM1]; simp [stepC, alongP, btw0, Btw.meet, tcs, h54, h61, h109, h133]
    have eb_ : tcs M1.b = tcs ((2 * (c.x - a.x)) + 1, 2 * (b.x - a.x)) := by rw [← hM1]; simp [stepC, alongP, btw0, Btw.meet, tcs, h54, h61, h109, h133]
    exact ⟨(by unfold crossOff; omega), ⟨litSize, rfl, ⟨litGet (by kernel_rfl), ⟨litGet (by kernel_rfl), ⟨litGet (by kernel_rfl), ⟨litGet (by kernel_rfl), ⟨litGet (by kernel_rfl), ⟨litGet (by kernel_rfl), ⟨litGet (by kernel_rfl), trivial⟩⟩⟩⟩⟩⟩⟩⟩, (by rw [ea_, eb_]; exact (hm134.firsts 9))⟩
  clear hm35
  intro a138 w136 hI_
  obtain ⟨hox_, hF_, hm137⟩ := hI_
  obtain ⟨X139, rfl⟩ := frLit hF_
  clear hF_
  refine plStart ?_
  refine lk (v := .int .i64 1) rfl rfl rfl ?_
  refine lk (v := .int .i64 1) rfl rfl rfl ?_
  refine plD ?_
  refine then_normal (roundsNext ?_)
  refine wp_seq_k fun K140 hK140 => ?_
  refine plStart ?_
  refine lk (v := .bool true) rfl rfl rfl ?_
  refine plD ?_
  refine then_normal (hK140 _ _ ?_)
  refine wp_seq_k fun K141 hK141 => ?_
  refine wp_cond_true (litEv (by kernel_rfl)) ?_
  refine wp_skip ?_
  refine then_normal (hK141 _ _ ?_)
  refine gwCut (fun a_ w_ => (¬ crossOff a.y b.y c.y) ∧ Fr a_ 113 [(7, .pointer (some ⟨g21, 0, none⟩)), (8, .pointer (some ⟨g24, 0, none⟩)), (9, .pointer (some ⟨g36, 0, none⟩)), (10, .pointer (some ⟨g37, 0, none⟩)), (11, .pointer (some ⟨g38, 0, none⟩)), (32, .int .i64 1), (33, .bool true), (99, .int .i64 1)] ∧ Mem w w_ [.arr g2 23 (pcs a), .arr g5 23 (pcs b), .arr g8 23 (pcs c), .arr g13 23 ([.int .i64 a.x, .int .i64 a.y, .int .i64 a.z, .int .i64 b.x, .int .i64 b.y, .int .i64 b.z, .int .i64 c.x, .int .i64 c.y, .int .i64 c.z]), .arr g21 70 (tcs M2.a), .arr g24 70 (tcs M2.b), .arr g36 71 (pcs a), .arr g37 71 (pcs b), .arr g38 71 (pcs c)]) ?_ ?_
  · refine wp_block ?_
    refine wp_seq_k fun K142 hK142 => ?_
    refine plStart ?_
    refine lk (v := .int .i64 1) rfl rfl rfl ?_
    refine lk (v := .int .i64 1) rfl rfl rfl ?_
    refine plD ?_
    refine then_normal (hK142 _ _ ?_)
    refine wp_seq_k fun K143 hK143 => ?_
    refine mgStart hm137 (by kernel_rfl) ?_
    intro w145 hm144
    clear hm137
    refine mk_ (i := 0) (v := .int .i64 1) rfl rfl (fun _ _ _ h => h) hm144 rfl ?_
    refine mgTake (i := 1) (v := .pointer (some ⟨g37, 1, none⟩)) rfl (by kernel_rfl) (wn rfl) (fun _ _ _ h => h) hm144 (fun w_ h_ => iaRun (b := g37) (off := 0) (s := 1) (n := 3) (kk := .i64) (.tmp 10) (.tmp 35) 1 Ty.und_3_int (by kernel_rfl) rfl (litEv (by kernel_rfl)) (litEv (by kernel_rfl)) rfl (by decide)) ?_
    refine mP rfl ?_
    refine mgTake (i := 2) (v := .int .i64 b.y) rfl (by kernel_rfl) (wn rfl) (fun _ _ _ h => h) hm144 (fun w_ h_ => gLoad (v := .int .i64 b.y) (k := 1) 7 h_ rfl (by kernel_rfl) (.tmp 36) (by kernel_rfl) rfl (litEv (by kernel_rfl))) ?_
    refine mP rfl ?_
    refine mk_ (i := 3) (v := .int .i64 1) rfl rfl (fun _ _ _ h => h) hm144 rfl ?_
    refine mgTake (i := 4) (v := .pointer (some ⟨g36, 1, none⟩)) rfl (by kernel_rfl) (wn rfl) (fun _ _ _ h => h) hm144 (fun w_ h_ => iaRun (b := g36) (off := 0) (s := 1) (n := 3) (kk := .i64) (.tmp 9) (.tmp 38) 1 Ty.und_3_int (by kernel_rfl) rfl (litEv (by kernel_rfl)) (litEv (by kernel_rfl)) rfl (by decide)) ?_
    refine mP rfl ?_
    refine mgTake (i := 5) (v := .int .i64 a.y) rfl (by kernel_rfl) (wn rfl) (fun _ _ _ h => h) hm144 (fun w_ h_ => gLoad (v := .int .i64 a.y) (k := 1) 6 h_ rfl (by kernel_rfl) (.tmp 39) (by kernel_rfl) rfl (litEv (by kernel_rfl))) ?_
    refine mP rfl ?_
    refine mgTake (i := 6) (v := .int .i64 (b.y - a.y)) rfl (by kernel_rfl) (wn rfl) (fun _ _ _ h => h) hm144 (fun w_ h_ => subRun (A := b.y) (B := a.y) (C := b.y - a.y) (.tmp 37) (.tmp 40) rfl (litEv (by kernel_rfl)) (litEv (by kernel_rfl)) rfl (by omega)) ?_
    refine mP rfl ?_
    refine mgTake (i := 7) (v := .int .i64 (2 * (b.y - a.y))) rfl (by kernel_rfl) (wn rfl) (fun _ _ _ h => h) hm144 (fun w_ h_ => mulRun (A := 2) (B := (b.y - a.y)) (C := 2 * (b.y - a.y)) (.const (.int .i64 2)) (.tmp 41) rfl (litEv (by kernel_rfl)) (litEv (by kernel_rfl)) rfl (by omega)) ?_
    refine mP rfl ?_
    refine mk_ (i := 8) (v := .int .i64 (2 * (b.y - a.y))) rfl rfl (fun _ _ _ h => h) hm144 rfl ?_
    refine mgDone (by kernel_rfl) ?_
    refine then_normal (hK143 _ _ ?_)
    refine wp_seq_k fun K146 hK146 => ?_
    refine mgStart hm144 (by kernel_rfl) ?_
    intro w148 hm147
    clear hm144
    refine mk_ (i := 0) (v := .int .i64 1) rfl rfl (fun _ _ _ h => h) hm147 rfl ?_
    refine mgTake (i := 1) (v := .pointer (some ⟨g38, 1, none⟩)) rfl (by kernel_rfl) (wn rfl) (fun _ _ _ h => h) hm147 (fun w_ h_ => iaRun (b := g38) (off := 0) (s := 1) (n := 3) (kk := .i64) (.tmp 11) (.tmp 43) 1 Ty.und_3_int (by kernel_rfl) rfl (litEv (by kernel_rfl)) (litEv (by kernel_rfl)) rfl (by decide)) ?_
    refine mP rfl ?_
    refine mgTake (i := 2) (v := .int .i64 c.y) rfl (by kernel_rfl) (wn rfl) (fun _ _ _ h => h) hm147 (fun w_ h_ => gLoad (v := .int .i64 c.y) (k := 1) 8 h_ rfl (by kernel_rfl) (.tmp 44) (by kernel_rfl) rfl (litEv (by kernel_rfl))) ?_
    refine mP rfl ?_
    refine mk_ (i := 3) (v := .int .i64 1) rfl rfl (fun _ _ _ h => h) hm147 rfl ?_
    refine mgTake (i := 4) (v := .pointer (some ⟨g36, 1, none⟩)) rfl (by kernel_rfl) (wn rfl) (fun _ _ _ h => h) hm147 (fun w_ h_ => iaRun (b := g36) (off := 0) (s := 1) (n := 3) (kk := .i64) (.tmp 9) (.tmp 46) 1 Ty.und_3_int (by kernel_rfl) rfl (litEv (by kernel_rfl)) (litEv (by kernel_rfl)) rfl (by decide)) ?_
    refine mP rfl ?_
    refine mgTake (i := 5) (v := .int .i64 a.y) rfl (by kernel_rfl) (wn rfl) (fun _ _ _ h => h) hm147 (fun w_ h_ => gLoad (v := .int .i64 a.y) (k := 1) 6 h_ rfl (by kernel_rfl) (.tmp 47) (by kernel_rfl) rfl (litEv (by kernel_rfl))) ?_
    refine mP rfl ?_
    refine mgTake (i := 6) (v := .int .i64 (c.y - a.y)) rfl (by kernel_rfl) (wn rfl) (fun _ _ _ h => h) hm147 (fun w_ h_ => subRun (A := c.y) (B := a.y) (C := c.y - a.y) (.tmp 45) (.tmp 48) rfl (litEv (by kernel_rfl)) (litEv (by kernel_rfl)) rfl (by omega)) ?_
    refine mP rfl ?_
    refine mgTake (i := 7) (v := .int .i64 (2 * (c.y - a.y))) rfl (by kernel_rfl) (wn rfl) (fun _ _ _ h => h) hm147 (fun w_ h_ => mulRun (A := 2) (B := (c.y - a.y)) (C := 2 * (c.y - a.y)) (.const (.int .i64 2)) (.tmp 49) rfl (litEv (by kernel_rfl)) (litEv (by kernel_rfl)) rfl (by omega)) ?_
    refine mP rfl ?_
    refine mgTake (i := 8) (v := .int .i64 ((2 * (c.y - a.y)) - 1)) rfl (by kernel_rfl) (wn rfl) (fun _ _ _ h => h) hm147 (fun w_ h_ => subRun (A := (2 * (c.y - a.y))) (B := 1) (C := (2 * (c.y - a.y)) - 1) (.tmp 50) (.const (.int .i64 1)) rfl (litEv (by kernel_rfl)) (litEv (by kernel_rfl)) rfl (by omega)) ?_
    refine mP rfl ?_
    refine mk_ (i := 9) (v := .int .i64 1) rfl rfl (fun _ _ _ h => h) hm147 rfl ?_
    refine mgTake (i := 10) (v := .pointer (some ⟨g38, 1, none⟩)) rfl (by kernel_rfl) (wn rfl) (fun _ _ _ h => h) hm147 (fun w_ h_ => iaRun (b := g38) (off := 0) (s := 1) (n := 3) (kk := .i64) (.tmp 11) (.tmp 52) 1 Ty.und_3_int (by kernel_rfl) rfl (litEv (by kernel_rfl)) (litEv (by kernel_rfl)) rfl (by decide)) ?_
    refine mP rfl ?_
    refine mgTake (i := 11) (v := .int .i64 c.y) rfl (by kernel_rfl) (wn rfl) (fun _ _ _ h => h) hm147 (fun w_ h_ => gLoad (v := .int .i64 c.y) (k := 1) 8 h_ rfl (by kernel_rfl) (.tmp 53) (by kernel_rfl) rfl (litEv (by kernel_rfl))) ?_
    refine mP rfl ?_
    refine mk_ (i := 12) (v := .int .i64 1) rfl rfl (fun _ _ _ h => h) hm147 rfl ?_
    refine mgTake (i := 13) (v := .pointer (some ⟨g36, 1, none⟩)) rfl (by kernel_rfl) (wn rfl) (fun _ _ _ h => h) hm147 (fun w_ h_ => iaRun (b := g36) (off := 0) (s := 1) (n := 3) (kk := .i64) (.tmp 9) (.tmp 55) 1 Ty.und_3_int (by kernel_rfl) rfl (litEv (by kernel_rfl)) (litEv (by kernel_rfl)) rfl (by decide)) ?_
    refine mP rfl ?_
    refine mgTake (i := 14) (v := .int .i64 a.y) rfl (by kernel_rfl) (wn rfl) (fun _ _ _ h => h) hm147 (fun w_ h_ => gLoad (v := .int .i64 a.y) (k := 1) 6 h_ rfl (by kernel_rfl) (.tmp 56) (by kernel_rfl) rfl (litEv (by kernel_rfl))) ?_
    refine mP rfl ?_
    refine mgTake (i := 15) (v := .int .i64 (c.y - a.y)) rfl (by kernel_rfl) (wn rfl) (fun _ _ _ h => h) hm147 (fun w_ h_ => subRun (A := c.y) (B := a.y) (C := c.y - a.y) (.tmp 54) (.tmp 57) rfl (litEv (by kernel_rfl)) (litEv (by kernel_rfl)) rfl (by omega)) ?_
    refine mP rfl ?_
    refine mgTake (i := 16) (v := .int .i64 (2 * (c.y - a.y))) rfl (by kernel_rfl) (wn rfl) (fun _ _ _ h => h) hm147 (fun w_ h_ => mulRun (A := 2) (B := (c.y - a.y)) (C := 2 * (c.y - a.y)) (.const (.int .i64 2)) (.tmp 58) rfl (litEv (by kernel_rfl)) (litEv (by kernel_rfl)) rfl (by omega)) ?_
    refine mP rfl ?_
    refine mgTake (i := 17) (v := .int .i64 ((2 * (c.y - a.y)) + 1)) rfl (by kernel_rfl) (wn rfl) (fun _ _ _ h => h) hm147 (fun w_ h_ => addRun (A := (2 * (c.y - a.y))) (B := 1) (C := (2 * (c.y - a.y)) + 1) (.tmp 59) (.const (.int .i64 1)) rfl (litEv (by kernel_rfl)) (litEv (by kernel_rfl)) rfl (by omega)) ?_
    refine mP rfl ?_
    refine mk_ (i := 18) (v := .int .i64 ((2 * (c.y - a.y)) - 1)) rfl rfl (fun _ _ _ h => h) hm147 rfl ?_
    refine mk_ (i := 19) (v := .int .i64 ((2 * (c.y - a.y)) + 1)) rfl rfl (fun _ _ _ h => h) hm147 rfl ?_
    refine mgDone (by kernel_rfl) ?_
    refine then_normal (hK146 _ _ ?_)
    refine wp_seq_k fun K149 hK149 => ?_
    refine wp_block ?_
    refine wp_seq_k fun K150 hK150 => ?_
    refine mgStart hm147 (by kernel_rfl) ?_
    intro w152 hm151
    clear hm147
    refine mk_ (i := 0) (v := .int .i64 (2 * (b.y - a.y))) rfl rfl (fun _ _ _ h => h) hm151 rfl ?_
    by_cases h153 : (2 * (b.y - a.y)) = 0
    · refine mgTake (i := 1) (v := .bool true) rfl (by kernel_rfl) (wn rfl) (fun _ _ _ h => h) hm151 (fun w_ h_ => boolTo (decide_eq_true h153) (eqlRun (A := (2 * (b.y - a.y))) (B := 0) (.tmp 62) (.const (.int .i64 0)) rfl (litEv (by kernel_rfl)) (litEv (by kernel_rfl)))) ?_
      refine mP rfl ?_
      refine mk_ (i := 2) (v := .bool true) rfl rfl (fun _ _ _ h => h) hm151 rfl ?_
      refine mgTake (i := 3) (v := .int .i64 1) rfl (by kernel_rfl) (wgY rfl rfl rfl (by decide) (by kernel_rfl)) (fun _ _ _ h => h) hm151 (fun w_ h_ => litRun (by kernel_rfl)) ?_
      refine mP rfl ?_
      refine mgTake (i := 4) (v := .pointer (some ⟨g36, 1, none⟩)) rfl (by kernel_rfl) (wgY rfl rfl rfl (by decide) (by kernel_rfl)) (fun _ _ _ h => h) hm151 (fun w_ h_ => iaRun (b := g36) (off := 0) (s := 1) (n := 3) (kk := .i64) (.tmp 9) (.tmp 65) 1 Ty.und_3_int (by kernel_rfl) rfl (litEv (by kernel_rfl)) (litEv (by kernel_rfl)) rfl (by decide)) ?_
      refine mP rfl ?_
      refine mgTake (i := 5) (v := .int .i64 a.y) rfl (by kernel_rfl) (wgY rfl rfl rfl (by decide) (by kernel_rfl)) (fun _ _ _ h => h) hm151 (fun w_ h_ => gLoad (v := .int .i64 a.y) (k := 1) 6 h_ rfl (by kernel_rfl) (.tmp 66) (by kernel_rfl) rfl (litEv (by kernel_rfl))) ?_
      refine mP rfl ?_
      refine mgTake (i := 6) (v := .int .i64 1) rfl (by kernel_rfl) (wgY rfl rfl rfl (by decide) (by kernel_rfl)) (fun _ _ _ h => h) hm151 (fun w_ h_ => litRun (by kernel_rfl)) ?_
      refine mP rfl ?_
      refine mgTake (i := 7) (v := .pointer (some ⟨g38, 1, none⟩)) rfl (by kernel_rfl) (wgY rfl rfl rfl (by decide) (by kernel_rfl)) (fun _ _ _ h => h) hm151 (fun w_ h_ => iaRun (b := g38) (off := 0) (s := 1) (n := 3) (kk := .i64) (.tmp 11) (.tmp 68) 1 Ty.und_3_int (by kernel_rfl) rfl (litEv (by kernel_rfl)) (litEv (by kernel_rfl)) rfl (by decide)) ?_
      refine mP rfl ?_
      refine mgTake (i := 8) (v := .int .i64 c.y) rfl (by kernel_rfl) (wgY rfl rfl rfl (by decide) (by kernel_rfl)) (fun _ _ _ h => h) hm151 (fun w_ h_ => gLoad (v := .int .i64 c.y) (k := 1) 8 h_ rfl (by kernel_rfl) (.tmp 69) (by kernel_rfl) rfl (litEv (by kernel_rfl))) ?_
      refine mP rfl ?_
      by_cases h154 : a.y = c.y
      · refine mgTake (i := 9) (v := .bool false) rfl (by kernel_rfl) (wgY rfl rfl rfl (by decide) (by kernel_rfl)) (fun _ _ _ h => h) hm151 (fun w_ h_ => boolTo (by rw [decide_eq_true h154]; rfl) (neqRun (A := a.y) (B := c.y) (.tmp 67) (.tmp 70) rfl (litEv (by kernel_rfl)) (litEv (by kernel_rfl)))) ?_
        refine mP rfl ?_
        refine mk_ (i := 10) (v := .bool false) rfl rfl (fun _ _ _ h => h) hm151 rfl ?_
        refine mk_ (i := 11) (v := .bool false) rfl rfl (fun _ _ _ h => h) hm151 rfl ?_
        refine mgDone (by kernel_rfl) ?_
        refine then_normal (hK150 _ _ ?_)
        refine wp_cond_false (litEv (by kernel_rfl)) ?_
        refine wp_seq_k fun K155 hK155 => ?_
        refine plStart ?_
        refine lk (v := .int .i64 (2 * (b.y - a.y))) rfl rfl rfl ?_
        refine litVal (v := .bool true) rfl (wn rfl) (boolTo (decide_eq_true h153) (eqlRun (A := (2 * (b.y - a.y))) (B := 0) (.tmp 74) (.const (.int .i64 0)) rfl (litEv (by kernel_rfl)) (litEv (by kernel_rfl)))) rfl (by decide) ?_
        refine lk (v := .bool true) rfl rfl rfl ?_
        refine plD ?_
        refine then_normal (hK155 _ _ ?_)
        refine wp_cond_true (litEv (by kernel_rfl)) ?_
        refine wp_exit ?_
        refine inBlock_other (by decide) ?_
        refine then_exit ?_
        refine inBlock_exit ?_
        refine then_normal ?_
        have ea_ : tcs M2.a = tcs M1.a := by rw [← hM2]; unfold stepC; rw [if_pos h153] <;> rfl
        have eb_ : tcs M2.b = tcs M1.b := by rw [← hM2]; unfold stepC; rw [if_pos h153] <;> rfl
        exact ⟨(by unfold crossOff; omega), ⟨litSize, rfl, ⟨litGet (by kernel_rfl), ⟨litGet (by kernel_rfl), ⟨litGet (by kernel_rfl), ⟨litGet (by kernel_rfl), ⟨litGet (by kernel_rfl), ⟨litGet (by kernel_rfl), ⟨litGet (by kernel_rfl), ⟨litGet (by kernel_rfl), trivial⟩⟩⟩⟩⟩⟩⟩⟩⟩, (by rw [ea_, eb_]; exact (hm151.firsts 9))⟩
      refine mgTake (i := 9) (v := .bool true) rfl (by kernel_rfl) (wgY rfl rfl rfl (by decide) (by kernel_rfl)) (fun _ _ _ h => h) hm151 (fun w_ h_ => boolTo (by rw [decide_eq_false h154]; rfl) (neqRun (A := a.y) (B := c.y) (.tmp 67) (.tmp 70) rfl (litEv (by kernel_rfl)) (litEv (by kernel_rfl)))) ?_
      refine mP rfl ?_
      refine mk_ (i := 10) (v := .bool true) rfl rfl (fun _ _ _ h => h) hm151 rfl ?_
      refine mk_ (i := 11) (v := .bool true) rfl rfl (fun _ _ _ h => h) hm151 rfl ?_
      refine mgDone (by kernel_rfl) ?_
      refine then_normal (hK150 _ _ ?_)
      refine wp_cond_true (litEv (by kernel_rfl)) ?_
      refine wp_seq_k fun K156 hK156 => ?_
      refine plStart ?_
      refine lk (v := .bool false) rfl rfl rfl ?_
      refine plD ?_
      refine then_normal (hK156 _ _ ?_)
      refine wp_ret ?_
      refine inBlock_ret ?_
      refine then_ret ?_
      refine inBlock_ret ?_
      refine then_ret ?_
      refine then_ret ?_
      refine inBlock_ret ?_
      refine then_ret ?_
      refine bodyPost_ret (v := .bool false) (gRes1 rfl (gResTmp (t := 6) (v := .bool false) (litGet (by kernel_rfl)))) rfl ?_
      exact ⟨congrArg (fun b_ => Ending.returned (.bool b_)) (Eq.symm (by rw [h18, Bool.true_and]; unfold crossR; rw [if_pos (by unfold crossOff; omega)])), hm151.bel⟩
    refine mgTake (i := 1) (v := .bool false) rfl (by kernel_rfl) (wn rfl) (fun _ _ _ h => h) hm151 (fun w_ h_ => boolTo (decide_eq_false h153) (eqlRun (A := (2 * (b.y - a.y))) (B := 0) (.tmp 62) (.const (.int .i64 0)) rfl (litEv (by kernel_rfl)) (litEv (by kernel_rfl)))) ?_
    refine mP rfl ?_
    refine mk_ (i := 2) (v := .bool false) rfl rfl (fun _ _ _ h => h) hm151 rfl ?_
    refine mgSkip (i := 3) rfl (by kernel_rfl) (wgN rfl rfl rfl (by decide) (by kernel_rfl)) (fun _ _ _ h => h) hm151 ?_
    refine mP rfl ?_
    refine mgSkip (i := 4) rfl (by kernel_rfl) (wgN rfl rfl rfl (by decide) (by kernel_rfl)) (fun _ _ _ h => h) hm151 ?_
    refine mP rfl ?_
    refine mgSkip (i := 5) rfl (by kernel_rfl) (wgN rfl rfl rfl (by decide) (by kernel_rfl)) (fun _ _ _ h => h) hm151 ?_
    refine mP rfl ?_
    refine mgSkip (i := 6) rfl (by kernel_rfl) (wgN rfl rfl rfl (by decide) (by kernel_rfl)) (fun _ _ _ h => h) hm151 ?_
    refine mP rfl ?_
    refine mgSkip (i := 7) rfl (by kernel_rfl) (wgN rfl rfl rfl (by decide) (by kernel_rfl)) (fun _ _ _ h => h) hm151 ?_
    refine mP rfl ?_
    refine mgSkip (i := 8) rfl (by kernel_rfl) (wgN rfl rfl rfl (by decide) (by kernel_rfl)) (fun _ _ _ h => h) hm151 ?_
    refine mP rfl ?_
    refine mgSkip (i := 9) rfl (by kernel_rfl) (wgN rfl rfl rfl (by decide) (by kernel_rfl)) (fun _ _ _ h => h) hm151 ?_
    refine mP rfl ?_
    refine mk_ (i := 10) (v := .bool false) rfl rfl (fun _ _ _ h => h) hm151 rfl ?_
    refine mk_ (i := 11) (v := .bool false) rfl rfl (fun _ _ _ h => h) hm151 rfl ?_
    refine mgDone (by kernel_rfl) ?_
    refine then_normal (hK150 _ _ ?_)
    refine wp_cond_false (litEv (by kernel_rfl)) ?_
    refine wp_seq_k fun K157 hK157 => ?_
    refine plStart ?_
    refine lk (v := .int .i64 (2 * (b.y - a.y))) rfl rfl rfl ?_
    refine litVal (v := .bool false) rfl (wn rfl) (boolTo (decide_eq_false h153) (eqlRun (A := (2 * (b.y - a.y))) (B := 0) (.tmp 74) (.const (.int .i64 0)) rfl (litEv (by kernel_rfl)) (litEv (by kernel_rfl)))) rfl (by decide) ?_
    refine lk (v := .bool false) rfl rfl rfl ?_
    refine plD ?_
    refine then_normal (hK157 _ _ ?_)
    refine wp_cond_false (litEv (by kernel_rfl)) ?_
    refine wp_seq_k fun K158 hK158 => ?_
    refine plStart ?_
    refine lk (v := .int .i64 (2 * (b.y - a.y))) rfl rfl rfl ?_
    by_cases h159 : (2 * (b.y - a.y)) < 0
    · refine litVal (v := .bool true) rfl (wn rfl) (boolTo (decide_eq_true h159) (lssRun (A := (2 * (b.y - a.y))) (B := 0) (.tmp 77) (.const (.int .i64 0)) rfl (litEv (by kernel_rfl)) (litEv (by kernel_rfl)))) rfl (by decide) ?_
      refine lk (v := .bool true) rfl rfl rfl ?_
      refine plD ?_
      refine then_normal (hK158 _ _ ?_)
      refine wp_cond_true (litEv (by kernel_rfl)) ?_
      refine plStart ?_
      refine lk (v := .int .i64 (2 * (b.y - a.y))) rfl rfl rfl ?_
      refine litVal (v := .int .i64 (-(2 * (b.y - a.y)))) rfl (wn rfl) (gNeg (.tmp 79) rfl (litEv (by kernel_rfl)) (by omega)) rfl (by decide) ?_
      refine lk (v := .int .i64 ((2 * (c.y - a.y)) + 1)) rfl rfl rfl ?_
      refine litVal (v := .int .i64 (-((2 * (c.y - a.y)) + 1))) rfl (wn rfl) (gNeg (.tmp 81) rfl (litEv (by kernel_rfl)) (by omega)) rfl (by decide) ?_
      refine lk (v := .int .i64 ((2 * (c.y - a.y)) - 1)) rfl rfl rfl ?_
      refine litVal (v := .int .i64 (-((2 * (c.y - a.y)) - 1))) rfl (wn rfl) (gNeg (.tmp 83) rfl (litEv (by kernel_rfl)) (by omega)) rfl (by decide) ?_
      refine lk (v := .int .i64 (-(2 * (b.y - a.y)))) rfl rfl rfl ?_
      refine lk (v := .int .i64 (-((2 * (c.y - a.y)) + 1))) rfl rfl rfl ?_
      refine lk (v := .int .i64 (-((2 * (c.y - a.y)) - 1))) rfl rfl rfl ?_
      refine plD ?_
      refine inBlock_normal ?_
      refine then_normal (hK149 _ _ ?_)
      refine wp_seq_k fun K160 hK160 => ?_
      refine wp_seq_k fun K161 hK161 => ?_
      refine plStart ?_
      refine lk (v := .int .i64 (-((2 * (c.y - a.y)) + 1))) rfl rfl rfl ?_
      refine lk (v := .int .i64 (-(2 * (b.y - a.y)))) rfl rfl rfl ?_
      refine lk (v := .agg (tcs (-((2 * (c.y - a.y)) + 1), -(2 * (b.y - a.y)))).toArray) rfl rfl rfl ?_
      refine plAlloc (z := [.int .i64 0, .int .i64 0]) Ty.ag_voxel_ray_time hm151 (i := 3) rfl (wn rfl) rfl ?_
      intro g162 w164 hm163
      clear hm151
      try simp only [List.cons_append, List.nil_append, List.set_cons_succ, List.set_cons_zero] at hm163
      refine qP rfl ?_
      refine plStore 9 Ty.ag_voxel_ray_time hm163 rfl (i := 4) (cs := tcs (-((2 * (c.y - a.y)) + 1), -(2 * (b.y - a.y)))) rfl (wn rfl) rfl (litEv (by kernel_rfl)) (litEv (by kernel_rfl)) rfl rfl (by kernel_rfl) ?_
      intro w166 hm165
      clear hm163
      try simp only [List.cons_append, List.nil_append, List.set_cons_succ, List.set_cons_zero] at hm165
      refine qNone rfl ?_
      refine plD ?_
      refine then_normal (hK161 _ _ ?_)
      refine wp_seq_k fun K167 hK167 => ?_
      refine plStart ?_
      refine litVal (v := .agg (tcs M1.a).toArray) rfl (wn rfl) (gLoadAg (vs := tcs M1.a) (k := 0) 4 hm165 rfl (by kernel_rfl) (by kernel_rfl) (.tmp 7) Ty.ag_voxel_ray_time rfl (litEv (by kernel_rfl))) rfl (by decide) ?_
      refine litVal (v := .agg (tcs (-((2 * (c.y - a.y)) + 1), -(2 * (b.y - a.y)))).toArray) rfl (wn rfl) (gLoadAg (vs := tcs (-((2 * (c.y - a.y)) + 1), -(2 * (b.y - a.y)))) (k := 0) 9 hm165 rfl (by kernel_rfl) (by kernel_rfl) (.tmp 16) Ty.ag_voxel_ray_time rfl (litEv (by kernel_rfl))) rfl (by decide) ?_
      refine plCall (i := 2) 37 [.agg (tcs M1.a).toArray, .agg (tcs (-((2 * (c.y - a.y)) + 1), -(2 * (b.y - a.y)))).toArray] [] [] rfl (by kernel_rfl) (wn rfl) rfl (litEv (by kernel_rfl)) (litArgs (by kernel_rfl)) (before_any M1.a (-((2 * (c.y - a.y)) + 1), -(2 * (b.y - a.y))) sM1.1 (by unfold Tsm Tm30; simp only; omega) _) ?_
      rintro e w168 ⟨rfl, hbz⟩
      have hm169 := hm165.below hbz
      clear hbz hm165
      refine ⟨_, rfl, ?_⟩
      refine qP rfl ?_
      rcases bool_or (tltb M1.a (-((2 * (c.y - a.y)) + 1), -(2 * (b.y - a.y)))) with h170 | h170
      · rw [h170]
        refine plD ?_
        refine then_normal (hK167 _ _ ?_)
        refine wp_cond_false (litEv (by kernel_rfl)) ?_
        refine wp_skip ?_
        refine then_normal (hK160 _ _ ?_)
        refine wp_seq_k fun K171 hK171 => ?_
        refine plStart ?_
        refine lk (v := .int .i64 (-((2 * (c.y - a.y)) - 1))) rfl rfl rfl ?_
        refine lk (v := .int .i64 (-(2 * (b.y - a.y)))) rfl rfl rfl ?_
        refine lk (v := .agg (tcs (-((2 * (c.y - a.y)) - 1), -(2 * (b.y - a.y)))).toArray) rfl rfl rfl ?_
        refine plAlloc (z := [.int .i64 0, .int .i64 0]) Ty.ag_voxel_ray_time hm169 (i := 3) rfl (wn rfl) rfl ?_
        intro g172 w174 hm173
        clear hm169
        try simp only [List.cons_append, List.nil_append, List.set_cons_succ, List.set_cons_zero] at hm173
        refine qP rfl ?_
        refine plStore 10 Ty.ag_voxel_ray_time hm173 rfl (i := 4) (cs := tcs (-((2 * (c.y - a.y)) - 1), -(2 * (b.y - a.y)))) rfl (wn rfl) rfl (litEv (by kernel_rfl)) (litEv (by kernel_rfl)) rfl rfl (by kernel_rfl) ?_
        intro w176 hm175
        clear hm173
        try simp only [List.cons_append, List.nil_append, List.set_cons_succ, List.set_cons_zero] at hm175
        refine qNone rfl ?_
        refine plD ?_
        refine then_normal (hK171 _ _ ?_)
        refine wp_seq_k fun K177 hK177 => ?_
        refine plStart ?_
        refine litVal (v := .agg (tcs (-((2 * (c.y - a.y)) - 1), -(2 * (b.y - a.y)))).toArray) rfl (wn rfl) (gLoadAg (vs := tcs (-((2 * (c.y - a.y)) - 1), -(2 * (b.y - a.y)))) (k := 0) 10 hm175 rfl (by kernel_rfl) (by kernel_rfl) (.tmp 17) Ty.ag_voxel_ray_time rfl (litEv (by kernel_rfl))) rfl (by decide) ?_
        refine litVal (v := .agg (tcs M1.b).toArray) rfl (wn rfl) (gLoadAg (vs := tcs M1.b) (k := 0) 5 hm175 rfl (by kernel_rfl) (by kernel_rfl) (.tmp 8) Ty.ag_voxel_ray_time rfl (litEv (by kernel_rfl))) rfl (by decide) ?_
        refine plCall (i := 2) 37 [.agg (tcs (-((2 * (c.y - a.y)) - 1), -(2 * (b.y - a.y)))).toArray, .agg (tcs M1.b).toArray] [] [] rfl (by kernel_rfl) (wn rfl) rfl (litEv (by kernel_rfl)) (litArgs (by kernel_rfl)) (before_any (-((2 * (c.y - a.y)) - 1), -(2 * (b.y - a.y))) M1.b (by unfold Tsm Tm30; simp only; omega) sM1.2 _) ?_
        rintro e w178 ⟨rfl, hbz⟩
        have hm179 := hm175.below hbz
        clear hbz hm175
        refine ⟨_, rfl, ?_⟩
        refine qP rfl ?_
        rcases bool_or (tltb (-((2 * (c.y - a.y)) - 1), -(2 * (b.y - a.y))) M1.b) with h180 | h180
        · rw [h180]
          refine plD ?_
          refine then_normal (hK177 _ _ ?_)
          refine wp_cond_false (litEv (by kernel_rfl)) ?_
          refine wp_skip ?_
          refine inBlock_normal ?_
          refine then_normal ?_
          have ea_ : tcs M2.a = tcs M1.a := by rw [← hM2]; simp [stepC, alongP, btw0, Btw.meet, tcs, h153, h159, h170, h180]
          have eb_ : tcs M2.b = tcs M1.b := by rw [← hM2]; simp [stepC, alongP, btw0, Btw.meet, tcs, h153, h159, h170, h180]
          exact ⟨(by unfold crossOff; omega), ⟨litSize, rfl, ⟨litGet (by kernel_rfl), ⟨litGet (by kernel_rfl), ⟨litGet (by kernel_rfl), ⟨litGet (by kernel_rfl), ⟨litGet (by kernel_rfl), ⟨litGet (by kernel_rfl), ⟨litGet (by kernel_rfl), ⟨litGet (by kernel_rfl), trivial⟩⟩⟩⟩⟩⟩⟩⟩⟩, (by rw [ea_, eb_]; exact (hm179.firsts 9))⟩
        rw [h180]
        refine plD ?_
        refine then_normal (hK177 _ _ ?_)
        refine wp_cond_true (litEv (by kernel_rfl)) ?_
        refine plStart ?_
        refine litVal (v := .agg (tcs (-((2 * (c.y - a.y)) - 1), -(2 * (b.y - a.y)))).toArray) rfl (wn rfl) (gLoadAg (vs := tcs (-((2 * (c.y - a.y)) - 1), -(2 * (b.y - a.y)))) (k := 0) 10 hm179 rfl (by kernel_rfl) (by kernel_rfl) (.tmp 17) Ty.ag_voxel_ray_time rfl (litEv (by kernel_rfl))) rfl (by decide) ?_
        refine plStore 5 Ty.ag_voxel_ray_time hm179 rfl (i := 1) (cs := tcs (-((2 * (c.y - a.y)) - 1), -(2 * (b.y - a.y)))) rfl (wn rfl) rfl (litEv (by kernel_rfl)) (litEv (by kernel_rfl)) rfl rfl (by kernel_rfl) ?_
        intro w182 hm181
        clear hm179
        try simp only [List.cons_append, List.nil_append, List.set_cons_succ, List.set_cons_zero] at hm181
        refine qNone rfl ?_
        refine plD ?_
        refine inBlock_normal ?_
        refine then_normal ?_
        have ea_ : tcs M2.a = tcs M1.a := by rw [← hM2]; simp [stepC, alongP, btw0, Btw.meet, tcs, h153, h159, h170, h180]
        have eb_ : tcs M2.b = tcs (-((2 * (c.y - a.y)) - 1), -(2 * (b.y - a.y))) := by rw [← hM2]; simp [stepC, alongP, btw0, Btw.meet, tcs, h153, h159, h170, h180]
        exact ⟨(by unfold crossOff; omega), ⟨litSize, rfl, ⟨litGet (by kernel_rfl), ⟨litGet (by kernel_rfl), ⟨litGet (by kernel_rfl), ⟨litGet (by kernel_rfl), ⟨litGet (by kernel_rfl), ⟨litGet (by kernel_rfl), ⟨litGet (by kernel_rfl), ⟨litGet (by kernel_rfl), trivial⟩⟩⟩⟩⟩⟩⟩⟩⟩, (by rw [ea_, eb_]; exact (hm181.firsts 9))⟩
      rw [h170]
      refine plD ?_
      refine then_normal (hK167 _ _ ?_)
      refine wp_cond_true (litEv (by kernel_rfl)) ?_
      refine plStart ?_
      refine litVal (v := .agg (tcs (-((2 * (c.y - a.y)) + 1), -(2 * (b.y - a.y)))).toArray) rfl (wn rfl) (gLoadAg (vs := tcs (-((2 * (c.y - a.y)) + 1), -(2 * (b.y - a.y)))) (k := 0) 9 hm169 rfl (by kernel_rfl) (by kernel_rfl) (.tmp 16) Ty.ag_voxel_ray_time rfl (litEv (by kernel_rfl))) rfl (by decide) ?_
      refine plStore 4 Ty.ag_voxel_ray_time hm169 rfl (i := 1) (cs := tcs (-((2 * (c.y - a.y)) + 1), -(2 * (b.y - a.y)))) rfl (wn rfl) rfl (litEv (by kernel_rfl)) (litEv (by kernel_rfl)) rfl rfl (by kernel_rfl) ?_
      intro w184 hm183
      clear hm169
      try simp only [List.cons_append, List.nil_append, List.set_cons_succ, List.set_cons_zero] at hm183
      refine qNone rfl ?_
      refine plD ?_
      refine then_normal (hK160 _ _ ?_)
      refine wp_seq_k fun K185 hK185 => ?_
      refine plStart ?_
      refine lk (v := .int .i64 (-((2 * (c.y - a.y)) - 1))) rfl rfl rfl ?_
      refine lk (v := .int .i64 (-(2 * (b.y - a.y)))) rfl rfl rfl ?_
      refine lk (v := .agg (tcs (-((2 * (c.y - a.y)) - 1), -(2 * (b.y - a.y)))).toArray) rfl rfl rfl ?_
      refine plAlloc (z := [.int .i64 0, .int .i64 0]) Ty.ag_voxel_ray_time hm183 (i := 3) rfl (wn rfl) rfl ?_
      intro g186 w188 hm187
      clear hm183
      try simp only [List.cons_append, List.nil_append, List.set_cons_succ, List.set_cons_zero] at hm187
      refine qP rfl ?_
      refine plStore 10 Ty.ag_voxel_ray_time hm187 rfl (i := 4) (cs := tcs (-((2 * (c.y - a.y)) - 1), -(2 * (b.y - a.y)))) rfl (wn rfl) rfl (litEv (by kernel_rfl)) (litEv (by kernel_rfl)) rfl rfl (by kernel_rfl) ?_
      intro w190 hm189
      clear hm187
      try simp only [List.cons_append, List.nil_append, List.set_cons_succ, List.set_cons_zero] at hm189
      refine qNone rfl ?_
      refine plD ?_
      refine then_normal (hK185 _ _ ?_)
      refine wp_seq_k fun K191 hK191 => ?_
      refine plStart ?_
      refine litVal (v := .agg (tcs (-((2 * (c.y - a.y)) - 1), -(2 * (b.y - a.y)))).toArray) rfl (wn rfl) (gLoadAg (vs := tcs (-((2 * (c.y - a.y)) - 1), -(2 * (b.y - a.y)))) (k := 0) 10 hm189 rfl (by kernel_rfl) (by kernel_rfl) (.tmp 17) Ty.ag_voxel_ray_time rfl (litEv (by kernel_rfl))) rfl (by decide) ?_
      refine litVal (v := .agg (tcs M1.b).toArray) rfl (wn rfl) (gLoadAg (vs := tcs M1.b) (k := 0) 5 hm189 rfl (by kernel_rfl) (by kernel_rfl) (.tmp 8) Ty.ag_voxel_ray_time rfl (litEv (by kernel_rfl))) rfl (by decide) ?_
      refine plCall (i := 2) 37 [.agg (tcs (-((2 * (c.y - a.y)) - 1), -(2 * (b.y - a.y)))).toArray, .agg (tcs M1.b).toArray] [] [] rfl (by kernel_rfl) (wn rfl) rfl (litEv (by kernel_rfl)) (litArgs (by kernel_rfl)) (before_any (-((2 * (c.y - a.y)) - 1), -(2 * (b.y - a.y))) M1.b (by unfold Tsm Tm30; simp only; omega) sM1.2 _) ?_
      rintro e w192 ⟨rfl, hbz⟩
      have hm193 := hm189.below hbz
      clear hbz hm189
      refine ⟨_, rfl, ?_⟩
      refine qP rfl ?_
      rcases bool_or (tltb (-((2 * (c.y - a.y)) - 1), -(2 * (b.y - a.y))) M1.b) with h194 | h194
      · rw [h194]
        refine plD ?_
        refine then_normal (hK191 _ _ ?_)
        refine wp_cond_false (litEv (by kernel_rfl)) ?_
        refine wp_skip ?_
        refine inBlock_normal ?_
        refine then_normal ?_
        have ea_ : tcs M2.a = tcs (-((2 * (c.y - a.y)) + 1), -(2 * (b.y - a.y))) := by rw [← hM2]; simp [stepC, alongP, btw0, Btw.meet, tcs, h153, h159, h170, h194]
        have eb_ : tcs M2.b = tcs M1.b := by rw [← hM2]; simp [stepC, alongP, btw0, Btw.meet, tcs, h153, h159, h170, h194]
        exact ⟨(by unfold crossOff; omega), ⟨litSize, rfl, ⟨litGet (by kernel_rfl), ⟨litGet (by kernel_rfl), ⟨litGet (by kernel_rfl), ⟨litGet (by kernel_rfl), ⟨litGet (by kernel_rfl), ⟨litGet (by kernel_rfl), ⟨litGet (by kernel_rfl), ⟨litGet (by kernel_rfl), trivial⟩⟩⟩⟩⟩⟩⟩⟩⟩, (by rw [ea_, eb_]; exact (hm193.firsts 9))⟩
      rw [h194]
      refine plD ?_
      refine then_normal (hK191 _ _ ?_)
      refine wp_cond_true (litEv (by kernel_rfl)) ?_
      refine plStart ?_
      refine litVal (v := .agg (tcs (-((2 * (c.y - a.y)) - 1), -(2 * (b.y - a.y)))).toArray) rfl (wn rfl) (gLoadAg (vs := tcs (-((2 * (c.y - a.y)) - 1), -(2 * (b.y - a.y)))) (k := 0) 10 hm193 rfl (by kernel_rfl) (by kernel_rfl) (.tmp 17) Ty.ag_voxel_ray_time rfl (litEv (by kernel_rfl))) rfl (by decide) ?_
      refine plStore 5 Ty.ag_voxel_ray_time hm193 rfl (i := 1) (cs := tcs (-((2 * (c.y - a.y)) - 1), -(2 * (b.y - a.y)))) rfl (wn rfl) rfl (litEv (by kernel_rfl)) (litEv (by kernel_rfl)) rfl rfl (by kernel_rfl) ?_
      intro w196 hm195
      clear hm193
      try simp only [List.cons_append, List.nil_append, List.set_cons_succ, List.set_cons_zero] at hm195
      refine qNone rfl ?_
      refine plD ?_
      refine inBlock_normal ?_
      refine then_normal ?_
      have ea_ : tcs M2.a = tcs (-((2 * (c.y - a.y)) + 1), -(2 * (b.y - a.y))) := by rw [← hM2]; simp [stepC, alongP, btw0, Btw.meet, tcs, h153, h159, h170, h194]
      have eb_ : tcs M2.b = tcs (-((2 * (c.y - a.y)) - 1), -(2 * (b.y - a.y))) := by rw [← hM2]; simp [stepC, alongP, btw0, Btw.meet, tcs, h153, h159, h170, h194]
      exact ⟨(by unfold crossOff; omega), ⟨litSize, rfl, ⟨litGet (by kernel_rfl), ⟨litGet (by kernel_rfl), ⟨litGet (by kernel_rfl), ⟨litGet (by kernel_rfl), ⟨litGet (by kernel_rfl), ⟨litGet (by kernel_rfl), ⟨litGet (by kernel_rfl), ⟨litGet (by kernel_rfl), trivial⟩⟩⟩⟩⟩⟩⟩⟩⟩, (by rw [ea_, eb_]; exact (hm195.firsts 9))⟩
    refine litVal (v := .bool false) rfl (wn rfl) (boolTo (decide_eq_false h159) (lssRun (A := (2 * (b.y - a.y))) (B := 0) (.tmp 77) (.const (.int .i64 0)) rfl (litEv (by kernel_rfl)) (litEv (by kernel_rfl)))) rfl (by decide) ?_
    refine lk (v := .bool false) rfl rfl rfl ?_
    refine plD ?_
    refine then_normal (hK158 _ _ ?_)
    refine wp_cond_false (litEv (by kernel_rfl)) ?_
    refine wp_skip ?_
    refine inBlock_normal ?_
    refine then_normal (hK149 _ _ ?_)
    refine wp_seq_k fun K197 hK197 => ?_
    refine wp_seq_k fun K198 hK198 => ?_
    refine plStart ?_
    refine lk (v := .int .i64 ((2 * (c.y - a.y)) - 1)) rfl rfl rfl ?_
    refine lk (v := .int .i64 (2 * (b.y - a.y))) rfl rfl rfl ?_
    refine lk (v := .agg (tcs ((2 * (c.y - a.y)) - 1, 2 * (b.y - a.y))).toArray) rfl rfl rfl ?_
    refine plAlloc (z := [.int .i64 0, .int .i64 0]) Ty.ag_voxel_ray_time hm151 (i := 3) rfl (wn rfl) rfl ?_
    intro g199 w201 hm200
    clear hm151
    try simp only [List.cons_append, List.nil_append, List.set_cons_succ, List.set_cons_zero] at hm200
    refine qP rfl ?_
    refine plStore 9 Ty.ag_voxel_ray_time hm200 rfl (i := 4) (cs := tcs ((2 * (c.y - a.y)) - 1, 2 * (b.y - a.y))) rfl (wn rfl) rfl (litEv (by kernel_rfl)) (litEv (by kernel_rfl)) rfl rfl (by kernel_rfl) ?_
    intro w203 hm202
    clear hm200
    try simp only [List.cons_append, List.nil_append, List.set_cons_succ, List.set_cons_zero] at hm202
    refine qNone rfl ?_
    refine plD ?_
    refine then_normal (hK198 _ _ ?_)
    refine wp_seq_k fun K204 hK204 => ?_
    refine plStart ?_
    refine litVal (v := .agg (tcs M1.a).toArray) rfl (wn rfl) (gLoadAg (vs := tcs M1.a) (k := 0) 4 hm202 rfl (by kernel_rfl) (by kernel_rfl) (.tmp 7) Ty.ag_voxel_ray_time rfl (litEv (by kernel_rfl))) rfl (by decide) ?_
    refine litVal (v := .agg (tcs ((2 * (c.y - a.y)) - 1, 2 * (b.y - a.y))).toArray) rfl (wn rfl) (gLoadAg (vs := tcs ((2 * (c.y - a.y)) - 1, 2 * (b.y - a.y))) (k := 0) 9 hm202 rfl (by kernel_rfl) (by kernel_rfl) (.tmp 16) Ty.ag_voxel_ray_time rfl (litEv (by kernel_rfl))) rfl (by decide) ?_
    refine plCall (i := 2) 37 [.agg (tcs M1.a).toArray, .agg (tcs ((2 * (c.y - a.y)) - 1, 2 * (b.y - a.y))).toArray] [] [] rfl (by kernel_rfl) (wn rfl) rfl (litEv (by kernel_rfl)) (litArgs (by kernel_rfl)) (before_any M1.a ((2 * (c.y - a.y)) - 1, 2 * (b.y - a.y)) sM1.1 (by unfold Tsm Tm30; simp only; omega) _) ?_
    rintro e w205 ⟨rfl, hbz⟩
    have hm206 := hm202.below hbz
    clear hbz hm202
    refine ⟨_, rfl, ?_⟩
    refine qP rfl ?_
    rcases bool_or (tltb M1.a ((2 * (c.y - a.y)) - 1, 2 * (b.y - a.y))) with h207 | h207
    · rw [h207]
      refine plD ?_
      refine then_normal (hK204 _ _ ?_)
      refine wp_cond_false (litEv (by kernel_rfl)) ?_
      refine wp_skip ?_
      refine then_normal (hK197 _ _ ?_)
      refine wp_seq_k fun K208 hK208 => ?_
      refine plStart ?_
      refine lk (v := .int .i64 ((2 * (c.y - a.y)) + 1)) rfl rfl rfl ?_
      refine lk (v := .int .i64 (2 * (b.y - a.y))) rfl rfl rfl ?_
      refine lk (v := .agg (tcs ((2 * (c.y - a.y)) + 1, 2 * (b.y - a.y))).toArray) rfl rfl rfl ?_
      refine plAlloc (z := [.int .i64 0, .int .i64 0]) Ty.ag_voxel_ray_time hm206 (i := 3) rfl (wn rfl) rfl ?_
      intro g209 w211 hm210
      clear hm206
      try simp only [List.cons_append, List.nil_append, List.set_cons_succ, List.set_cons_zero] at hm210
      refine qP rfl ?_
      refine plStore 10 Ty.ag_voxel_ray_time hm210 rfl (i := 4) (cs := tcs ((2 * (c.y - a.y)) + 1, 2 * (b.y - a.y))) rfl (wn rfl) rfl (litEv (by kernel_rfl)) (litEv (by kernel_rfl)) rfl rfl (by kernel_rfl) ?_
      intro w213 hm212
      clear hm210
      try simp only [List.cons_append, List.nil_append, List.set_cons_succ, List.set_cons_zero] at hm212
      refine qNone rfl ?_
      refine plD ?_
      refine then_normal (hK208 _ _ ?_)
      refine wp_seq_k fun K214 hK214 => ?_
      refine plStart ?_
      refine litVal (v := .agg (tcs ((2 * (c.y - a.y)) + 1, 2 * (b.y - a.y))).toArray) rfl (wn rfl) (gLoadAg (vs := tcs ((2 * (c.y - a.y)) + 1, 2 * (b.y - a.y))) (k := 0) 10 hm212 rfl (by kernel_rfl) (by kernel_rfl) (.tmp 17) Ty.ag_voxel_ray_time rfl (litEv (by kernel_rfl))) rfl (by decide) ?_
      refine litVal (v := .agg (tcs M1.b).toArray) rfl (wn rfl) (gLoadAg (vs := tcs M1.b) (k := 0) 5 hm212 rfl (by kernel_rfl) (by kernel_rfl) (.tmp 8) Ty.ag_voxel_ray_time rfl (litEv (by kernel_rfl))) rfl (by decide) ?_
      refine plCall (i := 2) 37 [.agg (tcs ((2 * (c.y - a.y)) + 1, 2 * (b.y - a.y))).toArray, .agg (tcs M1.b).toArray] [] [] rfl (by kernel_rfl) (wn rfl) rfl (litEv (by kernel_rfl)) (litArgs (by kernel_rfl)) (before_any ((2 * (c.y - a.y)) + 1, 2 * (b.y - a.y)) M1.b (by unfold Tsm Tm30; simp only; omega) sM1.2 _) ?_
      rintro e w215 ⟨rfl, hbz⟩
      have hm216 := hm212.below hbz
      clear hbz hm212
      refine ⟨_, rfl, ?_⟩
      refine qP rfl ?_
      rcases bool_or (tltb ((2 * (c.y - a.y)) + 1, 2 * (b.y - a.y)) M1.b) with h217 | h217
      · rw [h217]
        refine plD ?_
        refine then_normal (hK214 _ _ ?_)
        refine wp_cond_false (litEv (by kernel_rfl)) ?_
        refine wp_skip ?_
        refine inBlock_normal ?_
        refine then_normal ?_
        have ea_ : tcs M2.a = tcs M1.a := by rw [← hM2]; simp [stepC, alongP, btw0, Btw.meet, tcs, h153, h159, h207, h217]
        have eb_ : tcs M2.b = tcs M1.b := by rw [← hM2]; simp [stepC, alongP, btw0, Btw.meet, tcs, h153, h159, h207, h217]
        exact ⟨(by unfold crossOff; omega), ⟨litSize, rfl, ⟨litGet (by kernel_rfl), ⟨litGet (by kernel_rfl), ⟨litGet (by kernel_rfl), ⟨litGet (by kernel_rfl), ⟨litGet (by kernel_rfl), ⟨litGet (by kernel_rfl), ⟨litGet (by kernel_rfl), ⟨litGet (by kernel_rfl), trivial⟩⟩⟩⟩⟩⟩⟩⟩⟩, (by rw [ea_, eb_]; exact (hm216.firsts 9))⟩
      rw [h217]
      refine plD ?_
      refine then_normal (hK214 _ _ ?_)
      refine wp_cond_true (litEv (by kernel_rfl)) ?_
      refine plStart ?_
      refine litVal (v := .agg (tcs ((2 * (c.y - a.y)) + 1, 2 * (b.y - a.y))).toArray) rfl (wn rfl) (gLoadAg (vs := tcs ((2 * (c.y - a.y)) + 1, 2 * (b.y - a.y))) (k := 0) 10 hm216 rfl (by kernel_rfl) (by kernel_rfl) (.tmp 17) Ty.ag_voxel_ray_time rfl (litEv (by kernel_rfl))) rfl (by decide) ?_
      refine plStore 5 Ty.ag_voxel_ray_time hm216 rfl (i := 1) (cs := tcs ((2 * (c.y - a.y)) + 1, 2 * (b.y - a.y))) rfl (wn rfl) rfl (litEv (by kernel_rfl)) (litEv (by kernel_rfl)) rfl rfl (by kernel_rfl) ?_
      intro w219 hm218
      clear hm216
      try simp only [List.cons_append, List.nil_append, List.set_cons_succ, List.set_cons_zero] at hm218
      refine qNone rfl ?_
      refine plD ?_
      refine inBlock_normal ?_
      refine then_normal ?_
      have ea_ : tcs M2.a = tcs M1.a := by rw [← hM2]; simp [stepC, alongP, btw0, Btw.meet, tcs, h153, h159, h207, h217]
      have eb_ : tcs M2.b = tcs ((2 * (c.y - a.y)) + 1, 2 * (b.y - a.y)) := by rw [← hM2]; simp [stepC, alongP, btw0, Btw.meet, tcs, h153, h159, h207, h217]
      exact ⟨(by unfold crossOff; omega), ⟨litSize, rfl, ⟨litGet (by kernel_rfl), ⟨litGet (by kernel_rfl), ⟨litGet (by kernel_rfl), ⟨litGet (by kernel_rfl), ⟨litGet (by kernel_rfl), ⟨litGet (by kernel_rfl), ⟨litGet (by kernel_rfl), ⟨litGet (by kernel_rfl), trivial⟩⟩⟩⟩⟩⟩⟩⟩⟩, (by rw [ea_, eb_]; exact (hm218.firsts 9))⟩
    rw [h207]
    refine plD ?_
    refine then_normal (hK204 _ _ ?_)
    refine wp_cond_true (litEv (by kernel_rfl)) ?_
    refine plStart ?_
    refine litVal (v := .agg (tcs ((2 * (c.y - a.y)) - 1, 2 * (b.y - a.y))).toArray) rfl (wn rfl) (gLoadAg (vs := tcs ((2 * (c.y - a.y)) - 1, 2 * (b.y - a.y))) (k := 0) 9 hm206 rfl (by kernel_rfl) (by kernel_rfl) (.tmp 16) Ty.ag_voxel_ray_time rfl (litEv (by kernel_rfl))) rfl (by decide) ?_
    refine plStore 4 Ty.ag_voxel_ray_time hm206 rfl (i := 1) (cs := tcs ((2 * (c.y - a.y)) - 1, 2 * (b.y - a.y))) rfl (wn rfl) rfl (litEv (by kernel_rfl)) (litEv (by kernel_rfl)) rfl rfl (by kernel_rfl) ?_
    intro w221 hm220
    clear hm206
    try simp only [List.cons_append, List.nil_append, List.set_cons_succ, List.set_cons_zero] at hm220
    refine qNone rfl ?_
    refine plD ?_
    refine then_normal (hK197 _ _ ?_)
    refine wp_seq_k fun K222 hK222 => ?_
    refine plStart ?_
    refine lk (v := .int .i64 ((2 * (c.y - a.y)) + 1)) rfl rfl rfl ?_
    refine lk (v := .int .i64 (2 * (b.y - a.y))) rfl rfl rfl ?_
    refine lk (v := .agg (tcs ((2 * (c.y - a.y)) + 1, 2 * (b.y - a.y))).toArray) rfl rfl rfl ?_
    refine plAlloc (z := [.int .i64 0, .int .i64 0]) Ty.ag_voxel_ray_time hm220 (i := 3) rfl (wn rfl) rfl ?_
    intro g223 w225 hm224
    clear hm220
    try simp only [List.cons_append, List.nil_append, List.set_cons_succ, List.set_cons_zero] at hm224
    refine qP rfl ?_
    refine plStore 10 Ty.ag_voxel_ray_time hm224 rfl (i := 4) (cs := tcs ((2 * (c.y - a.y)) + 1, 2 * (b.y - a.y))) rfl (wn rfl) rfl (litEv (by kernel_rfl)) (litEv (by kernel_rfl)) rfl rfl (by kernel_rfl) ?_
    intro w227 hm226
    clear hm224
    try simp only [List.cons_append, List.nil_append, List.set_cons_succ, List.set_cons_zero] at hm226
    refine qNone rfl ?_
    refine plD ?_
    refine then_normal (hK222 _ _ ?_)
    refine wp_seq_k fun K228 hK228 => ?_
    refine plStart ?_
    refine litVal (v := .agg (tcs ((2 * (c.y - a.y)) + 1, 2 * (b.y - a.y))).toArray) rfl (wn rfl) (gLoadAg (vs := tcs ((2 * (c.y - a.y)) + 1, 2 * (b.y - a.y))) (k := 0) 10 hm226 rfl (by kernel_rfl) (by kernel_rfl) (.tmp 17) Ty.ag_voxel_ray_time rfl (litEv (by kernel_rfl))) rfl (by decide) ?_
    refine litVal (v := .agg (tcs M1.b).toArray) rfl (wn rfl) (gLoadAg (vs := tcs M1.b) (k := 0) 5 hm226 rfl (by kernel_rfl) (by kernel_rfl) (.tmp 8) Ty.ag_voxel_ray_time rfl (litEv (by kernel_rfl))) rfl (by decide) ?_
    refine plCall (i := 2) 37 [.agg (tcs ((2 * (c.y - a.y)) + 1, 2 * (b.y - a.y))).toArray, .agg (tcs M1.b).toArray] [] [] rfl (by kernel_rfl) (wn rfl) rfl (litEv (by kernel_rfl)) (litArgs (by kernel_rfl)) (before_any ((2 * (c.y - a.y)) + 1, 2 * (b.y - a.y)) M1.b (by unfold Tsm Tm30; simp only; omega) sM1.2 _) ?_
    rintro e w229 ⟨rfl, hbz⟩
    have hm230 := hm226.below hbz
    clear hbz hm226
    refine ⟨_, rfl, ?_⟩
    refine qP rfl ?_
    rcases bool_or (tltb ((2 * (c.y - a.y)) + 1, 2 * (b.y - a.y)) M1.b) with h231 | h231
    · rw [h231]
      refine plD ?_
      refine then_normal (hK228 _ _ ?_)
      refine wp_cond_false (litEv (by kernel_rfl)) ?_
      refine wp_skip ?_
      refine inBlock_normal ?_
      refine then_normal ?_
      have ea_ : tcs M2.a = tcs ((2 * (c.y - a.y)) - 1, 2 * (b.y - a.y)) := by rw [← hM2]; simp [stepC, alongP, btw0, Btw.meet, tcs, h153, h159, h207, h231]
      have eb_ : tcs M2.b = tcs M1.b := by rw [← hM2]; simp [stepC, alongP, btw0, Btw.meet, tcs, h153, h159, h207, h231]
      exact ⟨(by unfold crossOff; omega), ⟨litSize, rfl, ⟨litGet (by kernel_rfl), ⟨litGet (by kernel_rfl), ⟨litGet (by kernel_rfl), ⟨litGet (by kernel_rfl), ⟨litGet (by kernel_rfl), ⟨litGet (by kernel_rfl), ⟨litGet (by kernel_rfl), ⟨litGet (by kernel_rfl), trivial⟩⟩⟩⟩⟩⟩⟩⟩⟩, (by rw [ea_, eb_]; exact (hm230.firsts 9))⟩
    rw [h231]
    refine plD ?_
    refine then_normal (hK228 _ _ ?_)
    refine wp_cond_true (litEv (by kernel_rfl)) ?_
    refine plStart ?_
    refine litVal (v := .agg (tcs ((2 * (c.y - a.y)) + 1, 2 * (b.y - a.y))).toArray) rfl (wn rfl) (gLoadAg (vs := tcs ((2 * (c.y - a.y)) + 1, 2 * (b.y - a.y))) (k := 0) 10 hm230 rfl (by kernel_rfl) (by kernel_rfl) (.tmp 17) Ty.ag_voxel_ray_time rfl (litEv (by kernel_rfl))) rfl (by decide) ?_
    refine plStore 5 Ty.ag_voxel_ray_time hm230 rfl (i := 1) (cs := tcs ((2 * (c.y - a.y)) + 1, 2 * (b.y - a.y))) rfl (wn rfl) rfl (litEv (by kernel_rfl)) (litEv (by kernel_rfl)) rfl rfl (by kernel_rfl) ?_
    intro w233 hm232
    clear hm230
    try simp only [List.cons_append, List.nil_append, List.set_cons_succ, List.set_cons_zero] at hm232
    refine qNone rfl ?_
    refine plD ?_
    refine inBlock_normal ?_
    refine then_normal ?_
    have ea_ : tcs M2.a = tcs ((2 * (c.y - a.y)) - 1, 2 * (b.y - a.y)) := by rw [← hM2]; simp [stepC, alongP, btw0, Btw.meet, tcs, h153, h159, h207, h231]
    have eb_ : tcs M2.b = tcs ((2 * (c.y - a.y)) + 1, 2 * (b.y - a.y)) := by rw [← hM2]; simp [stepC, alongP, btw0, Btw.meet, tcs, h153, h159, h207, h231]
    exact ⟨(by unfold crossOff; omega), ⟨litSize, rfl, ⟨litGet (by kernel_rfl), ⟨litGet (by kernel_rfl), ⟨litGet (by kernel_rfl), ⟨litGet (by kernel_rfl), ⟨litGet (by kernel_rfl), ⟨litGet (by kernel_rfl), ⟨litGet (by kernel_rfl), ⟨litGet (by kernel_rfl), trivial⟩⟩⟩⟩⟩⟩⟩⟩⟩, (by rw [ea_, eb_]; exact (hm232.firsts 9))⟩
  clear hm137
  intro a236 w234 hI_
  obtain ⟨hoy_, hF_, hm235⟩ := hI_
  obtain ⟨X237, rfl⟩ := frLit hF_
  clear hF_
  refine plStart ?_
  refine lk (v := .int .i64 2) rfl rfl rfl ?_
  refine lk (v := .int .i64 2) rfl rfl rfl ?_
  refine plD ?_
  refine then_normal (roundsNext ?_)
  refine wp_seq_k fun K238 hK238 => ?_
  refine plStart ?_
  refine lk (v := .bool true) rfl rfl rfl ?_
  refine plD ?_
  refine then_normal (hK238 _ _ ?_)
  refine wp_seq_k fun K239 hK239 => ?_
  refine wp_cond_true (litEv (by kernel_rfl)) ?_
  refine wp_skip ?_
  refine then_normal (hK239 _ _ ?_)
  refine gwCut (fun a_ w_ => (¬ crossOff a.z b.z c.z) ∧ Fr a_ 113 [(7, .pointer (some ⟨g21, 0, none⟩)), (8, .pointer (some ⟨g24, 0, none⟩)), (9, .pointer (some ⟨g36, 0, none⟩)), (10, .pointer (some ⟨g37, 0, none⟩)), (11, .pointer (some ⟨g38, 0, none⟩)), (32, .int .i64 2), (33, .bool true), (99, .int .i64 2)] ∧ Mem w w_ [.arr g2 23 (pcs a), .arr g5 23 (pcs b), .arr g8 23 (pcs c), .arr g13 23 ([.int .i64 a.x, .int .i64 a.y, .int .i64 a.z, .int .i64 b.x, .int .i64 b.y, .int .i64 b.z, .int .i64 c.x, .int .i64 c.y, .int .i64 c.z]), .arr g21 70 (tcs M3.a), .arr g24 70 (tcs M3.b), .arr g36 71 (pcs a), .arr g37 71 (pcs b), .arr g38 71 (pcs c)]) ?_ ?_
  · refine wp_block ?_
    refine wp_seq_k fun K240 hK240 => ?_
    refine plStart ?_
    refine lk (v := .int .i64 2) rfl rfl rfl ?_
    refine lk (v := .int .i64 2) rfl rfl rfl ?_
    refine plD ?_
    refine then_normal (hK240 _ _ ?_)
    refine wp_seq_k fun K241 hK241 => ?_
    refine mgStart hm235 (by kernel_rfl) ?_
    intro w243 hm242
    clear hm235
    refine mk_ (i := 0) (v := .int .i64 2) rfl rfl (fun _ _ _ h => h) hm242 rfl ?_
    refine mgTake (i := 1) (v := .pointer (some ⟨g37, 2, none⟩)) rfl (by kernel_rfl) (wn rfl) (fun _ _ _ h => h) hm242 (fun w_ h_ => iaRun (b := g37) (off := 0) (s := 1) (n := 3) (kk := .i64) (.tmp 10) (.tmp 35) 2 Ty.und_3_int (by kernel_rfl) rfl (litEv (by kernel_rfl)) (litEv (by kernel_rfl)) rfl (by decide)) ?_
    refine mP rfl ?_
    refine mgTake (i := 2) (v := .int .i64 b.z) rfl (by kernel_rfl) (wn rfl) (fun _ _ _ h => h) hm242 (fun w_ h_ => gLoad (v := .int .i64 b.z) (k := 2) 7 h_ rfl (by kernel_rfl) (.tmp 36) (by kernel_rfl) rfl (litEv (by kernel_rfl))) ?_
    refine mP rfl ?_
    refine mk_ (i := 3) (v := .int .i64 2) rfl rfl (fun _ _ _ h => h) hm242 rfl ?_
    refine mgTake (i := 4) (v := .pointer (some ⟨g36, 2, none⟩)) rfl (by kernel_rfl) (wn rfl) (fun _ _ _ h => h) hm242 (fun w_ h_ => iaRun (b := g36) (off := 0) (s := 1) (n := 3) (kk := .i64) (.tmp 9) (.tmp 38) 2 Ty.und_3_int (by kernel_rfl) rfl (litEv (by kernel_rfl)) (litEv (by kernel_rfl)) rfl (by decide)) ?_
    refine mP rfl ?_
    refine mgTake (i := 5) (v := .int .i64 a.z) rfl (by kernel_rfl) (wn rfl) (fun _ _ _ h => h) hm242 (fun w_ h_ => gLoad (v := .int .i64 a.z) (k := 2) 6 h_ rfl (by kernel_rfl) (.tmp 39) (by kernel_rfl) rfl (litEv (by kernel_rfl))) ?_
    refine mP rfl ?_
    refine mgTake (i := 6) (v := .int .i64 (b.z - a.z)) rfl (by kernel_rfl) (wn rfl) (fun _ _ _ h => h) hm242 (fun w_ h_ => subRun (A := b.z) (B := a.z) (C := b.z - a.z) (.tmp 37) (.tmp 40) rfl (litEv (by kernel_rfl)) (litEv (by kernel_rfl)) rfl (by omega)) ?_
    refine mP rfl ?_
    refine mgTake (i := 7) (v := .int .i64 (2 * (b.z - a.z))) rfl (by kernel_rfl) (wn rfl) (fun _ _ _ h => h) hm242 (fun w_ h_ => mulRun (A := 2) (B := (b.z - a.z)) (C := 2 * (b.z - a.z)) (.const (.int .i64 2)) (.tmp 41) rfl (litEv (by kernel_rfl)) (litEv (by kernel_rfl)) rfl (by omega)) ?_
    refine mP rfl ?_
    refine mk_ (i := 8) (v := .int .i64 (2 * (b.z - a.z))) rfl rfl (fun _ _ _ h => h) hm242 rfl ?_
    refine mgDone (by kernel_rfl) ?_
    refine then_normal (hK241 _ _ ?_)
    refine wp_seq_k fun K244 hK244 => ?_
    refine mgStart hm242 (by kernel_rfl) ?_
    intro w246 hm245
    clear hm242
    refine mk_ (i := 0) (v := .int .i64 2) rfl rfl (fun _ _ _ h => h) hm245 rfl ?_
    refine mgTake (i := 1) (v := .pointer (some ⟨g38, 2, none⟩)) rfl (by kernel_rfl) (wn rfl) (fun _ _ _ h => h) hm245 (fun w_ h_ => iaRun (b := g38) (off := 0) (s := 1) (n := 3) (kk := .i64) (.tmp 11) (.tmp 43) 2 Ty.und_3_int (by kernel_rfl) rfl (litEv (by kernel_rfl)) (litEv (by kernel_rfl)) rfl (by decide)) ?_
    refine mP rfl ?_
    refine mgTake (i := 2) (v := .int .i64 c.z) rfl (by kernel_rfl) (wn rfl) (fun _ _ _ h => h) hm245 (fun w_ h_ => gLoad (v := .int .i64 c.z) (k := 2) 8 h_ rfl (by kernel_rfl) (.tmp 44) (by kernel_rfl) rfl (litEv (by kernel_rfl))) ?_
    refine mP rfl ?_
    refine mk_ (i := 3) (v := .int .i64 2) rfl rfl (fun _ _ _ h => h) hm245 rfl ?_
    refine mgTake (i := 4) (v := .pointer (some ⟨g36, 2, none⟩)) rfl (by kernel_rfl) (wn rfl) (fun _ _ _ h => h) hm245 (fun w_ h_ => iaRun (b := g36) (off := 0) (s := 1) (n := 3) (kk := .i64) (.tmp 9) (.tmp 46) 2 Ty.und_3_int (by kernel_rfl) rfl (litEv (by kernel_rfl)) (litEv (by kernel_rfl)) rfl (by decide)) ?_
    refine mP rfl ?_
    refine mgTake (i := 5) (v := .int .i64 a.z) rfl (by kernel_rfl) (wn rfl) (fun _ _ _ h => h) hm245 (fun w_ h_ => gLoad (v := .int .i64 a.z) (k := 2) 6 h_ rfl (by kernel_rfl) (.tmp 47) (by kernel_rfl) rfl (litEv (by kernel_rfl))) ?_
    refine mP rfl ?_
    refine mgTake (i := 6) (v := .int .i64 (c.z - a.z)) rfl (by kernel_rfl) (wn rfl) (fun _ _ _ h => h) hm245 (fun w_ h_ => subRun (A := c.z) (B := a.z) (C := c.z - a.z) (.tmp 45) (.tmp 48) rfl (litEv (by kernel_rfl)) (litEv (by kernel_rfl)) rfl (by omega)) ?_
    refine mP rfl ?_
    refine mgTake (i := 7) (v := .int .i64 (2 * (c.z - a.z))) rfl (by kernel_rfl) (wn rfl) (fun _ _ _ h => h) hm245 (fun w_ h_ => mulRun (A := 2) (B := (c.z - a.z)) (C := 2 * (c.z - a.z)) (.const (.int .i64 2)) (.tmp 49) rfl (litEv (by kernel_rfl)) (litEv (by kernel_rfl)) rfl (by omega)) ?_
    refine mP rfl ?_
    refine mgTake (i := 8) (v := .int .i64 ((2 * (c.z - a.z)) - 1)) rfl (by kernel_rfl) (wn rfl) (fun _ _ _ h => h) hm245 (fun w_ h_ => subRun (A := (2 * (c.z - a.z))) (B := 1) (C := (2 * (c.z - a.z)) - 1) (.tmp 50) (.const (.int .i64 1)) rfl (litEv (by kernel_rfl)) (litEv (by kernel_rfl)) rfl (by omega)) ?_
    refine mP rfl ?_
    refine mk_ (i := 9) (v := .int .i64 2) rfl rfl (fun _ _ _ h => h) hm245 rfl ?_
    refine mgTake (i := 10) (v := .pointer (some ⟨g38, 2, none⟩)) rfl (by kernel_rfl) (wn rfl) (fun _ _ _ h => h) hm245 (fun w_ h_ => iaRun (b := g38) (off := 0) (s := 1) (n := 3) (kk := .i64) (.tmp 11) (.tmp 52) 2 Ty.und_3_int (by kernel_rfl) rfl (litEv (by kernel_rfl)) (litEv (by kernel_rfl)) rfl (by decide)) ?_
    refine mP rfl ?_
    refine mgTake (i := 11) (v := .int .i64 c.z) rfl (by kernel_rfl) (wn rfl) (fun _ _ _ h => h) hm245 (fun w_ h_ => gLoad (v := .int .i64 c.z) (k := 2) 8 h_ rfl (by kernel_rfl) (.tmp 53) (by kernel_rfl) rfl (litEv (by kernel_rfl))) ?_
    refine mP rfl ?_
    refine mk_ (i := 12) (v := .int .i64 2) rfl rfl (fun _ _ _ h => h) hm245 rfl ?_
    refine mgTake (i := 13) (v := .pointer (some ⟨g36, 2, none⟩)) rfl (by kernel_rfl) (wn rfl) (fun _ _ _ h => h) hm245 (fun w_ h_ => iaRun (b := g36) (off := 0) (s := 1) (n := 3) (kk := .i64) (.tmp 9) (.tmp 55) 2 Ty.und_3_int (by kernel_rfl) rfl (litEv (by kernel_rfl)) (litEv (by kernel_rfl)) rfl (by decide)) ?_
    refine mP rfl ?_
    refine mgTake (i := 14) (v := .int .i64 a.z) rfl (by kernel_rfl) (wn rfl) (fun _ _ _ h => h) hm245 (fun w_ h_ => gLoad (v := .int .i64 a.z) (k := 2) 6 h_ rfl (by kernel_rfl) (.tmp 56) (by kernel_rfl) rfl (litEv (by kernel_rfl))) ?_
    refine mP rfl ?_
    refine mgTake (i := 15) (v := .int .i64 (c.z - a.z)) rfl (by kernel_rfl) (wn rfl) (fun _ _ _ h => h) hm245 (fun w_ h_ => subRun (A := c.z) (B := a.z) (C := c.z - a.z) (.tmp 54) (.tmp 57) rfl (litEv (by kernel_rfl)) (litEv (by kernel_rfl)) rfl (by omega)) ?_
    refine mP rfl ?_
    refine mgTake (i := 16) (v := .int .i64 (2 * (c.z - a.z))) rfl (by kernel_rfl) (wn rfl) (fun _ _ _ h => h) hm245 (fun w_ h_ => mulRun (A := 2) (B := (c.z - a.z)) (C := 2 * (c.z - a.z)) (.const (.int .i64 2)) (.tmp 58) rfl (litEv (by kernel_rfl)) (litEv (by kernel_rfl)) rfl (by omega)) ?_
    refine mP rfl ?_
    refine mgTake (i := 17) (v := .int .i64 ((2 * (c.z - a.z)) + 1)) rfl (by kernel_rfl) (wn rfl) (fun _ _ _ h => h) hm245 (fun w_ h_ => addRun (A := (2 * (c.z - a.z))) (B := 1) (C := (2 * (c.z - a.z)) + 1) (.tmp 59) (.const (.int .i64 1)) rfl (litEv (by kernel_rfl)) (litEv (by kernel_rfl)) rfl (by omega)) ?_
    refine mP rfl ?_
    refine mk_ (i := 18) (v := .int .i64 ((2 * (c.z - a.z)) - 1)) rfl rfl (fun _ _ _ h => h) hm245 rfl ?_
    refine mk_ (i := 19) (v := .int .i64 ((2 * (c.z - a.z)) + 1)) rfl rfl (fun _ _ _ h => h) hm245 rfl ?_
    refine mgDone (by kernel_rfl) ?_
    refine then_normal (hK244 _ _ ?_)
    refine wp_seq_k fun K247 hK247 => ?_
    refine wp_block ?_
    refine wp_seq_k fun K248 hK248 => ?_
    refine mgStart hm245 (by kernel_rfl) ?_
    intro w250 hm249
    clear hm245
    refine mk_ (i := 0) (v := .int .i64 (2 * (b.z - a.z))) rfl rfl (fun _ _ _ h => h) hm249 rfl ?_
    by_cases h251 : (2 * (b.z - a.z)) = 0
    · refine mgTake (i := 1) (v := .bool true) rfl (by kernel_rfl) (wn rfl) (fun _ _ _ h => h) hm249 (fun w_ h_ => boolTo (decide_eq_true h251) (eqlRun (A := (2 * (b.z - a.z))) (B := 0) (.tmp 62) (.const (.int .i64 0)) rfl (litEv (by kernel_rfl)) (litEv (by kernel_rfl)))) ?_
      refine mP rfl ?_
      refine mk_ (i := 2) (v := .bool true) rfl rfl (fun _ _ _ h => h) hm249 rfl ?_
      refine mgTake (i := 3) (v := .int .i64 2) rfl (by kernel_rfl) (wgY rfl rfl rfl (by decide) (by kernel_rfl)) (fun _ _ _ h => h) hm249 (fun w_ h_ => litRun (by kernel_rfl)) ?_
      refine mP rfl ?_
      refine mgTake (i := 4) (v := .pointer (some ⟨g36, 2, none⟩)) rfl (by kernel_rfl) (wgY rfl rfl rfl (by decide) (by kernel_rfl)) (fun _ _ _ h => h) hm249 (fun w_ h_ => iaRun (b := g36) (off := 0) (s := 1) (n := 3) (kk := .i64) (.tmp 9) (.tmp 65) 2 Ty.und_3_int (by kernel_rfl) rfl (litEv (by kernel_rfl)) (litEv (by kernel_rfl)) rfl (by decide)) ?_
      refine mP rfl ?_
      refine mgTake (i := 5) (v := .int .i64 a.z) rfl (by kernel_rfl) (wgY rfl rfl rfl (by decide) (by kernel_rfl)) (fun _ _ _ h => h) hm249 (fun w_ h_ => gLoad (v := .int .i64 a.z) (k := 2) 6 h_ rfl (by kernel_rfl) (.tmp 66) (by kernel_rfl) rfl (litEv (by kernel_rfl))) ?_
      refine mP rfl ?_
      refine mgTake (i := 6) (v := .int .i64 2) rfl (by kernel_rfl) (wgY rfl rfl rfl (by decide) (by kernel_rfl)) (fun _ _ _ h => h) hm249 (fun w_ h_ => litRun (by kernel_rfl)) ?_
      refine mP rfl ?_
      refine mgTake (i := 7) (v := .pointer (some ⟨g38, 2, none⟩)) rfl (by kernel_rfl) (wgY rfl rfl rfl (by decide) (by kernel_rfl)) (fun _ _ _ h => h) hm249 (fun w_ h_ => iaRun (b := g38) (off := 0) (s := 1) (n := 3) (kk := .i64) (.tmp 11) (.tmp 68) 2 Ty.und_3_int (by kernel_rfl) rfl (litEv (by kernel_rfl)) (litEv (by kernel_rfl)) rfl (by decide)) ?_
      refine mP rfl ?_
      refine mgTake (i := 8) (v := .int .i64 c.z) rfl (by kernel_rfl) (wgY rfl rfl rfl (by decide) (by kernel_rfl)) (fun _ _ _ h => h) hm249 (fun w_ h_ => gLoad (v := .int .i64 c.z) (k := 2) 8 h_ rfl (by kernel_rfl) (.tmp 69) (by kernel_rfl) rfl (litEv (by kernel_rfl))) ?_
      refine mP rfl ?_
      by_cases h252 : a.z = c.z
      · refine mgTake (i := 9) (v := .bool false) rfl (by kernel_rfl) (wgY rfl rfl rfl (by decide) (by kernel_rfl)) (fun _ _ _ h => h) hm249 (fun w_ h_ => boolTo (by rw [decide_eq_true h252]; rfl) (neqRun (A := a.z) (B := c.z) (.tmp 67) (.tmp 70) rfl (litEv (by kernel_rfl)) (litEv (by kernel_rfl)))) ?_
        refine mP rfl ?_
        refine mk_ (i := 10) (v := .bool false) rfl rfl (fun _ _ _ h => h) hm249 rfl ?_
        refine mk_ (i := 11) (v := .bool false) rfl rfl (fun _ _ _ h => h) hm249 rfl ?_
        refine mgDone (by kernel_rfl) ?_
        refine then_normal (hK248 _ _ ?_)
        refine wp_cond_false (litEv (by kernel_rfl)) ?_
        refine wp_seq_k fun K253 hK253 => ?_
        refine plStart ?_
        refine lk (v := .int .i64 (2 * (b.z - a.z))) rfl rfl rfl ?_
        refine litVal (v := .bool true) rfl (wn rfl) (boolTo (decide_eq_true h251) (eqlRun (A := (2 * (b.z - a.z))) (B := 0) (.tmp 74) (.const (.int .i64 0)) rfl (litEv (by kernel_rfl)) (litEv (by kernel_rfl)))) rfl (by decide) ?_
        refine lk (v := .bool true) rfl rfl rfl ?_
        refine plD ?_
        refine then_normal (hK253 _ _ ?_)
        refine wp_cond_true (litEv (by kernel_rfl)) ?_
        refine wp_exit ?_
        refine inBlock_other (by decide) ?_
        refine then_exit ?_
        refine inBlock_exit ?_
        refine then_normal ?_
        have ea_ : tcs M3.a = tcs M2.a := by rw [← hM3]; unfold stepC; rw [if_pos h251] <;> rfl
        have eb_ : tcs M3.b = tcs M2.b := by rw [← hM3]; unfold stepC; rw [if_pos h251] <;> rfl
        exact ⟨(by unfold crossOff; omega), ⟨litSize, rfl, ⟨litGet (by kernel_rfl), ⟨litGet (by kernel_rfl), ⟨litGet (by kernel_rfl), ⟨litGet (by kernel_rfl), ⟨litGet (by kernel_rfl), ⟨litGet (by kernel_rfl), ⟨litGet (by kernel_rfl), ⟨litGet (by kernel_rfl), trivial⟩⟩⟩⟩⟩⟩⟩⟩⟩, (by rw [ea_, eb_]; exact (hm249.firsts 9))⟩
      refine mgTake (i := 9) (v := .bool true) rfl (by kernel_rfl) (wgY rfl rfl rfl (by decide) (by kernel_rfl)) (fun _ _ _ h => h) hm249 (fun w_ h_ => boolTo (by rw [decide_eq_false h252]; rfl) (neqRun (A := a.z) (B := c.z) (.tmp 67) (.tmp 70) rfl (litEv (by kernel_rfl)) (litEv (by kernel_rfl)))) ?_
      refine mP rfl ?_
      refine mk_ (i := 10) (v := .bool true) rfl rfl (fun _ _ _ h => h) hm249 rfl ?_
      refine mk_ (i := 11) (v := .bool true) rfl rfl (fun _ _ _ h => h) hm249 rfl ?_
      refine mgDone (by kernel_rfl) ?_
      refine then_normal (hK248 _ _ ?_)
      refine wp_cond_true (litEv (by kernel_rfl)) ?_
      refine wp_seq_k fun K254 hK254 => ?_
      refine plStart ?_
      refine lk (v := .bool false) rfl rfl rfl ?_
      refine plD ?_
      refine then_normal (hK254 _ _ ?_)
      refine wp_ret ?_
      refine inBlock_ret ?_
      refine then_ret ?_
      refine inBlock_ret ?_
      refine then_ret ?_
      refine then_ret ?_
      refine inBlock_ret ?_
      refine then_ret ?_
      refine bodyPost_ret (v := .bool false) (gRes1 rfl (gResTmp (t := 6) (v := .bool false) (litGet (by kernel_rfl)))) rfl ?_
      exact ⟨congrArg (fun b_ => Ending.returned (.bool b_)) (Eq.symm (by rw [h18, Bool.true_and]; unfold crossR; rw [if_pos (by unfold crossOff; omega)])), hm249.bel⟩
    refine mgTake (i := 1) (v := .bool false) rfl (by kernel_rfl) (wn rfl) (fun _ _ _ h => h) hm249 (fun w_ h_ => boolTo (decide_eq_false h251) (eqlRun (A := (2 * (b.z - a.z))) (B := 0) (.tmp 62) (.const (.int .i64 0)) rfl (litEv (by kernel_rfl)) (litEv (by kernel_rfl)))) ?_
    refine mP rfl ?_
    refine mk_ (i := 2) (v := .bool false) rfl rfl (fun _ _ _ h => h) hm249 rfl ?_
    refine mgSkip (i := 3) rfl (by kernel_rfl) (wgN rfl rfl rfl (by decide) (by kernel_rfl)) (fun _ _ _ h => h) hm249 ?_
    refine mP rfl ?_
    refine mgSkip (i := 4) rfl (by kernel_rfl) (wgN rfl rfl rfl (by decide) (by kernel_rfl)) (fun _ _ _ h => h) hm249 ?_
    refine mP rfl ?_
    refine mgSkip (i := 5) rfl (by kernel_rfl) (wgN rfl rfl rfl (by decide) (by kernel_rfl)) (fun _ _ _ h => h) hm249 ?_
    refine mP rfl ?_
    refine mgSkip (i := 6) rfl (by kernel_rfl) (wgN rfl rfl rfl (by decide) (by kernel_rfl)) (fun _ _ _ h => h) hm249 ?_
    refine mP rfl ?_
    refine mgSkip (i := 7) rfl (by kernel_rfl) (wgN rfl rfl rfl (by decide) (by kernel_rfl)) (fun _ _ _ h => h) hm249 ?_
    refine mP rfl ?_
    refine mgSkip (i := 8) rfl (by kernel_rfl) (wgN rfl rfl rfl (by decide) (by kernel_rfl)) (fun _ _ _ h => h) hm249 ?_
    refine mP rfl ?_
    refine mgSkip (i := 9) rfl (by kernel_rfl) (wgN rfl rfl rfl (by decide) (by kernel_rfl)) (fun _ _ _ h => h) hm249 ?_
    refine mP rfl ?_
    refine mk_ (i := 10) (v := .bool false) rfl rfl (fun _ _ _ h => h) hm249 rfl ?_
    refine mk_ (i := 11) (v := .bool false) rfl rfl (fun _ _ _ h => h) hm249 rfl ?_
    refine mgDone (by kernel_rfl) ?_
    refine then_normal (hK248 _ _ ?_)
    refine wp_cond_false (litEv (by kernel_rfl)) ?_
    refine wp_seq_k fun K255 hK255 => ?_
    refine plStart ?_
    refine lk (v := .int .i64 (2 * (b.z - a.z))) rfl rfl rfl ?_
    refine litVal (v := .bool false) rfl (wn rfl) (boolTo (decide_eq_false h251) (eqlRun (A := (2 * (b.z - a.z))) (B := 0) (.tmp 74) (.const (.int .i64 0)) rfl (litEv (by kernel_rfl)) (litEv (by kernel_rfl)))) rfl (by decide) ?_
    refine lk (v := .bool false) rfl rfl rfl ?_
    refine plD ?_
    refine then_normal (hK255 _ _ ?_)
    refine wp_cond_false (litEv (by kernel_rfl)) ?_
    refine wp_seq_k fun K256 hK256 => ?_
    refine plStart ?_
    refine lk (v := .int .i64 (2 * (b.z - a.z))) rfl rfl rfl ?_
    by_cases h257 : (2 * (b.z - a.z)) < 0
    · refine litVal (v := .bool true) rfl (wn rfl) (boolTo (decide_eq_true h257) (lssRun (A := (2 * (b.z - a.z))) (B := 0) (.tmp 77) (.const (.int .i64 0)) rfl (litEv (by kernel_rfl)) (litEv (by kernel_rfl)))) rfl (by decide) ?_
      refine lk (v := .bool true) rfl rfl rfl ?_
      refine plD ?_
      refine then_normal (hK256 _ _ ?_)
      refine wp_cond_true (litEv (by kernel_rfl)) ?_
      refine plStart ?_
      refine lk (v := .int .i64 (2 * (b.z - a.z))) rfl rfl rfl ?_
      refine litVal (v := .int .i64 (-(2 * (b.z - a.z)))) rfl (wn rfl) (gNeg (.tmp 79) rfl (litEv (by kernel_rfl)) (by omega)) rfl (by decide) ?_
      refine lk (v := .int .i64 ((2 * (c.z - a.z)) + 1)) rfl rfl rfl ?_
      refine litVal (v := .int .i64 (-((2 * (c.z - a.z)) + 1))) rfl (wn rfl) (gNeg (.tmp 81) rfl (litEv (by kernel_rfl)) (by omega)) rfl (by decide) ?_
      refine lk (v := .int .i64 ((2 * (c.z - a.z)) - 1)) rfl rfl rfl ?_
      refine litVal (v := .int .i64 (-((2 * (c.z - a.z)) - 1))) rfl (wn rfl) (gNeg (.tmp 83) rfl (litEv (by kernel_rfl)) (by omega)) rfl (by decide) ?_
      refine lk (v := .int .i64 (-(2 * (b.z - a.z)))) rfl rfl rfl ?_
      refine lk (v := .int .i64 (-((2 * (c.z - a.z)) + 1))) rfl rfl rfl ?_
      refine lk (v := .int .i64 (-((2 * (c.z - a.z)) - 1))) rfl rfl rfl ?_
      refine plD ?_
      refine inBlock_normal ?_
      refine then_normal (hK247 _ _ ?_)
      refine wpPrune [(7, .pointer (some ⟨g21, 0, none⟩)), (8, .pointer (some ⟨g24, 0, none⟩)), (9, .pointer (some ⟨g36, 0, none⟩)), (10, .pointer (some ⟨g37, 0, none⟩)), (11, .pointer (some ⟨g38, 0, none⟩)), (12, .int .i64 2), (13, .int .i64 (-(2 * (b.z - a.z)))), (14, .int .i64 (-((2 * (c.z - a.z)) + 1))), (15, .int .i64 (-((2 * (c.z - a.z)) - 1))), (32, .int .i64 2), (33, .bool true), (34, .int .i64 2), (35, .int .i64 2), (36, .pointer (some ⟨g37, 2, none⟩)), (37, .int .i64 b.z), (38, .int .i64 2), (39, .pointer (some ⟨g36, 2, none⟩)), (40, .int .i64 a.z), (41, .int .i64 (b.z - a.z)), (42, .int .i64 (2 * (b.z - a.z))), (43, .int .i64 2), (44, .pointer (some ⟨g38, 2, none⟩)), (45, .int .i64 c.z), (46, .int .i64 2), (47, .pointer (some ⟨g36, 2, none⟩)), (48, .int .i64 a.z), (49, .int .i64 (c.z - a.z)), (50, .int .i64 (2 * (c.z - a.z))), (51, .int .i64 ((2 * (c.z - a.z)) - 1)), (52, .int .i64 2), (53, .pointer (some ⟨g38, 2, none⟩)), (54, .int .i64 c.z), (55, .int .i64 2), (56, .pointer (some ⟨g36, 2, none⟩)), (57, .int .i64 a.z), (58, .int .i64 (c.z - a.z)), (59, .int .i64 (2 * (c.z - a.z))), (60, .int .i64 ((2 * (c.z - a.z)) + 1)), (61, .bool false), (62, .int .i64 (2 * (b.z - a.z))), (63, .bool false), (64, .bool false), (72, .bool false), (73, .bool false), (74, .int .i64 (2 * (b.z - a.z))), (75, .bool false), (76, .bool true), (77, .int .i64 (2 * (b.z - a.z))), (78, .bool true), (79, .int .i64 (2 * (b.z - a.z))), (80, .int .i64 (-(2 * (b.z - a.z)))), (81, .int .i64 ((2 * (c.z - a.z)) + 1)), (82, .int .i64 (-((2 * (c.z - a.z)) + 1))), (83, .int .i64 ((2 * (c.z - a.z)) - 1)), (84, .int .i64 (-((2 * (c.z - a.z)) - 1))), (99, .int .i64 2)] ⟨litGet (by kernel_rfl), ⟨litGet (by kernel_rfl), ⟨litGet (by kernel_rfl), ⟨litGet (by kernel_rfl), ⟨litGet (by kernel_rfl), ⟨litGet (by kernel_rfl), ⟨litGet (by kernel_rfl), ⟨litGet (by kernel_rfl), ⟨litGet (by kernel_rfl), ⟨litGet (by kernel_rfl), ⟨litGet (by kernel_rfl), ⟨litGet (by kernel_rfl), ⟨litGet (by kernel_rfl), ⟨litGet (by kernel_rfl), ⟨litGet (by kernel_rfl), ⟨litGet (by kernel_rfl), ⟨litGet (by kernel_rfl), ⟨litGet (by kernel_rfl), ⟨litGet (by kernel_rfl), ⟨litGet (by kernel_rfl), ⟨litGet (by kernel_rfl), ⟨litGet (by kernel_rfl), ⟨litGet (by kernel_rfl), ⟨litGet (by kernel_rfl), ⟨litGet (by kernel_rfl), ⟨litGet (by kernel_rfl), ⟨litGet (by kernel_rfl), ⟨litGet (by kernel_rfl), ⟨litGet (by kernel_rfl), ⟨litGet (by kernel_rfl), ⟨litGet (by kernel_rfl), ⟨litGet (by kernel_rfl), ⟨litGet (by kernel_rfl), ⟨litGet (by kernel_rfl), ⟨litGet (by kernel_rfl), ⟨litGet (by kernel_rfl), ⟨litGet (by kernel_rfl), ⟨litGet (by kernel_rfl), ⟨litGet (by kernel_rfl), ⟨litGet (by kernel_rfl), ⟨litGet (by kernel_rfl), ⟨litGet (by kernel_rfl), ⟨litGet (by kernel_rfl), ⟨litGet (by kernel_rfl), ⟨litGet (by kernel_rfl), ⟨litGet (by kernel_rfl), ⟨litGet (by kernel_rfl), ⟨litGet (by kernel_rfl), ⟨litGet (by kernel_rfl), ⟨litGet (by kernel_rfl), ⟨litGet (by kernel_rfl), ⟨litGet (by kernel_rfl), ⟨litGet (by kernel_rfl), ⟨litGet (by kernel_rfl), ⟨litGet (by kernel_rfl), ⟨litGet (by kernel_rfl), trivial⟩⟩⟩⟩⟩⟩⟩⟩⟩⟩⟩⟩⟩⟩⟩⟩⟩⟩⟩⟩⟩⟩⟩⟩⟩⟩⟩⟩⟩⟩⟩⟩⟩⟩⟩⟩⟩⟩⟩⟩⟩⟩⟩⟩⟩⟩⟩⟩⟩⟩⟩⟩⟩⟩⟩⟩ (fun X258 => ?_)
      refine wp_seq_k fun K259 hK259 => ?_
      refine wp_seq_k fun K260 hK260 => ?_
      refine plStart ?_
      refine lk (v := .int .i64 (-((2 * (c.z - a.z)) + 1))) rfl rfl rfl ?_
      refine lk (v := .int .i64 (-(2 * (b.z - a.z)))) rfl rfl rfl ?_
      refine lk (v := .agg (tcs (-((2 * (c.z - a.z)) + 1), -(2 * (b.z - a.z)))).toArray) rfl rfl rfl ?_
      refine plAlloc (z := [.int .i64 0, .int .i64 0]) Ty.ag_voxel_ray_time hm249 (i := 3) rfl (wn rfl) rfl ?_
      intro g261 w263 hm262
      clear hm249
      try simp only [List.cons_append, List.nil_append, List.set_cons_succ, List.set_cons_zero] at hm262
      refine qP rfl ?_
      refine plStore 9 Ty.ag_voxel_ray_time hm262 rfl (i := 4) (cs := tcs (-((2 * (c.z - a.z)) + 1), -(2 * (b.z - a.z)))) rfl (wn rfl) rfl (litEv (by kernel_rfl)) (litEv (by kernel_rfl)) rfl rfl (by kernel_rfl) ?_
      intro w265 hm264
      clear hm262
      try simp only [List.cons_append, List.nil_append, List.set_cons_succ, List.set_cons_zero] at hm264
      refine qNone rfl ?_
      refine plD ?_
      refine then_normal (hK260 _ _ ?_)
      refine wp_seq_k fun K266 hK266 => ?_
      refine plStart ?_
      refine litVal (v := .agg (tcs M2.a).toArray) rfl (wn rfl) (gLoadAg (vs := tcs M2.a) (k := 0) 4 hm264 rfl (by kernel_rfl) (by kernel_rfl) (.tmp 7) Ty.ag_voxel_ray_time rfl (litEv (by kernel_rfl))) rfl (by decide) ?_
      refine litVal (v := .agg (tcs (-((2 * (c.z - a.z)) + 1), -(2 * (b.z - a.z)))).toArray) rfl (wn rfl) (gLoadAg (vs := tcs (-((2 * (c.z - a.z)) + 1), -(2 * (b.z - a.z)))) (k := 0) 9 hm264 rfl (by kernel_rfl) (by kernel_rfl) (.tmp 16) Ty.ag_voxel_ray_time rfl (litEv (by kernel_rfl))) rfl (by decide) ?_
      refine plCall (i := 2) 37 [.agg (tcs M2.a).toArray, .agg (tcs (-((2 * (c.z - a.z)) + 1), -(2 * (b.z - a.z)))).toArray] [] [] rfl (by kernel_rfl) (wn rfl) rfl (litEv (by kernel_rfl)) (litArgs (by kernel_rfl)) (before_any M2.a (-((2 * (c.z - a.z)) + 1), -(2 * (b.z - a.z))) sM2.1 (by unfold Tsm Tm30; simp only; omega) _) ?_
      rintro e w267 ⟨rfl, hbz⟩
      have hm268 := hm264.below hbz
      clear hbz hm264
      refine ⟨_, rfl, ?_⟩
      refine qP rfl ?_
      rcases bool_or (tltb M2.a (-((2 * (c.z - a.z)) + 1), -(2 * (b.z - a.z)))) with h269 | h269
      · rw [h269]
        refine plD ?_
        refine then_normal (hK266 _ _ ?_)
        refine wp_cond_false (litEv (by kernel_rfl)) ?_
        refine wp_skip ?_
        refine then_normal (hK259 _ _ ?_)
        refine wp_seq_k fun K270 hK270 => ?_
        refine plStart ?_
        refine lk (v := .int .i64 (-((2 * (c.z - a.z)) - 1))) rfl rfl rfl ?_
        refine lk (v := .int .i64 (-(2 * (b.z - a.z)))) rfl rfl rfl ?_
        refine lk (v := .agg (tcs (-((2 * (c.z - a.z)) - 1), -(2 * (b.z - a.z)))).toArray) rfl rfl rfl ?_
        refine plAlloc (z := [.int .i64 0, .int .i64 0]) Ty.ag_voxel_ray_time hm268 (i := 3) rfl (wn rfl) rfl ?_
        intro g271 w273 hm272
        clear hm268
        try simp only [List.cons_append, List.nil_append, List.set_cons_succ, List.set_cons_zero] at hm272
        refine qP rfl ?_
        refine plStore 10 Ty.ag_voxel_ray_time hm272 rfl (i := 4) (cs := tcs (-((2 * (c.z - a.z)) - 1), -(2 * (b.z - a.z)))) rfl (wn rfl) rfl (litEv (by kernel_rfl)) (litEv (by kernel_rfl)) rfl rfl (by kernel_rfl) ?_
        intro w275 hm274
        clear hm272
        try simp only [List.cons_append, List.nil_append, List.set_cons_succ, List.set_cons_zero] at hm274
        refine qNone rfl ?_
        refine plD ?_
        refine then_normal (hK270 _ _ ?_)
        refine wp_seq_k fun K276 hK276 => ?_
        refine plStart ?_
        refine litVal (v := .agg (tcs (-((2 * (c.z - a.z)) - 1), -(2 * (b.z - a.z)))).toArray) rfl (wn rfl) (gLoadAg (vs := tcs (-((2 * (c.z - a.z)) - 1), -(2 * (b.z - a.z)))) (k := 0) 10 hm274 rfl (by kernel_rfl) (by kernel_rfl) (.tmp 17) Ty.ag_voxel_ray_time rfl (litEv (by kernel_rfl))) rfl (by decide) ?_
        refine litVal (v := .agg (tcs M2.b).toArray) rfl (wn rfl) (gLoadAg (vs := tcs M2.b) (k := 0) 5 hm274 rfl (by kernel_rfl) (by kernel_rfl) (.tmp 8) Ty.ag_voxel_ray_time rfl (litEv (by kernel_rfl))) rfl (by decide) ?_
        refine plCall (i := 2) 37 [.agg (tcs (-((2 * (c.z - a.z)) - 1), -(2 * (b.z - a.z)))).toArray, .agg (tcs M2.b).toArray] [] [] rfl (by kernel_rfl) (wn rfl) rfl (litEv (by kernel_rfl)) (litArgs (by kernel_rfl)) (before_any (-((2 * (c.z - a.z)) - 1), -(2 * (b.z - a.z))) M2.b (by unfold Tsm Tm30; simp only; omega) sM2.2 _) ?_
        rintro e w277 ⟨rfl, hbz⟩
        have hm278 := hm274.below hbz
        clear hbz hm274
        refine ⟨_, rfl, ?_⟩
        refine qP rfl ?_
        rcases bool_or (tltb (-((2 * (c.z - a.z)) - 1), -(2 * (b.z - a.z))) M2.b) with h279 | h279
        · rw [h279]
          refine plD ?_
          refine then_normal (hK276 _ _ ?_)
          refine wp_cond_false (litEv (by kernel_rfl)) ?_
          refine wp_skip ?_
          refine inBlock_normal ?_
          refine then_normal ?_
          have ea_ : tcs M3.a = tcs M2.a := by rw [← hM3]; simp [stepC, alongP, btw0, Btw.meet, tcs, h251, h257, h269, h279]
          have eb_ : tcs M3.b = tcs M2.b := by rw [← hM3]; simp [stepC, alongP, btw0, Btw.meet, tcs, h251, h257, h269, h279]
          exact ⟨(by unfold crossOff; omega), ⟨litSize, rfl, ⟨litGet (by kernel_rfl), ⟨litGet (by kernel_rfl), ⟨litGet (by kernel_rfl), ⟨litGet (by kernel_rfl), ⟨litGet (by kernel_rfl), ⟨litGet (by kernel_rfl), ⟨litGet (by kernel_rfl), ⟨litGet (by kernel_rfl), trivial⟩⟩⟩⟩⟩⟩⟩⟩⟩, (by rw [ea_, eb_]; exact (hm278.firsts 9))⟩
        rw [h279]
        refine plD ?_
        refine then_normal (hK276 _ _ ?_)
        refine wp_cond_true (litEv (by kernel_rfl)) ?_
        refine plStart ?_
        refine litVal (v := .agg (tcs (-((2 * (c.z - a.z)) - 1), -(2 * (b.z - a.z)))).toArray) rfl (wn rfl) (gLoadAg (vs := tcs (-((2 * (c.z - a.z)) - 1), -(2 * (b.z - a.z)))) (k := 0) 10 hm278 rfl (by kernel_rfl) (by kernel_rfl) (.tmp 17) Ty.ag_voxel_ray_time rfl (litEv (by kernel_rfl))) rfl (by decide) ?_
        refine plStore 5 Ty.ag_voxel_ray_time hm278 rfl (i := 1) (cs := tcs (-((2 * (c.z - a.z)) - 1), -(2 * (b.z - a.z)))) rfl (wn rfl) rfl (litEv (by kernel_rfl)) (litEv (by kernel_rfl)) rfl rfl (by kernel_rfl) ?_
        intro w281 hm280
        clear hm278
        try simp only [List.cons_append, List.nil_append, List.set_cons_succ, List.set_cons_zero] at hm280
        refine qNone rfl ?_
        refine plD ?_
        refine inBlock_normal ?_
        refine then_normal ?_
        have ea_ : tcs M3.a = tcs M2.a := by rw [← hM3]; simp [stepC, alongP, btw0, Btw.meet, tcs, h251, h257, h269, h279]
        have eb_ : tcs M3.b = tcs (-((2 * (c.z - a.z)) - 1), -(2 * (b.z - a.z))) := by rw [← hM3]; simp [stepC, alongP, btw0, Btw.meet, tcs, h251, h257, h269, h279]
        exact ⟨(by unfold crossOff; omega), ⟨litSize, rfl, ⟨litGet (by kernel_rfl), ⟨litGet (by kernel_rfl), ⟨litGet (by kernel_rfl), ⟨litGet (by kernel_rfl), ⟨litGet (by kernel_rfl), ⟨litGet (by kernel_rfl), ⟨litGet (by kernel_rfl), ⟨litGet (by kernel_rfl), trivial⟩⟩⟩⟩⟩⟩⟩⟩⟩, (by rw [ea_, eb_]; exact (hm280.firsts 9))⟩
      rw [h269]
      refine plD ?_
      refine then_normal (hK266 _ _ ?_)
      refine wp_cond_true (litEv (by kernel_rfl)) ?_
      refine plStart ?_
      refine litVal (v := .agg (tcs (-((2 * (c.z - a.z)) + 1), -(2 * (b.z - a.z)))).toArray) rfl (wn rfl) (gLoadAg (vs := tcs (-((2 * (c.z - a.z)) + 1), -(2 * (b.z - a.z)))) (k := 0) 9 hm268 rfl (by kernel_rfl) (by kernel_rfl) (.tmp 16) Ty.ag_voxel_ray_time rfl (litEv (by kernel_rfl))) rfl (by decide) ?_
      refine plStore 4 Ty.ag_voxel_ray_time hm268 rfl (i := 1) (cs := tcs (-((2 * (c.z - a.z)) + 1), -(2 * (b.z - a.z)))) rfl (wn rfl) rfl (litEv (by kernel_rfl)) (litEv (by kernel_rfl)) rfl rfl (by kernel_rfl) ?_
      intro w283 hm282
      clear hm268
      try simp only [List.cons_append, List.nil_append, List.set_cons_succ, List.set_cons_zero] at hm282
      refine qNone rfl ?_
      refine plD ?_
      refine then_normal (hK259 _ _ ?_)
      refine wp_seq_k fun K284 hK284 => ?_
      refine plStart ?_
      refine lk (v := .int .i64 (-((2 * (c.z - a.z)) - 1))) rfl rfl rfl ?_
      refine lk (v := .int .i64 (-(2 * (b.z - a.z)))) rfl rfl rfl ?_
      refine lk (v := .agg (tcs (-((2 * (c.z - a.z)) - 1), -(2 * (b.z - a.z)))).toArray) rfl rfl rfl ?_
      refine plAlloc (z := [.int .i64 0, .int .i64 0]) Ty.ag_voxel_ray_time hm282 (i := 3) rfl (wn rfl) rfl ?_
      intro g285 w287 hm286
      clear hm282
      try simp only [List.cons_append, List.nil_append, List.set_cons_succ, List.set_cons_zero] at hm286
      refine qP rfl ?_
      refine plStore 10 Ty.ag_voxel_ray_time hm286 rfl (i := 4) (cs := tcs (-((2 * (c.z - a.z)) - 1), -(2 * (b.z - a.z)))) rfl (wn rfl) rfl (litEv (by kernel_rfl)) (litEv (by kernel_rfl)) rfl rfl (by kernel_rfl) ?_
      intro w289 hm288
      clear hm286
      try simp only [List.cons_append, List.nil_append, List.set_cons_succ, List.set_cons_zero] at hm288
      refine qNone rfl ?_
      refine plD ?_
      refine then_normal (hK284 _ _ ?_)
      refine wp_seq_k fun K290 hK290 => ?_
      refine plStart ?_
      refine litVal (v := .agg (tcs (-((2 * (c.z - a.z)) - 1), -(2 * (b.z - a.z)))).toArray) rfl (wn rfl) (gLoadAg (vs := tcs (-((2 * (c.z - a.z)) - 1), -(2 * (b.z - a.z)))) (k := 0) 10 hm288 rfl (by kernel_rfl) (by kernel_rfl) (.tmp 17) Ty.ag_voxel_ray_time rfl (litEv (by kernel_rfl))) rfl (by decide) ?_
      refine litVal (v := .agg (tcs M2.b).toArray) rfl (wn rfl) (gLoadAg (vs := tcs M2.b) (k := 0) 5 hm288 rfl (by kernel_rfl) (by kernel_rfl) (.tmp 8) Ty.ag_voxel_ray_time rfl (litEv (by kernel_rfl))) rfl (by decide) ?_
      refine plCall (i := 2) 37 [.agg (tcs (-((2 * (c.z - a.z)) - 1), -(2 * (b.z - a.z)))).toArray, .agg (tcs M2.b).toArray] [] [] rfl (by kernel_rfl) (wn rfl) rfl (litEv (by kernel_rfl)) (litArgs (by kernel_rfl)) (before_any (-((2 * (c.z - a.z)) - 1), -(2 * (b.z - a.z))) M2.b (by unfold Tsm Tm30; simp only; omega) sM2.2 _) ?_
      rintro e w291 ⟨rfl, hbz⟩
      have hm292 := hm288.below hbz
      clear hbz hm288
      refine ⟨_, rfl, ?_⟩
      refine qP rfl ?_
      rcases bool_or (tltb (-((2 * (c.z - a.z)) - 1), -(2 * (b.z - a.z))) M2.b) with h293 | h293
      · rw [h293]
        refine plD ?_
        refine then_normal (hK290 _ _ ?_)
        refine wp_cond_false (litEv (by kernel_rfl)) ?_
        refine wp_skip ?_
        refine inBlock_normal ?_
        refine then_normal ?_
        have ea_ : tcs M3.a = tcs (-((2 * (c.z - a.z)) + 1), -(2 * (b.z - a.z))) := by rw [← hM3]; simp [stepC, alongP, btw0, Btw.meet, tcs, h251, h257, h269, h293]
        have eb_ : tcs M3.b = tcs M2.b := by rw [← hM3]; simp [stepC, alongP, btw0, Btw.meet, tcs, h251, h257, h269, h293]
        exact ⟨(by unfold crossOff; omega), ⟨litSize, rfl, ⟨litGet (by kernel_rfl), ⟨litGet (by kernel_rfl), ⟨litGet (by kernel_rfl), ⟨litGet (by kernel_rfl), ⟨litGet (by kernel_rfl), ⟨litGet (by kernel_rfl), ⟨litGet (by kernel_rfl), ⟨litGet (by kernel_rfl), trivial⟩⟩⟩⟩⟩⟩⟩⟩⟩, (by rw [ea_, eb_]; exact (hm292.firsts 9))⟩
      rw [h293]
      refine plD ?_
      refine then_normal (hK290 _ _ ?_)
      refine wp_cond_true (litEv (by kernel_rfl)) ?_
      refine plStart ?_
      refine litVal (v := .agg (tcs (-((2 * (c.z - a.z)) - 1), -(2 * (b.z - a.z)))).toArray) rfl (wn rfl) (gLoadAg (vs := tcs (-((2 * (c.z - a.z)) - 1), -(2 * (b.z - a.z)))) (k := 0) 10 hm292 rfl (by kernel_rfl) (by kernel_rfl) (.tmp 17) Ty.ag_voxel_ray_time rfl (litEv (by kernel_rfl))) rfl (by decide) ?_
      refine plStore 5 Ty.ag_voxel_ray_time hm292 rfl (i := 1) (cs := tcs (-((2 * (c.z - a.z)) - 1), -(2 * (b.z - a.z)))) rfl (wn rfl) rfl (litEv (by kernel_rfl)) (litEv (by kernel_rfl)) rfl rfl (by kernel_rfl) ?_
      intro w295 hm294
      clear hm292
      try simp only [List.cons_append, List.nil_append, List.set_cons_succ, List.set_cons_zero] at hm294
      refine qNone rfl ?_
      refine plD ?_
      refine inBlock_normal ?_
      refine then_normal ?_
      have ea_ : tcs M3.a = tcs (-((2 * (c.z - a.z)) + 1), -(2 * (b.z - a.z))) := by rw [← hM3]; simp [stepC, alongP, btw0, Btw.meet, tcs, h251, h257, h269, h293]
      have eb_ : tcs M3.b = tcs (-((2 * (c.z - a.z)) - 1), -(2 * (b.z - a.z))) := by rw [← hM3]; simp [stepC, alongP, btw0, Btw.meet, tcs, h251, h257, h269, h293]
      exact ⟨(by unfold crossOff; omega), ⟨litSize, rfl, ⟨litGet (by kernel_rfl), ⟨litGet (by kernel_rfl), ⟨litGet (by kernel_rfl), ⟨litGet (by kernel_rfl), ⟨litGet (by kernel_rfl), ⟨litGet (by kernel_rfl), ⟨litGet (by kernel_rfl), ⟨litGet (by kernel_rfl), trivial⟩⟩⟩⟩⟩⟩⟩⟩⟩, (by rw [ea_, eb_]; exact (hm294.firsts 9))⟩
    refine litVal (v := .bool false) rfl (wn rfl) (boolTo (decide_eq_false h257) (lssRun (A := (2 * (b.z - a.z))) (B := 0) (.tmp 77) (.const (.int .i64 0)) rfl (litEv (by kernel_rfl)) (litEv (by kernel_rfl)))) rfl (by decide) ?_
    refine lk (v := .bool false) rfl rfl rfl ?_
    refine plD ?_
    refine then_normal (hK256 _ _ ?_)
    refine wp_cond_false (litEv (by kernel_rfl)) ?_
    refine wp_skip ?_
    refine inBlock_normal ?_
    refine then_normal (hK247 _ _ ?_)
    refine wp_seq_k fun K296 hK296 => ?_
    refine wp_seq_k fun K297 hK297 => ?_
    refine plStart ?_
    refine lk (v := .int .i64 ((2 * (c.z - a.z)) - 1)) rfl rfl rfl ?_
    refine lk (v := .int .i64 (2 * (b.z - a.z))) rfl rfl rfl ?_
    refine lk (v := .agg (tcs ((2 * (c.z - a.z)) - 1, 2 * (b.z - a.z))).toArray) rfl rfl rfl ?_
    refine plAlloc (z := [.int .i64 0, .int .i64 0]) Ty.ag_voxel_ray_time hm249 (i := 3) rfl (wn rfl) rfl ?_
    intro g298 w300 hm299
    clear hm249
    try simp only [List.cons_append, List.nil_append, List.set_cons_succ, List.set_cons_zero] at hm299
    refine qP rfl ?_
    refine plStore 9 Ty.ag_voxel_ray_time hm299 rfl (i := 4) (cs := tcs ((2 * (c.z - a.z)) - 1, 2 * (b.z - a.z))) rfl (wn rfl) rfl (litEv (by kernel_rfl)) (litEv (by kernel_rfl)) rfl rfl (by kernel_rfl) ?_
    intro w302 hm301
    clear hm299
    try simp only [List.cons_append, List.nil_append, List.set_cons_succ, List.set_cons_zero] at hm301
    refine qNone rfl ?_
    refine plD ?_
    refine then_normal (hK297 _ _ ?_)
    refine wp_seq_k fun K303 hK303 => ?_
    refine plStart ?_
    refine litVal (v := .agg (tcs M2.a).toArray) rfl (wn rfl) (gLoadAg (vs := tcs M2.a) (k := 0) 4 hm301 rfl (by kernel_rfl) (by kernel_rfl) (.tmp 7) Ty.ag_voxel_ray_time rfl (litEv (by kernel_rfl))) rfl (by decide) ?_
    refine litVal (v := .agg (tcs ((2 * (c.z - a.z)) - 1, 2 * (b.z - a.z))).toArray) rfl (wn rfl) (gLoadAg (vs := tcs ((2 * (c.z - a.z)) - 1, 2 * (b.z - a.z))) (k := 0) 9 hm301 rfl (by kernel_rfl) (by kernel_rfl) (.tmp 16) Ty.ag_voxel_ray_time rfl (litEv (by kernel_rfl))) rfl (by decide) ?_
    refine plCall (i := 2) 37 [.agg (tcs M2.a).toArray, .agg (tcs ((2 * (c.z - a.z)) - 1, 2 * (b.z - a.z))).toArray] [] [] rfl (by kernel_rfl) (wn rfl) rfl (litEv (by kernel_rfl)) (litArgs (by kernel_rfl)) (before_any M2.a ((2 * (c.z - a.z)) - 1, 2 * (b.z - a.z)) sM2.1 (by unfold Tsm Tm30; simp only; omega) _) ?_
    rintro e w304 ⟨rfl, hbz⟩
    have hm305 := hm301.below hbz
    clear hbz hm301
    refine ⟨_, rfl, ?_⟩
    refine qP rfl ?_
    rcases bool_or (tltb M2.a ((2 * (c.z - a.z)) - 1, 2 * (b.z - a.z))) with h306 | h306
    · rw [h306]
      refine plD ?_
      refine then_normal (hK303 _ _ ?_)
      refine wp_cond_false (litEv (by kernel_rfl)) ?_
      refine wp_skip ?_
      refine then_normal (hK296 _ _ ?_)
      refine wp_seq_k fun K307 hK307 => ?_
      refine plStart ?_
      refine lk (v := .int .i64 ((2 * (c.z - a.z)) + 1)) rfl rfl rfl ?_
      refine lk (v := .int .i64 (2 * (b.z - a.z))) rfl rfl rfl ?_
      refine lk (v := .agg (tcs ((2 * (c.z - a.z)) + 1, 2 * (b.z - a.z))).toArray) rfl rfl rfl ?_
      refine plAlloc (z := [.int .i64 0, .int .i64 0]) Ty.ag_voxel_ray_time hm305 (i := 3) rfl (wn rfl) rfl ?_
      intro g308 w310 hm309
      clear hm305
      try simp only [List.cons_append, List.nil_append, List.set_cons_succ, List.set_cons_zero] at hm309
      refine qP rfl ?_
      refine plStore 10 Ty.ag_voxel_ray_time hm309 rfl (i := 4) (cs := tcs ((2 * (c.z - a.z)) + 1, 2 * (b.z - a.z))) rfl (wn rfl) rfl (litEv (by kernel_rfl)) (litEv (by kernel_rfl)) rfl rfl (by kernel_rfl) ?_
      intro w312 hm311
      clear hm309
      try simp only [List.cons_append, List.nil_append, List.set_cons_succ, List.set_cons_zero] at hm311
      refine qNone rfl ?_
      refine plD ?_
      refine then_normal (hK307 _ _ ?_)
      refine wp_seq_k fun K313 hK313 => ?_
      refine plStart ?_
      refine litVal (v := .agg (tcs ((2 * (c.z - a.z)) + 1, 2 * (b.z - a.z))).toArray) rfl (wn rfl) (gLoadAg (vs := tcs ((2 * (c.z - a.z)) + 1, 2 * (b.z - a.z))) (k := 0) 10 hm311 rfl (by kernel_rfl) (by kernel_rfl) (.tmp 17) Ty.ag_voxel_ray_time rfl (litEv (by kernel_rfl))) rfl (by decide) ?_
      refine litVal (v := .agg (tcs M2.b).toArray) rfl (wn rfl) (gLoadAg (vs := tcs M2.b) (k := 0) 5 hm311 rfl (by kernel_rfl) (by kernel_rfl) (.tmp 8) Ty.ag_voxel_ray_time rfl (litEv (by kernel_rfl))) rfl (by decide) ?_
      refine plCall (i := 2) 37 [.agg (tcs ((2 * (c.z - a.z)) + 1, 2 * (b.z - a.z))).toArray, .agg (tcs M2.b).toArray] [] [] rfl (by kernel_rfl) (wn rfl) rfl (litEv (by kernel_rfl)) (litArgs (by kernel_rfl)) (before_any ((2 * (c.z - a.z)) + 1, 2 * (b.z - a.z)) M2.b (by unfold Tsm Tm30; simp only; omega) sM2.2 _) ?_
      rintro e w314 ⟨rfl, hbz⟩
      have hm315 := hm311.below hbz
      clear hbz hm311
      refine ⟨_, rfl, ?_⟩
      refine qP rfl ?_
      rcases bool_or (tltb ((2 * (c.z - a.z)) + 1, 2 * (b.z - a.z)) M2.b) with h316 | h316
      · rw [h316]
        refine plD ?_
        refine then_normal (hK313 _ _ ?_)
        refine wp_cond_false (litEv (by kernel_rfl)) ?_
        refine wp_skip ?_
        refine inBlock_normal ?_
        refine then_normal ?_
        have ea_ : tcs M3.a = tcs M2.a := by rw [← hM3]; simp [stepC, alongP, btw0, Btw.meet, tcs, h251, h257, h306, h316]
        have eb_ : tcs M3.b = tcs M2.b := by rw [← hM3]; simp [stepC, alongP, btw0, Btw.meet, tcs, h251, h257, h306, h316]
        exact ⟨(by unfold crossOff; omega), ⟨litSize, rfl, ⟨litGet (by kernel_rfl), ⟨litGet (by kernel_rfl), ⟨litGet (by kernel_rfl), ⟨litGet (by kernel_rfl), ⟨litGet (by kernel_rfl), ⟨litGet (by kernel_rfl), ⟨litGet (by kernel_rfl), ⟨litGet (by kernel_rfl), trivial⟩⟩⟩⟩⟩⟩⟩⟩⟩, (by rw [ea_, eb_]; exact (hm315.firsts 9))⟩
      rw [h316]
      refine plD ?_
      refine then_normal (hK313 _ _ ?_)
      refine wp_cond_true (litEv (by kernel_rfl)) ?_
      refine plStart ?_
      refine litVal (v := .agg (tcs ((2 * (c.z - a.z)) + 1, 2 * (b.z - a.z))).toArray) rfl (wn rfl) (gLoadAg (vs := tcs ((2 * (c.z - a.z)) + 1, 2 * (b.z - a.z))) (k := 0) 10 hm315 rfl (by kernel_rfl) (by kernel_rfl) (.tmp 17) Ty.ag_voxel_ray_time rfl (litEv (by kernel_rfl))) rfl (by decide) ?_
      refine plStore 5 Ty.ag_voxel_ray_time hm315 rfl (i := 1) (cs := tcs ((2 * (c.z - a.z)) + 1, 2 * (b.z - a.z))) rfl (wn rfl) rfl (litEv (by kernel_rfl)) (litEv (by kernel_rfl)) rfl rfl (by kernel_rfl) ?_
      intro w318 hm317
      clear hm315
      try simp only [List.cons_append, List.nil_append, List.set_cons_succ, List.set_cons_zero] at hm317
      refine qNone rfl ?_
      refine plD ?_
      refine inBlock_normal ?_
      refine then_normal ?_
      have ea_ : tcs M3.a = tcs M2.a := by rw [← hM3]; simp [stepC, alongP, btw0, Btw.meet, tcs, h251, h257, h306, h316]
      have eb_ : tcs M3.b = tcs ((2 * (c.z - a.z)) + 1, 2 * (b.z - a.z)) := by rw [← hM3]; simp [stepC, alongP, btw0, Btw.meet, tcs, h251, h257, h306, h316]
      exact ⟨(by unfold crossOff; omega), ⟨litSize, rfl, ⟨litGet (by kernel_rfl), ⟨litGet (by kernel_rfl), ⟨litGet (by kernel_rfl), ⟨litGet (by kernel_rfl), ⟨litGet (by kernel_rfl), ⟨litGet (by kernel_rfl), ⟨litGet (by kernel_rfl), ⟨litGet (by kernel_rfl), trivial⟩⟩⟩⟩⟩⟩⟩⟩⟩, (by rw [ea_, eb_]; exact (hm317.firsts 9))⟩
    rw [h306]
    refine plD ?_
    refine then_normal (hK303 _ _ ?_)
    refine wp_cond_true (litEv (by kernel_rfl)) ?_
    refine plStart ?_
    refine litVal (v := .agg (tcs ((2 * (c.z - a.z)) - 1, 2 * (b.z - a.z))).toArray) rfl (wn rfl) (gLoadAg (vs := tcs ((2 * (c.z - a.z)) - 1, 2 * (b.z - a.z))) (k := 0) 9 hm305 rfl (by kernel_rfl) (by kernel_rfl) (.tmp 16) Ty.ag_voxel_ray_time rfl (litEv (by kernel_rfl))) rfl (by decide) ?_
    refine plStore 4 Ty.ag_voxel_ray_time hm305 rfl (i := 1) (cs := tcs ((2 * (c.z - a.z)) - 1, 2 * (b.z - a.z))) rfl (wn rfl) rfl (litEv (by kernel_rfl)) (litEv (by kernel_rfl)) rfl rfl (by kernel_rfl) ?_
    intro w320 hm319
    clear hm305
    try simp only [List.cons_append, List.nil_append, List.set_cons_succ, List.set_cons_zero] at hm319
    refine qNone rfl ?_
    refine plD ?_
    refine then_normal (hK296 _ _ ?_)
    refine wp_seq_k fun K321 hK321 => ?_
    refine plStart ?_
    refine lk (v := .int .i64 ((2 * (c.z - a.z)) + 1)) rfl rfl rfl ?_
    refine lk (v := .int .i64 (2 * (b.z - a.z))) rfl rfl rfl ?_
    refine lk (v := .agg (tcs ((2 * (c.z - a.z)) + 1, 2 * (b.z - a.z))).toArray) rfl rfl rfl ?_
    refine plAlloc (z := [.int .i64 0, .int .i64 0]) Ty.ag_voxel_ray_time hm319 (i := 3) rfl (wn rfl) rfl ?_
    intro g322 w324 hm323
    clear hm319
    try simp only [List.cons_append, List.nil_append, List.set_cons_succ, List.set_cons_zero] at hm323
    refine qP rfl ?_
    refine plStore 10 Ty.ag_voxel_ray_time hm323 rfl (i := 4) (cs := tcs ((2 * (c.z - a.z)) + 1, 2 * (b.z - a.z))) rfl (wn rfl) rfl (litEv (by kernel_rfl)) (litEv (by kernel_rfl)) rfl rfl (by kernel_rfl) ?_
    intro w326 hm325
    clear hm323
    try simp only [List.cons_append, List.nil_append, List.set_cons_succ, List.set_cons_zero] at hm325
    refine qNone rfl ?_
    refine plD ?_
    refine then_normal (hK321 _ _ ?_)
    refine wp_seq_k fun K327 hK327 => ?_
    refine plStart ?_
    refine litVal (v := .agg (tcs ((2 * (c.z - a.z)) + 1, 2 * (b.z - a.z))).toArray) rfl (wn rfl) (gLoadAg (vs := tcs ((2 * (c.z - a.z)) + 1, 2 * (b.z - a.z))) (k := 0) 10 hm325 rfl (by kernel_rfl) (by kernel_rfl) (.tmp 17) Ty.ag_voxel_ray_time rfl (litEv (by kernel_rfl))) rfl (by decide) ?_
    refine litVal (v := .agg (tcs M2.b).toArray) rfl (wn rfl) (gLoadAg (vs := tcs M2.b) (k := 0) 5 hm325 rfl (by kernel_rfl) (by kernel_rfl) (.tmp 8) Ty.ag_voxel_ray_time rfl (litEv (by kernel_rfl))) rfl (by decide) ?_
    refine plCall (i := 2) 37 [.agg (tcs ((2 * (c.z - a.z)) + 1, 2 * (b.z - a.z))).toArray, .agg (tcs M2.b).toArray] [] [] rfl (by kernel_rfl) (wn rfl) rfl (litEv (by kernel_rfl)) (litArgs (by kernel_rfl)) (before_any ((2 * (c.z - a.z)) + 1, 2 * (b.z - a.z)) M2.b (by unfold Tsm Tm30; simp only; omega) sM2.2 _) ?_
    rintro e w328 ⟨rfl, hbz⟩
    have hm329 := hm325.below hbz
    clear hbz hm325
    refine ⟨_, rfl, ?_⟩
    refine qP rfl ?_
    rcases bool_or (tltb ((2 * (c.z - a.z)) + 1, 2 * (b.z - a.z)) M2.b) with h330 | h330
    · rw [h330]
      refine plD ?_
      refine then_normal (hK327 _ _ ?_)
      refine wp_cond_false (litEv (by kernel_rfl)) ?_
      refine wp_skip ?_
      refine inBlock_normal ?_
      refine then_normal ?_
      have ea_ : tcs M3.a = tcs ((2 * (c.z - a.z)) - 1, 2 * (b.z - a.z)) := by rw [← hM3]; simp [stepC, alongP, btw0, Btw.meet, tcs, h251, h257, h306, h330]
      have eb_ : tcs M3.b = tcs M2.b := by rw [← hM3]; simp [stepC, alongP, btw0, Btw.meet, tcs, h251, h257, h306, h330]
      exact ⟨(by unfold crossOff; omega), ⟨litSize, rfl, ⟨litGet (by kernel_rfl), ⟨litGet (by kernel_rfl), ⟨litGet (by kernel_rfl), ⟨litGet (by kernel_rfl), ⟨litGet (by kernel_rfl), ⟨litGet (by kernel_rfl), ⟨litGet (by kernel_rfl), ⟨litGet (by kernel_rfl), trivial⟩⟩⟩⟩⟩⟩⟩⟩⟩, (by rw [ea_, eb_]; exact (hm329.firsts 9))⟩
    rw [h330]
    refine plD ?_
    refine then_normal (hK327 _ _ ?_)
    refine wp_cond_true (litEv (by kernel_rfl)) ?_
    refine plStart ?_
    refine litVal (v := .agg (tcs ((2 * (c.z - a.z)) + 1, 2 * (b.z - a.z))).toArray) rfl (wn rfl) (gLoadAg (vs := tcs ((2 * (c.z - a.z)) + 1, 2 * (b.z - a.z))) (k := 0) 10 hm329 rfl (by kernel_rfl) (by kernel_rfl) (.tmp 17) Ty.ag_voxel_ray_time rfl (litEv (by kernel_rfl))) rfl (by decide) ?_
    refine plStore 5 Ty.ag_voxel_ray_time hm329 rfl (i := 1) (cs := tcs ((2 * (c.z - a.z)) + 1, 2 * (b.z - a.z))) rfl (wn rfl) rfl (litEv (by kernel_rfl)) (litEv (by kernel_rfl)) rfl rfl (by kernel_rfl) ?_
    intro w332 hm331
    clear hm329
    try simp only [List.cons_append, List.nil_append, List.set_cons_succ, List.set_cons_zero] at hm331
    refine qNone rfl ?_
    refine plD ?_
    refine inBlock_normal ?_
    refine then_normal ?_
    have ea_ : tcs M3.a = tcs ((2 * (c.z - a.z)) - 1, 2 * (b.z - a.z)) := by rw [← hM3]; simp [stepC, alongP, btw0, Btw.meet, tcs, h251, h257, h306, h330]
    have eb_ : tcs M3.b = tcs ((2 * (c.z - a.z)) + 1, 2 * (b.z - a.z)) := by rw [← hM3]; simp [stepC, alongP, btw0, Btw.meet, tcs, h251, h257, h306, h330]
    exact ⟨(by unfold crossOff; omega), ⟨litSize, rfl, ⟨litGet (by kernel_rfl), ⟨litGet (by kernel_rfl), ⟨litGet (by kernel_rfl), ⟨litGet (by kernel_rfl), ⟨litGet (by kernel_rfl), ⟨litGet (by kernel_rfl), ⟨litGet (by kernel_rfl), ⟨litGet (by kernel_rfl), trivial⟩⟩⟩⟩⟩⟩⟩⟩⟩, (by rw [ea_, eb_]; exact (hm331.firsts 9))⟩
  clear hm235
  intro a335 w333 hI_
  obtain ⟨hoz_, hF_, hm334⟩ := hI_
  obtain ⟨X336, rfl⟩ := frLit hF_
  clear hF_
  refine plStart ?_
  refine lk (v := .int .i64 3) rfl rfl rfl ?_
  refine lk (v := .int .i64 3) rfl rfl rfl ?_
  refine plD ?_
  refine then_normal (roundsNext ?_)
  refine wp_seq_k fun K337 hK337 => ?_
  refine plStart ?_
  refine lk (v := .bool false) rfl rfl rfl ?_
  refine plD ?_
  refine then_normal (hK337 _ _ ?_)
  refine wp_seq_k fun K338 hK338 => ?_
  refine wp_cond_false (litEv (by kernel_rfl)) ?_
  refine wp_exit ?_
  refine then_exit ?_
  refine then_exit ?_
  refine inBlock_exit ?_
  refine then_normal (hK39 _ _ ?_)
  refine wp_seq_k fun K339 hK339 => ?_
  refine plStart ?_
  refine litVal (v := .agg (tcs M3.a).toArray) rfl (wn rfl) (gLoadAg (vs := tcs M3.a) (k := 0) 4 hm334 rfl (by kernel_rfl) (by kernel_rfl) (.tmp 7) Ty.ag_voxel_ray_time rfl (litEv (by kernel_rfl))) rfl (by decide) ?_
  refine litVal (v := .agg (tcs M3.b).toArray) rfl (wn rfl) (gLoadAg (vs := tcs M3.b) (k := 0) 5 hm334 rfl (by kernel_rfl) (by kernel_rfl) (.tmp 8) Ty.ag_voxel_ray_time rfl (litEv (by kernel_rfl))) rfl (by decide) ?_
  refine plCall (i := 2) 37 [.agg (tcs M3.a).toArray, .agg (tcs M3.b).toArray] [] [] rfl (by kernel_rfl) (wn rfl) rfl (litEv (by kernel_rfl)) (litArgs (by kernel_rfl)) (before_any M3.a M3.b sM3.1 sM3.2 _) ?_
  rintro e w340 ⟨rfl, hbz⟩
  have hm341 := hm334.below hbz
  clear hbz hm334
  refine ⟨_, rfl, ?_⟩
  refine qP rfl ?_
  rcases bool_or (tltb M3.a M3.b) with h342 | h342
  · rw [h342]
    refine lk (v := .bool false) rfl rfl rfl ?_
    refine plSkip (i := 4) rfl (wgN rfl rfl rfl (by decide) (by kernel_rfl)) ?_
    refine qP rfl ?_
    refine plSkip (i := 5) rfl (wgN rfl rfl rfl (by decide) (by kernel_rfl)) ?_
    refine qP rfl ?_
    refine plSkip (i := 6) rfl (wgN rfl rfl rfl (by decide) (by kernel_rfl)) ?_
    refine qP rfl ?_
    refine lk (v := .bool false) rfl rfl rfl ?_
    refine lk (v := .bool false) rfl rfl rfl ?_
    refine plSkip (i := 9) rfl (wgN rfl rfl rfl (by decide) (by kernel_rfl)) ?_
    refine qP rfl ?_
    refine plSkip (i := 10) rfl (wgN rfl rfl rfl (by decide) (by kernel_rfl)) ?_
    refine qP rfl ?_
    refine plSkip (i := 11) rfl (wgN rfl rfl rfl (by decide) (by kernel_rfl)) ?_
    refine qP rfl ?_
    refine lk (v := .bool false) rfl rfl rfl ?_
    refine lk (v := .bool false) rfl rfl rfl ?_
    refine plD ?_
    refine then_normal (hK339 _ _ ?_)
    refine wpPrune [(6, .bool false)] ⟨litGet (by kernel_rfl), trivial⟩ (fun X343 => ?_)
    refine wp_ret ?_
    refine bodyPost_ret (v := .bool false) (gRes1 rfl (gResTmp (t := 6) (v := .bool false) (litGet (by kernel_rfl)))) rfl ?_
    exact ⟨congrArg (fun b_ => Ending.returned (.bool b_)) (Eq.symm (by rw [h18, Bool.true_and]; unfold crossR; rw [if_neg (fun h_ => by rcases h_ with h_ | h_ | h_ <;> contradiction), hM]; simp [Btw.fin, hMo, h342])), hm341.bel⟩
  rw [h342]
  refine lk (v := .bool true) rfl rfl rfl ?_
  refine litVal (v := .agg (tcs M3.a).toArray) rfl (wgY rfl rfl rfl (by decide) (by kernel_rfl)) (gLoadAg (vs := tcs M3.a) (k := 0) 4 hm341 rfl (by kernel_rfl) (by kernel_rfl) (.tmp 7) Ty.ag_voxel_ray_time rfl (litEv (by kernel_rfl))) rfl (by decide) ?_
  refine litVal (v := .agg (tcs (1, 1)).toArray) rfl (wgY rfl rfl rfl (by decide) (by kernel_rfl)) (litRun (by kernel_rfl)) rfl (by decide) ?_
  refine plCall (i := 6) 37 [.agg (tcs M3.a).toArray, .agg (tcs (1, 1)).toArray] [] [] rfl (by kernel_rfl) (wgY rfl rfl rfl (by decide) (by kernel_rfl)) rfl (litEv (by kernel_rfl)) (litArgs (by kernel_rfl)) (before_any M3.a (1, 1) sM3.1 (by unfold Tsm Tm30; simp only; omega) _) ?_
  rintro e w344 ⟨rfl, hbz⟩
  have hm345 := hm341.below hbz
  clear hbz hm341
  refine ⟨_, rfl, ?_⟩
  refine qP rfl ?_
  rcases bool_or (tltb M3.a (1, 1)) with h346 | h346
  · rw [h346]
    refine lk (v := .bool false) rfl rfl rfl ?_
    refine lk (v := .bool false) rfl rfl rfl ?_
    refine plSkip (i := 9) rfl (wgN rfl rfl rfl (by decide) (by kernel_rfl)) ?_
    refine qP rfl ?_
    refine plSkip (i := 10) rfl (wgN rfl rfl rfl (by decide) (by kernel_rfl)) ?_
    refine qP rfl ?_
    refine plSkip (i := 11) rfl (wgN rfl rfl rfl (by decide) (by kernel_rfl)) ?_
    refine qP rfl ?_
    refine lk (v := .bool false) rfl rfl rfl ?_
    refine lk (v := .bool false) rfl rfl rfl ?_
    refine plD ?_
    refine then_normal (hK339 _ _ ?_)
    refine wpPrune [(6, .bool false)] ⟨litGet (by kernel_rfl), trivial⟩ (fun X347 => ?_)
    refine wp_ret ?_
    refine bodyPost_ret (v := .bool false) (gRes1 rfl (gResTmp (t := 6) (v := .bool false) (litGet (by kernel_rfl)))) rfl ?_
    exact ⟨congrArg (fun b_ => Ending.returned (.bool b_)) (Eq.symm (by rw [h18, Bool.true_and]; unfold crossR; rw [if_neg (fun h_ => by rcases h_ with h_ | h_ | h_ <;> contradiction), hM]; simp [Btw.fin, hMo, h342, h346])), hm345.bel⟩
  rw [h346]
  refine lk (v := .bool true) rfl rfl rfl ?_
  refine lk (v := .bool true) rfl rfl rfl ?_
  refine litVal (v := .agg (tcs (0, 1)).toArray) rfl (wgY rfl rfl rfl (by decide) (by kernel_rfl)) (litRun (by kernel_rfl)) rfl (by decide) ?_
  refine litVal (v := .agg (tcs M3.b).toArray) rfl (wgY rfl rfl rfl (by decide) (by kernel_rfl)) (gLoadAg (vs := tcs M3.b) (k := 0) 5 hm345 rfl (by kernel_rfl) (by kernel_rfl) (.tmp 8) Ty.ag_voxel_ray_time rfl (litEv (by kernel_rfl))) rfl (by decide) ?_
  refine plCall (i := 11) 37 [.agg (tcs (0, 1)).toArray, .agg (tcs M3.b).toArray] [] [] rfl (by kernel_rfl) (wgY rfl rfl rfl (by decide) (by kernel_rfl)) rfl (litEv (by kernel_rfl)) (litArgs (by kernel_rfl)) (before_any (0, 1) M3.b (by unfold Tsm Tm30; simp only; omega) sM3.2 _) ?_
  rintro e w348 ⟨rfl, hbz⟩
  have hm349 := hm345.below hbz
  clear hbz hm345
  refine ⟨_, rfl, ?_⟩
  refine qP rfl ?_
  rcases bool_or (tltb (0, 1) M3.b) with h350 | h350
  · rw [h350]
    refine lk (v := .bool false) rfl rfl rfl ?_
    refine lk (v := .bool false) rfl rfl rfl ?_
    refine plD ?_
    refine then_normal (hK339 _ _ ?_)
    refine wpPrune [(6, .bool false)] ⟨litGet (by kernel_rfl), trivial⟩ (fun X351 => ?_)
    refine wp_ret ?_
    refine bodyPost_ret (v := .bool false) (gRes1 rfl (gResTmp (t := 6) (v := .bool false) (litGet (by kernel_rfl)))) rfl ?_
    exact ⟨congrArg (fun b_ => Ending.returned (.bool b_)) (Eq.symm (by rw [h18, Bool.true_and]; unfold crossR; rw [if_neg (fun h_ => by rcases h_ with h_ | h_ | h_ <;> contradiction), hM]; simp [Btw.fin, hMo, h342, h346, h350])), hm349.bel⟩
  rw [h350]
  refine lk (v := .bool true) rfl rfl rfl ?_
  refine lk (v := .bool true) rfl rfl rfl ?_
  refine plD ?_
  refine then_normal (hK339 _ _ ?_)
  refine wpPrune [(6, .bool true)] ⟨litGet (by kernel_rfl), trivial⟩ (fun X352 => ?_)
  refine wp_ret ?_
  refine bodyPost_ret (v := .bool true) (gRes1 rfl (gResTmp (t := 6) (v := .bool true) (litGet (by kernel_rfl)))) rfl ?_
  exact ⟨congrArg (fun b_ => Ending.returned (.bool b_)) (Eq.symm (by rw [h18, Bool.true_and]; unfold crossR; rw [if_neg (fun h_ => by rcases h_ with h_ | h_ | h_ <;> contradiction), hM]; simp [Btw.fin, hMo, h342, h346, h350])), hm349.bel⟩
end Go.Proofs.Ytopdcdjmiepdfaa
