/-
  PlannerSeesLess: the row, out of the walk of the law.
-/
import Derived.Test.YtkmhjgdpkddbnaaPlannerSeesLess
import Derived.Test.YtkmhjgdpkddbnaaPB
import Derived.ShutString
import Derived.ChangeOld
namespace Go.Proofs.Ytkmhjgdpkddbnaa.lawPlannerSeesLess
open Go.ChangeShapes Go.WideShapes Go.ChangeAt Go.RowKit
open Go.ChangeMaps (open_string shut_string)
set_option linter.unusedVariables false

theorem own : ownKnob Try.prog.godebug = none := by kernel_rfl
theorem laidOut : laidOutB Try.prog = true := by kernel_rfl

set_option maxRecDepth 100000 in
theorem lifted (os : Os) (started : os.Started) (H : Type) (enc : TypeId × Value → H) :
    ReturnsInHanded {} Try.checked os 7 .any (Rows.plannerSeesLessSpec.pre6 enc Try.prog Try.f7 Rows.plannerSeesLessRow.domain false) (Rows.plannerSeesLessSpec.post enc Try.prog Try.f7 false true false false) := by
  refine returnsInHanded_of_change_sized (C := Try.checked) own started (by kernel_rfl) Try.func7
    (ChangeSpec.witness6 (enc := enc) (C := Try.checked) false ⟨#[], #[.agg #[.int .i64 0, .int .i64 0, .int .i64 0, .int .i64 0, .int .i64 0, .int .i64 0], .int .i64 0, .agg #[.int .i64 0, .int .i64 0, .int .i64 0], .int .u16 0], []⟩ 8 (by kernel_rfl) (by kernel_rfl) (by kernel_rfl) (by kernel_rfl)) ?_
  intro W base args ds gs before hval0 hW hcnd hsz0 _
  have hsz : (DataW.weightsEach Try.prog (Try.f7.params.toList ++ Rows.plannerSeesLessSpec.plain.varTypes Try.prog) (ds ++ gs)).all (· ≤ reachBytes) = true := hsz0
  have hval : ∀ (j : Nat) t v, Try.f7.params[j]? = some t → args[j]? = some v → Value.okWide Try.prog W .any base t v := hval0
  have hW' := hW
  obtain ⟨p, q, hA0, hV, rfl, hfz, hnd⟩ := hW
  have hA : DataW.TrodAll enc Try.prog W 0 (fun _ => true) true Try.f7.params.toList args.toList ds p := hA0
  rw [Try.params7] at hA hval hsz
  obtain ⟨v0, vs0, d0, ds0, p0, q0, hargs, rfl, rfl, h0, r0⟩ := trodAll_cons hA
  obtain ⟨v1, vs1, d1, ds1, p1, q1, rfl, rfl, rfl, h1, r1⟩ := trodAll_cons r0
  obtain ⟨v2, vs2, d2, ds2, p2, q2, rfl, rfl, rfl, h2, r2⟩ := trodAll_cons r1
  obtain ⟨v3, vs3, d3, ds3, p3, q3, rfl, rfl, rfl, h3, r3⟩ := trodAll_cons r2
  obtain ⟨rfl, rfl, rfl⟩ := trodAll_nil r3
  obtain rfl : args = #[v0, v1, v2, v3] := by cases args; simp_all
  obtain ⟨rfl, rfl⟩ := trodVars_none hV

  have k0 := h0
  have lt0 : ∀ x ∈ p0, x.block < W.heap.size := by obtain ⟨m, hm⟩ := k0; exact DataW.trod_lt m _ _ _ hm
  obtain ⟨a0, rfl, l0, f0⟩ := br_flat (m := 8) (n := 6) (ls := [(0, 3), (1, 3), (2, 3), (3, 3), (4, 3), (5, 3)]) (by kernel_rfl) (by kernel_rfl) (by kernel_rfl) (hval 0 25 v0 rfl rfl) h0
  obtain ⟨z0_0, e0_0, w0_0⟩ := leaf_int f0 (o := 0) (t := 3) (by kernel_rfl) Try.underlying3 (by kernel_rfl)
  obtain ⟨z0_1, e0_1, w0_1⟩ := leaf_int f0 (o := 1) (t := 3) (by kernel_rfl) Try.underlying3 (by kernel_rfl)
  obtain ⟨z0_2, e0_2, w0_2⟩ := leaf_int f0 (o := 2) (t := 3) (by kernel_rfl) Try.underlying3 (by kernel_rfl)
  obtain ⟨z0_3, e0_3, w0_3⟩ := leaf_int f0 (o := 3) (t := 3) (by kernel_rfl) Try.underlying3 (by kernel_rfl)
  obtain ⟨z0_4, e0_4, w0_4⟩ := leaf_int f0 (o := 4) (t := 3) (by kernel_rfl) Try.underlying3 (by kernel_rfl)
  obtain ⟨z0_5, e0_5, w0_5⟩ := leaf_int f0 (o := 5) (t := 3) (by kernel_rfl) Try.underlying3 (by kernel_rfl)
  obtain rfl := eq6 l0 e0_0 e0_1 e0_2 e0_3 e0_4 e0_5
  obtain ⟨a1, rfl, rfl, rfl, w1⟩ := open_int Try.underlying3 (hval 1 3 v1 rfl rfl) h1
  have b1 := bounds_i64 w1
  have k2 := h2
  have lt2 : ∀ x ∈ p2, x.block < W.heap.size := by obtain ⟨m, hm⟩ := k2; exact DataW.trod_lt m _ _ _ hm
  obtain ⟨a2, rfl, l2, f2⟩ := br_flat (m := 8) (n := 3) (ls := [(0, 3), (1, 3), (2, 3)]) (by kernel_rfl) (by kernel_rfl) (by kernel_rfl) (hval 2 23 v2 rfl rfl) h2
  obtain ⟨z2_0, e2_0, w2_0⟩ := leaf_int f2 (o := 0) (t := 3) (by kernel_rfl) Try.underlying3 (by kernel_rfl)
  obtain ⟨z2_1, e2_1, w2_1⟩ := leaf_int f2 (o := 1) (t := 3) (by kernel_rfl) Try.underlying3 (by kernel_rfl)
  obtain ⟨z2_2, e2_2, w2_2⟩ := leaf_int f2 (o := 2) (t := 3) (by kernel_rfl) Try.underlying3 (by kernel_rfl)
  obtain rfl := eq3 l2 e2_0 e2_1 e2_2
  obtain ⟨a3, rfl, rfl, rfl, w3⟩ := open_int Try.underlying47 (hval 3 47 v3 rfl rfl) h3
  have b3 := bounds_u16 w3
  clear hA0 hval0
  refine (walk_PlannerSeesLess ⟨⟨z0_0, z0_1, z0_2⟩, z0_3, z0_4, z0_5⟩ a1 ⟨z2_0, z2_1, z2_2⟩ a3 W (bounds_i64 w0_0) (bounds_i64 w0_1) (bounds_i64 w0_2) (bounds_i64 w0_3) (bounds_i64 w0_4) (bounds_i64 w0_5) b1 (bounds_i64 w2_0) (bounds_i64 w2_1) (bounds_i64 w2_2) b3).mono fun e W' ⟨he, bel⟩ => ?_
  subst he
  exact ⟨_, rfl, _, _, _, [], _, [], hW', trodAll_mk1 (shut_bool Try.underlying4 _), (trodAll_cons_mk (Below.trod laidOut (by kernel_rfl) (of_decide_eq_true (by kernel_rfl)) k0 bel lt0) (trodAll_cons_mk (shut_int Try.underlying3 w1) (trodAll_cons_mk (Below.trod laidOut (by kernel_rfl) (of_decide_eq_true (by kernel_rfl)) k2 bel lt2) (trodAll_cons_mk (shut_int Try.underlying47 w3) trodAll_mk0)))), rfl, bel.frame _, fun h => by cases h⟩

theorem over : Rows.plannerSeesLessRow.holds Try.pinned (OpenSpec.ofChange Rows.plannerSeesLessSpec) :=
  OpenClaim.holds_of_wide 7 Try.f7 rfl rfl rfl rfl rfl rfl rfl ⟨rfl, rfl, rfl, rfl, rfl⟩ rfl rfl rfl rfl rfl (by kernel_rfl) Try.func7 (by kernel_rfl)
    (of_decide_eq_true (by kernel_rfl)) (by unfold Func.isWrapper; first | (rw [if_pos (by decide +kernel)]; kernel_rfl) | (rw [if_neg (by decide +kernel)]; exact ⟨rfl, rfl⟩))
    (fun os started H enc _ => lifted os started H enc)

/-- The statement. -/
theorem proved : Rows.PlannerSeesLessSaid := over
#print axioms proved
end Go.Proofs.Ytkmhjgdpkddbnaa.lawPlannerSeesLess

