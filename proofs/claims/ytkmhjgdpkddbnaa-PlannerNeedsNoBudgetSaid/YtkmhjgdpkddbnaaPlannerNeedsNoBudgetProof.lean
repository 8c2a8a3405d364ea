/-
  PlannerNeedsNoBudget: the row, out of the walk of the law.
-/
import Derived.Test.YtkmhjgdpkddbnaaPlannerNeedsNoBudget
import Derived.Test.YtkmhjgdpkddbnaaPB
import Derived.ShutString
import Derived.ChangeOld
namespace Go.Proofs.Ytkmhjgdpkddbnaa.lawPlannerNeedsNoBudget
open Go.ChangeShapes Go.WideShapes Go.ChangeAt Go.RowKit
open Go.ChangeMaps (open_string shut_string)
set_option linter.unusedVariables false

theorem own : ownKnob Try.prog.godebug = none := by kernel_rfl
theorem laidOut : laidOutB Try.prog = true := by kernel_rfl

set_option maxRecDepth 100000 in
theorem lifted (os : Os) (started : os.Started) (H : Type) (enc : TypeId × Value → H) :
    ReturnsInHanded {} Try.checked os 6 .any (Rows.plannerNeedsNoBudgetSpec.pre6 enc Try.prog Try.f6 Rows.plannerNeedsNoBudgetRow.domain false) (Rows.plannerNeedsNoBudgetSpec.post enc Try.prog Try.f6 false true false false) := by
  refine returnsInHanded_of_change_sized (C := Try.checked) own started (by kernel_rfl) Try.func6
    (ChangeSpec.witness6 (enc := enc) (C := Try.checked) false ⟨#[], #[.int .i64 0, .agg #[.int .i64 0, .int .i64 0, .int .i64 0, .int .i64 0, .int .i64 0, .int .i64 0], .int .u16 0, .agg #[.int .i64 0, .int .i64 0, .int .i64 0]], []⟩ 8 (by kernel_rfl) (by kernel_rfl) (by kernel_rfl) (by kernel_rfl)) ?_
  intro W base args ds gs before hval0 hW hcnd hsz0 _
  have hsz : (DataW.weightsEach Try.prog (Try.f6.params.toList ++ Rows.plannerNeedsNoBudgetSpec.plain.varTypes Try.prog) (ds ++ gs)).all (· ≤ reachBytes) = true := hsz0
  have hval : ∀ (j : Nat) t v, Try.f6.params[j]? = some t → args[j]? = some v → Value.okWide Try.prog W .any base t v := hval0
  have hW' := hW
  obtain ⟨p, q, hA0, hV, rfl, hfz, hnd⟩ := hW
  have hA : DataW.TrodAll enc Try.prog W 0 (fun _ => true) true Try.f6.params.toList args.toList ds p := hA0
  rw [Try.params6] at hA hval hsz
  obtain ⟨v0, vs0, d0, ds0, p0, q0, hargs, rfl, rfl, h0, r0⟩ := trodAll_cons hA
  obtain ⟨v1, vs1, d1, ds1, p1, q1, rfl, rfl, rfl, h1, r1⟩ := trodAll_cons r0
  obtain ⟨v2, vs2, d2, ds2, p2, q2, rfl, rfl, rfl, h2, r2⟩ := trodAll_cons r1
  obtain ⟨v3, vs3, d3, ds3, p3, q3, rfl, rfl, rfl, h3, r3⟩ := trodAll_cons r2
  obtain ⟨rfl, rfl, rfl⟩ := trodAll_nil r3
  obtain rfl : args = #[v0, v1, v2, v3] := by cases args; simp_all
  obtain ⟨rfl, rfl⟩ := trodVars_none hV

  obtain ⟨a0, rfl, rfl, rfl, w0⟩ := open_int Try.underlying3 (hval 0 3 v0 rfl rfl) h0
  have b0 := bounds_i64 w0
  have k1 := h1
  have lt1 : ∀ x ∈ p1, x.block < W.heap.size := by obtain ⟨m, hm⟩ := k1; exact DataW.trod_lt m _ _ _ hm
  obtain ⟨a1, rfl, l1, f1⟩ := br_flat (m := 8) (n := 6) (ls := [(0, 3), (1, 3), (2, 3), (3, 3), (4, 3), (5, 3)]) (by kernel_rfl) (by kernel_rfl) (by kernel_rfl) (hval 1 25 v1 rfl rfl) h1
  obtain ⟨z1_0, e1_0, w1_0⟩ := leaf_int f1 (o := 0) (t := 3) (by kernel_rfl) Try.underlying3 (by kernel_rfl)
  obtain ⟨z1_1, e1_1, w1_1⟩ := leaf_int f1 (o := 1) (t := 3) (by kernel_rfl) Try.underlying3 (by kernel_rfl)
  obtain ⟨z1_2, e1_2, w1_2⟩ := leaf_int f1 (o := 2) (t := 3) (by kernel_rfl) Try.underlying3 (by kernel_rfl)
  obtain ⟨z1_3, e1_3, w1_3⟩ := leaf_int f1 (o := 3) (t := 3) (by kernel_rfl) Try.underlying3 (by kernel_rfl)
  obtain ⟨z1_4, e1_4, w1_4⟩ := leaf_int f1 (o := 4) (t := 3) (by kernel_rfl) Try.underlying3 (by kernel_rfl)
  obtain ⟨z1_5, e1_5, w1_5⟩ := leaf_int f1 (o := 5) (t := 3) (by kernel_rfl) Try.underlying3 (by kernel_rfl)
  obtain rfl := eq6 l1 e1_0 e1_1 e1_2 e1_3 e1_4 e1_5
  obtain ⟨a2, rfl, rfl, rfl, w2⟩ := open_int Try.underlying47 (hval 2 47 v2 rfl rfl) h2
  have b2 := bounds_u16 w2
  have k3 := h3
  have lt3 : ∀ x ∈ p3, x.block < W.heap.size := by obtain ⟨m, hm⟩ := k3; exact DataW.trod_lt m _ _ _ hm
  obtain ⟨a3, rfl, l3, f3⟩ := br_flat (m := 8) (n := 3) (ls := [(0, 3), (1, 3), (2, 3)]) (by kernel_rfl) (by kernel_rfl) (by kernel_rfl) (hval 3 23 v3 rfl rfl) h3
  obtain ⟨z3_0, e3_0, w3_0⟩ := leaf_int f3 (o := 0) (t := 3) (by kernel_rfl) Try.underlying3 (by kernel_rfl)
  obtain ⟨z3_1, e3_1, w3_1⟩ := leaf_int f3 (o := 1) (t := 3) (by kernel_rfl) Try.underlying3 (by kernel_rfl)
  obtain ⟨z3_2, e3_2, w3_2⟩ := leaf_int f3 (o := 2) (t := 3) (by kernel_rfl) Try.underlying3 (by kernel_rfl)
  obtain rfl := eq3 l3 e3_0 e3_1 e3_2
  clear hA0 hval0
  refine (walk_PlannerNeedsNoBudget a0 ⟨⟨z1_0, z1_1, z1_2⟩, z1_3, z1_4, z1_5⟩ a2 ⟨z3_0, z3_1, z3_2⟩ W b0 (bounds_i64 w1_0) (bounds_i64 w1_1) (bounds_i64 w1_2) (bounds_i64 w1_3) (bounds_i64 w1_4) (bounds_i64 w1_5) b2 (bounds_i64 w3_0) (bounds_i64 w3_1) (bounds_i64 w3_2)).mono fun e W' ⟨he, bel⟩ => ?_
  subst he
  exact ⟨_, rfl, _, _, _, [], _, [], hW', trodAll_mk1 (shut_bool Try.underlying4 _), (trodAll_cons_mk (shut_int Try.underlying3 w0) (trodAll_cons_mk (Below.trod laidOut (by kernel_rfl) (of_decide_eq_true (by kernel_rfl)) k1 bel lt1) (trodAll_cons_mk (shut_int Try.underlying47 w2) (trodAll_cons_mk (Below.trod laidOut (by kernel_rfl) (of_decide_eq_true (by kernel_rfl)) k3 bel lt3) trodAll_mk0)))), rfl, bel.frame _, fun h => by cases h⟩

theorem over : Rows.plannerNeedsNoBudgetRow.holds Try.pinned (OpenSpec.ofChange Rows.plannerNeedsNoBudgetSpec) :=
  OpenClaim.holds_of_wide 6 Try.f6 rfl rfl rfl rfl rfl rfl rfl ⟨rfl, rfl, rfl, rfl, rfl⟩ rfl rfl rfl rfl rfl (by kernel_rfl) Try.func6 (by kernel_rfl)
    (of_decide_eq_true (by kernel_rfl)) (by unfold Func.isWrapper; first | (rw [if_pos (by decide +kernel)]; kernel_rfl) | (rw [if_neg (by decide +kernel)]; exact ⟨rfl, rfl⟩))
    (fun os started H enc _ => lifted os started H enc)

/-- The statement. -/
theorem proved : Rows.PlannerNeedsNoBudgetSaid := over
#print axioms proved
end Go.Proofs.Ytkmhjgdpkddbnaa.lawPlannerNeedsNoBudget

