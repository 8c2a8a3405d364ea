/-
  WireTruncated: the row, out of the walk of the law.
-/
import Derived.Test.YtelphmfdpnmncaaWireTruncated
import Derived.Test.YtelphmfdpnmncaaBridge
import Derived.ShutString
import Derived.ChangeOld
import Derived.Test.YtelphmfdpnmncaaSized
namespace Go.Proofs.Ytelphmfdpnmncaa.lawWireTruncated
open Go.ChangeShapes Go.WideShapes Go.ChangeAt Go.RowKit
open Go.ChangeMaps (open_string shut_string)
set_option linter.unusedVariables false

theorem own : ownKnob Try.prog.godebug = none := by kernel_rfl
theorem laidOut : laidOutB Try.prog = true := by kernel_rfl

set_option maxRecDepth 100000 in
theorem lifted (os : Os) (started : os.Started) (H : Type) (enc : TypeId × Value → H) :
    ReturnsInHanded {} Try.checked os 9 .any (Rows.wireTruncatedSpec.pre6 enc Try.prog Try.f9 Rows.wireTruncatedRow.domain false) (Rows.wireTruncatedSpec.post enc Try.prog Try.f9 false true false false) := by
  refine returnsInHanded_of_change_sized (C := Try.checked) own started (by kernel_rfl) Try.func9
    (ChangeSpec.witness6 (enc := enc) (C := Try.checked) false ⟨#[], #[.int .i64 0, .string ByteArray.empty, .slice none 0 0, .slice none 0 0, .slice none 0 0], []⟩ 8 (by kernel_rfl) (by kernel_rfl) (by kernel_rfl) (by kernel_rfl)) ?_
  intro W base args ds gs before hval0 hW hcnd hsz0 _
  have hsz : (DataW.weightsEach Try.prog (Try.f9.params.toList ++ Rows.wireTruncatedSpec.plain.varTypes Try.prog) (ds ++ gs)).all (· ≤ reachBytes) = true := hsz0
  have hval : ∀ (j : Nat) t v, Try.f9.params[j]? = some t → args[j]? = some v → Value.okWide Try.prog W .any base t v := hval0
  have hW' := hW
  obtain ⟨p, q, hA0, hV, rfl, hfz, hnd⟩ := hW
  have hA : DataW.TrodAll enc Try.prog W 0 (fun _ => true) true Try.f9.params.toList args.toList ds p := hA0
  rw [Try.params9] at hA hval hsz
  obtain ⟨v0, vs0, d0, ds0, p0, q0, hargs, rfl, rfl, h0, r0⟩ := trodAll_cons hA
  obtain ⟨v1, vs1, d1, ds1, p1, q1, rfl, rfl, rfl, h1, r1⟩ := trodAll_cons r0
  obtain ⟨v2, vs2, d2, ds2, p2, q2, rfl, rfl, rfl, h2, r2⟩ := trodAll_cons r1
  obtain ⟨v3, vs3, d3, ds3, p3, q3, rfl, rfl, rfl, h3, r3⟩ := trodAll_cons r2
  obtain ⟨v4, vs4, d4, ds4, p4, q4, rfl, rfl, rfl, h4, r4⟩ := trodAll_cons r3
  obtain ⟨rfl, rfl, rfl⟩ := trodAll_nil r4
  obtain rfl : args = #[v0, v1, v2, v3, v4] := by cases args; simp_all
  obtain ⟨rfl, rfl⟩ := trodVars_none hV

  obtain ⟨a0, rfl, rfl, rfl, w0⟩ := open_int Try.underlying3 (hval 0 3 v0 rfl rfl) h0
  have b0 := bounds_i64 w0
  obtain ⟨a1, rfl, rfl, rfl, w1⟩ := open_string Try.underlying9 (hval 1 9 v1 rfl rfl) h1
  have b1 : a1.data.toList.length ≤ 140737488351232 := by have := sized_string hsz (j := 1) (t := 9) rfl rfl; simpa [reachBytes] using this
  obtain ⟨a2, len2, cap2, rfl⟩ := okWide_slice Try.underlying22 (hval 2 22 v2 rfl rfl)
  have k2 := h2
  have lt2 : ∀ x ∈ p2, x.block < W.heap.size := by obtain ⟨m, hm⟩ := k2; exact DataW.trod_lt m _ _ _ hm
  obtain ⟨z2, D2, sp2, r2', wz2, hs2, hD2⟩ := br_ints Try.underlying22 Try.underlying3 (by kernel_rfl) h2
  have e2 : ∀ x ∈ z2, isI64 x := fun x hx => bounds_i64 (wz2 x hx)
  have b2 : len2 ≤ 140737488351232 := by rcases hs2 with rfl | ⟨_, h⟩ <;> first | omega | (have := sized_slice hsz (j := 2) (t := 22) rfl rfl Try.underlying22; rw [show Try.prog.bytesOf 3 = 8 from by kernel_rfl] at this; simp only [reachBytes] at this; omega)
  obtain ⟨a3, len3, cap3, rfl⟩ := okWide_slice Try.underlying23 (hval 3 23 v3 rfl rfl)
  have k3 := h3
  have lt3 : ∀ x ∈ p3, x.block < W.heap.size := by obtain ⟨m, hm⟩ := k3; exact DataW.trod_lt m _ _ _ hm
  obtain ⟨z3, D3, sp3, r3', hs3, hD3, hE3⟩ := br_texts Try.underlying23 Try.underlying9 (by kernel_rfl) h3
  have b3 : len3 ≤ 140737488351232 := by rcases hs3 with rfl | ⟨_, h⟩ <;> first | omega | (have := sized_slice hsz (j := 3) (t := 23) rfl rfl Try.underlying23; rw [show Try.prog.bytesOf 9 = 16 from by kernel_rfl] at this; simp only [reachBytes] at this; omega)
  have g3 : ∀ y ∈ z3, y.length ≤ 140737488351232 := by
    have hlz : z3.length = len3 := by have := r3'.len; simp only [List.length_map, Nat.mul_one] at this; exact this
    rcases hs3 with rfl | ⟨_, h⟩
    · exact texts_sized hsz (j := 3) (t := 23) rfl rfl Try.underlying23 hE3
    · have hz : z3 = [] := List.eq_nil_of_length_eq_zero (by omega)
      subst hz
      intro y hy; cases hy
  obtain ⟨a4, len4, cap4, rfl⟩ := okWide_slice Try.underlying24 (hval 4 24 v4 rfl rfl)
  have k4 := h4
  have lt4 : ∀ x ∈ p4, x.block < W.heap.size := by obtain ⟨m, hm⟩ := k4; exact DataW.trod_lt m _ _ _ hm
  obtain ⟨z4, D4, sp4, r4', hs4, hD4⟩ := br_digs Try.underlying24 Try.underlying57 Try.underlying5 (by kernel_rfl) (by kernel_rfl) (by decide) h4
  have b4 : len4 ≤ 140737488351232 := by rcases hs4 with rfl | ⟨_, h⟩ <;> first | omega | (have := sized_slice hsz (j := 4) (t := 24) rfl rfl Try.underlying24; rw [show Try.prog.bytesOf 57 = 16 from by kernel_rfl] at this; simp only [reachBytes] at this; omega)
  clear hA0 hval0
  refine (walk_WireTruncated a0 a1.data.toList z2 a2 len2 cap2 z3 a3 len3 cap3 z4 a4 len4 cap4 W b0 b1 r2' b2 e2 r3' b3 g3 r4' b4).mono fun e W' ⟨he, bel⟩ => ?_
  subst he
  exact ⟨_, rfl, _, _, _, [], _, [], hW', trodAll_mk1 (shut_bool Try.underlying4 _), (trodAll_cons_mk (shut_int Try.underlying3 w0) (trodAll_cons_mk (shut_string Try.underlying9 w1) (trodAll_cons_mk (Below.trod laidOut (by kernel_rfl) (of_decide_eq_true (by kernel_rfl)) k2 bel lt2) (trodAll_cons_mk (Below.trod laidOut (by kernel_rfl) (of_decide_eq_true (by kernel_rfl)) k3 bel lt3) (trodAll_cons_mk (Below.trod laidOut (by kernel_rfl) (of_decide_eq_true (by kernel_rfl)) k4 bel lt4) trodAll_mk0))))), rfl, bel.frame _, fun h => by cases h⟩

theorem over : Rows.wireTruncatedRow.holds Try.pinned (OpenSpec.ofChange Rows.wireTruncatedSpec) :=
  OpenClaim.holds_of_wide 9 Try.f9 rfl rfl rfl rfl rfl rfl rfl ⟨rfl, rfl, rfl, rfl, rfl⟩ rfl rfl rfl rfl rfl (by kernel_rfl) Try.func9 (by kernel_rfl)
    (of_decide_eq_true (by kernel_rfl)) (by unfold Func.isWrapper; first | (rw [if_pos (by decide +kernel)]; kernel_rfl) | (rw [if_neg (by decide +kernel)]; exact ⟨rfl, rfl⟩))
    (fun os started H enc _ => lifted os started H enc)

/-- The statement. -/
theorem proved : Rows.WireTruncatedSaid := over
#print axioms proved
end Go.Proofs.Ytelphmfdpnmncaa.lawWireTruncated

