/-
  WireListRoundTripUpto: the row, out of the walk of the law.
-/
import Derived.Test.YtelphmfdpnmncaaWireListRoundTrip
import Derived.Test.YtelphmfdpnmncaaBridge
import Derived.ShutString
import Derived.ChangeOld
import Derived.Test.YtelphmfdpnmncaaBulk
namespace Go.Proofs.Ytelphmfdpnmncaa.lawWireListRoundTrip
open Go.ChangeShapes Go.WideShapes Go.ChangeAt Go.RowKit
open Go.ChangeMaps (open_string shut_string)
set_option linter.unusedVariables false

theorem own : ownKnob Try.prog.godebug = none := by kernel_rfl
theorem laidOut : laidOutB Try.prog = true := by kernel_rfl

set_option maxRecDepth 100000 in
theorem lifted (os : Os) (started : os.Started) (H : Type) (enc : TypeId × Value → H) (F : Stop.Interp) :
    ReturnsInHanded {} Try.checked os 8 .any ((Rows.OpenSpec.upto Rows.wireListRoundTripSpec).pre6 enc Try.prog Try.f8 Rows.wireListRoundTripUptoRow.domain false) (((Rows.OpenSpec.upto Rows.wireListRoundTripSpec).at F).post enc Try.prog Try.f8 false true false false) := by
  refine returnsInHanded_of_cond (C := Try.checked) (s := Rows.OpenSpec.upto Rows.wireListRoundTripSpec) (k := Rows.uptoSmall) rfl own started (by kernel_rfl) Try.func8
    (OpenSpec.witness (enc := enc) (C := Try.checked) (s := Rows.OpenSpec.upto Rows.wireListRoundTripSpec) (k := Rows.uptoSmall) rfl false ⟨#[], #[.string ByteArray.empty, .slice none 0 0, .slice none 0 0, .slice none 0 0, .slice none 0 0], []⟩ 8 (by kernel_rfl) (by kernel_rfl) (by kernel_rfl)
      (x := ([.lit (.string []), .nil, .nil, .nil, .nil], [], [])) (by kernel_rfl) rfl (by kernel_rfl)) ?_
  intro W base args ds gs before hval0 hW hcnd hk _
  have hval : ∀ (j : Nat) t v, Try.f8.params[j]? = some t → args[j]? = some v → Value.okWide Try.prog W .any base t v := hval0
  have hW' := hW
  obtain ⟨p, q, hA0, hV, rfl, hfz, hnd⟩ := hW
  have hA : DataW.TrodAll enc Try.prog W 0 (fun _ => true) true Try.f8.params.toList args.toList ds p := hA0
  rw [Try.params8] at hA hval
  obtain ⟨v0, vs0, d0, ds0, p0, q0, hargs, rfl, rfl, h0, r0⟩ := trodAll_cons hA
  obtain ⟨v1, vs1, d1, ds1, p1, q1, rfl, rfl, rfl, h1, r1⟩ := trodAll_cons r0
  obtain ⟨v2, vs2, d2, ds2, p2, q2, rfl, rfl, rfl, h2, r2⟩ := trodAll_cons r1
  obtain ⟨v3, vs3, d3, ds3, p3, q3, rfl, rfl, rfl, h3, r3⟩ := trodAll_cons r2
  obtain ⟨v4, vs4, d4, ds4, p4, q4, rfl, rfl, rfl, h4, r4⟩ := trodAll_cons r3
  obtain ⟨rfl, rfl, rfl⟩ := trodAll_nil r4
  obtain rfl : args = #[v0, v1, v2, v3, v4] := by cases args; simp_all
  obtain ⟨rfl, rfl⟩ := trodVars_none hV
  have hbulk := bulks.bound hk
  obtain ⟨a0, rfl, rfl, rfl, w0⟩ := open_string Try.underlying9 (hval 0 9 v0 rfl rfl) h0
  have b0 : a0.data.toList.length ≤ 1048576 := by simp only [Rows.uptoBulkAll, Rows.uptoBulk, List.append_nil] at hbulk; omega
  obtain ⟨a1, len1, cap1, rfl⟩ := okWide_slice Try.underlying22 (hval 1 22 v1 rfl rfl)
  have k1 := h1
  have lt1 : ∀ x ∈ p1, x.block < W.heap.size := by obtain ⟨m, hm⟩ := k1; exact DataW.trod_lt m _ _ _ hm
  obtain ⟨z1, D1, sp1, r1', wz1, hs1, hD1⟩ := br_ints Try.underlying22 Try.underlying3 (by kernel_rfl) h1
  have e1 : ∀ x ∈ z1, isI64 x := fun x hx => bounds_i64 (wz1 x hx)
  have b1 : len1 ≤ 1048576 := by rcases hs1 with rfl | ⟨_, h⟩ <;> first | omega | (have hbulk := hbulk; have hle := bulks.slice_le D1 sp1; simp only [Rows.uptoBulkAll, List.append_nil] at hbulk; omega)
  obtain ⟨a2, len2, cap2, rfl⟩ := okWide_slice Try.underlying23 (hval 2 23 v2 rfl rfl)
  have k2 := h2
  have lt2 : ∀ x ∈ p2, x.block < W.heap.size := by obtain ⟨m, hm⟩ := k2; exact DataW.trod_lt m _ _ _ hm
  obtain ⟨z2, D2, sp2, r2', hs2, hD2, hE2⟩ := br_texts Try.underlying23 Try.underlying9 (by kernel_rfl) h2
  have b2 : len2 ≤ 1048576 := by rcases hs2 with rfl | ⟨_, h⟩ <;> first | omega | (have hbulk := hbulk; have hle := bulks.slice_le D2 sp2; simp only [Rows.uptoBulkAll, List.append_nil] at hbulk; omega)
  have g2 : z2.length + total z2 ≤ 1048576 := by
    have hlz : z2.length = len2 := by have := r2'.len; simp only [List.length_map, Nat.mul_one] at this; exact this
    rcases hs2 with rfl | ⟨_, h⟩
    · have hbulk := hbulk
      have hle : z2.length + total z2 ≤ Rows.uptoBulkAll D2 := texts_bulk z2 D2 (by omega) hE2
      simp only [Rows.uptoBulkAll, Rows.uptoBulk, List.append_nil] at hbulk
      omega
    · have hz : z2 = [] := List.eq_nil_of_length_eq_zero (by omega)
      subst hz
      simp [total]
  obtain ⟨a3, len3, cap3, rfl⟩ := okWide_slice Try.underlying24 (hval 3 24 v3 rfl rfl)
  have k3 := h3
  have lt3 : ∀ x ∈ p3, x.block < W.heap.size := by obtain ⟨m, hm⟩ := k3; exact DataW.trod_lt m _ _ _ hm
  obtain ⟨z3, D3, sp3, r3', hs3, hD3⟩ := br_digs Try.underlying24 Try.underlying57 Try.underlying5 (by kernel_rfl) (by kernel_rfl) (by decide) h3
  have b3 : len3 ≤ 1048576 := by rcases hs3 with rfl | ⟨_, h⟩ <;> first | omega | (have hbulk := hbulk; have hle := bulks.slice_le D3 sp3; simp only [Rows.uptoBulkAll, List.append_nil] at hbulk; omega)
  obtain ⟨a4, len4, cap4, rfl⟩ := okWide_slice Try.underlying28 (hval 4 28 v4 rfl rfl)
  have k4 := h4
  have lt4 : ∀ x ∈ p4, x.block < W.heap.size := by obtain ⟨m, hm⟩ := k4; exact DataW.trod_lt m _ _ _ hm
  obtain ⟨z4, D4, sp4, r4', hs4, hD4⟩ := br_bytes Try.underlying28 Try.underlying5 (by kernel_rfl) h4
  have b4 : len4 ≤ 1048576 := by rcases hs4 with rfl | ⟨_, h⟩ <;> first | omega | (have hbulk := hbulk; have hle := bulks.slice_le D4 sp4; simp only [Rows.uptoBulkAll, List.append_nil] at hbulk; omega)
  clear hA0 hval0
  refine (walk_WireListRoundTrip a0.data.toList z1 a1 len1 cap1 z2 a2 len2 cap2 z3 a3 len3 cap3 z4 a4 len4 cap4 W b0 r1' b1 e1 r2' b2 g2 r3' b3 r4' b4).mono fun e W' ⟨he, bel⟩ => ?_
  subst he
  exact ⟨_, rfl, _, _, _, [], _, [], hW', trodAll_mk1 (shut_bool Try.underlying4 _), (trodAll_cons_mk (shut_string Try.underlying9 w0) (trodAll_cons_mk (Below.trod laidOut (by kernel_rfl) (of_decide_eq_true (by kernel_rfl)) k1 bel lt1) (trodAll_cons_mk (Below.trod laidOut (by kernel_rfl) (of_decide_eq_true (by kernel_rfl)) k2 bel lt2) (trodAll_cons_mk (Below.trod laidOut (by kernel_rfl) (of_decide_eq_true (by kernel_rfl)) k3 bel lt3) (trodAll_cons_mk (Below.trod laidOut (by kernel_rfl) (of_decide_eq_true (by kernel_rfl)) k4 bel lt4) trodAll_mk0))))), rfl, bel.frame _, fun h => by cases h⟩

theorem over : Rows.wireListRoundTripUptoRow.holds Try.pinned (Rows.OpenSpec.upto Rows.wireListRoundTripSpec) :=
  OpenClaim.holds_of_cond 8 Try.f8 rfl rfl rfl rfl rfl rfl rfl ⟨rfl, rfl, rfl, rfl, rfl⟩ rfl rfl rfl rfl rfl (by kernel_rfl) Try.func8 (by kernel_rfl)
    (of_decide_eq_true (by kernel_rfl)) (by unfold Func.isWrapper; first | (rw [if_pos (by decide +kernel)]; kernel_rfl) | (rw [if_neg (by decide +kernel)]; exact ⟨rfl, rfl⟩))
    (fun os started H enc _ F => lifted os started H enc F)

/-- The statement. -/
theorem proved : Rows.WireListRoundTripUptoSaid := over
#print axioms proved
end Go.Proofs.Ytelphmfdpnmncaa.lawWireListRoundTrip

