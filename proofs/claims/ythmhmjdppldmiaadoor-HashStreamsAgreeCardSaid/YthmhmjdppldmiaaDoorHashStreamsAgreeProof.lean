/-
  HashStreamsAgree: the row, out of the walk of the law.
-/
import Derived.Test.YthmhmjdppldmiaaDoorHashStreamsAgree
import Derived.Test.YthmhmjdppldmiaaDoorBridge
import Derived.ShutString
import Derived.ChangeOld
import Derived.Test.YthmhmjdppldmiaaDoorLaid
import Derived.Test.YthmhmjdppldmiaaDoorSized
namespace Go.Proofs.YthmhmjdppldmiaaDoor.lawHashStreamsAgree
open Go.ChangeShapes Go.WideShapes Go.ChangeAt Go.RowKit
open Go.ChangeMaps (open_string shut_string)
set_option linter.unusedVariables false

theorem own : ownKnob Tryd.prog.godebug = none := by kernel_rfl
theorem laidOut : laidOutB Tryd.prog = true := by kernel_rfl

set_option maxRecDepth 100000 in
theorem reads (os : Os) {H : Type} (enc : TypeId × Value → H) : ∃ places, DataW.whole enc Tryd.prog ((laidWorld os).forCall (fun _ _ => 0) ⟨#[], #[.slice none 0 0, .string ByteArray.empty, .int .u8 0], []⟩).memory Tryd.f4.params.toList Rows.hashStreamsAgreeSpec.vars false (#[.slice none 0 0, .string ByteArray.empty, .int .u8 0] : Array Value).toList 8 = some ([.nil, .lit (.string []), .lit (.int .u8 0)], [], places) :=
  ⟨[], by kernel_rfl⟩
set_option maxRecDepth 100000 in
theorem lifted (os : Os) (started : os.Started) (H : Type) (enc : TypeId × Value → H) (F : Stop.Interp) :
    ReturnsInHanded {} Tryd.checked os 4 .any ((OpenSpec.ofChange Rows.hashStreamsAgreeSpec).preRow enc Tryd.prog Tryd.f4 Rows.hashStreamsAgreeRow.domain false Rows.hashStreamsAgreeRow.laid) (((OpenSpec.ofChange Rows.hashStreamsAgreeSpec).at F).post enc Tryd.prog Tryd.f4 false true false false) := by
  obtain ⟨places, hx⟩ := reads os enc
  refine returnsInHanded_of_row (C := Tryd.checked) (s := (OpenSpec.ofChange Rows.hashStreamsAgreeSpec)) own started (by kernel_rfl) Tryd.func4
    (witness_row_at (enc := enc) (C := Tryd.checked) false (laidWorld os) #[.slice none 0 0, .string ByteArray.empty, .int .u8 0] rfl (by kernel_rfl) (by kernel_rfl) (by kernel_rfl)
      (OpenSpec.preRow_of_cond 8 hx (by kernel_rfl) (fun k hk => by cases hk) (by kernel_rfl) (laid_met2 os _))) ?_
  intro W base args ds gs before hval0 hW hcnd hk hsz0 hL _ _
  have hsz : (DataW.weightsEach Tryd.prog (Tryd.f4.params.toList ++ Rows.hashStreamsAgreeSpec.plain.varTypes Tryd.prog) (ds ++ gs)).all (· ≤ reachBytes) = true := hsz0
  have hval : ∀ (j : Nat) t v, Tryd.f4.params[j]? = some t → args[j]? = some v → Value.okWide Tryd.prog W .any base t v := hval0
  have hW' := hW
  obtain ⟨p, q, hA0, hV, rfl, hfz, hnd⟩ := hW
  have hA : DataW.TrodAll enc Tryd.prog W 0 (fun _ => true) true Tryd.f4.params.toList args.toList ds p := hA0
  rw [Tryd.params4] at hA hval hsz
  obtain ⟨ht, htr⟩ := laid_both hL
  obtain ⟨v0, vs0, d0, ds0, p0, q0, hargs, rfl, rfl, h0, r0⟩ := trodAll_cons hA
  obtain ⟨v1, vs1, d1, ds1, p1, q1, rfl, rfl, rfl, h1, r1⟩ := trodAll_cons r0
  obtain ⟨v2, vs2, d2, ds2, p2, q2, rfl, rfl, rfl, h2, r2⟩ := trodAll_cons r1
  obtain ⟨rfl, rfl, rfl⟩ := trodAll_nil r2
  obtain rfl : args = #[v0, v1, v2] := by cases args; simp_all
  obtain ⟨rfl, rfl⟩ := trodVars_none hV

  obtain ⟨a0, len0, cap0, rfl⟩ := okWide_slice Tryd.underlying27 (hval 0 27 v0 rfl rfl)
  have k0 := h0
  have lt0 : ∀ x ∈ p0, x.block < W.heap.size := by obtain ⟨m, hm⟩ := k0; exact DataW.trod_lt m _ _ _ hm
  obtain ⟨z0, D0, sp0, r0', hs0, hD0, hE0⟩ := br_texts Tryd.underlying27 Tryd.underlying9 (by kernel_rfl) h0
  have b0 : len0 ≤ 140737488351232 := by rcases hs0 with rfl | ⟨_, h⟩ <;> first | omega | (have := sized_slice hsz (j := 0) (t := 27) rfl rfl Tryd.underlying27; rw [show Tryd.prog.bytesOf 9 = 16 from by kernel_rfl] at this; simp only [reachBytes] at this; omega)
  have g0 : ∀ y ∈ z0, y.length ≤ 140737488351232 := by
    have hlz : z0.length = len0 := by have := r0'.len; simp only [List.length_map, Nat.mul_one] at this; exact this
    rcases hs0 with rfl | ⟨_, h⟩
    · exact texts_sized hsz (j := 0) (t := 27) rfl rfl Tryd.underlying27 hE0
    · have hz : z0 = [] := List.eq_nil_of_length_eq_zero (by omega)
      subst hz
      intro y hy; cases hy
  obtain ⟨a1, rfl, rfl, rfl, w1⟩ := open_string Tryd.underlying9 (hval 1 9 v1 rfl rfl) h1
  have b1 : a1.data.toList.length ≤ 140737488351232 := by have := sized_string hsz (j := 1) (t := 9) rfl rfl; simpa [reachBytes] using this
  obtain ⟨a2, rfl, rfl, rfl, w2⟩ := open_int Tryd.underlying5 (hval 2 5 v2 rfl rfl) h2
  have b2 := bounds_u8 w2
  clear hA0 hval0
  refine (walk_HashStreamsAgree z0 a0 len0 cap0 a1.data.toList a2 W ht htr r0' b0 g0 b1 b2).mono fun e W' ⟨he, bel⟩ => ?_
  subst he
  exact ⟨_, rfl, _, _, _, [], _, [], hW', trodAll_mk1 (shut_bool Tryd.underlying4 _), (trodAll_cons_mk (Below.trod laidOut (by kernel_rfl) (of_decide_eq_true (by kernel_rfl)) k0 bel lt0) (trodAll_cons_mk (shut_string Tryd.underlying9 w1) (trodAll_cons_mk (shut_int Tryd.underlying5 w2) trodAll_mk0))), rfl, bel.frame _, fun h => by cases h⟩

theorem over : Rows.hashStreamsAgreeRow.holds Tryd.pinned (OpenSpec.ofChange Rows.hashStreamsAgreeSpec) :=
  OpenClaim.holds_of_cond 4 Tryd.f4 rfl rfl rfl rfl rfl rfl rfl ⟨rfl, rfl, rfl, rfl, rfl⟩ rfl rfl rfl rfl rfl (by kernel_rfl) Tryd.func4 (by kernel_rfl)
    (of_decide_eq_true (by kernel_rfl)) (by unfold Func.isWrapper; first | (rw [if_pos (by decide +kernel)]; kernel_rfl) | (rw [if_neg (by decide +kernel)]; exact ⟨rfl, rfl⟩))
    (fun os started H enc _ F => by rw [OpenClaim.pre_eq_preRow]; exact lifted os started H enc F)
/-- No parameter wants a stand-in; the program's own looks are off. -/
theorem plain (f : FuncId) (fn : Func) (hf : Tryd.pinned.checked.prog.funcNamed "voxel/voxellaw02.HashStreamsAgree" = some f) (hfn : Tryd.pinned.checked.prog.funcs[f]? = some fn) :
    false = Tryd.pinned.checked.prog.looks [] ∧ ∀ (j : Nat) t, fn.params[j]? = some t → Tryd.pinned.checked.prog.wantsStandIn t = false := by
  obtain rfl : f = 4 := Option.some.inj ((show Tryd.prog.funcNamed "voxel/voxellaw02.HashStreamsAgree" = some 4 by kernel_rfl).symm.trans hf) |>.symm
  obtain rfl : fn = Tryd.f4 := (Option.some.inj (Tryd.func4.symm.trans hfn)).symm
  refine ⟨by kernel_rfl, fun j t ht => ?_⟩
  rw [Tryd.params4] at ht
  rcases j with _ | j
  · obtain rfl : 27 = t := Option.some.inj (show some 27 = some t from ht)
    exact (show Tryd.prog.wantsStandIn 27 = false by kernel_rfl)
  rcases j with _ | j
  · obtain rfl : 9 = t := Option.some.inj (show some 9 = some t from ht)
    exact (show Tryd.prog.wantsStandIn 9 = false by kernel_rfl)
  rcases j with _ | j
  · obtain rfl : 5 = t := Option.some.inj (show some 5 = some t from ht)
    exact (show Tryd.prog.wantsStandIn 5 = false by kernel_rfl)
  exact absurd ht (by simp)
/-- The statement: the tied card. -/
theorem proved : Rows.HashStreamsAgreeCardSaid :=
  Claim7.holds_tied_plain_at .later [] _ _ _ _ over (fun _ h => by cases h) (by kernel_rfl) (fun _ h => by cases h) hashStreamsAgree_row_tie rfl ⟨rfl, rfl⟩ (by kernel_rfl) rfl plain (by kernel_rfl)
#print axioms proved
end Go.Proofs.YthmhmjdppldmiaaDoor.lawHashStreamsAgree

