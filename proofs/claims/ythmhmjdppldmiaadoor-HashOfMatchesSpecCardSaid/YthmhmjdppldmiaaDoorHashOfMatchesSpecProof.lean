/-
  HashOfMatchesSpec: the row, out of the walk of the law.
-/
import Derived.Test.YthmhmjdppldmiaaDoorHashOfMatchesSpec
import Derived.Test.YthmhmjdppldmiaaDoorBridge
import Derived.ShutString
import Derived.ChangeOld
import Derived.Test.YthmhmjdppldmiaaDoorLaid
import Derived.Test.YthmhmjdppldmiaaDoorSized
namespace Go.Proofs.YthmhmjdppldmiaaDoor.lawHashOfMatchesSpec
open Go.ChangeShapes Go.WideShapes Go.ChangeAt Go.RowKit
open Go.ChangeMaps (open_string shut_string)
set_option linter.unusedVariables false

theorem own : ownKnob Tryd.prog.godebug = none := by kernel_rfl
theorem laidOut : laidOutB Tryd.prog = true := by kernel_rfl

set_option maxRecDepth 100000 in
theorem reads (os : Os) {H : Type} (enc : TypeId × Value → H) : ∃ places, DataW.whole enc Tryd.prog ((laidWorld os).forCall (fun _ _ => 0) ⟨#[], #[.int .i64 0, .slice none 0 0], []⟩).memory Tryd.f7.params.toList Rows.hashOfMatchesSpecSpec.vars false (#[.int .i64 0, .slice none 0 0] : Array Value).toList 8 = some ([.lit (.int .i64 0), .nil], [], places) :=
  ⟨[], by kernel_rfl⟩
set_option maxRecDepth 100000 in
theorem lifted (os : Os) (started : os.Started) (H : Type) (enc : TypeId × Value → H) (F : Stop.Interp) :
    ReturnsInHanded {} Tryd.checked os 7 .any ((OpenSpec.ofChange Rows.hashOfMatchesSpecSpec).preRow enc Tryd.prog Tryd.f7 Rows.hashOfMatchesSpecRow.domain false Rows.hashOfMatchesSpecRow.laid) (((OpenSpec.ofChange Rows.hashOfMatchesSpecSpec).at F).post enc Tryd.prog Tryd.f7 false true false false) := by
  obtain ⟨places, hx⟩ := reads os enc
  refine returnsInHanded_of_row (C := Tryd.checked) (s := (OpenSpec.ofChange Rows.hashOfMatchesSpecSpec)) own started (by kernel_rfl) Tryd.func7
    (witness_row_at (enc := enc) (C := Tryd.checked) false (laidWorld os) #[.int .i64 0, .slice none 0 0] rfl (by kernel_rfl) (by kernel_rfl) (by kernel_rfl)
      (OpenSpec.preRow_of_cond 8 hx (by kernel_rfl) (fun k hk => by cases hk) (by kernel_rfl) (laid_met2 os _))) ?_
  intro W base args ds gs before hval0 hW hcnd hk hsz0 hL _ _
  have hsz : (DataW.weightsEach Tryd.prog (Tryd.f7.params.toList ++ Rows.hashOfMatchesSpecSpec.plain.varTypes Tryd.prog) (ds ++ gs)).all (· ≤ reachBytes) = true := hsz0
  have hval : ∀ (j : Nat) t v, Tryd.f7.params[j]? = some t → args[j]? = some v → Value.okWide Tryd.prog W .any base t v := hval0
  have hW' := hW
  obtain ⟨p, q, hA0, hV, rfl, hfz, hnd⟩ := hW
  have hA : DataW.TrodAll enc Tryd.prog W 0 (fun _ => true) true Tryd.f7.params.toList args.toList ds p := hA0
  rw [Tryd.params7] at hA hval hsz
  obtain ⟨ht, htr⟩ := laid_both hL
  obtain ⟨v0, vs0, d0, ds0, p0, q0, hargs, rfl, rfl, h0, r0⟩ := trodAll_cons hA
  obtain ⟨v1, vs1, d1, ds1, p1, q1, rfl, rfl, rfl, h1, r1⟩ := trodAll_cons r0
  obtain ⟨rfl, rfl, rfl⟩ := trodAll_nil r1
  obtain rfl : args = #[v0, v1] := by cases args; simp_all
  obtain ⟨rfl, rfl⟩ := trodVars_none hV

  obtain ⟨a0, rfl, rfl, rfl, w0⟩ := open_int Tryd.underlying3 (hval 0 3 v0 rfl rfl) h0
  have b0 := bounds_i64 w0
  obtain ⟨a1, len1, cap1, rfl⟩ := okWide_slice Tryd.underlying27 (hval 1 27 v1 rfl rfl)
  have k1 := h1
  have lt1 : ∀ x ∈ p1, x.block < W.heap.size := by obtain ⟨m, hm⟩ := k1; exact DataW.trod_lt m _ _ _ hm
  obtain ⟨z1, D1, sp1, r1', hs1, hD1, hE1⟩ := br_texts Tryd.underlying27 Tryd.underlying9 (by kernel_rfl) h1
  have b1 : len1 ≤ 140737488351232 := by rcases hs1 with rfl | ⟨_, h⟩ <;> first | omega | (have := sized_slice hsz (j := 1) (t := 27) rfl rfl Tryd.underlying27; rw [show Tryd.prog.bytesOf 9 = 16 from by kernel_rfl] at this; simp only [reachBytes] at this; omega)
  have g1 : ∀ y ∈ z1, y.length ≤ 140737488351232 := by
    have hlz : z1.length = len1 := by have := r1'.len; simp only [List.length_map, Nat.mul_one] at this; exact this
    rcases hs1 with rfl | ⟨_, h⟩
    · exact texts_sized hsz (j := 1) (t := 27) rfl rfl Tryd.underlying27 hE1
    · have hz : z1 = [] := List.eq_nil_of_length_eq_zero (by omega)
      subst hz
      intro y hy; cases hy
  clear hA0 hval0
  refine (walk_HashOfMatchesSpec a0 z1 a1 len1 cap1 W ht htr b0 r1' b1 g1).mono fun e W' ⟨he, bel⟩ => ?_
  subst he
  exact ⟨_, rfl, _, _, _, [], _, [], hW', trodAll_mk1 (shut_bool Tryd.underlying4 _), (trodAll_cons_mk (shut_int Tryd.underlying3 w0) (trodAll_cons_mk (Below.trod laidOut (by kernel_rfl) (of_decide_eq_true (by kernel_rfl)) k1 bel lt1) trodAll_mk0)), rfl, bel.frame _, fun h => by cases h⟩

theorem over : Rows.hashOfMatchesSpecRow.holds Tryd.pinned (OpenSpec.ofChange Rows.hashOfMatchesSpecSpec) :=
  OpenClaim.holds_of_cond 7 Tryd.f7 rfl rfl rfl rfl rfl rfl rfl ⟨rfl, rfl, rfl, rfl, rfl⟩ rfl rfl rfl rfl rfl (by kernel_rfl) Tryd.func7 (by kernel_rfl)
    (of_decide_eq_true (by kernel_rfl)) (by unfold Func.isWrapper; first | (rw [if_pos (by decide +kernel)]; kernel_rfl) | (rw [if_neg (by decide +kernel)]; exact ⟨rfl, rfl⟩))
    (fun os started H enc _ F => by rw [OpenClaim.pre_eq_preRow]; exact lifted os started H enc F)
/-- No parameter wants a stand-in; the program's own looks are off. -/
theorem plain (f : FuncId) (fn : Func) (hf : Tryd.pinned.checked.prog.funcNamed "voxel/voxellaw02.HashOfMatchesSpec" = some f) (hfn : Tryd.pinned.checked.prog.funcs[f]? = some fn) :
    false = Tryd.pinned.checked.prog.looks [] ∧ ∀ (j : Nat) t, fn.params[j]? = some t → Tryd.pinned.checked.prog.wantsStandIn t = false := by
  obtain rfl : f = 7 := Option.some.inj ((show Tryd.prog.funcNamed "voxel/voxellaw02.HashOfMatchesSpec" = some 7 by kernel_rfl).symm.trans hf) |>.symm
  obtain rfl : fn = Tryd.f7 := (Option.some.inj (Tryd.func7.symm.trans hfn)).symm
  refine ⟨by kernel_rfl, fun j t ht => ?_⟩
  rw [Tryd.params7] at ht
  rcases j with _ | j
  · obtain rfl : 3 = t := Option.some.inj (show some 3 = some t from ht)
    exact (show Tryd.prog.wantsStandIn 3 = false by kernel_rfl)
  rcases j with _ | j
  · obtain rfl : 27 = t := Option.some.inj (show some 27 = some t from ht)
    exact (show Tryd.prog.wantsStandIn 27 = false by kernel_rfl)
  exact absurd ht (by simp)
/-- The statement: the tied card. -/
theorem proved : Rows.HashOfMatchesSpecCardSaid :=
  Claim7.holds_tied_plain_at .later [] _ _ _ _ over (fun _ h => by cases h) (by kernel_rfl) (fun _ h => by cases h) hashOfMatchesSpec_row_tie rfl ⟨rfl, rfl⟩ (by kernel_rfl) rfl plain (by kernel_rfl)
#print axioms proved
end Go.Proofs.YthmhmjdppldmiaaDoor.lawHashOfMatchesSpec

