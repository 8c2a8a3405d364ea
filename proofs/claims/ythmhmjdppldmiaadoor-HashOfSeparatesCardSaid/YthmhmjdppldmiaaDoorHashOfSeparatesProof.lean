/-
  HashOfSeparates: the row, out of the walk of the law.
-/
import Derived.Test.YthmhmjdppldmiaaDoorHashOfSeparates
import Derived.Test.YthmhmjdppldmiaaDoorBridge
import Derived.ShutString
import Derived.ChangeOld
import Derived.Test.YthmhmjdppldmiaaDoorLaid
import Derived.WideKeyPair
import Derived.Test.YthmhmjdppldmiaaDoorSized
namespace Go.Proofs.YthmhmjdppldmiaaDoor.lawHashOfSeparates
open Go.ChangeShapes Go.WideShapes Go.ChangeAt Go.RowKit
open Go.ChangeMaps (open_string shut_string)
set_option linter.unusedVariables false

theorem own : ownKnob Tryd.prog.godebug = none := by kernel_rfl
theorem laidOut : laidOutB Tryd.prog = true := by kernel_rfl

set_option maxRecDepth 100000 in
theorem reads (os : Os) {H : Type} (enc : TypeId × Value → H) : ∃ places, DataW.whole enc Tryd.prog ((laidWorld os).forCall (fun _ _ => 0) ⟨#[], #[.agg #[.int .u8 0, .int .u8 0], .slice none 0 0, .slice none 0 0], []⟩).memory Tryd.f8.params.toList Rows.hashOfSeparatesSpec.vars false (#[.agg #[.int .u8 0, .int .u8 0], .slice none 0 0, .slice none 0 0] : Array Value).toList 8 = some ([.agg [.lit (.int .u8 0), .lit (.int .u8 0)], .nil, .nil], [], places) :=
  ⟨[], by kernel_rfl⟩
set_option maxRecDepth 100000 in
theorem lifted (os : Os) (started : os.Started) (H : Type) (enc : TypeId × Value → H) (F : Stop.Interp) :
    ReturnsInHanded {} Tryd.checked os 8 .any ((OpenSpec.ofChange Rows.hashOfSeparatesSpec).preRow enc Tryd.prog Tryd.f8 Rows.hashOfSeparatesRow.domain false Rows.hashOfSeparatesRow.laid) (((OpenSpec.ofChange Rows.hashOfSeparatesSpec).at F).post enc Tryd.prog Tryd.f8 false true false false) := by
  obtain ⟨places, hx⟩ := reads os enc
  refine returnsInHanded_of_row (C := Tryd.checked) (s := (OpenSpec.ofChange Rows.hashOfSeparatesSpec)) own started (by kernel_rfl) Tryd.func8
    (witness_row_at (enc := enc) (C := Tryd.checked) false (laidWorld os) #[.agg #[.int .u8 0, .int .u8 0], .slice none 0 0, .slice none 0 0] rfl (by kernel_rfl) (by kernel_rfl) (by kernel_rfl)
      (OpenSpec.preRow_of_cond 8 hx (by kernel_rfl) (fun k hk => by cases hk) (by kernel_rfl) (laid_met1 os _))) ?_
  intro W base args ds gs before hval0 hW hcnd hk hsz0 hL _ _
  have hsz : (DataW.weightsEach Tryd.prog (Tryd.f8.params.toList ++ Rows.hashOfSeparatesSpec.plain.varTypes Tryd.prog) (ds ++ gs)).all (· ≤ reachBytes) = true := hsz0
  have hval : ∀ (j : Nat) t v, Tryd.f8.params[j]? = some t → args[j]? = some v → Value.okWide Tryd.prog W .any base t v := hval0
  have hW' := hW
  obtain ⟨p, q, hA0, hV, rfl, hfz, hnd⟩ := hW
  have hA : DataW.TrodAll enc Tryd.prog W 0 (fun _ => true) true Tryd.f8.params.toList args.toList ds p := hA0
  rw [Tryd.params8] at hA hval hsz
  have ht := laid_own1 hL
  obtain ⟨v0, vs0, d0, ds0, p0, q0, hargs, rfl, rfl, h0, r0⟩ := trodAll_cons hA
  obtain ⟨v1, vs1, d1, ds1, p1, q1, rfl, rfl, rfl, h1, r1⟩ := trodAll_cons r0
  obtain ⟨v2, vs2, d2, ds2, p2, q2, rfl, rfl, rfl, h2, r2⟩ := trodAll_cons r1
  obtain ⟨rfl, rfl, rfl⟩ := trodAll_nil r2
  obtain rfl : args = #[v0, v1, v2] := by cases args; simp_all
  obtain ⟨rfl, rfl⟩ := trodVars_none hV

  have ak0 : Go.WideMaps.ArrKey Tryd.prog 48 5 2 := ⟨by kernel_rfl, by kernel_rfl, by kernel_rfl, by kernel_rfl⟩
  obtain ⟨a0, a0', rfl, rfl, rfl, w0, w0'⟩ := Go.WideMaps.open_pair ak0 Tryd.underlying5 (hval 0 48 v0 rfl rfl) h0
  have b0 := bounds_u8 w0
  have b0' := bounds_u8 w0'
  obtain ⟨a1, len1, cap1, rfl⟩ := okWide_slice Tryd.underlying27 (hval 1 27 v1 rfl rfl)
  have k1 := h1
  have lt1 : ∀ x ∈ p1, x.block < W.heap.size := by obtain ⟨m, hm⟩ := k1; exact DataW.trod_lt m _ _ _ hm
  obtain ⟨z1, D1, sp1, r1', hs1, hD1, hE1⟩ := br_texts Tryd.underlying27 Tryd.underlying9 (by kernel_rfl) h1
  have b1 : len1 ≤ 140737488351232 := by rcases hs1 with rfl | ⟨_, h⟩ <;> first | omega | (have := sized_slice hsz (j := 1) (t := 27) rfl rfl Tryd.underlying27; rw [show Tryd.prog.bytesOf 9 = 16 from by kernel_rfl] at this; simp only [reachBytes] at this; omega)
  have g1 : ∀ y ∈ z1, y.length ≤ 140737488351232 := by
    have hlz : z1.length = len1 := by have := r1'.len; simp only [List.length_map, Nat.mul_one] at this; exact this
    rcases hs1 with rfl | ⟨_, h⟩
    · exact texts_sized hsz (j := 1) (t := 27) rfl rfl Tryd.underlying27 hE1
    · have hz : z1 = [] := List.eq_nil_of_length_eq_zero (by omega)
      subst hz
      intro y hy; cases hy
  obtain ⟨a2, len2, cap2, rfl⟩ := okWide_slice Tryd.underlying27 (hval 2 27 v2 rfl rfl)
  have k2 := h2
  have lt2 : ∀ x ∈ p2, x.block < W.heap.size := by obtain ⟨m, hm⟩ := k2; exact DataW.trod_lt m _ _ _ hm
  obtain ⟨z2, D2, sp2, r2', hs2, hD2, hE2⟩ := br_texts Tryd.underlying27 Tryd.underlying9 (by kernel_rfl) h2
  have b2 : len2 ≤ 140737488351232 := by rcases hs2 with rfl | ⟨_, h⟩ <;> first | omega | (have := sized_slice hsz (j := 2) (t := 27) rfl rfl Tryd.underlying27; rw [show Tryd.prog.bytesOf 9 = 16 from by kernel_rfl] at this; simp only [reachBytes] at this; omega)
  have g2 : ∀ y ∈ z2, y.length ≤ 140737488351232 := by
    have hlz : z2.length = len2 := by have := r2'.len; simp only [List.length_map, Nat.mul_one] at this; exact this
    rcases hs2 with rfl | ⟨_, h⟩
    · exact texts_sized hsz (j := 2) (t := 27) rfl rfl Tryd.underlying27 hE2
    · have hz : z2 = [] := List.eq_nil_of_length_eq_zero (by omega)
      subst hz
      intro y hy; cases hy
  clear hA0 hval0
  refine (walk_HashOfSeparates a0 a0' z1 a1 len1 cap1 z2 a2 len2 cap2 W ht b0 b0' r1' b1 g1 r2' b2 g2).mono fun e W' ⟨he, bel⟩ => ?_
  subst he
  exact ⟨_, rfl, _, _, _, [], _, [], hW', trodAll_mk1 (shut_bool Tryd.underlying4 _), (trodAll_cons_mk (Go.WideMaps.shut_pair ak0 Tryd.underlying5 w0 w0') (trodAll_cons_mk (Below.trod laidOut (by kernel_rfl) (of_decide_eq_true (by kernel_rfl)) k1 bel lt1) (trodAll_cons_mk (Below.trod laidOut (by kernel_rfl) (of_decide_eq_true (by kernel_rfl)) k2 bel lt2) trodAll_mk0))), rfl, bel.frame _, fun h => by cases h⟩

theorem over : Rows.hashOfSeparatesRow.holds Tryd.pinned (OpenSpec.ofChange Rows.hashOfSeparatesSpec) :=
  OpenClaim.holds_of_cond 8 Tryd.f8 rfl rfl rfl rfl rfl rfl rfl ⟨rfl, rfl, rfl, rfl, rfl⟩ rfl rfl rfl rfl rfl (by kernel_rfl) Tryd.func8 (by kernel_rfl)
    (of_decide_eq_true (by kernel_rfl)) (by unfold Func.isWrapper; first | (rw [if_pos (by decide +kernel)]; kernel_rfl) | (rw [if_neg (by decide +kernel)]; exact ⟨rfl, rfl⟩))
    (fun os started H enc _ F => by rw [OpenClaim.pre_eq_preRow]; exact lifted os started H enc F)
/-- No parameter wants a stand-in; the program's own looks are off. -/
theorem plain (f : FuncId) (fn : Func) (hf : Tryd.pinned.checked.prog.funcNamed "voxel/voxellaw02.HashOfSeparates" = some f) (hfn : Tryd.pinned.checked.prog.funcs[f]? = some fn) :
    false = Tryd.pinned.checked.prog.looks [] ∧ ∀ (j : Nat) t, fn.params[j]? = some t → Tryd.pinned.checked.prog.wantsStandIn t = false := by
  obtain rfl : f = 8 := Option.some.inj ((show Tryd.prog.funcNamed "voxel/voxellaw02.HashOfSeparates" = some 8 by kernel_rfl).symm.trans hf) |>.symm
  obtain rfl : fn = Tryd.f8 := (Option.some.inj (Tryd.func8.symm.trans hfn)).symm
  refine ⟨by kernel_rfl, fun j t ht => ?_⟩
  rw [Tryd.params8] at ht
  rcases j with _ | j
  · obtain rfl : 48 = t := Option.some.inj (show some 48 = some t from ht)
    exact (show Tryd.prog.wantsStandIn 48 = false by kernel_rfl)
  rcases j with _ | j
  · obtain rfl : 27 = t := Option.some.inj (show some 27 = some t from ht)
    exact (show Tryd.prog.wantsStandIn 27 = false by kernel_rfl)
  rcases j with _ | j
  · obtain rfl : 27 = t := Option.some.inj (show some 27 = some t from ht)
    exact (show Tryd.prog.wantsStandIn 27 = false by kernel_rfl)
  exact absurd ht (by simp)
/-- The statement: the tied card. -/
theorem proved : Rows.HashOfSeparatesCardSaid :=
  Claim7.holds_tied_plain_at .later [] _ _ _ _ over (fun _ h => by cases h) (by kernel_rfl) (fun _ h => by cases h) hashOfSeparates_row_tie rfl ⟨rfl, rfl⟩ (by kernel_rfl) rfl plain (by kernel_rfl)
#print axioms proved
end Go.Proofs.YthmhmjdppldmiaaDoor.lawHashOfSeparates

