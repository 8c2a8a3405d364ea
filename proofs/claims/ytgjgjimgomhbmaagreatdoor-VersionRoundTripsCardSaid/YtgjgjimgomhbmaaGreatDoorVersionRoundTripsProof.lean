/-
  VersionRoundTrips: the row, out of the walk of the law.
-/
import Derived.Test.YtgjgjimgomhbmaaGreatDoorVersionRoundTrips
import Derived.Test.YtgjgjimgomhbmaaGreatDoorMB
import Derived.ShutString
import Derived.ChangeOld
import Derived.Test.YtgjgjimgomhbmaaGreatDoorMG
set_option maxRecDepth 100000
set_option maxHeartbeats 4000000
set_option linter.unusedVariables false
set_option linter.unusedSimpArgs false
namespace Go.Proofs.YtgjgjimgomhbmaaGreatDoor.lawVersionRoundTrips
open Go.ChangeShapes Go.WideShapes Go.ChangeAt Go.RowKit
open Go.ChangeMaps (open_string shut_string)

theorem own : ownKnob Tryz.prog.godebug = none := by kernel_rfl
theorem laidOut : laidOutB Tryz.prog = true := by kernel_rfl

theorem reads (os : Os) {H : Type} (enc : TypeId × Value → H) : ∃ places, DataW.whole enc Tryz.prog ((laidWorld os).forCall (fun _ _ => 0) ⟨#[], #[.agg #[.int .i64 0, .slice none 0 0, .int .i64 0, .slice none 0 0], .slice none 0 0, .string ByteArray.empty, .bool false], []⟩).memory Tryz.f4.params.toList Rows.versionRoundTripsSpec.vars false (#[.agg #[.int .i64 0, .slice none 0 0, .int .i64 0, .slice none 0 0], .slice none 0 0, .string ByteArray.empty, .bool false] : Array Value).toList 8 = some ([.agg [.lit (.int .i64 0), .nil, .lit (.int .i64 0), .nil], .nil, .lit (.string []), .lit (.bool false)], [], places) :=
  ⟨[], by kernel_rfl⟩
theorem lifted (os : Os) (started : os.Started) (H : Type) (enc : TypeId × Value → H) (F : Stop.Interp) :
    ReturnsInHanded {} Tryz.checked os 4 .any ((OpenSpec.ofChange Rows.versionRoundTripsSpec).preRow enc Tryz.prog Tryz.f4 Rows.versionRoundTripsRow.domain false Rows.versionRoundTripsRow.laid) (((OpenSpec.ofChange Rows.versionRoundTripsSpec).at F).post enc Tryz.prog Tryz.f4 false true false false) := by
  obtain ⟨places, hx⟩ := reads os enc
  refine returnsInHanded_of_row (C := Tryz.checked) (s := (OpenSpec.ofChange Rows.versionRoundTripsSpec)) own started kr_ Tryz.func4
    (witness_row_at (enc := enc) (C := Tryz.checked) false (laidWorld os) #[.agg #[.int .i64 0, .slice none 0 0, .int .i64 0, .slice none 0 0], .slice none 0 0, .string ByteArray.empty, .bool false] rfl kr_ kr_ kr_
      (OpenSpec.preRow_of_cond 8 hx kr_ (fun k hk => by cases hk) kr_ (laid_met2 os _))) ?_
  intro W base args ds gs before hval0 hW hcnd hk hsz0 hL _ _
  have hsz : (DataW.weightsEach Tryz.prog (Tryz.f4.params.toList ++ Rows.versionRoundTripsSpec.plain.varTypes Tryz.prog) (ds ++ gs)).all (· ≤ reachBytes) = true := hsz0
  have hval : ∀ (j : Nat) t v, Tryz.f4.params[j]? = some t → args[j]? = some v → Value.okWide Tryz.prog W .any base t v := hval0
  have hW' := hW
  obtain ⟨p, q, hA0, hV, rfl, hfz, hnd⟩ := hW
  have hA : DataW.TrodAll enc Tryz.prog W 0 (fun _ => true) true Tryz.f4.params.toList args.toList ds p := hA0
  rw [Tryz.params4] at hA hval hsz
  obtain ⟨ht, htr⟩ := laid_both hL
  obtain ⟨v0, vs0, d0, ds0, p0, q0, hargs, rfl, rfl, h0, r0⟩ := trodAll_cons hA
  obtain ⟨v1, vs1, d1, ds1, p1, q1, rfl, rfl, rfl, h1, r1⟩ := trodAll_cons r0
  obtain ⟨v2, vs2, d2, ds2, p2, q2, rfl, rfl, rfl, h2, r2⟩ := trodAll_cons r1
  obtain ⟨v3, vs3, d3, ds3, p3, q3, rfl, rfl, rfl, h3, r3⟩ := trodAll_cons r2
  obtain ⟨rfl, rfl, rfl⟩ := trodAll_nil r3
  obtain rfl : args = #[v0, v1, v2, v3] := by cases args; simp_all
  obtain ⟨rfl, rfl⟩ := trodVars_none hV

  have k0 := h0
  have lt0 : ∀ x ∈ p0, x.block < W.heap.size := by obtain ⟨m, hm⟩ := k0; exact DataW.trod_lt m _ _ _ hm
  obtain ⟨x0, rfl, al0', f0'⟩ := br_header (hval 0 25 v0 rfl rfl) h0
  obtain ⟨a1, len1, cap1, rfl⟩ := okWide_slice Tryz.underlying40 (hval 1 40 v1 rfl rfl)
  have k1 := h1
  have lt1 : ∀ x ∈ p1, x.block < W.heap.size := by obtain ⟨m, hm⟩ := k1; exact DataW.trod_lt m _ _ _ hm
  obtain ⟨z1, D1, sp1, r1', hs1, hD1⟩ := br_bytes Tryz.underlying40 Tryz.underlying5 kr_ h1
  have b1 : len1 ≤ 140737488351232 := by rcases hs1 with rfl | ⟨_, h⟩ <;> first | omega | (have := sized_slice hsz (j := 1) (t := 40) rfl rfl Tryz.underlying40; rw [show Tryz.prog.bytesOf 5 = 1 from by kernel_rfl] at this; simp only [reachBytes] at this; omega)
  obtain ⟨a2, rfl, rfl, rfl, w2⟩ := open_string Tryz.underlying9 (hval 2 9 v2 rfl rfl) h2
  have b2 : a2.data.toList.length ≤ 140737488351232 := by have := sized_string hsz (j := 2) (t := 9) rfl rfl; simpa [reachBytes] using this
  obtain ⟨a3, rfl, rfl, rfl⟩ := open_bool Tryz.underlying4 (hval 3 4 v3 rfl rfl) h3
  clear hA0 hval0
  refine (walk_VersionRoundTrips x0 z1 a1 len1 cap1 a2.data.toList a3 W ht htr al0' f0' r1' b1 b2).mono fun e W' ⟨he, bel⟩ => ?_
  subst he
  exact ⟨_, rfl, _, _, _, [], _, [], hW', trodAll_mk1 (shut_bool Tryz.underlying4 _), (trodAll_cons_mk (Below.trod laidOut kr_ (of_decide_eq_true kr_) k0 bel lt0) (trodAll_cons_mk (Below.trod laidOut kr_ (of_decide_eq_true kr_) k1 bel lt1) (trodAll_cons_mk (shut_string Tryz.underlying9 w2) (trodAll_cons_mk (shut_bool Tryz.underlying4 a3) trodAll_mk0)))), rfl, bel.frame _, fun h => by cases h⟩

theorem over : Rows.versionRoundTripsRow.holds Tryz.pinned (OpenSpec.ofChange Rows.versionRoundTripsSpec) :=
  OpenClaim.holds_of_cond 4 Tryz.f4 rfl rfl rfl rfl rfl rfl rfl ⟨rfl, rfl, rfl, rfl, rfl⟩ rfl rfl rfl rfl rfl kr_ Tryz.func4 kr_
    (of_decide_eq_true kr_) (by unfold Func.isWrapper; first | (rw [if_pos (by decide +kernel)]; kernel_rfl) | (rw [if_neg (by decide +kernel)]; exact ⟨rfl, rfl⟩))
    (fun os started H enc _ F => by rw [OpenClaim.pre_eq_preRow]; exact lifted os started H enc F)
/-- No parameter wants a stand-in; the program's own looks are off. -/
theorem plain (f : FuncId) (fn : Func) (hf : Tryz.pinned.checked.prog.funcNamed "voxel/voxellaw18.VersionRoundTrips" = some f) (hfn : Tryz.pinned.checked.prog.funcs[f]? = some fn) :
    true = Tryz.pinned.checked.prog.looks [] ∧ ∀ (j : Nat) t, fn.params[j]? = some t → Tryz.pinned.checked.prog.wantsStandIn t = false := by
  obtain rfl : f = 4 := Option.some.inj ((show Tryz.prog.funcNamed "voxel/voxellaw18.VersionRoundTrips" = some 4 by kernel_rfl).symm.trans hf) |>.symm
  obtain rfl : fn = Tryz.f4 := (Option.some.inj (Tryz.func4.symm.trans hfn)).symm
  refine ⟨by kernel_rfl, fun j t ht => ?_⟩
  rw [Tryz.params4] at ht
  rcases j with _ | j
  · obtain rfl : 25 = t := Option.some.inj (show some 25 = some t from ht)
    exact (show Tryz.prog.wantsStandIn 25 = false by kernel_rfl)
  rcases j with _ | j
  · obtain rfl : 40 = t := Option.some.inj (show some 40 = some t from ht)
    exact (show Tryz.prog.wantsStandIn 40 = false by kernel_rfl)
  rcases j with _ | j
  · obtain rfl : 9 = t := Option.some.inj (show some 9 = some t from ht)
    exact (show Tryz.prog.wantsStandIn 9 = false by kernel_rfl)
  rcases j with _ | j
  · obtain rfl : 4 = t := Option.some.inj (show some 4 = some t from ht)
    exact (show Tryz.prog.wantsStandIn 4 = false by kernel_rfl)
  exact absurd ht (by simp)
/-- The statement: the tied card. -/
theorem proved : Rows.VersionRoundTripsCardSaid :=
  Claim7.holds_tied_plain_at .later [] _ _ _ _ over (fun _ h => by cases h) kr_ (fun _ h => by cases h) versionRoundTrips_row_tie rfl ⟨rfl, rfl⟩ kr_ rfl plain kr_
#print axioms proved
end Go.Proofs.YtgjgjimgomhbmaaGreatDoor.lawVersionRoundTrips

