/-
  MJ: several texts in one. No statement is proved here.
-/
import Derived.Test.YtgjgjimgomhbmaaDoorMH
import Derived.Test.YtgjgjimgomhbmaaDoorME
import Derived.Test.YtgjgjimgomhbmaaDoorMC
import Derived.Test.YtgjgjimgomhbmaaDoorCards
import Derived.Test.YtgjgjimgomhbmaaDoorTie
import Derived.Test.YtgjgjimgomhbmaaDoorMA
import Derived.ProofKit
import Derived.OpenShut
import Derived.Deep.DeepHandedRow
import Derived.Lib.LaidTab
set_option linter.unusedVariables false
set_option linter.unusedSimpArgs false
namespace Go.Proofs.YtgjgjimgomhbmaaDoor
section
variable {T : List Vr} {nx m : Int} {hs : List Hd} {ps : List Int} {kind n : Int} {h : Hd}
end
end Go.Proofs.YtgjgjimgomhbmaaDoor
namespace Go.Proofs.YtgjgjimgomhbmaaDoor
open Go.RowKit Go.ChangeShapes Go.WideShapes
section
variable {H : Type} {enc : TypeId × Value → H} {P : Program} {w : World} {base : Nat} {held : Bool} {cs : List Value} {ls : List (Nat × TypeId)}
theorem leaf_at {o : Nat} {v : Value} (h : (cs.drop o).take 1 = [v]) : cs[o]? = some v := by
  have h2 : ((cs.drop o).take 1)[0]? = some v := by rw [h]; rfl
  rwa [List.getElem?_take, if_pos (by omega), List.getElem?_drop, Nat.add_zero] at h2
theorem leaf_ints64 {e : TypeId} (h : ∀ p ∈ ls, ∃ fuel' y, DataW.trod enc P w base (fun _ => true) held fuel' p.2 ((cs.drop p.1).take (P.cellsOf p.2)) = some y) {o : Nat} {t : TypeId} (hp : ls.contains (o, t) = true) (ht : P.underlying t = some (.slice e)) (he : P.underlying e = some (.int .i64)) (hce : P.cellsOf e = 1) (hc : P.cellsOf t = 1) :
    ∃ (A : Option Addr) (c : Nat) (zs : List Int), cs[o]? = some (.slice A zs.length c) ∧ Rd w w.heap.size 1 A zs.length c (ics zs) ∧ ∀ z ∈ zs, isI64 z := by
  obtain ⟨f, y, hy⟩ := h (o, t) (by simpa using hp)
  simp only [hc] at hy
  obtain ⟨A, n, c, xs, D, sp, hcs, hn, hr, _, _, _, hR⟩ := br_slice (fun z : Int => [Value.int .i64 z]) (fun z (_ : DataW H) => (Lit.int .i64 z).wf = true) ht hce (by decide)
    (fun fuel cs' d pl _ hh => by obtain ⟨z, rfl, _, hz⟩ := DataW.trod_int he hh; exact ⟨z, rfl, hz⟩) hy
  subst hn
  refine ⟨A, c, xs, leaf_at hcs, ?_, fun z hz => ?_⟩
  · have e1 : ics xs = xs.flatMap fun z => [Value.int .i64 z] := by unfold ics; rw [flat_one]
    rw [e1]; exact hr
  · obtain ⟨i, hi⟩ := List.getElem?_of_mem hz
    obtain ⟨_, _, h⟩ := hR i z hi
    exact bounds_i64 h
theorem leaf_digs {e b : TypeId} (h : ∀ p ∈ ls, ∃ fuel' y, DataW.trod enc P w base (fun _ => true) held fuel' p.2 ((cs.drop p.1).take (P.cellsOf p.2)) = some y) {o : Nat} {t : TypeId} (hp : ls.contains (o, t) = true) (ht : P.underlying t = some (.slice e)) (he : P.underlying e = some (.array 16 b)) (hb : P.underlying b = some (.int .u8)) (hcb : P.cellsOf b = 1) (hce : P.cellsOf e = 16) (hc : P.cellsOf t = 1) :
    ∃ (A : Option Addr) (n c : Nat) (D : List UInt8), cs[o]? = some (.slice A n c) ∧ Rd w w.heap.size 16 A n c (bcs D) := by
  obtain ⟨f, y, hy⟩ := h (o, t) (by simpa using hp)
  simp only [hc] at hy
  obtain ⟨A, n, c, xs, D, sp, hcs, hn, hr, _, _, _, hR⟩ := br_slice bcs (fun _ (_ : DataW H) => True) ht hce (by decide)
    (fun fuel cs' d pl _ hh => by
      obtain ⟨zs, rfl, _, hz, _⟩ := br_arr he hb hcb hce hh
      exact ⟨_, u8_list zs hz, trivial⟩) hy
  exact ⟨A, n, c, xs.flatten, leaf_at hcs, by rw [← bcs_flat]; exact hr⟩
end
theorem eq4 {cs : List Value} {a b c d : Value} (hl : cs.length = 4) (h0 : cs[0]? = some a) (h1 : cs[1]? = some b) (h2 : cs[2]? = some c) (h3 : cs[3]? = some d) : cs = [a, b, c, d] := by
  match cs, hl with
  | [x, y, z, u], _ => simp_all
/-- What is known of a header's numbers. -/
structure Hd.I64 (h : Hd) : Prop where
  tick : isI64 h.tick
  depth : isI64 h.depth
  counts : ∀ n ∈ h.counts, isI64 n
section
variable {H : Type} {enc : TypeId × Value → H} {W : World} {held : Bool} {b0 : Nat} {r : Reach}
set_option maxRecDepth 100000 in
/-- A header by value. -/
theorem br_header {v : Value} {d : DataW H} {pl : List MemPlace} (hval : Value.okWide Tryd.prog W r b0 25 v) (h : DataW.Trod enc Tryd.prog W 0 (fun _ => true) held 25 v d pl) :
    ∃ x : Lv, v = .agg (hcs x.h x.A x.c x.B x.d).toArray ∧ x.At W ∧ x.h.I64 := by
  obtain ⟨cs, rfl, hl, f⟩ := br_flat (m := 8) (n := 4) (ls := [(0, 3), (1, 22), (2, 3), (3, 23)]) (by kernel_rfl) (by kernel_rfl) (by kernel_rfl) hval h
  obtain ⟨z0, e0, w0⟩ := leaf_int f (o := 0) (t := 3) (by kernel_rfl) Tryd.underlying3 (by kernel_rfl)
  obtain ⟨A, c, zs, e1, hr, hz⟩ := leaf_ints64 f (o := 1) (t := 22) (by kernel_rfl) Tryd.underlying22 Tryd.underlying3 (by kernel_rfl) (by kernel_rfl)
  obtain ⟨z2, e2, w2⟩ := leaf_int f (o := 2) (t := 3) (by kernel_rfl) Tryd.underlying3 (by kernel_rfl)
  obtain ⟨B, n, c2, D, e3, hr3⟩ := leaf_digs f (o := 3) (t := 23) (by kernel_rfl) Tryd.underlying23 Tryd.underlying37 Tryd.underlying5 (by kernel_rfl) (by kernel_rfl) (by kernel_rfl)
  obtain rfl := eq4 hl e0 e1 e2 e3
  exact ⟨⟨0, 0, ⟨z0, zs, z2, n, D⟩, A, c, B, c2⟩, rfl, ⟨hr, hr3⟩, ⟨bounds_i64 w0, bounds_i64 w2, hz⟩⟩
end
end Go.Proofs.YtgjgjimgomhbmaaDoor
namespace Go.Proofs.YtgjgjimgomhbmaaDoor
open Go.ChangeShapes Go.WideShapes Go.ChangeAt Go.RowKit
def shaZ : List Int := shaK.map fun x : Nat => (x : Int)
theorem gOwn : Tryd.prog.globalNamed "voxel/hash.constants" = some 0 := by kernel_rfl
theorem gRef : Tryd.prog.globalNamed "voxel/voxelref02.constants" = some 1 := by kernel_rfl
theorem gOwnT : (Tryd.prog.globals[0]?).map (·.type) = some 121 := by kernel_rfl
theorem gRefT : (Tryd.prog.globals[1]?).map (·.type) = some 121 := by kernel_rfl
theorem gUndA : Tryd.prog.underlying 121 = some (.array 64 100) := by kernel_rfl
theorem gUndE : Tryd.prog.underlying 100 = some (.int .u32) := by kernel_rfl
theorem gCellsA : Tryd.prog.cellsOf 121 = 64 := by kernel_rfl
theorem gCellsE : Tryd.prog.cellsOf 100 = 1 := by kernel_rfl
theorem tabs_cells {W : World} {g : Nat} {cs : Array Value} (h : ∀ i : Nat, i < 64 → W.cell? ⟨g, i, none⟩ = some (.int .u32 (shaZ.getD i 0))) (_hc : cs = cs) :
    ∀ j u, (wvs shaK)[j]? = some u → W.cell? ⟨g, 0 + j, none⟩ = some u := by
  intro j u hu
  have hj : j < 64 := by have := (List.getElem?_eq_some_iff.1 hu).1; rwa [wvs_len] at this
  rw [Nat.zero_add, h j hj, ← hu]
  unfold wvs shaZ
  rw [List.getElem?_map, List.getElem?_eq_getElem (show j < shaK.length from hj)]
  simp [List.getD, show j < shaK.length from hj, wv]
theorem blocks_there {W : World} {g : Nat} {v : Value} (h : W.cell? ⟨g, 0, none⟩ = some v) : g < W.heap.size := by
  unfold World.cell? at h
  rcases Nat.lt_or_ge g W.heap.size with h' | h'
  · exact h'
  · rw [show W.heap[(⟨g, 0, none⟩ : Addr).block]? = none from Array.getElem?_eq_none h'] at h
    simp at h
theorem laid_both {W : World} (h : laidMetH Tryd.prog [("voxel/voxelref02.constants", Rows.laid_voxel_voxelref02_constants), ("voxel/hash.constants", Rows.laid_voxel_hash_constants)] W) : Tabs W ∧ TabsR W := by
  have hr : Lib.TabIs Tryd.prog W "voxel/voxelref02.constants" .u32 shaZ := Lib.tabIs_of_head (rest := [("voxel/hash.constants", Rows.laid_voxel_hash_constants)]) gRef gRefT gUndA gUndE gCellsE gCellsA h
  have h' : laidMet Tryd.prog [("voxel/voxelref02.constants", Rows.laid_voxel_voxelref02_constants), ("voxel/hash.constants", Rows.laid_voxel_hash_constants)] W := h
  obtain ⟨ps, ⟨_, _, _, _, _, q1, _, _, _, _, ⟨g', t', cs, fuel, p, q, hg', ht', hvar, hd, _, _⟩, _⟩, _⟩ := h'
  obtain rfl := Option.some.inj (gOwn.symm.trans hg')
  obtain rfl := Option.some.inj (gOwnT.symm.trans ht')
  have ho : Lib.TabIs Tryd.prog W "voxel/hash.constants" .u32 shaZ := by
    unfold Lib.TabIs
    have hd' : DataW.trod (fun _ => ()) Tryd.prog W 0 (fun _ => true) false fuel 121 cs.toList = some (Lib.tabData .u32 shaZ, p) := hd
    rw [hvar, ← Lib.cells_of_tab gUndA gUndE gCellsE gCellsA hd']
  have hsz : 2 ≤ W.heap.size := blocks_there (hr.cell gRef 0 (by decide))
  exact ⟨⟨hsz, tabs_cells (cs := #[]) (fun i hi => ho.cell gOwn i hi) rfl⟩, ⟨hsz, tabs_cells (cs := #[]) (fun i hi => hr.cell gRef i hi) rfl⟩⟩
/-- A table's block, filled. -/
def fillTab : Obj → Obj
  | .cells _ t frozen => .cells (wvs shaK).toArray t frozen
  | o => o
/-- A world for the witnesses: the settled one, the tables (blocks 0 and 1) holding what their initialisers lay. -/
noncomputable def laidWorld (os : Os) : World :=
  { World.holding Tryd.prog os ⟨#[], #[], []⟩ with heap := ((World.holding Tryd.prog os ⟨#[], #[], []⟩).heap.modify 0 fillTab).modify 1 fillTab }
theorem laid_met2 (os : Os) (args : Array Value) : laidMet Tryd.prog [("voxel/voxelref02.constants", Rows.laid_voxel_voxelref02_constants), ("voxel/hash.constants", Rows.laid_voxel_hash_constants)] ((laidWorld os).forCall (fun _ _ => 0) ⟨#[], args, []⟩).memory :=
  laidMet_of_run' 8 (by kernel_rfl) (by kernel_rfl)
end Go.Proofs.YtgjgjimgomhbmaaDoor
