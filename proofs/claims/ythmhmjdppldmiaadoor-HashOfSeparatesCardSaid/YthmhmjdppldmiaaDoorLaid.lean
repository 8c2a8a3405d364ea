/-
  What the rows' lists give: the tables of constants lie in memory. No statement is proved here.
-/
import Derived.Test.YthmhmjdppldmiaaDoorCards
import Derived.Test.YthmhmjdppldmiaaDoorTie
import Derived.Test.YthmhmjdppldmiaaDoorHSanity
import Derived.ProofKit
import Derived.OpenShut
import Derived.Deep.DeepHandedRow
import Derived.Lib.LaidTab
namespace Go.Proofs.YthmhmjdppldmiaaDoor
open Go.ChangeShapes Go.WideShapes Go.ChangeAt Go.RowKit

def shaZ : List Int := shaK.map fun x : Nat => (x : Int)
theorem gOwn : Tryd.prog.globalNamed "voxel/hash.constants" = some 1 := by kernel_rfl
theorem gRef : Tryd.prog.globalNamed "voxel/voxelref02.constants" = some 0 := by kernel_rfl
theorem gOwnT : (Tryd.prog.globals[1]?).map (·.type) = some 54 := by kernel_rfl
theorem gRefT : (Tryd.prog.globals[0]?).map (·.type) = some 54 := by kernel_rfl
theorem gUndA : Tryd.prog.underlying 54 = some (.array 64 29) := by kernel_rfl
theorem gUndE : Tryd.prog.underlying 29 = some (.int .u32) := by kernel_rfl
theorem gCellsA : Tryd.prog.cellsOf 54 = 64 := by kernel_rfl
theorem gCellsE : Tryd.prog.cellsOf 29 = 1 := by kernel_rfl
theorem tabs_cells {W : World} {g : Nat} {cs : Array Value} (h : ∀ i : Nat, i < 64 → W.cell? ⟨g, i, none⟩ = some (.int .u32 (shaZ.getD i 0))) (_hc : cs = cs) :
    ∀ j u, (wvs shaK)[j]? = some u → W.cell? ⟨g, 0 + j, none⟩ = some u := by
  intro j u hu
  have hj : j < 64 := by have := (List.getElem?_eq_some_iff.1 hu).1; rwa [wvs_len] at this
  rw [Nat.zero_add, h j hj, ← hu]
  unfold wvs shaZ
  rw [List.getElem?_map, List.getElem?_eq_getElem (show j < shaK.length from hj)]
  simp [List.getD, show j < shaK.length from hj, wv]
theorem blocks_there {W : World} {g : Nat} {v : Value} (h : W.cell? ⟨g, 0, none⟩ = some v) : g < W.heap.size := by
  unfold World.cell? at h
  rcases Nat.lt_or_ge g W.heap.size with h' | h'
  · exact h'
  · rw [show W.heap[(⟨g, 0, none⟩ : Addr).block]? = none from Array.getElem?_eq_none h'] at h
    simp at h
theorem laid_own1 {W : World} (h : laidMetH Tryd.prog [("voxel/hash.constants", Rows.laid_voxel_hash_constants)] W) : Tabs W := by
  have ht : Lib.TabIs Tryd.prog W "voxel/hash.constants" .u32 shaZ := Lib.tabIs_of_head (rest := []) gOwn gOwnT gUndA gUndE gCellsE gCellsA h
  exact ⟨blocks_there (ht.cell gOwn 0 (by decide)), tabs_cells (cs := #[]) (fun i hi => ht.cell gOwn i hi) rfl⟩
theorem laid_both {W : World} (h : laidMetH Tryd.prog [("voxel/voxelref02.constants", Rows.laid_voxel_voxelref02_constants), ("voxel/hash.constants", Rows.laid_voxel_hash_constants)] W) : Tabs W ∧ TabsR W := by
  have hr : Lib.TabIs Tryd.prog W "voxel/voxelref02.constants" .u32 shaZ := Lib.tabIs_of_head (rest := [("voxel/hash.constants", Rows.laid_voxel_hash_constants)]) gRef gRefT gUndA gUndE gCellsE gCellsA h
  have h' : laidMet Tryd.prog [("voxel/voxelref02.constants", Rows.laid_voxel_voxelref02_constants), ("voxel/hash.constants", Rows.laid_voxel_hash_constants)] W := h
  obtain ⟨ps, ⟨_, _, _, _, _, q1, _, _, _, _, ⟨g', t', cs, fuel, p, q, hg', ht', hvar, hd, _, _⟩, _⟩, _⟩ := h'
  obtain rfl := Option.some.inj (gOwn.symm.trans hg')
  obtain rfl := Option.some.inj (gOwnT.symm.trans ht')
  have ho : Lib.TabIs Tryd.prog W "voxel/hash.constants" .u32 shaZ := by
    unfold Lib.TabIs
    have hd' : DataW.trod (fun _ => ()) Tryd.prog W 0 (fun _ => true) false fuel 54 cs.toList = some (Lib.tabData .u32 shaZ, p) := hd
    rw [hvar, ← Lib.cells_of_tab gUndA gUndE gCellsE gCellsA hd']
  have hsz : 2 ≤ W.heap.size := blocks_there (ho.cell gOwn 0 (by decide))
  exact ⟨⟨hsz, tabs_cells (cs := #[]) (fun i hi => ho.cell gOwn i hi) rfl⟩, ⟨hsz, tabs_cells (cs := #[]) (fun i hi => hr.cell gRef i hi) rfl⟩⟩
/-- A table's block, filled. -/
def fillTab : Obj → Obj
  | .cells _ t frozen => .cells (wvs shaK).toArray t frozen
  | o => o
/-- A world for the witnesses: the settled one, the tables (blocks 0 and 1) holding what their initialisers lay. -/
noncomputable def laidWorld (os : Os) : World :=
  { World.holding Tryd.prog os ⟨#[], #[], []⟩ with heap := ((World.holding Tryd.prog os ⟨#[], #[], []⟩).heap.modify 0 fillTab).modify 1 fillTab }
theorem laid_met1 (os : Os) (args : Array Value) : laidMet Tryd.prog [("voxel/hash.constants", Rows.laid_voxel_hash_constants)] ((laidWorld os).forCall (fun _ _ => 0) ⟨#[], args, []⟩).memory :=
  laidMet_of_run' 8 (by kernel_rfl) (by kernel_rfl)
theorem laid_met2 (os : Os) (args : Array Value) : laidMet Tryd.prog [("voxel/voxelref02.constants", Rows.laid_voxel_voxelref02_constants), ("voxel/hash.constants", Rows.laid_voxel_hash_constants)] ((laidWorld os).forCall (fun _ _ => 0) ⟨#[], args, []⟩).memory :=
  laidMet_of_run' 8 (by kernel_rfl) (by kernel_rfl)
end Go.Proofs.YthmhmjdppldmiaaDoor
