/-
  getDigest and wire.GetDigests return what decD gives, the list in a new row.
-/
import Derived.Test.YtelphmfdpnmncaaGets
namespace Go.Proofs.Ytelphmfdpnmncaa
open Go.RowKit

/-- A struct or array and two numbers are returned; nothing that was there has turned. -/
def RetA3 (w : World) (cs : List Value) (u err : Int) (en : Ending) (w' : World) : Prop :=
  en = .returned (.tuple #[.agg cs.toArray, .int .i64 u, .int .i64 err]) ∧ Below w.heap.size w w'

theorem take_bcs (l : List UInt8) (k : Nat) : (bcs l).take k = bcs (l.take k) := by rw [bcs, bcs, List.map_take]

set_option maxRecDepth 100000 in
set_option maxHeartbeats 400000 in
theorem getDigest_any (l : List UInt8) (A : Option Addr) (n c B : Nat) (w : World) (hr : Rd w B 1 A n c (bcs l)) (hB : B ≤ w.heap.size) (h16 : 16 ≤ n) :
    Calls Try.prog 47 #[.slice A n c] w (RetA3 w (bcs (l.take 16)) 16 0) := by
  have hl : l.length = n := by have := hr.len; simpa [bcs] using this
  have hle := hr.le
  have hd16 : (bcs (l.take 16)).length = 16 := by rw [bcs_length, List.length_take]; omega
  obtain ⟨b, off, rfl, hb, hc0⟩ := (hr.alloc hB (.cells digZero 57)).cells (by omega)
  have hc : ∀ j u, (bcs (l.take 16))[j]? = some u → (w.alloc (.cells digZero 57)).cell? ⟨b, off + j, none⟩ = some u := by
    intro j u hj
    refine hc0 j u ?_
    rw [← take_bcs, List.getElem?_take] at hj
    split at hj
    · exact hj
    · cases hj
  have harr := fun w => run_arrayAt (P := Try.prog) w (arr := 57) (e := 5) (n := 16) (len := 16) (c := c) (A := some ⟨b, off, none⟩) (by kernel_rfl) (by omega)
  have H16 := Lib.hid hd16
  have HC := Lib.hid hc
  clear hl hd16 hc hc0
  go_enter Try.func47, Try.ntmps47
  go_wp2_with (first | (with_reducible refine alAgg Try.ag_dig (wn rfl) rfl ?_) | (with_reducible refine ldAgg (.tmp 7) (bcs (l.take 16)) Try.ag_dig (wn rfl) rfl rfl H16.out HC.out ?_) | (with_reducible refine stNew (.tmp 2) (.tmp 8) Try.ag_dig (wn rfl) rfl rfl rfl Try.ag_dig.zs (by rw [List.size_toArray]; exact H16.out) (by simpa using bcs_one (l.take 16)) ?_))
  (try simp only [Exit.inBlock, Exit.then])
  refine bodyPost_ret (v := .tuple #[.agg (bcs (l.take 16)).toArray, .int .i64 16, .int .i64 0]) ?_ rfl ?_
  · exact res_cell3 (bcs (l.take 16)) Try.results47 Try.ag_dig _ rfl H16.out (cells_new _ _ _)
  · exact ⟨rfl, (Below.refl _ _).alloc (Nat.le_refl _) _⟩
end Go.Proofs.Ytelphmfdpnmncaa
