/-
  The coder's memory: models as blocks; new models. No statement is proved here.
-/
import Derived.Test.YtpbebmbkcpdbeaaMem
import Derived.Test.YtpbebmbkcpdbeaaCoTrip
import Derived.Test.YtpbebmbkcpdbeaaIntRef
namespace Go.Proofs.Ytpbebmbkcpdbeaa
open Go.RowKit
set_option linter.unusedVariables false

theorem Try.und_u8 : Try.prog.underlying 5 = some (.int .u8) := by kernel_rfl
theorem Try.und_str : Try.prog.underlying 9 = some .string := by kernel_rfl
/-- The cells of a model. -/
def mcs (m : List Nat) : List Value := m.map fun (n : Nat) => Value.int .i64 (n : Int)
theorem mcs_length (m : List Nat) : (mcs m).length = m.length := by unfold mcs; rw [List.length_map]
theorem mcs_get {m : List Nat} {c : Nat} (h : c < m.length) : (mcs m)[c]? = some (.int .i64 ((m.getD c 0 : Nat) : Int)) := by
  unfold mcs
  rw [List.getElem?_map, List.getElem?_eq_getElem h, List.getD_eq_getElem?_getD, List.getElem?_eq_getElem h]
  rfl
theorem mcs_set (m : List Nat) (c n : Nat) : (mcs m).set c (.int .i64 (n : Int)) = mcs (m.set c n) := by unfold mcs; rw [List.map_set]
theorem mcs_one (m : List Nat) : ∀ u ∈ mcs m, u.oneCell' = true := by
  intro u hu
  unfold mcs at hu
  obtain ⟨n, _, rfl⟩ := List.mem_map.1 hu
  rfl
def coZero : List Nat := List.replicate 256 0
theorem Try.ag_m : AgTy Try.prog 32 (mcs coZero).toArray 256 := ⟨by kernel_rfl, by kernel_rfl, by kernel_rfl⟩
theorem Try.ag_i256 : AgTy Try.prog 30 (mcs coZero).toArray 256 := ⟨by kernel_rfl, by kernel_rfl, by kernel_rfl⟩
/-- The model when k numbers are laid. -/
def coNewAt (k : Nat) : List Nat := (List.range 256).map fun c => if 1 ≤ c ∧ c ≤ k then 2048 else 0
theorem coNewAt_len (k : Nat) : (coNewAt k).length = 256 := by unfold coNewAt; rw [List.length_map, List.length_range]
theorem coNewAt_zero : coNewAt 0 = coZero := by decide +kernel
theorem coNewAt_all : coNewAt 255 = coNew := by decide +kernel
theorem coNewAt_next {k : Nat} (h : k < 255) : (coNewAt k).set (k + 1) 2048 = coNewAt (k + 1) := by
  apply List.ext_getElem?
  intro c
  rw [List.getElem?_set]
  have hl := coNewAt_len k
  by_cases e : k + 1 = c
  · subst e
    rw [if_pos rfl, if_pos (by omega)]
    unfold coNewAt
    rw [List.getElem?_map, List.getElem?_range (by omega)]
    simp
  · rw [if_neg e]
    unfold coNewAt
    rw [List.getElem?_map, List.getElem?_map]
    by_cases hc : c < 256
    · rw [List.getElem?_range hc]
      simp only [Option.map_some]
      congr 1
      by_cases h1 : 1 ≤ c ∧ c ≤ k
      · rw [if_pos h1, if_pos ⟨h1.1, by omega⟩]
      · rw [if_neg h1, if_neg (by omega)]
    · rw [List.getElem?_eq_none (by simpa using hc)]
      rfl
def RetM (w : World) (m : List Nat) : Ending → World → Prop := fun e w' => e = .returned (.agg (mcs m).toArray) ∧ Below w.heap.size w w'

set_option maxRecDepth 100000 in
set_option maxHeartbeats 1000000 in
theorem new_any (w : World) : Calls Try.prog 18 #[] w (RetM w coNew) := by
  go_enter Try.func18, Try.ntmps18
  go_wp2_with (with_reducible refine alArr (z := mcs coZero) Try.ag_m (wn rfl) rfl ?_)
  intro w1 h0 hb
  have hg : w.heap.size ≤ w.heap.size := Nat.le_refl _
  have h0' : Arr w1 w.heap.size 32 (mcs (coNewAt 0)) := by rw [coNewAt_zero]; exact h0
  clear h0
  go_wp2_with fail
  go_loopw [1] (fun c wr => ∃ k : Nat, k ≤ 255 ∧ c = .int .i64 ((k + 1 : Nat) : Int) ∧ Arr wr w.heap.size 32 (mcs (coNewAt k)) ∧ Below w.heap.size w wr) (fun c _ => 256 - (intOf c).toNat)
  case atStart => exact ⟨0, by omega, rfl, h0', hb⟩
  case round =>
    clear h0' hb
    obtain ⟨k, hk, rfl, h0, hb⟩ := hrel
    have hth := h0.thaw (k + 1)
    by_cases hlt : k < 255
    · have hc := h0.cell (i := k + 1) (mcs_get (by rw [coNewAt_len]; omega))
      have hs := h0.set (k + 1) (.int .i64 2048)
      rw [show Value.int .i64 2048 = Value.int .i64 ((2048 : Nat) : Int) from rfl, mcs_set, coNewAt_next hlt] at hs
      go_wp2_with fail
      go_roundw
      case rel => exact ⟨k + 1, by omega, by simp, hs, hb.setCell (p := ⟨w.heap.size, k + 1, none⟩) (Nat.le_refl _) _⟩
      case measure => simp [intOf]; omega
    · obtain rfl : k = 255 := by omega
      rw [coNewAt_all] at h0
      have HL := Lib.hid (show (mcs coNew).length = 256 by rw [mcs_length]; exact coNew_len)
      go_wp2_with (first | (with_reducible refine ldArr (.tmp 0) Try.ag_m (wn rfl) rfl rfl HL.out h0 ?_) | (with_reducible refine stArr (cs := mcs coNew) (.tmp 0) (.tmp 8) Try.ag_m (wn rfl) rfl rfl rfl h0 HL.out HL.out (mcs_one _) ?_))
      intro w3 h3 _ hbel
      go_wp2_with fail
      refine bodyPost_ret (v := .agg (mcs coNew).toArray) ?_ rfl ⟨rfl, hb.trans (hbel _ (Nat.le_refl _))⟩
      exact res_cell1 _ Try.results18 Try.ag_m _ rfl HL.out (fun j u hu => by rw [Nat.zero_add]; exact h3.cell hu)
end Go.Proofs.Ytpbebmbkcpdbeaa
