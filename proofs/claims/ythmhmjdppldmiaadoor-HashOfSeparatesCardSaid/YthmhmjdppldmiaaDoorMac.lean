/-
  hash.Mac returns the code; its closure the padded key.
-/
import Derived.Test.YthmhmjdppldmiaaDoorMacSpec
import Derived.Test.YthmhmjdppldmiaaDoorFloat
namespace Go.Proofs.YthmhmjdppldmiaaDoor
open Go.RowKit

theorem Tryd.ag_b64 : AgTy Tryd.prog 31 (zerosB 64).toArray 64 := ⟨by kernel_rfl, by kernel_rfl, by simp [zerosB]⟩
set_option maxRecDepth 100000 in
set_option maxHeartbeats 1000000 in
theorem macPad_any (k : List UInt8) (x : UInt8) (b : Nat) (w : World) (hk : k.length ≤ 64) (hA : Arr w b 9 [sv k]) :
    Calls Tryd.prog 31 #[.int .u8 (x.toNat : Int), .pointer (some ⟨b, 0, none⟩)] w fun e w' => e = .returned (sv (xorPad k x)) ∧ Below w.heap.size w w' := by
  have hb := Below.refl w.heap.size w
  go_enter Tryd.func31, Tryd.ntmps31
  go_wp2_with (first | (with_reducible refine alArr (z := zerosB 64) Tryd.ag_b64 (wn rfl) rfl ?_))
  intro w1 h4 hb1
  have hlt := hA.lt
  replace hA := hA.below hb1 hA.lt
  replace hb := hb.trans (hb1.mono hb.size)
  clear hb1
  have hx := x.toNat_lt
  go_wp2_with fail
  refine rgStart (fun _ => True) (by kernel_rfl) ?_
  refine rgTake (i := 0) (v := .slice (some ⟨w.heap.size, 0, none⟩) 64 64) rfl (by kernel_rfl) (wn rfl) (fun _ _ _ h => h) (fun w _ => by kernel_rfl) trivial ?_
  refine rgNext (i := 1) (by kernel_rfl) rfl ?_
  replace hA := hA.drew
  replace h4 := h4.drew
  replace hb := hb.drew
  have ck : w1.drew.cell? ⟨b, 0, none⟩ = some (.string ⟨k.toArray⟩) := hA.cell (i := 0) rfl
  go_wp2_with fail
  refine ⟨trivial, ?_⟩
  refine rgNext (S := fun _ => True) (i := 2) (by kernel_rfl) rfl ?_
  refine cpStr (g := w.heap.size) (off := 0) (dl := 64) (dc := 64) (.tmp 6) (.tmp 7) k Tryd.sl_u8.und Tryd.one_u8 (wn rfl) rfl (by kernel_rfl) (by kernel_rfl) h4 (by simp [zerosB]) ?_
  intro w5 h4 hkeep hbel
  rw [spl_zeros k hk, ← xorTo_0 k x] at h4
  replace hb := hb.trans (hbel _ (Nat.le_refl _))
  clear hkeep hbel ck hA
  refine rgBack trivial ?_
  refine rgDone (by kernel_rfl) ?_
  simp only [Act.put, List.setIfInBounds_toArray, List.set_cons_succ, List.set_cons_zero]
  have HK := Lib.hid (fun (i : Nat) (b : UInt8) (h : (keyPad k)[i]? = some b) => xorTo_next x h)
  go_wp2_with fail
  go_loopw [9] (fun iv_ wr => ∃ i : Nat, i ≤ 64 ∧ iv_ = .int .i64 i ∧ Arr wr w.heap.size 31 (bcs (xorTo k x i)) ∧ Below w.heap.size w wr) (fun iv_ _ => 64 - (intOf iv_).toNat)
  case atStart => exact ⟨0, by omega, rfl, h4, hb⟩
  case round =>
    clear h4 hb
    obtain ⟨i, hi, rfl, h4, hb⟩ := hrel
    by_cases hlt2 : i < 64
    · obtain ⟨y, hy, _⟩ := bcs_at (l := keyPad k) (i := i) (by rw [keyPad_len hk]; exact hlt2)
      have c1 : wr.cell? ⟨w.heap.size, i, none⟩ = some (.int .u8 (y.toNat : Int)) := h4.cell (by unfold bcs; rw [List.getElem?_map, xorTo_at x hy]; rfl)
      have f1 := h4.thaw i
      have hnx := HK.out i y hy
      have HNX := Lib.hid hnx
      have xy := y.toNat_lt
      clear hnx hy
      go_wp2_with fail
      rw [xor_bc]
      go_roundw
      case rel =>
        refine ⟨i + 1, by omega, by go_num, ?_, hb.setCell (p := ⟨w.heap.size, i, none⟩) (Nat.le_refl _) _⟩
        rw [← HNX.out]
        exact h4.set i _
      case measure => (simp [intOf]; try omega)
    · obtain rfl : i = 64 := by omega
      rw [xorTo_64 x hk] at h4
      have hrd : Rd wr wr.heap.size 1 (some ⟨w.heap.size, 0, none⟩) 64 64 (bcs (xorPad k x)) := rd_of_arr h4 (fun _ _ h => h) (by rw [bcs_length, xorPad_len x hk]) (Nat.le_refl _) (by unfold maxLen; omega) h4.lt
      go_wp2_with (first | (with_reducible refine slPtr (.tmp 4) Tryd.arr_b64 Tryd.one_u8 (by omega) (wn rfl) rfl rfl ?_) | (with_reducible refine convStr (.tmp 19) (xorPad k x) Tryd.sl_u8.und Tryd.und_u8 Tryd.und_str (wn rfl) rfl rfl hrd ?_))
      go_wp2_with fail
      go_ret
      exact ⟨rfl, hb⟩
end Go.Proofs.YthmhmjdppldmiaaDoor
