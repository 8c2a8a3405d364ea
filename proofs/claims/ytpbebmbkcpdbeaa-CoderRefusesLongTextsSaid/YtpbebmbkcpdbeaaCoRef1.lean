/-
  The reference's small functions: bit, learn, New. No statement is proved here.
-/
import Derived.Test.YtpbebmbkcpdbeaaCoBits
namespace Go.Proofs.Ytpbebmbkcpdbeaa
open Go.RowKit
set_option linter.unusedVariables false

set_option maxRecDepth 100000 in
set_option maxHeartbeats 1000000 in
theorem refBit_any (x : UInt8) (i : Nat) (w : World) (hi : i < 8) :
    Calls Try.prog 32 #[.int .u8 (x.toNat : Int), .int .i64 (i : Int)] w fun e w' => e = .returned (.int .i64 (coBit x i : Int)) ∧ w' = w := by
  have hbit := co_bit x i
  have hx := x.toNat_lt
  obtain ⟨j, hj⟩ : ∃ j : Nat, i + j = 7 := ⟨7 - i, by omega⟩
  have hji : (7 : Int) - (i : Int) = (j : Int) := by omega
  rw [show 7 - i = j by omega] at hbit
  go_enter Try.func32, Try.ntmps32
  go_wp2_with fail

  go_ret
  exact ⟨rfl, rfl⟩
set_option maxRecDepth 100000 in
set_option maxHeartbeats 1000000 in
theorem refLearn_any (p b : Nat) (w : World) (hp : 31 ≤ p ∧ p ≤ 4065) (hb : b = 0 ∨ b = 1) :
    Calls Try.prog 33 #[.int .i64 (p : Int), .int .i64 (b : Int)] w fun e w' => e = .returned (.int .i64 (coLearn p b : Int)) ∧ w' = w := by
  rcases hb with rfl | rfl
  · have e : (p : Int) - (p : Int) / 32 = ((coLearn p 0 : Nat) : Int) := by unfold coLearn; rw [if_neg (by decide)]; omega
    go_enter Try.func33, Try.ntmps33
    go_wp2_with fail
    go_ret
    exact ⟨rfl, rfl⟩
  · have e : (p : Int) + (4096 - (p : Int)) / 32 = ((coLearn p 1 : Nat) : Int) := by unfold coLearn; rw [if_pos rfl]; omega
    go_enter Try.func33, Try.ntmps33
    go_wp2_with fail
    go_ret
    exact ⟨rfl, rfl⟩
set_option maxRecDepth 100000 in
set_option maxHeartbeats 1000000 in
theorem refNew_any (w : World) : Calls Try.prog 19 #[] w (RetM w coNew) := by
  go_enter Try.func19, Try.ntmps19
  go_wp2_with (with_reducible refine alArr (z := mcs coZero) Try.ag_i256 (wn rfl) rfl ?_)
  intro w0 h0 b0
  go_wp2_with (with_reducible refine alArr (z := mcs coZero) Try.ag_i256 (wn rfl) rfl ?_)
  intro w1 h1 b1
  have l0 := h0.lt
  have hne : w.heap.size ≠ w0.heap.size := by omega
  have hle : w.heap.size ≤ w0.heap.size := b0.size
  replace h0 := h0.below b1 l0
  have hb := b0.trans (b1.mono hle)
  clear b0 b1
  generalize w0.heap.size = g1 at *
  have h1' : Arr w1 g1 30 (mcs (coNewAt 0)) := by rw [coNewAt_zero]; exact h1
  clear h1
  go_wp2_with fail
  go_loopw [2] (fun c wr => ∃ k : Nat, k ≤ 255 ∧ c = .int .i64 ((k + 1 : Nat) : Int) ∧ Arr wr g1 30 (mcs (coNewAt k)) ∧ Arr wr w.heap.size 30 (mcs coZero) ∧ Below w.heap.size w wr) (fun c _ => 256 - (intOf c).toNat)
  case atStart => exact ⟨0, by omega, rfl, h1', h0, hb⟩
  case round =>
    clear h1' h0 hb
    obtain ⟨k, hk, rfl, h1, h0, hb⟩ := hrel
    have hth := h1.thaw (k + 1)
    by_cases hlt : k < 255
    · have hc := h1.cell (i := k + 1) (mcs_get (by rw [coNewAt_len]; omega))
      have hs := h1.set (k + 1) (.int .i64 2048)
      rw [show Value.int .i64 2048 = Value.int .i64 ((2048 : Nat) : Int) from rfl, mcs_set, coNewAt_next hlt] at hs
      go_wp2_with fail
      go_roundw
      case rel => exact ⟨k + 1, by omega, by simp, hs, h0.other (fun e => hne e.symm) (k + 1) _, hb.setCell (p := ⟨g1, k + 1, none⟩) hle _⟩
      case measure => simp [intOf]; omega
    · obtain rfl : k = 255 := by omega
      rw [coNewAt_all] at h1
      have HL := Lib.hid (show (mcs coNew).length = 256 by rw [mcs_length]; exact coNew_len)
      go_wp2_with (first | (with_reducible refine ldArr (.tmp 1) Try.ag_i256 (wn rfl) rfl rfl HL.out h1 ?_) | (with_reducible refine stArr (cs := mcs coNew) (.tmp 0) (.tmp 9) Try.ag_i256 (wn rfl) rfl rfl rfl h0 (by kernel_rfl) HL.out (mcs_one _) ?_))
      intro w3 h3 _ hbel
      go_wp2_with fail
      refine bodyPost_ret (v := .agg (mcs coNew).toArray) ?_ rfl ⟨rfl, hb.trans (hbel _ (Nat.le_refl _))⟩
      exact res_cell1 _ Try.results19 Try.ag_i256 _ rfl HL.out (fun j u hu => by rw [Nat.zero_add]; exact h3.cell hu)
end Go.Proofs.Ytpbebmbkcpdbeaa
