/-
  The reference's Int returns the bytes enc n, in a new row.
-/
import Derived.Test.YtpbebmbkcpdbeaaInt
namespace Go.Proofs.Ytpbebmbkcpdbeaa
open Go.RowKit

theorem int_z1 {n : Int} (h : n < 0) : Value.int .u64 ((-1 - n) * 2 + 1) = .int .u64 (zz n : Int) := by congr 1; unfold zz; rw [if_pos h]; omega
theorem int_z2 {n : Int} (h : ¬ n < 0) : Value.int .u64 (n * 2) = .int .u64 (zz n : Int) := by congr 1; unfold zz; rw [if_neg h]; omega
theorem int_bc3 (m : Nat) : Value.int .u8 ((m : Int) % 128 + 128) = bc (UInt8.ofNat (m % 128 + 128)) := by rw [← int_bc1 _ (by omega)]; congr 1

set_option maxRecDepth 100000 in
set_option maxHeartbeats 400000 in
theorem refInt_any (n : Int) (w : World) (h1 : -9223372036854775808 ≤ n) (h2 : n ≤ 9223372036854775807) :
    Calls Try.prog 22 #[.int .i64 n] w (RetRow w 5 1 (enc n).length (bcs (enc n))) := by
  have hzl := zz_lt n h1 h2
  go_enter Try.func22, Try.ntmps22
  by_cases hneg : n < 0
  all_goals
    go_wp2
    go_loopw [3, 4] (fun z v wr => ∃ (m k : Nat) (pre : List UInt8), m < 18446744073709551616 ∧ z = .int .u64 m ∧ wr.ownsRow w.heap.size 5 1 v pre.length (bcs pre) ∧ pre.length + k = 9 ∧ Hid (pre ++ encN k m = enc n) ∧ Hid (m < 128 * 128 ^ k) ∧ Below w.heap.size w wr)
      (fun z _ _ => (intOf z).toNat)
    case atStart =>
      exact ⟨zz n, 9, [], hzl, (by first | exact int_z1 hneg | exact int_z2 (by omega)), World.ownsRow_nil _ _ _ _, rfl, rfl, (by show _ < _; omega), Below.refl _ _⟩
    case round =>
      obtain ⟨m, k, pre, hm, rfl, hown, hl, he, hk, hb⟩ := hrel
      clear hneg hzl
      go_wp2_with (at_builtin; with_reducible refine app1 _ _ Try.sl_u8 (wn rfl) rfl rfl rfl hown hb (Nat.le_refl _) ?_ (by omega) (by omega) ?_)
      · rfl
      · intro v' w' h3 h4 _
        have hgt : 128 ≤ m := by omega
        obtain ⟨k', rfl, r1, r2⟩ := int_rel hgt hk.out he
        rw [int_bc3, bcs_snoc] at h3
        clear he hk hown hb
        go_wp2
        go_roundw
        case rel => exact ⟨m / 128, k', _, by omega, by go_num, ownsRow_count h3 (by simp) rfl, by simp; omega, r2, r1, h4⟩
        case measure => simp [intOf]; omega
      · rfl
      · intro v' w' h3 h4 _
        have hlt : m < 128 := by omega
        have he' := he.out
        rw [encN_last k m hlt] at he'
        rw [int_bc1 m (by omega), bcs_snoc, he'] at h3
        have hlen : pre.length + 1 = (enc n).length := by rw [← he']; simp
        have HL := Lib.hid hlen
        clear hlen he he' hk hown hb
        go_wp2
        go_ret
        exact ⟨_, rfl, ownsRow_count h3 HL.out rfl, h4⟩
end Go.Proofs.Ytpbebmbkcpdbeaa
