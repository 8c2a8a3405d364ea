/-
  wire.Int and the reference's Int return the bytes enc n, in a new row.
-/
import Derived.Test.YtpbebmbkcpdbeaaRows
import Derived.Test.YtpbebmbkcpdbeaaBase
import Derived.Test.YtpbebmbkcpdbeaaWireSpec
namespace Go.Proofs.Ytpbebmbkcpdbeaa
open Go.RowKit

theorem Try.sl_u8 : SlTy Try.prog 29 5 (.int .u8 0) 1 1 := ⟨by kernel_rfl, by kernel_rfl, rfl, by decide⟩

theorem int_rel {n : Int} {pre : List UInt8} {m k : Nat} (hm : 128 ≤ m) (hm2 : m < 128 * 128 ^ k) (he : Hid (pre ++ encN k m = enc n)) :
    ∃ k', k = k' + 1 ∧ m / 128 < 128 * 128 ^ k' ∧ Hid ((pre ++ [UInt8.ofNat (m % 128 + 128)]) ++ encN k' (m / 128) = enc n) := by
  cases k with
  | zero => omega
  | succ k =>
    refine ⟨k, rfl, ?_, ?_⟩
    · rw [Nat.pow_succ] at hm2; omega
    · have h := he.out
      rw [encN_step k m hm] at h
      show _ = _
      rw [← h]; simp
theorem int_bc1 (m : Nat) (h : m < 256) : Value.int .u8 (m : Int) = bc (UInt8.ofNat m) := by unfold bc; rw [ofNat_toNat8 m h]
theorem int_bc2 (m : Nat) : Value.int .u8 (bits .or .u8 ((m : Int) % 256) 128) = bc (UInt8.ofNat (m % 128 + 128)) := by rw [u8_or_128, int_bc1 _ (by omega)]
theorem bcs_snoc (l : List UInt8) (b : UInt8) : bcs l ++ [bc b] = bcs (l ++ [b]) := by simp [bcs]

set_option maxHeartbeats 400000 in
theorem int_any (n : Int) (w : World) (h1 : -9223372036854775808 ≤ n) (h2 : n ≤ 9223372036854775807) :
    Calls Try.prog 24 #[.int .i64 n] w (RetRow w 5 1 (enc n).length (bcs (enc n))) := by
  have hz := zz_bits n h1 h2
  have hzl := zz_lt n h1 h2
  go_enter Try.func24, Try.ntmps24
  go_wp2
  go_loopw [3, 4] (fun z v wr => ∃ (m k : Nat) (pre : List UInt8), m < 18446744073709551616 ∧ z = .int .u64 m ∧ wr.ownsRow w.heap.size 5 1 v pre.length (bcs pre) ∧ pre.length + k = 9 ∧ Hid (pre ++ encN k m = enc n) ∧ Hid (m < 128 * 128 ^ k) ∧ Below w.heap.size w wr)
    (fun z _ _ => (intOf z).toNat)
  case atStart =>
    exact ⟨zz n, 9, [], hzl, by first | rw [hz] | rfl, World.ownsRow_nil _ _ _ _, rfl, rfl, (by show _ < _; omega), Below.refl _ _⟩
  case round =>
    obtain ⟨m, k, pre, hm, rfl, hown, hl, he, hk, hb⟩ := hrel
    go_wp2_with (at_builtin; with_reducible refine app1 _ _ Try.sl_u8 (wn rfl) rfl rfl rfl hown hb (Nat.le_refl _) ?_ (by omega) (by omega) ?_)
    · rfl
    · intro v' w' h3 h4 _
      have hgt : 128 ≤ m := by omega
      obtain ⟨k', rfl, r1, r2⟩ := int_rel hgt hk.out he
      rw [int_bc2, bcs_snoc] at h3
      clear he hk hown hb hz
      go_wp2
      go_roundw
      case rel => exact ⟨m / 128, k', _, by omega, by go_num, ownsRow_count h3 (by simp) rfl, by simp; omega, r2, r1, h4⟩
      case measure => simp [intOf]; omega
    · rfl
    · intro v' w' h3 h4 _
      have hlt : m < 128 := by omega
      have he' := he.out
      rw [encN_last k m hlt] at he'
      rw [int_bc1 m (by omega), bcs_snoc, he'] at h3
      have hlen : pre.length + 1 = (enc n).length := by rw [← he']; simp
      have HL := Lib.hid hlen
      clear hlen he he' hk hown hb hz
      go_wp2
      go_ret
      exact ⟨_, rfl, ownsRow_count h3 HL.out rfl, h4⟩
end Go.Proofs.Ytpbebmbkcpdbeaa
