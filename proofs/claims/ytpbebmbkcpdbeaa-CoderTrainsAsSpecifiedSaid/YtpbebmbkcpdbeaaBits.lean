/-
  Plain laws on Go's bit operations: what they are on numbers. No program in sight.
-/
import Derived.WalkKit
import Derived.Laws.BitsAllLaws
namespace Go.Proofs.Ytpbebmbkcpdbeaa
open Go.RowKit

theorem nat_xor_ones (k a : Nat) (h : a < 2 ^ k) : a ^^^ (2 ^ k - 1) = 2 ^ k - 1 - a := by
  have e : (BitVec.ofNat k a ^^^ BitVec.allOnes k) = ~~~ BitVec.ofNat k a := by
    apply BitVec.eq_of_getLsbD_eq
    intro i hi
    simp [hi]
  have := congrArg BitVec.toNat e
  rw [BitVec.toNat_xor, BitVec.toNat_not, BitVec.toNat_allOnes, BitVec.toNat_ofNat, Nat.mod_eq_of_lt h] at this
  exact this
theorem nat_or_shift (a b i : Nat) (h : a < 2 ^ i) : a ||| b * 2 ^ i = a + b * 2 ^ i := by
  rw [Nat.or_comm, ← Nat.shiftLeft_eq, ← Nat.shiftLeft_add_eq_or_of_lt h, Nat.add_comm]
theorem ofInt_i64 (a : Nat) (ha : a < 9223372036854775808) : (BitVec.ofInt 64 (a : Int)).toNat = a := by
  rw [BitVec.ofInt_natCast, BitVec.toNat_ofNat]; exact Nat.mod_eq_of_lt (by omega)
theorem i64_and_n (a b : Nat) (ha : a < 9223372036854775808) (hb : b < 9223372036854775808) : bits .and .i64 (a : Int) (b : Int) = ((a &&& b : Nat) : Int) := by
  have hx : a &&& b < 2 ^ 63 := Nat.and_lt_two_pow _ (by omega)
  show IntKind.i64.wrap ((BitVec.ofInt 64 (a : Int) &&& BitVec.ofInt 64 (b : Int)).toNat : Int) = _
  rw [BitVec.toNat_and, ofInt_i64 a ha, ofInt_i64 b hb, IntKind.wrap_i64]
  omega
theorem i64_or_n (a b : Nat) (ha : a < 9223372036854775808) (hb : b < 9223372036854775808) : bits .or .i64 (a : Int) (b : Int) = ((a ||| b : Nat) : Int) := by
  have hx : a ||| b < 2 ^ 63 := Nat.or_lt_two_pow (by omega) (by omega)
  show IntKind.i64.wrap ((BitVec.ofInt 64 (a : Int) ||| BitVec.ofInt 64 (b : Int)).toNat : Int) = _
  rw [BitVec.toNat_or, ofInt_i64 a ha, ofInt_i64 b hb, IntKind.wrap_i64]
  omega
theorem i64_xor_n (a b : Nat) (ha : a < 9223372036854775808) (hb : b < 9223372036854775808) : bits .xor .i64 (a : Int) (b : Int) = ((a ^^^ b : Nat) : Int) := by
  have hx : a ^^^ b < 2 ^ 63 := Nat.xor_lt_two_pow (by omega) (by omega)
  show IntKind.i64.wrap ((BitVec.ofInt 64 (a : Int) ^^^ BitVec.ofInt 64 (b : Int)).toNat : Int) = _
  rw [BitVec.toNat_xor, ofInt_i64 a ha, ofInt_i64 b hb, IntKind.wrap_i64]
  omega
/-- 'x ^ -1' of an int. -/
theorem i64_xor_m1 (a : Int) (h1 : -9223372036854775808 ≤ a) (h2 : a ≤ 9223372036854775807) : bits .xor .i64 a (-1) = -1 - a := by
  show IntKind.i64.wrap ((BitVec.ofInt 64 a ^^^ BitVec.ofInt 64 (-1)).toNat : Int) = _
  have e : (BitVec.ofInt 64 (-1)) = BitVec.allOnes 64 := by decide
  have e2 : BitVec.ofInt 64 a ^^^ BitVec.allOnes 64 = ~~~ BitVec.ofInt 64 a := BitVec.xor_allOnes
  rw [e, e2, BitVec.toNat_not, BitVec.toNat_ofInt, IntKind.wrap_i64]
  omega
theorem u64_xor_n (a b : Nat) (ha : a < 18446744073709551616) (hb : b < 18446744073709551616) : bits .xor .u64 (a : Int) (b : Int) = ((a ^^^ b : Nat) : Int) := u64_xor_nat a b ha hb
theorem u8_and127 (a : UInt8) : bits .and .u8 (a.toNat : Int) 127 = ((a.toNat % 128 : Nat) : Int) := by
  have h := u8_and_nat a.toNat 127 (by have := a.toNat_lt; omega) (by omega)
  have e : a.toNat &&& 127 = a.toNat % 128 := Nat.and_two_pow_sub_one_eq_mod a.toNat 7
  rw [← e]; exact h
theorem u8_or_128 (m : Nat) : bits .or .u8 ((m : Int) % 256) 128 = ((m % 128 + 128 : Nat) : Int) := by
  have h := u8_or_nat (m % 256) 128 (by omega) (by omega)
  have e : m % 256 ||| 128 = m % 128 + 128 := by
    have h1 : m % 256 = m % 128 + (m / 128 % 2) * 2 ^ 7 := by omega
    rw [h1, ← nat_or_shift (m % 128) (m / 128 % 2) 7 (by omega), Nat.or_assoc]
    have h2 : (m / 128 % 2) * 2 ^ 7 ||| 128 = 128 := by
      rcases Nat.mod_two_eq_zero_or_one (m / 128) with h | h <;> rw [h] <;> decide
    rw [h2]
    exact nat_or_shift (m % 128) 1 7 (by omega)
  rw [← e]
  have c : ((m % 256 : Nat) : Int) = (m : Int) % 256 := by omega
  rw [← c]
  exact h
end Go.Proofs.Ytpbebmbkcpdbeaa
