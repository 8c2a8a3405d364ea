/-
  Plain functions for the wire encoding: what encoding and decoding compute, on integers and lists of bytes. No program in sight.
-/
import Derived.Test.YtpbebmbkcpdbeaaBits
namespace Go.Proofs.Ytpbebmbkcpdbeaa
open Go.RowKit

/-- The number that an integer is encoded as. -/
def zz (n : Int) : Nat := if n < 0 then (2 * (-1 - n) + 1).toNat else (2 * n).toNat
def unzz (z : Nat) : Int := if z % 2 = 1 then -1 - ((z / 2 : Nat) : Int) else ((z / 2 : Nat) : Int)
def encN : Nat → Nat → List UInt8
  | 0, z => [UInt8.ofNat z]
  | k + 1, z => if z < 128 then [UInt8.ofNat z] else UInt8.ofNat (z % 128 + 128) :: encN k (z / 128)
def enc (n : Int) : List UInt8 := encN 9 (zz n)

theorem zz_lt (n : Int) (h1 : -9223372036854775808 ≤ n) (h2 : n ≤ 9223372036854775807) : zz n < 18446744073709551616 := by unfold zz; split <;> omega
theorem unzz_zz (n : Int) : unzz (zz n) = n := by unfold zz unzz; split <;> split <;> omega
theorem zz_unzz (z : Nat) : zz (unzz z) = z := by unfold unzz zz; split <;> split <;> omega
theorem unzz_lo (z : Nat) (h : z < 18446744073709551616) : -9223372036854775808 ≤ unzz z := by unfold unzz; split <;> omega
theorem unzz_hi (z : Nat) (h : z < 18446744073709551616) : unzz z ≤ 9223372036854775807 := by unfold unzz; split <;> omega

theorem encN_pos (k z : Nat) : 0 < (encN k z).length := by
  cases k with
  | zero => simp [encN]
  | succ k => unfold encN; split <;> simp
theorem encN_len (k : Nat) : ∀ z, (encN k z).length ≤ k + 1 := by
  induction k with
  | zero => intro z; simp [encN]
  | succ k ih => intro z; unfold encN; split <;> simp; exact ih _
theorem enc_len (n : Int) : (enc n).length ≤ 10 := encN_len 9 _
theorem enc_pos (n : Int) : 0 < (enc n).length := encN_pos 9 _
/-- The number as the program makes it. -/
theorem zz_bits (n : Int) (h1 : -9223372036854775808 ≤ n) (h2 : n ≤ 9223372036854775807) :
    bits .xor .u64 (IntKind.u64.wrap (IntKind.u64.wrap n * 2)) (IntKind.u64.wrap (n / 9223372036854775808)) = (zz n : Int) := by
  simp only [IntKind.wrap_u64]
  by_cases h : 0 ≤ n
  · have e1 : n % 18446744073709551616 * 2 % 18446744073709551616 = ((2 * n).toNat : Nat) := by omega
    have e2 : n / 9223372036854775808 % 18446744073709551616 = ((0 : Nat) : Int) := by omega
    rw [e1, e2, u64_xor_n _ _ (by omega) (by omega), Nat.xor_zero]
    unfold zz
    rw [if_neg (by omega)]
  · have e1 : n % 18446744073709551616 * 2 % 18446744073709551616 = ((2 * n + 18446744073709551616).toNat : Nat) := by omega
    have e2 : n / 9223372036854775808 % 18446744073709551616 = ((2 ^ 64 - 1 : Nat) : Int) := by omega
    rw [e1, e2, u64_xor_n _ _ (by omega) (by omega), nat_xor_ones 64 _ (by omega)]
    unfold zz
    rw [if_pos (by omega)]
    omega
theorem encN_step (k m : Nat) (h : 128 ≤ m) : encN (k + 1) m = UInt8.ofNat (m % 128 + 128) :: encN k (m / 128) := by rw [encN, if_neg (by omega)]
theorem encN_last (k m : Nat) (h : m < 128) : encN k m = [UInt8.ofNat m] := by
  cases k with
  | zero => rfl
  | succ k => rw [encN, if_pos h]
theorem ofNat_toNat8 (m : Nat) (h : m < 256) : (UInt8.ofNat m).toNat = m := by simp; omega
def encS (s : List UInt8) : List UInt8 := enc s.length ++ s
def encI (l : List Int) : List UInt8 := enc l.length ++ (l.map enc).flatten
def encT (l : List (List UInt8)) : List UInt8 := enc l.length ++ (l.map encS).flatten
def encD (n : Nat) (D : List UInt8) : List UInt8 := enc n ++ D
/-- A text as a value; an int. -/
def sv (s : List UInt8) : Value := .string ⟨s.toArray⟩
def iv (n : Int) : Value := .int .i64 n
def isI64 (n : Int) : Prop := -9223372036854775808 ≤ n ∧ n ≤ 9223372036854775807
theorem flat_take {α : Type} (f : α → List UInt8) (l : List α) (k : Nat) (x : α) (h : l[k]? = some x) : ((l.take (k + 1)).map f).flatten = ((l.take k).map f).flatten ++ f x := by
  have hk : k < l.length := by
    rcases Nat.lt_or_ge k l.length with hh | hh
    · exact hh
    · rw [List.getElem?_eq_none hh] at h; cases h
  have hx : l[k] = x := by rw [List.getElem?_eq_getElem hk] at h; exact Option.some.inj h
  rw [List.take_succ_eq_append_getElem hk, List.map_append, List.flatten_append, hx]
  simp
theorem flat_take_le {α : Type} (f : α → List UInt8) (l : List α) (k : Nat) : ((l.take k).map f).flatten.length ≤ (l.map f).flatten.length := by
  have e : (l.map f).flatten = ((l.take k).map f).flatten ++ ((l.drop k).map f).flatten := by
    rw [← List.flatten_append, ← List.map_append, List.take_append_drop]
  rw [e, List.length_append]; omega
end Go.Proofs.Ytpbebmbkcpdbeaa
