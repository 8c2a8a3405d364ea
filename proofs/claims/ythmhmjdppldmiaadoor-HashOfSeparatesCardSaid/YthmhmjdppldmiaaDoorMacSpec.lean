/-
  The code of a text with a key, as plain functions. No program in sight.
-/
import Derived.Test.YthmhmjdppldmiaaDoorBytes
namespace Go.Proofs.YthmhmjdppldmiaaDoor
open Go.RowKit

def keyPad (k : List UInt8) : List UInt8 := k ++ List.replicate (64 - k.length) 0
def xorPad (k : List UInt8) (x : UInt8) : List UInt8 := (keyPad k).map (· ^^^ x)
def macKey (k : List UInt8) : List UInt8 := if 64 < k.length then sha k else k
def mac (k t : List UInt8) : List UInt8 := sha (xorPad (macKey k) 92 ++ sha (xorPad (macKey k) 54 ++ t))
theorem sha_len (l : List UInt8) : (sha l).length = 32 := outOf_len _
theorem macKey_le (k : List UInt8) : (macKey k).length ≤ 64 := by
  unfold macKey
  by_cases h : 64 < k.length
  · rw [if_pos h, sha_len]; omega
  · rw [if_neg h]; omega
theorem keyPad_len {k : List UInt8} (h : k.length ≤ 64) : (keyPad k).length = 64 := by unfold keyPad; simp; omega
theorem xorPad_len {k : List UInt8} (x : UInt8) (h : k.length ≤ 64) : (xorPad k x).length = 64 := by unfold xorPad; rw [List.length_map, keyPad_len h]
/-- The first i bytes are combined. -/
def xorTo (k : List UInt8) (x : UInt8) (i : Nat) : List UInt8 := ((keyPad k).take i).map (· ^^^ x) ++ (keyPad k).drop i
theorem xorTo_0 (k : List UInt8) (x : UInt8) : xorTo k x 0 = keyPad k := by simp [xorTo]
theorem xorTo_64 {k : List UInt8} (x : UInt8) (h : k.length ≤ 64) : xorTo k x 64 = xorPad k x := by
  unfold xorTo xorPad
  rw [List.take_of_length_le (by rw [keyPad_len h]; omega), List.drop_of_length_le (by rw [keyPad_len h]; omega), List.append_nil]
theorem xorTo_len {k : List UInt8} (x : UInt8) {i : Nat} (h : k.length ≤ 64) (hi : i ≤ 64) : (xorTo k x i).length = 64 := by
  unfold xorTo
  rw [List.length_append, List.length_map, List.length_take, List.length_drop, keyPad_len h]
  omega
theorem xorTo_at {k : List UInt8} (x : UInt8) {i : Nat} {b : UInt8} (hb : (keyPad k)[i]? = some b) : (xorTo k x i)[i]? = some b := by
  have hi := (List.getElem?_eq_some_iff.1 hb).1
  unfold xorTo
  rw [List.getElem?_append_right (by rw [List.length_map, List.length_take]; omega), List.length_map, List.length_take, Nat.min_eq_left (by omega), Nat.sub_self, List.getElem?_drop, Nat.add_zero, hb]
theorem xorTo_next {k : List UInt8} (x : UInt8) {i : Nat} {b : UInt8} (hb : (keyPad k)[i]? = some b) : (bcs (xorTo k x i)).set i (bc (b ^^^ x)) = bcs (xorTo k x (i + 1)) := by
  have hi := (List.getElem?_eq_some_iff.1 hb).1
  have e1 : xorTo k x i = ((keyPad k).take i).map (· ^^^ x) ++ b :: (keyPad k).drop (i + 1) := by
    unfold xorTo
    congr 1
    rw [List.drop_eq_getElem_cons hi]
    congr 1
    rw [List.getElem?_eq_getElem hi] at hb
    exact Option.some.inj hb
  have e2 : xorTo k x (i + 1) = ((keyPad k).take i).map (· ^^^ x) ++ (b ^^^ x) :: (keyPad k).drop (i + 1) := by
    unfold xorTo
    rw [← take_next hb]
    simp
  have e5 : ∀ (p q : List Value) (x y : Value), (p ++ x :: q).set p.length y = p ++ y :: q := by
    intro p q x y
    induction p with
    | nil => rfl
    | cons a p ih => simp
  have hl : (bcs (((keyPad k).take i).map (· ^^^ x))).length = i := by rw [bcs_length, List.length_map, List.length_take]; omega
  rw [e1, e2, bcs_append, bcs_append]
  have h3 := e5 (bcs (((keyPad k).take i).map (· ^^^ x))) (bcs ((keyPad k).drop (i + 1))) (bc b) (bc (b ^^^ x))
  rw [hl] at h3
  exact h3
theorem xor_bc (b x : UInt8) : Value.int .u8 (bits .xor .u8 (b.toNat : Int) (x.toNat : Int)) = bc (b ^^^ x) := by
  rw [u8_xor_n _ _ b.toNat_lt x.toNat_lt]
  unfold bc
  rw [UInt8.toNat_xor]
/-- A text's bytes at the head of zeros. -/
theorem spl_zeros (k : List UInt8) (h : k.length ≤ 64) : spl (zerosB 64) 0 (bcs (k.take 64)) = bcs (keyPad k) := by
  unfold spl keyPad zerosB
  rw [List.take_of_length_le h, List.take_zero, List.nil_append, Nat.zero_add, bcs_append, bcs_length, List.drop_replicate]
  congr 1
  simp [bcs, bc]
end Go.Proofs.YthmhmjdppldmiaaDoor
