/-
  Plain functions for decoding: what GetInt and its like compute, on lists of bytes. No program in sight.
-/
import Derived.Test.YtpbebmbkcpdbeaaWireSpec
namespace Go.Proofs.Ytpbebmbkcpdbeaa
open Go.RowKit

def decGo : List UInt8 → Nat → Nat → Int × Int × Int
  | [], _, _ => (0, 0, 5)
  | c :: t, k, z => if (k = 9 ∧ 1 < c.toNat) ∨ (0 < k ∧ c.toNat = 0) then (0, 0, 6) else
    if c.toNat < 128 then (unzz (z + c.toNat % 128 * 128 ^ k), (k : Int) + 1, 0) else decGo t (k + 1) (z + c.toNat % 128 * 128 ^ k)
def dec (l : List UInt8) : Int × Int × Int := decGo l 0 0

theorem pow7 (k : Nat) : (128 : Nat) ^ k = 2 ^ (7 * k) := by rw [Nat.pow_mul]
theorem pow7_le {k : Nat} (h : k ≤ 8) : (128 : Nat) ^ k ≤ 72057594037927936 := Nat.le_trans (Nat.pow_le_pow_right (by omega) h) (by decide)
theorem get_or (x : UInt8) (z k : Nat) (hk : k < 9 ∨ (k ≤ 9 ∧ x.toNat ≤ 1)) (hz : z < 128 ^ k) :
    z + x.toNat % 128 * 128 ^ k < 18446744073709551616 ∧
    bits .or .u64 (z : Int) (IntKind.u64.wrap (IntKind.u64.wrap (bits .and .u8 (x.toNat : Int) 127) * 2 ^ (7 * k))) = ((z + x.toNat % 128 * 128 ^ k : Nat) : Int) := by
  have hprod : x.toNat % 128 * 128 ^ k ≤ 9223372036854775808 ∧ 128 ^ k ≤ 9223372036854775808 ∧ z + x.toNat % 128 * 128 ^ k < 18446744073709551616 := by
    rcases hk with hk | ⟨hk, hx⟩
    · have h1 := pow7_le (k := k) (by omega)
      have h2 : x.toNat % 128 * 128 ^ k ≤ 127 * 72057594037927936 := Nat.mul_le_mul (by omega) h1
      omega
    · have h1 : (128 : Nat) ^ k ≤ 9223372036854775808 := Nat.le_trans (Nat.pow_le_pow_right (by omega) hk) (by decide)
      have h2 : x.toNat % 128 * 128 ^ k ≤ 1 * 9223372036854775808 := Nat.mul_le_mul (by omega) h1
      omega
  refine ⟨hprod.2.2, ?_⟩
  rw [u8_and127, IntWalk.u64_in ((x.toNat % 128 : Nat) : Int) ⟨by omega, by omega⟩]
  have e : ((x.toNat % 128 : Nat) : Int) * 2 ^ (7 * k) = ((x.toNat % 128 * 128 ^ k : Nat) : Int) := by rw [pow7]; simp
  rw [e, IntWalk.u64_in _ ⟨by omega, by omega⟩, u64_or_nat _ _ (by omega) (by omega), pow7, nat_or_shift _ _ _ (by rw [← pow7]; exact hz)]
theorem get_and1 (Z : Nat) (h : Z < 18446744073709551616) : bits .and .u64 (Z : Int) 1 = (Z : Int) % 2 := by
  have h := u64_and_nat Z 1 h (by omega)
  rw [Nat.and_one_is_mod] at h
  exact h
theorem get_unzz (Z : Nat) (h : Z < 18446744073709551616) : bits .xor .i64 ((Z : Int) / 2) (-((Z : Int) % 2)) = unzz Z := by
  unfold unzz
  rcases Nat.mod_two_eq_zero_or_one Z with h0 | h0
  · rw [show (Z : Int) % 2 = 0 from by omega, if_neg (by omega)]
    have : bits .xor .i64 ((Z / 2 : Nat) : Int) ((0 : Nat) : Int) = _ := i64_xor_n (Z / 2) 0 (by omega) (by omega)
    rw [Nat.xor_zero] at this
    exact_mod_cast this
  · rw [show (Z : Int) % 2 = 1 from by omega, if_pos h0]
    have := i64_xor_m1 ((Z : Int) / 2) (by omega) (by omega)
    exact_mod_cast this
theorem dec_lt (l : List UInt8) (k : Nat) (x : UInt8) (h : l[k]? = some x) : l.drop k = x :: l.drop (k + 1) := by
  have hk : k < l.length := by
    rcases Nat.lt_or_ge k l.length with hh | hh
    · exact hh
    · rw [List.getElem?_eq_none hh] at h; cases h
  rw [List.drop_eq_getElem_cons hk]
  rw [List.getElem?_eq_getElem hk] at h
  rw [Option.some.inj h]
theorem dec_bad {l : List UInt8} {k z : Nat} {x : UInt8} {r : Int × Int × Int} (hx : l[k]? = some x) (hd : decGo (l.drop k) k z = r) (h : (9 ≤ k ∧ 1 < x.toNat ∧ k ≤ 9) ∨ (1 ≤ k ∧ x.toNat < 1)) : r = (0, 0, 6) := by
  rw [dec_lt l k x hx, decGo, if_pos (by omega)] at hd
  exact hd.symm
theorem dec_fin {l : List UInt8} {k z : Nat} {x : UInt8} {r : Int × Int × Int} (hx : l[k]? = some x) (hd : decGo (l.drop k) k z = r) (h : (k < 9 ∨ x.toNat ≤ 1) ∧ (k < 1 ∨ 0 < x.toNat)) (h2 : x.toNat < 128) :
    r = (unzz (z + x.toNat % 128 * 128 ^ k), (k : Int) + 1, 0) := by
  rw [dec_lt l k x hx, decGo, if_neg (by omega), if_pos h2] at hd
  exact hd.symm
theorem dec_more {l : List UInt8} {k z : Nat} {x : UInt8} {r : Int × Int × Int} (hx : l[k]? = some x) (hd : decGo (l.drop k) k z = r) (h : (k < 9 ∨ x.toNat ≤ 1) ∧ (k < 1 ∨ 0 < x.toNat)) (h2 : ¬ x.toNat < 128) :
    decGo (l.drop (k + 1)) (k + 1) (z + x.toNat % 128 * 128 ^ k) = r := by
  rw [dec_lt l k x hx, decGo, if_neg (by omega), if_neg h2] at hd
  exact hd
/-- The number that the low bits of the first k bytes make. -/
def valTo (l : List UInt8) : Nat → Nat
  | 0 => 0
  | k + 1 => valTo l k + (l.getD k 0).toNat % 128 * 128 ^ k
theorem valTo_lt (l : List UInt8) : ∀ k, valTo l k < 128 ^ k
  | 0 => by simp [valTo]
  | k + 1 => by
    have h := valTo_lt l k
    rw [valTo, Nat.pow_succ]
    have h2 : (l.getD k 0).toNat % 128 * 128 ^ k ≤ 127 * 128 ^ k := Nat.mul_le_mul_right _ (by omega)
    omega
theorem valTo_succ {l : List UInt8} {k : Nat} {x : UInt8} (h : l[k]? = some x) : valTo l (k + 1) = valTo l k + x.toNat % 128 * 128 ^ k := by
  rw [valTo, List.getD, h]; rfl
/-- What holds when the first k bytes have been found to go on. -/
def Lead (l : List UInt8) (k : Nat) : Prop := (k ≤ 9 → decGo (l.drop k) k (valTo l k) = dec l) ∧ (10 ≤ k → dec l = (0, 0, 6))
theorem lead_0 (l : List UInt8) : Lead l 0 := ⟨fun _ => rfl, fun h => absurd h (by omega)⟩
theorem lead_step {l : List UInt8} {k : Nat} {x : UInt8} (hk : k < 10) (hx : l[k]? = some x) (h2 : 128 ≤ x.toNat) (h : Lead l k) : Lead l (k + 1) := by
  refine ⟨fun h9 => ?_, fun h10 => ?_⟩
  · rw [valTo_succ hx]
    exact dec_more hx (h.1 (by omega)) ⟨by omega, by omega⟩ (by omega)
  · exact dec_bad hx (h.1 (by omega)) (by omega)
theorem lead_end {l : List UInt8} (h : Lead l l.length) (hl : l.length ≤ 9) : dec l = (0, 0, 5) := by
  rw [← h.1 hl, List.drop_length]; rfl
/-- The reference's way from the last byte to the first. -/
def Horner (l : List UInt8) (k m acc : Nat) : Prop := acc * 128 ^ m + valTo l m = valTo l k
theorem horner_step {l : List UInt8} {k m acc : Nat} {x : UInt8} (hx : l[m]? = some x) (h : Horner l k (m + 1) acc) : Horner l k m (acc * 128 + x.toNat % 128) := by
  unfold Horner at h ⊢
  rw [valTo_succ hx, Nat.pow_succ] at h
  rw [← h, Nat.add_mul, Nat.mul_assoc, Nat.mul_comm 128 (128 ^ m)]
  omega
theorem horner_le {l : List UInt8} {k m acc : Nat} (h : Horner l k m acc) : acc ≤ valTo l k := by
  unfold Horner at h
  have h1 : acc * 1 ≤ acc * 128 ^ m := Nat.mul_le_mul_left _ (Nat.one_le_pow _ _ (by omega))
  omega
theorem valTo_bound {l : List UInt8} {k : Nat} {x : UInt8} (hk : k < 9 ∨ (k ≤ 9 ∧ x.toNat ≤ 1)) (hx : l[k]? = some x) : valTo l (k + 1) < 18446744073709551616 := by
  rw [valTo_succ hx]
  exact (get_or x (valTo l k) k hk (valTo_lt l k)).1
theorem dec_step_lt (x : UInt8) (z k : Nat) (hz : z < 128 ^ k) : z + x.toNat % 128 * 128 ^ k < 128 ^ (k + 1) := by
  rw [Nat.pow_succ]
  have h : x.toNat % 128 * 128 ^ k ≤ 127 * 128 ^ k := Nat.mul_le_mul_right _ (by omega)
  omega

theorem decGo_facts : ∀ (l : List UInt8) (k z : Nat) (n u e : Int), k ≤ 9 → z < 128 ^ k → decGo l k z = (n, u, e) → (e = 0 ∧ (k : Int) + 1 ≤ u ∧ u ≤ 10 ∧ u ≤ k + l.length ∧ isI64 n) ∨ (n = 0 ∧ u = 0 ∧ (e = 5 ∨ e = 6))
  | [], k, z, n, u, e, hk, hz, h => by
    simp [decGo] at h; exact Or.inr (by omega)
  | c :: t, k, z, n, u, e, hk, hz, h => by
    rw [decGo] at h
    by_cases h1 : (k = 9 ∧ 1 < c.toNat) ∨ (0 < k ∧ c.toNat = 0)
    · rw [if_pos h1] at h; simp at h; exact Or.inr (by omega)
    · rw [if_neg h1] at h
      by_cases h2 : c.toNat < 128
      · rw [if_pos h2] at h
        simp only [Prod.mk.injEq] at h
        obtain ⟨h3, h4, h5⟩ := h
        have hZ := (get_or c z k (by omega) hz).1
        refine Or.inl ⟨h5.symm, by omega, by omega, by simp; omega, ?_⟩
        rw [← h3]
        exact ⟨unzz_lo _ hZ, unzz_hi _ hZ⟩
      · rw [if_neg h2] at h
        have hk9 : k + 1 ≤ 9 := by omega
        have := decGo_facts t (k + 1) _ n u e hk9 (dec_step_lt c z k hz) h
        simp only [List.length_cons]
        rcases this with ⟨a, b, c, d, f⟩ | h3
        · exact Or.inl ⟨a, by omega, c, by omega, f⟩
        · exact Or.inr h3
theorem dec_facts {l : List UInt8} {n u e : Int} (h : dec l = (n, u, e)) : (e = 0 ∧ 1 ≤ u ∧ u ≤ 10 ∧ u ≤ l.length ∧ isI64 n) ∨ (n = 0 ∧ u = 0 ∧ (e = 5 ∨ e = 6)) := by
  have := decGo_facts l 0 0 n u e (by omega) (by simp) h
  rcases this with ⟨a, b, c, d, f⟩ | h3
  · exact Or.inl ⟨a, by omega, c, by omega, f⟩
  · exact Or.inr h3

def lenDec (l : List UInt8) (least : Nat) : Int × Int × Int :=
  if (dec l).2.2 ≠ 0 then (0, 0, (dec l).2.2) else if (dec l).1 < 0 then (0, 0, 6) else if ((l.length : Int) - (dec l).2.1) / (least : Int) < (dec l).1 then (0, 0, 5) else ((dec l).1, (dec l).2.1, 0)
theorem lenDec_facts {l : List UInt8} {least : Nat} (hl : 1 ≤ least) {n u e : Int} (h : lenDec l least = (n, u, e)) : (e = 0 ∧ 1 ≤ u ∧ u ≤ 10 ∧ u ≤ l.length ∧ 0 ≤ n ∧ n * least + u ≤ l.length ∧ isI64 n) ∨ (n = 0 ∧ u = 0 ∧ (e = 5 ∨ e = 6)) := by
  obtain ⟨a, b, c, hd⟩ : ∃ a b c, dec l = (a, b, c) := ⟨_, _, _, rfl⟩
  have hf := dec_facts hd
  unfold lenDec at h
  rw [hd] at h
  simp only at h
  by_cases h1 : c ≠ 0
  · rw [if_pos h1] at h; simp only [Prod.mk.injEq] at h; exact Or.inr (by omega)
  · rw [if_neg h1] at h
    rcases hf with ⟨f1, f2, f3, f4, f5⟩ | hf
    · by_cases h2 : a < 0
      · rw [if_pos h2] at h; simp only [Prod.mk.injEq] at h; exact Or.inr (by omega)
      · rw [if_neg h2] at h
        by_cases h3 : ((l.length : Int) - b) / (least : Int) < a
        · rw [if_pos h3] at h; simp only [Prod.mk.injEq] at h; exact Or.inr (by omega)
        · rw [if_neg h3] at h; simp only [Prod.mk.injEq] at h
          obtain ⟨rfl, rfl, rfl⟩ := h
          refine Or.inl ⟨rfl, f2, f3, f4, by omega, ?_, f5⟩
          have hq : a ≤ ((l.length : Int) - b) / (least : Int) := by omega
          have h5 := (Int.le_ediv_iff_mul_le (by omega : (0 : Int) < least)).1 hq
          omega
    · omega

/-- What GetBytes computes. -/
def decS (l : List UInt8) : List UInt8 × Int × Int :=
  if (lenDec l 1).2.2 ≠ 0 then ([], 0, (lenDec l 1).2.2) else ((l.drop (lenDec l 1).2.1.toNat).take (lenDec l 1).1.toNat, (lenDec l 1).2.1 + (lenDec l 1).1, 0)
/-- What the decoders of lists compute: the elements one after the other. -/
def many {α : Type} (one : List UInt8 → α × Int × Int) (l : List UInt8) : Nat → Nat → List α → List α × Int × Int
  | 0, at_, acc => (acc, (at_ : Int), 0)
  | n + 1, at_, acc => if (one (l.drop at_)).2.2 ≠ 0 then ([], 0, (one (l.drop at_)).2.2) else many one l n (at_ + (one (l.drop at_)).2.1.toNat) (acc ++ [(one (l.drop at_)).1])
def decList {α : Type} (one : List UInt8 → α × Int × Int) (l : List UInt8) : List α × Int × Int :=
  if (lenDec l 1).2.2 ≠ 0 then ([], 0, (lenDec l 1).2.2) else many one l (lenDec l 1).1.toNat (lenDec l 1).2.1.toNat []
def decI (l : List UInt8) : List Int × Int × Int := decList dec l
def decT (l : List UInt8) : List (List UInt8) × Int × Int := decList decS l
/-- What GetDigests computes: the bytes of the digests, one behind the other. -/
def decD (l : List UInt8) : List UInt8 × Int × Int :=
  if (lenDec l 16).2.2 ≠ 0 then ([], 0, (lenDec l 16).2.2) else ((l.drop (lenDec l 16).2.1.toNat).take ((lenDec l 16).1.toNat * 16), (lenDec l 16).2.1 + (lenDec l 16).1 * 16, 0)
end Go.Proofs.Ytpbebmbkcpdbeaa
