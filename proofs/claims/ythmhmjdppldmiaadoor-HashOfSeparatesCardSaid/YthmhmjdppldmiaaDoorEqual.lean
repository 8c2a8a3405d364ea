/-
  Equal answers whether two texts are the same; Few and Joined of the specification.
-/
import Derived.Test.YthmhmjdppldmiaaDoorBytes32
namespace Go.Proofs.YthmhmjdppldmiaaDoor
open Go.RowKit

theorem xor_zero (a b : UInt8) : (a.toNat ^^^ b.toNat = 0) ↔ a = b := by
  constructor
  · intro h
    have : a.toNat = b.toNat := by
      have h2 : a.toNat ^^^ b.toNat ^^^ b.toNat = 0 ^^^ b.toNat := by rw [h]
      rwa [Nat.xor_assoc, Nat.xor_self, Nat.xor_zero, Nat.zero_xor] at h2
    exact UInt8.toNat_inj.1 this
  · rintro rfl; exact Nat.xor_self _
theorem or_zero {a b : Nat} : (a ||| b = 0) ↔ a = 0 ∧ b = 0 := by
  constructor
  · intro h
    have h1 := Nat.left_le_or (n := a) (m := b)
    have h2 := Nat.right_le_or (n := a) (m := b)
    omega
  · rintro ⟨rfl, rfl⟩; rfl
theorem u8_or_n (a b : Nat) (ha : a < 256) (hb : b < 256) : bits .or .u8 (a : Int) (b : Int) = ((a ||| b : Nat) : Int) := u8_or_nat a b ha hb
theorem u8_xor_n (a b : Nat) (ha : a < 256) (hb : b < 256) : bits .xor .u8 (a : Int) (b : Int) = ((a ^^^ b : Nat) : Int) := u8_xor_nat a b ha hb
theorem take_eq_next {a b : List UInt8} {i : Nat} {x y : UInt8} (hx : a[i]? = some x) (hy : b[i]? = some y) : (a.take (i + 1) = b.take (i + 1)) ↔ (a.take i = b.take i ∧ x = y) := by
  rw [← take_next hx, ← take_next hy]
  have h1 := (List.getElem?_eq_some_iff.1 hx).1
  have h2 := (List.getElem?_eq_some_iff.1 hy).1
  constructor
  · intro h
    have := List.append_inj h (by rw [List.length_take, List.length_take]; omega)
    exact ⟨this.1, by simpa using this.2⟩
  · rintro ⟨h, rfl⟩; rw [h]

set_option maxRecDepth 100000 in
set_option maxHeartbeats 1000000 in
theorem equal_any (a b : List UInt8) (w : World) (ha : a.length ≤ 1099511627776) (hb : b.length ≤ 1099511627776) : Calls Tryd.prog 24 #[sv a, sv b] w fun e w' => e = .returned (.bool (decide (a = b))) ∧ Below w.heap.size w w' := by
  unfold sv
  by_cases hl : a.length = b.length
  · have HL := Lib.hid hl
    have hne : ((a.length : Int) != (b.length : Int)) = false := by rw [bne_eq_false_iff_eq]; omega
    have hge : a.length ≤ b.length := by omega
    clear hl
    go_enter Tryd.func24, Tryd.ntmps24
    go_wp2_with fail
    clear hne
    go_loopw [5, 14] (fun d iv_ wr => ∃ i m : Nat, i ≤ a.length ∧ iv_ = .int .i64 i ∧ m < 256 ∧ d = .int .u8 m ∧ Hid (m = 0 ↔ a.take i = b.take i) ∧ Below w.heap.size w wr) (fun _ iv_ _ => a.length - (intOf iv_).toNat)
    case atStart => exact ⟨0, 0, by omega, rfl, by omega, rfl, (by show _ ↔ _; simp), Below.refl _ _⟩
    case round =>
      obtain ⟨i, m, hi, rfl, hm, rfl, hrel, hbw⟩ := hrel
      by_cases hlt : i < a.length
      · have hlt2 : i < b.length := by omega
        have hx := List.getElem?_eq_getElem hlt
        have hy := List.getElem?_eq_getElem hlt2
        have hnx := take_eq_next hx hy
        have HNX := Lib.hid hnx
        clear hnx hx hy
        go_wp2_with fail
        go_quiet (fail)
        have hva : ((⟨a.toArray⟩ : ByteArray)[i]'(by simpa [ByteArray.size] using hlt)) = a[i] := rfl
        have hvb : ((⟨b.toArray⟩ : ByteArray)[i]'(by simpa [ByteArray.size] using hlt2)) = b[i] := rfl
        have xa := a[i].toNat_lt
        have xb := b[i].toNat_lt
        rw [hva, hvb, u8_xor_n _ _ (by omega) (by omega), u8_or_n _ _ hm (Nat.xor_lt_two_pow (n := 8) (by omega) (by omega))]
        have hm2 : (m ||| (a[i].toNat ^^^ b[i].toNat)) < 256 := Nat.or_lt_two_pow (n := 8) (by omega) (Nat.xor_lt_two_pow (n := 8) (by omega) (by omega))
        have hz : Hid ((m ||| (a[i].toNat ^^^ b[i].toNat)) = 0 ↔ a.take (i + 1) = b.take (i + 1)) := by
          show _ ↔ _
          rw [or_zero, xor_zero, HNX.out, hrel.out]
        clear hva hvb hrel
        generalize (m ||| (a[i].toNat ^^^ b[i].toNat)) = m2 at *
        go_wp2_with fail
        go_roundw
        case rel => exact ⟨i + 1, m2, by omega, by go_num, hm2, rfl, hz, ⟨hbw.os, hbw.tape, hbw.output, hbw.size, hbw.block⟩⟩
        case measure => (simp [intOf]; try omega)
      · obtain rfl : i = a.length := by omega
        have hfin : ((m : Int) == 0) = decide (a = b) := by
          have h := hrel.out
          rw [List.take_of_length_le (Nat.le_refl _), List.take_of_length_le (l := b) (by have := HL.out; omega)] at h
          by_cases hm0 : m = 0
          · have hab := h.1 hm0
            subst hm0
            simp [hab]
          · have hab : ¬ a = b := fun e => hm0 (h.2 e)
            simp [hab, hm0]
        have HF := Lib.hid hfin
        clear hfin hrel
        go_wp2_with fail
        go_ret
        rw [← HF.out]
        exact ⟨rfl, hbw⟩
  · have HL := Lib.hid hl
    have hne : ((a.length : Int) != (b.length : Int)) = true := by rw [bne_iff_ne]; omega
    clear hl
    go_enter Tryd.func24, Tryd.ntmps24
    go_wp2_with fail
    go_ret
    have hf : decide (a = b) = false := by
      rw [decide_eq_false_iff_not]
      rintro rfl
      exact HL.out rfl
    rw [hf]
    exact ⟨rfl, Below.refl _ _⟩
end Go.Proofs.YthmhmjdppldmiaaDoor
