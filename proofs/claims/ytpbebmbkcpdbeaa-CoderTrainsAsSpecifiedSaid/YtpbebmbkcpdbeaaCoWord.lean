/-
  The reference's word: four bytes of a text as a number. No statement is proved here.
-/
import Derived.Test.YtpbebmbkcpdbeaaCoREncode
import Derived.Outline
namespace Go.Proofs.Ytpbebmbkcpdbeaa
open Go.RowKit
set_option linter.unusedVariables false

def coWp (T : List UInt8) (k : Nat) : Nat → Nat
  | 0 => 0
  | j + 1 => coWp T k j * 256 + coB T (k + j)
theorem coWp_lt (T : List UInt8) (k : Nat) : ∀ j, j ≤ 4 → coWp T k j < 256 ^ j
  | 0, _ => by simp [coWp]
  | j + 1, h => by
    have h1 := coWp_lt T k j (by omega)
    have h2 := coB_lt T (k + j)
    rw [Nat.pow_succ]
    show coWp T k j * 256 + coB T (k + j) < _
    generalize 256 ^ j = q at *
    omega
theorem coWp_four (T : List UInt8) (k : Nat) : coWp T k 4 = coWord T k := by
  show (((0 * 256 + coB T (k + 0)) * 256 + coB T (k + 1)) * 256 + coB T (k + 2)) * 256 + coB T (k + 3) = _
  unfold coWord
  rw [Nat.zero_mul, Nat.zero_add, Nat.add_zero]
theorem coB_get {T : List UInt8} {k : Nat} (h : k < T.length) : (⟨T.toArray⟩ : ByteArray)[k]'(by simpa [ByteArray.size] using h) = T.getD k 0 := by
  have h1 : (⟨T.toArray⟩ : ByteArray)[k]'(by simpa [ByteArray.size] using h) = T[k] := by
    show T.toArray[k]'_ = _
    simp
  rw [h1, List.getD_eq_getElem?_getD, List.getElem?_eq_getElem h]
  rfl

set_option maxRecDepth 100000 in
set_option maxHeartbeats 2000000 in
theorem word_any (T : List UInt8) (k : Nat) (w : World) (hk : k < 1000000000000) (hl : T.length ≤ 140737488351232) :
    Calls Try.prog 39 #[.string ⟨T.toArray⟩, .int .i64 (k : Int)] w fun e w' => e = .returned (.int .i64 (coWord T k : Int)) ∧ w' = w := by
  have HW := Lib.hid (coWp_four T k)
  go_enter Try.func39, Try.ntmps39
  go_wp2_with fail
  go_loopw [5, 6] (fun n i wr => ∃ (j : Nat) (I : Int), j ≤ 4 ∧ n = .int .i64 (coWp T k j : Int) ∧ i = .int .i64 I ∧ I = ((k + j : Nat) : Int) ∧ wr = w) (fun _ i _ => (4 + (k : Int) - intOf i).toNat)
  case atStart => exact ⟨0, _, by omega, rfl, rfl, by simp, rfl⟩
  case round =>
    obtain ⟨j, I, hj, rfl, rfl, hI, rfl⟩ := hrel
    have hlt := coWp_lt T k j hj
    by_cases h4 : j < 4
    · have hnx : coWp T k (j + 1) = coWp T k j * 256 + coB T (k + j) := rfl
      have hq : 256 ^ j ≤ 16777216 := by
        rcases (by omega : j = 0 ∨ j = 1 ∨ j = 2 ∨ j = 3) with rfl | rfl | rfl | rfl <;> decide
      have hlt2 : coWp T k j < 16777216 := by omega
      clear hlt hq
      subst hI
      by_cases hin : k + j < T.length
      · have HGB := Lib.hid (coB_get hin)
        have hcb : ((T.getD (k + j) 0).toNat : Int) = (coB T (k + j) : Int) := rfl
        have hbl := coB_lt T (k + j)
        generalize coB T (k + j) = B at *
        generalize coWp T k j = V at *
        have HNX := Lib.hid hnx
        clear hnx
        have HCB := Lib.hid hcb
        clear hcb
        go_wp2_with fail
        rw [HGB.out, HCB.out]
        go_roundw
        case rel =>
          refine ⟨j + 1, _, by omega, ?_, rfl, by omega, trivial⟩
          rw [HNX.out]
          refine congrArg _ ?_
          unfold wrap64
          omega
        case measure => simp [intOf]; omega
      · have hz : coB T (k + j) = 0 := by
          unfold coB
          rw [List.getD_eq_getElem?_getD, List.getElem?_eq_none (by omega)]
          rfl
        rw [hz] at hnx
        generalize coWp T k j = V at *
        have HNX := Lib.hid hnx
        clear hnx
        clear hz
        go_wp2_with fail
        refine ⟨⟨j + 1, _, by omega, ?_, rfl, by omega, trivial⟩, ?_⟩
        · rw [HNX.out]
          refine congrArg _ ?_
          omega
        · simp [intOf]; omega
    · obtain rfl : j = 4 := by omega
      rw [HW.out]
      go_wp2_with fail
      go_ret
      exact ⟨rfl, rfl⟩
end Go.Proofs.Ytpbebmbkcpdbeaa
