/-
  The laws' helpers: small, times, Good. No statement is proved here.
-/
import Derived.Test.YtpbebmbkcpdbeaaCoPlain
import Derived.Outline
namespace Go.Proofs.Ytpbebmbkcpdbeaa
open Go.RowKit
set_option linter.unusedVariables false

set_option maxRecDepth 100000 in
theorem small_any (a b : List UInt8) (w : World) : Calls Try.prog 10 #[.string ⟨a.toArray⟩, .string ⟨b.toArray⟩] w fun e w' => e = .returned (.bool (decide (a.length ≤ 700 ∧ b.length ≤ 700))) ∧ w' = w := by
  by_cases h1 : a.length ≤ 700
  · by_cases h2 : b.length ≤ 700
    · rw [show decide (a.length ≤ 700 ∧ b.length ≤ 700) = true by simp; omega]
      go_enter Try.func10, Try.ntmps10
      go_wp2_with fail
      go_ret
      exact ⟨congrArg (fun b => Ending.returned (.bool b)) (by simp; omega), rfl⟩
    · rw [show decide (a.length ≤ 700 ∧ b.length ≤ 700) = false by simp; omega]
      go_enter Try.func10, Try.ntmps10
      go_wp2_with fail
      go_ret
      exact ⟨congrArg (fun b => Ending.returned (.bool b)) (by simp; omega), rfl⟩
  · rw [show decide (a.length ≤ 700 ∧ b.length ≤ 700) = false by simp; omega]
    go_enter Try.func10, Try.ntmps10
    go_wp2_with fail
    go_ret
    exact ⟨rfl, rfl⟩
theorem coFlat_succ (s : List UInt8) (n : Nat) : coFlat s n ++ s = coFlat s (n + 1) := by
  unfold coFlat
  rw [List.replicate_succ', List.flatten_append]
  simp
set_option maxRecDepth 100000 in
set_option maxHeartbeats 1000000 in
theorem times_any (s : List UInt8) (n : Nat) (hs : n * s.length ≤ 1000000000) (hn : n ≤ 1000000000) (w : World) : Calls Try.prog 23 #[.string ⟨s.toArray⟩, .int .i64 (n : Int)] w fun e w' => e = .returned (.string ⟨(coFlat s n).toArray⟩) ∧ w' = w := by
  have HL := Lib.hid (fun k => coFlat_len s k)
  go_enter Try.func23, Try.ntmps23
  go_wp2_with fail
  go_loopw [5, 6] (fun o i wr => ∃ (k : Nat) (F : List UInt8), k ≤ n ∧ o = .string ⟨F.toArray⟩ ∧ Hid (F = coFlat s k) ∧ i = .int .i64 (k : Int) ∧ wr = w) (fun _ i _ => n - (intOf i).toNat)
  case atStart => exact ⟨0, [], by omega, rfl, Lib.hid rfl, rfl, rfl⟩
  case round =>
    obtain ⟨k, F, hk, rfl, HF, rfl, rfl⟩ := hrel
    by_cases hlt : k < n
    · have hle : F.length + s.length ≤ 9223372036854775807 := by
        rw [HF.out, HL.out]
        have h1 : (k + 1) * s.length ≤ n * s.length := Nat.mul_le_mul_right _ hlt
        rw [Nat.succ_mul] at h1
        omega
      have HN : Hid (F ++ s = coFlat s (k + 1)) := Lib.hid (by rw [HF.out]; exact coFlat_succ s k)
      clear HF
      go_wp2_with fail
      refine ⟨⟨k + 1, F ++ s, by omega, ?_, HN, by simp, trivial⟩, ?_⟩
      · first | rfl | (rw [cat_two])
      · simp [intOf]; omega
    · obtain rfl : k = n := by omega
      go_wp2_with fail
      go_ret
      exact ⟨by rw [HF.out]; rfl, rfl⟩
end Go.Proofs.Ytpbebmbkcpdbeaa
