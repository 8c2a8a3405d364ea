/-
  CoderEncodesAsSpecified: Encode returns what the specification returns.
-/
import Derived.Test.YtpbebmbkcpdbeaaCoSanity
import Derived.Outline
namespace Go.Proofs.Ytpbebmbkcpdbeaa
open Go.RowKit
set_option linter.unusedVariables false

set_option maxRecDepth 100000 in
set_option maxHeartbeats 4000000 in
theorem walk_CoderEncodesAsSpecified (A0 A1 : List UInt8) (w : World) (h0 : A0.length ≤ 140737488351232) (h1 : A1.length ≤ 140737488351232) :
    Calls Try.prog 3 #[.string ⟨A0.toArray⟩, .string ⟨A1.toArray⟩] w (RetT w) := by
  have hb : Below w.heap.size w w := Below.refl _ _
  have HE := Lib.hid (fun w => encode_any A0 A1 h0 h1 w)
  have HR := Lib.hid (fun w => refEncode_any A0 A1 h0 h1 w)
  by_cases hs : A0.length ≤ 700 ∧ A1.length ≤ 700
  · have hd : decide (A0.length ≤ 700 ∧ A1.length ≤ 700) = true := by simpa using hs
    unfold coPairV at HE HR
    generalize coEncode A0 A1 = E at *
    obtain ⟨el, en⟩ := E
    simp only at HE HR
    go_enter Try.func3, Try.ntmps3
    go_wp2_with fail
    refine (small_any A0 A1 _).mono ?_
    rintro e w1 ⟨rfl, rfl⟩
    rw [hd]
    go_wp2_with fail
    refine (HE.out _).mono ?_
    rintro e w2 ⟨rfl, b2⟩
    replace hb := hb.trans (b2.mono hb.size)
    clear b2
    go_wp2_with fail
    refine (HR.out _).mono ?_
    rintro e w3 ⟨rfl, b3⟩
    replace hb := hb.trans (b3.mono hb.size)
    clear b3
    go_wp2_with fail
    refine (sanity_any _).mono ?_
    rintro e wS ⟨rfl, bS⟩
    replace hb := hb.trans (bS.mono hb.size)
    clear bS
    go_wp2_with fail
    go_ret
    exact ⟨by first | rfl | (simp; done) | (simp; omega), hb⟩
  · have hd : decide (A0.length ≤ 700 ∧ A1.length ≤ 700) = false := by simpa using hs
    go_enter Try.func3, Try.ntmps3
    go_wp2_with fail
    refine (small_any A0 A1 _).mono ?_
    rintro e w1 ⟨rfl, rfl⟩
    rw [hd]
    go_wp2_with fail
    refine (sanity_any _).mono ?_
    rintro e wS ⟨rfl, bS⟩
    replace hb := hb.trans (bS.mono hb.size)
    clear bS
    go_wp2_with fail
    go_ret
    exact ⟨by first | rfl | (simp; done) | (simp; omega), hb⟩
end Go.Proofs.Ytpbebmbkcpdbeaa
