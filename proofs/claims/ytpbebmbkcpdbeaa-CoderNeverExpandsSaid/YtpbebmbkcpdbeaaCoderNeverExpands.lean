/-
  CoderNeverExpands: an encoding has at most one byte more than the length and the data.
-/
import Derived.Test.YtpbebmbkcpdbeaaCoSanity
import Derived.Outline
namespace Go.Proofs.Ytpbebmbkcpdbeaa
open Go.RowKit
set_option linter.unusedVariables false

set_option maxRecDepth 100000 in
set_option maxHeartbeats 4000000 in
theorem walk_CoderNeverExpands (A0 A1 : List UInt8) (w : World) (h0 : A0.length ≤ 140737488351232) (h1 : A1.length ≤ 140737488351232) :
    Calls Try.prog 7 #[.string ⟨A0.toArray⟩, .string ⟨A1.toArray⟩] w (RetT w) := by
  have hb : Below w.heap.size w w := Below.refl _ _
  have HE := Lib.hid (fun w => encode_any A0 A1 h0 h1 w)
  have HR := Lib.hid (fun w => refEncode_any A0 A1 h0 h1 w)
  by_cases hs : A0.length ≤ 700 ∧ A1.length ≤ 700
  · have hd : decide (A0.length ≤ 700 ∧ A1.length ≤ 700) = true := by simpa using hs
    have hE := coEncode_small (prior := A0) (data := A1) (by omega) (by omega)
    rw [hE] at HE
    unfold coPairV at HE
    have hlen : (enc (A1.length : Int) ++ (if (coCode A0 A1).length < A1.length then [1] ++ coCode A0 A1 else [0] ++ A1)).length ≤ A1.length + (enc (A1.length : Int)).length + 1 := by
      rw [List.length_append]
      split
      · rw [List.length_append, List.length_singleton]; omega
      · rw [List.length_append, List.length_singleton]; omega
    have HI := Lib.hid (fun w => refInt_any (A1.length : Int) w (by omega) (by omega))
    have hel := enc_len (A1.length : Int)
    clear hE HR
    simp only at HE
    generalize enc (A1.length : Int) ++ (if (coCode A0 A1).length < A1.length then [1] ++ coCode A0 A1 else [0] ++ A1) = E at *
    generalize enc (A1.length : Int) = X at *
    go_enter Try.func7, Try.ntmps7
    go_wp2_with fail
    refine (small_any A0 A1 _).mono ?_
    rintro e w1 ⟨rfl, rfl⟩
    rw [hd]
    go_wp2_with fail
    refine (HE.out _).mono ?_
    rintro e w2 ⟨rfl, b2⟩
    replace hb := hb.trans (b2.mono hb.size)
    clear b2
    go_wp2_with fail
    refine (sanity_any _).mono ?_
    rintro e wS ⟨rfl, bS⟩
    replace hb := hb.trans (bS.mono hb.size)
    clear bS
    go_wp2_with fail
    refine (HI.out _).mono ?_
    rintro e w4 hret
    obtain ⟨A, c, rfl, _, hrd, b4⟩ := hret.open
    clear hret hrd
    replace hb := hb.trans (b4.mono hb.size)
    clear b4
    go_wp2_with fail
    go_ret
    exact ⟨by first | rfl | (simp; done) | (simp; omega), hb⟩
  · have hd : decide (A0.length ≤ 700 ∧ A1.length ≤ 700) = false := by simpa using hs
    go_enter Try.func7, Try.ntmps7
    go_wp2_with fail
    refine (small_any A0 A1 _).mono ?_
    rintro e w1 ⟨rfl, rfl⟩
    rw [hd]
    go_wp2_with fail
    refine (sanity_any _).mono ?_
    rintro e wS ⟨rfl, bS⟩
    replace hb := hb.trans (bS.mono hb.size)
    clear bS
    go_wp2_with fail
    go_ret
    exact ⟨by first | rfl | (simp; done) | (simp; omega), hb⟩
end Go.Proofs.Ytpbebmbkcpdbeaa
