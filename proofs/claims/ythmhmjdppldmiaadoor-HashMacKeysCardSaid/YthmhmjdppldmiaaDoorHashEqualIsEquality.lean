/-
  HashEqualIsEquality answers true, for any two texts.
-/
import Derived.Test.YthmhmjdppldmiaaDoorHSanity
namespace Go.Proofs.YthmhmjdppldmiaaDoor
open Go.RowKit

theorem cat_nil (a : List UInt8) : (⟨a.toArray⟩ : ByteArray) ++ ⟨#[]⟩ = ⟨a.toArray⟩ := by
  apply ByteArray.ext
  simp
set_option maxRecDepth 100000 in
set_option maxHeartbeats 1000000 in
theorem walk_HashEqualIsEquality (a b : List UInt8) (w : World) (ht : Tabs w) (_ha : a.length ≤ 140737488351232) (_hb : b.length ≤ 140737488351232) :
    Calls Tryd.prog 9 #[sv a, sv b] w (RetB w true) := by
  have hs := sanity_any w ht
  by_cases hl : a.length ≤ 400 ∧ b.length ≤ 400
  · obtain ⟨h1, h2⟩ := hl
    obtain ⟨c, e1, e2, e3⟩ : ∃ c : Bool, decide (a = b) = c ∧ decide (b = a) = c ∧ (a == b) = c := by
      by_cases hab : a = b
      · exact ⟨true, by simp [hab], by simp [hab], by simp [hab]⟩
      · exact ⟨false, by simp [hab], by rw [decide_eq_false_iff_not]; exact fun h => hab h.symm, by simp [hab]⟩
    have E1 := Lib.hid e1
    have E2 := Lib.hid e2
    have E3 := Lib.hid e3
    clear e1 e2 e3
    unfold sv
    go_enter Tryd.func9, Tryd.ntmps9
    go_wp2_with fail
    refine hs.mono ?_
    rintro e w1 ⟨rfl, hb1⟩
    have q1 := equal_any a b w1 (by omega) (by omega)
    rw [E1.out] at q1
    unfold sv at q1
    go_wp2_with fail
    refine q1.mono ?_
    rintro e w2 ⟨rfl, hb2⟩
    replace hb1 := hb1.trans (hb2.mono hb1.size)
    clear hb2 q1
    have q1 := equal_any b a w2 (by omega) (by omega)
    rw [E2.out] at q1
    unfold sv at q1
    go_wp2_with fail
    refine q1.mono ?_
    rintro e w3 ⟨rfl, hb2⟩
    replace hb1 := hb1.trans (hb2.mono hb1.size)
    clear hb2 q1
    go_wp2_with fail
    rw [cat_nil]
    have q1 := equal_any a a w3 (by omega) (by omega)
    rw [show decide (a = a) = true from by simp] at q1
    unfold sv at q1
    refine q1.mono ?_
    rintro e w4 ⟨rfl, hb2⟩
    replace hb1 := hb1.trans (hb2.mono hb1.size)
    clear hb2 q1
    have e3 := E3.out
    cases c
    all_goals
      go_wp2_with fail
      go_ret
      exact ⟨rfl, hb1⟩
  · have h3 : (decide (400 < (a.length : Int)) || decide (400 < (b.length : Int))) = true := by
      rw [Bool.or_eq_true, decide_eq_true_eq, decide_eq_true_eq]; omega
    clear hl
    by_cases h1 : a.length ≤ 400
    all_goals
      unfold sv
      go_enter Tryd.func9, Tryd.ntmps9
      go_wp2_with fail
      refine hs.mono ?_
      rintro e w1 ⟨rfl, hb1⟩
      go_wp2_with fail
      all_goals
        go_ret
        exact ⟨rfl, hb1⟩
end Go.Proofs.YthmhmjdppldmiaaDoor
