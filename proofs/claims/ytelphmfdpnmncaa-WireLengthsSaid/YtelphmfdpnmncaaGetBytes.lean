/-
  GetBytes of both sides returns what decS gives, and makes nothing.
-/
import Derived.Test.YtelphmfdpnmncaaLength
namespace Go.Proofs.Ytelphmfdpnmncaa
open Go.RowKit

theorem Try.und_u8 : Try.prog.underlying 5 = some (.int .u8) := by kernel_rfl
theorem cut_bcs (l : List UInt8) (U N : Nat) : ((bcs l).drop U).take N = bcs ((l.drop U).take N) := by
  simp [bcs]

/-- A text and two numbers are returned, the world is as it was. -/
def RetS (w : World) (r : List UInt8 × Int × Int) (en : Ending) (w' : World) : Prop := en = .returned (.tuple #[sv r.1, .int .i64 r.2.1, .int .i64 r.2.2]) ∧ w = w'

set_option maxRecDepth 100000 in
set_option maxHeartbeats 400000 in
theorem getBytes_any (l : List UInt8) (A : Option Addr) (n c B : Nat) (w : World) (hr : Rd w B 1 A n c (bcs l)) :
    Calls Try.prog 26 #[.slice A n c] w (RetS w (decS l)) := by
  obtain rfl : l.length = n := by have := hr.len; simpa [bcs] using this
  have hcap := hr.cap
  have hle := hr.le
  unfold maxLen at hcap
  obtain ⟨a, b, e, hd⟩ : ∃ a b e, lenDec l 1 = (a, b, e) := ⟨_, _, _, rfl⟩
  have hf := lenDec_facts (by omega) hd
  have HL : Hid (decS l = if e ≠ 0 then ([], 0, e) else ((l.drop b.toNat).take a.toNat, b + a, 0)) := by
    show _ = _
    unfold decS; rw [hd]
  have HD := Lib.hid hd
  clear hd
  rcases hf with ⟨rfl, f2, f3, f4, f5, f6, f7, f8⟩ | ⟨rfl, rfl, f3⟩
  · obtain ⟨N, rfl⟩ := Int.eq_ofNat_of_zero_le f5
    obtain ⟨U, rfl⟩ := Int.eq_ofNat_of_zero_le (show 0 ≤ b by omega)
    go_enter Try.func26, Try.ntmps26
    go_wp2_with (first | (go_at_call 42; refine (length_any l _ _ _ _ 1 _ hr (by omega) (by omega)).mono ?_; rintro e w1 ⟨rfl, rfl⟩; rw [HD.out]) | (with_reducible refine slLH (.tmp 17) (.tmp 18) (.tmp 21) U (U + N) Try.sl_u8 (wn rfl) rfl rfl rfl rfl hr (by omega) (by omega) (by omega) (by omega) ?_))
    intro A' hcut
    rw [cut_bcs] at hcut
    go_wp2_with (with_reducible refine convStr (.tmp 22) ((l.drop U).take N) Try.sl_u8.und Try.und_u8 Try.und_str (wn rfl) rfl rfl hcut ?_)
    go_ret3
    exact ⟨by rw [HL.out, if_neg (by omega)]; rfl, rfl⟩
  · rcases f3 with rfl | rfl
    all_goals
      go_enter Try.func26, Try.ntmps26
      go_wp2_with (go_at_call 42; refine (length_any l _ _ _ _ 1 _ hr (by omega) (by omega)).mono ?_; rintro e w1 ⟨rfl, rfl⟩; rw [HD.out])
      go_ret3
      exact ⟨by rw [HL.out, if_pos (by omega)]; rfl, rfl⟩

set_option maxRecDepth 100000 in
set_option maxHeartbeats 400000 in
theorem refGetBytes_any (l : List UInt8) (A : Option Addr) (n c B : Nat) (w : World) (hr : Rd w B 1 A n c (bcs l)) :
    Calls Try.prog 27 #[.slice A n c] w (RetS w (decS l)) := by
  obtain rfl : l.length = n := by have := hr.len; simpa [bcs] using this
  have hcap := hr.cap
  have hle := hr.le
  unfold maxLen at hcap
  obtain ⟨a, b, e, hd⟩ : ∃ a b e, dec l = (a, b, e) := ⟨_, _, _, rfl⟩
  have hf := dec_facts hd
  have HL : Hid (decS l = if e ≠ 0 then ([], 0, e) else if a < 0 then ([], 0, 6) else if (l.length : Int) - b < a then ([], 0, 5) else ((l.drop b.toNat).take a.toNat, b + a, 0)) := by
    show _ = _
    unfold decS lenDec; rw [hd]
    simp only [Int.natCast_one, Int.ediv_one]
    by_cases h1 : e = 0
    · subst h1
      by_cases h2 : a < 0
      · simp [h2]
      · by_cases h3 : (l.length : Int) - b < a <;> simp [h2, h3]
    · simp [h1]
  have HD := Lib.hid hd
  clear hd
  rcases hf with ⟨rfl, f2, f3, f4, f5, f6⟩ | ⟨rfl, rfl, f3⟩
  · obtain ⟨U, rfl⟩ := Int.eq_ofNat_of_zero_le (show 0 ≤ b by omega)
    by_cases h1 : a < 0
    · go_enter Try.func27, Try.ntmps27
      go_wp2_with (go_at_call 25; refine (refGetInt_any l _ _ _ _ _ hr).mono ?_; rintro e w1 ⟨rfl, rfl⟩; rw [HD.out])
      go_ret3
      exact ⟨by rw [HL.out, if_neg (by omega), if_pos (by omega)]; rfl, rfl⟩
    · obtain ⟨N, rfl⟩ := Int.eq_ofNat_of_zero_le (show 0 ≤ a by omega)
      by_cases h2 : (l.length : Int) - U < N
      · go_enter Try.func27, Try.ntmps27
        go_wp2_with (go_at_call 25; refine (refGetInt_any l _ _ _ _ _ hr).mono ?_; rintro e w1 ⟨rfl, rfl⟩; rw [HD.out])
        go_ret3
        exact ⟨by rw [HL.out, if_neg (by omega), if_neg (by omega), if_pos (by omega)]; rfl, rfl⟩
      · go_enter Try.func27, Try.ntmps27
        go_wp2_with (first | (go_at_call 25; refine (refGetInt_any l _ _ _ _ _ hr).mono ?_; rintro e w1 ⟨rfl, rfl⟩; rw [HD.out]) | (with_reducible refine slLH (.tmp 25) (.tmp 26) (.tmp 29) U (U + N) Try.sl_u8 (wn rfl) rfl rfl rfl rfl hr (by omega) (by omega) (by omega) (by omega) ?_))
        intro A' hcut
        rw [cut_bcs] at hcut
        go_wp2_with (with_reducible refine convStr (.tmp 30) ((l.drop U).take N) Try.sl_u8.und Try.und_u8 Try.und_str (wn rfl) rfl rfl hcut ?_)
        go_ret3
        exact ⟨by rw [HL.out, if_neg (by omega), if_neg (by omega), if_neg (by omega)]; rfl, rfl⟩
  · rcases f3 with rfl | rfl
    all_goals
      go_enter Try.func27, Try.ntmps27
      go_wp2_with (go_at_call 25; refine (refGetInt_any l _ _ _ _ _ hr).mono ?_; rintro e w1 ⟨rfl, rfl⟩; rw [HD.out])
      go_ret3
      exact ⟨by rw [HL.out, if_pos (by omega)]; rfl, rfl⟩
end Go.Proofs.Ytelphmfdpnmncaa
