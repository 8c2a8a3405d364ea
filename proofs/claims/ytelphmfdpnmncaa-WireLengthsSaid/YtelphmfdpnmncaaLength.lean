/-
  length of both sides returns what lenDec gives, and makes nothing.
-/
import Derived.Test.YtelphmfdpnmncaaGetIntRef
namespace Go.Proofs.Ytelphmfdpnmncaa
open Go.RowKit

set_option maxRecDepth 100000 in
set_option maxHeartbeats 400000 in
theorem length_any (l : List UInt8) (A : Option Addr) (n c B least : Nat) (w : World) (hr : Rd w B 1 A n c (bcs l)) (hl1 : 1 ≤ least) (hl2 : least ≤ 1000) :
    Calls Try.prog 42 #[.slice A n c, .int .i64 least] w (Ret3 w (lenDec l least)) := by
  obtain rfl : l.length = n := by have := hr.len; simpa [bcs] using this
  have hcap := hr.cap
  have hle := hr.le
  unfold maxLen at hcap
  obtain ⟨a, b, e, hd⟩ : ∃ a b e, dec l = (a, b, e) := ⟨_, _, _, rfl⟩
  have hf := dec_facts hd
  have HL : Hid (lenDec l least = if e ≠ 0 then (0, 0, e) else if a < 0 then (0, 0, 6) else if ((l.length : Int) - b) / (least : Int) < a then (0, 0, 5) else (a, b, 0)) := by
    show _ = _
    unfold lenDec; rw [hd]
  have HD := Lib.hid hd
  clear hd
  rcases hf with ⟨rfl, f2, f3, f4, f5, f6⟩ | ⟨rfl, rfl, f3⟩
  · by_cases h1 : a < 0
    · go_enter Try.func42, Try.ntmps42
      go_wp2_with (go_at_call 24; refine (getInt_any l _ _ _ _ _ hr).mono ?_; rintro e w1 ⟨rfl, rfl⟩; rw [HD.out])
      go_ret3
      exact ⟨by rw [HL.out, if_neg (by omega), if_pos (by omega)]; rfl, rfl⟩
    · by_cases h2 : ((l.length : Int) - b) / (least : Int) < a
      · go_enter Try.func42, Try.ntmps42
        go_wp2_with (go_at_call 24; refine (getInt_any l _ _ _ _ _ hr).mono ?_; rintro e w1 ⟨rfl, rfl⟩; rw [HD.out])
        go_ret3
        exact ⟨by rw [HL.out, if_neg (by omega), if_neg (by omega), if_pos (by omega)]; rfl, rfl⟩
      · go_enter Try.func42, Try.ntmps42
        go_wp2_with (go_at_call 24; refine (getInt_any l _ _ _ _ _ hr).mono ?_; rintro e w1 ⟨rfl, rfl⟩; rw [HD.out])
        go_ret3
        exact ⟨by rw [HL.out, if_neg (by omega), if_neg (by omega), if_neg (by omega)]; rfl, rfl⟩
  · rcases f3 with rfl | rfl
    all_goals
      go_enter Try.func42, Try.ntmps42
      go_wp2_with (go_at_call 24; refine (getInt_any l _ _ _ _ _ hr).mono ?_; rintro e w1 ⟨rfl, rfl⟩; rw [HD.out])
      go_ret3
      exact ⟨by rw [HL.out, if_pos (by omega)]; rfl, rfl⟩

set_option maxRecDepth 100000 in
set_option maxHeartbeats 400000 in
theorem refLength_any (l : List UInt8) (A : Option Addr) (n c B least : Nat) (w : World) (hr : Rd w B 1 A n c (bcs l)) (hl1 : 1 ≤ least) (hl2 : least ≤ 1000) :
    Calls Try.prog 44 #[.slice A n c, .int .i64 least] w (Ret3 w (lenDec l least)) := by
  obtain rfl : l.length = n := by have := hr.len; simpa [bcs] using this
  have hcap := hr.cap
  have hle := hr.le
  unfold maxLen at hcap
  obtain ⟨a, b, e, hd⟩ : ∃ a b e, dec l = (a, b, e) := ⟨_, _, _, rfl⟩
  have hf := dec_facts hd
  have HL : Hid (lenDec l least = if e ≠ 0 then (0, 0, e) else if a < 0 then (0, 0, 6) else if ((l.length : Int) - b) / (least : Int) < a then (0, 0, 5) else (a, b, 0)) := by
    show _ = _
    unfold lenDec; rw [hd]
  have HD := Lib.hid hd
  clear hd
  rcases hf with ⟨rfl, f2, f3, f4, f5, f6⟩ | ⟨rfl, rfl, f3⟩
  · by_cases h1 : a < 0
    · go_enter Try.func44, Try.ntmps44
      go_wp2_with (go_at_call 25; refine (refGetInt_any l _ _ _ _ _ hr).mono ?_; rintro e w1 ⟨rfl, rfl⟩; rw [HD.out])
      go_ret3
      exact ⟨by rw [HL.out, if_neg (by omega), if_pos (by omega)]; rfl, rfl⟩
    · by_cases h2 : ((l.length : Int) - b) / (least : Int) < a
      · go_enter Try.func44, Try.ntmps44
        go_wp2_with (go_at_call 25; refine (refGetInt_any l _ _ _ _ _ hr).mono ?_; rintro e w1 ⟨rfl, rfl⟩; rw [HD.out])
        go_ret3
        exact ⟨by rw [HL.out, if_neg (by omega), if_neg (by omega), if_pos (by omega)]; rfl, rfl⟩
      · go_enter Try.func44, Try.ntmps44
        go_wp2_with (go_at_call 25; refine (refGetInt_any l _ _ _ _ _ hr).mono ?_; rintro e w1 ⟨rfl, rfl⟩; rw [HD.out])
        go_ret3
        exact ⟨by rw [HL.out, if_neg (by omega), if_neg (by omega), if_neg (by omega)]; rfl, rfl⟩
  · rcases f3 with rfl | rfl
    all_goals
      go_enter Try.func44, Try.ntmps44
      go_wp2_with (go_at_call 25; refine (refGetInt_any l _ _ _ _ _ hr).mono ?_; rintro e w1 ⟨rfl, rfl⟩; rw [HD.out])
      go_ret3
      exact ⟨by rw [HL.out, if_pos (by omega)]; rfl, rfl⟩

end Go.Proofs.Ytelphmfdpnmncaa
