/-
  The closure of WireCanonical answers true where the decoder gave an error, and where what it encoded is the beginning of the bytes.
-/
import Derived.Test.YtelphmfdpnmncaaSanity
import Derived.Test.YtelphmfdpnmncaaWireCut
namespace Go.Proofs.Ytelphmfdpnmncaa
open Go.RowKit

theorem rd_box {w : World} {B b : Nat} {v : Value} {c : Nat} (h : Rd w B 1 (some ⟨b, 0, none⟩) 1 c [v]) : w.cell? ⟨b, 0, none⟩ = some v := by
  obtain ⟨b', off, hA, _, hc⟩ := h.cells (by omega)
  cases hA
  exact hc 0 v rfl

set_option maxRecDepth 100000 in
set_option maxHeartbeats 1000000 in
theorem is_true (L l : List UInt8) (A A' : Option Addr) (n c B m c' B' b : Nat) (w : World) (u err : Int) (hr : Rd w B 1 A n c (bcs L)) (hr' : Rd w B' 1 A' m c' (bcs l)) (hcb : w.cell? ⟨b, 0, none⟩ = some (.slice A' m c'))
    (h : err = 5 ∨ err = 6 ∨ err = 0 ∧ ∃ U : Nat, u = U ∧ U ≤ m ∧ L = l.take U) :
    Calls Try.prog 37 #[.slice A n c, .int .i64 u, .int .i64 err, .pointer (some ⟨b, 0, none⟩)] w fun e w' => e = .returned (.bool true) ∧ w = w' := by
  have hcap := hr'.cap
  have hle := hr'.le
  unfold maxLen at hcap
  rcases h with rfl | rfl | ⟨rfl, U, rfl, hU, rfl⟩
  · go_enter Try.func37, Try.ntmps37
    go_wp2_with fail
    go_ret
    exact ⟨rfl, rfl⟩
  · go_enter Try.func37, Try.ntmps37
    go_wp2_with fail
    go_ret
    exact ⟨rfl, rfl⟩
  · go_enter Try.func37, Try.ntmps37
    go_wp2_with (with_reducible refine slH (.tmp 21) (.tmp 26) U Try.sl_u8 (by kernel_rfl) rfl rfl rfl hr' (by omega) hU ?_)
    all_goals
      intro A2 hcut
      rw [take_bcs] at hcut
      go_wp2_with fail
      refine (same_true (l.take U) _ _ _ _ _ _ _ _ _ hr hcut).mono ?_
      rintro e _ ⟨rfl, rfl⟩
      go_wp2_with fail
      go_ret
      exact ⟨rfl, rfl⟩
end Go.Proofs.Ytelphmfdpnmncaa
