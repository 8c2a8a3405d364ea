/-
  The coder's small functions: learn, middle. No statement is proved here.
-/
import Derived.Test.YtpbebmbkcpdbeaaCoMem
import Derived.Test.YtpbebmbkcpdbeaaArith2
import Derived.Outline
namespace Go.Proofs.Ytpbebmbkcpdbeaa
open Go.RowKit
set_option linter.unusedVariables false

theorem grown_set (w : World) (g i : Nat) (v : Value) : w.grownBy (w.setCell ⟨g, i, none⟩ v).drew (some g) :=
  ⟨rfl, rfl, rfl, by simp [World.drew, World.setCell], fun k hk hne => Below.heap_setCell w ⟨g, i, none⟩ v k (by
    intro e2
    apply hne
    first | exact congrArg some e2 | exact congrArg some e2.symm)⟩
theorem grown_trans {w w1 w2 : World} {r : Option Nat} (h1 : w.grownBy w1 r) (h2 : w1.grownBy w2 r) : w.grownBy w2 r :=
  ⟨h2.os.trans h1.os, h2.tape.trans h1.tape, h2.output.trans h1.output, Nat.le_trans h1.size h2.size, fun k hk hne => (h2.block k (Nat.lt_of_lt_of_le hk h1.size) hne).trans (h1.block k hk hne)⟩

set_option maxRecDepth 100000 in
set_option maxHeartbeats 1000000 in
theorem learn_any (m : List Nat) (g c b : Nat) (w : World) (hm : CoGood m) (h1 : 1 ≤ c) (h2 : c < 256) (hb : b = 0 ∨ b = 1) (hA : Arr w g 32 (mcs m)) :
    Calls Try.prog 31 #[.pointer (some ⟨g, 0, none⟩), .int .i64 (c : Int), .int .i64 (b : Int)] w fun e w' => e = .returned (.tuple #[]) ∧ Arr w' g 32 (mcs (coLearnAt m c b)) ∧ w.grownBy w' (some g) := by
  have hmid := hm.mid c h1 h2
  have hth := hA.thaw c
  have hc := hA.cell (i := c) (mcs_get (by rw [hm.len]; exact h2))
  unfold coLearnAt
  generalize m.getD c 0 = p at *
  rcases hb with rfl | rfl
  · have e : (p : Int) - (p : Int) / 32 = ((coLearn p 0 : Nat) : Int) := by unfold coLearn; rw [if_neg (by decide)]; omega
    go_enter Try.func31, Try.ntmps31
    go_wp2_with fail
    go_region
    have hs := hA.set c (.int .i64 ((coLearn p 0 : Nat) : Int))
    rw [mcs_set] at hs
    go_wp2_with fail
    go_end0
    exact ⟨rfl, hs.drew, grown_set _ _ _ _⟩
  · go_enter Try.func31, Try.ntmps31
    go_wp2_with fail
    go_region
    have e : (p : Int) + (4096 - (p : Int)) / 32 = ((coLearn p 1 : Nat) : Int) := by unfold coLearn; rw [if_pos rfl]; omega
    rw [e]
    have hs := hA.set c (.int .i64 ((coLearn p 1 : Nat) : Int))
    rw [mcs_set] at hs
    go_wp2_with fail
    go_end0
    exact ⟨rfl, hs.drew, grown_set _ _ _ _⟩
end Go.Proofs.Ytpbebmbkcpdbeaa
