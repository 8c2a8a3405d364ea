/-
  Bytes32, Text, Short, Few, Joined of the specification.
-/
import Derived.Test.YthmhmjdppldmiaaDoorRefSum
import Derived.Test.YthmhmjdppldmiaaDoorStrSum
namespace Go.Proofs.YthmhmjdppldmiaaDoor
open Go.RowKit

theorem bcs_at {l : List UInt8} {i : Nat} (h : i < l.length) : ∃ b, l[i]? = some b ∧ (bcs l)[i]? = some (bc b) := ⟨l[i], List.getElem?_eq_getElem h, by unfold bcs; rw [List.getElem?_map, List.getElem?_eq_getElem h]; rfl⟩
theorem bc_one (b : UInt8) : (bc b).oneCell' = true := rfl
theorem take_next {l : List UInt8} {i : Nat} {b : UInt8} (h : l[i]? = some b) : l.take i ++ [b] = l.take (i + 1) := by
  have hi := (List.getElem?_eq_some_iff.1 h).1
  rw [List.take_succ_eq_append_getElem hi]
  congr 2
  rw [List.getElem?_eq_getElem hi] at h
  exact (Option.some.inj h).symm

set_option maxRecDepth 100000 in
set_option maxHeartbeats 1000000 in
theorem bytes32_any (l : List UInt8) (w : World) (hl : l.length = 32) : Calls Tryd.prog 20 #[.agg (bcs l).toArray] w fun e w' => e = .returned (sv l) ∧ Below w.heap.size w w' := by
  have HL := Lib.hid hl
  clear hl
  go_enter Tryd.func20, Tryd.ntmps20
  go_wp2_with (with_reducible refine bxArr (cs := bcs l) (.tmp 0) (wn rfl) rfl rfl ?_)
  intro w1 h1 hb
  go_wp2_with fail
  go_loopw [3, 4] (fun v iv_ wr => ∃ i : Nat, i ≤ 32 ∧ iv_ = .int .i64 i ∧ wr.ownsRow w1.heap.size 5 1 v i (bcs (l.take i)) ∧ Below w1.heap.size w1 wr) (fun _ iv_ _ => 32 - (intOf iv_).toNat)
  case atStart => exact ⟨0, by omega, rfl, World.ownsRow_nil _ _ _ _, Below.refl _ _⟩
  case round =>
    obtain ⟨i, hi, rfl, hown, hbw⟩ := hrel
    by_cases hlt : i < 32
    · obtain ⟨b, hb1, hb2⟩ := bcs_at (l := l) (i := i) (by rw [HL.out]; exact hlt)
      have hc : wr.cell? ⟨w.heap.size, i, none⟩ = some (.int .u8 (b.toNat : Int)) := (h1.below hbw h1.lt).cell hb2
      have hnx := take_next hb1
      have HNX := Lib.hid hnx
      clear hnx hb1 hb2
      go_wp2_with (at_builtin; with_reducible refine app1 _ _ Tryd.sl_u8 (wn rfl) rfl rfl rfl hown hbw (Nat.le_refl _) rfl (by omega) (by omega) ?_)
      intro v' w' h3 h4 _
      rw [show (Value.int .u8 (b.toNat : Int)) = bc b from rfl, bcs_snoc, HNX.out] at h3
      clear hown hbw hc
      go_wp2_with fail
      go_roundw
      case rel => exact ⟨i + 1, by omega, by go_num, h3, h4⟩
      case measure => (simp [intOf]; try omega)
    · obtain rfl : i = 32 := by omega
      rw [List.take_of_length_le (by rw [HL.out]; exact Nat.le_refl _)] at hown
      obtain ⟨A, c, rfl, hrd⟩ := Rd.of_own hown
      go_wp2_with (with_reducible refine convStr (.tmp 15) l Tryd.sl_u8.und Tryd.und_u8 Tryd.und_str (wn rfl) rfl rfl hrd ?_)
      go_wp2_with fail
      go_ret
      exact ⟨rfl, hb.trans (hbw.mono hb.size)⟩
set_option maxRecDepth 100000 in
set_option maxHeartbeats 1000000 in
theorem text_any (l : List UInt8) (w : World) (hl : l.length = 16) : Calls Tryd.prog 26 #[.agg (bcs l).toArray] w fun e w' => e = .returned (sv l) ∧ Below w.heap.size w w' := by
  have HL := Lib.hid hl
  clear hl
  go_enter Tryd.func26, Tryd.ntmps26
  go_wp2_with (with_reducible refine bxArr (cs := bcs l) (.tmp 0) (wn rfl) rfl rfl ?_)
  intro w1 h1 hb
  go_wp2_with fail
  go_loopw [3, 4] (fun v iv_ wr => ∃ i : Nat, i ≤ 16 ∧ iv_ = .int .i64 i ∧ wr.ownsRow w1.heap.size 5 1 v i (bcs (l.take i)) ∧ Below w1.heap.size w1 wr) (fun _ iv_ _ => 16 - (intOf iv_).toNat)
  case atStart => exact ⟨0, by omega, rfl, World.ownsRow_nil _ _ _ _, Below.refl _ _⟩
  case round =>
    obtain ⟨i, hi, rfl, hown, hbw⟩ := hrel
    by_cases hlt : i < 16
    · obtain ⟨b, hb1, hb2⟩ := bcs_at (l := l) (i := i) (by rw [HL.out]; exact hlt)
      have hc : wr.cell? ⟨w.heap.size, i, none⟩ = some (.int .u8 (b.toNat : Int)) := (h1.below hbw h1.lt).cell hb2
      have hnx := take_next hb1
      have HNX := Lib.hid hnx
      clear hnx hb1 hb2
      go_wp2_with (at_builtin; with_reducible refine app1 _ _ Tryd.sl_u8 (wn rfl) rfl rfl rfl hown hbw (Nat.le_refl _) rfl (by omega) (by omega) ?_)
      intro v' w' h3 h4 _
      rw [show (Value.int .u8 (b.toNat : Int)) = bc b from rfl, bcs_snoc, HNX.out] at h3
      clear hown hbw hc
      go_wp2_with fail
      go_roundw
      case rel => exact ⟨i + 1, by omega, by go_num, h3, h4⟩
      case measure => (simp [intOf]; try omega)
    · obtain rfl : i = 16 := by omega
      rw [List.take_of_length_le (by rw [HL.out]; exact Nat.le_refl _)] at hown
      obtain ⟨A, c, rfl, hrd⟩ := Rd.of_own hown
      go_wp2_with (with_reducible refine convStr (.tmp 15) l Tryd.sl_u8.und Tryd.und_u8 Tryd.und_str (wn rfl) rfl rfl hrd ?_)
      go_wp2_with fail
      go_ret
      exact ⟨rfl, hb.trans (hbw.mono hb.size)⟩
end Go.Proofs.YthmhmjdppldmiaaDoor
