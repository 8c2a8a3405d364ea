/-
  padded of the specification returns the message and its padding.
-/
import Derived.Test.YthmhmjdppldmiaaDoorWords
import Derived.Test.YthmhmjdppldmiaaDoorTab
import Derived.Laws.OwnMore
namespace Go.Proofs.YthmhmjdppldmiaaDoor
open Go.RowKit


/-- The place i of an eight byte number. -/
theorem be8_get (m i : Nat) (hi : i < 8) : (be8 m)[i]? = some (UInt8.ofNat (m / 2 ^ (56 - 8 * i))) := by
  rcases (show i = 0 ∨ i = 1 ∨ i = 2 ∨ i = 3 ∨ i = 4 ∨ i = 5 ∨ i = 6 ∨ i = 7 by omega) with rfl | rfl | rfl | rfl | rfl | rfl | rfl | rfl <;> simp [be8]
theorem be8_next (m i : Nat) (hi : i < 8) : (be8 m).take i ++ [UInt8.ofNat (m / 2 ^ (56 - 8 * i))] = (be8 m).take (i + 1) := by
  have h := be8_get m i hi
  have hl : i < (be8 m).length := by show i < 8; exact hi
  rw [List.getElem?_eq_getElem hl] at h
  rw [List.take_succ_eq_append_getElem hl, Option.some.inj h]
theorem pad_done (n k : Nat) (hk : k ≤ padLen n - 1) : ((n + 1 + k) % 64 = 56) ↔ k = padLen n - 1 := by
  unfold padLen at *
  by_cases h : n % 64 < 56
  · rw [if_pos h] at *; omega
  · rw [if_neg h] at *; omega
theorem padLen_pos (n : Nat) : 1 ≤ padLen n ∧ padLen n ≤ 64 := by unfold padLen; split <;> omega
theorem shr_byte (n i : Nat) : Value.int .u8 (8 * (n : Int) / 2 ^ (56 - 8 * i) % 256) = bc (UInt8.ofNat (8 * n / 2 ^ (56 - 8 * i))) := by
  unfold bc
  congr 1

set_option maxRecDepth 100000 in
set_option maxHeartbeats 1000000 in
theorem padded_any (l : List UInt8) (A : Option Addr) (n c B : Nat) (w : World) (hr : Rd w B 1 A n c (bcs l)) (hB : B ≤ w.heap.size) (hn : n ≤ 1099511627776) :
    Calls Tryd.prog 27 #[.slice A n c] w (RetRow w 5 1 (l ++ padding l.length).length (bcs (l ++ padding l.length))) := by
  have hl : l.length = n := by have := hr.len; simpa [bcs] using this
  have HL := Lib.hid hl
  clear hl
  generalize hN : (l ++ padding l.length).length = N
  generalize hX : bcs (l ++ padding l.length) = X
  have HN := Lib.hid hN
  have HX := Lib.hid hX
  clear hN hX
  have hown0 := World.ownsRow_lit (base := w.heap.size) (e := 5) (size := 1) w #[] 0 (Nat.le_refl _) (by unfold maxLen; omega) rfl
  have hb0 : Below w.heap.size w (w.alloc (.cells #[] 5)) := (Below.refl _ _).alloc (Nat.le_refl _) _
  go_enter Tryd.func27, Tryd.ntmps27
  go_wp2_with (at_builtin; with_reducible refine appR _ _ Tryd.sl_u8 (wn rfl) rfl rfl rfl hown0 (hr.alloc hB _) (bcs_one l) hb0 (Nat.le_refl _) (by omega) (by omega) ?_)
  intro v1 w1 hown hb _
  clear hown0 hb0 hr
  have hp := padLen_pos n
  go_wp2_with (at_builtin; with_reducible refine app1 _ _ Tryd.sl_u8 (wn rfl) rfl rfl rfl hown hb (Nat.le_refl _) rfl (by omega) (by omega) ?_)
  intro v2 w2 hown2 hb2 _
  clear hown hb
  go_wp2_with fail
  go_loopw [3] (fun v wr => ∃ k : Nat, k ≤ padLen n - 1 ∧ wr.ownsRow w.heap.size 5 1 v (n + 1 + k) (bcs (l ++ 128 :: List.replicate k 0)) ∧ Below w.heap.size w wr) (fun v _ => padLen n - (match v with | .slice _ m _ => m - n | _ => 0))
  case atStart => exact ⟨0, by omega, ownsRow_count hown2 rfl (by rw [show (Value.int .u8 128) = bc 128 from rfl, bcs_snoc]; rfl), hb2⟩
  case round =>
    clear hown2 hb2
    obtain ⟨k, hk, hown, hb⟩ := hrel
    obtain ⟨A3, c3, rfl, _⟩ := Rd.of_own hown
    have hpd := pad_done n k hk
    by_cases hd : k = padLen n - 1
    · have hd' : (n + 1 + k) % 64 = 56 := hpd.2 hd
      have HD := Lib.hid hd
      have hbq : (((n : Int) + 1 + (k : Int)) % 64 != 56) = false := by rw [bne_eq_false_iff_eq]; omega
      clear hpd hd hd'
      go_wp2_with fail
      clear hbq
      go_loopw [3, 5] (fun v iv_ wr => ∃ i : Nat, i ≤ 8 ∧ iv_ = .int .i64 i ∧ wr.ownsRow w.heap.size 5 1 v (n + 1 + k + i) (bcs (l ++ 128 :: (List.replicate k 0 ++ (be8 (8 * n)).take i))) ∧ Below w.heap.size w wr) (fun _ iv_ _ => 8 - (intOf iv_).toNat)
      case atStart => exact ⟨0, by omega, rfl, by simpa using hown, hb⟩
      case round =>
        clear hown hb
        rename_i wo wr
        obtain ⟨i, hi8, rfl, hown, hb⟩ := hrel
        obtain ⟨A4, c4, rfl, _⟩ := Rd.of_own hown
        by_cases hi : i < 8
        · have e1 : (56 - 8 * (i : Int)).toNat = 56 - 8 * i := by omega
          go_wp2_with (at_builtin; with_reducible refine app1 _ _ Tryd.sl_u8 (wn rfl) rfl rfl rfl hown hb (Nat.le_refl _) rfl (by omega) (by omega) ?_)
          intro v5 w5 hown5 hb5 _
          rw [shr_byte, bcs_snoc] at hown5
          clear hown hb
          have hnx := be8_next (8 * n) i hi
          have HNX := Lib.hid hnx
          clear hnx
          go_wp2_with fail
          go_roundw
          case rel => exact ⟨i + 1, by omega, by go_num, ownsRow_count hown5 (by omega) (by rw [← HNX.out]; congr 1; simp), hb5⟩
          case measure => simp [intOf]; omega
        · obtain rfl : i = 8 := by omega
          have hfin : N = n + 1 + k + 8 ∧ X = bcs (l ++ 128 :: (List.replicate k 0 ++ (be8 (8 * n)).take 8)) := by
            rw [← HN.out, ← HX.out, HL.out, HD.out]
            refine ⟨?_, rfl⟩
            unfold padding
            simp [be8, HL.out]
            omega
          have HF := Lib.hid hfin
          clear hfin
          go_wp2_with fail
          go_ret
          exact ⟨_, rfl, ownsRow_count hown HF.out.1.symm HF.out.2.symm, hb⟩
    · have hd' : ¬ (n + 1 + k) % 64 = 56 := fun h => hd (hpd.1 h)
      have hk' : k < padLen n - 1 := by omega
      clear hpd hd
      go_wp2_with (at_builtin; with_reducible refine app1 _ _ Tryd.sl_u8 (wn rfl) rfl rfl rfl hown hb (Nat.le_refl _) rfl (by omega) (by omega) ?_)
      intro v5 w5 hown5 hb5 _
      clear hown hb
      obtain ⟨A5, c5, rfl, _⟩ := Rd.of_own hown5
      go_wp2_with fail
      go_roundw
      case rel => exact ⟨k + 1, by omega, ownsRow_count hown5 (by omega) (by rw [show (Value.int .u8 0) = bc 0 from rfl, bcs_snoc]; congr 1; rw [List.append_assoc, List.cons_append, ← List.replicate_succ']), hb5⟩
      case measure => simp; omega
end Go.Proofs.YthmhmjdppldmiaaDoor
