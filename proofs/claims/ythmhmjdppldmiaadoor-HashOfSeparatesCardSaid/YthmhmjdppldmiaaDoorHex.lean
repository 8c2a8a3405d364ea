/-
  hex of the statements returns the hexadecimal digits of a text.
-/
import Derived.Test.YthmhmjdppldmiaaDoorEqual
import Derived.Test.YthmhmjdppldmiaaDoorRows5
namespace Go.Proofs.YthmhmjdppldmiaaDoor
open Go.RowKit

def hexDigits : List UInt8 := [48, 49, 50, 51, 52, 53, 54, 55, 56, 57, 97, 98, 99, 100, 101, 102]
def hexd (n : Nat) : UInt8 := (hexDigits[n]?).getD 0
theorem hexd_get (n : Nat) (h : n < 16) : hexDigits[n]? = some (hexd n) := by
  unfold hexd
  rw [List.getElem?_eq_getElem (show n < hexDigits.length from h)]
  rfl
def hexOf (l : List UInt8) : List UInt8 := (l.map fun b => [hexd (b.toNat / 16), hexd (b.toNat % 16)]).flatten
theorem hexOf_len (l : List UInt8) : (hexOf l).length = 2 * l.length := by
  unfold hexOf
  induction l with
  | nil => rfl
  | cons a l ih => simp only [List.map_cons, List.flatten_cons, List.length_append, ih, List.length_cons, List.length_nil]; omega
theorem hexOf_next {l : List UInt8} {i : Nat} {b : UInt8} (h : l[i]? = some b) : hexOf (l.take (i + 1)) = hexOf (l.take i) ++ [hexd (b.toNat / 16), hexd (b.toNat % 16)] := by
  rw [← take_next h]
  unfold hexOf
  simp
theorem bcs2 (x y : UInt8) : [bc x, bc y] = bcs [x, y] := rfl

set_option maxRecDepth 100000 in
set_option maxHeartbeats 1000000 in
theorem hex_any (l : List UInt8) (w : World) (hl : l.length ≤ 1000000) : Calls Tryd.prog 25 #[sv l] w fun e w' => e = .returned (sv (hexOf l)) ∧ Below w.heap.size w w' := by
  unfold sv
  go_enter Tryd.func25, Tryd.ntmps25
  go_wp2_with fail
  go_loopw [4, 5] (fun v iv_ wr => ∃ i : Nat, i ≤ l.length ∧ iv_ = .int .i64 i ∧ wr.ownsRow w.heap.size 5 1 v (2 * i) (bcs (hexOf (l.take i))) ∧ Below w.heap.size w wr) (fun _ iv_ _ => l.length - (intOf iv_).toNat)
  case atStart => exact ⟨0, by omega, rfl, World.ownsRow_nil _ _ _ _, Below.refl _ _⟩
  case round =>
    obtain ⟨i, hi, rfl, hown, hb⟩ := hrel
    by_cases hlt : i < l.length
    · obtain ⟨b, hb1, _⟩ := bcs_at hlt
      have hnx := hexOf_next hb1
      have hbl := b.toNat_lt
      have HNX := Lib.hid hnx
      have HB := Lib.hid hb1
      clear hnx hb1
      go_wp2_with fail
      refine rgStart (fun _ => True) (by kernel_rfl) ?_
      refine rgTake (i := 0) (v := u4) rfl (by kernel_rfl) (wn rfl) (fun _ _ _ h => h) (fun w _ => by kernel_rfl) trivial ?_
      refine rgTake (i := 1) (v := .string ⟨hexDigits.toArray⟩) rfl (by kernel_rfl) (wn rfl) (fun _ _ _ h => h) (fun w _ => by kernel_rfl) trivial ?_
      refine rgTake (i := 2) (v := .string ⟨l.toArray⟩) rfl (by kernel_rfl) (wn rfl) (fun _ _ _ h => h) (fun w _ => by kernel_rfl) trivial ?_
      refine rgTake (i := 3) (v := .int .i64 (i : Int)) rfl (by kernel_rfl) (wn rfl) (fun _ _ _ h => h) (fun w _ => by kernel_rfl) trivial ?_
      refine rgIndexStr (kk := .i64) (i := 4) (.tmp 14) (.tmp 15) l i b Tryd.und_str rfl (by kernel_rfl) (wn rfl) (fun _ _ _ h => h) rfl (by kernel_rfl) (by kernel_rfl) rfl HB.out trivial ?_
      refine rgTake (i := 5) (v := .int .u8 ((b.toNat / 16 : Nat) : Int)) rfl (by kernel_rfl) (wn rfl) (fun _ _ _ h => h) (fun w _ => by go_simp; rw [IntKind.wrap_u8]; omega) trivial ?_
      refine rgIndexStr (kk := .u8) (i := 6) (.tmp 13) (.tmp 17) hexDigits (b.toNat / 16) _ Tryd.und_str rfl (by kernel_rfl) (wn rfl) (fun _ _ _ h => h) rfl (by kernel_rfl) (by kernel_rfl) rfl (hexd_get _ (by omega)) trivial ?_
      refine rgTake (i := 7) (v := .string ⟨hexDigits.toArray⟩) rfl (by kernel_rfl) (wn rfl) (fun _ _ _ h => h) (fun w _ => by kernel_rfl) trivial ?_
      refine rgTake (i := 8) (v := .string ⟨l.toArray⟩) rfl (by kernel_rfl) (wn rfl) (fun _ _ _ h => h) (fun w _ => by kernel_rfl) trivial ?_
      refine rgTake (i := 9) (v := .int .i64 (i : Int)) rfl (by kernel_rfl) (wn rfl) (fun _ _ _ h => h) (fun w _ => by kernel_rfl) trivial ?_
      refine rgIndexStr (kk := .i64) (i := 10) (.tmp 20) (.tmp 21) l i b Tryd.und_str rfl (by kernel_rfl) (wn rfl) (fun _ _ _ h => h) rfl (by kernel_rfl) (by kernel_rfl) rfl HB.out trivial ?_
      refine rgTake (i := 11) (v := .int .u8 ((b.toNat % 16 : Nat) : Int)) rfl (by kernel_rfl) (wn rfl) (fun _ _ _ h => h) (fun w _ => by go_simp; rw [Int.tmod_eq_emod_of_nonneg (by omega)]) trivial ?_
      refine rgIndexStr (kk := .u8) (i := 12) (.tmp 19) (.tmp 23) hexDigits (b.toNat % 16) _ Tryd.und_str rfl (by kernel_rfl) (wn rfl) (fun _ _ _ h => h) rfl (by kernel_rfl) (by kernel_rfl) rfl (hexd_get _ (by omega)) trivial ?_
      refine rgNext (i := 13) (by kernel_rfl) rfl ?_
      refine bsRow [bc (hexd (b.toNat / 16)), bc (hexd (b.toNat % 16))] Tryd.sl_u8 (wn rfl) rfl (by kernel_rfl) rfl (by omega) (by omega) (by intro v hv; simp only [List.mem_cons, List.not_mem_nil, or_false] at hv; rcases hv with rfl | rfl <;> rfl) ?_
      intro A5 w5 hrd hb5
      have hown5 := ownsRow_below hown.drew hb5 (Nat.le_refl _)
      have hbw : Below w.heap.size w w5 := hb.drew.trans (hb5.mono hb.size)
      refine rgBack trivial ?_
      refine rgNext (i := 14) (by kernel_rfl) rfl ?_
      refine appR (.tmp 12) (.tmp 25) Tryd.sl_u8 (wn rfl) rfl (by kernel_rfl) (by kernel_rfl) hown5 hrd (bcs_one [_, _]) hbw (Nat.le_refl _) (by omega) (by omega) ?_
      intro v' w' h3 h4 _
      refine rgBack trivial ?_
      refine rgTake (S := fun _ => True) (i := 15) (v := v') rfl (by kernel_rfl) (wn rfl) (fun _ _ _ h => h) (fun w _ => by kernel_rfl) trivial ?_
      refine rgDone (by kernel_rfl) ?_
      simp only [Act.put, List.setIfInBounds_toArray, List.set_cons_succ, List.set_cons_zero]
      clear hown hb hown5 hbw hrd hb5
      rw [bcs2, ← bcs_append, ← HNX.out] at h3
      go_wp2_with fail
      go_roundw
      case rel => exact ⟨i + 1, by omega, by go_num, ownsRow_count h3 (by omega) rfl, h4⟩
      case measure => (simp [intOf]; try omega)
    · obtain rfl : i = l.length := by omega
      rw [List.take_of_length_le (Nat.le_refl _)] at hown
      obtain ⟨A, c, rfl, hrd⟩ := Rd.of_own hown
      go_wp2_with (with_reducible refine convStr (.tmp 27) (hexOf l) Tryd.sl_u8.und Tryd.und_u8 Tryd.und_str (wn rfl) rfl rfl hrd ?_)
      go_wp2_with fail
      go_ret
      exact ⟨rfl, hb⟩
end Go.Proofs.YthmhmjdppldmiaaDoor
