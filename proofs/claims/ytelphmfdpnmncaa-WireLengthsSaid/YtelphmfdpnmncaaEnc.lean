/-
  wire.Bytes, list and Ints, Strings, and the reference's, return the bytes that the plain functions give, in a new row.
-/
import Derived.Test.YtelphmfdpnmncaaIntRef
namespace Go.Proofs.Ytelphmfdpnmncaa
open Go.RowKit

theorem Try.und_str : Try.prog.underlying 9 = some .string := by kernel_rfl

set_option maxRecDepth 100000 in
set_option maxHeartbeats 400000 in
theorem bytes_any (s : List UInt8) (w : World) (h : s.length ≤ 70368744177664) :
    Calls Try.prog 16 #[sv s] w (RetRow w 5 1 (encS s).length (bcs (encS s))) := by
  have hsz : (⟨s.toArray⟩ : ByteArray).size = s.length := by simp [ByteArray.size]
  have hel := enc_len s.length
  have HL := Lib.hid (show (enc s.length).length + s.length = (encS s).length by simp [encS])
  have HS := Lib.hid (show bcs (enc s.length) ++ bcs s = bcs (encS s) by simp [encS, bcs_append])
  unfold sv
  go_enter Try.func16, Try.ntmps16
  go_wp2_with fail
  refine (int_any _ _ (by omega) (by omega)).mono ?_
  rintro e w1 ⟨v, rfl, hown, hb⟩
  go_wp2_with (at_builtin; with_reducible refine appS _ _ ⟨s.toArray⟩ Try.sl_u8 Try.und_str (wn rfl) rfl rfl rfl hown hb (Nat.le_refl _) (by rw [hsz]; omega) ?_)
  intro v' w' h3 h4 _
  clear hown hb
  go_wp2
  go_ret
  exact ⟨_, rfl, ownsRow_count h3 HL.out HS.out, h4⟩

set_option maxRecDepth 100000 in
set_option maxHeartbeats 400000 in
theorem listInt_any (l : List Int) (A : Option Addr) (n c B : Nat) (w : World) (hr : Rd w B 1 A n c (l.map iv)) (hB : B ≤ w.heap.size) (hl : ∀ x ∈ l, isI64 x) (hlen : (encI l).length ≤ 70368744177664) :
    Calls Try.prog 38 #[.slice A n c, .func (.func 14) #[] #[]] w (RetRow w 5 1 (encI l).length (bcs (encI l))) := by
  obtain rfl : l.length = n := by have := hr.len; simpa using this
  have hcap := hr.cap
  have hle := hr.le
  have hcb : (enc l.length).length + (l.map enc).flatten.length = (encI l).length := by simp [encI]
  have HCB := Lib.hid hcb
  unfold maxLen at hcap
  go_enter Try.func38, Try.ntmps38
  go_wp2_with fail
  refine (int_any _ _ (by omega) (by omega)).mono ?_
  rintro e w1 ⟨v, rfl, hown, hb⟩
  clear hcb
  go_wp2_with fail
  go_loopw [5, 13] (fun v i wr => ∃ k : Nat, k ≤ l.length ∧ i = .int .i64 k ∧ wr.ownsRow w.heap.size 5 1 v (enc l.length ++ ((l.take k).map enc).flatten).length (bcs (enc l.length ++ ((l.take k).map enc).flatten)) ∧ Below w.heap.size w wr)
    (fun _ i _ => l.length - (intOf i).toNat)
  case atStart => exact ⟨0, Nat.zero_le _, rfl, by simpa using hown, hb⟩
  case round =>
    clear hown hb
    obtain ⟨k, hk, rfl, hown, hb⟩ := hrel
    by_cases hlt : k < l.length
    · obtain ⟨b, off, u, rfl, hbB, hu, hcell⟩ := hr.at1 hlt
      obtain ⟨x, hx, rfl⟩ : ∃ x, l[k]? = some x ∧ u = .int .i64 x := by
        rw [List.getElem?_map] at hu
        obtain ⟨x, hx, hxu⟩ := Option.map_eq_some_iff.1 hu
        exact ⟨x, hx, hxu.symm⟩
      have hcell' := (hb.cell (p := ⟨b, off + k, none⟩) (by show b < _; omega)).trans hcell
      obtain ⟨hx1, hx2⟩ := hl x (List.mem_of_getElem? hx)
      have hft := flat_take enc l k x hx
      have hfl := flat_take_le enc l (k + 1)
      have HF := Lib.hid hft
      have HX := Lib.hid hx
      have hel := enc_len x
      have HN : (enc l.length ++ ((l.take k).map enc).flatten).length ≤ 70368744177664 - (enc x).length := by
        have := HCB.out; rw [hft, List.length_append] at hfl; rw [List.length_append]; omega
      clear hft hfl hx hu hcell
      go_wp2_with fail
      refine (int_any _ _ hx1 hx2).mono ?_
      rintro e w1 hret
      obtain ⟨A1, c1, rfl, hown1, hrd1, hb1⟩ := hret.open
      have hownw := ownsRow_below hown hb1 (Nat.le_refl _)
      have hbw := hb.trans (hb1.mono hb.size)
      clear hret hown hb hb1 hown1
      go_wp2_with (at_builtin; with_reducible refine appR _ _ Try.sl_u8 (wn rfl) rfl rfl rfl hownw hrd1 (bcs_one _) hbw (Nat.le_refl _) (by omega) (by omega) ?_)
      intro v' w' h3 h4 _
      clear hownw hbw hrd1 hcell'
      go_wp2
      go_roundw
      case rel =>
        refine ⟨k + 1, by omega, by go_num, ?_, h4⟩
        rw [HF.out]
        exact ownsRow_count h3 (by simp; omega) (by simp [bcs_append])
      case measure => simp [intOf]; omega
    · obtain rfl : k = l.length := by omega
      have HS := Lib.hid (show enc l.length ++ ((l.take l.length).map enc).flatten = encI l by simp [encI])
      clear hlt
      go_wp2
      go_ret
      rw [HS.out] at hown
      exact ⟨_, rfl, hown, hb⟩
end Go.Proofs.Ytelphmfdpnmncaa
