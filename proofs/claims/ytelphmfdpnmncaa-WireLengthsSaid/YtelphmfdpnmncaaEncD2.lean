/-
  The reference's Digests and wire.Digests return the bytes that the plain function gives, in a new row.
-/
import Derived.Test.YtelphmfdpnmncaaEncD
namespace Go.Proofs.Ytelphmfdpnmncaa
open Go.RowKit

set_option maxRecDepth 100000 in
set_option maxHeartbeats 400000 in
theorem refDigs_any (D : List UInt8) (A : Option Addr) (n c B : Nat) (w : World) (hr : Rd w B 16 A n c (bcs D)) (hB : B ≤ w.heap.size) (hlen : (encD n D).length ≤ 70368744177664) :
    Calls Try.prog 23 #[.slice A n c] w (RetRow w 5 1 (encD n D).length (bcs (encD n D))) := by
  have hD : D.length = n * 16 := by have := hr.len; rwa [bcs_length] at this
  have hcap := hr.cap
  have hle := hr.le
  have hcb : (enc n).length + D.length = (encD n D).length := by simp [encD]
  unfold maxLen at hcap
  go_enter Try.func23, Try.ntmps23
  go_wp2_with fail
  refine (refInt_any _ _ (by omega) (by omega)).mono ?_
  rintro e w1 ⟨v, rfl, hown, hb⟩
  have HCB := Lib.hid hcb
  have HD := Lib.hid hD
  clear hcb hD
  go_wp2_with fail
  go_loopw [3, 4] (fun v i wr => ∃ k : Nat, k ≤ n ∧ i = .int .i64 k ∧ wr.ownsRow w.heap.size 5 1 v (enc n ++ D.take (k * 16)).length (bcs (enc n ++ D.take (k * 16))) ∧ Below w.heap.size w wr)
    (fun _ i _ => n - (intOf i).toNat)
  case atStart => exact ⟨0, Nat.zero_le _, rfl, by simpa using hown, hb⟩
  case round =>
    clear hown hb
    obtain ⟨k, hk, rfl, hown, hb⟩ := hrel
    by_cases hlt : k < n
    · obtain ⟨b, off, rfl, hbB, hcell⟩ := hr.cells (by omega)
      obtain ⟨Dk, hDk⟩ : ∃ x, x = (D.drop (k * 16)).take 16 := ⟨_, rfl⟩
      have hk16 : Dk.length = 16 := by have := HD.out; rw [hDk, List.length_take, List.length_drop]; omega
      have htk : D.take ((k + 1) * 16) = D.take (k * 16) ++ Dk := by
        rw [hDk, show (k + 1) * 16 = k * 16 + 16 from by omega, List.take_add]
      have hcs : ∀ j u, (bcs Dk)[j]? = some u → wr.cell? ⟨b, off + k * 16 + j, none⟩ = some u := by
        intro j u hj
        refine (hb.cell (p := ⟨b, off + k * 16 + j, none⟩) (by show b < _; omega)).trans ?_
        rw [Nat.add_assoc]
        refine hcell _ _ ?_
        rw [← hj, hDk, bcs, bcs, List.getElem?_map, List.getElem?_map, List.getElem?_take, List.getElem?_drop]
        have hjl := (List.getElem?_eq_some_iff.1 hj).1
        rw [bcs_length, hk16] at hjl
        rw [if_pos hjl]
      have HC := Lib.hid hcs
      have HT := Lib.hid htk
      have HK := Lib.hid hk16
      have HN : (enc n ++ D.take (k * 16)).length ≤ 70368744177664 - 16 := by
        have h1 := congrArg List.length htk
        have h2 : (D.take ((k + 1) * 16)).length ≤ D.length := by rw [List.length_take]; omega
        have := HCB.out
        rw [List.length_append] at h1 ⊢
        omega
      clear hcell hDk hcs htk hk16
      have hrd : Rd wr B 1 (some ⟨b, off + k * 16, none⟩) 16 16 (bcs Dk) := ⟨by rw [bcs_length]; exact HK.out, by omega, by decide, fun _ => ⟨b, off + k * 16, rfl, hbB, HC.out⟩⟩
      clear HC
      go_wp2_with (at_builtin; with_reducible refine appR _ _ Try.sl_u8 (wn rfl) rfl rfl rfl hown hrd (bcs_one _) hb (Nat.le_refl _) (by omega) (by omega) ?_)
      intro v' w' h3 h4 _
      clear hown hb hrd
      go_wp2
      go_roundw
      case rel =>
        refine ⟨k + 1, by omega, by go_num, ?_, h4⟩
        rw [HT.out]
        exact ownsRow_count h3 (by have := HK.out; simp; omega) (by simp [bcs_append])
      case measure => simp [intOf]; omega
    · obtain rfl : k = n := by omega
      have HS := Lib.hid (show enc k ++ D.take (k * 16) = encD k D by rw [← HD.out, List.take_length]; rfl)
      clear hlt
      go_wp2
      go_ret
      rw [HS.out] at hown
      exact ⟨_, rfl, hown, hb⟩

set_option maxRecDepth 100000 in
set_option maxHeartbeats 400000 in
theorem digs_any (D : List UInt8) (A : Option Addr) (n c B : Nat) (w : World) (hr : Rd w B 16 A n c (bcs D)) (hB : B ≤ w.heap.size) (hlen : (encD n D).length ≤ 70368744177664) :
    Calls Try.prog 22 #[.slice A n c] w (RetRow w 5 1 (encD n D).length (bcs (encD n D))) := by
  have H := listDig_any D A n c B w hr hB hlen
  go_enter Try.func22, Try.ntmps22
  go_wp2_with fail
  refine H.mono ?_
  clear H
  rintro e w1 ⟨v, rfl, hown, hb⟩
  go_wp2_with fail
  go_ret
  exact ⟨_, rfl, hown, hb⟩
end Go.Proofs.Ytelphmfdpnmncaa
