/-
  slices.Clone, digest, list and Digests, and the reference's Digests return the bytes that the plain function gives, in a new row.
-/
import Derived.Test.YtelphmfdpnmncaaEnc2
namespace Go.Proofs.Ytelphmfdpnmncaa
open Go.RowKit

set_option maxRecDepth 100000 in
set_option maxHeartbeats 400000 in
theorem clone_any (xs : List Value) (p : Addr) (n c B : Nat) (w : World) (hr : Rd w B 1 (some p) n c xs) (hB : B ≤ w.heap.size) (h1 : ∀ u ∈ xs, u.oneCell' = true) (hn : n ≤ 70368744177664) :
    Calls Try.prog 48 #[.slice (some p) n c] w (RetRow w 5 1 n xs) := by
  have hown : (w.alloc (.cells #[] 5)).ownsRow w.heap.size 5 1 (.slice (some ⟨w.heap.size, 0, none⟩) 0 0) 0 [] := World.ownsRow_lit w #[] 0 (Nat.le_refl _) (Nat.zero_le _) rfl
  have hb : Below w.heap.size w (w.alloc (.cells #[] 5)) := (Below.refl _ _).alloc (Nat.le_refl _) _
  have hr2 := hr.alloc hB (.cells #[] 5)
  have hnil := @Lib.run_eql_slice_nil Try.prog
  go_enter Try.func48, Try.ntmps48
  go_wp2_with (at_builtin; with_reducible refine appR _ _ Try.sl_u8 (wn rfl) rfl rfl rfl hown hr2 h1 hb (Nat.le_refl _) (by omega) (by omega) ?_)
  intro v' w' h3 h4 _
  clear hown hb hr2 hnil
  go_wp2
  go_ret
  exact ⟨_, rfl, ownsRow_count h3 (by simp) (by simp), h4⟩

def digZero : Array Value := Array.replicate 16 (.int .u8 0)
theorem Try.ag_dig : AgTy Try.prog 57 digZero 16 := ⟨by kernel_rfl, by kernel_rfl, by simp [digZero]⟩

theorem rd_agg (w : World) (cs : List Value) (t : TypeId) (h : cs.length ≤ maxLen) : Rd (w.alloc (.cells cs.toArray t)) (w.heap.size + 1) 1 (some ⟨w.heap.size, 0, none⟩) cs.length cs.length cs := by
  refine ⟨by simp, Nat.le_refl _, h, fun _ => ⟨w.heap.size, 0, rfl, by omega, fun j u hu => ?_⟩⟩
  rw [World.cell?_alloc_at _ t w.heap.size (0 + j) rfl]
  simpa using hu

set_option maxRecDepth 100000 in
set_option maxHeartbeats 400000 in
theorem digest_any (D : List UInt8) (hD : D.length = 16) (w : World) :
    Calls Try.prog 41 #[.agg (bcs D).toArray] w (RetRow w 5 1 16 (bcs D)) := by
  have hr := rd_agg w (bcs D) 57 (by rw [bcs_length, hD]; decide)
  rw [bcs_length, hD] at hr
  have HD := Lib.hid hD
  clear hD
  go_enter Try.func41, Try.ntmps41
  go_wp2_with fail
  refine (clone_any _ _ _ _ _ _ hr (by simp) (bcs_one _) (by omega)).mono ?_
  rintro e w1 ⟨v, rfl, hown, hb⟩
  clear hr
  go_wp2_with fail
  go_ret
  exact ⟨_, rfl, ownsRow_base hown (by simp), ((Below.refl _ _).alloc (Nat.le_refl _) _).trans (hb.mono (by simp))⟩

set_option maxRecDepth 100000 in
set_option maxHeartbeats 400000 in
theorem listDig_any (D : List UInt8) (A : Option Addr) (n c B : Nat) (w : World) (hr : Rd w B 16 A n c (bcs D)) (hB : B ≤ w.heap.size) (hlen : (encD n D).length ≤ 70368744177664) :
    Calls Try.prog 40 #[.slice A n c, .func (.func 41) #[] #[]] w (RetRow w 5 1 (encD n D).length (bcs (encD n D))) := by
  have hD : D.length = n * 16 := by have := hr.len; rwa [bcs_length] at this
  have hcap := hr.cap
  have hle := hr.le
  have hcb : (enc n).length + D.length = (encD n D).length := by simp [encD]
  unfold maxLen at hcap
  go_enter Try.func40, Try.ntmps40
  go_wp2_with fail
  refine (int_any _ _ (by omega) (by omega)).mono ?_
  rintro e w1 ⟨v, rfl, hown, hb⟩
  have HCB := Lib.hid hcb
  have HD := Lib.hid hD
  clear hcb hD
  go_wp2_with fail
  go_loopw [5, 13] (fun v i wr => ∃ k : Nat, k ≤ n ∧ i = .int .i64 k ∧ wr.ownsRow w.heap.size 5 1 v (enc n ++ D.take (k * 16)).length (bcs (enc n ++ D.take (k * 16))) ∧ Below w.heap.size w wr)
    (fun _ i _ => n - (intOf i).toNat)
  case atStart => exact ⟨0, Nat.zero_le _, rfl, by simpa using hown, hb⟩
  case round =>
    clear hown hb
    obtain ⟨k, hk, rfl, hown, hb⟩ := hrel
    by_cases hlt : k < n
    · obtain ⟨b, off, rfl, hbB, hcell⟩ := hr.cells (by omega)
      obtain ⟨Dk, hDk⟩ : ∃ x, x = (D.drop (k * 16)).take 16 := ⟨_, rfl⟩
      have hk16 : Dk.length = 16 := by have := HD.out; rw [hDk, List.length_take, List.length_drop]; omega
      have htk : D.take ((k + 1) * 16) = D.take (k * 16) ++ Dk := by
        rw [hDk, show (k + 1) * 16 = k * 16 + 16 from by omega, List.take_add]
      have hcs : ∀ j u, (bcs Dk)[j]? = some u → wr.cell? ⟨b, off + k * 16 + j, none⟩ = some u := by
        intro j u hj
        refine (hb.cell (p := ⟨b, off + k * 16 + j, none⟩) (by show b < _; omega)).trans ?_
        rw [Nat.add_assoc]
        refine hcell _ _ ?_
        rw [← hj, hDk, bcs, bcs, List.getElem?_map, List.getElem?_map, List.getElem?_take, List.getElem?_drop]
        have hjl := (List.getElem?_eq_some_iff.1 hj).1
        rw [bcs_length, hk16] at hjl
        rw [if_pos hjl]
      have HC := Lib.hid hcs
      have HT := Lib.hid htk
      have HK := Lib.hid hk16
      have HN : (enc n ++ D.take (k * 16)).length ≤ 70368744177664 - 16 := by
        have h1 := congrArg List.length htk
        have h2 : (D.take ((k + 1) * 16)).length ≤ D.length := by rw [List.length_take]; omega
        have := HCB.out
        rw [List.length_append] at h1 ⊢
        omega
      clear hcell hDk hcs htk hk16
      go_wp2_with (first | (with_reducible refine ldAgg (.tmp 15) (bcs Dk) Try.ag_dig (wn rfl) rfl rfl (by rw [bcs_length]; exact HK.out) HC.out ?_) | (with_reducible refine alAgg Try.ag_dig (wn rfl) rfl ?_) | (with_reducible refine stNew (.tmp 7) (.tmp 16) Try.ag_dig (wn rfl) rfl rfl rfl Try.ag_dig.zs (by rw [List.size_toArray, bcs_length]; exact HK.out) (by simpa using bcs_one Dk) ?_) | (with_reducible refine ldAgg (.tmp 7) (bcs Dk) Try.ag_dig (wn rfl) rfl rfl (by rw [bcs_length]; exact HK.out) (by intro j u hu; rw [World.cell?_alloc_at _ _ _ _ rfl]; simpa using hu) ?_))
      refine (digest_any Dk HK.out _).mono ?_
      rintro e w1 hret
      obtain ⟨A1, c1, rfl, hown1, hrd1, hb1⟩ := hret.open
      have hownw := ownsRow_below (hown.alloc _) hb1 (Nat.le_refl _)
      have hbw := (hb.alloc hb.size _).trans (hb1.mono (by have := hb.size; simp; omega))
      clear hret hown hb hb1 hown1 HC
      go_wp2_with (at_builtin; with_reducible refine appR _ _ Try.sl_u8 (wn rfl) rfl rfl rfl hownw hrd1 (bcs_one _) hbw (Nat.le_refl _) (by omega) (by omega) ?_)
      intro v' w' h3 h4 _
      clear hownw hbw hrd1
      go_wp2
      go_roundw
      case rel =>
        refine ⟨k + 1, by omega, by go_num, ?_, h4⟩
        rw [HT.out]
        exact ownsRow_count h3 (by have := HK.out; simp; omega) (by simp [bcs_append])
      case measure => simp [intOf]; omega
    · obtain rfl : k = n := by omega
      have HS := Lib.hid (show enc k ++ D.take (k * 16) = encD k D by rw [← HD.out, List.take_length]; rfl)
      clear hlt
      go_wp2
      go_ret
      rw [HS.out] at hown
      exact ⟨_, rfl, hown, hb⟩
end Go.Proofs.Ytelphmfdpnmncaa
