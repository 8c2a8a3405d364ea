/-
  hash.Mac returns the code that the plain function gives.
-/
import Derived.Test.YthmhmjdppldmiaaDoorMac
import Derived.Test.YthmhmjdppldmiaaDoorSum
import Derived.Deep.DeepCutAuto
namespace Go.Proofs.YthmhmjdppldmiaaDoor
open Go.RowKit

theorem Tryd.arr_b32 : Tryd.prog.underlying 24 = some (.array 32 5) := by kernel_rfl
/-- What each operation of the last region leaves. -/
def GMac (B : Nat) (key inner : List UInt8) (i : Nat) (v : Value) (w : World) : Prop :=
  match i with
  | 0 => IsStr [] v
  | 2 => v = sv (xorPad key 92)
  | 3 => IsStr (xorPad key 92) v
  | 5 => v = sv inner
  | 6 => IsStr (xorPad key 92 ++ inner) v
  | 7 => v = .agg (bcs (sha (xorPad key 92 ++ inner))).toArray
  | 8 => ∃ g, v = .pointer (some ⟨g, 0, none⟩) ∧ Arr w g 24 (zerosB 32) ∧ B ≤ g
  | _ => True
set_option maxRecDepth 100000 in
set_option maxHeartbeats 2000000 in
theorem mac_any (k t : List UInt8) (w : World) (ht : Tabs w) (hk : k.length ≤ 100000000) (htl : t.length ≤ 100000000) : Calls Tryd.prog 18 #[sv k, sv t] w fun e w' => e = .returned (sv (mac k t)) ∧ Below w.heap.size w w' := by
  unfold sv
  go_enter Tryd.func18, Tryd.ntmps18
  go_wp2_with (with_reducible refine bxOne (.tmp 0) (wn rfl) rfl rfl rfl ?_)
  intro w1 h2 hb
  have c2 : w1.cell? ⟨w.heap.size, 0, none⟩ = some (.string ⟨k.toArray⟩) := h2.cell (i := 0) rfl
  go_upto_if 11 with (fail)
  go_cut [2] (fun s2 wc => s2 = .pointer (some ⟨w.heap.size, 0, none⟩) ∧ Arr wc w.heap.size 9 [sv (macKey k)] ∧ Below w.heap.size w wc)
  case first =>
    by_cases hlong : 64 < k.length
    · have hmk : macKey k = sha k := by unfold macKey; rw [if_pos hlong]
      have HM := Lib.hid hmk
      have hl32 : (bcs (sha k)).length = 32 := by rw [bcs_length]; exact outOf_len _
      have HL32 := Lib.hid hl32
      clear hmk hl32
      have hsz := h2.lt
      go_wp2_with (with_reducible refine convBs (.tmp 12) k Tryd.und_str Tryd.sl_u8.und Tryd.und_u8 (wn rfl) rfl rfl (by omega) ?_)
      intro A5 c5 w5 hrd hb5
      replace h2 := h2.below hb5 h2.lt
      replace hb := hb.trans (hb5.mono hb.size)
      clear hb5 c2
      go_wp2_with fail
      refine (sum_any k A5 _ c5 _ w5 (ht.below hb ht.size) hrd (Nat.le_refl _) (by omega)).mono ?_
      rintro e w6 ⟨rfl, hb6⟩
      replace h2 := h2.below hb6 h2.lt
      replace hb := hb.trans (hb6.mono hb.size)
      clear hb6 hrd
      go_wp2_with (with_reducible refine alArr (z := zerosB 32) Tryd.ag_b32 (wn rfl) rfl ?_)
      intro w7 h5 hb7
      have h57 := h2.lt
      replace h2 := h2.below hb7 h2.lt
      replace hb := hb.trans (hb7.mono hb.size)
      clear hb7
      generalize w6.heap.size = g5 at *
      go_wp2_with (with_reducible refine stArr (cs := bcs (sha k)) (.tmp 5) (.tmp 14) Tryd.ag_b32 (wn rfl) rfl rfl rfl h5 (zerosB_len _) HL32.out (bcs_one _) ?_)
      intro w8 h5 hkeep hbel
      replace h2 := hkeep _ _ _ (by omega) h2
      replace hb := hb.trans (hbel _ (by omega))
      clear hkeep hbel
      have hrd : Rd w8 w8.heap.size 1 (some ⟨g5, 0, none⟩) 32 32 (bcs (sha k)) := rd_of_arr h5 (fun _ _ h => h) HL32.out (Nat.le_refl _) (by unfold maxLen; omega) h5.lt
      have c2 : w8.cell? ⟨w.heap.size, 0, none⟩ = some (.string ⟨k.toArray⟩) := h2.cell (i := 0) rfl
      have f2 := h2.thaw 0
      go_wp2_with (first | (with_reducible refine slPtr (.tmp 5) Tryd.arr_b32 Tryd.one_u8 (by omega) (wn rfl) rfl rfl ?_) | (with_reducible refine convStr (.tmp 15) (sha k) Tryd.sl_u8.und Tryd.und_u8 Tryd.und_str (wn rfl) rfl rfl hrd ?_))
      go_wp2_with fail
      go_meet
      case rel => exact ⟨rfl, by rw [HM.out]; exact h2.set 0 _, hb.setCell (p := ⟨w.heap.size, 0, none⟩) (Nat.le_refl _) _⟩
    · have hmk : macKey k = k := by unfold macKey; rw [if_neg hlong]
      have HM := Lib.hid hmk
      clear hmk
      go_wp2_with fail
      go_meet
      case rel => exact ⟨rfl, by rw [HM.out]; exact h2, hb⟩
  case rest =>
    obtain ⟨rfl, h2, hb⟩ := hcut
    have hkl := macKey_le k
    have hmac : mac k t = sha (xorPad (macKey k) 92 ++ sha (xorPad (macKey k) 54 ++ t)) := rfl
    have HMAC := Lib.hid hmac
    have hi : (sha (xorPad (macKey k) 54 ++ t)).length = 32 := outOf_len _
    have ho : (sha (mac k t)).length = 32 := outOf_len _
    have p1 := xorPad_len 54 hkl
    have p2 := xorPad_len 92 hkl
    clear hmac ho
    generalize macKey k = key at *
    go_wp2_with fail
    refine (begin_any _).mono ?_
    rintro e w3 ⟨v1, rfl, hv1, hb3⟩
    replace h2 := h2.below hb3 h2.lt
    replace hb := hb.trans (hb3.mono hb.size)
    clear hb3
    have hpd := macPad_any key 54 w.heap.size w3 hkl h2
    have hpd : Calls Tryd.prog 31 #[.int .u8 54, .pointer (some ⟨w.heap.size, 0, none⟩)] w3 _ := hpd
    go_wp2_with fail
    refine hpd.mono ?_
    rintro e w4 ⟨rfl, hb4⟩
    replace h2 := h2.below hb4 h2.lt
    replace hb := hb.trans (hb4.mono hb.size)
    clear hb4 hpd
    go_wp2_with fail
    have hadd := add_any [] (xorPad key 54) v1 w4 (ht.below hb ht.size) hv1 (by rw [p1]; simp)
    rw [List.nil_append] at hadd
    refine hadd.mono ?_
    rintro e w5 ⟨v2, rfl, hv2, hb5⟩
    replace h2 := h2.below hb5 h2.lt
    replace hb := hb.trans (hb5.mono hb.size)
    clear hb5 hadd hv1
    go_wp2_with fail
    refine (add_any (xorPad key 54) t v2 w5 (ht.below hb ht.size) hv2 (by rw [p1]; omega)).mono ?_
    rintro e w6 ⟨v3, rfl, hv3, hb6⟩
    replace h2 := h2.below hb6 h2.lt
    replace hb := hb.trans (hb6.mono hb.size)
    clear hb6 hv2
    go_wp2_with fail
    refine (strSum_any _ v3 w6 (ht.below hb ht.size) hv3 (by rw [List.length_append, p1]; omega)).mono ?_
    rintro e w7 ⟨rfl, hb7⟩
    replace h2 := h2.below hb7 h2.lt
    replace hb := hb.trans (hb7.mono hb.size)
    clear hb7 hv3
    have HI := Lib.hid (show (bcs (sha (xorPad key 54 ++ t))).length = 32 by rw [bcs_length]; exact hi)
    clear hi
    generalize sha (xorPad key 54 ++ t) = inner at *
    go_wp2_with (with_reducible refine alArr (z := zerosB 32) Tryd.ag_b32 (wn rfl) rfl ?_)
    intro w8 h7 hb8
    have h27 := h2.lt
    replace h2 := h2.below hb8 h2.lt
    replace hb := hb.trans (hb8.mono hb.size)
    clear hb8
    generalize w7.heap.size = g7 at *
    go_wp2_with (with_reducible refine stArr (cs := bcs inner) (.tmp 7) (.tmp 24) Tryd.ag_b32 (wn rfl) rfl rfl rfl h7 (zerosB_len _) HI.out (bcs_one _) ?_)
    intro w9 h7 hkeep hbel
    replace h2 := hkeep _ _ _ (by omega) h2
    replace hb := hb.trans (hbel _ (by omega))
    clear hkeep hbel
    go_wp2_with fail
    refine aStart (by kernel_rfl) ?_
    replace h2 := h2.drew
    replace h7 := h7.drew
    replace hb := hb.drew
    generalize w9.drew = wd at *
    refine aTake (i := 1) (v := .func (.func 31) #[] #[.pointer (some ⟨w.heap.size, 0, none⟩)]) rfl (by kernel_rfl) (wn rfl) (fun _ _ _ h => h) (fun w => by kernel_rfl) ?_
    refine aTake (i := 4) (v := .slice (some ⟨g7, 0, none⟩) 32 32) rfl (by kernel_rfl) (wn rfl) (fun _ _ _ h => h) (fun w => by kernel_rfl) ?_
    refine rgFloat [(0, 25), (2, 27), (3, 28), (5, 30), (6, 31), (7, 32), (8, 8)] (GMac wd.heap.size key inner) _ 1 rfl (by kernel_rfl) ?mono ?step ?fin
    case mono =>
      intro p hp v w w' h hE
      simp only [List.mem_cons, List.not_mem_nil, or_false] at hp
      rcases hp with rfl | rfl | rfl | rfl | rfl | rfl | rfl
      · exact h
      · exact h
      · exact h
      · exact h
      · exact h
      · exact h
      · obtain ⟨g, h1, h2, h3⟩ := h
        exact ⟨g, h1, h2.below hE h2.lt, h3⟩
    case step =>
      intro p hp
      simp only [List.mem_cons, List.not_mem_nil, or_false] at hp
      rcases hp with rfl | rfl | rfl | rfl | rfl | rfl | rfl
      · refine ⟨_, rfl, rfl, fun a w' hF hE hG => ?_⟩
        refine callOp 14 [] [] [] (by kernel_rfl) (wn rfl) rfl rfl rfl ?_
        refine (begin_any w').mono ?_
        rintro e w2 ⟨v, rfl, hv, hbv⟩
        exact ⟨v, rfl, ⟨v, rfl, hbv, hv⟩⟩
      · refine ⟨_, rfl, rfl, fun a w' hF hE hG => ?_⟩
        refine callOp 31 [.int .u8 92] [] [.pointer (some ⟨w.heap.size, 0, none⟩)] (by kernel_rfl) (wn rfl) rfl ((hF.eval 26 (by kernel_rfl)).trans (by kernel_rfl)) rfl ?_
        refine (macPad_any key 92 w.heap.size w' hkl (h2.below hE h2.lt)).mono ?_
        rintro e w2 ⟨rfl, hbv⟩
        exact ⟨_, rfl, ⟨_, rfl, hbv, rfl⟩⟩
      · refine ⟨_, rfl, rfl, fun a w' hF hE hG => ?_⟩
        have g1 : IsStr [] (a.tmps.getD 25 undef) := hG (0, 25) (by simp) (by kernel_rfl)
        have g2 : a.tmps.getD 27 undef = sv (xorPad key 92) := hG (2, 27) (by simp) (by kernel_rfl)
        refine callOp 15 [a.tmps.getD 25 undef, sv (xorPad key 92)] [] [] (by kernel_rfl) (wn rfl) rfl rfl (by rw [← g2]; rfl) ?_
        refine (add_any [] (xorPad key 92) _ w' (ht.below (hb.trans (hE.mono hb.size)) ht.size) g1 (by rw [p2]; simp)).mono ?_
        rintro e w2 ⟨v, rfl, hv, hbv⟩
        exact ⟨v, rfl, ⟨v, rfl, hbv, hv⟩⟩
      · refine ⟨_, rfl, rfl, fun a w' hF hE hG => ?_⟩
        have h7' := h7.below hE h7.lt
        have hrd : Rd w' w'.heap.size 1 (some ⟨g7, 0, none⟩) 32 32 (bcs inner) := rd_of_arr h7' (fun _ _ h => h) HI.out (Nat.le_refl _) (by unfold maxLen; omega) h7'.lt
        refine convStr (.tmp 29) inner Tryd.sl_u8.und Tryd.und_u8 Tryd.und_str (wn rfl) rfl ((hF.eval 29 (by kernel_rfl)).trans (by kernel_rfl)) hrd ?_
        exact ⟨_, rfl, Below.refl _ _, rfl⟩
      · refine ⟨_, rfl, rfl, fun a w' hF hE hG => ?_⟩
        have g1 : IsStr (xorPad key 92) (a.tmps.getD 28 undef) := hG (3, 28) (by simp) (by kernel_rfl)
        have g2 : a.tmps.getD 30 undef = sv inner := hG (5, 30) (by simp) (by kernel_rfl)
        refine callOp 15 [a.tmps.getD 28 undef, sv inner] [] [] (by kernel_rfl) (wn rfl) rfl rfl (by rw [← g2]; rfl) ?_
        have hil : inner.length = 32 := by have := HI.out; rwa [bcs_length] at this
        refine (add_any (xorPad key 92) inner _ w' (ht.below (hb.trans (hE.mono hb.size)) ht.size) g1 (by rw [p2, hil]; omega)).mono ?_
        rintro e w2 ⟨v, rfl, hv, hbv⟩
        exact ⟨v, rfl, ⟨v, rfl, hbv, hv⟩⟩
      · refine ⟨_, rfl, rfl, fun a w' hF hE hG => ?_⟩
        have g1 : IsStr (xorPad key 92 ++ inner) (a.tmps.getD 31 undef) := hG (6, 31) (by simp) (by kernel_rfl)
        refine callOp 17 [a.tmps.getD 31 undef] [] [] (by kernel_rfl) (wn rfl) rfl rfl rfl ?_
        have hil : inner.length = 32 := by have := HI.out; rwa [bcs_length] at this
        refine (strSum_any _ _ w' (ht.below (hb.trans (hE.mono hb.size)) ht.size) g1 (by rw [List.length_append, p2, hil]; omega)).mono ?_
        rintro e w2 ⟨rfl, hbv⟩
        exact ⟨_, rfl, ⟨_, rfl, hbv, rfl⟩⟩
      · refine ⟨_, rfl, rfl, fun a w' hF hE hG => ?_⟩
        refine alArr (z := zerosB 32) Tryd.ag_b32 (wn rfl) rfl fun w2 hA hb2 => ?_
        exact ⟨_, rfl, hb2, _, rfl, hA, hE.size⟩
    case fin =>
      intro a wf hF hE hG
      have q7 : a.tmps.getD 32 undef = .agg (bcs (sha (xorPad key 92 ++ inner))).toArray := hG (7, 32) (by simp)
      obtain ⟨g8, q8, h8, hg8⟩ := hG (8, 8) (by simp)
      have hbf : Below w.heap.size w wf := hb.trans (hE.mono hb.size)
      rw [hF.eq]
      simp only [putsX]
      rw [q7, q8]
      generalize a.tmps.getD 25 undef = x25
      generalize a.tmps.getD 27 undef = x27
      generalize a.tmps.getD 28 undef = x28
      generalize a.tmps.getD 30 undef = x30
      generalize a.tmps.getD 31 undef = x31
      rw [← HMAC.out]
      have hml : (bcs (mac k t)).length = 32 := by rw [bcs_length, HMAC.out]; exact outOf_len _
      have HML := Lib.hid hml
      have hle := hb.size
      clear hml hG hF hE h2 h7 hb
      refine aNext (i := 9) (by kernel_rfl) rfl ?_
      refine stArr (b := g8) (cs := bcs (mac k t)) (.tmp 8) (.tmp 32) Tryd.ag_b32 (wn rfl) rfl (by kernel_rfl) (by kernel_rfl) h8 (zerosB_len _) HML.out (bcs_one _) ?_
      intro w10 h8 hkeep hbel
      replace hbf := hbf.trans (hbel _ (by omega))
      refine aDone (by kernel_rfl) ?_
      simp only [Act.put, List.setIfInBounds_toArray, List.set_cons_succ, List.set_cons_zero]
      have hrd : Rd w10 w10.heap.size 1 (some ⟨g8, 0, none⟩) 32 32 (bcs (mac k t)) := rd_of_arr h8 (fun _ _ h => h) HML.out (Nat.le_refl _) (by unfold maxLen; omega) h8.lt
      clear hkeep hbel
      go_wp2_with (first | (with_reducible refine slPtr (.tmp 8) Tryd.arr_b32 Tryd.one_u8 (by omega) (wn rfl) rfl rfl ?_) | (with_reducible refine convStr (.tmp 33) (mac k t) Tryd.sl_u8.und Tryd.und_u8 Tryd.und_str (wn rfl) rfl rfl hrd ?_))
      go_wp2_with fail
      go_ret
      exact ⟨rfl, hbf⟩
end Go.Proofs.YthmhmjdppldmiaaDoor
