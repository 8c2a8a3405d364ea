/-
  The coder's plain laws: decoding what was encoded, what Decode accepts, and the examples. No program in sight.
-/
import Derived.Test.YtpbebmbkcpdbeaaCoDec
namespace Go.Proofs.Ytpbebmbkcpdbeaa
open Go.RowKit

theorem coEncode_small {prior data : List UInt8} (h1 : prior.length ≤ 65536) (h2 : data.length ≤ 65536) :
    coEncode prior data = (enc (data.length : Int) ++ (if (coCode prior data).length < data.length then [1] ++ coCode prior data else [0] ++ data), 0) := by
  unfold coEncode
  rw [if_neg (by omega)]
theorem coDec_enc {prior data : List UInt8} (h1 : prior.length ≤ 65536) (h2 : data.length ≤ 65536) : coDec prior (coEncode prior data).1 = (data, 0) := by
  have hE := coEncode_small h1 h2
  have hd := dec_enc (data.length : Int) (if (coCode prior data).length < data.length then [1] ++ coCode prior data else [0] ++ data) ⟨by omega, by omega⟩
  have hE1 : (coEncode prior data).1 = enc (data.length : Int) ++ (if (coCode prior data).length < data.length then [1] ++ coCode prior data else [0] ++ data) := by rw [hE]
  have hB : coBody prior (coEncode prior data).1 (data.length : Int).toNat ((enc (data.length : Int)).length : Int).toNat = data := by
    rw [hE1, Int.toNat_natCast, Int.toNat_natCast]
    unfold coBody
    by_cases hc : (coCode prior data).length < data.length
    · rw [if_pos hc]
      have e1 : (enc (data.length : Int) ++ ([1] ++ coCode prior data)).getD (enc (data.length : Int)).length 0 = 1 := by
        rw [List.getD_eq_getElem?_getD, List.getElem?_append_right (Nat.le_refl _), Nat.sub_self]
        rfl
      have e2 : (enc (data.length : Int) ++ ([1] ++ coCode prior data)).drop ((enc (data.length : Int)).length + 1) = coCode prior data := by
        rw [List.drop_append]
        simp
      rw [if_pos e1, e2]
      exact co_trip prior data
    · rw [if_neg hc]
      have e1 : (enc (data.length : Int) ++ ([0] ++ data)).getD (enc (data.length : Int)).length 0 = 0 := by
        rw [List.getD_eq_getElem?_getD, List.getElem?_append_right (Nat.le_refl _), Nat.sub_self]
        rfl
      rw [if_neg (by rw [e1]; decide), List.drop_append]
      simp
  rw [← hE1] at hd
  unfold coDec
  rw [hd]
  simp only
  rw [hB, if_neg (by omega), if_neg (by decide), if_neg (by omega), if_neg, if_neg (by simp)]
  rw [hE1, List.length_append]
  split <;> simp only [List.length_append, List.length_singleton] <;> omega
theorem coDec_nil {prior text : List UInt8} (h : (coDec prior text).2 ≠ 0) : (coDec prior text).1 = [] := by
  unfold coDec at h ⊢
  split
  · rfl
  · split
    · rfl
    · split
      · rfl
      · split
        · rfl
        · split
          · rfl
          · rename_i h1 h2 h3 h4 h5
            rw [if_neg h1, if_neg h2, if_neg h3, if_neg h4, if_neg h5] at h
            exact absurd rfl h
theorem coDec_le (prior text : List UInt8) : (coDec prior text).1.length ≤ 65536 + text.length := by
  unfold coDec
  split
  · simp
  · split
    · simp
    · split
      · simp
      · split
        · simp
        · split
          · simp
          · have h1 := coBody_len prior text (dec text).1.toNat (dec text).2.1.toNat
            simp only
            omega
theorem coDec_back {prior text : List UInt8} (h : (coDec prior text).2 = 0) : coEncode prior (coDec prior text).1 = (text, 0) := by
  unfold coDec at h ⊢
  split at h
  · cases h
  · split at h
    · rename_i h2
      exact absurd h h2
    · split at h
      · cases h
      · split at h
        · cases h
        · split at h
          · cases h
          · rename_i h1 h2 h3 h4 h5
            rw [if_neg h1, if_neg h2, if_neg h3, if_neg h4, if_neg h5]
            have h6 : (coEncode prior (coBody prior text (dec text).1.toNat (dec text).2.1.toNat)).1 = text := by
              by_cases hh : (coEncode prior (coBody prior text (dec text).1.toNat (dec text).2.1.toNat)).1 = text
              · exact hh
              · exact absurd hh h5
            simp only
            refine Prod.ext h6 ?_
            unfold coEncode at h6 ⊢
            split
            · rename_i h7
              rw [if_pos h7] at h6
              simp only at h6
              subst h6
              exact absurd (show (dec []).2.2 = 0 by by_cases hh : (dec []).2.2 = 0; exact hh; exact absurd hh h2) (by decide)
            · rfl
def coFlat (s : List UInt8) (n : Nat) : List UInt8 := (List.replicate n s).flatten
theorem coFlat_len (s : List UInt8) (n : Nat) : (coFlat s n).length = n * s.length := by
  unfold coFlat
  rw [List.length_flatten, List.map_replicate, List.sum_replicate_nat]
def coHundred : List UInt8 := List.replicate 100 97
theorem coHundred_flat : coFlat [97] 100 = coHundred := by decide +kernel
theorem coTrain_rep (m : List Nat) (x : UInt8) (h : coTrain m (coPairs x) = m) : ∀ n, coTrain m (coAll (List.replicate n x)) = m
  | 0 => rfl
  | n + 1 => by
    show coTrain m (coPairs x ++ coAll (List.replicate n x)) = m
    rw [coTrain_append, h, coTrain_rep m x h n]
theorem coFlat_rep (x : UInt8) (a b : Nat) : coFlat (List.replicate a x) b = List.replicate (b * a) x := by
  unfold coFlat
  rw [List.flatten_replicate_replicate]
def coFixed : List Nat := ((((((((coNew.set 1 31).set 2 4065).set 5 4065).set 11 31).set 22 31).set 44 31).set 88 31).set 176 4065)
theorem coFixed_at : coTrain coFixed (coPairs 97) = coFixed := by decide +kernel
theorem coFixed_to : coTrain coNew (coAll (List.replicate 150 97)) = coFixed := by decide +kernel
def coThousand : List UInt8 := coFlat coHundred 10
theorem coThousand_len : coThousand.length = 1000 := by
  unfold coThousand
  rw [coFlat_len]
  rfl
theorem coHundred_len : coHundred.length = 100 := rfl
theorem coThousand_train : coTrain coNew (coAll coThousand) = coFixed := by
  have h : coThousand = List.replicate 150 97 ++ List.replicate 850 97 := by
    unfold coThousand coHundred
    rw [coFlat_rep, List.replicate_append_replicate]
  rw [h, coAll_append, coTrain_append, coFixed_to, coTrain_rep _ _ coFixed_at]
theorem sn_none : coEncode [] [] = (enc 0 ++ [0], 0) := by decide +kernel
theorem sn_a : coEncode [] [97] = (enc 1 ++ [0, 97], 0) := by decide +kernel
def coSame (s t : List Nat × CoIv) : Bool := s.1 == t.1 && s.2.x == t.2.x && s.2.y == t.2.y && s.2.out == t.2.out
theorem coSame_eq {s t : List Nat × CoIv} (h : coSame s t = true) : s = t := by
  obtain ⟨m, x, y, o⟩ := s
  obtain ⟨m2, x2, y2, o2⟩ := t
  simp only [coSame, Bool.and_eq_true, beq_iff_eq] at h
  obtain ⟨⟨⟨rfl, rfl⟩, rfl⟩, rfl⟩ := h
  rfl
-- PRINTED by gen_plain.py
def coSt1 : List Nat × CoIv := (((((((((coNew.set 1 932).set 2 3164).set 5 3164).set 11 932).set 22 932).set 44 932).set 88 932).set 176 3164), ⟨4010216791, 4039304094, [158, 157, 101, 42, 250, 111, 227, 87, 105, 133, 19, 74, 151, 108, 233]⟩)
theorem coSt1_ok : coRun (coNew, coStart) (coAll (List.replicate 25 97)) = coSt1 := coSame_eq (by decide +kernel)
def coSt2 : List Nat × CoIv := (((((((((coNew.set 1 429).set 2 3667).set 5 3667).set 11 429).set 22 429).set 44 429).set 88 429).set 176 3667), ⟨288744155, 1397836869, [158, 157, 101, 42, 250, 111, 227, 87, 105, 133, 19, 74, 151, 108, 233, 240, 17, 157, 55, 14, 199, 150]⟩)
theorem coSt2_ok : coRun coSt1 (coAll (List.replicate 25 97)) = coSt2 := coSame_eq (by decide +kernel)
def coSt3 : List Nat × CoIv := (((((((((coNew.set 1 202).set 2 3894).set 5 3894).set 11 202).set 22 202).set 44 202).set 88 202).set 176 3894), ⟨137069312, 3566051545, [158, 157, 101, 42, 250, 111, 227, 87, 105, 133, 19, 74, 151, 108, 233, 240, 17, 157, 55, 14, 199, 150, 57, 229, 250]⟩)
theorem coSt3_ok : coRun coSt2 (coAll (List.replicate 25 97)) = coSt3 := coSame_eq (by decide +kernel)
def coSt4 : List Nat × CoIv := (((((((((coNew.set 1 100).set 2 3996).set 5 3996).set 11 100).set 22 100).set 44 100).set 88 100).set 176 3996), ⟨364486802, 967701516, [158, 157, 101, 42, 250, 111, 227, 87, 105, 133, 19, 74, 151, 108, 233, 240, 17, 157, 55, 14, 199, 150, 57, 229, 250, 135]⟩)
theorem coSt4_ok : coRun coSt3 (coAll (List.replicate 25 97)) = coSt4 := coSame_eq (by decide +kernel)
theorem sn_long0 : (coCode [] coHundred).length < 30 := by
  have h : coHundred = List.replicate 25 97 ++ (List.replicate 25 97 ++ (List.replicate 25 97 ++ List.replicate 25 97)) := by decide +kernel
  have e : coCode [] coHundred = coEnd coSt4.2 := by
    unfold coCode
    rw [h, coAll_append, coAll_append, coAll_append, coRun_append, coRun_append, coRun_append]
    rw [show coTrain coNew (coAll []) = coNew from rfl, coSt1_ok, coSt2_ok, coSt3_ok, coSt4_ok]
  rw [e]
  decide +kernel
-- END PRINTED
theorem sn_short0 : (coEnd (coRun (coFixed, coStart) (coAll coHundred)).2).length < 9 := by decide +kernel
theorem sn_hun : (enc (coHundred.length : Int)).length = 2 := by decide +kernel
theorem sn_len {prior data : List UInt8} {k : Nat} (h1 : prior.length ≤ 65536) (h2 : data.length ≤ 65536) (h : (coCode prior data).length < k) (hk : k ≤ data.length) (he : (enc (data.length : Int)).length = 2) : (coEncode prior data).1.length < k + 3 ∧ (coEncode prior data).2 = 0 := by
  rw [coEncode_small h1 h2, if_pos (by omega)]
  simp only [List.length_append, List.length_singleton]
  exact ⟨by omega, trivial⟩
theorem sn_long : (coEncode [] coHundred).1.length < 33 ∧ (coEncode [] coHundred).2 = 0 :=
  sn_len (k := 30) (by decide) (by rw [coHundred_len]; omega) sn_long0 (by rw [coHundred_len]; omega) sn_hun
theorem coThousand_code : coCode coThousand coHundred = coEnd (coRun (coFixed, coStart) (coAll coHundred)).2 := by
  unfold coCode
  rw [coThousand_train]
theorem sn_short : (coEncode coThousand coHundred).1.length < 12 ∧ (coEncode coThousand coHundred).2 = 0 :=
  sn_len (k := 9) (by rw [coThousand_len]; omega) (by rw [coHundred_len]; omega) (by rw [coThousand_code]; exact sn_short0) (by rw [coHundred_len]; omega) sn_hun
theorem sn_back : coDec coThousand (coEncode coThousand coHundred).1 = (coHundred, 0) := coDec_enc (by rw [coThousand_len]; omega) (by rw [coHundred_len]; omega)
theorem sn_trunc : coDec [] (enc 1) = ([], 5) := by decide +kernel
theorem sn_limit : coDec [] (enc (-1)) = ([], 2) := by decide +kernel
theorem sn_bad : coDec [] (enc 1 ++ [2, 97]) = ([], 6) := by decide +kernel
theorem sn_up : coNew.getD 0 0 = 0 ∧ coNew.getD 1 0 = 2048 ∧ coNew.getD 255 0 = 2048 ∧ (coTrain coNew (coAll [255])).getD 1 0 = 2112 ∧ (coTrain coNew (coAll [0])).getD 1 0 = 1984 := by decide +kernel
end Go.Proofs.Ytpbebmbkcpdbeaa
