/-
  HashMacKeys answers true, for any key and text.
-/
import Derived.Test.YthmhmjdppldmiaaDoorHashEqualIsEquality
namespace Go.Proofs.YthmhmjdppldmiaaDoor
open Go.RowKit

theorem mac_long (k t : List UInt8) (h : 64 < k.length) : mac (sha k) t = mac k t := by
  have h1 : macKey k = sha k := by unfold macKey; rw [if_pos h]
  have h2 : macKey (sha k) = sha k := by unfold macKey; rw [if_neg (by rw [sha_len]; omega)]
  unfold mac
  rw [h1, h2]
theorem mac_zero (k t : List UInt8) (h : k.length < 64) : mac (k ++ [0]) t = mac k t := by
  have h1 : macKey k = k := by unfold macKey; rw [if_neg (by omega)]
  have h2 : macKey (k ++ [0]) = k ++ [0] := by unfold macKey; rw [if_neg (by simp; omega)]
  have h3 : keyPad (k ++ [0]) = keyPad k := by
    unfold keyPad
    rw [List.length_append, List.append_assoc]
    congr 1
    rw [show 64 - k.length = (64 - (k.length + 1)) + 1 from by omega, List.replicate_succ]
    rfl
  unfold mac xorPad
  rw [h1, h2, h3]
theorem cat_zero (a : List UInt8) : (⟨a.toArray⟩ : ByteArray) ++ ⟨#[0]⟩ = ⟨(a ++ [0]).toArray⟩ := by
  apply ByteArray.ext
  simp
set_option maxRecDepth 100000 in
set_option maxHeartbeats 1000000 in
theorem walk_HashMacKeys (k t : List UInt8) (w : World) (ht : Tabs w) (_ha : k.length ≤ 140737488351232) (_hb : t.length ≤ 140737488351232) :
    Calls Tryd.prog 6 #[sv k, sv t] w (RetB w true) := by
  have hs := sanity_any w ht
  by_cases hl : k.length ≤ 400 ∧ t.length ≤ 400
  · obtain ⟨h1, h2⟩ := hl
    have hml : (mac k t).length = 32 := by unfold mac; exact sha_len _
    by_cases h64 : 64 < k.length
    · have hm := mac_long k t h64
      have HM := Lib.hid hm
      have hsl := sha_len k
      clear hm hml
      unfold sv
      go_enter Tryd.func6, Tryd.ntmps6
      go_wp2_with fail
      refine hs.mono ?_
      rintro e w1 ⟨rfl, hb1⟩
      have q1 := mac_any k t w1 (ht.below hb1 ht.size) (by omega) (by omega)
      unfold sv at q1
      go_wp2_with fail
      refine q1.mono ?_
      rintro e w2 ⟨rfl, hb2⟩
      replace hb1 := hb1.trans (hb2.mono hb1.size)
      clear hb2 q1
      go_wp2_with (with_reducible refine convBs (.tmp 24) k Tryd.und_str Tryd.sl_u8.und Tryd.und_u8 (wn rfl) rfl rfl (by omega) ?_)
      intro A5 c5 w5 hrd hb5
      replace hb1 := hb1.trans (hb5.mono hb1.size)
      clear hb5
      go_wp2_with fail
      refine (sum_any k A5 _ c5 _ w5 (ht.below hb1 ht.size) hrd (Nat.le_refl _) (by omega)).mono ?_
      rintro e w6 ⟨rfl, hb6⟩
      replace hb1 := hb1.trans (hb6.mono hb1.size)
      clear hb6 hrd
      go_wp2_with fail
      refine (bytes32_any (sha k) w6 hsl).mono ?_
      rintro e w7 ⟨rfl, hb7⟩
      replace hb1 := hb1.trans (hb7.mono hb1.size)
      clear hb7
      have q1 := mac_any (sha k) t w7 (ht.below hb1 ht.size) (by omega) (by omega)
      rw [HM.out] at q1
      unfold sv at q1
      unfold sv
      clear hsl
      go_wp2_with fail
      refine q1.mono ?_
      rintro e w8 ⟨rfl, hb8⟩
      replace hb1 := hb1.trans (hb8.mono hb1.size)
      clear hb8 q1
      go_wp2_with fail
      go_ret
      exact ⟨rfl, hb1⟩
    · by_cases h63 : k.length < 64
      · have hm := mac_zero k t h63
        have HM := Lib.hid hm
        clear hm hml
        unfold sv
        go_enter Tryd.func6, Tryd.ntmps6
        go_wp2_with fail
        refine hs.mono ?_
        rintro e w1 ⟨rfl, hb1⟩
        have q1 := mac_any k t w1 (ht.below hb1 ht.size) (by omega) (by omega)
        unfold sv at q1
        go_wp2_with fail
        refine q1.mono ?_
        rintro e w2 ⟨rfl, hb2⟩
        replace hb1 := hb1.trans (hb2.mono hb1.size)
        clear hb2 q1
        go_wp2_with fail
        rw [cat_zero]
        have q1 := mac_any (k ++ [0]) t w2 (ht.below hb1 ht.size) (by simp; omega) (by omega)
        rw [HM.out] at q1
        unfold sv at q1
        refine q1.mono ?_
        rintro e w8 ⟨rfl, hb8⟩
        replace hb1 := hb1.trans (hb8.mono hb1.size)
        clear hb8 q1
        go_wp2_with fail
        go_ret
        exact ⟨rfl, hb1⟩
      · have HML := Lib.hid hml
        clear hml
        unfold sv
        go_enter Tryd.func6, Tryd.ntmps6
        go_wp2_with fail
        refine hs.mono ?_
        rintro e w1 ⟨rfl, hb1⟩
        have q1 := mac_any k t w1 (ht.below hb1 ht.size) (by omega) (by omega)
        unfold sv at q1
        go_wp2_with fail
        refine q1.mono ?_
        rintro e w2 ⟨rfl, hb2⟩
        replace hb1 := hb1.trans (hb2.mono hb1.size)
        clear hb2 q1
        have hml := HML.out
        generalize mac k t = mc at *
        have hml2 : ((mc.length : Int) == 32) = true := by rw [beq_iff_eq]; omega
        clear hml
        go_wp2_with fail
        go_ret
        exact ⟨rfl, hb1⟩
  · have h3 : (decide (400 < (k.length : Int)) || decide (400 < (t.length : Int))) = true := by
      rw [Bool.or_eq_true, decide_eq_true_eq, decide_eq_true_eq]; omega
    clear hl
    by_cases h1 : k.length ≤ 400
    all_goals
      unfold sv
      go_enter Tryd.func6, Tryd.ntmps6
      go_wp2_with fail
      refine hs.mono ?_
      rintro e w1 ⟨rfl, hb1⟩
      go_wp2_with fail
      all_goals
        go_ret
        exact ⟨rfl, hb1⟩
end Go.Proofs.YthmhmjdppldmiaaDoor
