/-
  CoderRefusesLongTexts: a text of more than MaxData bytes is refused, and one of MaxData equal bytes is not, and has a short encoding.
-/
import Derived.Test.YtpbebmbkcpdbeaaCoSanity
import Derived.Test.YtpbebmbkcpdbeaaCoBound
import Derived.Outline
namespace Go.Proofs.Ytpbebmbkcpdbeaa
open Go.RowKit
set_option linter.unusedVariables false

/-- What is said of MaxData equal bytes. -/
theorem co_long (x : UInt8) : ∃ L E : List UInt8, coFlat (coFlat [x] 64) 1024 = L ∧ L.length = 65536 ∧ coEncode [] L = (E, 0) ∧ E.length < 1000 ∧ coDec [] E = (L, 0) := by
  have h1 : coFlat (coFlat [x] 64) 1024 = List.replicate 65536 x := by
    have h := coFlat_rep x 1 64
    rw [show List.replicate 1 x = [x] from rfl] at h
    rw [h, coFlat_rep]
  have hl : (List.replicate 65536 x).length = 65536 := List.length_replicate
  have hs := co_short x
  refine ⟨List.replicate 65536 x, (coEncode [] (List.replicate 65536 x)).1, h1, hl, ?_, ?_, ?_⟩
  · rw [coEncode_small (Nat.zero_le _) (by omega)]
  · rw [coEncode_small (Nat.zero_le _) (by omega)]
    simp only
    have h2 := enc_len ((List.replicate 65536 x).length : Int)
    rw [List.length_append]
    rw [if_pos (by omega), List.length_append, List.length_singleton]
    omega
  · exact coDec_enc (Nat.zero_le _) (by omega)
theorem coEncode_long {prior data : List UInt8} (h : 65536 < prior.length ∨ 65536 < data.length) : coEncode prior data = ([], 2) := by unfold coEncode; rw [if_pos h]
theorem coDec_long {prior text : List UInt8} (h : 65536 < prior.length) : coDec prior text = ([], 2) := by unfold coDec; rw [if_pos h]

set_option maxRecDepth 100000 in
set_option maxHeartbeats 4000000 in
theorem walk_CoderRefusesLongTexts (c m : Int) (pr : Bool) (w : World) (hc : 0 ≤ c ∧ c ≤ 255) (hm : 0 ≤ m ∧ m ≤ 255) :
    Calls Try.prog 9 #[.int .u8 c, .int .u8 m, .bool pr] w (RetT w) := by
  obtain ⟨x, rfl⟩ : ∃ x : UInt8, c = (x.toNat : Int) := ⟨UInt8.ofNat c.toNat, by simp; omega⟩
  obtain ⟨n, rfl⟩ : ∃ n : Nat, m = (n : Int) := ⟨m.toNat, by omega⟩
  obtain ⟨L, E, hL, hLl, hE, hEl, hD⟩ := co_long x
  have hb0 : Below w.heap.size w w := Below.refl _ _
  have h64 : (coFlat [x] 64).length = 64 := by rw [coFlat_len]; rfl
  have HT1 := Lib.hid (fun w => times_any [x] 64 (by simp) (by decide) w)
  have HT2 := Lib.hid (fun w => times_any (coFlat [x] 64) 1024 (by omega) (by decide) w)
  rw [hL] at HT2
  have hxl : (coFlat [120] (n + 1)).length = n + 1 := by rw [coFlat_len, List.length_singleton, Nat.mul_one]
  have HT3 := Lib.hid (fun w => times_any [120] (n + 1) (by simp; omega) (by omega) w)
  have hov : 65536 < (L ++ coFlat [120] (n + 1)).length := by rw [List.length_append]; omega
  have hov2 : (L ++ coFlat [120] (n + 1)).length ≤ 140737488351232 := by rw [List.length_append]; omega
  have HA := Lib.hid (fun w => encode_at (coEncode_long (data := [120]) (Or.inl hov)) hov2 (by decide) w)
  have HB := Lib.hid (fun w => decode_at (coDec_long (text := [120]) hov) hov2 (by decide) w)
  have HC := Lib.hid (fun w => encode_at (coEncode_long (prior := []) (Or.inr hov)) (by decide) hov2 w)
  have HE := Lib.hid (fun w => encode_at hE (by decide) (by omega) w)
  have HF := Lib.hid (fun w => decode_at hD (by decide) (by omega) w)
  have HCAT := Lib.hid (cat_two L (coFlat [120] (n + 1)))
  clear hL hE hD
  generalize coFlat [x] 64 = S64 at *
  have hrd : Rd (w.alloc (Obj.cells #[Value.int .u8 (x.toNat : Int)] 5)) (w.heap.size + 1) 1 (some ⟨w.heap.size, 0, none⟩) 1 1 (bcs [x]) := rd_one w x 5
  have hb := hb0.alloc (Nat.le_refl _) (Obj.cells #[Value.int .u8 (x.toNat : Int)] 5)
  clear hb0
  have HX1 := Lib.hid (show (1 + (n : Int)) = ((n + 1 : Nat) : Int) by omega)
  generalize coFlat [120] (n + 1) = X at *
  cases pr with
  | true =>
    go_enter Try.func9, Try.ntmps9
    go_wp2_with (with_reducible refine convStr (.tmp 21) [x] Try.sl_u8.und Try.und_u8 Try.und_str (wn rfl) rfl rfl hrd ?_)
    refine (HT1.out _).mono ?_
    rintro e w1 ⟨rfl, rfl⟩
    go_wp2_with fail
    refine (HT2.out _).mono ?_
    rintro e w1 ⟨rfl, rfl⟩
    go_wp2_with fail
    rw [HX1.out]
    refine (HT3.out _).mono ?_
    rintro e w1 ⟨rfl, rfl⟩
    go_wp2_with fail
    rw [HCAT.out]
    refine (HA.out _).mono ?_
    rintro e w4 ⟨rfl, b4⟩
    replace hb := hb.trans (b4.mono hb.size)
    clear b4
    go_wp2_with fail
    refine (HB.out _).mono ?_
    rintro e w4 ⟨rfl, b4⟩
    replace hb := hb.trans (b4.mono hb.size)
    clear b4
    go_wp2_with fail
    refine (sanity_any _).mono ?_
    rintro e wS ⟨rfl, bS⟩
    replace hb := hb.trans (bS.mono hb.size)
    clear bS
    go_wp2_with fail
    go_ret
    exact ⟨rfl, hb⟩
  | false =>
    go_enter Try.func9, Try.ntmps9
    go_wp2_with (with_reducible refine convStr (.tmp 21) [x] Try.sl_u8.und Try.und_u8 Try.und_str (wn rfl) rfl rfl hrd ?_)
    refine (HT1.out _).mono ?_
    rintro e w1 ⟨rfl, rfl⟩
    go_wp2_with fail
    refine (HT2.out _).mono ?_
    rintro e w1 ⟨rfl, rfl⟩
    go_wp2_with fail
    rw [HX1.out]
    refine (HT3.out _).mono ?_
    rintro e w1 ⟨rfl, rfl⟩
    go_wp2_with fail
    rw [HCAT.out]
    refine (HC.out _).mono ?_
    rintro e w4 ⟨rfl, b4⟩
    replace hb := hb.trans (b4.mono hb.size)
    clear b4
    go_wp2_with fail
    refine (HE.out _).mono ?_
    rintro e w4 ⟨rfl, b4⟩
    replace hb := hb.trans (b4.mono hb.size)
    clear b4
    go_wp2_with fail
    refine (HF.out _).mono ?_
    rintro e w4 ⟨rfl, b4⟩
    replace hb := hb.trans (b4.mono hb.size)
    clear b4
    go_wp2_with fail
    refine (sanity_any _).mono ?_
    rintro e wS ⟨rfl, bS⟩
    replace hb := hb.trans (bS.mono hb.size)
    clear bS
    go_wp2_with fail
    go_ret
    exact ⟨rfl, hb⟩
end Go.Proofs.Ytpbebmbkcpdbeaa
