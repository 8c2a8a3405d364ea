/-
  padKey of the specification.
-/
import Derived.Test.YthmhmjdppldmiaaDoorMac2
import Derived.Deep.DeepCutAuto
namespace Go.Proofs.YthmhmjdppldmiaaDoor
open Go.RowKit

theorem xorPad_next {k : List UInt8} {i : Nat} {b : UInt8} (x : UInt8) (h : (keyPad k)[i]? = some b) : bcs ((xorPad k x).take i) ++ [bc (b ^^^ x)] = bcs ((xorPad k x).take (i + 1)) := by
  have h2 : (xorPad k x)[i]? = some (b ^^^ x) := by unfold xorPad; rw [List.getElem?_map, h]; rfl
  rw [bcs_snoc, take_next h2]
theorem keyPad_lo {k : List UInt8} {i : Nat} (h : i < k.length) : (keyPad k)[i]? = some k[i] := by
  unfold keyPad
  rw [List.getElem?_append_left h, List.getElem?_eq_getElem h]
theorem keyPad_hi {k : List UInt8} {i : Nat} (h : k.length ≤ i) (h64 : i < 64) : (keyPad k)[i]? = some 0 := by
  unfold keyPad
  rw [List.getElem?_append_right h, List.getElem?_replicate, if_pos (by omega)]
set_option maxRecDepth 100000 in
set_option maxHeartbeats 1000000 in
theorem padKey_any (k : List UInt8) (x : UInt8) (w : World) (ht : TabsR w) (hk : k.length ≤ 100000000) :
    Calls Tryd.prog 32 #[sv k, .int .u8 (x.toNat : Int)] w (RetRow w 5 1 64 (bcs (xorPad (macKey k) x))) := by
  unfold sv
  go_enter Tryd.func32, Tryd.ntmps32
  have hb : Below w.heap.size w w := Below.refl _ _
  go_upto_if 12 with (fail)
  go_cut [5] (fun s5 wc => s5 = .string ⟨(macKey k).toArray⟩ ∧ Below w.heap.size w wc)
  case first =>
    by_cases hlong : 64 < k.length
    · have hmk : macKey k = sha k := by unfold macKey; rw [if_pos hlong]
      have HM := Lib.hid hmk
      have hl32 := sha_len k
      clear hmk
      go_wp2_with (with_reducible refine convBs (.tmp 13) k Tryd.und_str Tryd.sl_u8.und Tryd.und_u8 (wn rfl) rfl rfl (by omega) ?_)
      intro A5 c5 w5 hrd hb5
      replace hb := hb.trans (hb5.mono hb.size)
      clear hb5
      go_wp2_with fail
      refine (refSum_any k A5 _ c5 _ w5 (ht.below hb ht.size) hrd (Nat.le_refl _) (by omega)).mono ?_
      rintro e w6 ⟨rfl, hb6⟩
      replace hb := hb.trans (hb6.mono hb.size)
      clear hb6 hrd
      go_wp2_with fail
      refine (bytes32_any (sha k) w6 hl32).mono ?_
      rintro e w7 ⟨rfl, hb7⟩
      replace hb := hb.trans (hb7.mono hb.size)
      clear hb7
      unfold sv
      go_wp2_with fail
      go_meet
      case rel => exact ⟨by rw [HM.out], hb⟩
    · have hmk : macKey k = k := by unfold macKey; rw [if_neg hlong]
      have HM := Lib.hid hmk
      clear hmk
      go_wp2_with fail
      go_meet
      case rel => exact ⟨by rw [HM.out], hb⟩
  case rest =>
    clear hb
    obtain ⟨rfl, hb⟩ := hcut
    have hkl := macKey_le k
    generalize macKey k = key at *
    have p2 := xorPad_len x hkl
    have P2 := Lib.hid p2
    clear p2
    have hx := x.toNat_lt
    go_wp2_with fail
    go_loopw [6, 7] (fun v iv_ wr => ∃ i : Nat, i ≤ 64 ∧ iv_ = .int .i64 i ∧ wr.ownsRow w.heap.size 5 1 v i (bcs ((xorPad key x).take i)) ∧ Below w.heap.size w wr) (fun _ iv_ _ => 64 - (intOf iv_).toNat)
    case atStart => exact ⟨0, by omega, rfl, World.ownsRow_nil _ _ _ _, hb⟩
    case round =>
      clear hb
      obtain ⟨i, hi, rfl, hown, hb⟩ := hrel
      by_cases hlt : i < 64
      · by_cases hik : i < key.length
        · have hnx := xorPad_next x (keyPad_lo hik)
          have HNX := Lib.hid hnx
          have hyl := key[i].toNat_lt
          clear hnx
          go_wp2_with (at_builtin; with_reducible refine app1 _ _ Tryd.sl_u8 (wn rfl) rfl rfl rfl hown hb (Nat.le_refl _) rfl (by omega) (by omega) ?_)
          intro v' w' h3 h4 _
          replace h3 : w'.ownsRow w.heap.size 5 1 v' (i + 1) (bcs ((xorPad key x).take (i + 1))) := by rw [show ((⟨key.toArray⟩ : ByteArray)[i]'(by simpa [ByteArray.size] using hik)) = key[i] from rfl, xor_bc, HNX.out] at h3; exact h3
          clear hown hb
          go_wp2_with fail
          go_roundw
          case rel => exact ⟨i + 1, by omega, by go_num, h3, h4⟩
          case measure => (simp [intOf]; try omega)
        · have hnx := xorPad_next x (keyPad_hi (i := i) (Nat.le_of_not_lt hik) hlt)
          have HNX := Lib.hid hnx
          clear hnx
          go_wp2_with (at_builtin; with_reducible refine app1 _ _ Tryd.sl_u8 (wn rfl) rfl rfl rfl hown hb (Nat.le_refl _) rfl (by omega) (by omega) ?_)
          intro v' w' h3 h4 _
          replace h3 : w'.ownsRow w.heap.size 5 1 v' (i + 1) (bcs ((xorPad key x).take (i + 1))) := by rw [show (Value.int .u8 (bits .xor .u8 0 (x.toNat : Int))) = bc (0 ^^^ x) from xor_bc 0 x, HNX.out] at h3; exact h3
          clear hown hb
          go_wp2_with fail
          go_roundw
          case rel => exact ⟨i + 1, by omega, by go_num, h3, h4⟩
          case measure => (simp [intOf]; try omega)
      · obtain rfl : i = 64 := by omega
        rw [List.take_of_length_le (by rw [P2.out]; exact Nat.le_refl _)] at hown
        go_wp2_with fail
        go_ret
        exact ⟨_, rfl, hown, hb⟩
set_option maxRecDepth 100000 in
set_option maxHeartbeats 1000000 in
theorem refMac_any (k t : List UInt8) (w : World) (ht : TabsR w) (hk : k.length ≤ 100000000) (htl : t.length ≤ 100000000) : Calls Tryd.prog 19 #[sv k, sv t] w fun e w' => e = .returned (sv (mac k t)) ∧ Below w.heap.size w w' := by
  unfold sv
  have q1 : Calls Tryd.prog 32 #[.string ⟨k.toArray⟩, .int .u8 54] w _ := padKey_any k 54 w ht hk
  have p1 := xorPad_len 54 (macKey_le k)
  have p2 := xorPad_len 92 (macKey_le k)
  have hmac : sha (xorPad (macKey k) 92 ++ sha (xorPad (macKey k) 54 ++ t)) = mac k t := rfl
  have HMAC := Lib.hid hmac
  have hsz : (⟨t.toArray⟩ : ByteArray).size = t.length := by simp [ByteArray.size]
  clear hmac
  generalize hM : mac k t = M at *
  clear hM
  have HS := Lib.hid (show ByteArray.size ⟨t.toArray⟩ = t.length from hsz)
  go_enter Tryd.func19, Tryd.ntmps19
  go_wp2_with fail
  refine q1.mono ?_
  rintro e w1 hret
  obtain ⟨A1, c1, rfl, hown, hr, hb⟩ := hret.open
  clear hret q1 hr
  go_wp2_with (at_builtin; with_reducible refine appS _ _ ⟨t.toArray⟩ Tryd.sl_u8 Tryd.und_str (wn rfl) rfl rfl rfl hown hb (Nat.le_refl _) (by rw [hsz]; omega) ?_)
  intro v2 w2 hown2 hb2 _
  clear hown hb
  obtain ⟨A2, c2, rfl, hr2⟩ := Rd.of_own hown2
  rw [← bcs_append] at hr2
  clear hown2
  have q2 : Calls Tryd.prog 32 #[.string ⟨k.toArray⟩, .int .u8 92] w2 _ := padKey_any k 92 w2 (ht.below hb2 ht.size) hk
  go_wp2_with fail
  refine q2.mono ?_
  rintro e w3 hret
  obtain ⟨A3, c3, rfl, hown3, _, hb3⟩ := hret.open
  replace hr2 := hr2.below hb3
  have hsz2 := hb3.size
  clear hret q2
  go_wp2_with fail
  refine (refSum_any (xorPad (macKey k) 54 ++ t) A2 _ c2 _ w3 (ht.below (hb2.trans (hb3.mono hb2.size)) ht.size) hr2 hsz2 (by omega)).mono ?_
  rintro e w4 ⟨rfl, hb4⟩
  have hown4 := ownsRow_below hown3 hb4 (Nat.le_refl _)
  replace hb3 := hb3.trans (hb4.mono hb3.size)
  have hi := sha_len (xorPad (macKey k) 54 ++ t)
  clear hb4 hown3 hr2
  generalize sha (xorPad (macKey k) 54 ++ t) = inner at *
  go_wp2_with fail
  refine (bytes32_any inner w4 hi).mono ?_
  rintro e w5 ⟨rfl, hb5⟩
  have hown5 := ownsRow_below hown4 hb5 (Nat.le_refl _)
  replace hb3 := hb3.trans (hb5.mono hb3.size)
  clear hb5 hown4
  have hsi : (⟨inner.toArray⟩ : ByteArray).size = 32 := by simp [ByteArray.size, hi]
  unfold sv
  go_wp2_with (at_builtin; with_reducible refine appS _ _ ⟨inner.toArray⟩ Tryd.sl_u8 Tryd.und_str (wn rfl) rfl rfl rfl hown5 hb3 (Nat.le_refl _) (by rw [hsi]; omega) ?_)
  intro v6 w6 hown6 hb6 _
  clear hown5 hb3
  obtain ⟨A6, c6, rfl, hr6⟩ := Rd.of_own hown6
  rw [← bcs_append] at hr6
  have hsz6 := hb6.size
  replace hb6 := hb2.trans (hb6.mono hb2.size)
  clear hown6
  go_wp2_with fail
  refine (refSum_any (xorPad (macKey k) 92 ++ inner) A6 _ c6 _ w6 (ht.below hb6 ht.size) hr6 (Nat.le_refl _) (by omega)).mono ?_
  rintro e w7 ⟨rfl, hb7⟩
  replace hb6 := hb6.trans (hb7.mono hb6.size)
  rw [HMAC.out]
  have hml : M.length = 32 := by rw [← HMAC.out]; exact sha_len _
  clear hb7 hr6
  go_wp2_with fail
  refine (bytes32_any M w7 hml).mono ?_
  rintro e w8 ⟨rfl, hb8⟩
  replace hb6 := hb6.trans (hb8.mono hb6.size)
  go_wp2_with fail
  go_ret
  exact ⟨rfl, hb6⟩
end Go.Proofs.YthmhmjdppldmiaaDoor
