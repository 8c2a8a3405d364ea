/-
  The reference's GetInt returns what the plain function dec gives, and makes nothing.
-/
import Derived.Test.YtpbebmbkcpdbeaaGetInt
namespace Go.Proofs.Ytpbebmbkcpdbeaa
open Go.RowKit

theorem gi_cell {l : List UInt8} {w : World} {B b off n c j : Nat} (hr : Rd w B 1 (some ⟨b, off, none⟩) n c (bcs l)) (hj : j < l.length) : ∃ y, l[j]? = some y ∧ w.cell? ⟨b, off + j, none⟩ = some (.int .u8 (y.toNat : Int)) := by
  have hn : n = l.length := by have := hr.len; rw [bcs_length] at this; omega
  obtain ⟨b', off', u, e, _, hu, hc⟩ := hr.at1 (show j < n by omega)
  injection e with e
  injection e with e1 e2 e3
  subst e1; subst e2
  rw [bcs, List.getElem?_map] at hu
  obtain ⟨y, hy, hyu⟩ := Option.map_eq_some_iff.1 hu
  exact ⟨y, hy, by rw [hc, ← hyu]; rfl⟩

set_option maxRecDepth 100000 in
set_option maxHeartbeats 1000000 in
theorem refGetInt_any (l : List UInt8) (A : Option Addr) (n c B : Nat) (w : World) (hr : Rd w B 1 A n c (bcs l)) :
    Calls Try.prog 14 #[.slice A n c] w (Ret3 w (dec l)) := by
  obtain rfl : l.length = n := by have := hr.len; simpa [bcs] using this
  have hcap := hr.cap
  have hle := hr.le
  unfold maxLen at hcap
  go_enter Try.func14, Try.ntmps14
  go_wp2
  go_loop [5] (fun kv => ∃ k : Nat, k ≤ l.length ∧ k ≤ 10 ∧ kv = .int .i64 k ∧ Lead l k) (fun i => l.length - (intOf i).toNat)
  case atStart => exact ⟨0, Nat.zero_le _, by omega, rfl, lead_0 l⟩
  case round =>
    obtain ⟨k, hk, hk10, rfl, hd⟩ := hrel
    by_cases hlt : k < l.length
    · obtain ⟨b, off, u, rfl, hbB, hu, hcell⟩ := hr.at1 hlt
      obtain ⟨x, hx, rfl⟩ : ∃ x, l[k]? = some x ∧ u = .int .u8 (x.toNat : Int) := by
        rw [bcs, List.getElem?_map] at hu
        obtain ⟨x, hx, hxu⟩ := Option.map_eq_some_iff.1 hu
        exact ⟨x, hx, hxu.symm⟩
      have hx256 := x.toNat_lt
      by_cases h10 : k < 10
      · by_cases h2 : x.toNat < 128
        · by_cases h1 : (k < 9 ∨ x.toNat ≤ 1) ∧ (k < 1 ∨ 0 < x.toNat)
          · have hf := dec_fin hx (hd.1 (by omega)) h1 h2
            rw [← valTo_succ hx] at hf
            have hV := valTo_bound (by omega) hx
            have HF := Lib.hid hf
            have HH : Horner l (k + 1) (k + 1) 0 := by show _ = _; simp
            clear hf hd hx hu
            have HV := Lib.hid hV
            clear hV
            by_cases h3 : k < 1
            · go_wp2
              go_loop [6, 7] (fun av iv => ∃ (i : Int) (acc : Nat), -1 ≤ i ∧ i ≤ k ∧ iv = .int .i64 i ∧ av = .int .u64 acc ∧ acc < 18446744073709551616 ∧ Hid (Horner l (k + 1) (i + 1).toNat acc)) (fun _ i => (intOf i + 1).toNat)
              case atStart => exact ⟨_, 0, by omega, by omega, rfl, rfl, by omega, HH⟩
              case round =>
                obtain ⟨i, acc, hi1, hi2, rfl, rfl, hacc, hho⟩ := hrel
                by_cases hi0 : 0 ≤ i
                · obtain ⟨j, rfl⟩ := Int.eq_ofNat_of_zero_le hi0
                  obtain ⟨y, hy, hyc⟩ := gi_cell hr (show j < l.length by omega)
                  have hy256 := y.toNat_lt
                  have hst := horner_step hy (show Horner l (k + 1) (j + 1) acc by have := hho.out; rwa [show ((j : Int) + 1).toNat = j + 1 from by omega] at this)
                  have hle2 := Nat.lt_of_le_of_lt (horner_le hst) HV.out
                  have HST := Lib.hid hst
                  clear hst hho hy hcell HH
                  go_wp2
                  go_round
                  case rel => exact ⟨_, acc * 128 + y.toNat % 128, by omega, by omega, rfl, by go_num, hle2, by rw [show ((j : Int) - 1 + 1).toNat = j from by omega]; exact HST.out⟩
                  case measure => (simp [intOf]; try omega)
                · obtain rfl : i = -1 := by omega
                  have hfin : acc = valTo l (k + 1) := by have := hho.out; unfold Horner at this; simpa [valTo] using this
                  have HFIN := Lib.hid hfin
                  clear hho hfin hcell HH
                  by_cases hodd : acc % 2 = 1
                  all_goals
                    go_wp2
                    go_ret3
                    refine ⟨?_, rfl⟩
                    rw [HF.out, ← HFIN.out]
                    unfold unzz
                    first | rw [if_pos hodd] | rw [if_neg hodd]
                    rfl
            · by_cases h4 : k < 9
              · go_wp2
                go_loop [6, 7] (fun av iv => ∃ (i : Int) (acc : Nat), -1 ≤ i ∧ i ≤ k ∧ iv = .int .i64 i ∧ av = .int .u64 acc ∧ acc < 18446744073709551616 ∧ Hid (Horner l (k + 1) (i + 1).toNat acc)) (fun _ i => (intOf i + 1).toNat)
                case atStart => exact ⟨_, 0, by omega, by omega, rfl, rfl, by omega, HH⟩
                case round =>
                  obtain ⟨i, acc, hi1, hi2, rfl, rfl, hacc, hho⟩ := hrel
                  by_cases hi0 : 0 ≤ i
                  · obtain ⟨j, rfl⟩ := Int.eq_ofNat_of_zero_le hi0
                    obtain ⟨y, hy, hyc⟩ := gi_cell hr (show j < l.length by omega)
                    have hy256 := y.toNat_lt
                    have hst := horner_step hy (show Horner l (k + 1) (j + 1) acc by have := hho.out; rwa [show ((j : Int) + 1).toNat = j + 1 from by omega] at this)
                    have hle2 := Nat.lt_of_le_of_lt (horner_le hst) HV.out
                    have HST := Lib.hid hst
                    clear hst hho hy hcell HH
                    go_wp2
                    go_round
                    case rel => exact ⟨_, acc * 128 + y.toNat % 128, by omega, by omega, rfl, by go_num, hle2, by rw [show ((j : Int) - 1 + 1).toNat = j from by omega]; exact HST.out⟩
                    case measure => (simp [intOf]; try omega)
                  · obtain rfl : i = -1 := by omega
                    have hfin : acc = valTo l (k + 1) := by have := hho.out; unfold Horner at this; simpa [valTo] using this
                    have HFIN := Lib.hid hfin
                    clear hho hfin hcell HH
                    by_cases hodd : acc % 2 = 1
                    all_goals
                      go_wp2
                      go_ret3
                      refine ⟨?_, rfl⟩
                      rw [HF.out, ← HFIN.out]
                      unfold unzz
                      first | rw [if_pos hodd] | rw [if_neg hodd]
                      rfl
              · obtain rfl : k = 9 := by omega
                have hb : ((x.toNat : Int) == 0) = false := by rw [beq_eq_false_iff_ne]; omega
                go_wp2
                go_loop [6, 7] (fun av iv => ∃ (i : Int) (acc : Nat), -1 ≤ i ∧ i ≤ 9 ∧ iv = .int .i64 i ∧ av = .int .u64 acc ∧ acc < 18446744073709551616 ∧ Hid (Horner l (9 + 1) (i + 1).toNat acc)) (fun _ i => (intOf i + 1).toNat)
                case atStart => exact ⟨_, 0, by omega, by omega, rfl, rfl, by omega, HH⟩
                case round =>
                  obtain ⟨i, acc, hi1, hi2, rfl, rfl, hacc, hho⟩ := hrel
                  by_cases hi0 : 0 ≤ i
                  · obtain ⟨j, rfl⟩ := Int.eq_ofNat_of_zero_le hi0
                    obtain ⟨y, hy, hyc⟩ := gi_cell hr (show j < l.length by omega)
                    have hy256 := y.toNat_lt
                    have hst := horner_step hy (show Horner l (9 + 1) (j + 1) acc by have := hho.out; rwa [show ((j : Int) + 1).toNat = j + 1 from by omega] at this)
                    have hle2 := Nat.lt_of_le_of_lt (horner_le hst) HV.out
                    have HST := Lib.hid hst
                    clear hst hho hy hcell HH
                    go_wp2
                    go_round
                    case rel => exact ⟨_, acc * 128 + y.toNat % 128, by omega, by omega, rfl, by go_num, hle2, by rw [show ((j : Int) - 1 + 1).toNat = j from by omega]; exact HST.out⟩
                    case measure => (simp [intOf]; try omega)
                  · obtain rfl : i = -1 := by omega
                    have hfin : acc = valTo l (9 + 1) := by have := hho.out; unfold Horner at this; simpa [valTo] using this
                    have HFIN := Lib.hid hfin
                    clear hho hfin hcell HH
                    by_cases hodd : acc % 2 = 1
                    all_goals
                      go_wp2
                      go_ret3
                      refine ⟨?_, rfl⟩
                      rw [HF.out, ← HFIN.out]
                      unfold unzz
                      first | rw [if_pos hodd] | rw [if_neg hodd]
                      rfl
          · have hf := dec_bad hx (hd.1 (by omega)) (by omega)
            have HF := Lib.hid hf
            clear hx hu hd hf
            by_cases h3 : k < 9
            · have h4 : x.toNat < 1 := by omega
              go_wp2
              go_ret3
              exact ⟨by rw [HF.out]; rfl, rfl⟩
            · by_cases h4 : 1 < x.toNat
              · obtain rfl : k = 9 := by omega
                go_wp2
                go_ret3
                exact ⟨by rw [HF.out]; rfl, rfl⟩
              · obtain rfl : k = 9 := by omega
                have hb : ((x.toNat : Int) == 0) = true := by rw [beq_iff_eq]; omega
                go_wp2
                go_ret3
                exact ⟨by rw [HF.out]; rfl, rfl⟩
        · have hm := lead_step h10 hx (by omega) hd
          clear hx hu hd
          go_wp2
          go_round
          case rel => exact ⟨k + 1, by omega, by omega, by go_num, hm⟩
          case measure => (simp [intOf]; try omega)
      · have HF := Lib.hid (hd.2 (by omega))
        obtain rfl : k = 10 := by omega
        clear hd hx hu
        go_wp2
        go_ret3
        exact ⟨by rw [HF.out]; rfl, rfl⟩
    · obtain rfl : k = l.length := by omega
      by_cases h10 : l.length < 10
      · have HF := Lib.hid (lead_end hd (by omega))
        clear hd hlt
        go_wp2
        go_ret3
        exact ⟨by rw [HF.out]; rfl, rfl⟩
      · have HF := Lib.hid (hd.2 (by omega))
        clear hd hlt
        go_wp2
        go_ret3
        exact ⟨by rw [HF.out]; rfl, rfl⟩
end Go.Proofs.Ytpbebmbkcpdbeaa
