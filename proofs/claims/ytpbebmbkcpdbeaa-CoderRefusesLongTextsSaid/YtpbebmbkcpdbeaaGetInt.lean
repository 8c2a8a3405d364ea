/-
  wire.GetInt returns what the plain function dec gives, and makes nothing.
-/
import Derived.Test.YtpbebmbkcpdbeaaDecSpec
import Derived.Test.YtpbebmbkcpdbeaaIntRef
namespace Go.Proofs.Ytpbebmbkcpdbeaa
open Go.RowKit

/-- Three numbers are returned, the world is as it was. -/
def Ret3 (w : World) (r : Int × Int × Int) (en : Ending) (w' : World) : Prop := en = .returned (.tuple #[.int .i64 r.1, .int .i64 r.2.1, .int .i64 r.2.2]) ∧ w = w'

set_option maxRecDepth 100000 in
set_option maxHeartbeats 400000 in
theorem getInt_any (l : List UInt8) (A : Option Addr) (n c B : Nat) (w : World) (hr : Rd w B 1 A n c (bcs l)) :
    Calls Try.prog 27 #[.slice A n c] w (Ret3 w (dec l)) := by
  obtain rfl : l.length = n := by have := hr.len; simpa [bcs] using this
  have hcap := hr.cap
  have hle := hr.le
  unfold maxLen at hcap
  go_enter Try.func27, Try.ntmps27
  go_wp2
  go_step3
  go_wp2
  go_step3
  go_wp2
  go_loop [5, 6, 11] (fun zv uv iv => ∃ k z : Nat, uv = .int .i64 0 ∧ k ≤ l.length ∧ k ≤ 9 ∧ iv = .int .i64 k ∧ zv = .int .u64 z ∧ z < 18446744073709551616 ∧ Hid (z < 128 ^ k) ∧ Hid (decGo (l.drop k) k z = dec l))
    (fun _ _ i => l.length - (intOf i).toNat)
  case atStart => exact ⟨0, 0, rfl, Nat.zero_le _, by omega, rfl, rfl, by omega, (by show _ < _; decide), rfl⟩
  case round =>
    obtain ⟨k, z, rfl, hk, hk9, rfl, rfl, hz, hzk, hd⟩ := hrel
    by_cases hlt : k < l.length
    · obtain ⟨b, off, u, rfl, hbB, hu, hcell⟩ := hr.at1 hlt
      obtain ⟨x, hx, rfl⟩ : ∃ x, l[k]? = some x ∧ u = .int .u8 (x.toNat : Int) := by
        rw [bcs, List.getElem?_map] at hu
        obtain ⟨x, hx, hxu⟩ := Option.map_eq_some_iff.1 hu
        exact ⟨x, hx, hxu.symm⟩
      have hx256 := x.toNat_lt
      by_cases h1 : (k < 9 ∨ x.toNat ≤ 1) ∧ (k < 1 ∨ 0 < x.toNat)
      · obtain ⟨hZ, hor⟩ := get_or x z k (by omega) hzk.out
        have hstep := dec_step_lt x z k hzk.out
        by_cases h2 : x.toNat < 128
        · have hf := dec_fin hx hd.out h1 h2
          obtain ⟨Z, hZe⟩ : ∃ Z, Z = z + x.toNat % 128 * 128 ^ k := ⟨_, rfl⟩
          rw [← hZe] at hZ hor hstep hf
          have hand1 := get_and1 Z hZ
          have hfin := get_unzz Z hZ
          have HF := Lib.hid hf
          clear hx hu hstep hd hzk hZe hf
          by_cases h3 : k < 1
          · go_wp2
            (try rw [Exit.noGoto_ret]); go_ret3
            exact ⟨by rw [HF.out]; rfl, rfl⟩
          · by_cases h4 : k < 9
            · go_wp2
              (try rw [Exit.noGoto_ret]); go_ret3
              exact ⟨by rw [HF.out]; rfl, rfl⟩
            · obtain rfl : k = 9 := by omega
              rw [show (2 : Int) ^ (7 * 9) = 9223372036854775808 from by decide] at hor
              go_wp2
              (try rw [Exit.noGoto_ret]); go_ret3
              exact ⟨by rw [HF.out]; rfl, rfl⟩
        · have hm := dec_more hx hd.out h1 h2
          obtain ⟨Z, hZe⟩ : ∃ Z, Z = z + x.toNat % 128 * 128 ^ k := ⟨_, rfl⟩
          rw [← hZe] at hZ hor hstep hm
          have HM := Lib.hid hm
          have HS := Lib.hid hstep
          clear hx hu hstep hd hzk hZe hm
          by_cases h3 : k < 1
          all_goals
            go_wp2
            go_round
            case rel => exact ⟨k + 1, Z, rfl, by omega, by omega, by go_num, rfl, hZ, HS.out, HM.out⟩
            case measure => simp [intOf]; omega
      · have hf := dec_bad hx hd.out (by omega)
        have HF := Lib.hid hf
        clear hx hu hd hzk hf
        by_cases h3 : k < 9
        · have h4 : x.toNat < 1 := by omega
          go_wp2
          (try rw [Exit.noGoto_ret]); go_ret3
          exact ⟨by rw [HF.out]; rfl, rfl⟩
        · by_cases h4 : 1 < x.toNat
          all_goals
            go_wp2
            (try rw [Exit.noGoto_ret]); go_ret3
            exact ⟨by rw [HF.out]; rfl, rfl⟩
    · obtain rfl : k = l.length := by omega
      have HF : Hid (dec l = (0, 0, 5)) := by
        show _ = _
        rw [← hd.out, List.drop_length]; rfl
      clear hlt hd hzk
      go_wp2
      (try rw [Exit.noGoto_ret]); go_ret3
      exact ⟨by rw [HF.out]; rfl, rfl⟩
end Go.Proofs.Ytpbebmbkcpdbeaa
