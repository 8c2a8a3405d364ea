/-
  words of the specification returns the 64 words that sched gives.
-/
import Derived.Test.YthmhmjdppldmiaaDoorSchedule
namespace Go.Proofs.YthmhmjdppldmiaaDoor
open Go.RowKit

theorem word_bits (a b c d : Nat) (ha : a < 256) (hb : b < 256) (hc : c < 256) (hd : d < 256) :
    bits .or .u32 (bits .or .u32 (bits .or .u32 ((a : Int) % 4294967296 * 16777216 % 4294967296) ((b : Int) % 4294967296 * 65536 % 4294967296)) ((c : Int) % 4294967296 * 256 % 4294967296)) ((d : Int) % 4294967296) = ((word4 a b c d : Nat) : Int) := by
  have e1 : (a : Int) % 4294967296 * 16777216 % 4294967296 = ((a * 2 ^ 24 : Nat) : Int) := by omega
  have e2 : (b : Int) % 4294967296 * 65536 % 4294967296 = ((b * 65536 : Nat) : Int) := by omega
  have e3 : (c : Int) % 4294967296 * 256 % 4294967296 = ((c * 256 : Nat) : Int) := by omega
  have e4 : (d : Int) % 4294967296 = ((d : Nat) : Int) := by omega
  have h1 : (a * 2 ^ 24 ||| b * 65536) = (a * 256 + b) * 2 ^ 16 := by rw [Nat.or_comm, nat_or_shift _ _ _ (by omega)]; omega
  have h2 : ((a * 256 + b) * 2 ^ 16 ||| c * 256) = ((a * 256 + b) * 256 + c) * 2 ^ 8 := by rw [Nat.or_comm, nat_or_shift _ _ _ (by omega)]; omega
  have h3 : (((a * 256 + b) * 256 + c) * 2 ^ 8 ||| d) = word4 a b c d := by rw [Nat.or_comm, nat_or_shift _ _ _ (by omega)]; unfold word4; omega
  rw [e1, e2, e3, e4, u32_or_n _ _ (by omega) (by omega), h1, u32_or_n _ _ (by omega) (by omega), h2, u32_or_n _ _ (by omega) (by omega), h3]
theorem byte_cell {w : World} {B n c b off : Nat} {l : List UInt8} (hr : Rd w B 1 (some ⟨b, off, none⟩) n c (bcs l)) (i : Nat) (hi : i < n) : w.cell? ⟨b, off + i, none⟩ = some (.int .u8 (byteAt l i : Int)) := by
  obtain ⟨b', off', u, hA, _, hu, hc⟩ := hr.at1 hi
  cases hA
  rw [hc, ← hu, bcs, List.getElem?_map]
  have hl : i < l.length := by have := hr.len; rw [bcs_length] at this; omega
  unfold byteAt
  rw [List.getElem?_eq_getElem hl]
  rfl

theorem refRotr_q (x : Nat) (n : Int) (w : World) (m : Nat) (hx : x < 4294967296) (h1 : 1 ≤ n) (h2 : n ≤ 31) :
    Calls Tryd.prog 29 #[.int .u32 x, .int .i64 n] (w.drewN m) fun e w'' => e = .returned (.int .u32 (rotr x n.toNat : Nat)) ∧ ∃ m, w'' = w.drewN m := by
  obtain ⟨k, rfl⟩ := Int.eq_ofNat_of_zero_le (show 0 ≤ n by omega)
  rw [Int.toNat_natCast]
  exact (refRotr_any x k _ hx (by omega) (by omega)).mono fun _ _ ⟨he, k, hk⟩ => ⟨he, m + k, by rw [hk]; unfold World.drewN; simp [Nat.add_assoc]⟩
theorem quiet_of_drew {P : Program} {f : FuncId} {args : Array Value} {w : World} {n : Nat} {v : Value}
    (h : Calls P f args (w.drewN n) fun e w' => e = .returned v ∧ ∃ k, w' = (w.drewN n).drewN k) : Calls P f args (w.drewN n) fun e w'' => e = .returned v ∧ ∃ m, w'' = w.drewN m :=
  h.mono fun _ _ ⟨he, k, hk⟩ => ⟨he, n + k, by rw [hk]; unfold World.drewN; simp [Nat.add_assoc]⟩

set_option maxRecDepth 100000 in
set_option maxHeartbeats 1000000 in
theorem words_any (l : List UInt8) (A : Option Addr) (n c B : Nat) (w : World) (hr : Rd w B 1 A n c (bcs l)) (hB : B ≤ w.heap.size) (hn : 64 ≤ n) :
    Calls Tryd.prog 28 #[.slice A n c] w fun e w' => e = .returned (.agg (wvs (sched l 64)).toArray) ∧ Below w.heap.size w w' := by
  go_enter Tryd.func28, Tryd.ntmps28
  go_wp2_with (with_reducible refine alArr (z := zeros64) Tryd.ag_w64 (wn rfl) rfl ?_)
  intro w1 hA2 hb1
  go_wp2_with (with_reducible refine alArr (z := zeros64) Tryd.ag_w64 (wn rfl) rfl ?_)
  intro w2 hA3 hb2
  have hgt0 := hA2.lt
  have hA2 := hA2.below hb2 hA2.lt
  have hgt : w.heap.size < w1.heap.size := hgt0
  have hb := hb1.trans (hb2.mono hb1.size)
  generalize w1.heap.size = g at hA3 hgt ⊢
  clear hb1 hb2 hgt0
  go_wp2
  go_loopw [4] (fun iv_ wr => ∃ t : Nat, t ≤ 16 ∧ iv_ = .int .i64 t ∧ Arr wr g 54 (laidW (sched l t)) ∧ Arr wr w.heap.size 54 zeros64 ∧ Below w.heap.size w wr) (fun iv_ _ => 16 - (intOf iv_).toNat)
  case atStart => exact ⟨0, by omega, rfl, hA3, hA2, hb⟩
  case round =>
    clear hA3 hA2 hb
    obtain ⟨t, ht, rfl, hA3, hA2, hb⟩ := hrel
    by_cases h16 : t < 16
    · obtain ⟨b, off, rfl, hbB, hc⟩ := hr.cells (by omega)
      have hth := hA3.thaw t
      have HL := Lib.hid (sched_len l t)
      have ct := hA3.cell (i := t) (v := .int .u32 0) (by unfold laidW wvs; rw [List.getElem?_append_right (by simp [HL.out]), List.getElem?_replicate, if_pos (by simp [HL.out]; omega)])
      have hby : ∀ i, i < 64 → wr.cell? ⟨b, off + i, none⟩ = some (.int .u8 (byteAt l i : Int)) :=
        fun i hi => byte_cell (hr.below (hb.mono hB)) i (by omega)
      have b0 := hby (4 * t) (by omega)
      have b1 := hby (4 * t + 1) (by omega)
      have b2 := hby (4 * t + 2) (by omega)
      have b3 := hby (4 * t + 3) (by omega)
      clear hby hc
      go_wp2
      have HW := Lib.hid (word_bits _ _ _ _ (byteAt_lt l (4 * t)) (byteAt_lt l (4 * t + 1)) (byteAt_lt l (4 * t + 2)) (byteAt_lt l (4 * t + 3)))
      go_region
      go_wp2
      rw [HW.out]
      go_roundw
      case rel =>
        refine ⟨t + 1, by omega, by go_num, ?_, hA2.drew.other (by omega) _ _, Below.setCell (show Below w.heap.size w wr.drew from ⟨hb.os, hb.tape, hb.output, hb.size, hb.block⟩) (show w.heap.size ≤ g by omega) _⟩
        have h := laidW_next (sched l t) (schedFirst l t) (by rw [HL.out]; omega)
        rw [HL.out] at h
        rw [sched, if_pos h16, ← h]
        exact hA3.drew.set t _
      case measure => (simp [intOf]; try omega)
    · obtain rfl : t = 16 := by omega
      go_wp2
      go_loopw [5] (fun iv_ wr => ∃ t : Nat, 16 ≤ t ∧ t ≤ 64 ∧ iv_ = .int .i64 t ∧ Arr wr g 54 (laidW (sched l t)) ∧ Arr wr w.heap.size 54 zeros64 ∧ Below w.heap.size w wr) (fun iv_ _ => 64 - (intOf iv_).toNat)
      case atStart => exact ⟨16, by omega, by omega, rfl, hA3, hA2, hb⟩
      case round =>
        clear hA3 hA2 hb
        obtain ⟨t, ht16, ht, rfl, hA3, hA2, hb⟩ := hrel
        by_cases h64 : t < 64
        · have hL := sched_len l t
          have hlt := sched_lt l t
          have c15 := hA3.cell (laidW_get (sched l t) (t - 15) (by omega))
          have c2 := hA3.cell (laidW_get (sched l t) (t - 2) (by omega))
          have c16 := hA3.cell (laidW_get (sched l t) (t - 16) (by omega))
          have c7 := hA3.cell (laidW_get (sched l t) (t - 7) (by omega))
          have x15 := nth_lt hlt (t - 15)
          have x2 := nth_lt hlt (t - 2)
          generalize hp : nth (sched l t) (t - 15) = p at *
          generalize hq : nth (sched l t) (t - 2) = q at *
          have HP := Lib.hid hp
          have HQ := Lib.hid hq
          have i15 : ((t : Int) - 15).toNat = t - 15 := by omega
          have i2 : ((t : Int) - 2).toNat = t - 2 := by omega
          have i16 : ((t : Int) - 16).toNat = t - 16 := by omega
          have i7 : ((t : Int) - 7).toNat = t - 7 := by omega
          have HLT := Lib.hid hlt
          have HL := Lib.hid hL
          clear hlt hL hp hq
          have X1 := u32_xor_n (rotr p 7) (rotr p 18) (rotr_lt p 7 x15 (by omega)) (rotr_lt p 18 x15 (by omega))
          have X2 : bits .xor .u32 ((rotr p 7 ^^^ rotr p 18 : Nat) : Int) ((p : Int) / 8) = ((rotr p 7 ^^^ rotr p 18 ^^^ p / 8 : Nat) : Int) := u32_xor_n (rotr p 7 ^^^ rotr p 18) (p / 8) (xor_lt32 (rotr_lt p 7 x15 (by omega)) (rotr_lt p 18 x15 (by omega))) (by omega)
          have Y1 := u32_xor_n (rotr q 17) (rotr q 19) (rotr_lt q 17 x2 (by omega)) (rotr_lt q 19 x2 (by omega))
          have Y2 : bits .xor .u32 ((rotr q 17 ^^^ rotr q 19 : Nat) : Int) ((q : Int) / 1024) = ((rotr q 17 ^^^ rotr q 19 ^^^ q / 1024 : Nat) : Int) := u32_xor_n (rotr q 17 ^^^ rotr q 19) (q / 1024) (xor_lt32 (rotr_lt q 17 x2 (by omega)) (rotr_lt q 19 x2 (by omega))) (by omega)
          go_wp2_with fail
          go_quiet ((go_at_call 29; exact refRotr_q p _ _ _ x15 (by omega) (by omega)))
          go_wp2_with fail
          obtain ⟨wq, hwq⟩ : ∃ wq, wq = wr.drewN nq := ⟨_, rfl⟩
          rw [← hwq]
          have hA3 : Arr wq g 54 (laidW (sched l t)) := hwq ▸ hA3.drewN nq
          have hA2 : Arr wq w.heap.size 54 zeros64 := hwq ▸ hA2.drewN nq
          have hb : Below w.heap.size w wq := hwq ▸ ⟨hb.os, hb.tape, hb.output, hb.size, hb.block⟩
          have c2 : wq.cell? ⟨g, t - 2, none⟩ = some (.int .u32 q) := hwq ▸ c2
          have c16 : wq.cell? ⟨g, t - 16, none⟩ = some (.int .u32 (nth (sched l t) (t - 16))) := hwq ▸ c16
          have c7 : wq.cell? ⟨g, t - 7, none⟩ = some (.int .u32 (nth (sched l t) (t - 7))) := hwq ▸ c7
          clear hwq
          clear c15
          go_quiet ((go_at_call 29; exact refRotr_q q _ _ _ x2 (by omega) (by omega)))
          go_wp2_with fail
          obtain ⟨wp, hwp⟩ : ∃ wp, wp = wq.drewN nq := ⟨_, rfl⟩
          rw [← hwp]
          have hA3 : Arr wp g 54 (laidW (sched l t)) := hwp ▸ hA3.drewN nq
          have hA2 : Arr wp w.heap.size 54 zeros64 := hwp ▸ hA2.drewN nq
          have hb : Below w.heap.size w wp := hwp ▸ ⟨hb.os, hb.tape, hb.output, hb.size, hb.block⟩
          have c16 : wp.cell? ⟨g, t - 16, none⟩ = some (.int .u32 (nth (sched l t) (t - 16))) := hwp ▸ c16
          have c7 : wp.cell? ⟨g, t - 7, none⟩ = some (.int .u32 (nth (sched l t) (t - 7))) := hwp ▸ c7
          clear hwp c2
          have hth := hA3.thaw t
          have ct := hA3.cell (i := t) (v := .int .u32 0) (by unfold laidW wvs; rw [List.getElem?_append_right (by simp [HL.out]), List.getElem?_replicate, if_pos (by simp [HL.out]; omega)])
          go_region
          go_wp2
          go_roundw
          case rel =>
            refine ⟨t + 1, by omega, by omega, by go_num, ?_, hA2.drew.other (by omega) _ _, Below.setCell (show Below w.heap.size w wp.drew from ⟨hb.os, hb.tape, hb.output, hb.size, hb.block⟩) (show w.heap.size ≤ g by omega) _⟩
            have hv : Value.int .u32 (((nth (sched l t) (t - 16) : Int) + ((rotr p 7 ^^^ rotr p 18 ^^^ p / 8 : Nat) : Int) + (nth (sched l t) (t - 7) : Int) + ((rotr q 17 ^^^ rotr q 19 ^^^ q / 1024 : Nat) : Int)) % 4294967296) = wv (schedNext (sched l t) t) := by
              unfold wv schedNext add32
              rw [HP.out, HQ.out]
              congr 1
              omega
            rw [hv]
            have h := laidW_next (sched l t) (schedNext (sched l t) t) (by rw [HL.out]; exact h64)
            rw [HL.out] at h
            rw [sched, if_neg (by omega), ← h]
            exact hA3.drew.set t _
          case measure => (simp [intOf]; try omega)
        · go_wp2_with (first | (with_reducible refine ldArr (.tmp 3) Tryd.ag_w64 (wn rfl) rfl rfl (laidW_len _ (by rw [sched_len]; exact ht)) hA3 ?_) | (with_reducible refine stArr (.tmp 2) (.tmp 100) Tryd.ag_w64 (wn rfl) rfl rfl rfl hA2 (by simp [zeros64]) (laidW_len _ (by rw [sched_len]; exact ht)) (laidW_one _) ?_))
          intro w' hA' hkeep hbel
          obtain rfl : t = 64 := by omega
          have hf : laidW (sched l 64) = wvs (sched l 64) := by unfold laidW; rw [sched_len]; simp
          rw [hf] at hA'
          go_wp2_with fail
          refine bodyPost_ret (v := .agg (wvs (sched l 64)).toArray) ?_ rfl ?_
          · exact res_cell1 (wvs (sched l 64)) Tryd.results28 Tryd.ag_w64 _ rfl (by simp [wvs, sched_len]) (fun j u hu => by rw [Nat.zero_add]; exact hA'.cell hu)
          · exact ⟨rfl, hb.trans (hbel _ (Nat.le_refl _))⟩
end Go.Proofs.YthmhmjdppldmiaaDoor
