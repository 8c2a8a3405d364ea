/-
  schedule returns the 64 words that sched gives.
-/
import Derived.Test.YthmhmjdppldmiaaDoorRot
import Derived.Test.YthmhmjdppldmiaaDoorSha
import Derived.Test.YthmhmjdppldmiaaDoorArr
import Derived.Test.YthmhmjdppldmiaaDoorInt
namespace Go.Proofs.YthmhmjdppldmiaaDoor
open Go.RowKit

def wv (x : Nat) : Value := .int .u32 (x : Int)
def wvs (l : List Nat) : List Value := l.map wv
def zeros64 : List Value := List.replicate 64 (.int .u32 0)
theorem Tryd.ag_w64 : AgTy Tryd.prog 54 zeros64.toArray 64 := ⟨by kernel_rfl, by kernel_rfl, by simp [zeros64]⟩
/-- What the array holds when t words are laid. -/
def laidW (s : List Nat) : List Value := wvs s ++ List.replicate (64 - s.length) (.int .u32 0)

theorem laidW_len (s : List Nat) (h : s.length ≤ 64) : (laidW s).length = 64 := by unfold laidW wvs; simp; omega
theorem laidW_zero (s : List Nat) (h : s.length < 64) : (laidW s).set s.length (wv 0) = laidW s := by
  apply List.ext_getElem?
  intro i
  rw [List.getElem?_set]
  by_cases hi : s.length = i
  · subst hi
    rw [if_pos rfl, laidW_len s (by omega), if_pos h]
    unfold laidW wvs
    rw [List.getElem?_append_right (by simp)]
    rw [List.getElem?_replicate, if_pos (by simp; omega)]
    rfl
  · rw [if_neg hi]
theorem laidW_next (s : List Nat) (x : Nat) (h : s.length < 64) : (laidW s).set s.length (wv x) = laidW (s ++ [x]) := by
  apply List.ext_getElem?
  intro i
  rw [List.getElem?_set]
  by_cases hi : s.length = i
  · subst hi
    rw [if_pos rfl, laidW_len s (by omega), if_pos h]
    unfold laidW wvs
    rw [List.getElem?_append_left (by simp)]
    simp
  · rw [if_neg hi]
    unfold laidW wvs
    rcases Nat.lt_or_ge i s.length with h2 | h2
    · rw [List.getElem?_append_left (by simpa using h2), List.getElem?_append_left (by simp; omega), List.map_append, List.getElem?_append_left (by simpa using h2)]
    · rw [List.getElem?_append_right (by simpa using h2), List.getElem?_append_right (by simp; omega), List.getElem?_replicate, List.getElem?_replicate]
      simp only [List.length_map, List.length_append, List.length_singleton]
      by_cases h3 : i < 64
      · rw [if_pos (by omega), if_pos (by omega)]
      · rw [if_neg (by omega), if_neg (by omega)]
/-- The number that the first i bytes of word t make. -/
def wpart (l : List UInt8) (t : Nat) : Nat → Nat
  | 0 => 0
  | i + 1 => wpart l t i * 256 + byteAt l (4 * t + i)
theorem wpart_lt (l : List UInt8) (t i : Nat) : wpart l t i < 256 ^ i := by
  induction i with
  | zero => simp [wpart]
  | succ i ih => rw [wpart, Nat.pow_succ]; have := byteAt_lt l (4 * t + i); omega
theorem wpart_4 (l : List UInt8) (t : Nat) : wpart l t 4 = schedFirst l t := by simp [wpart, schedFirst, word4]
theorem wpart_bits (l : List UInt8) (t i : Nat) (hi : i < 4) : bits .or .u32 (((wpart l t i : Nat) : Int) * 256 % 4294967296) (((byteAt l (4 * t + i) : Nat) : Int) % 4294967296) = ((wpart l t (i + 1) : Nat) : Int) := by
  have h1 : wpart l t i < 256 ^ 3 := Nat.lt_of_lt_of_le (wpart_lt l t i) (Nat.pow_le_pow_right (by omega) (by omega))
  have h2 := byteAt_lt l (4 * t + i)
  have e : ((wpart l t i : Nat) : Int) * 256 % 4294967296 = ((wpart l t i * 256 : Nat) : Int) := by omega
  have e2 : ((byteAt l (4 * t + i) : Nat) : Int) % 4294967296 = ((byteAt l (4 * t + i) : Nat) : Int) := by omega
  have h3 := nat_or_shift (byteAt l (4 * t + i)) (wpart l t i) 8 h2
  rw [e, e2, u32_or_n _ _ (by omega) (by omega), Nat.or_comm, show wpart l t i * 256 = wpart l t i * 2 ^ 8 from rfl, h3, wpart, Nat.add_comm]

theorem laidW_one (s : List Nat) : ∀ u ∈ laidW s, u.oneCell' = true := by
  intro u hu
  unfold laidW wvs at hu
  rcases List.mem_append.1 hu with h | h
  · obtain ⟨x, _, rfl⟩ := List.mem_map.1 h
    unfold wv
    simp [Value.oneCell']
  · rw [(List.mem_replicate.1 h).2]
    simp [Value.oneCell']
theorem laidW_get (s : List Nat) (i : Nat) (h : i < s.length) : (laidW s)[i]? = some (.int .u32 (nth s i : Int)) := by
  unfold laidW wvs nth
  rw [List.getElem?_append_left (by simpa using h), List.getElem?_map, List.getElem?_eq_getElem h]
  rfl

set_option maxRecDepth 100000 in
set_option maxHeartbeats 1000000 in
theorem schedule_any (l : List UInt8) (A : Option Addr) (n c B : Nat) (w : World) (hr : Rd w B 1 A n c (bcs l)) (hB : B ≤ w.heap.size) (hn : 64 ≤ n) :
    Calls Tryd.prog 36 #[.slice A n c] w fun e w' => e = .returned (.agg (wvs (sched l 64)).toArray) ∧ Below w.heap.size w w' := by
  go_enter Tryd.func36, Tryd.ntmps36
  go_wp2_with (with_reducible refine alArr (z := zeros64) Tryd.ag_w64 (wn rfl) rfl ?_)
  intro w1 hA2 hb1
  go_wp2_with (with_reducible refine alArr (z := zeros64) Tryd.ag_w64 (wn rfl) rfl ?_)
  intro w2 hA3 hb2
  have hgt0 := hA2.lt
  have hA2 := hA2.below hb2 hA2.lt
  have hgt : w.heap.size < w1.heap.size := hgt0
  have hb := hb1.trans (hb2.mono hb1.size)
  generalize w1.heap.size = g at hA3 hgt ⊢
  clear hb1 hb2 hgt0
  go_wp2
  go_loopw [11] (fun iv_ wr => ∃ t : Nat, t ≤ 64 ∧ iv_ = .int .i64 t ∧ Arr wr g 54 (laidW (sched l t)) ∧ Arr wr w.heap.size 54 zeros64 ∧ Below w.heap.size w wr) (fun iv_ _ => 64 - (intOf iv_).toNat)
  case atStart => exact ⟨0, by omega, rfl, hA3, hA2, hb⟩
  case round =>
    clear hA3 hA2 hb
    obtain ⟨t, ht, rfl, hA3, hA2, hb⟩ := hrel
    by_cases h64 : t < 64
    · by_cases h16 : t < 16
      · have hrw := hr.below (hb.mono hB)
        go_wp2_with (with_reducible refine slLH (.tmp 16) (.tmp 18) (.tmp 21) (4 * t) (4 * t + 4) Tryd.sl_u8 (wn rfl) rfl rfl rfl rfl hrw (by omega) (by omega) (by omega) (by omega) ?_)
        intro A' hcut
        have hz := laidW_zero (sched l t) (by rw [sched_len]; exact h64)
        rw [sched_len] at hz
        rw [← hz] at hA3
        have HSL := Lib.hid (sched_len l t)
        clear hz
        go_wp2
        obtain ⟨wo, rfl⟩ : ∃ wo : World, wo = wr := ⟨_, rfl⟩
        go_loopw [24] (fun iv_ w4 => ∃ i : Nat, i ≤ 4 ∧ iv_ = .int .i64 i ∧ Below B wo w4 ∧ Arr w4 g 54 ((laidW (sched l t)).set t (wv (wpart l t i))) ∧ Arr w4 w.heap.size 54 zeros64 ∧ Below w.heap.size w w4) (fun iv_ _ => 4 - (intOf iv_).toNat)
        case atStart => exact ⟨0, by omega, rfl, Below.refl _ _, hA3, hA2, hb⟩
        case round =>
          clear hA3 hA2 hrw hb
          obtain ⟨i, hi, rfl, hbo, hA3, hA2, hb⟩ := hrel
          by_cases hi4 : i < 4
          · have hcell := hA3.cell (i := t) (v := wv (wpart l t i)) (by rw [List.getElem?_set]; rw [if_pos rfl, laidW_len _ (by rw [HSL.out]; omega), if_pos h64])
            have hth := hA3.thaw t
            obtain ⟨b, off, u, rfl, hbB, hu, hby⟩ := (hcut.below hbo).at1 hi4
            obtain ⟨rfl⟩ : u = .int .u8 (byteAt l (4 * t + i) : Int) := by
              rw [List.getElem?_take, if_pos hi4, List.getElem?_drop, bcs, List.getElem?_map] at hu
              obtain ⟨y, hy, rfl⟩ := Option.map_eq_some_iff.1 hu
              unfold byteAt; rw [hy]; rfl
            have hbits := wpart_bits l t i hi4
            unfold wv at hcell
            have HB := Lib.hid hbits
            clear hbits hu
            go_wp2
            rw [HB.out]
            go_roundw
            case rel =>
              refine ⟨i + 1, by omega, by go_num, hbo.setCell (show B ≤ g by omega) _, ?_, hA2.other (by omega) _ _, hb.setCell (show w.heap.size ≤ g by omega) _⟩
              have h := hA3.set t (wv (wpart l t (i + 1)))
              rwa [List.set_set] at h
            case measure => (simp [intOf]; try omega)
          · obtain rfl : i = 4 := by omega
            go_wp2
            go_roundw
            case rel =>
              refine ⟨t + 1, by omega, by go_num, ?_, hA2, hb⟩
              have h := laidW_next (sched l t) (wpart l t 4) (by rw [HSL.out]; exact h64)
              rw [HSL.out] at h
              rw [h, wpart_4] at hA3
              rw [sched, if_pos h16]
              exact hA3
            case measure => (simp [intOf]; try omega)
      · have hL := sched_len l t
        have hlt := sched_lt l t
        have c15 := hA3.cell (laidW_get (sched l t) (t - 15) (by omega))
        have c2 := hA3.cell (laidW_get (sched l t) (t - 2) (by omega))
        have c16 := hA3.cell (laidW_get (sched l t) (t - 16) (by omega))
        have c7 := hA3.cell (laidW_get (sched l t) (t - 7) (by omega))
        have x15 := nth_lt hlt (t - 15)
        have x2 := nth_lt hlt (t - 2)
        generalize hp : nth (sched l t) (t - 15) = p at *
        generalize hq : nth (sched l t) (t - 2) = q at *
        have HP := Lib.hid hp
        have HQ := Lib.hid hq
        clear hp hq
        have i15 : ((t : Int) - 15).toNat = t - 15 := by omega
        have i2 : ((t : Int) - 2).toNat = t - 2 := by omega
        have i16 : ((t : Int) - 16).toNat = t - 16 := by omega
        have i7 : ((t : Int) - 7).toNat = t - 7 := by omega
        have HLT := Lib.hid hlt
        have HL := Lib.hid hL
        clear hlt hL
        go_wp2
        go_quiet (fail)
        have X1 := u32_xor_n (rotr p 7) (rotr p 18) (rotr_lt p 7 x15 (by omega)) (rotr_lt p 18 x15 (by omega))
        have X2 := u32_xor_n (rotr p 7 ^^^ rotr p 18) (p / 8) (xor_lt32 (rotr_lt p 7 x15 (by omega)) (rotr_lt p 18 x15 (by omega))) (by omega)
        have Y1 := u32_xor_n (rotr q 17) (rotr q 19) (rotr_lt q 17 x2 (by omega)) (rotr_lt q 19 x2 (by omega))
        have Y2 := u32_xor_n (rotr q 17 ^^^ rotr q 19) (q / 1024) (xor_lt32 (rotr_lt q 17 x2 (by omega)) (rotr_lt q 19 x2 (by omega))) (by omega)
        have X2 : bits .xor .u32 ((rotr p 7 ^^^ rotr p 18 : Nat) : Int) ((p : Int) / 8) = ((rotr p 7 ^^^ rotr p 18 ^^^ p / 8 : Nat) : Int) := X2
        have Y2 : bits .xor .u32 ((rotr q 17 ^^^ rotr q 19 : Nat) : Int) ((q : Int) / 1024) = ((rotr q 17 ^^^ rotr q 19 ^^^ q / 1024 : Nat) : Int) := Y2
        go_wp2_with fail
        refine (rotl_any p 7 _ x15 (by omega) (by omega)).mono ?_
        rintro e _ ⟨rfl, rfl⟩
        go_wp2_with fail
        refine (rotl_any p 18 _ x15 (by omega) (by omega)).mono ?_
        rintro e _ ⟨rfl, rfl⟩
        go_wp2_with fail
        refine (rotl_any q 17 _ x2 (by omega) (by omega)).mono ?_
        rintro e _ ⟨rfl, rfl⟩
        go_wp2_with fail
        refine (rotl_any q 19 _ x2 (by omega) (by omega)).mono ?_
        rintro e _ ⟨rfl, rfl⟩
        go_wp2_with fail
        have hth := hA3.thaw t
        have ct := hA3.cell (i := t) (v := .int .u32 0) (by unfold laidW wvs; rw [List.getElem?_append_right (by simp [HL.out]), List.getElem?_replicate, if_pos (by simp [HL.out]; omega)])
        go_region
        go_wp2
        go_roundw
        case rel =>
          refine ⟨t + 1, by omega, by go_num, ?_, (hA2.drewN _).other (by omega) _ _, Below.setCell (show Below w.heap.size w (wr.drewN (nq + 1)) from ⟨hb.os, hb.tape, hb.output, hb.size, hb.block⟩) (show w.heap.size ≤ g by omega) _⟩
          have hv : Value.int .u32 (((nth (sched l t) (t - 16) : Int) + ((rotr p 7 ^^^ rotr p 18 ^^^ p / 8 : Nat) : Int) + (nth (sched l t) (t - 7) : Int) + ((rotr q 17 ^^^ rotr q 19 ^^^ q / 1024 : Nat) : Int)) % 4294967296) = wv (schedNext (sched l t) t) := by
            unfold wv schedNext add32
            rw [HP.out, HQ.out]
            congr 1
            omega
          rw [hv]
          have h := laidW_next (sched l t) (schedNext (sched l t) t) (by rw [HL.out]; exact h64)
          rw [HL.out] at h
          rw [sched, if_neg h16, ← h]
          exact (hA3.drewN _).set t _
        case measure => (simp [intOf]; try omega)
    · go_wp2_with (first | (with_reducible refine ldArr (.tmp 3) Tryd.ag_w64 (wn rfl) rfl rfl (laidW_len _ (by rw [sched_len]; exact ht)) hA3 ?_) | (with_reducible refine stArr (.tmp 2) (.tmp 78) Tryd.ag_w64 (wn rfl) rfl rfl rfl hA2 (by simp [zeros64]) (laidW_len _ (by rw [sched_len]; exact ht)) (laidW_one _) ?_))
      intro w' hA' hkeep hbel
      obtain rfl : t = 64 := by omega
      have hf : laidW (sched l 64) = wvs (sched l 64) := by unfold laidW; rw [sched_len]; simp
      rw [hf] at hA'
      go_wp2_with fail
      refine bodyPost_ret (v := .agg (wvs (sched l 64)).toArray) ?_ rfl ?_
      · exact res_cell1 (wvs (sched l 64)) Tryd.results36 Tryd.ag_w64 _ rfl (by simp [wvs, sched_len]) (fun j u hu => by rw [Nat.zero_add]; exact hA'.cell hu)
      · exact ⟨rfl, hb.trans (hbel _ (Nat.le_refl _))⟩
end Go.Proofs.YthmhmjdppldmiaaDoor
