/-
  compress returns what compr gives.
-/
import Derived.Test.YthmhmjdppldmiaaDoorTab
import Derived.Deep.Cut
namespace Go.Proofs.YthmhmjdppldmiaaDoor
open Go.RowKit

/-- The state behind i rounds of the last loop. -/
def finL (s r : St) (i : Nat) : List Value := (List.range 8).map fun j => wv (if j % 4 < i then add32 (nth s.list j) (nth r.list j) else nth s.list j)
theorem finL_0 (s r : St) : finL s r 0 = s.vals := rfl
theorem finL_4 (s r : St) : finL s r 4 = (s.add r).vals := rfl
theorem finL_lo (s r : St) {i : Nat} (h : i < 4) : (finL s r i)[i]? = some (wv (nth s.list i)) := by
  rcases (show i = 0 ∨ i = 1 ∨ i = 2 ∨ i = 3 by omega) with rfl | rfl | rfl | rfl <;> rfl
theorem finL_hi (s r : St) (x : Nat) {i : Nat} (h : i < 4) : ((finL s r i).set i (wv x))[i + 4]? = some (wv (nth s.list (i + 4))) := by
  rcases (show i = 0 ∨ i = 1 ∨ i = 2 ∨ i = 3 by omega) with rfl | rfl | rfl | rfl <;> rfl
theorem va_get (r : St) {i : Nat} (h : i < 4) : r.va[i]? = some (wv (nth r.list i)) := by
  rcases (show i = 0 ∨ i = 1 ∨ i = 2 ∨ i = 3 by omega) with rfl | rfl | rfl | rfl <;> rfl
theorem ve_get (r : St) {i : Nat} (h : i < 4) : r.ve[i]? = some (wv (nth r.list (i + 4))) := by
  rcases (show i = 0 ∨ i = 1 ∨ i = 2 ∨ i = 3 by omega) with rfl | rfl | rfl | rfl <;> rfl
theorem finL_next (s r : St) {i : Nat} (h : i < 4) : ((finL s r i).set i (wv (add32 (nth s.list i) (nth r.list i)))).set (i + 4) (wv (add32 (nth s.list (i + 4)) (nth r.list (i + 4)))) = finL s r (i + 1) := by
  rcases (show i = 0 ∨ i = 1 ∨ i = 2 ∨ i = 3 by omega) with rfl | rfl | rfl | rfl <;> rfl
theorem wv_add (a b : Nat) : Value.int .u32 (((a : Int) + (b : Int)) % 4294967296) = wv (add32 a b) := by simp [wv, add32]
/-- What memory holds in the loop over the rounds. -/
structure CM (w wr : World) (g4 g5 g6 g7 : Nat) (s : St) (l : List UInt8) (v e : List Value) : Prop where
  hA6 : Arr wr g6 63 v
  hA7 : Arr wr g7 63 e
  hA5 : Arr wr g5 54 (wvs (sched l 64))
  hA2 : Arr wr w.heap.size 30 s.vals
  hA4 : Arr wr g4 30 zeros8
  hb : Below w.heap.size w wr
theorem CM.drewN {w wr : World} {g4 g5 g6 g7 : Nat} {s : St} {l : List UInt8} {v e : List Value} (h : CM w wr g4 g5 g6 g7 s l v e) (n : Nat) : CM w (wr.drewN n) g4 g5 g6 g7 s l v e :=
  ⟨h.hA6, h.hA7, h.hA5, h.hA2, h.hA4, ⟨h.hb.os, h.hb.tape, h.hb.output, h.hb.size, h.hb.block⟩⟩
set_option maxRecDepth 100000 in
set_option maxHeartbeats 1000000 in
theorem compress_any (s : St) (l : List UInt8) (A : Option Addr) (n c B : Nat) (w : World) (hs : s.ok) (ht : Tabs w) (hr : Rd w B 1 A n c (bcs l)) (hB : B ≤ w.heap.size) (hn : 64 ≤ n) :
    Calls Tryd.prog 30 #[.agg s.vals.toArray, .slice A n c] w fun e w' => e = .returned (.agg (compr s l).vals.toArray) ∧ Below w.heap.size w w' := by
  go_enter Tryd.func30, Tryd.ntmps30
  go_wp2_with (first | (with_reducible refine bxArr (cs := s.vals) (.tmp 0) (wn rfl) rfl rfl ?_) | (with_reducible refine alArr (z := zeros8) Tryd.ag_w8 (wn rfl) rfl ?_))
  intro w1 hA2' hb1
  go_wp2_with (first | (with_reducible refine alArr (z := zeros8) Tryd.ag_w8 (wn rfl) rfl ?_))
  intro w2 hA4 hb2
  have h12 : w.heap.size < w1.heap.size := hA2'.lt
  have hA2 := hA2'.below hb2 hA2'.lt
  have hb := hb1.trans (hb2.mono hb1.size)
  have h24 : w1.heap.size < w2.heap.size := hA4.lt
  clear hb1 hA2' hb2
  generalize w1.heap.size = g4 at *
  go_wp2_with fail
  refine (schedule_any l A n c B _ (hr.below (hb.mono hB)) (by have := hb.size; omega) hn).mono ?_
  rintro e w3 ⟨rfl, hb3⟩
  have hA2 := hA2.below hb3 hA2.lt
  have hA4 := hA4.below hb3 hA4.lt
  have h3 := hb3.size
  have hb := hb.trans (hb3.mono hb.size)
  clear hb3
  go_wp2_with (first | (with_reducible refine alArr (z := zeros64) Tryd.ag_w64 (wn rfl) rfl ?_) )
  intro w4 hA5 hb4
  have h5 : w3.heap.size < w4.heap.size := hA5.lt
  have hA2 := hA2.below hb4 hA2.lt
  have hA4 := hA4.below hb4 hA4.lt
  have hb := hb.trans (hb4.mono hb.size)
  clear hb4
  generalize w3.heap.size = g5 at *
  go_wp2_with (first | (with_reducible refine stArr (.tmp 5) (.tmp 14) Tryd.ag_w64 (wn rfl) rfl rfl rfl hA5 (by simp [zeros64]) (by simp [wvs, sched_len]) (wvs_one _) ?_))
  intro w5 hA5 hkeep hbel
  have hA2 := hkeep _ _ _ (by omega) hA2
  have hA4 := hkeep _ _ _ (by omega) hA4
  have hb := hb.trans (hbel _ (by omega))
  have hsz : w4.heap.size ≤ w5.heap.size := (hbel 0 (Nat.zero_le _)).size
  clear hkeep hbel
  go_wp2_with fail
  refine rgStart (fun w' => Arr w' w.heap.size 30 s.vals) (by kernel_rfl) ?_
  refine rgTake (i := 0) (v := .slice (some ⟨w.heap.size, 0, none⟩) 4 8) rfl (by kernel_rfl) (wn rfl) (fun _ _ _ h => h) (fun w _ => by kernel_rfl) hA2.drew ?_
  refine rgTake (i := 1) (v := .pointer (some ⟨w.heap.size, 0, none⟩)) rfl (by kernel_rfl) (wn rfl) (fun _ _ _ h => h) (fun w _ => by kernel_rfl) hA2.drew ?_
  refine rgTake (i := 3) (v := .slice (some ⟨w.heap.size, 4, none⟩) 4 4) rfl (by kernel_rfl) (wn rfl) (fun _ _ _ h => h) (fun w _ => by kernel_rfl) hA2.drew ?_
  refine rgTake (i := 4) (v := .pointer (some ⟨w.heap.size, 4, none⟩)) rfl (by kernel_rfl) (wn rfl) (fun _ _ _ h => h) (fun w _ => by kernel_rfl) hA2.drew ?_
  refine rgLoad (i := 2) (.tmp 16) s.va Tryd.ag_w4 rfl (by kernel_rfl) (wn rfl) (fun _ _ _ h => h) rfl rfl rfl (fun w' hw j u hu => hw.cell (by rw [s.vals_eq, Nat.zero_add, List.getElem?_append_left (List.getElem?_eq_some_iff.1 hu).1]; exact hu)) hA2.drew ?_
  refine rgLoad (i := 5) (.tmp 19) s.ve Tryd.ag_w4 rfl (by kernel_rfl) (wn rfl) (fun _ _ _ h => h) rfl rfl rfl (fun w' hw j u hu => hw.cell (by rw [s.vals_eq, List.getElem?_append_right (by show 4 ≤ 4 + j; omega)]; show s.ve[4 + j - 4]? = _; rw [Nat.add_sub_cancel_left]; exact hu)) hA2.drew ?_
  refine rgAlloc2 (i := 6) (j := 7) (zi := zeros4) (zj := zeros4) Tryd.ag_w4 Tryd.ag_w4 (by kernel_rfl) rfl rfl (by kernel_rfl) (by kernel_rfl) rfl rfl rfl rfl (by decide) (by decide) (fun w' h => hA2.drew.below h hA2.lt) ?_
  intro g6 g7 w6 h67 h6 h7 hA6 hA7 hb6
  have hb6 : Below w5.heap.size w5 w6 := ⟨hb6.os, hb6.tape, hb6.output, hb6.size, hb6.block⟩
  have h6 : w5.heap.size ≤ g6 := h6
  have h7 : w5.heap.size ≤ g7 := h7
  have hA2 := hA2.below hb6 hA2.lt
  have hA4 := hA4.below hb6 hA4.lt
  have hA5 := hA5.below hb6 hA5.lt
  have hb := hb.trans (hb6.mono hb.size)
  clear hb6
  refine rgNext (i := 8) (by kernel_rfl) rfl ?_
  refine stArr (b := g6) (cs := s.va) (.tmp 6) (.tmp 17) Tryd.ag_w4 (wn rfl) rfl (by kernel_rfl) (by kernel_rfl) hA6 rfl rfl (wvs_one _) ?_
  intro w7 hA6 hkeep hbel
  have hA2 := hkeep _ _ _ (by omega) hA2
  have hA4 := hkeep _ _ _ (by omega) hA4
  have hA5 := hkeep _ _ _ (by omega) hA5
  have hA7 := hkeep _ _ _ (Ne.symm h67) hA7
  have hb := hb.trans (hbel _ (by omega))
  clear hkeep hbel
  refine rgBack hA2 ?_
  refine rgNext (i := 9) (by kernel_rfl) rfl ?_
  refine stArr (b := g7) (cs := s.ve) (.tmp 7) (.tmp 20) Tryd.ag_w4 (wn rfl) rfl (by kernel_rfl) (by kernel_rfl) hA7 rfl rfl (wvs_one _) ?_
  intro w8 hA7 hkeep hbel
  have hA2 := hkeep _ _ _ (by omega) hA2
  have hA4 := hkeep _ _ _ (by omega) hA4
  have hA5 := hkeep _ _ _ (by omega) hA5
  have hA6 := hkeep _ _ _ h67 hA6
  have hb := hb.trans (hbel _ (by omega))
  clear hkeep hbel
  refine rgBack hA2 ?_
  refine rgDone (by kernel_rfl) ?_
  have ht8 := ht.below hb ht.size
  go_wp2_with (first | (with_reducible refine ldAgg (b := 1) (off := 0) (.global 1) (wvs shaK) Tryd.ag_w64 (wn rfl) rfl rfl rfl ht8.own ?_))
  have hlt2 : w.heap.size < w8.heap.size := hA2.lt
  have HN : w.heap.size ≤ g5 ∧ w.heap.size ≤ g6 ∧ w.heap.size ≤ g7 ∧ g4 ≠ g6 ∧ g4 ≠ g7 ∧ g5 ≠ g6 ∧ g5 ≠ g7 ∧ g6 ≠ g7 ∧ w.heap.size ≠ g6 ∧ w.heap.size ≠ g7 ∧ g4 ≠ w.heap.size := ⟨by omega, by omega, by omega, by omega, by omega, by omega, by omega, h67, by omega, by omega, by omega⟩
  clear hr hB hn h24 h3 h5 hsz h6 h7 ht8 hlt2
  go_loopw [22] (fun iv_ wr => ∃ t : Nat, t ≤ 64 ∧ iv_ = .int .i64 t ∧ CM w wr g4 g5 g6 g7 s l (rounds (sched l 64) s t).va (rounds (sched l 64) s t).ve) (fun iv_ _ => 64 - (intOf iv_).toNat)
  case atStart => exact ⟨0, by omega, rfl, hA6, hA7, hA5, hA2, hA4, hb⟩
  case round =>
    clear hA2 hA4 hA5 hA6 hA7 hb
    obtain ⟨t, ht64, rfl, hM⟩ := hrel
    obtain ⟨n1, n2, n3, n4, n5, n6, n7, n8, n9, n10, n11⟩ := HN
    by_cases h64 : t < 64
    · have hok := rounds_ok (sched l 64) hs t
      have hnx : rounds (sched l 64) s (t + 1) = step1 (rounds (sched l 64) s t) (nth shaK t) (nth (sched l 64) t) := rfl
      have HNX := Lib.hid hnx
      clear hnx
      rcases hst : rounds (sched l 64) s t with ⟨va, vb, vc, vd, ve, vf, vg, vh⟩
      rw [hst] at hok hM HNX
      obtain ⟨ka, kb, kc, kd, ke, kf, kg, kh⟩ := hok
      clear hst
      have e0 := hM.hA7.cell (i := 0) (v := .int .u32 ve) rfl
      have e1 := hM.hA7.cell (i := 1) (v := .int .u32 vf) rfl
      have e2 := hM.hA7.cell (i := 2) (v := .int .u32 vg) rfl
      have e3 := hM.hA7.cell (i := 3) (v := .int .u32 vh) rfl
      have cw : wr.cell? ⟨g5, t, none⟩ = some (.int .u32 (nth (sched l 64) t)) := hM.hA5.cell (wvs_get (by rw [sched_len]; exact h64))
      have hix := run_index_shaK t h64
      have xk := nth_lt shaK_lt t
      have xw := nth_lt (sched_lt l 64) t
      generalize nth (sched l 64) t = wt at *
      generalize nth shaK t = kt at *
      go_wp2_with fail
      go_quiet ((go_at_call 37; exact mix_q ve _ _ _ _ _ ke (by omega) (by omega) (by omega)))
      rw [x_bits va vb vc vd ve vf vg vh kt wt ke kf kg]
      obtain ⟨xv, hxv⟩ : ∃ xv, xv = stX ⟨va, vb, vc, vd, ve, vf, vg, vh⟩ kt wt := ⟨_, rfl⟩
      rw [← hxv]
      have HX := Lib.hid hxv
      clear hxv e0 e1 e2 e3 cw hix
      obtain ⟨wq, hwq⟩ : ∃ wq, wq = wr.drewN nq := ⟨_, rfl⟩
      rw [← hwq]
      have hM : CM w wq g4 g5 g6 g7 s l _ _ := hwq ▸ hM.drewN nq
      clear hwq
      have v0 := hM.hA6.cell (i := 0) (v := .int .u32 va) rfl
      have v1 := hM.hA6.cell (i := 1) (v := .int .u32 vb) rfl
      have v2 := hM.hA6.cell (i := 2) (v := .int .u32 vc) rfl
      go_wp2_with fail
      go_quiet ((go_at_call 37; exact mix_q va _ _ _ _ _ ka (by omega) (by omega) (by omega)))
      rw [y_bits va vb vc vd ve vf vg vh ka kb kc]
      obtain ⟨yv, hyv⟩ : ∃ yv, yv = stY ⟨va, vb, vc, vd, ve, vf, vg, vh⟩ := ⟨_, rfl⟩
      rw [← hyv]
      have HY := Lib.hid hyv
      clear hyv v0 v1 v2
      obtain ⟨wp, hwp⟩ : ∃ wp, wp = wq.drewN nq := ⟨_, rfl⟩
      rw [← hwp]
      have hM : CM w wp g4 g5 g6 g7 s l _ _ := hwp ▸ hM.drewN nq
      clear hwp
      have v3 := hM.hA6.cell (i := 3) (v := .int .u32 vd) rfl
      have e0 := hM.hA7.cell (i := 0) (v := .int .u32 ve) rfl
      have e1 := hM.hA7.cell (i := 1) (v := .int .u32 vf) rfl
      have e2 := hM.hA7.cell (i := 2) (v := .int .u32 vg) rfl
      have y1 : Value.agg #[.int .u32 (((vd : Int) + (xv : Int)) % 4294967296), .int .u32 (ve : Int), .int .u32 (vf : Int), .int .u32 (vg : Int)] = .agg (wvs [add32 vd xv, ve, vf, vg]).toArray := by simp [wvs, wv, add32]
      have y2 : Value.agg #[.int .u32 (((xv : Int) + (yv : Int)) % 4294967296), .int .u32 (va : Int), .int .u32 (vb : Int), .int .u32 (vc : Int)] = .agg (wvs [add32 xv yv, va, vb, vc]).toArray := by simp [wvs, wv, add32]
      have Y1 := Lib.hid y1
      have Y2 := Lib.hid y2
      clear y1 y2
      go_wp2_with (with_reducible refine stArr (b := g7) (cs := wvs [add32 vd xv, ve, vf, vg]) (.tmp 7) (.tmp 82) Tryd.ag_w4 (wn rfl) rfl rfl ?hy hM.hA7 rfl rfl (wvs_one _) ?hk)
      case hy => exact Y1.out
      intro wa hA7 hkeep hbel
      have hM : CM w wa g4 g5 g6 g7 s l _ _ := ⟨hkeep _ _ _ n8 hM.hA6, hA7, hkeep _ _ _ n7 hM.hA5, hkeep _ _ _ n10 hM.hA2, hkeep _ _ _ n5 hM.hA4, hM.hb.trans (hbel _ n3)⟩
      clear hA7 hkeep hbel v3 e0 e1 e2
      have v0 := hM.hA6.cell (i := 0) (v := .int .u32 va) rfl
      have v1 := hM.hA6.cell (i := 1) (v := .int .u32 vb) rfl
      have v2 := hM.hA6.cell (i := 2) (v := .int .u32 vc) rfl
      go_wp2_with (with_reducible refine stArr (b := g6) (cs := wvs [add32 xv yv, va, vb, vc]) (.tmp 6) (.tmp 92) Tryd.ag_w4 (wn rfl) rfl rfl ?hy2 hM.hA6 rfl rfl (wvs_one _) ?hk2)
      case hy2 => exact Y2.out
      intro wb hA6 hkeep hbel
      have hM : CM w wb g4 g5 g6 g7 s l _ _ := ⟨hA6, hkeep _ _ _ (Ne.symm n8) hM.hA7, hkeep _ _ _ n6 hM.hA5, hkeep _ _ _ n9 hM.hA2, hkeep _ _ _ n4 hM.hA4, hM.hb.trans (hbel _ n2)⟩
      clear hA6 hkeep hbel v0 v1 v2
      go_wp2_with fail
      go_roundw
      case rel =>
        refine ⟨t + 1, by omega, by go_num, ?_⟩
        rw [HNX.out]
        have e1 : (step1 ⟨va, vb, vc, vd, ve, vf, vg, vh⟩ kt wt).va = wvs [add32 xv yv, va, vb, vc] := by rw [HX.out, HY.out]; rfl
        have e2 : (step1 ⟨va, vb, vc, vd, ve, vf, vg, vh⟩ kt wt).ve = wvs [add32 vd xv, ve, vf, vg] := by rw [HX.out]; rfl
        rw [e1, e2]
        exact hM
      case measure => (simp [intOf]; try omega)
    · obtain rfl : t = 64 := by omega
      have hr4 : compr s l = s.add (rounds (sched l 64) s 64) := rfl
      have HR := Lib.hid hr4
      clear hr4
      generalize rounds (sched l 64) s 64 = r at *
      obtain ⟨hA6, hA7, _, hA2, hA4, hb⟩ := hM
      rw [← finL_0 s r] at hA2
      go_wp2_with fail
      go_loopw [94] (fun iv_ wr => ∃ i : Nat, i ≤ 4 ∧ iv_ = .int .i64 i ∧ Arr wr g6 63 r.va ∧ Arr wr g7 63 r.ve ∧ Arr wr w.heap.size 30 (finL s r i) ∧ Arr wr g4 30 zeros8 ∧ Below w.heap.size w wr) (fun iv_ _ => 4 - (intOf iv_).toNat)
      case atStart => exact ⟨0, by omega, rfl, hA6, hA7, hA2, hA4, hb⟩
      case round =>
        clear hA6 hA7 hA2 hA4 hb
        rename_i wo wr
        obtain ⟨i, hi4, rfl, hA6, hA7, hA2, hA4, hb⟩ := hrel
        by_cases hi : i < 4
        · have c1 : wr.cell? ⟨w.heap.size, i, none⟩ = some (.int .u32 (nth s.list i)) := hA2.cell (finL_lo s r hi)
          have c2 : wr.cell? ⟨g6, i, none⟩ = some (.int .u32 (nth r.list i)) := hA6.cell (va_get r hi)
          have f1 := hA2.thaw i
          go_wp2_with fail
          go_region
          rw [wv_add]
          obtain ⟨wq, hwq⟩ : ∃ wq, wq = (wr.setCell ⟨w.heap.size, i, none⟩ (wv (add32 (nth s.list i) (nth r.list i)))).drew := ⟨_, rfl⟩
          rw [← hwq]
          have hA2 : Arr wq w.heap.size 30 ((finL s r i).set i (wv (add32 (nth s.list i) (nth r.list i)))) := hwq ▸ (hA2.set i _).drew
          have hA6 : Arr wq g6 63 r.va := hwq ▸ (hA6.other n9 i _).drew
          have hA7 : Arr wq g7 63 r.ve := hwq ▸ (hA7.other n10 i _).drew
          have hA4 : Arr wq g4 30 zeros8 := hwq ▸ (hA4.other (Ne.symm n11) i _).drew
          have hb : Below w.heap.size w wq := hwq ▸ (hb.setCell (p := ⟨w.heap.size, i, none⟩) (Nat.le_refl _) _).drew
          clear hwq c1 c2 f1
          have c1 : wq.cell? ⟨w.heap.size, i + 4, none⟩ = some (.int .u32 (nth s.list (i + 4))) := hA2.cell (finL_hi s r _ hi)
          have c2 : wq.cell? ⟨g7, i, none⟩ = some (.int .u32 (nth r.list (i + 4))) := hA7.cell (ve_get r hi)
          have f1 := hA2.thaw (i + 4)
          have i4 : ((i : Int) + 4).toNat = i + 4 := by omega
          go_wp2_with fail
          go_region
          rw [wv_add]
          obtain ⟨wp, hwp⟩ : ∃ wp, wp = (wq.setCell ⟨w.heap.size, i + 4, none⟩ (wv (add32 (nth s.list (i + 4)) (nth r.list (i + 4))))).drew := ⟨_, rfl⟩
          rw [← hwp]
          have hA2 : Arr wp w.heap.size 30 (finL s r (i + 1)) := hwp ▸ finL_next s r hi ▸ (hA2.set (i + 4) _).drew
          have hA6 : Arr wp g6 63 r.va := hwp ▸ (hA6.other n9 (i + 4) _).drew
          have hA7 : Arr wp g7 63 r.ve := hwp ▸ (hA7.other n10 (i + 4) _).drew
          have hA4 : Arr wp g4 30 zeros8 := hwp ▸ (hA4.other (Ne.symm n11) (i + 4) _).drew
          have hb : Below w.heap.size w wp := hwp ▸ (hb.setCell (p := ⟨w.heap.size, i + 4, none⟩) (Nat.le_refl _) _).drew
          clear hwp c1 c2 f1
          go_wp2_with fail
          go_roundw
          case rel => exact ⟨i + 1, by omega, by go_num, hA6, hA7, hA2, hA4, hb⟩
          case measure => (simp [intOf]; try omega)
        · obtain rfl : i = 4 := by omega
          rw [finL_4] at hA2
          go_wp2_with (first | (with_reducible refine ldArr (.tmp 2) Tryd.ag_w8 (wn rfl) rfl rfl rfl hA2 ?_) | (with_reducible refine stArr (.tmp 4) (.tmp 115) Tryd.ag_w8 (wn rfl) rfl rfl rfl hA4 (by simp [zeros8]) rfl (wvs_one _) ?_))
          intro wz hA4 hkeep hbel
          go_wp2_with fail
          refine bodyPost_ret (v := .agg (compr s l).vals.toArray) ?_ rfl ⟨rfl, hb.trans (hbel _ (by omega))⟩
          rw [HR.out]
          exact res_cell1 (s.add r).vals Tryd.results30 Tryd.ag_w8 _ rfl rfl (fun j u hu => by rw [Nat.zero_add]; exact hA4.cell hu)
end Go.Proofs.YthmhmjdppldmiaaDoor
