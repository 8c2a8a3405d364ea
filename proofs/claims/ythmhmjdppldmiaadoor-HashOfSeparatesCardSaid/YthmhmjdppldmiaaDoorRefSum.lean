/-
  Sum of the specification returns the bytes that sha gives.
-/
import Derived.Test.YthmhmjdppldmiaaDoorOut
namespace Go.Proofs.YthmhmjdppldmiaaDoor
open Go.RowKit

/-- What memory holds in the loop over the blocks. -/
structure RM (w wr : World) (g3 gM : Nat) (cur : List Value) (s : St) : Prop where
  h3 : Arr wr g3 30 s.vals
  hM : Arr wr gM 5 cur
  h2 : Arr wr w.heap.size 24 (zerosB 32)
  hb : Below w.heap.size w wr
/-- .. and in the loop over the rounds. -/
structure RN (w wr : World) (g3 gM g6 g7 : Nat) (cur : List Value) (s : St) (ws : List Value) (v : List Value) : Prop where
  m : RM w wr g3 gM cur s
  h6 : Arr wr g6 54 ws
  h7 : Arr wr g7 30 v
theorem RM.below {w wr w' : World} {g3 gM : Nat} {cur : List Value} {s : St} (h : RM w wr g3 gM cur s) (hb : Below wr.heap.size wr w') : RM w w' g3 gM cur s :=
  ⟨h.h3.below hb h.h3.lt, h.hM.below hb h.hM.lt, h.h2.below hb h.h2.lt, h.hb.trans (hb.mono h.hb.size)⟩
theorem RN.drewN {w wr : World} {g3 gM g6 g7 : Nat} {cur : List Value} {s : St} {ws v : List Value} (h : RN w wr g3 gM g6 g7 cur s ws v) (n : Nat) : RN w (wr.drewN n) g3 gM g6 g7 cur s ws v :=
  ⟨⟨h.m.h3, h.m.hM, h.m.h2, ⟨h.m.hb.os, h.m.hb.tape, h.m.hb.output, h.m.hb.size, h.m.hb.block⟩⟩, h.h6, h.h7⟩

set_option maxRecDepth 100000 in
set_option maxHeartbeats 2000000 in
theorem refSum_any (l : List UInt8) (A : Option Addr) (n c B : Nat) (w : World) (ht : TabsR w) (hr : Rd w B 1 A n c (bcs l)) (hB : B ≤ w.heap.size) (hn : n ≤ 1099511627776) :
    Calls Tryd.prog 12 #[.slice A n c] w fun e w' => e = .returned (.agg (bcs (sha l)).toArray) ∧ Below w.heap.size w w' := by
  go_enter Tryd.func12, Tryd.ntmps12
  go_wp2_with (first | (with_reducible refine alArr (z := zerosB 32) Tryd.ag_b32 (wn rfl) rfl ?_))
  intro w1 h2 hb
  go_wp2_with (first | (with_reducible refine alArr (z := zeros8) Tryd.ag_w8 (wn rfl) rfl ?_))
  intro w2 h3 hb2
  have h23 : w.heap.size < w1.heap.size := h2.lt
  have h2 := h2.below hb2 h2.lt
  have hb := hb.trans (hb2.mono hb.size)
  have h33 : w1.heap.size < w2.heap.size := h3.lt
  clear hb2
  generalize w1.heap.size = g3 at *
  obtain ⟨c0, hc0⟩ : ∃ c0, c0 = (St.of sha0).vals := ⟨_, rfl⟩
  have y0 : Value.agg #[.int .u32 1779033703, .int .u32 3144134277, .int .u32 1013904242, .int .u32 2773480762, .int .u32 1359893119, .int .u32 2600822924, .int .u32 528734635, .int .u32 1541459225] = .agg c0.toArray := by rw [hc0]; rfl
  have Y0 := Lib.hid y0
  have o0 : ∀ u ∈ c0, u.oneCell' = true := by rw [hc0]; exact wvs_one _
  have l0 : c0.length = 8 := by rw [hc0]; rfl
  have HC := Lib.hid hc0
  have L0 := Lib.hid l0
  clear y0 hc0 l0
  go_wp2_with (with_reducible refine stArr (b := g3) (cs := c0) (.tmp 3) (.tmp 14) Tryd.ag_w8 (wn rfl) rfl rfl ?hy h3 rfl L0.out o0 ?hk)
  case hy => exact Y0.out
  intro w3 h3 hkeep hbel
  have hc0' := HC
  have h2 := hkeep _ _ _ (by omega) h2
  have hb := hb.trans (hbel _ (by omega))
  clear hkeep hbel
  rw [hc0'.out] at h3
  clear o0 Y0 L0
  have hl : l.length = n := by have := hr.len; simpa [bcs] using this
  obtain ⟨Q, hQ, hQ1, hQ2⟩ := pad_total l
  have hsha := sha_eq l Q hQ
  have hpad := padded_any l A n c B w3 (hr.below (hb.mono hB)) (by have := hb.size; omega) hn
  rw [hQ] at hpad
  rw [hl] at hQ2
  generalize l ++ padding l.length = M at *
  have HS := Lib.hid hsha
  have HQ := Lib.hid hQ
  clear hsha hQ hl hr
  go_wp2_with fail
  refine hpad.mono ?_
  rintro e w4 hret
  obtain ⟨gM, cM, cur, rfl, hgM, hNc, hcm, hML, hM, hpre, hb4⟩ := hret.arr (by omega)
  have h2 := h2.below hb4 h2.lt
  have h3' := h3.lt
  have h3 := h3.below hb4 h3.lt
  have hb := hb.trans (hb4.mono hb.size)
  clear hret hb4 hpad
  have n1 : g3 ≠ gM := by omega
  have n2 : w.heap.size ≤ g3 := by omega
  have n3 : w.heap.size < gM := by omega
  clear h33 hgM h3'
  go_wp2_with fail
  go_loopw [5] (fun v wr => ∃ q : Nat, q ≤ Q ∧ v = .int .i64 (64 * (q : Int)) ∧ RM w wr g3 gM cur (blocks M (St.of sha0) q)) (fun v _ => 64 * Q - (intOf v).toNat)
  case atStart => exact ⟨0, by omega, rfl, h3, hM, h2, hb⟩
  case round =>
    clear h3 hM h2 hb
    obtain ⟨q, hq, rfl, hm⟩ := hrel
    by_cases hlt : q < Q
    · clear HS
      have hsm := rd_of_arr hm.hM hpre hML hNc hcm hm.hM.lt
      have hnx : blocks M (St.of sha0) (q + 1) = compr (blocks M (St.of sha0) q) ((M.drop (64 * q)).take 64) := rfl
      have hokq := blocks_ok M sha0_ok q
      have HNX := Lib.hid hnx
      clear hnx
      generalize blocks M (St.of sha0) q = sq at *
      have h64 : 64 * q + 64 ≤ 64 * Q := by omega
      go_wp2_with (with_reducible refine slLH (U := 64 * q) (V := 64 * q + 64) (.tmp 23) (.tmp 24) (.tmp 26) Tryd.sl_u8 (wn rfl) rfl rfl rfl rfl hsm (by omega) (by omega) (by omega) (by omega) ?_)
      intro A5 hcut
      have e1 : 64 * q + 64 - 64 * q = 64 := by omega
      simp only [bcs_cut] at hcut
      generalize (M.drop (64 * q)).take 64 = bl at *
      have E1 := Lib.hid e1
      clear e1 hsm
      go_wp2_with fail
      refine (words_any bl A5 64 _ _ _ hcut (Nat.le_refl _) (Nat.le_refl _)).mono ?_
      rintro e w5 ⟨rfl, hb5⟩
      have hm := hm.below hb5
      clear hb5 hcut
      go_wp2_with (with_reducible refine alArr (z := zeros64) Tryd.ag_w64 (wn rfl) rfl ?_)
      intro w6 h6 hb6
      have hg6 : w.heap.size < w5.heap.size ∧ g3 < w5.heap.size ∧ gM < w5.heap.size := ⟨hm.h2.lt, hm.h3.lt, hm.hM.lt⟩
      have hm := hm.below hb6
      clear hb6
      generalize w5.heap.size = g6 at *
      go_wp2_with (with_reducible refine stArr (b := g6) (cs := wvs (sched bl 64)) (.tmp 6) (.tmp 28) Tryd.ag_w64 (wn rfl) rfl rfl rfl h6 (by simp [zeros64]) (by simp [wvs, sched_len]) (wvs_one _) ?_)
      intro w7 h6 hkeep hbel
      have hm : RM w w7 g3 gM cur sq := ⟨hkeep _ _ _ (by omega) hm.h3, hkeep _ _ _ (by omega) hm.hM, hkeep _ _ _ (by omega) hm.h2, hm.hb.trans (hbel _ (by omega))⟩
      clear hkeep hbel
      go_wp2_with (first | (with_reducible refine ldArr (.tmp 3) Tryd.ag_w8 (wn rfl) rfl rfl rfl hm.h3 ?_) | (with_reducible refine alArr (z := zeros8) Tryd.ag_w8 (wn rfl) rfl ?_))
      intro w8 h7 hb8
      have hg7 : g6 < w7.heap.size := h6.lt
      have hm := hm.below hb8
      have h6 := h6.below hb8 h6.lt
      clear hb8
      generalize w7.heap.size = g7 at *
      go_wp2_with (with_reducible refine stArr (b := g7) (cs := sq.vals) (.tmp 7) (.tmp 29) Tryd.ag_w8 (wn rfl) rfl rfl rfl h7 zeros8_len (St.vals_len _) (St.vals_one _) ?_)
      intro w9 h7 hkeep hbel
      have hN : RN w w9 g3 gM g6 g7 cur sq (wvs (sched bl 64)) sq.vals := ⟨⟨hkeep _ _ _ (by omega) hm.h3, hkeep _ _ _ (by omega) hm.hM, hkeep _ _ _ (by omega) hm.h2, hm.hb.trans (hbel _ (by omega))⟩, hkeep _ _ _ (by omega) h6, h7⟩
      clear hkeep hbel hm h6 h7
      have m1 : w.heap.size ≤ g7 := by omega
      have m2 : g3 ≠ g7 := by omega
      have m3 : gM ≠ g7 := by omega
      have m4 : w.heap.size ≠ g7 := by omega
      have m5 : g6 ≠ g7 := by omega
      have m6 : g6 ≠ g3 := by omega
      have m7 : w.heap.size ≠ g3 := by omega
      clear hg6 hg7
      go_wp2_with fail
      obtain ⟨wo, rfl⟩ : ∃ wo : World, wo = wr := ⟨_, rfl⟩
      have hrd : rounds (sched bl 64) sq 0 = sq := rfl
      rw [← hrd] at hN
      clear hrd
      go_loopw [8] (fun iv_ wr => ∃ t : Nat, t ≤ 64 ∧ iv_ = .int .i64 t ∧ RN w wr g3 gM g6 g7 cur sq (wvs (sched bl 64)) (rounds (sched bl 64) sq t).vals) (fun iv_ _ => 64 - (intOf iv_).toNat)
      case atStart => exact ⟨0, by omega, rfl, hN⟩
      case round =>
        clear hN
        obtain ⟨t, ht64, rfl, hN⟩ := hrel
        by_cases h64 : t < 64
        · have hok := rounds_ok (sched bl 64) hokq t
          have hnx : rounds (sched bl 64) sq (t + 1) = step1 (rounds (sched bl 64) sq t) (nth shaK t) (nth (sched bl 64) t) := rfl
          have HNR := Lib.hid hnx
          clear hnx
          rcases hst : rounds (sched bl 64) sq t with ⟨va, vb, vc, vd, ve, vf, vg, vh⟩
          rw [hst] at hok hN HNR
          obtain ⟨ka, kb, kc, kd, ke, kf, kg, kh⟩ := hok
          clear hst
          have e0 := hN.h7.cell (i := 4) (v := .int .u32 ve) rfl
          have e1 := hN.h7.cell (i := 5) (v := .int .u32 vf) rfl
          have e2 := hN.h7.cell (i := 6) (v := .int .u32 vg) rfl
          have e3 := hN.h7.cell (i := 7) (v := .int .u32 vh) rfl
          have cw : wr.cell? ⟨g6, t, none⟩ = some (.int .u32 (nth (sched bl 64) t)) := hN.h6.cell (wvs_get (by rw [sched_len]; exact h64))
          have ck : wr.cell? ⟨0, t, none⟩ = some (.int .u32 (nth shaK t)) := by
            have := (ht.below hN.m.hb ht.size).ref t _ (wvs_get (by rw [shaK_len]; exact h64))
            rwa [Nat.zero_add] at this
          have xk := nth_lt shaK_lt t
          have xw := nth_lt (sched_lt bl 64) t
          generalize nth (sched bl 64) t = wt at *
          generalize nth shaK t = kt at *
          go_wp2_with fail
          go_quiet ((go_at_call 29; exact refRotr_q ve _ _ _ ke (by omega) (by omega)))
          rw [x2_bits va vb vc vd ve vf vg vh kt wt ke kf kg]
          obtain ⟨xv, hxv⟩ : ∃ xv, xv = stX ⟨va, vb, vc, vd, ve, vf, vg, vh⟩ kt wt := ⟨_, rfl⟩
          rw [← hxv]
          have HX := Lib.hid hxv
          clear hxv e0 e1 e2 e3 cw ck
          obtain ⟨wq, hwq⟩ : ∃ wq, wq = wr.drewN nq := ⟨_, rfl⟩
          rw [← hwq]
          have hN : RN w wq g3 gM g6 g7 cur sq _ _ := hwq ▸ hN.drewN nq
          clear hwq
          have v0 := hN.h7.cell (i := 0) (v := .int .u32 va) rfl
          have v1 := hN.h7.cell (i := 1) (v := .int .u32 vb) rfl
          have v2 := hN.h7.cell (i := 2) (v := .int .u32 vc) rfl
          go_wp2_with fail
          go_quiet ((go_at_call 29; exact refRotr_q va _ _ _ ka (by omega) (by omega)))
          rw [y2_bits va vb vc vd ve vf vg vh ka kb kc]
          obtain ⟨yv, hyv⟩ : ∃ yv, yv = stY ⟨va, vb, vc, vd, ve, vf, vg, vh⟩ := ⟨_, rfl⟩
          rw [← hyv]
          have HY := Lib.hid hyv
          clear hyv v0 v1 v2
          obtain ⟨wp, hwp⟩ : ∃ wp, wp = wq.drewN nq := ⟨_, rfl⟩
          rw [← hwp]
          have hN : RN w wp g3 gM g6 g7 cur sq _ _ := hwp ▸ hN.drewN nq
          clear hwp
          have v0 := hN.h7.cell (i := 0) (v := .int .u32 va) rfl
          have v1 := hN.h7.cell (i := 1) (v := .int .u32 vb) rfl
          have v2 := hN.h7.cell (i := 2) (v := .int .u32 vc) rfl
          have v3 := hN.h7.cell (i := 3) (v := .int .u32 vd) rfl
          have v4 := hN.h7.cell (i := 4) (v := .int .u32 ve) rfl
          have v5 := hN.h7.cell (i := 5) (v := .int .u32 vf) rfl
          have v6 := hN.h7.cell (i := 6) (v := .int .u32 vg) rfl
          have z1 : Value.int .u32 (((xv : Int) + (yv : Int)) % 4294967296) = wv (add32 xv yv) := wv_add xv yv
          have z2 : Value.int .u32 (((vd : Int) + (xv : Int)) % 4294967296) = wv (add32 vd xv) := wv_add vd xv
          have Z1 := Lib.hid z1
          have Z2 := Lib.hid z2
          clear z1 z2
          go_wp2_with (first | (with_reducible refine bdArr (wvs [add32 xv yv, va, vb, vc, add32 vd xv, ve, vf, vg]) Tryd.ag_w8 Tryd.arr_w8 Tryd.one_u32 (wn rfl) rfl ?hev rfl (wvs_cells _) ?hk) | (with_reducible refine stArr (b := g7) (cs := wvs [add32 xv yv, va, vb, vc, add32 vd xv, ve, vf, vg]) (.tmp 7) (.tmp 117) Tryd.ag_w8 (wn rfl) rfl rfl rfl hN.h7 (St.vals_len _) rfl (wvs_one _) ?_))
          intro wa h7 hkeep hbel
          have hN : RN w wa g3 gM g6 g7 cur sq (wvs (sched bl 64)) _ := ⟨⟨hkeep _ _ _ m2 hN.m.h3, hkeep _ _ _ m3 hN.m.hM, hkeep _ _ _ m4 hN.m.h2, hN.m.hb.trans (hbel _ m1)⟩, hkeep _ _ _ m5 hN.h6, h7⟩
          clear h7 hkeep hbel v0 v1 v2 v3 v4 v5 v6
          go_wp2_with fail
          go_roundw
          case rel =>
            refine ⟨t + 1, by omega, by go_num, ?_⟩
            rw [HNR.out]
            have e1 : (step1 ⟨va, vb, vc, vd, ve, vf, vg, vh⟩ kt wt).vals = wvs [add32 xv yv, va, vb, vc, add32 vd xv, ve, vf, vg] := by rw [HX.out, HY.out]; rfl
            rw [e1]
            exact hN
          case measure => (simp [intOf]; try omega)
        · obtain rfl : t = 64 := by omega
          have hr4 : compr sq bl = sq.add (rounds (sched bl 64) sq 64) := rfl
          have HR := Lib.hid hr4
          clear hr4
          generalize rounds (sched bl 64) sq 64 = r at *
          obtain ⟨⟨h3, hM, h2, hb⟩, _, h7⟩ := hN
          rw [← fin8_0 sq r] at h3
          go_wp2_with fail
          go_loopw [11] (fun iv_ wr => ∃ i : Nat, i ≤ 8 ∧ iv_ = .int .i64 i ∧ Arr wr g3 30 (fin8 sq r i) ∧ Arr wr gM 5 cur ∧ Arr wr w.heap.size 24 (zerosB 32) ∧ Arr wr g7 30 r.vals ∧ Below w.heap.size w wr) (fun iv_ _ => 8 - (intOf iv_).toNat)
          case atStart => exact ⟨0, by omega, rfl, h3, hM, h2, h7, hb⟩
          case round =>
            clear h3 hM h2 h7 hb
            rename_i wo2 wr
            obtain ⟨i, hi8, rfl, h3, hM, h2, h7, hb⟩ := hrel
            by_cases hi : i < 8
            · have c1 : wr.cell? ⟨g3, i, none⟩ = some (.int .u32 (nth sq.list i)) := h3.cell (fin8_at sq r hi)
              have c2 : wr.cell? ⟨g7, i, none⟩ = some (.int .u32 (nth r.list i)) := h7.cell (vals_get r hi)
              have f1 := h3.thaw i
              go_wp2_with fail
              go_region
              rw [wv_add]
              obtain ⟨wq, hwq⟩ : ∃ wq, wq = (wr.setCell ⟨g3, i, none⟩ (wv (add32 (nth sq.list i) (nth r.list i)))).drew := ⟨_, rfl⟩
              rw [← hwq]
              have h3 : Arr wq g3 30 (fin8 sq r (i + 1)) := hwq ▸ fin8_next sq r hi ▸ (h3.set i _).drew
              have hM : Arr wq gM 5 cur := hwq ▸ (hM.other n1 i _).drew
              have h2 : Arr wq w.heap.size 24 (zerosB 32) := hwq ▸ (h2.other (Ne.symm m7) i _).drew
              have h7 : Arr wq g7 30 r.vals := hwq ▸ (h7.other m2 i _).drew
              have hb : Below w.heap.size w wq := hwq ▸ (hb.setCell (p := ⟨g3, i, none⟩) n2 _).drew
              clear hwq c1 c2 f1
              go_wp2_with fail
              go_roundw
              case rel => exact ⟨i + 1, by omega, by go_num, h3, hM, h2, h7, hb⟩
              case measure => (simp [intOf]; try omega)
            · obtain rfl : i = 8 := by omega
              rw [fin8_8, ← HR.out, ← HNX.out] at h3
              go_wp2_with fail
              go_roundw
              case rel => exact ⟨q + 1, by omega, by go_num, h3, hM, h2, hb⟩
              case measure => (simp [intOf]; try omega)
    · obtain rfl : q = Q := by omega
      have hshl : (sha l).length = 32 := by rw [HS.out]; exact outOf_len _
      have hget := fun (s : St) => outOf_get s
      have HG := Lib.hid hget
      have HSL := Lib.hid hshl
      clear hget hshl
      generalize blocks M (St.of sha0) q = sq at *
      obtain ⟨h3, _, h2, hb⟩ := hm
      go_wp2_with (with_reducible refine alArr (z := zerosB 32) Tryd.ag_b32 (wn rfl) rfl ?_)
      intro wa h12 hba
      have hg12 := h2.lt
      have hg12' := h3.lt
      replace h3 := h3.below hba h3.lt
      replace h2 := h2.below hba h2.lt
      replace hb := hb.trans (hba.mono hb.size)
      clear hba
      generalize wr.heap.size = g12 at *
      have k1 : g12 ≠ g3 := by omega
      have k2 : g12 ≠ w.heap.size := by omega
      have k3 : w.heap.size ≤ g12 := by omega
      clear hg12 hg12'
      rw [← laidB_0 (sha l)] at h12
      go_wp2_with fail
      go_loopw [13] (fun iv_ wr => ∃ i : Nat, i ≤ 32 ∧ iv_ = .int .i64 i ∧ Arr wr g3 30 sq.vals ∧ Arr wr w.heap.size 24 (zerosB 32) ∧ Arr wr g12 24 (laidB (sha l) 32 i) ∧ Below w.heap.size w wr) (fun iv_ _ => 32 - (intOf iv_).toNat)
      case atStart => exact ⟨0, by omega, rfl, h3, h2, h12, hb⟩
      case round =>
        clear h3 h2 h12 hb
        rename_i wo2 wr
        obtain ⟨i, hi32, rfl, h3, h2, h12, hb⟩ := hrel
        by_cases hi : i < 32
        · have c1 : wr.cell? ⟨g3, i / 4, none⟩ = some (.int .u32 (nth sq.list (i / 4))) := h3.cell (vals_get sq (by omega))
          have c2 := h12.cell (laidB_at (sha l) 32 i HSL.out hi)
          have f1 := h12.thaw i
          have i1 : ((i : Int) / 4).toNat = i / 4 := by omega
          have i2 : (24 - 8 * ((i : Int) % 4)).toNat = 24 - 8 * (i % 4) := by omega
          have hgb := laidB_next (sha l) 32 i _ HSL.out (by rw [HS.out]; exact HG.out sq i hi)
          have HB := Lib.hid hgb
          clear hgb
          go_wp2_with fail
          rw [out_byte]
          go_roundw
          case rel =>
            refine ⟨i + 1, by omega, by go_num, h3.other k1 _ _, h2.other k2 _ _, ?_, hb.setCell (show w.heap.size ≤ g12 from k3) _⟩
            rw [← HB.out]
            exact h12.set i _
          case measure => (simp [intOf]; try omega)
        · obtain rfl : i = 32 := by omega
          rw [laidB_n _ _ HSL.out] at h12
          have hl32 : (bcs (sha l)).length = 32 := by rw [bcs_length]; exact HSL.out
          have HL32 := Lib.hid hl32
          clear hl32
          go_wp2_with (first | (with_reducible refine ldArr (.tmp 12) Tryd.ag_b32 (wn rfl) rfl rfl HL32.out h12 ?_) | (with_reducible refine stArr (.tmp 2) (.tmp 147) Tryd.ag_b32 (wn rfl) rfl rfl rfl h2 (zerosB_len _) HL32.out (bcs_one _) ?_))
          intro wz h2 hkeep hbel
          go_wp2_with fail
          refine bodyPost_ret (v := .agg (bcs (sha l)).toArray) ?_ rfl ⟨rfl, hb.trans (hbel _ (Nat.le_refl _))⟩
          exact res_cell1 (bcs (sha l)) Tryd.results12 Tryd.ag_b32 _ rfl HL32.out (fun j u hu => by rw [Nat.zero_add]; exact h2.cell hu)
end Go.Proofs.YthmhmjdppldmiaaDoor
