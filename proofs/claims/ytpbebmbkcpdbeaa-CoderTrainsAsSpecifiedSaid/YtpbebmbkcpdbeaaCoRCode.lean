/-
  The reference's Code: what it returns. No statement is proved here.
-/
import Derived.Test.YtpbebmbkcpdbeaaCoRNarrow
import Derived.Test.YtpbebmbkcpdbeaaCoRTrain
import Derived.Test.YtpbebmbkcpdbeaaCoEncode
import Derived.Test.YtpbebmbkcpdbeaaLast
import Derived.Outline
namespace Go.Proofs.Ytpbebmbkcpdbeaa
open Go.RowKit
set_option linter.unusedVariables false

theorem coRun_part (s : List Nat × CoIv) (x : UInt8) (t : Nat) : coRun s (coPart x (t + 1)) = coStep (coRun s (coPart x t)) (coCtx x t, coBit x t) := by
  rw [coPart_succ, coRun_append]
  rfl
theorem coRun_next (s : List Nat × CoIv) (text : List UInt8) (k : Nat) (hk : k < text.length) : coRun (coRun s (coAll (text.take k))) (coPart (text.getD k 0) 8) = coRun s (coAll (text.take (k + 1))) := by
  rw [← coRun_append, List.take_add_one, coAll_append, List.getD_eq_getElem?_getD, List.getElem?_eq_getElem hk]
  rfl
theorem coAll_len (l : List UInt8) : (coAll l).length = 8 * l.length := by rw [← coUpto_all, List.length_map, coUpto_length]
theorem coPart_len (x : UInt8) (t : Nat) : (coPart x t).length = t := by unfold coPart; rw [List.length_map, List.length_range]
theorem Try.und_i256 : Try.prog.underlying 30 = some (.array 256 3) := by kernel_rfl
theorem ri_one_nil (x y : Nat) : ∀ u ∈ riCells x y (.slice none 0 0), u.oneCell' = true := by
  intro u hu
  simp only [riCells, List.mem_cons, List.not_mem_nil, or_false] at hu
  rcases hu with rfl | rfl | rfl <;> rfl
/-- What holds while the reference codes. -/
structure CoRIn (s : List Nat × CoIv) (n0 g5 g6 : Nat) (w0 w : World) : Prop where
  st : CoSt s
  len : s.2.out.length ≤ 100000000
  m : Arr w g5 30 (mcs s.1)
  v : ∃ vo, Arr w g6 58 (riCells s.2.x s.2.y vo) ∧ w.ownsRow n0 5 1 vo s.2.out.length (bcs s.2.out)
  b : Below n0 w0 w

set_option maxRecDepth 100000 in
set_option maxHeartbeats 2000000 in
theorem refCode_any (prior data : List UInt8) (hp : prior.length ≤ 140737488351232) (hd : data.length ≤ 1000000) (w : World) :
    Calls Try.prog 26 #[.string ⟨prior.toArray⟩, .string ⟨data.toArray⟩] w fun e w' => e = .returned (.string ⟨(coCode prior data).toArray⟩) ∧ Below w.heap.size w w' := by
  have HS := Lib.hid (coNew_st prior)
  have HT := Lib.hid (fun w' => refTrain_any coNew coNew_good prior hp w')
  obtain ⟨C, hC⟩ : ∃ C, C = coCode prior data := ⟨_, rfl⟩
  rw [← hC]
  unfold coCode at hC
  have HC := Lib.hid hC
  clear hC
  generalize coTrain coNew (coAll prior) = m0 at *
  go_enter Try.func26, Try.ntmps26
  go_wp2_with fail
  refine (refNew_any w).mono ?_
  rintro e w1 ⟨rfl, b1⟩
  go_wp2_with fail
  refine (HT.out w1).mono ?_
  rintro e w2 ⟨rfl, b2⟩
  have hb := b1.trans (b2.mono b1.size)
  clear b1 b2
  go_wp2_with (with_reducible refine alArr (z := mcs coZero) Try.ag_i256 (wn rfl) rfl ?_)
  intro w3 h5 b3
  have l5 : w.heap.size ≤ w2.heap.size := hb.size
  replace hb := hb.trans (b3.mono l5)
  clear b3
  have HL := Lib.hid (show (mcs m0).length = 256 by rw [mcs_length]; exact HS.out.good.len)
  go_wp2_with (with_reducible refine stArrG (cs := mcs m0) (.tmp 5) (.tmp 13) Try.ag_i256 (wn rfl) rfl rfl rfl h5 (by kernel_rfl) HL.out (mcs_one _) ?_)
  intro w4 h5 hgr
  replace hb := hb.grown hgr hb.size (fun k e => by cases e; exact l5)
  clear hgr
  generalize w2.heap.size = g5 at *
  go_wp2_with (with_reducible refine alArr (z := riCells 0 0 (.slice none 0 0)) Try.ag_ri (wn rfl) rfl ?_)
  intro w5 h6 b5
  have l6 := h5.lt
  replace h5 := h5.below b5 h5.lt
  replace hb := hb.trans (b5.mono hb.size)
  clear b5
  go_wp2_with (with_reducible refine stArrG (cs := riCells 0 4294967295 (.slice none 0 0)) (.tmp 6) (.tmp 14) Try.ag_ri (wn rfl) rfl rfl rfl h6 (by kernel_rfl) (by kernel_rfl) (ri_one_nil _ _) ?_)
  intro w6 h6 hgr
  have hne : g5 ≠ w4.heap.size := by omega
  replace h5 := h5.grown hgr (fun e => hne (by injection e))
  replace hb := hb.grown hgr hb.size (fun k e => by cases e; omega)
  clear hgr
  generalize w4.heap.size = g6 at *
  have hin : CoRIn (m0, coStart) w.heap.size g5 g6 w w6 := ⟨HS.out, Nat.zero_le _, h5, ⟨.slice none 0 0, h6, World.ownsRow_nil _ _ _ _⟩, hb⟩
  have HLAY := Lib.hid (show g5 ≠ g6 ∧ w.heap.size ≤ g6 ∧ w.heap.size ≤ g5 from ⟨hne, by omega, l5⟩)
  clear h5 h6 hb hne l5 l6
  go_wp2_with fail
  go_loopw [7] (fun k_ wr => ∃ (k : Nat) (s : List Nat × CoIv), k ≤ data.length ∧ k_ = .int .i64 (k : Int) ∧ Hid (s = coRun (m0, coStart) (coAll (data.take k))) ∧ CoRIn s w.heap.size g5 g6 w wr) (fun k_ _ => data.length - (intOf k_).toNat)
  case atStart => exact ⟨0, _, by omega, rfl, Lib.hid rfl, hin⟩
  case round =>
    clear hin
    obtain ⟨k, s, hk, rfl, HSK, hin⟩ := hrel
    by_cases hlt : k < data.length
    · have HNX := Lib.hid ((coRun_next (m0, coStart) data k hlt))
      rw [← HSK.out] at HNX
      have hgb : (⟨data.toArray⟩ : ByteArray)[k]'(by simpa [ByteArray.size] using hlt) = data.getD k 0 := by
        have h1 : (⟨data.toArray⟩ : ByteArray)[k]'(by simpa [ByteArray.size] using hlt) = data[k] := by
          show data.toArray[k]'_ = _
          simp
        rw [h1, List.getD_eq_getElem?_getD, List.getElem?_eq_getElem hlt]
        rfl
      have HGB := Lib.hid hgb
      have HSL := Lib.hid (show s.2.out.length ≤ 40 * k by
        rw [HSK.out]
        have h1 := coRun_len (m0, coStart) (coAll (data.take k))
        rw [coAll_len, List.length_take] at h1
        have h0 : ((m0, coStart) : List Nat × CoIv).2.out.length = 0 := rfl
        rw [h0] at h1
        have h2 := Nat.min_le_left k data.length
        omega)
      clear hgb HSK
      generalize data.getD k 0 = x at *
      have hz := Lib.hid (coCtx_zero x)
      go_wp2_with fail
      go_loopw [8, 9] (fun c i wi => ∃ (t : Nat) (C : Int) (s' : List Nat × CoIv), t ≤ 8 ∧ c = .int .i64 C ∧ C = (coCtx x t : Int) ∧ i = .int .i64 (t : Int) ∧ Hid (s' = coRun s (coPart x t)) ∧ CoRIn s' w.heap.size g5 g6 w wi) (fun _ i _ => 8 - (intOf i).toNat)
      case atStart => exact ⟨0, _, _, by omega, rfl, by rw [hz.out]; rfl, rfl, Lib.hid rfl, hin⟩
      case round =>
        clear hin
        obtain ⟨t, C, s', ht, rfl, hC, rfl, HST, hin⟩ := hrel
        by_cases h8 : t < 8
        · subst hC
          go_wp2_with fail
          rw [HGB.out]
          refine (refBit_any x t _ h8).mono ?_
          rintro e w3 ⟨rfl, rfl⟩
          have HN := Lib.hid (coRun_part s x t)
          rw [← HST.out] at HN
          have HSL2 := Lib.hid (show s'.2.out.length ≤ 40000040 by
            rw [HST.out]
            have h1 := coRun_len s (coPart x t)
            rw [coPart_len] at h1
            have h2 := HSL.out
            omega)
          clear HST
          obtain ⟨m, v⟩ := s'
          have hgood := hin.st.good
          have hopn := hin.st.opn
          have hA := hin.m
          obtain ⟨vo, hV, hO⟩ := hin.v
          have hB := hin.b
          clear hin
          simp only at hgood hopn hA hV hO
          have hcl := coCtx_lt x t h8
          have hcn := coCtx_next x t h8
          have hb01 := coBit_lt x t
          have hmid := hgood.mid _ hcl.1 hcl.2
          go_wp2_with fail
          obtain ⟨hne, hl6, hl5⟩ := HLAY.out
          have hpm := mcs_get (m := m) (c := coCtx x t) (by rw [hgood.len]; exact hcl.2)
          have hsz := hB.size
          refine lgStart (fun w' => Arr w' g6 58 (riCells v.x v.y vo) ∧ Arr w' g5 30 (mcs m)) 5 (by kernel_rfl) ?_
          have hq : (fun w' : World => Arr w' g6 58 (riCells v.x v.y vo) ∧ Arr w' g5 30 (mcs m)) w3.drew := ⟨hV.drew, hA.drew⟩
          replace hO : w3.drew.ownsRow w.heap.size 5 1 vo v.out.length (bcs v.out) := hO
          replace hB := hB.drew
          replace hA := hA.drew
          replace hV := hV.drew
          have hsz : w.heap.size ≤ w3.drew.heap.size := hsz
          generalize w3.drew = wd at *
          refine lgLoad [0, 1, 2, 3, 4] (i := 0) (b := g6) (t := 58) (.tmp 6) (riCells v.x v.y vo) Try.ag_ri rfl (by kernel_rfl) (wn rfl) (fun _ _ _ h => h) rfl (by kernel_rfl) rfl (fun w h => h.1) hq ?_
          refine lgTake [0, 1, 2, 3, 4] (i := 1) (v := .int .i64 (coBit x t : Int)) rfl (by kernel_rfl) (by kernel_rfl) (fun _ _ _ h => h) (fun w _ => by kernel_rfl) hq ?_
          refine lgTake [0, 1, 2, 3, 4] (i := 2) (v := .int .i64 (coCtx x t : Int)) rfl (by kernel_rfl) (by kernel_rfl) (fun _ _ _ h => h) (fun w _ => by kernel_rfl) hq ?_
          refine lgTake [0, 1, 2, 3, 4] (i := 3) (v := .pointer (some ⟨g5, 0 + coCtx x t * 1, none⟩)) rfl (by kernel_rfl) (by kernel_rfl) (fun _ _ _ h => h) (fun w _ => iaRun (n := 256) (kk := .i64) (.tmp 5) (.tmp 32) (coCtx x t) Try.und_i256 Try.one_int rfl (by kernel_rfl) (by kernel_rfl) rfl hcl.2) hq ?_
          refine lgTake [0, 1, 2, 3, 4] (i := 4) (v := .int .i64 ((m.getD (coCtx x t) 0 : Nat) : Int)) rfl (by kernel_rfl) (by kernel_rfl) (fun _ _ _ h => h) (fun w h => ldRun (.tmp 33) (by kernel_rfl) rfl (by kernel_rfl) (show w.cell? ⟨g5, 0 + coCtx x t * 1, none⟩ = _ by rw [Nat.zero_add, Nat.mul_one]; exact h.2.cell hpm)) hq ?_
          refine lgNext (i := 5) (by kernel_rfl) rfl (by kernel_rfl) ?_
          simp only [Act.put, List.setIfInBounds_toArray, List.set_cons_succ, List.set_cons_zero]
          refine callOp 36 [.agg (riCells v.x v.y vo).toArray, .int .i64 (coBit x t : Int), .int .i64 ((m.getD (coCtx x t) 0 : Nat) : Int)] [] [] (by kernel_rfl) (wn rfl) rfl rfl rfl ?_
          refine (refNarrow_any v (coBit x t) (m.getD (coCtx x t) 0) w.heap.size vo wd hopn hmid hb01 hsz (Nat.le_trans HSL2.out (by decide)) hO).mono ?_
          rintro e w4 ⟨vo', rfl, hO4, hB4, hK4, _, _⟩
          refine ⟨_, rfl, ?_⟩
          replace hA := hK4 _ _ _ (by decide) hA
          replace hV := hK4 _ _ _ (by decide) hV
          replace hB := hB.trans hB4
          have hN : coStep (m, v) (coCtx x t, coBit x t) = (coLearnAt m (coCtx x t) (coBit x t), coNarrow v (coBit x t) (m.getD (coCtx x t) 0)) := rfl
          rw [hN] at HN
          have HST2 := Lib.hid (CoSt.step (s := (m, v)) ⟨hgood, hopn⟩ (p := (coCtx x t, coBit x t)) hcl.1 hcl.2)
          rw [hN] at HST2
          have HSL3 := Lib.hid (coNarrow_len v (coBit x t) (m.getD (coCtx x t) 0))
          generalize coNarrow v (coBit x t) (m.getD (coCtx x t) 0) = v' at *
          refine lgNext (i := 6) (by kernel_rfl) rfl (by kernel_rfl) ?_
          refine stArrG (cs := riCells v'.x v'.y vo') (.tmp 6) (.tmp 35) Try.ag_ri (wn rfl) rfl rfl rfl hV rfl rfl (ri_one hO4) ?_
          intro w5 hV5 hg5
          refine lgDone (by kernel_rfl) ?_
          simp only [Act.put, List.setIfInBounds_toArray, List.set_cons_succ, List.set_cons_zero]
          have hO5 := own_row hO4 hV (by decide) hg5
          replace hA := hA.grown hg5 (fun e => hne (by injection e))
          replace hB := hB.grown hg5 hB.size (fun k e => by cases e; exact hl6)
          clear hq hO4 hV hg5 hK4 hB4 hO
          have hth := hA.thaw (coCtx x t)
          have hc := hA.cell hpm
          have hs := hA.set (coCtx x t) (.int .i64 ((coLearn (m.getD (coCtx x t) 0) (coBit x t) : Nat) : Int))
          rw [mcs_set] at hs
          have hB5 := hB.setCell (p := ⟨g5, coCtx x t, none⟩) hl5 (.int .i64 ((coLearn (m.getD (coCtx x t) 0) (coBit x t) : Nat) : Int))
          have hO6 := own_setCell (i := coCtx x t) (u := .int .i64 ((coLearn (m.getD (coCtx x t) 0) (coBit x t) : Nat) : Int)) hO5 hA (by decide)
          have hV6 := hV5.other hne (coCtx x t) (.int .i64 ((coLearn (m.getD (coCtx x t) 0) (coBit x t) : Nat) : Int))
          have hin : CoRIn (coLearnAt m (coCtx x t) (coBit x t), v') w.heap.size g5 g6 w (w5.setCell ⟨g5, coCtx x t, none⟩ (.int .i64 ((coLearn (m.getD (coCtx x t) 0) (coBit x t) : Nat) : Int))) := ⟨HST2.out, by have h1 := HSL3.out; have h2 := HSL2.out; show v'.out.length ≤ _; omega, hs, ⟨vo', hV6, hO6⟩, hB5⟩
          clear hs hB5 hO6 hV6 hpm hgood hopn HSL3
          generalize m.getD (coCtx x t) 0 = p at *
          go_wp2_with fail
          refine (refLearn_any p (coBit x t) _ hmid hb01).mono ?_
          rintro e w6 ⟨rfl, rfl⟩
          go_wp2_with fail
          go_roundw
          case rel => exact ⟨t + 1, _, _, by omega, rfl, by rw [hcn]; omega, by simp, Lib.hid HN.out.symm, hin⟩
          case measure => simp [intOf]; omega
        · obtain rfl : t = 8 := by omega
          have HS2 : Hid (s' = coRun (m0, coStart) (coAll (data.take (k + 1)))) := Lib.hid (HST.out.trans HNX.out)
          go_wp2_with fail
          go_roundw
          case rel => exact ⟨k + 1, s', by omega, by simp, HS2, hin⟩
          case measure => simp [intOf]; omega
    · obtain rfl : k = data.length := by omega
      rw [List.take_length] at HSK
      have HCo := HC.out
      rw [← HSK.out] at HCo
      clear HC HSK HT HS
      obtain ⟨m, v⟩ := s
      have hst := hin.st
      have hvhi := hst.opn.hi
      have hvle := hst.opn.le
      have hol := hin.len
      obtain ⟨vo, hV, hO⟩ := hin.v
      have hB := hin.b
      obtain ⟨hne, hl6, hl5⟩ := HLAY.out
      clear hin HLAY
      simp only at hV hO HCo hvhi hvle hol
      have c0 : wr.cell? ⟨g6, 0, none⟩ = some (.int .i64 (v.x : Int)) := hV.cell (i := 0) rfl
      have c2 : wr.cell? ⟨g6, 2, none⟩ = some vo := hV.cell (i := 2) rfl
      by_cases hx : v.x = 0
      · have hCe : C = v.out := by rw [HCo]; unfold coEnd; rw [if_neg (by simpa using hx)]
        have HCE := Lib.hid hCe
        clear HCo hCe
        obtain ⟨A, c, rfl, hrd⟩ := Rd.of_own hO
        have hxi : (v.x : Int) = 0 := by omega
        go_wp2_with (with_reducible refine convStr (.tmp 61) v.out Try.sl_u8.und Try.und_u8 Try.und_str (wn rfl) rfl rfl hrd ?_)
        go_ret
        exact ⟨by rw [HCE.out]; rfl, hB⟩
      · have hCe : C = v.out ++ [UInt8.ofNat (v.x / 16777216 + 1)] := by rw [HCo]; unfold coEnd; rw [if_pos hx]
        have hxi : ¬ (v.x : Int) = 0 := by omega
        have HBY : Hid ((v.x / 16777216 + 1) % 256 = (UInt8.ofNat (v.x / 16777216 + 1)).toNat) := Lib.hid (by simp)
        generalize UInt8.ofNat (v.x / 16777216 + 1) = by_ at *
        have HCE := Lib.hid hCe
        clear HCo hCe
        have f2 := hV.thaw 2
        go_wp2_with (at_builtin; with_reducible refine app1 _ _ Try.sl_u8 (wn rfl) rfl rfl rfl hO hB (Nat.le_refl _) rfl (by omega) (by omega) ?_)
        intro v4 w4 own4 hb4 hg4
        have hby : Value.int .u8 (((v.x : Int) / 16777216 + 1) % 256) = bc by_ := by
          unfold bc
          rw [← HBY.out]
          exact congrArg _ (by omega)
        rw [hby, bcs_snoc] at own4
        obtain ⟨g', cap', rfl⟩ := ownsRow_succ own4
        have hka : ArrsKept wr w4 := (ArrsKept.below ((Below.refl _ _).alloc (Nat.le_refl _) _)).trans (ArrsKept.row (ownsRow_below hO ((Below.refl _ _).alloc (Nat.le_refl _) _) (Nat.le_refl _)) hg4)
        replace hV := hka _ _ _ (by decide) hV
        clear hka hg4 hO hB hby c0 c2 f2
        have f2 := hV.thaw 2
        have c2 : w4.cell? ⟨g6, 2, none⟩ = some vo := hV.cell (i := 2) rfl
        have hoS := own_setCell (i := 2) (u := .slice (some ⟨g', 0, none⟩) (v.out.length + 1) cap') own4 hV (by decide)
        have hbS := hb4.setCell (p := ⟨g6, 2, none⟩) hl6 (.slice (some ⟨g', 0, none⟩) (v.out.length + 1) cap')
        obtain ⟨A, c, hA, hrd⟩ := Rd.of_own hoS
        injection hA with ha1 ha2 ha3
        subst ha1
        subst ha3
        go_wp2_with (with_reducible refine convStr (.tmp 61) (v.out ++ [by_]) Try.sl_u8.und Try.und_u8 Try.und_str (wn rfl) rfl rfl hrd ?_)
        go_ret
        exact ⟨by rw [HCE.out]; rfl, hbS⟩
end Go.Proofs.Ytpbebmbkcpdbeaa
