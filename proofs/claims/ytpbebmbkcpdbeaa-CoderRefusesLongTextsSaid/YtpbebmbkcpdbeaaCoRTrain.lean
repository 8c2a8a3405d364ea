/-
  The reference's Train returns the model that has learnt a text. No statement is proved here.
-/
import Derived.Test.YtpbebmbkcpdbeaaCoRef1
import Derived.Outline
namespace Go.Proofs.Ytpbebmbkcpdbeaa
open Go.RowKit
set_option linter.unusedVariables false

def coPart (x : UInt8) (t : Nat) : List (Nat × Nat) := (List.range t).map fun i => (coCtx x i, coBit x i)
theorem coPart_succ (x : UInt8) (t : Nat) : coPart x (t + 1) = coPart x t ++ [(coCtx x t, coBit x t)] := by simp [coPart, List.range_succ]
theorem coPart_ok (x : UInt8) (t : Nat) (ht : t ≤ 8) : CoOK (coPart x t) := by
  intro p hp
  unfold coPart at hp
  obtain ⟨i, hi, rfl⟩ := List.mem_map.1 hp
  have := List.mem_range.1 hi
  have h1 := coCtx_lt x i (by omega)
  exact ⟨h1.1, h1.2, coBit_lt x i⟩
theorem coTrain_next (m : List Nat) (text : List UInt8) (k : Nat) (hk : k < text.length) : coTrain (coTrain m (coAll (text.take k))) (coPart (text.getD k 0) 8) = coTrain m (coAll (text.take (k + 1))) := by
  rw [← coTrain_append, List.take_add_one, coAll_append, List.getD_eq_getElem?_getD, List.getElem?_eq_getElem hk]
  rfl

set_option maxRecDepth 100000 in
set_option maxHeartbeats 2000000 in
theorem refTrain_any (m : List Nat) (hm : CoGood m) (text : List UInt8) (hl : text.length ≤ 140737488351232) (w : World) :
    Calls Try.prog 21 #[.agg (mcs m).toArray, .string ⟨text.toArray⟩] w (RetM w (coTrain m (coAll text))) := by
  go_enter Try.func21, Try.ntmps21
  go_wp2_with (with_reducible refine bxArr (cs := mcs m) (.tmp 0) (wn rfl) rfl rfl ?_)
  intro w1 h2 b1
  go_wp2_with (with_reducible refine alArr (z := mcs coZero) Try.ag_i256 (wn rfl) rfl ?_)
  intro w2 h4 b2
  have l2 := h2.lt
  have hne4 : w.heap.size ≠ w1.heap.size := by omega
  have hl4 : w.heap.size ≤ w1.heap.size := b1.size
  replace h2 := h2.below b2 h2.lt
  have hb := b1.trans (b2.mono b1.size)
  generalize w1.heap.size = g4 at *
  clear b1 b2
  go_wp2_with fail
  go_loopw [5] (fun k_ wr => ∃ k : Nat, k ≤ text.length ∧ k_ = .int .i64 (k : Int) ∧ Arr wr w.heap.size 30 (mcs (coTrain m (coAll (text.take k)))) ∧ Arr wr g4 30 (mcs coZero) ∧ Below w.heap.size w wr) (fun k_ _ => text.length - (intOf k_).toNat)
  case atStart => exact ⟨0, by omega, rfl, h2, h4, hb⟩
  case round =>
    clear h2 h4 hb
    obtain ⟨k, hk, rfl, h2, h4, hb⟩ := hrel
    have hg := coTrain_good hm (coAll_ok (text.take k))
    have hnx := coTrain_next m text k
    by_cases hlt : k < text.length
    · have HNX := Lib.hid (hnx hlt)
      have hgx : text[k]? = some (text.getD k 0) := by rw [List.getD_eq_getElem?_getD, List.getElem?_eq_getElem hlt]; rfl
      have hgb : (⟨text.toArray⟩ : ByteArray)[k]'(by simpa [ByteArray.size] using hlt) = text.getD k 0 := by
        have h1 : (⟨text.toArray⟩ : ByteArray)[k]'(by simpa [ByteArray.size] using hlt) = text[k] := by
          show text.toArray[k]'_ = _
          simp
        rw [h1, List.getD_eq_getElem?_getD, List.getElem?_eq_getElem hlt]
        rfl
      have HGB := Lib.hid hgb
      clear hgb
      have HGX := Lib.hid hgx
      have HG := Lib.hid hg
      clear hnx hgx hg
      generalize text.getD k 0 = x at *
      generalize coTrain m (coAll (text.take k)) = mk at *
      have hz := Lib.hid (coCtx_zero x)
      go_wp2_with fail
      go_loopw [6, 7] (fun c i wi => ∃ (t : Nat) (C : Int), t ≤ 8 ∧ c = .int .i64 C ∧ C = (coCtx x t : Int) ∧ i = .int .i64 (t : Int) ∧ Arr wi w.heap.size 30 (mcs (coTrain mk (coPart x t))) ∧ Arr wi g4 30 (mcs coZero) ∧ Below w.heap.size w wi) (fun _ i _ => 8 - (intOf i).toNat)
      case atStart => exact ⟨0, _, by omega, rfl, by rw [hz.out]; rfl, rfl, h2, h4, hb⟩
      case round =>
        clear h2 h4 hb
        obtain ⟨t, C, ht, rfl, hC, rfl, h2, h4, hb⟩ := hrel
        by_cases h8 : t < 8
        · subst hC
          go_wp2_with fail
          rw [HGB.out]
          refine (refBit_any x t _ h8).mono ?_
          rintro e w3 ⟨rfl, rfl⟩
          have hok := coTrain_good HG.out (coPart_ok x t ht)
          have hcl := coCtx_lt x t h8
          have hb01 := coBit_lt x t
          have hcn := coCtx_next x t h8
          have hth := h2.thaw (coCtx x t)
          have hc := h2.cell (i := coCtx x t) (mcs_get (by rw [hok.len]; exact hcl.2))
          have hmid := hok.mid _ hcl.1 hcl.2
          have hs := h2.set (coCtx x t) (.int .i64 ((coLearn ((coTrain mk (coPart x t)).getD (coCtx x t) 0) (coBit x t) : Nat) : Int))
          rw [mcs_set] at hs
          have hstep : (coTrain mk (coPart x t)).set (coCtx x t) (coLearn ((coTrain mk (coPart x t)).getD (coCtx x t) 0) (coBit x t)) = coTrain mk (coPart x (t + 1)) := by
            rw [coPart_succ, coTrain_append]
            rfl
          rw [hstep] at hs
          clear hstep
          generalize (coTrain mk (coPart x t)).getD (coCtx x t) 0 = p at *
          go_wp2_with fail
          refine (refLearn_any p (coBit x t) _ hmid hb01).mono ?_
          rintro e w5 ⟨rfl, rfl⟩
          go_wp2_with fail
          go_roundw
          case rel => exact ⟨t + 1, _, by omega, rfl, by rw [hcn]; omega, by simp, hs, h4.other hne4 _ _, hb.setCell (p := ⟨w.heap.size, coCtx x t, none⟩) (Nat.le_refl _) _⟩
          case measure => simp [intOf]; omega
        · obtain rfl : t = 8 := by omega
          rw [HNX.out] at h2
          go_wp2_with fail
          go_roundw
          case rel => exact ⟨k + 1, by omega, by simp, h2, h4, hb⟩
          case measure => simp [intOf]; omega
    · obtain rfl : k = text.length := by omega
      rw [List.take_length] at h2
      have HL := Lib.hid (show (mcs (coTrain m (coAll text))).length = 256 by rw [mcs_length]; exact (coTrain_good hm (coAll_ok text)).len)
      clear hg hnx
      generalize coTrain m (coAll text) = m2 at *
      go_wp2_with (first | (with_reducible refine ldArr (.tmp 2) Try.ag_i256 (wn rfl) rfl rfl HL.out h2 ?_) | (with_reducible refine stArr (cs := mcs m2) (.tmp 4) (.tmp 35) Try.ag_i256 (wn rfl) rfl rfl rfl h4 (by kernel_rfl) HL.out (mcs_one _) ?_))
      intro w3 h3 _ hbel
      go_wp2_with fail
      refine bodyPost_ret (v := .agg (mcs m2).toArray) ?_ rfl ⟨rfl, hb.trans (hbel _ hl4)⟩
      exact res_cell1 _ Try.results21 Try.ag_i256 _ rfl HL.out (fun j u hu => by rw [Nat.zero_add]; exact h3.cell hu)
end Go.Proofs.Ytpbebmbkcpdbeaa
