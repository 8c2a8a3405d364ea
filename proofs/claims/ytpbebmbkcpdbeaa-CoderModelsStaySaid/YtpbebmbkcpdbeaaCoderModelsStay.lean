/-
  CoderModelsStay: a model that is trained with two texts is the model that is trained with both together, and its numbers stay.
-/
import Derived.Test.YtpbebmbkcpdbeaaCoEqInts
import Derived.Outline
namespace Go.Proofs.Ytpbebmbkcpdbeaa
open Go.RowKit
set_option linter.unusedVariables false

set_option maxRecDepth 100000 in
set_option maxHeartbeats 4000000 in
theorem walk_CoderModelsStay (l : List Int) (A1 A2 : List UInt8) (w : World) (hl : l.length = 256) (h1 : A1.length ≤ 140737488351232) (h2 : A2.length ≤ 140737488351232) :
    Calls Try.prog 8 #[.agg (ics l).toArray, .string ⟨A1.toArray⟩, .string ⟨A2.toArray⟩] w (RetT w) := by
  have HLI := Lib.hid (show (ics l).length = 256 by rw [ics_length]; exact hl)
  have HGD := Lib.hid (refGood_any l hl)
  have HNAT := Lib.hid (fun h : GoodI l => h.nat hl)
  generalize hX : ics l = X at *
  go_enter Try.func8, Try.ntmps8
  go_wp2_with (with_reducible refine bxArr (cs := X) (.tmp 0) (wn rfl) rfl rfl ?_)
  intro w1 hA hb
  go_wp2_with (with_reducible refine ldArr (.tmp 3) Try.ag_i256 (wn rfl) rfl rfl HLI.out hA ?_)
  refine (HGD.out _).mono ?_
  rintro e w2 ⟨b, rfl, hbg, b2⟩
  have lA := hA.lt
  replace hA := hA.below b2 lA
  replace hb := hb.trans (b2.mono hb.size)
  clear b2
  have HBG := Lib.hid hbg
  clear hbg
  cases b with
  | false =>
    go_wp2_with fail
    refine (sanity_any _).mono ?_
    rintro e wS ⟨rfl, bS⟩
    replace hb := hb.trans (bS.mono hb.size)
    clear bS
    go_wp2_with fail
    go_ret
    exact ⟨rfl, hb⟩
  | true =>
    obtain ⟨m, hm, hXm⟩ := HNAT.out (HBG.out.1 rfl)
    clear HGD HBG HNAT
    by_cases hs : A1.length ≤ 700 ∧ A2.length ≤ 700
    · skip
      have hd : decide (A1.length ≤ 700 ∧ A2.length ≤ 700) = true := by simpa using hs
      subst hXm
      have HL := Lib.hid (show (mcs m).length = 256 by rw [mcs_length]; exact hm.len)
      have hm1 := coTrain_good hm (coAll_ok A1)
      have hm2 := coTrain_good hm1 (coAll_ok A2)
      have HT1 := Lib.hid (fun w => train_any m hm A1 h1 w)
      have HT2 := Lib.hid (fun w => train_any (coTrain m (coAll A1)) hm1 A2 h2 w)
      have HTA := Lib.hid (fun w => train_any m hm (A1 ++ A2) (by rw [List.length_append]; omega) w)
      rw [coAll_append, coTrain_append] at HTA
      generalize coTrain m (coAll A1) = M1 at *
      generalize coTrain M1 (coAll A2) = M2 at *
      have HM2n := Lib.hid hm2.len
      have HM2 := Lib.hid (show (mcs M2).length = 256 by rw [mcs_length]; exact hm2.len)
      have HG2 := Lib.hid (refGood_any (M2.map fun (n : Nat) => (n : Int)) (by rw [List.length_map]; exact hm2.len))
      rw [← mcs_ics] at HG2
      have HGG := Lib.hid (GoodI.of_good hm2)
      go_wp2_with fail
      refine (small_any A1 A2 _).mono ?_
      rintro e w3 ⟨rfl, rfl⟩
      rw [hd]
      go_wp2_with (with_reducible refine ldArr (.tmp 3) Try.ag_i256 (wn rfl) rfl rfl HL.out hA ?_)
      refine (HT1.out _).mono ?_
      rintro e w3 ⟨rfl, b3⟩
      replace hA := hA.below b3 hA.lt
      replace hb := hb.trans (b3.mono hb.size)
      clear b3
      go_wp2_with fail
      refine (HT2.out _).mono ?_
      rintro e w4 ⟨rfl, b4⟩
      replace hA := hA.below b4 hA.lt
      replace hb := hb.trans (b4.mono hb.size)
      clear b4
      go_wp2_with (with_reducible refine alArr (z := mcs coZero) Try.ag_m (wn rfl) rfl ?_)
      intro w5 h8 b5
      have lA2 : w.heap.size < w4.heap.size := hA.lt
      replace hA := hA.below b5 hA.lt
      have l8 : w.heap.size ≤ w4.heap.size := hb.size
      replace hb := hb.trans (b5.mono l8)
      clear b5
      go_wp2_with (with_reducible refine stArrG (cs := mcs M2) (.tmp 8) (.tmp 25) Try.ag_m (wn rfl) rfl rfl rfl h8 (by kernel_rfl) HM2.out (mcs_one _) ?_)
      intro w6 h8 hgr
      replace hA := hA.grown hgr (fun e => by injection e with e; omega)
      replace hb := hb.grown hgr hb.size (fun k e => by cases e; exact l8)
      clear hgr
      generalize w4.heap.size = g8 at *
      go_wp2_with (with_reducible refine ldArr (.tmp 8) Try.ag_m (wn rfl) rfl rfl HM2.out h8 ?_)
      refine (HG2.out _).mono ?_
      rintro e w7 ⟨b, rfl, hbg, b7⟩
      obtain rfl : b = true := hbg.2 HGG.out
      replace hA := hA.below b7 hA.lt
      replace h8 := h8.below b7 h8.lt
      replace hb := hb.trans (b7.mono hb.size)
      clear b7 hbg
      go_wp2_with fail
      have hq := And.intro hA.drew h8.drew
      replace hb := hb.drew
      refine rgStart (fun w' => Arr w' w.heap.size 30 (mcs m) ∧ Arr w' g8 32 (mcs M2)) (by kernel_rfl) ?_
      try simp only [Act.put, List.setIfInBounds_toArray, List.set_cons_succ, List.set_cons_zero]
      refine rgNext (S := fun w' => Arr w' w.heap.size 30 (mcs m) ∧ Arr w' g8 32 (mcs M2)) (i := 0) (by kernel_rfl) rfl ?_
      refine callOp 11 [] [] [] (by kernel_rfl) (by kernel_rfl) rfl rfl rfl ?_
      refine (sanity_any _).mono ?_
      rintro e w3 ⟨rfl, b3⟩
      replace hq := And.intro (hq.1.below b3 hq.1.lt) (hq.2.below b3 hq.2.lt)
      replace hb := hb.trans (b3.mono hb.size)
      clear b3
      refine ⟨_, rfl, ?_⟩
      refine rgBack hq ?_
      refine rgTake (S := fun w' => Arr w' w.heap.size 30 (mcs m) ∧ Arr w' g8 32 (mcs M2)) (i := 1) (v := .bool true) rfl (by kernel_rfl) (by kernel_rfl) (fun _ _ _ h => h) (fun w _ => by kernel_rfl) hq ?_
      refine rgLoad (S := fun w' => Arr w' w.heap.size 30 (mcs m) ∧ Arr w' g8 32 (mcs M2)) (i := 2) (b := g8) (off := 0) (.tmp 8) (mcs M2) Try.ag_m rfl (by kernel_rfl) (by kernel_rfl) (fun _ _ _ h => h) rfl (by kernel_rfl) HM2.out (fun w h j u hu => by rw [Nat.zero_add]; exact (h.2).cell hu) hq ?_
      refine rgLoad (S := fun w' => Arr w' w.heap.size 30 (mcs m) ∧ Arr w' g8 32 (mcs M2)) (i := 3) (b := w.heap.size) (off := 0) (.tmp 3) (mcs m) Try.ag_i256 rfl (by kernel_rfl) (by kernel_rfl) (fun _ _ _ h => h) rfl (by kernel_rfl) HL.out (fun w h j u hu => by rw [Nat.zero_add]; exact (h.1).cell hu) hq ?_
      refine rgTake (S := fun w' => Arr w' w.heap.size 30 (mcs m) ∧ Arr w' g8 32 (mcs M2)) (i := 4) (v := .string ⟨A1.toArray⟩) rfl (by kernel_rfl) (by kernel_rfl) (fun _ _ _ h => h) (fun w _ => by kernel_rfl) hq ?_
      refine rgTake (S := fun w' => Arr w' w.heap.size 30 (mcs m) ∧ Arr w' g8 32 (mcs M2)) (i := 5) (v := .string ⟨A2.toArray⟩) rfl (by kernel_rfl) (by kernel_rfl) (fun _ _ _ h => h) (fun w _ => by kernel_rfl) hq ?_
      try simp only [Act.put, List.setIfInBounds_toArray, List.set_cons_succ, List.set_cons_zero]
      refine rgTake (S := fun w' => Arr w' w.heap.size 30 (mcs m) ∧ Arr w' g8 32 (mcs M2)) (i := 6) (v := .string ⟨(A1 ++ A2).toArray⟩) rfl (by kernel_rfl) (by kernel_rfl) (fun _ _ _ h => h) (fun w _ => catRun (.tmp 32) (.tmp 33) A1 A2 rfl (by kernel_rfl) (by kernel_rfl) (by omega)) hq ?_
      try simp only [Act.put, List.setIfInBounds_toArray, List.set_cons_succ, List.set_cons_zero]
      refine rgNext (S := fun w' => Arr w' w.heap.size 30 (mcs m) ∧ Arr w' g8 32 (mcs M2)) (i := 7) (by kernel_rfl) rfl ?_
      refine callOp 20 [.agg (mcs m).toArray, .string ⟨(A1 ++ A2).toArray⟩] [] [] (by kernel_rfl) (by kernel_rfl) rfl rfl rfl ?_
      refine (HTA.out _).mono ?_
      rintro e w3 ⟨rfl, b3⟩
      replace hq := And.intro (hq.1.below b3 hq.1.lt) (hq.2.below b3 hq.2.lt)
      replace hb := hb.trans (b3.mono hb.size)
      clear b3
      refine ⟨_, rfl, ?_⟩
      refine rgBack hq ?_
      try simp only [Act.put, List.setIfInBounds_toArray, List.set_cons_succ, List.set_cons_zero]
      refine rgTake (S := fun w' => Arr w' w.heap.size 30 (mcs m) ∧ Arr w' g8 32 (mcs M2)) (i := 8) (v := .bool true) rfl (by kernel_rfl) (by kernel_rfl) (fun _ _ _ h => h) (fun w _ => eqModels (.tmp 30) (.tmp 35) M2 HM2n.out rfl (by kernel_rfl) (by kernel_rfl)) hq ?_
      refine rgTake (S := fun w' => Arr w' w.heap.size 30 (mcs m) ∧ Arr w' g8 32 (mcs M2)) (i := 9) (v := .bool true) rfl (by kernel_rfl) (by kernel_rfl) (fun _ _ _ h => h) (fun w _ => by kernel_rfl) hq ?_
      refine rgTake (S := fun w' => Arr w' w.heap.size 30 (mcs m) ∧ Arr w' g8 32 (mcs M2)) (i := 10) (v := .bool true) rfl (by kernel_rfl) (by kernel_rfl) (fun _ _ _ h => h) (fun w _ => by kernel_rfl) hq ?_
      refine rgTake (S := fun w' => Arr w' w.heap.size 30 (mcs m) ∧ Arr w' g8 32 (mcs M2)) (i := 11) (v := .bool true) rfl (by kernel_rfl) (by kernel_rfl) (fun _ _ _ h => h) (fun w _ => by kernel_rfl) hq ?_
      refine rgTake (S := fun w' => Arr w' w.heap.size 30 (mcs m) ∧ Arr w' g8 32 (mcs M2)) (i := 12) (v := .bool true) rfl (by kernel_rfl) (by kernel_rfl) (fun _ _ _ h => h) (fun w _ => by kernel_rfl) hq ?_
      refine rgTake (S := fun w' => Arr w' w.heap.size 30 (mcs m) ∧ Arr w' g8 32 (mcs M2)) (i := 13) (v := .bool true) rfl (by kernel_rfl) (by kernel_rfl) (fun _ _ _ h => h) (fun w _ => by kernel_rfl) hq ?_
      refine rgDone (by kernel_rfl) ?_
      try simp only [Act.put, List.setIfInBounds_toArray, List.set_cons_succ, List.set_cons_zero]
      go_wp2_with fail
      go_ret
      exact ⟨rfl, hb⟩
    · have hd : decide (A1.length ≤ 700 ∧ A2.length ≤ 700) = false := by simpa using hs
      go_wp2_with fail
      refine (small_any A1 A2 _).mono ?_
      rintro e w3 ⟨rfl, rfl⟩
      rw [hd]
      go_wp2_with fail
      refine (sanity_any _).mono ?_
      rintro e wS ⟨rfl, bS⟩
      replace hb := hb.trans (bS.mono hb.size)
      clear bS
      go_wp2_with fail
      go_ret
      exact ⟨rfl, hb⟩
end Go.Proofs.Ytpbebmbkcpdbeaa
