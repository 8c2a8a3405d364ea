/-
  CoderTrainsAsSpecified: New and Train return what the specification returns.
-/
import Derived.Test.YtpbebmbkcpdbeaaCoEqInts
import Derived.Outline
namespace Go.Proofs.Ytpbebmbkcpdbeaa
open Go.RowKit
set_option linter.unusedVariables false

set_option maxRecDepth 100000 in
set_option maxHeartbeats 4000000 in
theorem walk_CoderTrainsAsSpecified (l : List Int) (A1 : List UInt8) (w : World) (hl : l.length = 256) (h1 : A1.length ≤ 140737488351232) :
    Calls Try.prog 5 #[.agg (ics l).toArray, .string ⟨A1.toArray⟩] w (RetT w) := by
  have HLI := Lib.hid (show (ics l).length = 256 by rw [ics_length]; exact hl)
  have HGD := Lib.hid (refGood_any l hl)
  have HNAT := Lib.hid (fun h : GoodI l => h.nat hl)
  have HNG := Lib.hid hl
  generalize hX : ics l = X at *
  go_enter Try.func5, Try.ntmps5
  go_wp2_with (with_reducible refine bxArr (cs := X) (.tmp 0) (wn rfl) rfl rfl ?_)
  intro w1 hA hb
  go_wp2_with (with_reducible refine ldArr (.tmp 2) Try.ag_i256 (wn rfl) rfl rfl HLI.out hA ?_)
  refine (HGD.out _).mono ?_
  rintro e w2 ⟨b, rfl, hbg, b2⟩
  have lA := hA.lt
  replace hA := hA.below b2 lA
  replace hb := hb.trans (b2.mono hb.size)
  clear b2
  have HBG := Lib.hid hbg
  clear hbg
  cases b with
  | false =>
    go_wp2_with fail
    refine (sanity_any _).mono ?_
    rintro e wS ⟨rfl, bS⟩
    replace hb := hb.trans (bS.mono hb.size)
    clear bS
    go_wp2_with fail
    go_ret
    exact ⟨rfl, hb⟩
  | true =>
    obtain ⟨m, hm, hXm⟩ := HNAT.out (HBG.out.1 rfl)
    clear HGD HBG HNAT
    by_cases hlen : 700 < A1.length
    · skip
      go_wp2_with fail
      refine (sanity_any _).mono ?_
      rintro e wS ⟨rfl, bS⟩
      replace hb := hb.trans (bS.mono hb.size)
      clear bS
      go_wp2_with fail
      go_ret
      exact ⟨rfl, hb⟩
    · skip
      subst hXm
      have HL := Lib.hid (show (mcs m).length = 256 by rw [mcs_length]; exact hm.len)
      have HN256 := Lib.hid coNew_len
      have HT256 := Lib.hid (coTrain_good hm (coAll_ok A1)).len
      go_wp2_with fail
      have hsd := hA.drew
      replace hb := hb.drew
      refine rgStart (fun w' => Arr w' w.heap.size 30 (mcs m)) (by kernel_rfl) ?_
      have hq := hsd
      try simp only [Act.put, List.setIfInBounds_toArray, List.set_cons_succ, List.set_cons_zero]
      refine rgNext (S := fun w' => Arr w' w.heap.size 30 (mcs m)) (i := 0) (by kernel_rfl) rfl ?_
      refine callOp 11 [] [] [] (by kernel_rfl) (by kernel_rfl) rfl rfl rfl ?_
      refine (sanity_any _).mono ?_
      rintro e w3 ⟨rfl, b3⟩
      replace hq := hq.below b3 hq.lt
      replace hb := hb.trans (b3.mono hb.size)
      clear b3
      refine ⟨_, rfl, ?_⟩
      refine rgBack hq ?_
      refine rgTake (S := fun w' => Arr w' w.heap.size 30 (mcs m)) (i := 1) (v := .bool true) rfl (by kernel_rfl) (by kernel_rfl) (fun _ _ _ h => h) (fun w _ => by kernel_rfl) hq ?_
      try simp only [Act.put, List.setIfInBounds_toArray, List.set_cons_succ, List.set_cons_zero]
      refine rgNext (S := fun w' => Arr w' w.heap.size 30 (mcs m)) (i := 2) (by kernel_rfl) rfl ?_
      refine callOp 18 [] [] [] (by kernel_rfl) (by kernel_rfl) rfl rfl rfl ?_
      refine (new_any _).mono ?_
      rintro e w3 ⟨rfl, b3⟩
      replace hq := hq.below b3 hq.lt
      replace hb := hb.trans (b3.mono hb.size)
      clear b3
      refine ⟨_, rfl, ?_⟩
      refine rgBack hq ?_
      try simp only [Act.put, List.setIfInBounds_toArray, List.set_cons_succ, List.set_cons_zero]
      refine rgNext (S := fun w' => Arr w' w.heap.size 30 (mcs m)) (i := 3) (by kernel_rfl) rfl ?_
      refine callOp 19 [] [] [] (by kernel_rfl) (by kernel_rfl) rfl rfl rfl ?_
      refine (refNew_any _).mono ?_
      rintro e w3 ⟨rfl, b3⟩
      replace hq := hq.below b3 hq.lt
      replace hb := hb.trans (b3.mono hb.size)
      clear b3
      refine ⟨_, rfl, ?_⟩
      refine rgBack hq ?_
      try simp only [Act.put, List.setIfInBounds_toArray, List.set_cons_succ, List.set_cons_zero]
      refine rgTake (S := fun w' => Arr w' w.heap.size 30 (mcs m)) (i := 4) (v := .bool true) rfl (by kernel_rfl) (by kernel_rfl) (fun _ _ _ h => h) (fun w _ => eqModels (.tmp 18) (.tmp 19) coNew HN256.out rfl (by kernel_rfl) (by kernel_rfl)) hq ?_
      refine rgTake (S := fun w' => Arr w' w.heap.size 30 (mcs m)) (i := 5) (v := .bool true) rfl (by kernel_rfl) (by kernel_rfl) (fun _ _ _ h => h) (fun w _ => by kernel_rfl) hq ?_
      refine rgTake (S := fun w' => Arr w' w.heap.size 30 (mcs m)) (i := 6) (v := .bool true) rfl (by kernel_rfl) (by kernel_rfl) (fun _ _ _ h => h) (fun w _ => by kernel_rfl) hq ?_
      refine rgLoad (S := fun w' => Arr w' w.heap.size 30 (mcs m)) (i := 7) (b := w.heap.size) (off := 0) (.tmp 2) (mcs m) Try.ag_i256 rfl (by kernel_rfl) (by kernel_rfl) (fun _ _ _ h => h) rfl (by kernel_rfl) HL.out (fun w h j u hu => by rw [Nat.zero_add]; exact (h).cell hu) hq ?_
      refine rgTake (S := fun w' => Arr w' w.heap.size 30 (mcs m)) (i := 8) (v := .string ⟨A1.toArray⟩) rfl (by kernel_rfl) (by kernel_rfl) (fun _ _ _ h => h) (fun w _ => by kernel_rfl) hq ?_
      refine rgLoad (S := fun w' => Arr w' w.heap.size 30 (mcs m)) (i := 10) (b := w.heap.size) (off := 0) (.tmp 2) (mcs m) Try.ag_i256 rfl (by kernel_rfl) (by kernel_rfl) (fun _ _ _ h => h) rfl (by kernel_rfl) HL.out (fun w h j u hu => by rw [Nat.zero_add]; exact (h).cell hu) hq ?_
      refine rgTake (S := fun w' => Arr w' w.heap.size 30 (mcs m)) (i := 11) (v := .string ⟨A1.toArray⟩) rfl (by kernel_rfl) (by kernel_rfl) (fun _ _ _ h => h) (fun w _ => by kernel_rfl) hq ?_
      try simp only [Act.put, List.setIfInBounds_toArray, List.set_cons_succ, List.set_cons_zero]
      refine rgNext (S := fun w' => Arr w' w.heap.size 30 (mcs m)) (i := 9) (by kernel_rfl) rfl ?_
      refine callOp 20 [.agg (mcs m).toArray, .string ⟨A1.toArray⟩] [] [] (by kernel_rfl) (by kernel_rfl) rfl rfl rfl ?_
      refine (train_any m hm A1 h1 _).mono ?_
      rintro e w3 ⟨rfl, b3⟩
      replace hq := hq.below b3 hq.lt
      replace hb := hb.trans (b3.mono hb.size)
      clear b3
      refine ⟨_, rfl, ?_⟩
      refine rgBack hq ?_
      try simp only [Act.put, List.setIfInBounds_toArray, List.set_cons_succ, List.set_cons_zero]
      refine rgNext (S := fun w' => Arr w' w.heap.size 30 (mcs m)) (i := 12) (by kernel_rfl) rfl ?_
      refine callOp 21 [.agg (mcs m).toArray, .string ⟨A1.toArray⟩] [] [] (by kernel_rfl) (by kernel_rfl) rfl rfl rfl ?_
      refine (refTrain_any m hm A1 h1 _).mono ?_
      rintro e w3 ⟨rfl, b3⟩
      replace hq := hq.below b3 hq.lt
      replace hb := hb.trans (b3.mono hb.size)
      clear b3
      refine ⟨_, rfl, ?_⟩
      refine rgBack hq ?_
      try simp only [Act.put, List.setIfInBounds_toArray, List.set_cons_succ, List.set_cons_zero]
      refine rgTake (S := fun w' => Arr w' w.heap.size 30 (mcs m)) (i := 13) (v := .bool true) rfl (by kernel_rfl) (by kernel_rfl) (fun _ _ _ h => h) (fun w _ => eqModels (.tmp 25) (.tmp 28) (coTrain m (coAll A1)) HT256.out rfl (by kernel_rfl) (by kernel_rfl)) hq ?_
      refine rgTake (S := fun w' => Arr w' w.heap.size 30 (mcs m)) (i := 14) (v := .bool true) rfl (by kernel_rfl) (by kernel_rfl) (fun _ _ _ h => h) (fun w _ => by kernel_rfl) hq ?_
      refine rgTake (S := fun w' => Arr w' w.heap.size 30 (mcs m)) (i := 15) (v := .bool true) rfl (by kernel_rfl) (by kernel_rfl) (fun _ _ _ h => h) (fun w _ => by kernel_rfl) hq ?_
      refine rgDone (by kernel_rfl) ?_
      try simp only [Act.put, List.setIfInBounds_toArray, List.set_cons_succ, List.set_cons_zero]
      go_wp2_with fail
      go_ret
      exact ⟨rfl, hb⟩
end Go.Proofs.Ytpbebmbkcpdbeaa
