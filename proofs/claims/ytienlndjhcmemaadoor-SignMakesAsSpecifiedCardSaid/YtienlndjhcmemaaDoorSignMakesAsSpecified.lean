/-
  SignMakesAsSpecified answers true, for any seed, height, index, message and key.
-/
import Derived.Test.YtienlndjhcmemaaDoorMH
namespace Go.Proofs.YtienlndjhcmemaaDoor
open Go.RowKit
set_option linter.unusedVariables false

theorem publicD_len (seed : List UInt8) (h : Int) : (publicD seed h).1.length = 16 := by
  unfold publicD
  split
  · rfl
  · exact valueD_len _ _ _
set_option maxRecDepth 100000 in
set_option maxHeartbeats 4000000 in
theorem walk_SignMakesAsSpecified (seed : List UInt8) (h i : Int) (m p : List UInt8) (w : World) (ht : Tabs w) (htr : TabsR w) (hs : seed.length ≤ 140737488351232) (_hh : -9223372036854775808 ≤ h ∧ h ≤ 9223372036854775807) (hi : -9223372036854775808 ≤ i ∧ i ≤ 9223372036854775807) (hm : m.length ≤ 140737488351232) (hp : p.length = 16) :
    Calls Tryd.prog 4 #[sv seed, .int .i64 h, .int .i64 i, sv m, .agg (bcs p).toArray] w (RetB w true) := by
  have HSAN := Lib.hid (fun w' (h : Tabs w') => sanity_any w' h)
  have HPB := Lib.hid (show (bcs p).length = 16 by rw [bcs_length]; exact hp)
  unfold sv
  by_cases h1 : seed.length ≤ 200
  · by_cases h2 : m.length ≤ 200
    · by_cases h3 : h ≤ 2
      · have hdummy : True := trivial
        have HPU := Lib.hid (fun w' (h' : Tabs w') => public_any seed h w' h' (by omega))
        have HRP := Lib.hid (fun w' (h' : TabsR w') => refPublic_any seed h w' h' (by omega))
        have HSG := Lib.hid (fun w' (h' : Tabs w') => sign_any seed h i m w' h' (by omega) (by omega))
        have HRS := Lib.hid (fun w' (h' : TabsR w') => refSign_any seed h i m w' h' (by omega) (by omega))
        have HME := Lib.hid (fun w' (h' : Tabs w') => message_any p i m w' h' hp (by unfold isI64; omega) (by omega))
        have HRM := Lib.hid (fun w' (h' : TabsR w') => refMessage_any p i m w' h' hp (by unfold isI64; omega) (by omega))
        have HML := Lib.hid (show (messageD p i m).length = 16 from ofDig_len _ _)
        have HKL := Lib.hid (publicD_len seed h)
        have HKB := Lib.hid (show (bcs (publicD seed h).1).length = 16 by rw [bcs_length]; exact publicD_len seed h)
        unfold pairV sv at HPU HRP
        unfold textV sv at HSG HRS
        unfold sv at HME HRM
        generalize messageD p i m = MS at *
        generalize (publicD seed h).1 = K at *
        generalize (publicD seed h).2 = ke at *
        generalize (makeD seed h i m).1 = S at *
        generalize (makeD seed h i m).2 = se at *
        go_enter Tryd.func4, Tryd.ntmps4
        go_wp2_with (with_reducible refine bxArr (cs := bcs p) (.tmp 4) (wn rfl) rfl rfl ?_)
        intro w1 h9 hb
        go_wp2_with fail
        have hc := HSAN.out w1 (ht.below hb ht.size)
        refine hc.mono ?_
        rintro e w2 ⟨rfl, b2⟩
        replace h9 := h9.below b2 h9.lt
        replace hb := hb.trans (b2.mono hb.size)
        clear b2 hc HSAN
        go_wp2_with fail
        have hc := HPU.out w2 (ht.below hb ht.size)
        refine hc.mono ?_
        rintro e w3 ⟨rfl, b3⟩
        replace h9 := h9.below b3 h9.lt
        replace hb := hb.trans (b3.mono hb.size)
        clear b3 hc HPU
        go_wp2_with (with_reducible refine alArr (z := zerosB 16) Tryd.ag_b16 (wn rfl) rfl ?_)
        intro w4 h12 b4
        have l12 : w.heap.size ≤ w3.heap.size := hb.size
        have n9 := h9.lt
        replace h9 := h9.below b4 n9
        replace hb := hb.trans (b4.mono hb.size)
        clear b4
        generalize w3.heap.size = g12 at *
        go_wp2_with (with_reducible refine stArr (cs := bcs K) (.tmp 12) (.tmp 42) Tryd.ag_b16 (wn rfl) rfl rfl rfl h12 (zerosB_len _) HKB.out (bcs_one _) ?_)
        intro w5 h12 hkeep hbel
        replace h9 := hkeep _ _ _ (by omega) h9
        replace hb := hb.trans (hbel _ l12)
        clear hkeep hbel
        go_wp2_with fail
        have hc := HRP.out w5 (htr.below hb htr.size)
        refine hc.mono ?_
        rintro e w6 ⟨rfl, b6⟩
        replace h9 := h9.below b6 h9.lt
        replace h12 := h12.below b6 h12.lt
        replace hb := hb.trans (b6.mono hb.size)
        clear b6 hc HRP
        go_wp2_with (with_reducible refine alArr (z := zerosB 16) Tryd.ag_b16 (wn rfl) rfl ?_)
        intro w7 h14 b7
        have l14 : w.heap.size ≤ w6.heap.size := hb.size
        replace n9 := h9.lt
        have n12 := h12.lt
        replace h9 := h9.below b7 n9
        replace h12 := h12.below b7 n12
        replace hb := hb.trans (b7.mono hb.size)
        clear b7
        generalize w6.heap.size = g14 at *
        go_wp2_with (with_reducible refine stArr (cs := bcs K) (.tmp 14) (.tmp 48) Tryd.ag_b16 (wn rfl) rfl rfl rfl h14 (zerosB_len _) HKB.out (bcs_one _) ?_)
        intro w8 h14 hkeep hbel
        replace h9 := hkeep _ _ _ (by omega) h9
        replace h12 := hkeep _ _ _ (by omega) h12
        replace hb := hb.trans (hbel _ l14)
        clear hkeep hbel
        go_wp2_with fail
        have hc := HSG.out w8 (ht.below hb ht.size)
        refine hc.mono ?_
        rintro e w9 ⟨rfl, b9⟩
        replace h9 := h9.below b9 h9.lt
        replace h12 := h12.below b9 h12.lt
        replace h14 := h14.below b9 h14.lt
        replace hb := hb.trans (b9.mono hb.size)
        clear b9 hc HSG
        go_wp2_with fail
        have hc := HRS.out w9 (htr.below hb htr.size)
        refine hc.mono ?_
        rintro e w10 ⟨rfl, b10⟩
        replace h9 := h9.below b10 h9.lt
        replace h12 := h12.below b10 h12.lt
        replace h14 := h14.below b10 h14.lt
        replace hb := hb.trans (b10.mono hb.size)
        clear b10 hc HRS
        go_wp2_with fail
        refine rgStart (fun w' => Below w10.heap.size w10 w') (by kernel_rfl) ?_
        have hq : Below w10.heap.size w10 w10.drew := (Below.refl _ _).drew
        generalize w10.drew = wq at *
        refine rgTake (S := fun w' => Below w10.heap.size w10 w') (i := 0) (v := .bool true) rfl (by kernel_rfl) (by kernel_rfl) (fun _ _ _ h => h) (fun w _ => by kernel_rfl) hq ?_
        refine rgTake (S := fun w' => Below w10.heap.size w10 w') (i := 1) (v := .bool true) rfl (by kernel_rfl) (by kernel_rfl) (fun _ _ _ h => h) (fun w _ => by kernel_rfl) hq ?_
        refine rgLoad (S := fun w' => Below w10.heap.size w10 w') (i := 2) (b := g12) (off := 0) (.tmp 12) (bcs K) Tryd.ag_b16 rfl (by kernel_rfl) (by kernel_rfl) (fun _ _ _ h => h) rfl (by kernel_rfl) HKB.out (fun w' h j u hu => by rw [Nat.zero_add]; exact (h12.below h h12.lt).cell hu) hq ?_
        refine rgLoad (S := fun w' => Below w10.heap.size w10 w') (i := 3) (b := g14) (off := 0) (.tmp 14) (bcs K) Tryd.ag_b16 rfl (by kernel_rfl) (by kernel_rfl) (fun _ _ _ h => h) rfl (by kernel_rfl) HKB.out (fun w' h j u hu => by rw [Nat.zero_add]; exact (h14.below h h14.lt).cell hu) hq ?_
        refine rgNext (S := fun w' => Below w10.heap.size w10 w') (i := 4) (by kernel_rfl) rfl ?_
        refine eqBytes (.tmp 68) (.tmp 69) K K true Tryd.arr_b16 Tryd.und_u8 Tryd.one_u8 (by kernel_rfl) (by kernel_rfl) rfl (by kernel_rfl) (by kernel_rfl) HKL.out HKL.out (by rw [beq_self_eq_true]) ?_
        refine rgBack hq ?_
        refine rgTake (S := fun w' => Below w10.heap.size w10 w') (i := 5) (v := .bool true) rfl (by kernel_rfl) (by kernel_rfl) (fun _ _ _ h => h) (fun w _ => by kernel_rfl) hq ?_
        refine rgTake (S := fun w' => Below w10.heap.size w10 w') (i := 6) (v := .bool true) rfl (by kernel_rfl) (by kernel_rfl) (fun _ _ _ h => h) (fun w _ => by kernel_rfl) hq ?_
        refine rgTake (S := fun w' => Below w10.heap.size w10 w') (i := 7) (v := .int .i64 ke) rfl (by kernel_rfl) (by kernel_rfl) (fun _ _ _ h => h) (fun w _ => by kernel_rfl) hq ?_
        refine rgTake (S := fun w' => Below w10.heap.size w10 w') (i := 8) (v := .int .i64 ke) rfl (by kernel_rfl) (by kernel_rfl) (fun _ _ _ h => h) (fun w _ => by kernel_rfl) hq ?_
        refine rgTake (S := fun w' => Below w10.heap.size w10 w') (i := 9) (v := .bool true) rfl (by kernel_rfl) (by kernel_rfl) (fun _ _ _ h => h) (fun w _ => eqIntRun (k := .i64) (A := ke) (.tmp 73) (.tmp 74) rfl (by kernel_rfl) (by kernel_rfl)) hq ?_
        refine rgTake (S := fun w' => Below w10.heap.size w10 w') (i := 10) (v := .bool true) rfl (by kernel_rfl) (by kernel_rfl) (fun _ _ _ h => h) (fun w _ => by kernel_rfl) hq ?_
        refine rgTake (S := fun w' => Below w10.heap.size w10 w') (i := 11) (v := .bool true) rfl (by kernel_rfl) (by kernel_rfl) (fun _ _ _ h => h) (fun w _ => by kernel_rfl) hq ?_
        simp only [Act.put, List.setIfInBounds_toArray, List.set_cons_succ, List.set_cons_zero]
        refine rgTake (S := fun w' => Below w10.heap.size w10 w') (i := 12) (v := .string ⟨S.toArray⟩) rfl (by kernel_rfl) (by kernel_rfl) (fun _ _ _ h => h) (fun w _ => by kernel_rfl) hq ?_
        refine rgTake (S := fun w' => Below w10.heap.size w10 w') (i := 13) (v := .string ⟨S.toArray⟩) rfl (by kernel_rfl) (by kernel_rfl) (fun _ _ _ h => h) (fun w _ => by kernel_rfl) hq ?_
        refine rgNext (S := fun w' => Below w10.heap.size w10 w') (i := 14) (by kernel_rfl) rfl ?_
        refine eqStr (.tmp 78) (.tmp 79) S S true (by kernel_rfl) rfl (by kernel_rfl) (by kernel_rfl) (by rw [beq_self_eq_true]) ?_
        refine rgBack hq ?_
        refine rgTake (S := fun w' => Below w10.heap.size w10 w') (i := 15) (v := .bool true) rfl (by kernel_rfl) (by kernel_rfl) (fun _ _ _ h => h) (fun w _ => by kernel_rfl) hq ?_
        refine rgTake (S := fun w' => Below w10.heap.size w10 w') (i := 16) (v := .bool true) rfl (by kernel_rfl) (by kernel_rfl) (fun _ _ _ h => h) (fun w _ => by kernel_rfl) hq ?_
        refine rgTake (S := fun w' => Below w10.heap.size w10 w') (i := 17) (v := .int .i64 se) rfl (by kernel_rfl) (by kernel_rfl) (fun _ _ _ h => h) (fun w _ => by kernel_rfl) hq ?_
        refine rgTake (S := fun w' => Below w10.heap.size w10 w') (i := 18) (v := .int .i64 se) rfl (by kernel_rfl) (by kernel_rfl) (fun _ _ _ h => h) (fun w _ => by kernel_rfl) hq ?_
        refine rgTake (S := fun w' => Below w10.heap.size w10 w') (i := 19) (v := .bool true) rfl (by kernel_rfl) (by kernel_rfl) (fun _ _ _ h => h) (fun w _ => eqIntRun (k := .i64) (A := se) (.tmp 83) (.tmp 84) rfl (by kernel_rfl) (by kernel_rfl)) hq ?_
        refine rgTake (S := fun w' => Below w10.heap.size w10 w') (i := 20) (v := .bool true) rfl (by kernel_rfl) (by kernel_rfl) (fun _ _ _ h => h) (fun w _ => by kernel_rfl) hq ?_
        refine rgTake (S := fun w' => Below w10.heap.size w10 w') (i := 21) (v := .bool true) rfl (by kernel_rfl) (by kernel_rfl) (fun _ _ _ h => h) (fun w _ => by kernel_rfl) hq ?_
        simp only [Act.put, List.setIfInBounds_toArray, List.set_cons_succ, List.set_cons_zero]
        refine rgLoad (S := fun w' => Below w10.heap.size w10 w') (i := 22) (b := w.heap.size) (off := 0) (.tmp 9) (bcs p) Tryd.ag_b16 rfl (by kernel_rfl) (by kernel_rfl) (fun _ _ _ h => h) rfl (by kernel_rfl) HPB.out (fun w' h j u hu => by rw [Nat.zero_add]; exact (h9.below h h9.lt).cell hu) hq ?_
        refine rgTake (S := fun w' => Below w10.heap.size w10 w') (i := 23) (v := .int .i64 i) rfl (by kernel_rfl) (by kernel_rfl) (fun _ _ _ h => h) (fun w _ => by kernel_rfl) hq ?_
        refine rgTake (S := fun w' => Below w10.heap.size w10 w') (i := 24) (v := .string ⟨m.toArray⟩) rfl (by kernel_rfl) (by kernel_rfl) (fun _ _ _ h => h) (fun w _ => by kernel_rfl) hq ?_
        refine rgLoad (S := fun w' => Below w10.heap.size w10 w') (i := 26) (b := w.heap.size) (off := 0) (.tmp 9) (bcs p) Tryd.ag_b16 rfl (by kernel_rfl) (by kernel_rfl) (fun _ _ _ h => h) rfl (by kernel_rfl) HPB.out (fun w' h j u hu => by rw [Nat.zero_add]; exact (h9.below h h9.lt).cell hu) hq ?_
        refine rgTake (S := fun w' => Below w10.heap.size w10 w') (i := 27) (v := .int .i64 i) rfl (by kernel_rfl) (by kernel_rfl) (fun _ _ _ h => h) (fun w _ => by kernel_rfl) hq ?_
        refine rgTake (S := fun w' => Below w10.heap.size w10 w') (i := 28) (v := .string ⟨m.toArray⟩) rfl (by kernel_rfl) (by kernel_rfl) (fun _ _ _ h => h) (fun w _ => by kernel_rfl) hq ?_
        refine rgNext (S := fun w' => Below w10.heap.size w10 w') (i := 25) (by kernel_rfl) rfl ?_
        simp only [Act.put, List.setIfInBounds_toArray, List.set_cons_succ, List.set_cons_zero]
        refine callOp 20 [.agg (bcs p).toArray, .int .i64 i, .string ⟨m.toArray⟩] [] [] (by kernel_rfl) (by kernel_rfl) rfl (by kernel_rfl) (by kernel_rfl) ?_
        refine (HME.out _ (ht.below (hb.trans (hq.mono hb.size)) ht.size)).mono ?_
        rintro e wq1 ⟨rfl, hbq⟩
        refine ⟨_, rfl, ?_⟩
        replace hq := hq.trans (hbq.mono hq.size)
        clear hbq
        refine rgBack hq ?_
        refine rgNext (S := fun w' => Below w10.heap.size w10 w') (i := 29) (by kernel_rfl) rfl ?_
        simp only [Act.put, List.setIfInBounds_toArray, List.set_cons_succ, List.set_cons_zero]
        refine callOp 21 [.agg (bcs p).toArray, .int .i64 i, .string ⟨m.toArray⟩] [] [] (by kernel_rfl) (by kernel_rfl) rfl (by kernel_rfl) (by kernel_rfl) ?_
        refine (HRM.out _ (htr.below (hb.trans (hq.mono hb.size)) htr.size)).mono ?_
        rintro e wq2 ⟨rfl, hbq⟩
        refine ⟨_, rfl, ?_⟩
        replace hq := hq.trans (hbq.mono hq.size)
        clear hbq
        refine rgBack hq ?_
        refine rgNext (S := fun w' => Below w10.heap.size w10 w') (i := 30) (by kernel_rfl) rfl ?_
        refine eqBytes (.tmp 91) (.tmp 95) MS MS true Tryd.arr_b16 Tryd.und_u8 Tryd.one_u8 (by kernel_rfl) (by kernel_rfl) rfl (by kernel_rfl) (by kernel_rfl) HML.out HML.out (by rw [beq_self_eq_true]) ?_
        refine rgBack hq ?_
        refine rgTake (S := fun w' => Below w10.heap.size w10 w') (i := 31) (v := .bool true) rfl (by kernel_rfl) (by kernel_rfl) (fun _ _ _ h => h) (fun w _ => by kernel_rfl) hq ?_
        refine rgTake (S := fun w' => Below w10.heap.size w10 w') (i := 32) (v := .bool true) rfl (by kernel_rfl) (by kernel_rfl) (fun _ _ _ h => h) (fun w _ => by kernel_rfl) hq ?_
        refine rgDone (by kernel_rfl) ?_
        simp only [Act.put, List.setIfInBounds_toArray, List.set_cons_succ, List.set_cons_zero]
        go_wp2_with fail
        go_ret
        exact ⟨rfl, hb.trans (hq.mono hb.size)⟩
      · by_cases h4 : 6 < h
        · have hdummy : True := trivial
          have HPU := Lib.hid (fun w' (h' : Tabs w') => public_any seed h w' h' (by omega))
          have HRP := Lib.hid (fun w' (h' : TabsR w') => refPublic_any seed h w' h' (by omega))
          have HSG := Lib.hid (fun w' (h' : Tabs w') => sign_any seed h i m w' h' (by omega) (by omega))
          have HRS := Lib.hid (fun w' (h' : TabsR w') => refSign_any seed h i m w' h' (by omega) (by omega))
          have HME := Lib.hid (fun w' (h' : Tabs w') => message_any p i m w' h' hp (by unfold isI64; omega) (by omega))
          have HRM := Lib.hid (fun w' (h' : TabsR w') => refMessage_any p i m w' h' hp (by unfold isI64; omega) (by omega))
          have HML := Lib.hid (show (messageD p i m).length = 16 from ofDig_len _ _)
          have HKL := Lib.hid (publicD_len seed h)
          have HKB := Lib.hid (show (bcs (publicD seed h).1).length = 16 by rw [bcs_length]; exact publicD_len seed h)
          unfold pairV sv at HPU HRP
          unfold textV sv at HSG HRS
          unfold sv at HME HRM
          generalize messageD p i m = MS at *
          generalize (publicD seed h).1 = K at *
          generalize (publicD seed h).2 = ke at *
          generalize (makeD seed h i m).1 = S at *
          generalize (makeD seed h i m).2 = se at *
          go_enter Tryd.func4, Tryd.ntmps4
          go_wp2_with (with_reducible refine bxArr (cs := bcs p) (.tmp 4) (wn rfl) rfl rfl ?_)
          intro w1 h9 hb
          go_wp2_with fail
          have hc := HSAN.out w1 (ht.below hb ht.size)
          refine hc.mono ?_
          rintro e w2 ⟨rfl, b2⟩
          replace h9 := h9.below b2 h9.lt
          replace hb := hb.trans (b2.mono hb.size)
          clear b2 hc HSAN
          go_wp2_with fail
          have hc := HPU.out w2 (ht.below hb ht.size)
          refine hc.mono ?_
          rintro e w3 ⟨rfl, b3⟩
          replace h9 := h9.below b3 h9.lt
          replace hb := hb.trans (b3.mono hb.size)
          clear b3 hc HPU
          go_wp2_with (with_reducible refine alArr (z := zerosB 16) Tryd.ag_b16 (wn rfl) rfl ?_)
          intro w4 h12 b4
          have l12 : w.heap.size ≤ w3.heap.size := hb.size
          have n9 := h9.lt
          replace h9 := h9.below b4 n9
          replace hb := hb.trans (b4.mono hb.size)
          clear b4
          generalize w3.heap.size = g12 at *
          go_wp2_with (with_reducible refine stArr (cs := bcs K) (.tmp 12) (.tmp 42) Tryd.ag_b16 (wn rfl) rfl rfl rfl h12 (zerosB_len _) HKB.out (bcs_one _) ?_)
          intro w5 h12 hkeep hbel
          replace h9 := hkeep _ _ _ (by omega) h9
          replace hb := hb.trans (hbel _ l12)
          clear hkeep hbel
          go_wp2_with fail
          have hc := HRP.out w5 (htr.below hb htr.size)
          refine hc.mono ?_
          rintro e w6 ⟨rfl, b6⟩
          replace h9 := h9.below b6 h9.lt
          replace h12 := h12.below b6 h12.lt
          replace hb := hb.trans (b6.mono hb.size)
          clear b6 hc HRP
          go_wp2_with (with_reducible refine alArr (z := zerosB 16) Tryd.ag_b16 (wn rfl) rfl ?_)
          intro w7 h14 b7
          have l14 : w.heap.size ≤ w6.heap.size := hb.size
          replace n9 := h9.lt
          have n12 := h12.lt
          replace h9 := h9.below b7 n9
          replace h12 := h12.below b7 n12
          replace hb := hb.trans (b7.mono hb.size)
          clear b7
          generalize w6.heap.size = g14 at *
          go_wp2_with (with_reducible refine stArr (cs := bcs K) (.tmp 14) (.tmp 48) Tryd.ag_b16 (wn rfl) rfl rfl rfl h14 (zerosB_len _) HKB.out (bcs_one _) ?_)
          intro w8 h14 hkeep hbel
          replace h9 := hkeep _ _ _ (by omega) h9
          replace h12 := hkeep _ _ _ (by omega) h12
          replace hb := hb.trans (hbel _ l14)
          clear hkeep hbel
          go_wp2_with fail
          have hc := HSG.out w8 (ht.below hb ht.size)
          refine hc.mono ?_
          rintro e w9 ⟨rfl, b9⟩
          replace h9 := h9.below b9 h9.lt
          replace h12 := h12.below b9 h12.lt
          replace h14 := h14.below b9 h14.lt
          replace hb := hb.trans (b9.mono hb.size)
          clear b9 hc HSG
          go_wp2_with fail
          have hc := HRS.out w9 (htr.below hb htr.size)
          refine hc.mono ?_
          rintro e w10 ⟨rfl, b10⟩
          replace h9 := h9.below b10 h9.lt
          replace h12 := h12.below b10 h12.lt
          replace h14 := h14.below b10 h14.lt
          replace hb := hb.trans (b10.mono hb.size)
          clear b10 hc HRS
          go_wp2_with fail
          refine rgStart (fun w' => Below w10.heap.size w10 w') (by kernel_rfl) ?_
          have hq : Below w10.heap.size w10 w10.drew := (Below.refl _ _).drew
          generalize w10.drew = wq at *
          refine rgTake (S := fun w' => Below w10.heap.size w10 w') (i := 0) (v := .bool true) rfl (by kernel_rfl) (by kernel_rfl) (fun _ _ _ h => h) (fun w _ => by kernel_rfl) hq ?_
          refine rgTake (S := fun w' => Below w10.heap.size w10 w') (i := 1) (v := .bool true) rfl (by kernel_rfl) (by kernel_rfl) (fun _ _ _ h => h) (fun w _ => by kernel_rfl) hq ?_
          refine rgLoad (S := fun w' => Below w10.heap.size w10 w') (i := 2) (b := g12) (off := 0) (.tmp 12) (bcs K) Tryd.ag_b16 rfl (by kernel_rfl) (by kernel_rfl) (fun _ _ _ h => h) rfl (by kernel_rfl) HKB.out (fun w' h j u hu => by rw [Nat.zero_add]; exact (h12.below h h12.lt).cell hu) hq ?_
          refine rgLoad (S := fun w' => Below w10.heap.size w10 w') (i := 3) (b := g14) (off := 0) (.tmp 14) (bcs K) Tryd.ag_b16 rfl (by kernel_rfl) (by kernel_rfl) (fun _ _ _ h => h) rfl (by kernel_rfl) HKB.out (fun w' h j u hu => by rw [Nat.zero_add]; exact (h14.below h h14.lt).cell hu) hq ?_
          refine rgNext (S := fun w' => Below w10.heap.size w10 w') (i := 4) (by kernel_rfl) rfl ?_
          refine eqBytes (.tmp 68) (.tmp 69) K K true Tryd.arr_b16 Tryd.und_u8 Tryd.one_u8 (by kernel_rfl) (by kernel_rfl) rfl (by kernel_rfl) (by kernel_rfl) HKL.out HKL.out (by rw [beq_self_eq_true]) ?_
          refine rgBack hq ?_
          refine rgTake (S := fun w' => Below w10.heap.size w10 w') (i := 5) (v := .bool true) rfl (by kernel_rfl) (by kernel_rfl) (fun _ _ _ h => h) (fun w _ => by kernel_rfl) hq ?_
          refine rgTake (S := fun w' => Below w10.heap.size w10 w') (i := 6) (v := .bool true) rfl (by kernel_rfl) (by kernel_rfl) (fun _ _ _ h => h) (fun w _ => by kernel_rfl) hq ?_
          refine rgTake (S := fun w' => Below w10.heap.size w10 w') (i := 7) (v := .int .i64 ke) rfl (by kernel_rfl) (by kernel_rfl) (fun _ _ _ h => h) (fun w _ => by kernel_rfl) hq ?_
          refine rgTake (S := fun w' => Below w10.heap.size w10 w') (i := 8) (v := .int .i64 ke) rfl (by kernel_rfl) (by kernel_rfl) (fun _ _ _ h => h) (fun w _ => by kernel_rfl) hq ?_
          refine rgTake (S := fun w' => Below w10.heap.size w10 w') (i := 9) (v := .bool true) rfl (by kernel_rfl) (by kernel_rfl) (fun _ _ _ h => h) (fun w _ => eqIntRun (k := .i64) (A := ke) (.tmp 73) (.tmp 74) rfl (by kernel_rfl) (by kernel_rfl)) hq ?_
          refine rgTake (S := fun w' => Below w10.heap.size w10 w') (i := 10) (v := .bool true) rfl (by kernel_rfl) (by kernel_rfl) (fun _ _ _ h => h) (fun w _ => by kernel_rfl) hq ?_
          refine rgTake (S := fun w' => Below w10.heap.size w10 w') (i := 11) (v := .bool true) rfl (by kernel_rfl) (by kernel_rfl) (fun _ _ _ h => h) (fun w _ => by kernel_rfl) hq ?_
          simp only [Act.put, List.setIfInBounds_toArray, List.set_cons_succ, List.set_cons_zero]
          refine rgTake (S := fun w' => Below w10.heap.size w10 w') (i := 12) (v := .string ⟨S.toArray⟩) rfl (by kernel_rfl) (by kernel_rfl) (fun _ _ _ h => h) (fun w _ => by kernel_rfl) hq ?_
          refine rgTake (S := fun w' => Below w10.heap.size w10 w') (i := 13) (v := .string ⟨S.toArray⟩) rfl (by kernel_rfl) (by kernel_rfl) (fun _ _ _ h => h) (fun w _ => by kernel_rfl) hq ?_
          refine rgNext (S := fun w' => Below w10.heap.size w10 w') (i := 14) (by kernel_rfl) rfl ?_
          refine eqStr (.tmp 78) (.tmp 79) S S true (by kernel_rfl) rfl (by kernel_rfl) (by kernel_rfl) (by rw [beq_self_eq_true]) ?_
          refine rgBack hq ?_
          refine rgTake (S := fun w' => Below w10.heap.size w10 w') (i := 15) (v := .bool true) rfl (by kernel_rfl) (by kernel_rfl) (fun _ _ _ h => h) (fun w _ => by kernel_rfl) hq ?_
          refine rgTake (S := fun w' => Below w10.heap.size w10 w') (i := 16) (v := .bool true) rfl (by kernel_rfl) (by kernel_rfl) (fun _ _ _ h => h) (fun w _ => by kernel_rfl) hq ?_
          refine rgTake (S := fun w' => Below w10.heap.size w10 w') (i := 17) (v := .int .i64 se) rfl (by kernel_rfl) (by kernel_rfl) (fun _ _ _ h => h) (fun w _ => by kernel_rfl) hq ?_
          refine rgTake (S := fun w' => Below w10.heap.size w10 w') (i := 18) (v := .int .i64 se) rfl (by kernel_rfl) (by kernel_rfl) (fun _ _ _ h => h) (fun w _ => by kernel_rfl) hq ?_
          refine rgTake (S := fun w' => Below w10.heap.size w10 w') (i := 19) (v := .bool true) rfl (by kernel_rfl) (by kernel_rfl) (fun _ _ _ h => h) (fun w _ => eqIntRun (k := .i64) (A := se) (.tmp 83) (.tmp 84) rfl (by kernel_rfl) (by kernel_rfl)) hq ?_
          refine rgTake (S := fun w' => Below w10.heap.size w10 w') (i := 20) (v := .bool true) rfl (by kernel_rfl) (by kernel_rfl) (fun _ _ _ h => h) (fun w _ => by kernel_rfl) hq ?_
          refine rgTake (S := fun w' => Below w10.heap.size w10 w') (i := 21) (v := .bool true) rfl (by kernel_rfl) (by kernel_rfl) (fun _ _ _ h => h) (fun w _ => by kernel_rfl) hq ?_
          simp only [Act.put, List.setIfInBounds_toArray, List.set_cons_succ, List.set_cons_zero]
          refine rgLoad (S := fun w' => Below w10.heap.size w10 w') (i := 22) (b := w.heap.size) (off := 0) (.tmp 9) (bcs p) Tryd.ag_b16 rfl (by kernel_rfl) (by kernel_rfl) (fun _ _ _ h => h) rfl (by kernel_rfl) HPB.out (fun w' h j u hu => by rw [Nat.zero_add]; exact (h9.below h h9.lt).cell hu) hq ?_
          refine rgTake (S := fun w' => Below w10.heap.size w10 w') (i := 23) (v := .int .i64 i) rfl (by kernel_rfl) (by kernel_rfl) (fun _ _ _ h => h) (fun w _ => by kernel_rfl) hq ?_
          refine rgTake (S := fun w' => Below w10.heap.size w10 w') (i := 24) (v := .string ⟨m.toArray⟩) rfl (by kernel_rfl) (by kernel_rfl) (fun _ _ _ h => h) (fun w _ => by kernel_rfl) hq ?_
          refine rgLoad (S := fun w' => Below w10.heap.size w10 w') (i := 26) (b := w.heap.size) (off := 0) (.tmp 9) (bcs p) Tryd.ag_b16 rfl (by kernel_rfl) (by kernel_rfl) (fun _ _ _ h => h) rfl (by kernel_rfl) HPB.out (fun w' h j u hu => by rw [Nat.zero_add]; exact (h9.below h h9.lt).cell hu) hq ?_
          refine rgTake (S := fun w' => Below w10.heap.size w10 w') (i := 27) (v := .int .i64 i) rfl (by kernel_rfl) (by kernel_rfl) (fun _ _ _ h => h) (fun w _ => by kernel_rfl) hq ?_
          refine rgTake (S := fun w' => Below w10.heap.size w10 w') (i := 28) (v := .string ⟨m.toArray⟩) rfl (by kernel_rfl) (by kernel_rfl) (fun _ _ _ h => h) (fun w _ => by kernel_rfl) hq ?_
          refine rgNext (S := fun w' => Below w10.heap.size w10 w') (i := 25) (by kernel_rfl) rfl ?_
          simp only [Act.put, List.setIfInBounds_toArray, List.set_cons_succ, List.set_cons_zero]
          refine callOp 20 [.agg (bcs p).toArray, .int .i64 i, .string ⟨m.toArray⟩] [] [] (by kernel_rfl) (by kernel_rfl) rfl (by kernel_rfl) (by kernel_rfl) ?_
          refine (HME.out _ (ht.below (hb.trans (hq.mono hb.size)) ht.size)).mono ?_
          rintro e wq1 ⟨rfl, hbq⟩
          refine ⟨_, rfl, ?_⟩
          replace hq := hq.trans (hbq.mono hq.size)
          clear hbq
          refine rgBack hq ?_
          refine rgNext (S := fun w' => Below w10.heap.size w10 w') (i := 29) (by kernel_rfl) rfl ?_
          simp only [Act.put, List.setIfInBounds_toArray, List.set_cons_succ, List.set_cons_zero]
          refine callOp 21 [.agg (bcs p).toArray, .int .i64 i, .string ⟨m.toArray⟩] [] [] (by kernel_rfl) (by kernel_rfl) rfl (by kernel_rfl) (by kernel_rfl) ?_
          refine (HRM.out _ (htr.below (hb.trans (hq.mono hb.size)) htr.size)).mono ?_
          rintro e wq2 ⟨rfl, hbq⟩
          refine ⟨_, rfl, ?_⟩
          replace hq := hq.trans (hbq.mono hq.size)
          clear hbq
          refine rgBack hq ?_
          refine rgNext (S := fun w' => Below w10.heap.size w10 w') (i := 30) (by kernel_rfl) rfl ?_
          refine eqBytes (.tmp 91) (.tmp 95) MS MS true Tryd.arr_b16 Tryd.und_u8 Tryd.one_u8 (by kernel_rfl) (by kernel_rfl) rfl (by kernel_rfl) (by kernel_rfl) HML.out HML.out (by rw [beq_self_eq_true]) ?_
          refine rgBack hq ?_
          refine rgTake (S := fun w' => Below w10.heap.size w10 w') (i := 31) (v := .bool true) rfl (by kernel_rfl) (by kernel_rfl) (fun _ _ _ h => h) (fun w _ => by kernel_rfl) hq ?_
          refine rgTake (S := fun w' => Below w10.heap.size w10 w') (i := 32) (v := .bool true) rfl (by kernel_rfl) (by kernel_rfl) (fun _ _ _ h => h) (fun w _ => by kernel_rfl) hq ?_
          refine rgDone (by kernel_rfl) ?_
          simp only [Act.put, List.setIfInBounds_toArray, List.set_cons_succ, List.set_cons_zero]
          go_wp2_with fail
          go_ret
          exact ⟨rfl, hb.trans (hq.mono hb.size)⟩
        · have h5 : h ≤ 6 := by omega
          go_enter Tryd.func4, Tryd.ntmps4
          go_wp2_with (with_reducible refine bxArr (cs := bcs p) (.tmp 4) (wn rfl) rfl rfl ?_)
          intro w1 h9 hb
          go_wp2_with fail
          have hc := HSAN.out w1 (ht.below hb ht.size)
          refine hc.mono ?_
          rintro e w2 ⟨rfl, b2⟩
          replace h9 := h9.below b2 h9.lt
          replace hb := hb.trans (b2.mono hb.size)
          clear b2 hc HSAN
          go_wp2_with fail
          go_ret
          exact ⟨rfl, hb⟩
    · go_enter Tryd.func4, Tryd.ntmps4
      go_wp2_with (with_reducible refine bxArr (cs := bcs p) (.tmp 4) (wn rfl) rfl rfl ?_)
      intro w1 h9 hb
      go_wp2_with fail
      have hc := HSAN.out w1 (ht.below hb ht.size)
      refine hc.mono ?_
      rintro e w2 ⟨rfl, b2⟩
      replace h9 := h9.below b2 h9.lt
      replace hb := hb.trans (b2.mono hb.size)
      clear b2 hc HSAN
      go_wp2_with fail
      go_ret
      exact ⟨rfl, hb⟩
  · go_enter Tryd.func4, Tryd.ntmps4
    go_wp2_with (with_reducible refine bxArr (cs := bcs p) (.tmp 4) (wn rfl) rfl rfl ?_)
    intro w1 h9 hb
    go_wp2_with fail
    have hc := HSAN.out w1 (ht.below hb ht.size)
    refine hc.mono ?_
    rintro e w2 ⟨rfl, b2⟩
    replace h9 := h9.below b2 h9.lt
    replace hb := hb.trans (b2.mono hb.size)
    clear b2 hc HSAN
    go_wp2_with fail
    go_ret
    exact ⟨rfl, hb⟩
end Go.Proofs.YtienlndjhcmemaaDoor

