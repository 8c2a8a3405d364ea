/-
  SignIsAccepted answers true, for any seed, height, index, message, cut and more.
-/
import Derived.Test.YtienlndjhcmemaaDoorMH
namespace Go.Proofs.YtienlndjhcmemaaDoor
open Go.RowKit
set_option linter.unusedVariables false

theorem slStrHRun {P : Program} {w : World} {o : Oper} {a : Act} {t : TypeId} {kh : IntKind} {H : Int} (x h : Operand) (l : List UInt8) (V : Nat)
    (ho : o.op = .slice t x none (some h) none) (hx : a.eval x = .string ⟨l.toArray⟩) (hh : a.eval h = .int kh H) (hH : H = (V : Int)) (h2 : V ≤ l.length) (ht : P.underlying t = some .string) :
    (execOp a.eval o).run P w = .ok (.value (.string ⟨(l.take V).toArray⟩)) w := by
  subst hH
  unfold execOp
  have hs : (⟨l.toArray⟩ : ByteArray).size = l.length := by simp [ByteArray.size]
  have := run_slice_string_h (P := P) w t ⟨l.toArray⟩ ht kh (V : Int) (by omega) (by rw [hs]; omega)
  rw [Int.toNat_natCast, ext_take] at this
  simp only [ho, hx, hh, Option.map_some, Option.map_none, Sem.run_bind, Sem.run_pure, run_sliceAt_string w t _ _ _ _ ht, this, Result.andThen_ok]
theorem Tryd.und_bool : Tryd.prog.underlying 4 = some .bool := by kernel_rfl
/-- '==' on two bools that are the same. -/
theorem eqBoolOp {P : Program} {w : World} {ops : Array Oper} {rest : List Oper} {o : Oper} {a : Act} {Q : Exit → Act → World → Prop} {t ty : TypeId} {B : Bool} (x y : Operand) (hu : P.underlying t = some .bool) (hgd : Region.wanted o (yielded ops a.tmps) = true)
    (ho : o.op = .binOp .eql t x y ty) (hx : a.eval x = .bool B) (hy : a.eval y = .bool B) (hk : wpList P ops Q rest (a.put o.dst (.bool true)) w) : wpList P ops Q (o :: rest) a w := by
  refine opVal (v := .bool true) hgd ?_ hk
  unfold execOp
  have hr := run_equal_bool (P := P) (w := w) t B B hu
  simp [ho, hx, hy, eqGuard, binOp, hr]
theorem verify_both (seed : List UInt8) {h i : Nat} (m more : List UInt8) (hh : h ≤ 6) (hi : i < 2 ^ h) : verifyD (valueD seed h 0) h m (signD seed h i m ++ more) = if 0 < more.length then (0, 6) else ((i : Int), 0) := by
  by_cases hm : more = []
  · subst hm
    rw [List.append_nil, if_neg (by simp)]
    exact verify_sign seed m hh hi
  · rw [if_pos (List.length_pos_iff.2 hm)]
    exact verify_more _ seed m m more hh hi hm
theorem u8_mod3 {H : Int} (h : 0 ≤ H ∧ H ≤ 255) : ∃ k : Nat, k ≤ 2 ∧ H % 3 = (k : Int) := ⟨(H % 3).toNat, by omega, by omega⟩
theorem u8_modc {I : Int} (h : 0 ≤ I ∧ I ≤ 255) {c : Nat} (hc : 0 < c) : ∃ i : Nat, i < c ∧ I % (c : Int) = (i : Int) := by
  have h1 := Int.emod_nonneg I (show (c : Int) ≠ 0 by omega)
  have h2 := Int.emod_lt_of_pos I (show (0 : Int) < c by omega)
  exact ⟨(I % (c : Int)).toNat, by omega, by omega⟩

set_option maxRecDepth 100000 in
set_option maxHeartbeats 4000000 in
theorem walk_SignIsAccepted (seed : List UInt8) (H I : Int) (m : List UInt8) (ct : Int) (more : List UInt8) (w : World) (ht : Tabs w) (hs : seed.length ≤ 140737488351232) (hH : 0 ≤ H ∧ H ≤ 255) (hI : 0 ≤ I ∧ I ≤ 255) (hm : m.length ≤ 140737488351232) (hct : 0 ≤ ct ∧ ct ≤ 65535) (hmo : more.length ≤ 140737488351232) :
    Calls Tryd.prog 6 #[sv seed, .int .u8 H, .int .u8 I, sv m, .int .u16 ct, sv more] w (RetB w true) := by
  have HSAN := Lib.hid (fun w' (h : Tabs w') => sanity_any w' h)
  unfold sv
  by_cases h1 : seed.length ≤ 200
  · by_cases h2 : m.length ≤ 200
    · by_cases h3 : more.length ≤ 50
      · obtain ⟨k, hk2, hk⟩ := u8_mod3 hH
        have hk6 : k ≤ 6 := by omega
        obtain ⟨i, hi, hie⟩ := u8_modc hI (two_pow_pos k)
        have hcd := countD_of hk6
        have h64 := two_pow_le hk6
        have hp0 := two_pow_pos k
        have hsl := signD_len seed m hk6 hi
        have hss := sizeD_of hk6 hi
        have hen := enc_len i
        have hsl1 : 500 < (signD seed k i m).length := by rw [hsl, hss]; omega
        have hsl2 : (signD seed k i m).length ≤ 1000 := by rw [hsl, hss]; omega
        have hi64 : i < 64 := by omega
        have HCN := Lib.hid (fun w' => refCount_any k w')
        have HPU := Lib.hid (fun w' (h' : Tabs w') => public_any seed k w' h' (by omega))
        have HSG := Lib.hid (fun w' (h' : Tabs w') => sign_any seed k i m w' h' (by omega) (by omega))
        have HV1 := Lib.hid (fun w' (h' : Tabs w') => verify_any (valueD seed k 0) k m (signD seed k i m) w' h' (valueD_len _ _ _) (by omega) (by omega))
        have HSZ := Lib.hid (fun w' => size_any k i w')
        obtain ⟨K, hKlt, hKe⟩ : ∃ K : Nat, K < (signD seed k i m).length ∧ ct % ((signD seed k i m).length : Int) = (K : Int) := by
          have e1 := Int.emod_nonneg ct (show ((signD seed k i m).length : Int) ≠ 0 by omega)
          have e2 := Int.emod_lt_of_pos ct (show (0 : Int) < ((signD seed k i m).length : Int) by omega)
          exact ⟨(ct % ((signD seed k i m).length : Int)).toNat, by omega, by omega⟩
        have HV2 := Lib.hid (fun w' (h' : Tabs w') => verify_any (valueD seed k 0) k m ((signD seed k i m).take K) w' h' (valueD_len _ _ _) (by omega) (by rw [List.length_take]; omega))
        have HV3 := Lib.hid (fun w' (h' : Tabs w') => verify_any (valueD seed k 0) k m (signD seed k i m ++ more) w' h' (valueD_len _ _ _) (by omega) (by rw [List.length_append]; omega))
        have hpd : publicD seed k = (valueD seed k 0, 0) := by unfold publicD; rw [if_neg (by omega), Int.toNat_natCast]
        have hmd : makeD seed k i m = (signD seed k i m, 0) := by unfold makeD; rw [if_neg (by omega), if_neg (by omega), Int.toNat_natCast, Int.toNat_natCast]
        rw [hcd] at HCN
        rw [hpd] at HPU
        rw [hmd] at HSG
        rw [← hsl] at HSZ
        unfold verifyV sv at HV1 HV2 HV3
        rw [verify_sign seed m hk6 hi] at HV1
        rw [verify_prefix (valueD seed k 0) seed m m hk6 hi hKlt] at HV2
        rw [verify_both seed m more hk6 hi] at HV3
        unfold pairV sv at HPU
        unfold textV sv at HSG
        have HKB := Lib.hid (show (bcs (valueD seed k 0)).length = 16 by rw [bcs_length]; exact valueD_len _ _ _)
        have HK := Lib.hid hk
        have HIE := Lib.hid hie
        have HKE := Lib.hid hKe
        clear hk hie hcd hsl hss hpd hmd hKe
        generalize signD seed k i m = S at *
        generalize valueD seed k 0 = PK at *
        generalize 2 ^ k = c at *
        go_enter Tryd.func6, Tryd.ntmps6
        go_wp2_with fail
        have hc := HSAN.out w ht
        refine hc.mono ?_
        rintro e w1 ⟨rfl, hb⟩
        clear hc HSAN
        go_wp2_with fail
        rw [HK.out]
        have hc := HCN.out w1
        refine hc.mono ?_
        rintro e w2 ⟨rfl, rfl⟩
        clear hc HCN
        go_wp2_with fail
        rw [HIE.out]
        have hc := HPU.out w2 (ht.below hb ht.size)
        refine hc.mono ?_
        rintro e w3 ⟨rfl, b3⟩
        replace hb := hb.trans (b3.mono hb.size)
        clear b3 hc HPU
        go_wp2_with (with_reducible refine alArr (z := zerosB 16) Tryd.ag_b16 (wn rfl) rfl ?_)
        intro w4 h16 b4
        have l16 : w.heap.size ≤ w3.heap.size := hb.size
        replace hb := hb.trans (b4.mono hb.size)
        clear b4
        generalize w3.heap.size = g16 at *
        go_wp2_with (with_reducible refine stArr (cs := bcs PK) (.tmp 16) (.tmp 53) Tryd.ag_b16 (wn rfl) rfl rfl rfl h16 (zerosB_len _) HKB.out (bcs_one _) ?_)
        intro w5 h16 _ hbel
        replace hb := hb.trans (hbel _ l16)
        clear hbel
        go_wp2_with fail
        have hc := HSG.out w5 (ht.below hb ht.size)
        refine hc.mono ?_
        rintro e w6 ⟨rfl, b6⟩
        replace h16 := h16.below b6 h16.lt
        replace hb := hb.trans (b6.mono hb.size)
        clear b6 hc HSG
        go_wp2_with (with_reducible refine ldArr (.tmp 16) Tryd.ag_b16 (wn rfl) rfl rfl HKB.out h16 ?_)
        have hc := HV1.out w6 (ht.below hb ht.size)
        refine hc.mono ?_
        rintro e w7 ⟨rfl, b7⟩
        replace h16 := h16.below b7 h16.lt
        replace hb := hb.trans (b7.mono hb.size)
        clear b7 hc HV1
        go_wp2_with fail
        have hc := HSZ.out w7
        refine hc.mono ?_
        rintro e w8 ⟨rfl, b8⟩
        replace h16 := h16.below b8 h16.lt
        replace hb := hb.trans (b8.mono hb.size)
        clear b8 hc HSZ
        go_wp2_with fail
        refine rgStart (fun w' => Below w8.heap.size w8 w') (by kernel_rfl) ?_
        have hq : Below w8.heap.size w8 w8.drew := (Below.refl _ _).drew
        generalize w8.drew = wq at *
        refine rgLoad (S := fun w' => Below w8.heap.size w8 w') (i := 0) (b := g16) (off := 0) (.tmp 16) (bcs PK) Tryd.ag_b16 rfl (by kernel_rfl) (by kernel_rfl) (fun _ _ _ h => h) rfl (by kernel_rfl) HKB.out (fun w' h j u hu => by rw [Nat.zero_add]; exact (h16.below h h16.lt).cell hu) hq ?_
        refine rgTake (S := fun w' => Below w8.heap.size w8 w') (i := 1) (v := .int .i64 (k : Int)) rfl (by kernel_rfl) (by kernel_rfl) (fun _ _ _ h => h) (fun w _ => by kernel_rfl) hq ?_
        refine rgTake (S := fun w' => Below w8.heap.size w8 w') (i := 2) (v := .string ⟨m.toArray⟩) rfl (by kernel_rfl) (by kernel_rfl) (fun _ _ _ h => h) (fun w _ => by kernel_rfl) hq ?_
        refine rgTake (S := fun w' => Below w8.heap.size w8 w') (i := 3) (v := .string ⟨S.toArray⟩) rfl (by kernel_rfl) (by kernel_rfl) (fun _ _ _ h => h) (fun w _ => by kernel_rfl) hq ?_
        refine rgTake (S := fun w' => Below w8.heap.size w8 w') (i := 4) (v := .int .u16 ct) rfl (by kernel_rfl) (by kernel_rfl) (fun _ _ _ h => h) (fun w _ => by kernel_rfl) hq ?_
        refine rgTake (S := fun w' => Below w8.heap.size w8 w') (i := 5) (v := .int .i64 ct) rfl (by kernel_rfl) (by kernel_rfl) (fun _ _ _ h => h) (fun w _ => convIntRun (k := .u16) (A := ct) (.tmp 104) (by kernel_rfl) Tryd.und_int rfl (by kernel_rfl) (by omega)) hq ?_
        refine rgTake (S := fun w' => Below w8.heap.size w8 w') (i := 6) (v := .string ⟨S.toArray⟩) rfl (by kernel_rfl) (by kernel_rfl) (fun _ _ _ h => h) (fun w _ => by kernel_rfl) hq ?_
        refine rgTake (S := fun w' => Below w8.heap.size w8 w') (i := 7) (v := .int .i64 (S.length : Int)) rfl (by kernel_rfl) (by kernel_rfl) (fun _ _ _ h => h) (fun w _ => lenStrRun (.tmp 106) S Tryd.und_str rfl (by kernel_rfl)) hq ?_
        refine rgTake (S := fun w' => Below w8.heap.size w8 w') (i := 8) (v := .int .i64 (K : Int)) rfl (by kernel_rfl) (by kernel_rfl) (fun _ _ _ h => h) (fun w _ => remRun (A := ct) (B := (S.length : Int)) (.tmp 105) (.tmp 107) rfl (by kernel_rfl) (by kernel_rfl) (by omega) (by omega) HKE.out) hq ?_
        refine rgTake (S := fun w' => Below w8.heap.size w8 w') (i := 9) (v := .string ⟨(S.take K).toArray⟩) rfl (by kernel_rfl) (by kernel_rfl) (fun _ _ _ h => h) (fun w _ => slStrHRun (kh := .i64) (H := (K : Int)) (.tmp 103) (.tmp 108) S K rfl (by kernel_rfl) (by kernel_rfl) rfl (by omega) Tryd.und_str) hq ?_
        refine rgNext (S := fun w' => Below w8.heap.size w8 w') (i := 10) (by kernel_rfl) rfl ?_
        simp only [Act.put, List.setIfInBounds_toArray, List.set_cons_succ, List.set_cons_zero]
        refine callOp 22 [.agg (bcs PK).toArray, .int .i64 (k : Int), .string ⟨m.toArray⟩, .string ⟨(S.take K).toArray⟩] [] [] (by kernel_rfl) (by kernel_rfl) rfl (by kernel_rfl) (by kernel_rfl) ?_
        refine (HV2.out _ (ht.below (hb.trans (hq.mono hb.size)) ht.size)).mono ?_
        rintro e wq1 ⟨rfl, hbq⟩
        refine ⟨_, rfl, ?_⟩
        replace hq := hq.trans (hbq.mono hq.size)
        clear hbq
        refine rgBack hq ?_
        refine rgTake (S := fun w' => Below w8.heap.size w8 w') (i := 11) (v := .tuple #[.int .i64 0, .int .i64 5]) rfl (by kernel_rfl) (by kernel_rfl) (fun _ _ _ h => h) (fun w _ => by kernel_rfl) hq ?_
        refine rgTake (S := fun w' => Below w8.heap.size w8 w') (i := 12) (v := .int .i64 0) rfl (by kernel_rfl) (by kernel_rfl) (fun _ _ _ h => h) (fun w _ => by kernel_rfl) hq ?_
        refine rgTake (S := fun w' => Below w8.heap.size w8 w') (i := 14) (v := .int .i64 0) rfl (by kernel_rfl) (by kernel_rfl) (fun _ _ _ h => h) (fun w _ => by kernel_rfl) hq ?_
        refine rgTake (S := fun w' => Below w8.heap.size w8 w') (i := 13) (v := .int .i64 5) rfl (by kernel_rfl) (by kernel_rfl) (fun _ _ _ h => h) (fun w _ => by kernel_rfl) hq ?_
        refine rgTake (S := fun w' => Below w8.heap.size w8 w') (i := 15) (v := .int .i64 5) rfl (by kernel_rfl) (by kernel_rfl) (fun _ _ _ h => h) (fun w _ => by kernel_rfl) hq ?_
        refine rgDone (by kernel_rfl) ?_
        simp only [Act.put, List.setIfInBounds_toArray, List.set_cons_succ, List.set_cons_zero]
        have h16q := h16.below hq h16.lt
        replace hb := hb.trans (hq.mono hb.size)
        clear hq HV2 HKE
        generalize hww : wq1 = wr at *
        clear hww
        go_wp2_with (with_reducible refine ldArr (.tmp 16) Tryd.ag_b16 (wn rfl) rfl rfl HKB.out h16q ?_)
        rw [cat_two]
        have hc := HV3.out wr (ht.below hb ht.size)
        by_cases hmz : 0 < more.length
        · rw [if_pos hmz] at hc
          refine hc.mono ?_
          rintro e w9 ⟨rfl, b9⟩
          replace hb := hb.trans (b9.mono hb.size)
          clear b9 hc HV3
          go_wp2_with (with_reducible refine eqBoolOp (B := true) (.tmp 130) (.tmp 133) Tryd.und_bool (by kernel_rfl) rfl rfl rfl ?_)
          go_ret
          exact ⟨rfl, hb⟩
        · rw [if_neg hmz] at hc
          refine hc.mono ?_
          rintro e w9 ⟨rfl, b9⟩
          replace hb := hb.trans (b9.mono hb.size)
          clear b9 hc HV3
          go_wp2_with (with_reducible refine eqBoolOp (B := false) (.tmp 130) (.tmp 133) Tryd.und_bool (by kernel_rfl) rfl rfl rfl ?_)
          go_ret
          exact ⟨rfl, hb⟩
      · have hdummy : True := trivial
        go_enter Tryd.func6, Tryd.ntmps6
        go_wp2_with fail
        have hc := HSAN.out w ht
        refine hc.mono ?_
        rintro e w1 ⟨rfl, hb⟩
        clear hc HSAN
        go_wp2_with fail
        go_ret
        exact ⟨rfl, hb⟩
    · have hdummy : True := trivial
      go_enter Tryd.func6, Tryd.ntmps6
      go_wp2_with fail
      have hc := HSAN.out w ht
      refine hc.mono ?_
      rintro e w1 ⟨rfl, hb⟩
      clear hc HSAN
      go_wp2_with fail
      go_ret
      exact ⟨rfl, hb⟩
  · have hdummy : True := trivial
    go_enter Tryd.func6, Tryd.ntmps6
    go_wp2_with fail
    have hc := HSAN.out w ht
    refine hc.mono ?_
    rintro e w1 ⟨rfl, hb⟩
    clear hc HSAN
    go_wp2_with fail
    go_ret
    exact ⟨rfl, hb⟩
end Go.Proofs.YtienlndjhcmemaaDoor

