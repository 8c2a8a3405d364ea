/-
 MI: several texts in one. No statement is proved here.
-/
import Derived.Test.YtgjgjimgomhbmaaGreatDoorMH
import Derived.Test.YtgjgjimgomhbmaaGreatDoorMB
import Derived.Test.YtgjgjimgomhbmaaGreatDoorME
import Derived.Test.YtgjgjimgomhbmaaGreatDoorMG
import Derived.Test.YtgjgjimgomhbmaaGreatDoorMD
set_option maxRecDepth 100000
set_option maxHeartbeats 4000000
set_option linter.unusedVariables false
set_option linter.unusedSimpArgs false
namespace Go.Proofs.YtgjgjimgomhbmaaGreatDoor
open Go.RowKit
theorem slStrLRun {P : Program} {w : World} {o : Oper} {a : Act} {t : TypeId} {kl : IntKind} {L : Int} (x y : Operand) (l : List UInt8) (U : Nat)
 (ho : o.op = .slice t x (some y) none none) (hx : a.eval x = .string ⟨l.toArray⟩) (hh : a.eval y = .int kl L) (hL : L = (U : Int)) (h2 : U ≤ l.length) (ht : P.underlying t = some .string) :
 (execOp a.eval o).run P w = .ok (.value (.string ⟨(l.drop U).toArray⟩)) w := by
 subst hL
 unfold execOp
 have hs : (⟨l.toArray⟩ : ByteArray).size = l.length := by simp [ByteArray.size]
 have := run_slice_string_l (P := P) w t ⟨l.toArray⟩ ht kl (U : Int) (by omega) (by rw [hs]; omega)
 rw [Int.toNat_natCast, ext_drop] at this
 simp only [ho, hx, hh, Option.map_some, Option.map_none, Sem.run_bind, Sem.run_pure, run_sliceAt_string w t _ _ _ _ ht, this, Result.andThen_ok]
def GRoot (D r : List UInt8) (i j : Nat) (ix_ : Nat) (v : Value) (w : World) : Prop :=
 match ix_ with
 | 7 => v = .agg (bcs (part r j)).toArray
 | 10 => v = .int .i64 ((digAt D j : Nat) : Int)
 | 11 => v = .agg (bcs (endD i D r j)).toArray
 | 12 => ∃ g, v = .slice (some ⟨g, 0, none⟩) 1 1 ∧ Arr w g 27 (bcs (endD i D r j))
 | _ => True
theorem refRoot_any (p : List UInt8) (h i : Nat) (m r : List UInt8) (w : World) (ht : TabsR w) (hp : p.length = 16) (hm : m.length ≤ 100000000) (hh : h ≤ 6) (hi : i < 64) (hr : 16 * (35 + h) ≤ r.length) (hr2 : r.length ≤ 1000000) :
 Calls Tryz.prog 91 #[.agg (bcs p).toArray, .int .i64 (h : Int), .int .i64 (i : Int), sv m, sv r] w fun e w' => e = .returned (.agg (bcs (rootD h i (messageD p i m) r)).toArray) ∧ Below w.heap.size w w' := by
 have HPL := Lib.hid (show (bcs p).length = 16 by rw [bcs_length]; exact hp)
 have hdd : (messageD p i m).length = 16 := ofDig_len _ _
 have HMSG := Lib.hid (fun w' (h' : TabsR w') => refMessage_any p i m w' h' hp (isI64_nat (n := i) (by omega)) hm)
 have hi64 := isI64_nat (show i ≤ 1000000 by omega)
 have hg : w.heap.size ≤ w.heap.size := Nat.le_refl _
 clear hp
 unfold sv
 go_enter Tryz.func91, Tryz.ntmps91
 go_wp2_with (with_reducible refine bxArr (cs := bcs p) (.tmp 0) (wn rfl) rfl rfl ?_)
 intro w1 h5 hb
 have l5 : w.heap.size < w1.heap.size := h5.lt
 go_wp2_with (with_reducible refine alArr (z := zerosB 16) Tryz.ag_b16 (wn rfl) rfl ?_)
 intro w2 h10 b2
 have l10 : w1.heap.size < w2.heap.size := h10.lt
 replace h5 := h5.below b2 h5.lt
 replace hb := hb.trans (b2.mono hb.size)
 clear b2
 generalize w1.heap.size = g10 at *
 go_wp2_with (with_reducible refine ldArr (.tmp 5) Tryz.ag_b16 (wn rfl) rfl rfl HPL.out h5 ?_)
 have hmc := HMSG.out w2 (ht.below hb ht.size)
 refine hmc.mono ?_
 rintro e w3 ⟨rfl, b3⟩
 replace h10 := h10.below b3 h10.lt
 replace hb := hb.trans (b3.mono hb.size)
 obtain ⟨D, hD⟩ : ∃ D, D = messageD p i m := ⟨_, rfl⟩
 rw [← hD] at hdd
 rw [← hD]
 have HMD := Lib.hid hD
 clear hmc b3 hD HMSG h5
 go_wp2_with fail
 refine (refDigits_any D w3 hdd).mono ?_
 rintro e w4 ⟨rfl, b4⟩
 replace h10 := h10.below b4 h10.lt
 replace hb := hb.trans (b4.mono hb.size)
 clear b4
 have HDL := Lib.hid (show (ivs (digitsD D)).length = 35 by rw [ivs_len]; exact digitsD_len hdd)
 go_wp2_with (with_reducible refine alArr (z := zerosI 35) Tryz.ag_i35 (wn rfl) rfl ?_)
 intro w5 h11 b5
 have l11 : w.heap.size ≤ w4.heap.size := hb.size
 have e10 := h10.lt
 replace h10 := h10.below b5 e10
 replace hb := hb.trans (b5.mono hb.size)
 clear b5
 generalize w4.heap.size = g11 at *
 go_wp2_with (with_reducible refine stArr (cs := ivs (digitsD D)) (.tmp 11) (.tmp 22) Tryz.ag_i35 (wn rfl) rfl rfl rfl h11 (zerosI_len _) HDL.out (ivs_one _) ?_)
 intro w6 h11 hkeep hbel
 replace h10 := hkeep _ _ _ (by omega) h10
 replace hb := hb.trans (hbel _ l11)
 clear hkeep hbel
 have n11 := h11.lt
 have n10 := h10.lt
 go_wp2_with fail
 go_loopw [12, 13] (fun v12 v13 wr => ∃ j : Nat, j ≤ 35 ∧ v13 = .int .i64 j ∧ wr.ownsRow w6.heap.size 27 16 v12 j (bcs ((List.range j).map (endD i D r)).flatten) ∧ Below w6.heap.size w6 wr) (fun _ v13 _ => 35 - (intOf v13).toNat)
 case atStart => exact ⟨0, by omega, rfl, World.ownsRow_nil _ _ _ _, Below.refl _ _⟩
 case round =>
  obtain ⟨j, hj, rfl, hown, b6⟩ := hrel
  by_cases hlt : j < 35
  ·have hrl : j * 16 + 16 ≤ r.length := by omega
   have HT := Lib.hid (range_map_next (endD i D r) j)
   have H16 := Lib.hid (show (bcs (endD i D r j)).length = 16 by rw [bcs_length]; exact endD_len hrl)
   have HDG := Lib.hid (show (ivs (digitsD D))[0 + j * 1]? = some (.int .i64 ((digAt D j : Nat) : Int)) by rw [Nat.zero_add, Nat.mul_one]; exact digits_get D hdd j hlt)
   have HCL : Hid (∀ w', TabsR w' → Calls Tryz.prog 76 #[.int .i64 (i : Int), .int .i64 (j : Int), .agg (bcs (part r j)).toArray, .int .i64 ((digAt D j : Nat) : Int), .int .i64 15] w' fun e w'' => e = .returned (.agg (bcs (endD i D r j)).toArray) ∧ Below w'.heap.size w' w'') := Lib.hid (fun w' h => refClimbTo i j (part r j) (digAt D j) w' h hi64 (isI64_nat (by omega)) (part_len hrl) (digAt_le _ _))
   have HDG1 : Hid (∀ w', Calls Tryz.prog 112 #[.string ⟨(r.drop (16 * j)).toArray⟩] w' fun e w'' => e = .returned (.agg (bcs (part r j)).toArray) ∧ Below w'.heap.size w' w'') := Lib.hid (fun w' => refDig_any (r.drop (16 * j)) w' (by rw [List.length_drop]; omega))
   clear hrl
   replace h11 := h11.below b6 n11
   go_wp2_with fail
   refine aStart kr_ ?_
   replace h11 := h11.drew
   replace hown : wr.drew.ownsRow w6.heap.size 27 16 u12 j (bcs ((List.range j).map (endD i D r)).flatten) := hown
   replace hb : Below w.heap.size w wr.drew := (hb.trans (b6.mono hb.size)).drew
   replace b6 := b6.drew
   generalize wr.drew = wd at *
   refine aTake (i := 0) (v := u12) rfl kr_ (wn rfl) (fun _ _ _ h => h) (fun w => by kernel_rfl) ?_
   refine aTake (i := 1) (v := .int .i64 (i : Int)) rfl kr_ (wn rfl) (fun _ _ _ h => h) (fun w => by kernel_rfl) ?_
   refine aTake (i := 2) (v := .int .i64 (j : Int)) rfl kr_ (wn rfl) (fun _ _ _ h => h) (fun w => by kernel_rfl) ?_
   refine aTake (i := 3) (v := .string ⟨r.toArray⟩) rfl kr_ (wn rfl) (fun _ _ _ h => h) (fun w => by kernel_rfl) ?_
   refine aTake (i := 4) (v := .int .i64 (j : Int)) rfl kr_ (wn rfl) (fun _ _ _ h => h) (fun w => by kernel_rfl) ?_
   refine aTake (i := 5) (v := .int .i64 ((16 * j : Nat) : Int)) rfl kr_ (wn rfl) (fun _ _ _ h => h) (fun w => mulRun (A := 16) (B := (j : Int)) (.const (.int .i64 16)) (.tmp 31) rfl rfl kr_ (by omega) (by omega)) ?_
   refine aTake (i := 6) (v := .string ⟨(r.drop (16 * j)).toArray⟩) rfl kr_ (wn rfl) (fun _ _ _ h => h) (fun w => slStrLRun (kl := .i64) (L := ((16 * j : Nat) : Int)) (.tmp 30) (.tmp 32) r (16 * j) rfl kr_ kr_ rfl (by omega) Tryz.und_str) ?_
   refine aTake (i := 8) (v := .int .i64 (j : Int)) rfl kr_ (wn rfl) (fun _ _ _ h => h) (fun w => by kernel_rfl) ?_
   refine aTake (i := 9) (v := .pointer (some ⟨g11, 0 + j * 1, none⟩)) rfl kr_ (wn rfl) (fun _ _ _ h => h) (fun w => iaRunSg (kk := .i64) (.tmp 11) (.tmp 35) j Tryz.arr_i35 kr_ rfl kr_ kr_ rfl hlt) ?_
   refine rgFloat [(7, 34), (10, 37), (11, 38), (12, 39)] (GRoot D r i j) _ 2 rfl kr_ ?mono ?step ?fin
   case mono =>
    intro p hp v w w' h hE
    simp only [List.mem_cons, List.not_mem_nil, or_false] at hp
    rcases hp with rfl | rfl | rfl | rfl
    ·exact h
    ·exact h
    ·exact h
    ·exact (by obtain ⟨g, e1, e2⟩ := h; exact ⟨g, e1, e2.below hE e2.lt⟩)
   case step =>
    intro p hp
    simp only [List.mem_cons, List.not_mem_nil, or_false] at hp
    rcases hp with rfl | rfl | rfl | rfl
    ·refine ⟨_, rfl, rfl, fun a w' hF hE hG => ?_⟩
     refine callOp 112 [.string ⟨(r.drop (16 * j)).toArray⟩] [] [] kr_ (wn rfl) rfl rfl (by show [a.eval (.tmp 33)] = _; rw [hF.eval 33 kr_]; first | done | kernel_rfl) ?_
     refine (HDG1.out w').mono ?_
     rintro e w2 ⟨rfl, hb2⟩
     exact ⟨_, rfl, ⟨_, rfl, hb2, rfl⟩⟩
    ·refine ⟨_, rfl, rfl, fun a w' hF hE hG => ?_⟩
     refine ldOneSg (p := ⟨g11, 0 + j * 1, none⟩) (.tmp 36) kr_ (wn rfl) rfl ((hF.eval 36 kr_).trans kr_) ((h11.below hE h11.lt).cell (i := 0 + j * 1) HDG.out) ?_
     exact ⟨_, rfl, Below.refl _ _, rfl⟩
    ·refine ⟨_, rfl, rfl, fun a w' hF hE hG => ?_⟩
     have hx34 : a.tmps.getD 34 undef = .agg (bcs (part r j)).toArray := hG (7, 34) (by simp) kr_
     have hx37 : a.tmps.getD 37 undef = .int .i64 ((digAt D j : Nat) : Int) := hG (10, 37) (by simp) kr_
     refine callOp 76 [.int .i64 (i : Int), .int .i64 (j : Int), .agg (bcs (part r j)).toArray, .int .i64 ((digAt D j : Nat) : Int), .int .i64 15] [] [] kr_ (wn rfl) rfl rfl (by show [a.eval (.tmp 28), a.eval (.tmp 29), a.tmps.getD 34 undef, a.tmps.getD 37 undef, a.eval (.const (.int .i64 15))] = _; rw [hF.eval 28 kr_, hF.eval 29 kr_, hx34, hx37]; first | done | kernel_rfl) ?_
     refine (HCL.out w' (ht.below (hb.trans (hE.mono hb.size)) ht.size)).mono ?_
     rintro e w2 ⟨rfl, hb2⟩
     exact ⟨_, rfl, ⟨_, rfl, hb2, rfl⟩⟩
    ·refine ⟨_, rfl, rfl, fun a w' hF hE hG => ?_⟩
     refine bsAgg1 (.tmp 38) Tryz.sl_digSg (wn rfl) rfl (show a.tmps.getD 38 undef = _ from hG (11, 38) (by simp) kr_) (by rw [List.size_toArray]; exact H16.out) (by decide) ?_
     exact ⟨_, rfl, (Below.refl _ _).alloc (Nat.le_refl _) _, _, rfl, Arr.new w' _ _⟩
   case fin =>
    intro a wf hF hE hG
    obtain ⟨g39, q39, h39⟩ := hG (12, 39) (by simp)
    have hsz := hE.size
    have huf := ownsRow_below hown hE (Nat.le_refl _)
    replace b6 := b6.trans (hE.mono b6.size)
    rw [hF.eq]
    simp only [putsX]
    rw [q39]
    generalize a.tmps.getD 34 undef = x34
    generalize a.tmps.getD 37 undef = x37
    generalize a.tmps.getD 38 undef = x38
    clear hG hF q39 hown hE
    have hrd : Rd wf wf.heap.size 16 (some ⟨g39, 0, none⟩) 1 1 (bcs (endD i D r j)) := rd_of_arr h39 (fun _ _ h => h) H16.out (Nat.le_refl _) (by unfold maxLen; omega) h39.lt
    refine aNext (i := 13) kr_ rfl ?_
    refine appR (.tmp 27) (.tmp 39) Tryz.sl_digSg (wn rfl) rfl kr_ kr_ huf hrd (bcs_one _) b6 (Nat.le_refl _) (by omega) (by omega) ?_
    intro v' w' h3 h4 _
    rw [← bcs_append, ← HT.out] at h3
    clear huf hrd
    refine aTake (i := 14) (v := v') rfl kr_ (wn rfl) (fun _ _ _ h => h) (fun w => by kernel_rfl) ?_
    refine aDone kr_ ?_
    simp only [Act.put, List.setIfInBounds_toArray, List.set_cons_succ, List.set_cons_zero]
    clear h39 b6 hb h10 h11
    go_wp2_with fail
    go_roundw
    case rel => exact ⟨j + 1, by omega, by go_num, h3, h4⟩
    case measure => (simp [intOf]; try omega)
  ·obtain rfl : j = 35 := by omega
   clear hlt
   obtain ⟨A, c, rfl, hrd⟩ := Rd.of_own hown
   clear hown
   replace h10 := h10.below b6 h10.lt
   replace hb := hb.trans (b6.mono hb.size)
   have hFL : ((((List.range 35).map (endD i D r)).flatten)).length = 35 * 16 := range_map_len' _ 35 (fun j hj => endD_len (by omega))
   have hlf : ofDig 4 [encD 35 ((List.range 35).map (endD i D r)).flatten] = leafD ((List.range 35).map (endD i D r)) := by unfold leafD; rw [List.length_map, List.length_range]
   have hle : (encD 35 ((List.range 35).map (endD i D r)).flatten).length ≤ 1000 := Nat.le_trans (encD_leSg _ _) (by rw [hFL]; omega)
   have HLF := Lib.hid hlf
   clear hlf hFL b6 h11
   go_wp2_with fail
   refine (refLeaf_any _ A 35 c _ wr (ht.below hb ht.size) hrd (Nat.le_refl _) (by omega)).mono ?_
   rintro e w7 ⟨rfl, b7⟩
   rw [HLF.out]
   replace h10 := h10.below b7 h10.lt
   replace hb := hb.trans (b7.mono hb.size)
   clear b7 hrd hle
   obtain ⟨V, hV⟩ : ∃ V, V = leafD ((List.range 35).map (endD i D r)) := ⟨_, rfl⟩
   have hVL : V.length = 16 := by rw [hV]; exact ofDig_len _ _
   rw [← hV]
   have HV := Lib.hid hV
   have HV16 := Lib.hid hVL
   have HVL := Lib.hid (show (bcs V).length = 16 by rw [bcs_length]; exact hVL)
   clear hV hVL HLF
   go_wp2_with (with_reducible refine alArr (z := zerosB 16) Tryz.ag_b16 (wn rfl) rfl ?_)
   intro w8 h14 b8
   have l14 : w.heap.size ≤ w7.heap.size := hb.size
   replace n10 := h10.lt
   replace h10 := h10.below b8 n10
   replace hb := hb.trans (b8.mono hb.size)
   clear b8 n11
   generalize w7.heap.size = g14 at *
   go_wp2_with (with_reducible refine stArr (cs := bcs V) (.tmp 14) (.tmp 42) Tryz.ag_b16 (wn rfl) rfl rfl rfl h14 (zerosB_len _) HVL.out (bcs_one _) ?_)
   intro w9 h14 hkeep hbel
   replace h10 := hkeep _ _ _ (by omega) h10
   replace hb := hb.trans (hbel _ l14)
   clear hkeep hbel
   have h14' : Arr w9 g14 27 (bcs (upD h i r V 0)) := h14
   clear h14
   go_wp2_with fail
   go_loopw [15, 16] (fun v15 v16 wr => ∃ l : Nat, l ≤ h ∧ v16 = .int .i64 l ∧ v15 = .int .i64 ((i / 2 ^ l : Nat) : Int) ∧ Arr wr g10 27 (zerosB 16) ∧ Arr wr g14 27 (bcs (upD h i r V l)) ∧ Below w.heap.size w wr) (fun _ v16 _ => h - (intOf v16).toNat)
   case atStart => exact ⟨0, by omega, rfl, by simp, h10, h14', hb⟩
   case round =>
    clear h10 h14' hb
    obtain ⟨l, hl, rfl, rfl, h10, h14, hb⟩ := hrel
    by_cases hlt : l < h
    ·have hPl : (part r (35 + l)).length = 16 := part_len (by omega)
     have hOl : (upD h i r V l).length = 16 := upD_len _ _ _ HV16.out _
     have hq : i / 2 ^ l / 2 = i / 2 ^ (l + 1) := by rw [Nat.div_div_eq_div_mul, Nat.pow_succ]
     have hx64 : i / 2 ^ l ≤ 64 := by have := Nat.div_le_self i (2 ^ l); omega
     have HUP := Lib.hid (show upD h i r V (l + 1) = if i / 2 ^ l % 2 = 1 then joinD ((l + 1 : Nat) : Int) ((i / 2 ^ (l + 1) : Nat) : Int) (part r (35 + l)) (upD h i r V l) else joinD ((l + 1 : Nat) : Int) ((i / 2 ^ (l + 1) : Nat) : Int) (upD h i r V l) (part r (35 + l)) from rfl)
     have HP := Lib.hid (show (bcs (part r (35 + l))).length = 16 by rw [bcs_length]; exact hPl)
     have HO := Lib.hid (show (bcs (upD h i r V l)).length = 16 by rw [bcs_length]; exact hOl)
     have HP16 := Lib.hid hPl
     have HO16 := Lib.hid hOl
     have HDG1 : Hid (∀ w', Calls Tryz.prog 112 #[.string ⟨(r.drop (16 * (35 + l))).toArray⟩] w' fun e w'' => e = .returned (.agg (bcs (part r (35 + l))).toArray) ∧ Below w'.heap.size w' w'') := Lib.hid (fun w' => refDig_any (r.drop (16 * (35 + l))) w' (by rw [List.length_drop]; omega))
     rw [← hq] at HUP
     clear hPl hOl hq
     obtain ⟨P, hP⟩ : ∃ P, P = part r (35 + l) := ⟨_, rfl⟩
     obtain ⟨O, hO⟩ : ∃ O, O = upD h i r V l := ⟨_, rfl⟩
     rw [← hP] at HUP HP HP16 HDG1
     rw [← hO] at HUP HO HO16 h14
     obtain ⟨x, hx⟩ : ∃ x, x = i / 2 ^ l := ⟨_, rfl⟩
     rw [← hx] at HUP hx64
     rw [← hx]
     have HX := Lib.hid hx
     clear hP hO hx
     go_wp2_with (with_reducible refine slStrL (.tmp 49) (.tmp 52) r (16 * (35 + l)) (wn rfl) rfl rfl rfl (by omega) (by omega) Tryz.und_str ?_)
     have hdc := HDG1.out wr
     refine hdc.mono ?_
     rintro e w1 ⟨rfl, b1⟩
     replace h10 := h10.below b1 h10.lt
     replace h14 := h14.below b1 h14.lt
     replace hb := hb.trans (b1.mono hb.size)
     clear b1 hdc
     go_wp2_with (with_reducible refine alArr (z := zerosB 16) Tryz.ag_b16 (wn rfl) rfl ?_)
     intro w2 h17 b2
     have l17 : w.heap.size ≤ w1.heap.size := hb.size
     have f10 := h10.lt
     have f14 := h14.lt
     replace h10 := h10.below b2 f10
     replace h14 := h14.below b2 f14
     replace hb := hb.trans (b2.mono hb.size)
     clear b2
     generalize w1.heap.size = g17 at *
     go_wp2_with (with_reducible refine stArr (cs := bcs P) (.tmp 17) (.tmp 54) Tryz.ag_b16 (wn rfl) rfl rfl rfl h17 (zerosB_len _) HP.out (bcs_one _) ?_)
     intro w3 h17 hkeep hbel
     replace h10 := hkeep _ _ _ (by omega) h10
     replace h14 := hkeep _ _ _ (by omega) h14
     replace hb := hb.trans (hbel _ l17)
     clear hkeep hbel
     by_cases hpar : x % 2 = 1
     ·have HUPN := Lib.hid (show upD h i r V (l + 1) = joinD ((l + 1 : Nat) : Int) ((x / 2 : Nat) : Int) P O by rw [HUP.out, if_pos hpar])
      have HWL := Lib.hid (show (bcs (joinD ((l + 1 : Nat) : Int) ((x / 2 : Nat) : Int) P O)).length = 16 by rw [bcs_length]; exact ofDig_len _ _)
      have HJ : Hid (∀ w', TabsR w' → Calls Tryz.prog 100 #[.int .i64 ((l : Int) + 1), .int .i64 ((x : Int) / 2), .agg (bcs P).toArray, .agg (bcs O).toArray] w' fun e w'' => e = .returned (.agg (bcs (joinD ((l + 1 : Nat) : Int) ((x / 2 : Nat) : Int) P O)).toArray) ∧ Below w'.heap.size w' w'') :=
       Lib.hid (fun w' ht' => refNode_any ((l + 1 : Nat) : Int) ((x / 2 : Nat) : Int) P O w' ht' (isI64_nat (n := l + 1) (by omega)) (isI64_nat (by omega)) HP16.out HO16.out)
      obtain ⟨W, hW⟩ : ∃ W, W = joinD ((l + 1 : Nat) : Int) ((x / 2 : Nat) : Int) P O := ⟨_, rfl⟩
      rw [← hW] at HUPN HWL HJ
      clear hW HUP
      have hpar2 : ((x : Int) % 2 == 1) = true := by simp; omega
      go_wp2_with (first | (with_reducible refine ldArr (.tmp 17) Tryz.ag_b16 (wn rfl) rfl rfl HP.out h17 ?_) | (with_reducible refine ldArr (.tmp 14) Tryz.ag_b16 (wn rfl) rfl rfl HO.out h14 ?_))
      have hjc := HJ.out w3 (ht.below hb ht.size)
      refine hjc.mono ?_
      rintro e w4 ⟨rfl, b4⟩
      replace h10 := h10.below b4 h10.lt
      replace h14 := h14.below b4 h14.lt
      replace hb := hb.trans (b4.mono hb.size)
      clear b4 hjc h17
      go_wp2_with (with_reducible refine stArr (cs := bcs W) (.tmp 14) (.tmp 64) Tryz.ag_b16 (wn rfl) rfl rfl rfl h14 HO.out HWL.out (bcs_one _) ?_)
      intro w5 h14 hkeep hbel
      replace h10 := hkeep _ _ _ (by omega) h10
      replace hb := hb.trans (hbel _ (by omega))
      clear hkeep hbel
      rw [← HUPN.out] at h14
      go_wp2_with fail
      go_roundw
      case rel => exact ⟨l + 1, by omega, by go_num, by have hx := HX.out; subst hx; rw [Nat.pow_succ, ← Nat.div_div_eq_div_mul]; go_num, h10, h14, hb⟩
      case measure => (simp [intOf]; try omega)
     ·have HUPN := Lib.hid (show upD h i r V (l + 1) = joinD ((l + 1 : Nat) : Int) ((x / 2 : Nat) : Int) O P by rw [HUP.out, if_neg hpar])
      have HWL := Lib.hid (show (bcs (joinD ((l + 1 : Nat) : Int) ((x / 2 : Nat) : Int) O P)).length = 16 by rw [bcs_length]; exact ofDig_len _ _)
      have HJ : Hid (∀ w', TabsR w' → Calls Tryz.prog 100 #[.int .i64 ((l : Int) + 1), .int .i64 ((x : Int) / 2), .agg (bcs O).toArray, .agg (bcs P).toArray] w' fun e w'' => e = .returned (.agg (bcs (joinD ((l + 1 : Nat) : Int) ((x / 2 : Nat) : Int) O P)).toArray) ∧ Below w'.heap.size w' w'') :=
       Lib.hid (fun w' ht' => refNode_any ((l + 1 : Nat) : Int) ((x / 2 : Nat) : Int) O P w' ht' (isI64_nat (n := l + 1) (by omega)) (isI64_nat (by omega)) HO16.out HP16.out)
      obtain ⟨W, hW⟩ : ∃ W, W = joinD ((l + 1 : Nat) : Int) ((x / 2 : Nat) : Int) O P := ⟨_, rfl⟩
      rw [← hW] at HUPN HWL HJ
      clear hW HUP
      have hpar2 : ((x : Int) % 2 == 1) = false := by simp; omega
      go_wp2_with (first | (with_reducible refine ldArr (.tmp 14) Tryz.ag_b16 (wn rfl) rfl rfl HO.out h14 ?_) | (with_reducible refine ldArr (.tmp 17) Tryz.ag_b16 (wn rfl) rfl rfl HP.out h17 ?_))
      have hjc := HJ.out w3 (ht.below hb ht.size)
      refine hjc.mono ?_
      rintro e w4 ⟨rfl, b4⟩
      replace h10 := h10.below b4 h10.lt
      replace h14 := h14.below b4 h14.lt
      replace hb := hb.trans (b4.mono hb.size)
      clear b4 hjc h17
      go_wp2_with (with_reducible refine stArr (cs := bcs W) (.tmp 14) (.tmp 71) Tryz.ag_b16 (wn rfl) rfl rfl rfl h14 HO.out HWL.out (bcs_one _) ?_)
      intro w5 h14 hkeep hbel
      replace h10 := hkeep _ _ _ (by omega) h10
      replace hb := hb.trans (hbel _ (by omega))
      clear hkeep hbel
      rw [← HUPN.out] at h14
      go_wp2_with fail
      go_roundw
      case rel => exact ⟨l + 1, by omega, by go_num, by have hx := HX.out; subst hx; rw [Nat.pow_succ, ← Nat.div_div_eq_div_mul]; go_num, h10, h14, hb⟩
      case measure => (simp [intOf]; try omega)
    ·obtain rfl : l = h := by omega
     have hR : upD l i r V l = rootD l i (messageD p i m) r := by
      have h1 := HV.out
      have h2 := HMD.out
      subst h1
      subst h2
      rfl
     have HR := Lib.hid hR
     have HRB := Lib.hid (show (bcs (upD l i r V l)).length = 16 by rw [bcs_length]; exact upD_len _ _ _ HV16.out _)
     clear hR
     go_wp2_with (first | (with_reducible refine ldArr (.tmp 14) Tryz.ag_b16 (wn rfl) rfl rfl HRB.out h14 ?_) | (with_reducible refine stArr (cs := bcs (upD l i r V l)) (.tmp 10) (.tmp 74) Tryz.ag_b16 (wn rfl) rfl rfl rfl h10 (zerosB_len _) HRB.out (bcs_one _) ?_))
     intro w5 h10 _ hbel
     go_wp2_with fail
     refine bodyPost_ret (v := .agg (bcs (upD l i r V l)).toArray) ?_ rfl ⟨by rw [HR.out], hb.trans (hbel _ (by omega))⟩
     exact res_cell1 _ Tryz.results91 Tryz.ag_b16 _ rfl HRB.out (fun j u hu => by rw [Nat.zero_add]; exact h10.cell hu)
theorem cat_twoSg (a b : List UInt8) : (⟨a.toArray⟩ : ByteArray) ++ ⟨b.toArray⟩ = ⟨(a ++ b).toArray⟩ := by
 apply ByteArray.ext
 simp
def GRSign (seed D : List UInt8) (i j G0 : Nat) (ix_ : Nat) (v : Value) (w : World) : Prop :=
 match ix_ with
 | 5 => v = .agg (bcs (startD seed i j)).toArray
 | 8 => v = .int .i64 ((digAt D j : Nat) : Int)
 | 9 => v = .agg (bcs (chainD seed i (digAt D j) j)).toArray
 | 10 => ∃ b, v = .pointer (some ⟨b, 0, none⟩) ∧ Arr w b 27 (zerosB 16) ∧ G0 ≤ b
 | _ => True
theorem refSign_ok (seed : List UInt8) (h i : Nat) (m : List UInt8) (w : World) (ht : TabsR w) (hs : seed.length ≤ 100000000) (hm : m.length ≤ 100000000) (hh : h ≤ 6) (hi : i < 2 ^ h) :
 Calls Tryz.prog 32 #[sv seed, .int .i64 (h : Int), .int .i64 (i : Int), sv m] w fun e w' => e = .returned (textV (signD seed h i m) 0) ∧ Below w.heap.size w w' := by
 have hcd := countD_of hh
 have hp1 := two_pow_pos h
 have hp64 := two_pow_le hh
 have HPB := Lib.hid (show publicD seed h = (valueD seed h 0, 0) by unfold publicD; rw [if_neg (by omega), Int.toNat_natCast])
 obtain ⟨M, hM⟩ : ∃ M, M = 2 ^ h := ⟨_, rfl⟩
 have HS := Lib.hid (show enc i ++ restD seed h i (messageD (valueD seed h 0) i m) = signD seed h i m from rfl)
 have hdd : (messageD (valueD seed h 0) i m).length = 16 := ofDig_len _ _
 have HMSG := Lib.hid (fun w' (h' : TabsR w') => refMessage_any (valueD seed h 0) i m w' h' (valueD_len _ _ _) (isI64_nat (n := i) (by omega)) hm)
 have HVAL := Lib.hid (fun (l x : Nat) (hl : l ≤ 6) (hx : x ≤ 64) (w' : World) (h' : TabsR w') => refValue_any seed hs l x w' h' hl (Nat.le_trans (Nat.mul_le_mul_left _ (two_pow_le hl)) (by omega)))
 rw [← hM] at hcd hp1 hp64 hi
 have HPUB := Lib.hid (fun w' (h' : TabsR w') => refPublic_any seed h w' h' hs)
 have hen := enc_len i
 have hi64 := isI64_nat (show i ≤ 1000000 by omega)
 clear hM
 unfold textV
 rw [← HS.out]
 have hg : w.heap.size ≤ w.heap.size := Nat.le_refl _
 unfold sv
 go_enter Tryz.func32, Tryz.ntmps32
 go_wp2_with fail
 have hpc := HPUB.out w ht
 refine hpc.mono ?_
 rintro e w1 ⟨rfl, hb⟩
 rw [HPB.out]
 unfold pairV
 have HL := Lib.hid (show (bcs (valueD seed h 0)).length = 16 by rw [bcs_length]; exact valueD_len _ _ _)
 clear hpc HPUB HPB
 go_wp2_with (with_reducible refine alArr (z := zerosB 16) Tryz.ag_b16 (wn rfl) rfl ?_)
 intro w2 h10 b2
 have l10 : w.heap.size ≤ w1.heap.size := hb.size
 replace hb := hb.trans (b2.mono hb.size)
 clear b2
 generalize w1.heap.size = g10 at *
 go_wp2_with (with_reducible refine stArr (cs := bcs (valueD seed h 0)) (.tmp 10) (.tmp 24) Tryz.ag_b16 (wn rfl) rfl rfl rfl h10 (zerosB_len _) HL.out (bcs_one _) ?_)
 intro w3 h10 _ hbel
 replace hb := hb.trans (hbel _ l10)
 clear hbel
 go_wp2_with fail
 refine (refCount_any h w3).mono ?_
 rintro e w4 ⟨rfl, rfl⟩
 rw [hcd]
 clear hcd
 go_wp2_with fail
 refine (refInt_any i w4 hi64.1 hi64.2).mono ?_
 rintro e w5 hret
 obtain ⟨A5, c5, rfl, _, hrd, b5⟩ := hret.open
 replace h10 := h10.below b5 h10.lt
 replace hb := hb.trans (b5.mono hb.size)
 clear hret b5
 go_wp2_with (first | (with_reducible refine convStr (.tmp 38) (enc i) Tryz.sl_u8.und Tryz.und_u8 Tryz.und_str (wn rfl) rfl rfl hrd ?_) | (with_reducible refine ldArr (.tmp 10) Tryz.ag_b16 (wn rfl) rfl rfl HL.out h10 ?_))
 have hmc := HMSG.out w5 (ht.below hb ht.size)
 refine hmc.mono ?_
 rintro e w6 ⟨rfl, b6⟩
 replace hb := hb.trans (b6.mono hb.size)
 obtain ⟨D, hD⟩ : ∃ D, D = messageD (valueD seed h 0) i m := ⟨_, rfl⟩
 rw [← hD] at hdd
 rw [← hD]
 have HMD := Lib.hid hD
 clear hmc b6 hD HMSG h10 hrd HS
 go_wp2_with fail
 refine (refDigits_any D w6 hdd).mono ?_
 rintro e w7 ⟨rfl, b7⟩
 replace hb := hb.trans (b7.mono hb.size)
 clear b7 HL
 have HDL := Lib.hid (show (ivs (digitsD D)).length = 35 by rw [ivs_len]; exact digitsD_len hdd)
 go_wp2_with (with_reducible refine alArr (z := zerosI 35) Tryz.ag_i35 (wn rfl) rfl ?_)
 intro w8 h13 b8
 have l13 : w.heap.size ≤ w7.heap.size := hb.size
 replace hb := hb.trans (b8.mono hb.size)
 clear b8
 generalize w7.heap.size = g13 at *
 go_wp2_with (with_reducible refine stArr (cs := ivs (digitsD D)) (.tmp 13) (.tmp 44) Tryz.ag_i35 (wn rfl) rfl rfl rfl h13 (zerosI_len _) HDL.out (ivs_one _) ?_)
 intro w9 h13 _ hbel
 replace hb := hb.trans (hbel _ l13)
 clear hbel
 have hso : (⟨(enc i).toArray⟩ : ByteArray) = ⟨(sgOut seed i D 0).toArray⟩ := by unfold sgOut; simp
 rw [hso]
 clear hso
 go_wp2_with fail
 go_loopw [12, 14] (fun v12 v14 wr => ∃ j : Nat, j ≤ 35 ∧ v14 = .int .i64 j ∧ v12 = .string ⟨(sgOut seed i D j).toArray⟩ ∧ Arr wr g13 99 (ivs (digitsD D)) ∧ Below w.heap.size w wr) (fun _ v14 _ => 35 - (intOf v14).toNat)
 case atStart => exact ⟨0, by omega, rfl, rfl, h13, hb⟩
 case round =>
  clear h13 hb
  obtain ⟨j, hj, rfl, rfl, h13, hb⟩ := hrel
  by_cases hlt : j < 35
  ·have HNX := Lib.hid (sgOut_next seed i D j)
   have hj64 := isI64_nat (show j ≤ 1000000 by omega)
   have HDG := Lib.hid (show (ivs (digitsD D))[0 + j * 1]? = some (.int .i64 ((digAt D j : Nat) : Int)) by rw [Nat.zero_add, Nat.mul_one]; exact digits_get D hdd j hlt)
   have HCL : Hid (∀ w', TabsR w' → Calls Tryz.prog 76 #[.int .i64 (i : Int), .int .i64 (j : Int), .agg (bcs (startD seed i j)).toArray, .int .i64 0, .int .i64 ((digAt D j : Nat) : Int)] w' fun e w'' => e = .returned (.agg (bcs (chainD seed i (digAt D j) j)).toArray) ∧ Below w'.heap.size w' w'') := Lib.hid (fun w' h => refClimb0 i j (startD seed i j) (digAt D j) w' h hi64 hj64 (startD_len _ _ _) (by have := digAt_le D j; omega))
   have HC16 := Lib.hid (chainD_len seed i (digAt D j) j)
   have HCB := Lib.hid (show (bcs (chainD seed i (digAt D j) j)).length = 16 by rw [bcs_length]; exact chainD_len _ _ _ _)
   have hol : (sgOut seed i D j).length ≤ 600 := by rw [sgOut_len]; omega
   obtain ⟨out, hout⟩ : ∃ out, out = sgOut seed i D j := ⟨_, rfl⟩
   rw [← hout] at HNX hol
   rw [← hout]
   clear hout
   go_wp2_with fail
   refine aStart kr_ ?_
   replace h13 := h13.drew
   replace hb := hb.drew
   generalize wr.drew = wd at *
   refine aTake (i := 0) (v := .int .i64 (i : Int)) rfl kr_ (wn rfl) (fun _ _ _ h => h) (fun w => by kernel_rfl) ?_
   refine aTake (i := 1) (v := .int .i64 (j : Int)) rfl kr_ (wn rfl) (fun _ _ _ h => h) (fun w => by kernel_rfl) ?_
   refine aTake (i := 2) (v := .string ⟨seed.toArray⟩) rfl kr_ (wn rfl) (fun _ _ _ h => h) (fun w => by kernel_rfl) ?_
   refine aTake (i := 3) (v := .int .i64 (i : Int)) rfl kr_ (wn rfl) (fun _ _ _ h => h) (fun w => by kernel_rfl) ?_
   refine aTake (i := 4) (v := .int .i64 (j : Int)) rfl kr_ (wn rfl) (fun _ _ _ h => h) (fun w => by kernel_rfl) ?_
   refine aTake (i := 6) (v := .int .i64 (j : Int)) rfl kr_ (wn rfl) (fun _ _ _ h => h) (fun w => by kernel_rfl) ?_
   refine aTake (i := 7) (v := .pointer (some ⟨g13, 0 + j * 1, none⟩)) rfl kr_ (wn rfl) (fun _ _ _ h => h) (fun w => iaRunSg (kk := .i64) (.tmp 13) (.tmp 55) j Tryz.arr_i35 kr_ rfl kr_ kr_ rfl hlt) ?_
   refine rgFloat [(5, 54), (8, 57), (9, 58), (10, 15)] (GRSign seed D i j wd.heap.size) _ 1 rfl kr_ ?mono ?step ?fin
   case mono =>
    intro p hp v w w' h hE
    simp only [List.mem_cons, List.not_mem_nil, or_false] at hp
    rcases hp with rfl | rfl | rfl | rfl
    ·exact h
    ·exact h
    ·exact h
    ·exact (by obtain ⟨b, e1, e2, e3⟩ := h; exact ⟨b, e1, e2.below hE e2.lt, e3⟩)
   case step =>
    intro p hp
    simp only [List.mem_cons, List.not_mem_nil, or_false] at hp
    rcases hp with rfl | rfl | rfl | rfl
    ·refine ⟨_, rfl, rfl, fun a w' hF hE hG => ?_⟩
     refine callOp 77 [.string ⟨seed.toArray⟩, .int .i64 (i : Int), .int .i64 (j : Int)] [] [] kr_ (wn rfl) rfl rfl (by show [a.eval (.tmp 51), a.eval (.tmp 52), a.eval (.tmp 53)] = _; rw [hF.eval 51 kr_, hF.eval 52 kr_, hF.eval 53 kr_]; first | done | kernel_rfl) ?_
     refine (refStart_any seed i j w' (ht.below (hb.trans (hE.mono hb.size)) ht.size) hi64 hj64 hs).mono ?_
     rintro e w2 ⟨rfl, hb2⟩
     exact ⟨_, rfl, ⟨_, rfl, hb2, rfl⟩⟩
    ·refine ⟨_, rfl, rfl, fun a w' hF hE hG => ?_⟩
     refine ldOneSg (p := ⟨g13, 0 + j * 1, none⟩) (.tmp 56) kr_ (wn rfl) rfl ((hF.eval 56 kr_).trans kr_) ((h13.below hE h13.lt).cell (i := 0 + j * 1) HDG.out) ?_
     exact ⟨_, rfl, Below.refl _ _, rfl⟩
    ·refine ⟨_, rfl, rfl, fun a w' hF hE hG => ?_⟩
     have hx54 : a.tmps.getD 54 undef = .agg (bcs (startD seed i j)).toArray := hG (5, 54) (by simp) kr_
     have hx57 : a.tmps.getD 57 undef = .int .i64 ((digAt D j : Nat) : Int) := hG (8, 57) (by simp) kr_
     refine callOp 76 [.int .i64 (i : Int), .int .i64 (j : Int), .agg (bcs (startD seed i j)).toArray, .int .i64 0, .int .i64 ((digAt D j : Nat) : Int)] [] [] kr_ (wn rfl) rfl rfl (by show [a.eval (.tmp 49), a.eval (.tmp 50), a.tmps.getD 54 undef, a.eval (.const (.int .i64 0)), a.tmps.getD 57 undef] = _; rw [hF.eval 49 kr_, hF.eval 50 kr_, hx54, hx57]; first | done | kernel_rfl) ?_
     refine (HCL.out w' (ht.below (hb.trans (hE.mono hb.size)) ht.size)).mono ?_
     rintro e w2 ⟨rfl, hb2⟩
     exact ⟨_, rfl, ⟨_, rfl, hb2, rfl⟩⟩
    ·refine ⟨_, rfl, rfl, fun a w' hF hE hG => ?_⟩
     refine alArr (z := zerosB 16) Tryz.ag_b16 (wn rfl) rfl fun w2 hA hb2 => ?_
     exact ⟨_, rfl, hb2, _, rfl, hA, hE.size⟩
   case fin =>
    intro a wf hF hE hG
    have q58 : a.tmps.getD 58 undef = .agg (bcs (chainD seed i (digAt D j) j)).toArray := hG (9, 58) (by simp)
    obtain ⟨g15, q15, h15, hg15⟩ := hG (10, 15) (by simp)
    have n13 := h13.lt
    have l15 : w.heap.size ≤ g15 := Nat.le_trans hb.size hg15
    replace h13 := h13.below hE h13.lt
    replace hb := hb.trans (hE.mono hb.size)
    rw [hF.eq]
    simp only [putsX]
    rw [q58, q15]
    generalize a.tmps.getD 54 undef = x54
    generalize a.tmps.getD 57 undef = x57
    clear hG hF q58 q15 hE
    refine aNext (i := 11) kr_ rfl ?_
    refine stArr (b := g15) (cs := bcs (chainD seed i (digAt D j) j)) (.tmp 15) (.tmp 58) Tryz.ag_b16 (wn rfl) rfl kr_ kr_ h15 (zerosB_len _) HCB.out (bcs_one _) ?_
    intro w5 h15 hkeep hbel
    replace h13 := hkeep _ _ _ (by omega) h13
    replace hb := hb.trans (hbel _ l15)
    refine aDone kr_ ?_
    simp only [Act.put, List.setIfInBounds_toArray, List.set_cons_succ, List.set_cons_zero]
    clear hkeep hbel n13 hg15
    generalize chainD seed i (digAt D j) j = CH at *
    have hcl16 : CH.length ≤ 16 := by rw [HC16.out]; exact Nat.le_refl _
    go_wp2_with (with_reducible refine ldArr (.tmp 15) Tryz.ag_b16 (wn rfl) rfl rfl HCB.out h15 ?_)
    refine (text_any CH w5 HC16.out).mono ?_
    rintro e w6 ⟨rfl, b6⟩
    unfold sv
    replace h13 := h13.below b6 h13.lt
    replace hb := hb.trans (b6.mono hb.size)
    clear b6 h15
    go_wp2_with fail
    rw [cat_twoSg, ← HNX.out]
    go_roundw
    case rel => exact ⟨j + 1, by omega, by go_num, rfl, h13, hb⟩
    case measure => (simp [intOf]; try omega)
  ·obtain rfl : j = 35 := by omega
   have hso : sgOut seed i D 35 = sgAll seed i D 0 := by unfold sgAll; simp
   rw [hso]
   clear hso hlt h13
   go_wp2_with fail
   go_loopw [12, 16, 17] (fun v12 v16 v17 wr => ∃ l : Nat, l ≤ h ∧ v17 = .int .i64 l ∧ v16 = .int .i64 ((i / 2 ^ l : Nat) : Int) ∧ v12 = .string ⟨(sgAll seed i D l).toArray⟩ ∧ Below w.heap.size w wr) (fun _ _ v17 _ => h - (intOf v17).toNat)
   case atStart => exact ⟨0, by omega, rfl, by simp, rfl, hb⟩
   case round =>
    clear hb
    obtain ⟨l, hl, rfl, rfl, rfl, hb⟩ := hrel
    by_cases hlt : l < h
    ·have HNX := Lib.hid (sgAll_next seed i D l)
     have hol : (sgAll seed i D l).length ≤ 1000 := by rw [sgAll_len]; omega
     obtain ⟨out, hout⟩ : ∃ out, out = sgAll seed i D l := ⟨_, rfl⟩
     rw [← hout] at HNX hol
     rw [← hout]
     have hn64 : i / 2 ^ l ≤ i := Nat.div_le_self _ _
     obtain ⟨x, hx⟩ : ∃ x, x = i / 2 ^ l := ⟨_, rfl⟩
     have hxo := xor_one x
     rw [← hx] at HNX hn64
     rw [← hx]
     have HX := Lib.hid hx
     clear hout hx
     by_cases hpar : x % 2 = 1
     ·rw [if_pos hpar] at hxo
      rw [hxo] at HNX
      have hpar2 : ((x : Int) % 2 == 1) = true := by simp; omega
      have HV16 := Lib.hid (valueD_len seed l (x - 1))
      have HVB := Lib.hid (show (bcs (valueD seed l (x - 1))).length = 16 by rw [bcs_length]; exact valueD_len _ _ _)
      obtain ⟨Y, hY⟩ : ∃ Y, Y = x - 1 := ⟨_, rfl⟩
      rw [← hY] at HNX HV16 HVB
      have hc : ((Y : Nat) : Int) = (x : Int) - 1 := by omega
      have HVC := Lib.hid (fun w' (h' : TabsR w') => HVAL.out l Y (by omega) (by omega) w' h')
      rw [hc] at HVC
      clear hxo hpar hY hc
      go_wp2_with fail
      have hvc := HVC.out wr (ht.below hb ht.size)
      refine hvc.mono ?_
      rintro e w1 ⟨rfl, b1⟩
      replace hb := hb.trans (b1.mono hb.size)
      clear b1 hvc
      go_wp2_with (with_reducible refine alArr (z := zerosB 16) Tryz.ag_b16 (wn rfl) rfl ?_)
      intro w2 h19 b2
      have l19 : w.heap.size ≤ w1.heap.size := hb.size
      replace hb := hb.trans (b2.mono hb.size)
      clear b2
      generalize w1.heap.size = g19 at *
      generalize valueD seed l Y = VY at *
      have hcl16 : VY.length ≤ 16 := by rw [HV16.out]; exact Nat.le_refl _
      go_wp2_with (with_reducible refine stArr (cs := bcs VY) (.tmp 19) (.tmp 79) Tryz.ag_b16 (wn rfl) rfl rfl rfl h19 (zerosB_len _) HVB.out (bcs_one _) ?_)
      intro w3 h19 _ hbel
      replace hb := hb.trans (hbel _ l19)
      clear hbel
      go_wp2_with (with_reducible refine ldArr (.tmp 19) Tryz.ag_b16 (wn rfl) rfl rfl HVB.out h19 ?_)
      refine (text_any VY w3 HV16.out).mono ?_
      rintro e w4 ⟨rfl, b4⟩
      unfold sv
      replace hb := hb.trans (b4.mono hb.size)
      clear b4 h19
      go_wp2_with fail
      rw [cat_twoSg, ← HNX.out]
      go_roundw
      case rel => ((repeat apply Exists.intro); exact ⟨⟨l + 1, by omega, by go_num, by have hx := HX.out; subst hx; rw [Nat.pow_succ, ← Nat.div_div_eq_div_mul]; go_num, rfl, hb⟩, rfl⟩)
      case measure => (simp [intOf]; try omega)
     ·rw [if_neg hpar] at hxo
      rw [hxo] at HNX
      have hpar2 : ((x : Int) % 2 == 1) = false := by simp; omega
      have HV16 := Lib.hid (valueD_len seed l (x + 1))
      have HVB := Lib.hid (show (bcs (valueD seed l (x + 1))).length = 16 by rw [bcs_length]; exact valueD_len _ _ _)
      obtain ⟨Y, hY⟩ : ∃ Y, Y = x + 1 := ⟨_, rfl⟩
      rw [← hY] at HNX HV16 HVB
      have hc : ((Y : Nat) : Int) = (x : Int) + 1 := by omega
      have HVC := Lib.hid (fun w' (h' : TabsR w') => HVAL.out l Y (by omega) (by omega) w' h')
      rw [hc] at HVC
      clear hxo hpar hY hc
      go_wp2_with fail
      have hvc := HVC.out wr (ht.below hb ht.size)
      refine hvc.mono ?_
      rintro e w1 ⟨rfl, b1⟩
      replace hb := hb.trans (b1.mono hb.size)
      clear b1 hvc
      go_wp2_with (with_reducible refine alArr (z := zerosB 16) Tryz.ag_b16 (wn rfl) rfl ?_)
      intro w2 h19 b2
      have l19 : w.heap.size ≤ w1.heap.size := hb.size
      replace hb := hb.trans (b2.mono hb.size)
      clear b2
      generalize w1.heap.size = g19 at *
      generalize valueD seed l Y = VY at *
      have hcl16 : VY.length ≤ 16 := by rw [HV16.out]; exact Nat.le_refl _
      go_wp2_with (with_reducible refine stArr (cs := bcs VY) (.tmp 19) (.tmp 79) Tryz.ag_b16 (wn rfl) rfl rfl rfl h19 (zerosB_len _) HVB.out (bcs_one _) ?_)
      intro w3 h19 _ hbel
      replace hb := hb.trans (hbel _ l19)
      clear hbel
      go_wp2_with (with_reducible refine ldArr (.tmp 19) Tryz.ag_b16 (wn rfl) rfl rfl HVB.out h19 ?_)
      refine (text_any VY w3 HV16.out).mono ?_
      rintro e w4 ⟨rfl, b4⟩
      unfold sv
      replace hb := hb.trans (b4.mono hb.size)
      clear b4 h19
      go_wp2_with fail
      rw [cat_twoSg, ← HNX.out]
      go_roundw
      case rel => ((repeat apply Exists.intro); exact ⟨⟨l + 1, by omega, by go_num, by have hx := HX.out; subst hx; rw [Nat.pow_succ, ← Nat.div_div_eq_div_mul]; go_num, rfl, hb⟩, rfl⟩)
      case measure => (simp [intOf]; try omega)
    ·obtain rfl : l = h := by omega
     have HAL := Lib.hid (sgAll_all seed l i D)
     rw [HAL.out]
     go_wp2_with fail
     have hD := HMD.out
     subst hD
     go_ret2
     exact ⟨rfl, hb⟩
theorem refSign_any (seed : List UInt8) (h i : Int) (m : List UInt8) (w : World) (ht : TabsR w) (hs : seed.length ≤ 100000000) (hm : m.length ≤ 100000000) :
 Calls Tryz.prog 32 #[sv seed, .int .i64 h, .int .i64 i, sv m] w fun e w' => e = .returned (textV (makeD seed h i m).1 (makeD seed h i m).2) ∧ Below w.heap.size w w' := by
 have hcl := countD_le h
 by_cases hc : countD h = 0
 ·have HP := Lib.hid (show makeD seed h i m = ([], 1) by unfold makeD; rw [if_pos hc])
  have HPB := Lib.hid (show publicD seed h = (List.replicate 16 0, 1) by unfold publicD; rw [if_pos hc])
  have HPUB := Lib.hid (fun w' (h' : TabsR w') => refPublic_any seed h w' h' hs)
  have HL := Lib.hid (show (bcs (List.replicate 16 0)).length = 16 by rw [bcs_length]; rfl)
  clear hc hcl
  rw [HP.out]
  generalize List.replicate 16 (0 : UInt8) = ZZ at *
  unfold textV sv
  go_enter Tryz.func32, Tryz.ntmps32
  go_wp2_with fail
  have hpc := HPUB.out w ht
  refine hpc.mono ?_
  rintro e w1 ⟨rfl, hb⟩
  rw [HPB.out]
  unfold pairV
  clear hpc
  go_wp2_with (with_reducible refine alArr (z := zerosB 16) Tryz.ag_b16 (wn rfl) rfl ?_)
  intro w2 h10 b2
  have l10 : w.heap.size ≤ w1.heap.size := hb.size
  replace hb := hb.trans (b2.mono hb.size)
  clear b2
  generalize w1.heap.size = g10 at *
  go_wp2_with (with_reducible refine stArr (cs := bcs ZZ) (.tmp 10) (.tmp 24) Tryz.ag_b16 (wn rfl) rfl rfl rfl h10 (zerosB_len _) HL.out (bcs_one _) ?_)
  intro w3 h10 _ hbel
  replace hb := hb.trans (hbel _ l10)
  clear hbel h10
  go_wp2_with fail
  go_ret2
  exact ⟨rfl, hb⟩
 ·by_cases hi : i < 0 ∨ (countD h : Int) ≤ i
  ·have HP := Lib.hid (show makeD seed h i m = ([], 23) by unfold makeD; rw [if_neg hc, if_pos hi])
   rw [HP.out]
   have HPB := Lib.hid (show publicD seed h = (valueD seed h.toNat 0, 0) by unfold publicD; rw [if_neg hc])
   have HPUB := Lib.hid (fun w' (h' : TabsR w') => refPublic_any seed h w' h' hs)
   have HC := Lib.hid (fun w' => refCount_any h w')
   have HL := Lib.hid (show (bcs (valueD seed h.toNat 0)).length = 16 by rw [bcs_length]; exact valueD_len _ _ _)
   generalize valueD seed h.toNat 0 = ZZ at *
   obtain ⟨M, hM⟩ : ∃ M, M = countD h := ⟨_, rfl⟩
   rw [← hM] at hcl hi HC
   clear hM hc
   unfold textV sv
   by_cases hi0 : i < 0
   ·clear hi
    go_enter Tryz.func32, Tryz.ntmps32
    go_wp2_with fail
    have hpc := HPUB.out w ht
    refine hpc.mono ?_
    rintro e w1 ⟨rfl, hb⟩
    rw [HPB.out]
    unfold pairV
    clear hpc
    go_wp2_with (with_reducible refine alArr (z := zerosB 16) Tryz.ag_b16 (wn rfl) rfl ?_)
    intro w2 h10 b2
    have l10 : w.heap.size ≤ w1.heap.size := hb.size
    replace hb := hb.trans (b2.mono hb.size)
    clear b2
    generalize w1.heap.size = g10 at *
    go_wp2_with (with_reducible refine stArr (cs := bcs ZZ) (.tmp 10) (.tmp 24) Tryz.ag_b16 (wn rfl) rfl rfl rfl h10 (zerosB_len _) HL.out (bcs_one _) ?_)
    intro w3 h10 _ hbel
    replace hb := hb.trans (hbel _ l10)
    clear hbel h10
    go_wp2_with fail
    go_ret2
    exact ⟨rfl, hb⟩
   ·have hi1 : (M : Int) ≤ i := by omega
    clear hi
    go_enter Tryz.func32, Tryz.ntmps32
    go_wp2_with fail
    have hpc := HPUB.out w ht
    refine hpc.mono ?_
    rintro e w1 ⟨rfl, hb⟩
    rw [HPB.out]
    unfold pairV
    clear hpc
    go_wp2_with (with_reducible refine alArr (z := zerosB 16) Tryz.ag_b16 (wn rfl) rfl ?_)
    intro w2 h10 b2
    have l10 : w.heap.size ≤ w1.heap.size := hb.size
    replace hb := hb.trans (b2.mono hb.size)
    clear b2
    generalize w1.heap.size = g10 at *
    go_wp2_with (with_reducible refine stArr (cs := bcs ZZ) (.tmp 10) (.tmp 24) Tryz.ag_b16 (wn rfl) rfl rfl rfl h10 (zerosB_len _) HL.out (bcs_one _) ?_)
    intro w3 h10 _ hbel
    replace hb := hb.trans (hbel _ l10)
    clear hbel h10
    go_wp2_with fail
    refine (HC.out w3).mono ?_
    rintro e w4 ⟨rfl, rfl⟩
    go_wp2_with fail
    go_ret2
    exact ⟨rfl, hb⟩
  ·obtain ⟨h0, h6⟩ := countD_pos (h := h) (i := i) (by omega) (by omega)
   obtain ⟨k, rfl⟩ : ∃ k : Nat, h = (k : Int) := ⟨h.toNat, by omega⟩
   obtain ⟨n, rfl⟩ : ∃ n : Nat, i = (n : Int) := ⟨i.toNat, by omega⟩
   have e : makeD seed (k : Int) (n : Int) m = (signD seed k n m, 0) := by unfold makeD; rw [if_neg hc, if_neg hi, Int.toNat_natCast, Int.toNat_natCast]
   rw [e]
   have hcd := countD_of (h := k) (by omega)
   exact refSign_ok seed k n m w ht hs hm (by omega) (by omega)
theorem refVerify_e (p : List UInt8) (h x u er : Int) (S : Nat) (m sig : List UInt8) (w : World) (hl : sig.length ≤ 1000000) (hc : countD h ≠ 0) (hx : isI64 x) (hd : dec sig = (x, u, er)) (hS : sizeD h x = S) (her : er = 5 ∨ er = 6) :
 Calls Tryz.prog 38 #[.agg (bcs p).toArray, .int .i64 h, sv m, sv sig] w fun e w' => e = .returned (.tuple #[.int .i64 0, .int .i64 er]) ∧ Below w.heap.size w w' := by
 have hcl := countD_le h
 have hcp : 0 < countD h := by omega
 have HC := Lib.hid (fun w' => refCount_any h w')
 have HZ := Lib.hid (fun w' => refSize_any h x w')
 have HD := Lib.hid hd
 have HSZ := Lib.hid hS
 have hsle := sizeD_le h x
 rw [hS] at hsle
 obtain ⟨hx1, hx2⟩ := hx
 clear hc hd hS
 unfold sv
 obtain ⟨M, hM⟩ : ∃ M, M = countD h := ⟨_, rfl⟩
 have her1 : 5 ≤ er := by omega
 have her2 : er ≤ 6 := by omega
 clear her
 rw [← hM] at hcl hcp HC
 clear hM
 go_enter Tryz.func38, Tryz.ntmps38
 go_wp2_with (with_reducible refine bxArr (cs := bcs p) (.tmp 0) (wn rfl) rfl rfl ?_)
 intro w1 h4 hb
 go_wp2_with fail
 refine (HC.out w1).mono ?_
 rintro e w3 ⟨rfl, rfl⟩
 go_wp2_with (with_reducible refine convBs (.tmp 17) sig Tryz.und_str Tryz.sl_u8.und Tryz.und_u8 (wn rfl) rfl rfl (by omega) ?_)
 intro A5 c5 w5 hrd b5
 replace h4 := h4.below b5 h4.lt
 replace hb := hb.trans (b5.mono hb.size)
 clear b5
 go_wp2_with fail
 refine (refGetInt_any sig A5 _ c5 _ w5 hrd).mono ?_
 rintro e w6 ⟨rfl, rfl⟩
 rw [HD.out]
 clear hrd
 go_wp2_with fail
 go_ret2
 exact ⟨rfl, hb⟩
theorem refVerify_s1 (p : List UInt8) (h x u er : Int) (S : Nat) (m sig : List UInt8) (w : World) (hl : sig.length ≤ 1000000) (hc : countD h ≠ 0) (hx : isI64 x) (hd : dec sig = (x, u, er)) (hS : sizeD h x = S) (her : er = 0) (hz : x < 0) :
 Calls Tryz.prog 38 #[.agg (bcs p).toArray, .int .i64 h, sv m, sv sig] w fun e w' => e = .returned (.tuple #[.int .i64 0, .int .i64 8]) ∧ Below w.heap.size w w' := by
 have hcl := countD_le h
 have hcp : 0 < countD h := by omega
 have HC := Lib.hid (fun w' => refCount_any h w')
 have HZ := Lib.hid (fun w' => refSize_any h x w')
 have HD := Lib.hid hd
 have HSZ := Lib.hid hS
 have hsle := sizeD_le h x
 rw [hS] at hsle
 obtain ⟨hx1, hx2⟩ := hx
 clear hc hd hS
 unfold sv
 obtain ⟨M, hM⟩ : ∃ M, M = countD h := ⟨_, rfl⟩
 subst her
 rw [← hM] at hcl hcp HC
 clear hM
 go_enter Tryz.func38, Tryz.ntmps38
 go_wp2_with (with_reducible refine bxArr (cs := bcs p) (.tmp 0) (wn rfl) rfl rfl ?_)
 intro w1 h4 hb
 go_wp2_with fail
 refine (HC.out w1).mono ?_
 rintro e w3 ⟨rfl, rfl⟩
 go_wp2_with (with_reducible refine convBs (.tmp 17) sig Tryz.und_str Tryz.sl_u8.und Tryz.und_u8 (wn rfl) rfl rfl (by omega) ?_)
 intro A5 c5 w5 hrd b5
 replace h4 := h4.below b5 h4.lt
 replace hb := hb.trans (b5.mono hb.size)
 clear b5
 go_wp2_with fail
 refine (refGetInt_any sig A5 _ c5 _ w5 hrd).mono ?_
 rintro e w6 ⟨rfl, rfl⟩
 rw [HD.out]
 clear hrd
 go_wp2_with fail
 go_ret2
 exact ⟨rfl, hb⟩
theorem refVerify_s2 (p : List UInt8) (h x u er : Int) (S : Nat) (m sig : List UInt8) (w : World) (hl : sig.length ≤ 1000000) (hc : countD h ≠ 0) (hx : isI64 x) (hd : dec sig = (x, u, er)) (hS : sizeD h x = S) (her : er = 0) (hz0 : 0 ≤ x) (hz : (countD h : Int) ≤ x) :
 Calls Tryz.prog 38 #[.agg (bcs p).toArray, .int .i64 h, sv m, sv sig] w fun e w' => e = .returned (.tuple #[.int .i64 0, .int .i64 8]) ∧ Below w.heap.size w w' := by
 have hcl := countD_le h
 have hcp : 0 < countD h := by omega
 have HC := Lib.hid (fun w' => refCount_any h w')
 have HZ := Lib.hid (fun w' => refSize_any h x w')
 have HD := Lib.hid hd
 have HSZ := Lib.hid hS
 have hsle := sizeD_le h x
 rw [hS] at hsle
 obtain ⟨hx1, hx2⟩ := hx
 clear hc hd hS
 unfold sv
 obtain ⟨M, hM⟩ : ∃ M, M = countD h := ⟨_, rfl⟩
 subst her
 rw [← hM] at hz
 rw [← hM] at hcl hcp HC
 clear hM
 go_enter Tryz.func38, Tryz.ntmps38
 go_wp2_with (with_reducible refine bxArr (cs := bcs p) (.tmp 0) (wn rfl) rfl rfl ?_)
 intro w1 h4 hb
 go_wp2_with fail
 refine (HC.out w1).mono ?_
 rintro e w3 ⟨rfl, rfl⟩
 go_wp2_with (with_reducible refine convBs (.tmp 17) sig Tryz.und_str Tryz.sl_u8.und Tryz.und_u8 (wn rfl) rfl rfl (by omega) ?_)
 intro A5 c5 w5 hrd b5
 replace h4 := h4.below b5 h4.lt
 replace hb := hb.trans (b5.mono hb.size)
 clear b5
 go_wp2_with fail
 refine (refGetInt_any sig A5 _ c5 _ w5 hrd).mono ?_
 rintro e w6 ⟨rfl, rfl⟩
 rw [HD.out]
 clear hrd
 go_wp2_with fail
 refine (HC.out w5).mono ?_
 rintro e w7 ⟨rfl, rfl⟩
 go_wp2_with fail
 go_ret2
 exact ⟨rfl, hb⟩
theorem refVerify_t (p : List UInt8) (h x u er : Int) (S : Nat) (m sig : List UInt8) (w : World) (hl : sig.length ≤ 1000000) (hc : countD h ≠ 0) (hx : isI64 x) (hd : dec sig = (x, u, er)) (hS : sizeD h x = S) (her : er = 0) (hz0 : 0 ≤ x) (hz : x < (countD h : Int)) (hlt : sig.length < S) :
 Calls Tryz.prog 38 #[.agg (bcs p).toArray, .int .i64 h, sv m, sv sig] w fun e w' => e = .returned (.tuple #[.int .i64 0, .int .i64 5]) ∧ Below w.heap.size w w' := by
 have hcl := countD_le h
 have hcp : 0 < countD h := by omega
 have HC := Lib.hid (fun w' => refCount_any h w')
 have HZ := Lib.hid (fun w' => refSize_any h x w')
 have HD := Lib.hid hd
 have HSZ := Lib.hid hS
 have hsle := sizeD_le h x
 rw [hS] at hsle
 obtain ⟨hx1, hx2⟩ := hx
 clear hc hd hS
 unfold sv
 obtain ⟨M, hM⟩ : ∃ M, M = countD h := ⟨_, rfl⟩
 subst her
 rw [← hM] at hz
 rw [← hM] at hcl hcp HC
 clear hM
 go_enter Tryz.func38, Tryz.ntmps38
 go_wp2_with (with_reducible refine bxArr (cs := bcs p) (.tmp 0) (wn rfl) rfl rfl ?_)
 intro w1 h4 hb
 go_wp2_with fail
 refine (HC.out w1).mono ?_
 rintro e w3 ⟨rfl, rfl⟩
 go_wp2_with (with_reducible refine convBs (.tmp 17) sig Tryz.und_str Tryz.sl_u8.und Tryz.und_u8 (wn rfl) rfl rfl (by omega) ?_)
 intro A5 c5 w5 hrd b5
 replace h4 := h4.below b5 h4.lt
 replace hb := hb.trans (b5.mono hb.size)
 clear b5
 go_wp2_with fail
 refine (refGetInt_any sig A5 _ c5 _ w5 hrd).mono ?_
 rintro e w6 ⟨rfl, rfl⟩
 rw [HD.out]
 clear hrd
 go_wp2_with fail
 refine (HC.out w5).mono ?_
 rintro e w7 ⟨rfl, rfl⟩
 go_wp2_with fail
 refine (HZ.out w7).mono ?_
 rintro e w8 ⟨rfl, b8⟩
 rw [HSZ.out]
 replace hb := hb.trans (b8.mono hb.size)
 clear b8
 go_wp2_with fail
 go_ret2
 exact ⟨rfl, hb⟩
theorem refVerify_m (p : List UInt8) (h x u er : Int) (S : Nat) (m sig : List UInt8) (w : World) (hl : sig.length ≤ 1000000) (hc : countD h ≠ 0) (hx : isI64 x) (hd : dec sig = (x, u, er)) (hS : sizeD h x = S) (her : er = 0) (hz0 : 0 ≤ x) (hz : x < (countD h : Int)) (hlt : S < sig.length) :
 Calls Tryz.prog 38 #[.agg (bcs p).toArray, .int .i64 h, sv m, sv sig] w fun e w' => e = .returned (.tuple #[.int .i64 0, .int .i64 6]) ∧ Below w.heap.size w w' := by
 have hcl := countD_le h
 have hcp : 0 < countD h := by omega
 have HC := Lib.hid (fun w' => refCount_any h w')
 have HZ := Lib.hid (fun w' => refSize_any h x w')
 have HD := Lib.hid hd
 have HSZ := Lib.hid hS
 have hsle := sizeD_le h x
 rw [hS] at hsle
 obtain ⟨hx1, hx2⟩ := hx
 clear hc hd hS
 unfold sv
 obtain ⟨M, hM⟩ : ∃ M, M = countD h := ⟨_, rfl⟩
 subst her
 rw [← hM] at hz
 rw [← hM] at hcl hcp HC
 clear hM
 go_enter Tryz.func38, Tryz.ntmps38
 go_wp2_with (with_reducible refine bxArr (cs := bcs p) (.tmp 0) (wn rfl) rfl rfl ?_)
 intro w1 h4 hb
 go_wp2_with fail
 refine (HC.out w1).mono ?_
 rintro e w3 ⟨rfl, rfl⟩
 go_wp2_with (with_reducible refine convBs (.tmp 17) sig Tryz.und_str Tryz.sl_u8.und Tryz.und_u8 (wn rfl) rfl rfl (by omega) ?_)
 intro A5 c5 w5 hrd b5
 replace h4 := h4.below b5 h4.lt
 replace hb := hb.trans (b5.mono hb.size)
 clear b5
 go_wp2_with fail
 refine (refGetInt_any sig A5 _ c5 _ w5 hrd).mono ?_
 rintro e w6 ⟨rfl, rfl⟩
 rw [HD.out]
 clear hrd
 go_wp2_with fail
 refine (HC.out w5).mono ?_
 rintro e w7 ⟨rfl, rfl⟩
 go_wp2_with fail
 refine (HZ.out w7).mono ?_
 rintro e w8 ⟨rfl, b8⟩
 rw [HSZ.out]
 replace hb := hb.trans (b8.mono hb.size)
 clear b8
 go_wp2_with fail
 refine (HZ.out w8).mono ?_
 rintro e w9 ⟨rfl, b8⟩
 rw [HSZ.out]
 replace hb := hb.trans (b8.mono hb.size)
 clear b8
 go_wp2_with fail
 go_ret2
 exact ⟨rfl, hb⟩
theorem refVerify_c (p : List UInt8) (h : Int) (m sig : List UInt8) (w : World) (hc : countD h = 0) :
 Calls Tryz.prog 38 #[.agg (bcs p).toArray, .int .i64 h, sv m, sv sig] w fun e w' => e = .returned (.tuple #[.int .i64 0, .int .i64 1]) ∧ Below w.heap.size w w' := by
 have HCC := Lib.hid hc
 have HC := Lib.hid (fun w' => refCount_any h w')
 clear hc
 unfold sv
 go_enter Tryz.func38, Tryz.ntmps38
 go_wp2_with (with_reducible refine bxArr (cs := bcs p) (.tmp 0) (wn rfl) rfl rfl ?_)
 intro w1 h4 hb
 go_wp2_with fail
 refine (HC.out w1).mono ?_
 rintro e w3 ⟨rfl, rfl⟩
 rw [HCC.out]
 go_wp2_with fail
 go_ret2
 exact ⟨rfl, hb⟩
def GRVer (p R : List UInt8) (ix_ : Nat) (v : Value) (_w : World) : Prop :=
 match ix_ with
 | 0 => v = .agg (bcs p).toArray
 | 7 => v = .agg (bcs R).toArray
 | 8 => v = .agg (bcs p).toArray
 | _ => True
theorem refVerify_ok (p : List UInt8) (h i U : Nat) (m sig : List UInt8) (w : World) (ht : TabsR w) (hp : p.length = 16) (hm : m.length ≤ 100000000) (hh : h ≤ 6) (hi : i < 2 ^ h) (hd : dec sig = ((i : Int), (U : Int), 0)) (hU : U = (enc i).length) (hl : sig.length = U + 16 * (35 + h)) :
 Calls Tryz.prog 38 #[.agg (bcs p).toArray, .int .i64 (h : Int), sv m, sv sig] w fun e w' => e = .returned (verV i (rootD h i (messageD p i m) (sig.drop U)) p) ∧ Below w.heap.size w w' := by
 have hcd := countD_of hh
 have hp1 := two_pow_pos h
 have hp64 := two_pow_le hh
 have hen := enc_len i
 have hsz : sizeD h i = sig.length := by rw [sizeD_of hh hi, ← hU, hl]
 have hsl : sig.length ≤ 700 := by omega
 have hU10 : U ≤ sig.length := by omega
 have HPL := Lib.hid (show (bcs p).length = 16 by rw [bcs_length]; exact hp)
 have HP16 := Lib.hid hp
 have HROOT := Lib.hid (fun w' (h' : TabsR w') => refRoot_any p h i m (sig.drop U) w' h' hp hm hh (by omega) (by rw [List.length_drop]; omega) (by rw [List.length_drop]; omega))
 have HRL := Lib.hid (show (rootD h i (messageD p i m) (sig.drop U)).length = 16 from upD_len _ _ _ (ofDig_len _ _) _)
 obtain ⟨R, hR⟩ : ∃ R, R = rootD h i (messageD p i m) (sig.drop U) := ⟨_, rfl⟩
 rw [← hR] at HRL HROOT
 rw [← hR]
 obtain ⟨M, hM⟩ : ∃ M, M = 2 ^ h := ⟨_, rfl⟩
 rw [← hM] at hcd hp1 hp64 hi
 have HC := Lib.hid (fun w' => refCount_any h w')
 rw [hcd] at HC
 have HZ := Lib.hid (fun w' => refSize_any h i w')
 rw [hsz] at HZ
 have HD := Lib.hid hd
 clear hM hd hsz hU hl hR hcd
 unfold sv
 go_enter Tryz.func38, Tryz.ntmps38
 go_wp2_with (with_reducible refine bxArr (cs := bcs p) (.tmp 0) (wn rfl) rfl rfl ?_)
 intro w1 h4 hb
 go_wp2_with fail
 refine (HC.out w1).mono ?_
 rintro e w3 ⟨rfl, rfl⟩
 go_wp2_with (with_reducible refine convBs (.tmp 17) sig Tryz.und_str Tryz.sl_u8.und Tryz.und_u8 (wn rfl) rfl rfl (by omega) ?_)
 intro A5 c5 w5 hrd b5
 replace h4 := h4.below b5 h4.lt
 replace hb := hb.trans (b5.mono hb.size)
 clear b5
 go_wp2_with fail
 refine (refGetInt_any sig A5 _ c5 _ w5 hrd).mono ?_
 rintro e w6 ⟨rfl, rfl⟩
 rw [HD.out]
 clear hrd
 go_wp2_with fail
 refine (HC.out w5).mono ?_
 rintro e w7 ⟨rfl, rfl⟩
 go_wp2_with fail
 refine (HZ.out w7).mono ?_
 rintro e w8 ⟨rfl, b8⟩
 replace h4 := h4.below b8 h4.lt
 replace hb := hb.trans (b8.mono hb.size)
 clear b8
 go_wp2_with fail
 refine (HZ.out w8).mono ?_
 rintro e w9 ⟨rfl, b8⟩
 replace h4 := h4.below b8 h4.lt
 replace hb := hb.trans (b8.mono hb.size)
 clear b8
 go_wp2_with fail
 refine aStart kr_ ?_
 replace h4 := h4.drew
 replace hb := hb.drew
 generalize w9.drew = wd at *
 refine aTake (i := 1) (v := .int .i64 (h : Int)) rfl kr_ (wn rfl) (fun _ _ _ h => h) (fun w => by kernel_rfl) ?_
 refine aTake (i := 2) (v := .int .i64 (i : Int)) rfl kr_ (wn rfl) (fun _ _ _ h => h) (fun w => by kernel_rfl) ?_
 refine aTake (i := 3) (v := .string ⟨m.toArray⟩) rfl kr_ (wn rfl) (fun _ _ _ h => h) (fun w => by kernel_rfl) ?_
 refine aTake (i := 4) (v := .string ⟨sig.toArray⟩) rfl kr_ (wn rfl) (fun _ _ _ h => h) (fun w => by kernel_rfl) ?_
 refine aTake (i := 5) (v := .int .i64 (U : Int)) rfl kr_ (wn rfl) (fun _ _ _ h => h) (fun w => by kernel_rfl) ?_
 refine aTake (i := 6) (v := .string ⟨(sig.drop U).toArray⟩) rfl kr_ (wn rfl) (fun _ _ _ h => h) (fun w => slStrLRun (kl := .i64) (L := (U : Int)) (.tmp 50) (.tmp 51) sig U rfl kr_ kr_ rfl (by omega) Tryz.und_str) ?_
 refine rgFloat [(0, 46), (7, 53), (8, 54)] (GRVer p R) _ 1 rfl kr_ ?mono ?step ?fin
 case mono =>
  intro p hp v w w' h hE
  simp only [List.mem_cons, List.not_mem_nil, or_false] at hp
  rcases hp with rfl | rfl | rfl
  ·exact h
  ·exact h
  ·exact h
 case step =>
  intro p hp
  simp only [List.mem_cons, List.not_mem_nil, or_false] at hp
  rcases hp with rfl | rfl | rfl
  ·refine ⟨_, rfl, rfl, fun a w' hF hE hG => ?_⟩
   refine ldArr (b := w.heap.size) (.tmp 4) Tryz.ag_b16 (wn rfl) rfl ((hF.eval 4 kr_).trans kr_) HPL.out (h4.below hE h4.lt) ?_
   exact ⟨_, rfl, Below.refl _ _, rfl⟩
  ·refine ⟨_, rfl, rfl, fun a w' hF hE hG => ?_⟩
   have hx46 : a.tmps.getD 46 undef = .agg (bcs p).toArray := hG (0, 46) (by simp) kr_
   refine callOp 91 [.agg (bcs p).toArray, .int .i64 (h : Int), .int .i64 (i : Int), .string ⟨m.toArray⟩, .string ⟨(sig.drop U).toArray⟩] [] [] kr_ (wn rfl) rfl rfl (by show [a.tmps.getD 46 undef, a.eval (.tmp 47), a.eval (.tmp 48), a.eval (.tmp 49), a.eval (.tmp 52)] = _; rw [hx46, hF.eval 47 kr_, hF.eval 48 kr_, hF.eval 49 kr_, hF.eval 52 kr_]; first | done | kernel_rfl) ?_
   refine (HROOT.out w' (ht.below (hb.trans (hE.mono hb.size)) ht.size)).mono ?_
   rintro e w2 ⟨rfl, hb2⟩
   exact ⟨_, rfl, ⟨_, rfl, hb2, rfl⟩⟩
  ·refine ⟨_, rfl, rfl, fun a w' hF hE hG => ?_⟩
   refine ldArr (b := w.heap.size) (.tmp 4) Tryz.ag_b16 (wn rfl) rfl ((hF.eval 4 kr_).trans kr_) HPL.out (h4.below hE h4.lt) ?_
   exact ⟨_, rfl, Below.refl _ _, rfl⟩
 case fin =>
  intro a wf hF hE hG
  have q53 : a.tmps.getD 53 undef = .agg (bcs R).toArray := hG (7, 53) (by simp)
  have q54 : a.tmps.getD 54 undef = .agg (bcs p).toArray := hG (8, 54) (by simp)
  replace hb := hb.trans (hE.mono hb.size)
  rw [hF.eq]
  simp only [putsX]
  rw [q53, q54]
  generalize a.tmps.getD 46 undef = x46
  clear hG hF q53 q54 hE h4
  by_cases heq : R = p
  ·have hbq : (!(R == p)) = false := by simp [heq]
   have HBQ := Lib.hid hbq
   have HEQ := Lib.hid heq
   clear hbq heq
   refine aNext (i := 9) kr_ rfl ?_
   refine neqBytes (.tmp 53) (.tmp 54) R p false Tryz.arr_b16 Tryz.und_u8 Tryz.one_u8 kr_ (wn rfl) rfl kr_ kr_ HRL.out HP16.out HBQ.out ?_
   refine aDone kr_ ?_
   simp only [Act.put, List.setIfInBounds_toArray, List.set_cons_succ, List.set_cons_zero]
   go_wp2_with fail
   go_ret2
   refine ⟨?_, hb⟩
   unfold verV
   rw [if_pos HEQ.out, if_pos HEQ.out]
   rfl
  ·have hbq : (!(R == p)) = true := by simp [heq]
   have HBQ := Lib.hid hbq
   have HEQ := Lib.hid heq
   clear hbq heq
   refine aNext (i := 9) kr_ rfl ?_
   refine neqBytes (.tmp 53) (.tmp 54) R p true Tryz.arr_b16 Tryz.und_u8 Tryz.one_u8 kr_ (wn rfl) rfl kr_ kr_ HRL.out HP16.out HBQ.out ?_
   refine aDone kr_ ?_
   simp only [Act.put, List.setIfInBounds_toArray, List.set_cons_succ, List.set_cons_zero]
   go_wp2_with fail
   go_ret2
   refine ⟨?_, hb⟩
   unfold verV
   rw [if_neg HEQ.out, if_neg HEQ.out]
   rfl
theorem refVerify_any (p : List UInt8) (h : Int) (m sig : List UInt8) (w : World) (ht : TabsR w) (hp : p.length = 16) (hm : m.length ≤ 100000000) (hl : sig.length ≤ 1000000) :
 Calls Tryz.prog 38 #[.agg (bcs p).toArray, .int .i64 h, sv m, sv sig] w fun e w' => e = .returned (verifyV p h m sig) ∧ Below w.heap.size w w' := by
 by_cases hc : countD h = 0
 ·have e : verifyD p h m sig = (0, 1) := by unfold verifyD; rw [if_pos hc]
  unfold verifyV
  rw [e]
  exact refVerify_c p h m sig w hc
 ·obtain ⟨x, u, er, hd⟩ : ∃ x u er, dec sig = (x, u, er) := ⟨_, _, _, rfl⟩
  have hf := dec_facts hd
  have hx : isI64 x := by
   rcases hf with ⟨_, _, _, _, h5⟩ | ⟨rfl, _, _⟩
   ·exact h5
   ·unfold isI64; omega
  by_cases he : er = 0
  ·subst he
   by_cases hz : sizeD h x = 0
   ·have e : verifyD p h m sig = (0, 8) := by unfold verifyD; rw [if_neg hc, hd]; simp [hz]
    unfold verifyV
    rw [e]
    by_cases hx0 : x < 0
    ·exact refVerify_s1 p h x u 0 _ m sig w hl hc hx hd rfl rfl hx0
    ·refine refVerify_s2 p h x u 0 _ m sig w hl hc hx hd rfl rfl (by omega) ?_
     unfold sizeD at hz
     split at hz
     ·omega
     ·omega
   ·have hr : 0 ≤ x ∧ x < (countD h : Int) := by
     unfold sizeD at hz
     split at hz
     ·omega
     ·omega
    by_cases hlt : sig.length < sizeD h x
    ·have e : verifyD p h m sig = (0, 5) := by unfold verifyD; rw [if_neg hc, hd]; simp [hz, hlt]
     unfold verifyV
     rw [e]
     exact refVerify_t p h x u 0 _ m sig w hl hc hx hd rfl rfl hr.1 hr.2 hlt
    ·by_cases hgt : sizeD h x < sig.length
     ·have e : verifyD p h m sig = (0, 6) := by unfold verifyD; rw [if_neg hc, hd]; simp [hz, hlt, hgt]
      unfold verifyV
      rw [e]
      exact refVerify_m p h x u 0 _ m sig w hl hc hx hd rfl rfl hr.1 hr.2 hgt
     ·obtain ⟨h0, h6⟩ := countD_pos hr.1 hr.2
      obtain ⟨k, rfl⟩ : ∃ k : Nat, h = (k : Int) := ⟨h.toNat, by omega⟩
      obtain ⟨i, rfl⟩ : ∃ i : Nat, x = (i : Int) := ⟨x.toNat, by omega⟩
      obtain ⟨U, rfl⟩ : ∃ U : Nat, u = (U : Int) := ⟨u.toNat, by rcases hf with h1 | h1 <;> omega⟩
      have hk : k ≤ 6 := by omega
      have hcd := countD_of hk
      have hi : i < 2 ^ k := by omega
      have hU := dec_len hd
      have hss := sizeD_of hk hi
      have e : verifyV p k m sig = verV i (rootD k i (messageD p i m) (sig.drop U)) p := by
       unfold verifyV verV verifyD
       rw [if_neg hc, hd]
       simp only [ne_eq, not_true_eq_false, if_false, hz, hlt, hgt, Int.toNat_natCast]
       split <;> rfl
      rw [e]
      exact refVerify_ok p k i U m sig w ht hp hm hk hi hd hU (by omega)
  ·have e : verifyD p h m sig = (0, er) := by unfold verifyD; rw [if_neg hc, hd]; simp [he]
   unfold verifyV
   rw [e]
   exact refVerify_e p h x u er _ m sig w hl hc hx hd rfl (by rcases hf with h1 | h1 <;> omega)
end Go.Proofs.YtgjgjimgomhbmaaGreatDoor
namespace Go.Proofs.YtgjgjimgomhbmaaGreatDoor
def sgV (seed : List UInt8) (hh ii : Int) (x : Hd) : List UInt8 × Int :=
 if ckH x ≠ 0 then ([], ckH x) else
 if (makeD seed hh ii (encH x)).2 ≠ 0 then ([], (makeD seed hh ii (encH x)).2) else (encS (encH x) ++ (makeD seed hh ii (encH x)).1, 0)
def vfV (p : List UInt8) (hh : Int) (t : List UInt8) : Hd × Int × Int :=
 if (decS t).2.2 ≠ 0 then (hd0, 0, (decS t).2.2) else
 if (decH (decS t).1).2 ≠ 0 then (hd0, 0, (decH (decS t).1).2) else
 if (verifyD p hh (decS t).1 (t.drop (decS t).2.1.toNat)).2 ≠ 0 then (hd0, 0, (verifyD p hh (decS t).1 (t.drop (decS t).2.1.toNat)).2) else
 ((decH (decS t).1).1, (verifyD p hh (decS t).1 (t.drop (decS t).2.1.toNat)).1, 0)
section
variable {seed : List UInt8} {hh ii : Int} {x : Hd} {p t : List UInt8}
theorem sgV_ck (h1 : ¬ ckH x = 0) : sgV seed hh ii x = ([], ckH x) := if_pos h1
theorem sgV_e (h1 : ckH x = 0) (h2 : ¬ (makeD seed hh ii (encH x)).2 = 0) : sgV seed hh ii x = ([], (makeD seed hh ii (encH x)).2) := (if_neg (fun h => h h1)).trans (if_pos h2)
theorem sgV_ok (h1 : ckH x = 0) (h2 : (makeD seed hh ii (encH x)).2 = 0) : sgV seed hh ii x = (encS (encH x) ++ (makeD seed hh ii (encH x)).1, 0) := (if_neg (fun h => h h1)).trans (if_neg (fun h => h h2))
theorem vfV_a (h1 : ¬ (decS t).2.2 = 0) : vfV p hh t = (hd0, 0, (decS t).2.2) := if_pos h1
theorem vfV_b (h1 : (decS t).2.2 = 0) (h2 : ¬ (decH (decS t).1).2 = 0) : vfV p hh t = (hd0, 0, (decH (decS t).1).2) := (if_neg (fun h => h h1)).trans (if_pos h2)
theorem vfV_c (h1 : (decS t).2.2 = 0) (h2 : (decH (decS t).1).2 = 0) (h3 : ¬ (verifyD p hh (decS t).1 (t.drop (decS t).2.1.toNat)).2 = 0) : vfV p hh t = (hd0, 0, (verifyD p hh (decS t).1 (t.drop (decS t).2.1.toNat)).2) := (if_neg (fun h => h h1)).trans ((if_neg (fun h => h h2)).trans (if_pos h3))
theorem vfV_ok (h1 : (decS t).2.2 = 0) (h2 : (decH (decS t).1).2 = 0) (h3 : (verifyD p hh (decS t).1 (t.drop (decS t).2.1.toNat)).2 = 0) : vfV p hh t = ((decH (decS t).1).1, (verifyD p hh (decS t).1 (t.drop (decS t).2.1.toNat)).1, 0) := (if_neg (fun h => h h1)).trans ((if_neg (fun h => h h2)).trans (if_neg (fun h => h h3)))
end
theorem decSf (t : List UInt8) : ((decS t).2.2 = 0 → 0 ≤ (decS t).2.1 ∧ (decS t).2.1 ≤ (t.length : Int)) ∧ (decS t).1.length ≤ t.length := by
 obtain ⟨a, b, e, hd⟩ : ∃ a b e, lenDec t 1 = (a, b, e) := ⟨_, _, _, rfl⟩
 have hf := lenDec_facts (by omega) hd
 unfold decS
 rw [hd]
 by_cases he : e ≠ 0
 ·rw [if_pos he]
  exact ⟨fun h => absurd h he, Nat.zero_le _⟩
 ·rw [if_neg he]
  rcases hf with ⟨_, f2, f3, f4, f5, f6, f7⟩ | ⟨_, _, f3⟩
  ·refine ⟨fun _ => ⟨by show 0 ≤ b + a; omega, by show b + a ≤ _; omega⟩, ?_⟩
   show ((t.drop b.toNat).take a.toNat).length ≤ _
   rw [List.length_take, List.length_drop]; omega
  ·omega
theorem makeD_le (seed : List UInt8) (hh ii : Int) (m : List UInt8) : (makeD seed hh ii m).1.length ≤ 1000 := by
 unfold makeD
 split
 ·simp
 ·rename_i hc
  split
  ·simp
  ·rename_i hi
   have hh2 : 0 ≤ hh ∧ hh ≤ 6 := by
    unfold countD at hc
    split at hc
    ·exact absurd rfl hc
    ·omega
   obtain ⟨h, rfl⟩ := Int.eq_ofNat_of_zero_le hh2.1
   obtain ⟨i, rfl⟩ := Int.eq_ofNat_of_zero_le (show 0 ≤ ii by omega)
   have hh6 : h ≤ 6 := by omega
   have hi2 : i < 2 ^ h := by rw [countD_of hh6] at hi; omega
   show (signD seed h i m).length ≤ 1000
   rw [signD_len seed m hh6 hi2, sizeD_of hh6 hi2]
   have := enc_le (i : Int)
   omega
end Go.Proofs.YtgjgjimgomhbmaaGreatDoor
namespace Go.Proofs.YtgjgjimgomhbmaaGreatDoor
open Go.RowKit
theorem good_le {h : Hd} (g : h.Good) : h.counts.length ≤ 20 ∧ h.rn ≤ 20 := by
 have := g.2.2
 omega
theorem decH_small (l : List UInt8) : (decH l).1.counts.length ≤ 20 ∧ (decH l).1.rn ≤ 20 := by
 have h0 : hd0.counts.length ≤ 20 ∧ hd0.rn ≤ 20 := by decide
 have key : ∀ h : Hd, (if ckH h ≠ 0 then (hd0, ckH h) else (h, 0)).1.counts.length ≤ 20 ∧ (if ckH h ≠ 0 then (hd0, ckH h) else (h, 0)).1.rn ≤ 20 := fun h => by
  by_cases hc : ckH h ≠ 0
  ·rw [if_pos hc]; exact h0
  ·rw [if_neg hc]; exact good_le (ckH_good.1 (Decidable.not_not.1 hc))
 unfold decH
 split
 ·exact h0
 ·split
  ·exact h0
  ·split
   ·exact h0
   ·split
    ·exact h0
    ·split
     ·exact h0
     ·exact key _
section
variable {P : Program} {ops : Array Oper} {Q : Exit → Act → World → Prop} {a : Act} {w w0 : World} {o : Oper} {L : List Res} {i : Nat}
theorem plConvB {x : Operand} {src e dst : TypeId} (l : List UInt8) (hs : P.underlying src = some .string) (hd : P.underlying dst = some (.slice e)) (he : P.underlying e = some (.int .u8)) (hl : l.length ≤ maxLen) (hm : Mem w0 w L) (hi : ops.toList[i]? = some o) (hw : Region.wanted o (yielded ops a.tmps) = true)
 (ho : o.op = .convert src dst x) (hx : a.eval x = .string ⟨l.toArray⟩)
 (h : ∀ g c w', Mem w0 w' (L ++ [.rd (some ⟨g, 0, none⟩) 1 l.length c (bcs l)]) → PL P ops Q (i + 1) (a.put o.dst (.slice (some ⟨g, 0, none⟩) l.length c)) w') : PL P ops Q i a w :=
 plOf hi (convBsR x l hs hd he hl hw ho hx fun c w' hr hsz hb => (h w.heap.size c w' (hm.newRd hb (hr.more hsz) (fun a ha => by cases ha; exact Nat.le_refl _))).out)
theorem eqStrRun {t ty : TypeId} (x y : Operand) (xs ys : List UInt8) (b : Bool) (hb : (xs == ys) = b) (ho : o.op = .binOp .eql t x y ty) (hx : a.eval x = .string ⟨xs.toArray⟩) (hy : a.eval y = .string ⟨ys.toArray⟩) : (execOp a.eval o).run P w = .ok (.value (.bool b)) w := by
 unfold execOp
 simp [ho, hx, hy, eqGuard, binOp_string_eql, hb]
end
theorem Lv.At.len {x : Lv} {w : World} (h : x.At w) : x.h.D.length = x.h.rn * 16 := by have := h.b.len; rwa [bcs_length] at this
theorem encS_le (s : List UInt8) : (encS s).length ≤ 10 + s.length := by
 unfold encS
 rw [List.length_append]
 have := enc_le (s.length : Int)
 omega
theorem vsign_any (seed : List UInt8) (hh ii : Int) (x : Lv) (w : World) (ht : Tabs w) (hx : x.At w) (hfit : x.h.Fit) (hseed : seed.length ≤ 100000000) : Calls Tryz.prog 7 #[.string ⟨seed.toArray⟩, .int .i64 hh, .int .i64 ii, .agg (hcs x.h x.A x.c x.B x.d).toArray] w (RetV w (textV (sgV seed hh ii x.h).1 (sgV seed hh ii x.h).2)) := by
 have hxl_ := hx.len
 have hm0 := Mem.ofLv (l := [x]) (fun v_ hv_ => by rw [List.mem_singleton] at hv_; subst hv_; exact hx)
 go_enter Tryz.func7, Tryz.ntmps7
 refine litStart 38 [(0, .string ⟨seed.toArray⟩), (1, .int .i64 hh), (2, .int .i64 ii), (3, .agg (hcs x.h x.A x.c x.B x.d).toArray)] kr_ (fun X0 => ?_)
 refine wp_seq_k fun K1 hK1 => ?_
 refine plStart ?_
 refine plBox hm0 (cs := hcs x.h x.A x.c x.B x.d) (i := 0) rfl (wn rfl) rfl le_ ?_
 intro g2 w4 hm3
 clear hm0
 try simp only [lc1_, lc2_, lc3_, lc4_] at hm3
 replace hm3 := Mem.insAt (M := (lvRes [x])) 0 hm3
 simp only [List.insertIdx_succ_cons, List.insertIdx_zero] at hm3
 refine qP rfl ?_
 refine lk_ (.string ⟨([]).toArray⟩) ?_
 refine lk_ (.int .i64 0) ?_
 refine plD ?_
 refine tn_ hK1 ?_
 refine wp_seq_k fun K5 hK5 => ?_
 refine wp_seq_k fun K6 hK6 => ?_
 refine plStart ?_
 refine litVal (v := .agg (hcs x.h x.A x.c x.B x.d).toArray) rfl (wn rfl) (gLoadAg (vs := hcs x.h x.A x.c x.B x.d) (k := 0) 0 hm3 rfl kr_ kr_ (.tmp 7) Ty.ag_voxel_api_Header rfl le_) rfl (by decide) ?_
 refine plCall (i := 1) 14 [.agg (hcs x.h x.A x.c x.B x.d).toArray] [] [] rfl kr_ (wn rfl) rfl le_ (litArgs kr_) (check_any x.h x.A x.c x.B x.d _ ((Mem.lv ((Mem.tailN (T := lvRes [x]) 1 hm3 rfl).sub (L' := lvRes [x]) (rf_))) x List.mem_cons_self).a ((Mem.lv ((Mem.tailN (T := lvRes [x]) 1 hm3 rfl).sub (L' := lvRes [x]) (rf_))) x List.mem_cons_self).b (by have q_ := hfit.c20; omega) (by have q_ := hfit.r20; omega) hfit.depth) ?_
 rintro e w7 ⟨rfl, hbz⟩
 have hm8 := hm3.below hbz
 clear hbz hm3
 refine ⟨_, rfl, ?_⟩
 refine qP rfl ?_
 refine lk_ (.int .i64 (ckH x.h)) ?_
 refine plD ?_
 refine tn_ hK6 ?_
 refine wp_seq_k fun K9 hK9 => ?_
 refine plStart ?_
 refine lk_ (.int .i64 (ckH x.h)) ?_
 by_cases h10 : (ckH x.h) = 0
 ·refine litVal (v := .bool false) rfl (wn rfl) (boolTo (by rw [decide_eq_true h10]; rfl) (neqRun (A := (ckH x.h)) (B := 0) (.tmp 16) (.const (.int .i64 0)) rfl le_ le_)) rfl (by decide) ?_
  refine plD ?_
  refine tn_ hK9 ?_
  refine wp_cond_false le_ ?_
  refine wp_skip ?_
  refine tn_ hK5 ?_
  refine wp_seq_k fun K11 hK11 => ?_
  refine plStart ?_
  refine litVal (v := .agg (hcs x.h x.A x.c x.B x.d).toArray) rfl (wn rfl) (gLoadAg (vs := hcs x.h x.A x.c x.B x.d) (k := 0) 0 hm8 rfl kr_ kr_ (.tmp 7) Ty.ag_voxel_api_Header rfl le_) rfl (by decide) ?_
  refine plCall (i := 1) 13 [.agg (hcs x.h x.A x.c x.B x.d).toArray] [] [] rfl kr_ (wn rfl) rfl le_ (litArgs kr_) (encode_any x.h x.A x.c x.B x.d _ ((Mem.lv ((Mem.tailN (T := lvRes [x]) 1 hm8 rfl).sub (L' := lvRes [x]) (rf_))) x List.mem_cons_self).a ((Mem.lv ((Mem.tailN (T := lvRes [x]) 1 hm8 rfl).sub (L' := lvRes [x]) (rf_))) x List.mem_cons_self).b hfit) ?_
  rintro e w12 ⟨v14, rfl, hown_, hbz⟩
  obtain ⟨A15, c16, rfl, hrd_⟩ := Rd.of_own hown_
  clear hrd_
  have hm13 := hm8.newRow hbz hown_
  clear hown_ hbz
  clear hm8
  try simp only [lc1_, lc2_, lc3_, lc4_] at hm13
  replace hm13 := Mem.insAt (M := ((.arr g2 25 (hcs x.h x.A x.c x.B x.d)) :: lvRes [x])) 1 hm13
  simp only [List.insertIdx_succ_cons, List.insertIdx_zero] at hm13
  refine ⟨_, rfl, ?_⟩
  refine qP rfl ?_
  refine litVal (v := .string ⟨(encH x.h).toArray⟩) rfl (wn rfl) (convBsRun (.tmp 20) (encH x.h) kr_ (e := 5) kr_ kr_ (hm13.rdRow 1 rfl) rfl le_) rfl (by decide) ?_
  refine lk_ (.string ⟨(encH x.h).toArray⟩) ?_
  refine plD ?_
  refine tn_ hK11 ?_
  refine wp_seq_k fun K17 hK17 => ?_
  refine plStart ?_
  refine lk_ (.string ⟨seed.toArray⟩) ?_
  refine lk_ (.int .i64 hh) ?_
  refine lk_ (.int .i64 ii) ?_
  refine lk_ (.string ⟨(encH x.h).toArray⟩) ?_
  refine plCall (i := 4) 28 [.string ⟨seed.toArray⟩, .int .i64 hh, .int .i64 ii, .string ⟨(encH x.h).toArray⟩] [] [] rfl kr_ (wn rfl) rfl le_ (litArgs kr_) (sign_any seed hh ii (encH x.h) _ (ht.below hm13.bel ht.size) hseed (by have q_ := encH_le hfit hxl_; omega)) ?_
  rintro e w18 ⟨rfl, hbz⟩
  have hm19 := hm13.below hbz
  clear hbz hm13
  refine ⟨_, rfl, ?_⟩
  refine qP rfl ?_
  refine lk_ (.tuple #[.string ⟨((makeD seed hh ii (encH x.h)).1).toArray⟩, .int .i64 ((makeD seed hh ii (encH x.h)).2)]) ?_
  refine lk_ (.string ⟨((makeD seed hh ii (encH x.h)).1).toArray⟩) ?_
  refine lk_ (.int .i64 ((makeD seed hh ii (encH x.h)).2)) ?_
  refine lk_ (.string ⟨((makeD seed hh ii (encH x.h)).1).toArray⟩) ?_
  refine lk_ (.int .i64 ((makeD seed hh ii (encH x.h)).2)) ?_
  refine plD ?_
  refine tn_ hK17 ?_
  refine wpPrune [(8, .string ⟨([]).toArray⟩), (9, .int .i64 0), (11, .string ⟨(encH x.h).toArray⟩), (12, .string ⟨((makeD seed hh ii (encH x.h)).1).toArray⟩), (13, .int .i64 ((makeD seed hh ii (encH x.h)).2))] ⟨lg_, ⟨lg_, ⟨lg_, ⟨lg_, ⟨lg_, trivial⟩⟩⟩⟩⟩ (fun X20 => ?_)
  refine wp_seq_k fun K21 hK21 => ?_
  refine wp_seq_k fun K22 hK22 => ?_
  refine plStart ?_
  refine lk_ (.int .i64 ((makeD seed hh ii (encH x.h)).2)) ?_
  by_cases h23 : ((makeD seed hh ii (encH x.h)).2) = 0
  ·refine litVal (v := .bool false) rfl (wn rfl) (boolTo (by rw [decide_eq_true h23]; rfl) (neqRun (A := ((makeD seed hh ii (encH x.h)).2)) (B := 0) (.tmp 30) (.const (.int .i64 0)) rfl le_ le_)) rfl (by decide) ?_
   refine plD ?_
   refine tn_ hK22 ?_
   refine wp_cond_false le_ ?_
   refine wp_skip ?_
   refine tn_ hK21 ?_
   refine wp_seq_k fun K24 hK24 => ?_
   refine plStart ?_
   refine lk_ (.string ⟨(encH x.h).toArray⟩) ?_
   refine plCall (i := 1) 29 [.string ⟨(encH x.h).toArray⟩] [] [] rfl kr_ (wn rfl) rfl le_ (litArgs kr_) (bytes_any (encH x.h) _ (by have q_ := encH_le hfit hxl_; omega)) ?_
   rintro e w25 ⟨v27, rfl, hown_, hbz⟩
   obtain ⟨A28, c29, rfl, hrd_⟩ := Rd.of_own hown_
   clear hrd_
   have hm26 := hm19.newRow hbz hown_
   clear hown_ hbz
   clear hm19
   try simp only [lc1_, lc2_, lc3_, lc4_] at hm26
   replace hm26 := Mem.insAt (M := ((.arr g2 25 (hcs x.h x.A x.c x.B x.d)) :: (.row (.slice A15 ((encH x.h).length) c16) 5 1 ((encH x.h).length) (bcs (encH x.h))) :: lvRes [x])) 2 hm26
   simp only [List.insertIdx_succ_cons, List.insertIdx_zero] at hm26
   refine ⟨_, rfl, ?_⟩
   refine qP rfl ?_
   refine litVal (v := .string ⟨(encS (encH x.h)).toArray⟩) rfl (wn rfl) (convBsRun (.tmp 34) (encS (encH x.h)) kr_ (e := 5) kr_ kr_ (hm26.rdRow 2 rfl) rfl le_) rfl (by decide) ?_
   refine lk_ (.string ⟨((makeD seed hh ii (encH x.h)).1).toArray⟩) ?_
   refine litVal (v := .string ⟨((encS (encH x.h)) ++ ((makeD seed hh ii (encH x.h)).1)).toArray⟩) rfl (wn rfl) (catRun (.tmp 35) (.tmp 36) (encS (encH x.h)) ((makeD seed hh ii (encH x.h)).1) rfl le_ le_ (by have q_ := encH_le hfit hxl_; have q2_ := makeD_le seed hh ii (encH x.h); have q3_ := encS_le (encH x.h); omega)) rfl (by decide) ?_
   refine lk_ (.string ⟨((encS (encH x.h)) ++ ((makeD seed hh ii (encH x.h)).1)).toArray⟩) ?_
   refine lk_ (.int .i64 0) ?_
   refine plD ?_
   refine tn_ hK24 ?_
   refine wp_ret ?_
   refine bodyPost_ret (v := .tuple #[.string ⟨((encS (encH x.h)) ++ ((makeD seed hh ii (encH x.h)).1)).toArray⟩, .int .i64 0]) (gRes2 rfl (gResTmp (t := 8) (v := .string ⟨((encS (encH x.h)) ++ ((makeD seed hh ii (encH x.h)).1)).toArray⟩) (lg_)) (gResTmp (t := 9) (v := .int .i64 0) (lg_))) rfl ?_
   have hfin_ : sgV seed hh ii x.h = _ := sgV_ok h10 h23
   exact ⟨by rw [hfin_]; rfl, hm26.bel⟩
  refine litVal (v := .bool true) rfl (wn rfl) (boolTo (by rw [decide_eq_false h23]; rfl) (neqRun (A := ((makeD seed hh ii (encH x.h)).2)) (B := 0) (.tmp 30) (.const (.int .i64 0)) rfl le_ le_)) rfl (by decide) ?_
  refine plD ?_
  refine tn_ hK22 ?_
  refine wp_cond_true le_ ?_
  refine wp_seq_k fun K30 hK30 => ?_
  refine plStart ?_
  refine lk_ (.int .i64 ((makeD seed hh ii (encH x.h)).2)) ?_
  refine lk_ (.string ⟨([]).toArray⟩) ?_
  refine lk_ (.int .i64 ((makeD seed hh ii (encH x.h)).2)) ?_
  refine plD ?_
  refine tn_ hK30 ?_
  refine wp_ret ?_
  refine then_ret ?_
  refine bodyPost_ret (v := .tuple #[.string ⟨([]).toArray⟩, .int .i64 ((makeD seed hh ii (encH x.h)).2)]) (gRes2 rfl (gResTmp (t := 8) (v := .string ⟨([]).toArray⟩) (lg_)) (gResTmp (t := 9) (v := .int .i64 ((makeD seed hh ii (encH x.h)).2)) (lg_))) rfl ?_
  have hfin_ : sgV seed hh ii x.h = _ := sgV_e h10 h23
  exact ⟨by rw [hfin_]; rfl, hm19.bel⟩
 refine litVal (v := .bool true) rfl (wn rfl) (boolTo (by rw [decide_eq_false h10]; rfl) (neqRun (A := (ckH x.h)) (B := 0) (.tmp 16) (.const (.int .i64 0)) rfl le_ le_)) rfl (by decide) ?_
 refine plD ?_
 refine tn_ hK9 ?_
 refine wp_cond_true le_ ?_
 refine wp_seq_k fun K31 hK31 => ?_
 refine plStart ?_
 refine lk_ (.int .i64 (ckH x.h)) ?_
 refine lk_ (.string ⟨([]).toArray⟩) ?_
 refine lk_ (.int .i64 (ckH x.h)) ?_
 refine plD ?_
 refine tn_ hK31 ?_
 refine wp_ret ?_
 refine then_ret ?_
 refine bodyPost_ret (v := .tuple #[.string ⟨([]).toArray⟩, .int .i64 (ckH x.h)]) (gRes2 rfl (gResTmp (t := 8) (v := .string ⟨([]).toArray⟩) (lg_)) (gResTmp (t := 9) (v := .int .i64 (ckH x.h)) (lg_))) rfl ?_
 have hfin_ : sgV seed hh ii x.h = _ := sgV_ck h10
 exact ⟨by rw [hfin_]; rfl, hm8.bel⟩
theorem rvsign_any (seed : List UInt8) (hh ii : Int) (x : Lv) (w : World) (ht : TabsR w) (hx : x.At w) (hfit : x.h.Fit) (hseed : seed.length ≤ 100000000) : Calls Tryz.prog 8 #[.string ⟨seed.toArray⟩, .int .i64 hh, .int .i64 ii, .agg (hcs x.h x.A x.c x.B x.d).toArray] w (RetV w (textV (sgV seed hh ii x.h).1 (sgV seed hh ii x.h).2)) := by
 have hxl_ := hx.len
 have hm0 := Mem.ofLv (l := [x]) (fun v_ hv_ => by rw [List.mem_singleton] at hv_; subst hv_; exact hx)
 go_enter Tryz.func8, Tryz.ntmps8
 refine litStart 38 [(0, .string ⟨seed.toArray⟩), (1, .int .i64 hh), (2, .int .i64 ii), (3, .agg (hcs x.h x.A x.c x.B x.d).toArray)] kr_ (fun X0 => ?_)
 refine wp_seq_k fun K1 hK1 => ?_
 refine plStart ?_
 refine plBox hm0 (cs := hcs x.h x.A x.c x.B x.d) (i := 0) rfl (wn rfl) rfl le_ ?_
 intro g2 w4 hm3
 clear hm0
 try simp only [lc1_, lc2_, lc3_, lc4_] at hm3
 replace hm3 := Mem.insAt (M := (lvRes [x])) 0 hm3
 simp only [List.insertIdx_succ_cons, List.insertIdx_zero] at hm3
 refine qP rfl ?_
 refine lk_ (.string ⟨([]).toArray⟩) ?_
 refine lk_ (.int .i64 0) ?_
 refine plD ?_
 refine tn_ hK1 ?_
 refine wp_seq_k fun K5 hK5 => ?_
 refine plStart ?_
 refine litVal (v := .agg (hcs x.h x.A x.c x.B x.d).toArray) rfl (wn rfl) (gLoadAg (vs := hcs x.h x.A x.c x.B x.d) (k := 0) 0 hm3 rfl kr_ kr_ (.tmp 7) Ty.ag_voxel_api_Header rfl le_) rfl (by decide) ?_
 refine plCall (i := 1) 30 [.agg (hcs x.h x.A x.c x.B x.d).toArray] [] [] rfl kr_ (wn rfl) rfl le_ (litArgs kr_) (rcheck_any x.h x.A x.c x.B x.d _ ((Mem.lv ((Mem.tailN (T := lvRes [x]) 1 hm3 rfl).sub (L' := lvRes [x]) (rf_))) x List.mem_cons_self).a ((Mem.lv ((Mem.tailN (T := lvRes [x]) 1 hm3 rfl).sub (L' := lvRes [x]) (rf_))) x List.mem_cons_self).b (by have q_ := hfit.c20; omega) (by have q_ := hfit.r20; omega) hfit.depth) ?_
 rintro e w6 ⟨rfl, hbz⟩
 have hm7 := hm3.below hbz
 clear hbz hm3
 refine ⟨_, rfl, ?_⟩
 refine qP rfl ?_
 refine lk_ (.int .i64 (ckH x.h)) ?_
 refine plD ?_
 refine tn_ hK5 ?_
 refine wp_seq_k fun K8 hK8 => ?_
 refine wp_seq_k fun K9 hK9 => ?_
 refine plStart ?_
 refine lk_ (.int .i64 (ckH x.h)) ?_
 by_cases h10 : (ckH x.h) = 0
 ·refine litVal (v := .bool false) rfl (wn rfl) (boolTo (by rw [decide_eq_true h10]; rfl) (neqRun (A := (ckH x.h)) (B := 0) (.tmp 16) (.const (.int .i64 0)) rfl le_ le_)) rfl (by decide) ?_
  refine plD ?_
  refine tn_ hK9 ?_
  refine wp_cond_false le_ ?_
  refine wp_skip ?_
  refine tn_ hK8 ?_
  refine wp_seq_k fun K11 hK11 => ?_
  refine plStart ?_
  refine litVal (v := .agg (hcs x.h x.A x.c x.B x.d).toArray) rfl (wn rfl) (gLoadAg (vs := hcs x.h x.A x.c x.B x.d) (k := 0) 0 hm7 rfl kr_ kr_ (.tmp 7) Ty.ag_voxel_api_Header rfl le_) rfl (by decide) ?_
  refine plCall (i := 1) 31 [.agg (hcs x.h x.A x.c x.B x.d).toArray] [] [] rfl kr_ (wn rfl) rfl le_ (litArgs kr_) (rencode_any x.h x.A x.c x.B x.d _ ((Mem.lv ((Mem.tailN (T := lvRes [x]) 1 hm7 rfl).sub (L' := lvRes [x]) (rf_))) x List.mem_cons_self).a ((Mem.lv ((Mem.tailN (T := lvRes [x]) 1 hm7 rfl).sub (L' := lvRes [x]) (rf_))) x List.mem_cons_self).b hfit) ?_
  rintro e w12 ⟨v14, rfl, hown_, hbz⟩
  obtain ⟨A15, c16, rfl, hrd_⟩ := Rd.of_own hown_
  clear hrd_
  have hm13 := hm7.newRow hbz hown_
  clear hown_ hbz
  clear hm7
  try simp only [lc1_, lc2_, lc3_, lc4_] at hm13
  replace hm13 := Mem.insAt (M := ((.arr g2 25 (hcs x.h x.A x.c x.B x.d)) :: lvRes [x])) 1 hm13
  simp only [List.insertIdx_succ_cons, List.insertIdx_zero] at hm13
  refine ⟨_, rfl, ?_⟩
  refine qP rfl ?_
  refine litVal (v := .string ⟨(encH x.h).toArray⟩) rfl (wn rfl) (convBsRun (.tmp 20) (encH x.h) kr_ (e := 5) kr_ kr_ (hm13.rdRow 1 rfl) rfl le_) rfl (by decide) ?_
  refine lk_ (.string ⟨(encH x.h).toArray⟩) ?_
  refine plD ?_
  refine tn_ hK11 ?_
  refine wp_seq_k fun K17 hK17 => ?_
  refine plStart ?_
  refine lk_ (.string ⟨seed.toArray⟩) ?_
  refine lk_ (.int .i64 hh) ?_
  refine lk_ (.int .i64 ii) ?_
  refine lk_ (.string ⟨(encH x.h).toArray⟩) ?_
  refine plCall (i := 4) 32 [.string ⟨seed.toArray⟩, .int .i64 hh, .int .i64 ii, .string ⟨(encH x.h).toArray⟩] [] [] rfl kr_ (wn rfl) rfl le_ (litArgs kr_) (refSign_any seed hh ii (encH x.h) _ (ht.below hm13.bel ht.size) hseed (by have q_ := encH_le hfit hxl_; omega)) ?_
  rintro e w18 ⟨rfl, hbz⟩
  have hm19 := hm13.below hbz
  clear hbz hm13
  refine ⟨_, rfl, ?_⟩
  refine qP rfl ?_
  refine lk_ (.tuple #[.string ⟨((makeD seed hh ii (encH x.h)).1).toArray⟩, .int .i64 ((makeD seed hh ii (encH x.h)).2)]) ?_
  refine lk_ (.string ⟨((makeD seed hh ii (encH x.h)).1).toArray⟩) ?_
  refine lk_ (.int .i64 ((makeD seed hh ii (encH x.h)).2)) ?_
  refine lk_ (.string ⟨((makeD seed hh ii (encH x.h)).1).toArray⟩) ?_
  refine lk_ (.int .i64 ((makeD seed hh ii (encH x.h)).2)) ?_
  refine plD ?_
  refine tn_ hK17 ?_
  refine wpPrune [(8, .string ⟨([]).toArray⟩), (9, .int .i64 0), (11, .string ⟨(encH x.h).toArray⟩), (12, .string ⟨((makeD seed hh ii (encH x.h)).1).toArray⟩), (13, .int .i64 ((makeD seed hh ii (encH x.h)).2))] ⟨lg_, ⟨lg_, ⟨lg_, ⟨lg_, ⟨lg_, trivial⟩⟩⟩⟩⟩ (fun X20 => ?_)
  refine wp_seq_k fun K21 hK21 => ?_
  refine wp_seq_k fun K22 hK22 => ?_
  refine plStart ?_
  refine lk_ (.int .i64 ((makeD seed hh ii (encH x.h)).2)) ?_
  by_cases h23 : ((makeD seed hh ii (encH x.h)).2) = 0
  ·refine litVal (v := .bool false) rfl (wn rfl) (boolTo (by rw [decide_eq_true h23]; rfl) (neqRun (A := ((makeD seed hh ii (encH x.h)).2)) (B := 0) (.tmp 30) (.const (.int .i64 0)) rfl le_ le_)) rfl (by decide) ?_
   refine plD ?_
   refine tn_ hK22 ?_
   refine wp_cond_false le_ ?_
   refine wp_skip ?_
   refine tn_ hK21 ?_
   refine wp_seq_k fun K24 hK24 => ?_
   refine plStart ?_
   refine lk_ (.string ⟨(encH x.h).toArray⟩) ?_
   refine plCall (i := 1) 33 [.string ⟨(encH x.h).toArray⟩] [] [] rfl kr_ (wn rfl) rfl le_ (litArgs kr_) (refBytes_any (encH x.h) _ (by have q_ := encH_le hfit hxl_; omega)) ?_
   rintro e w25 ⟨v27, rfl, hown_, hbz⟩
   obtain ⟨A28, c29, rfl, hrd_⟩ := Rd.of_own hown_
   clear hrd_
   have hm26 := hm19.newRow hbz hown_
   clear hown_ hbz
   clear hm19
   try simp only [lc1_, lc2_, lc3_, lc4_] at hm26
   replace hm26 := Mem.insAt (M := ((.arr g2 25 (hcs x.h x.A x.c x.B x.d)) :: (.row (.slice A15 ((encH x.h).length) c16) 5 1 ((encH x.h).length) (bcs (encH x.h))) :: lvRes [x])) 2 hm26
   simp only [List.insertIdx_succ_cons, List.insertIdx_zero] at hm26
   refine ⟨_, rfl, ?_⟩
   refine qP rfl ?_
   refine litVal (v := .string ⟨(encS (encH x.h)).toArray⟩) rfl (wn rfl) (convBsRun (.tmp 34) (encS (encH x.h)) kr_ (e := 5) kr_ kr_ (hm26.rdRow 2 rfl) rfl le_) rfl (by decide) ?_
   refine lk_ (.string ⟨((makeD seed hh ii (encH x.h)).1).toArray⟩) ?_
   refine litVal (v := .string ⟨((encS (encH x.h)) ++ ((makeD seed hh ii (encH x.h)).1)).toArray⟩) rfl (wn rfl) (catRun (.tmp 35) (.tmp 36) (encS (encH x.h)) ((makeD seed hh ii (encH x.h)).1) rfl le_ le_ (by have q_ := encH_le hfit hxl_; have q2_ := makeD_le seed hh ii (encH x.h); have q3_ := encS_le (encH x.h); omega)) rfl (by decide) ?_
   refine lk_ (.string ⟨((encS (encH x.h)) ++ ((makeD seed hh ii (encH x.h)).1)).toArray⟩) ?_
   refine lk_ (.int .i64 0) ?_
   refine plD ?_
   refine tn_ hK24 ?_
   refine wp_ret ?_
   refine bodyPost_ret (v := .tuple #[.string ⟨((encS (encH x.h)) ++ ((makeD seed hh ii (encH x.h)).1)).toArray⟩, .int .i64 0]) (gRes2 rfl (gResTmp (t := 8) (v := .string ⟨((encS (encH x.h)) ++ ((makeD seed hh ii (encH x.h)).1)).toArray⟩) (lg_)) (gResTmp (t := 9) (v := .int .i64 0) (lg_))) rfl ?_
   have hfin_ : sgV seed hh ii x.h = _ := sgV_ok h10 h23
   exact ⟨by rw [hfin_]; rfl, hm26.bel⟩
  refine litVal (v := .bool true) rfl (wn rfl) (boolTo (by rw [decide_eq_false h23]; rfl) (neqRun (A := ((makeD seed hh ii (encH x.h)).2)) (B := 0) (.tmp 30) (.const (.int .i64 0)) rfl le_ le_)) rfl (by decide) ?_
  refine plD ?_
  refine tn_ hK22 ?_
  refine wp_cond_true le_ ?_
  refine wp_seq_k fun K30 hK30 => ?_
  refine plStart ?_
  refine lk_ (.int .i64 ((makeD seed hh ii (encH x.h)).2)) ?_
  refine lk_ (.string ⟨([]).toArray⟩) ?_
  refine lk_ (.int .i64 ((makeD seed hh ii (encH x.h)).2)) ?_
  refine plD ?_
  refine tn_ hK30 ?_
  refine wp_ret ?_
  refine then_ret ?_
  refine bodyPost_ret (v := .tuple #[.string ⟨([]).toArray⟩, .int .i64 ((makeD seed hh ii (encH x.h)).2)]) (gRes2 rfl (gResTmp (t := 8) (v := .string ⟨([]).toArray⟩) (lg_)) (gResTmp (t := 9) (v := .int .i64 ((makeD seed hh ii (encH x.h)).2)) (lg_))) rfl ?_
  have hfin_ : sgV seed hh ii x.h = _ := sgV_e h10 h23
  exact ⟨by rw [hfin_]; rfl, hm19.bel⟩
 refine litVal (v := .bool true) rfl (wn rfl) (boolTo (by rw [decide_eq_false h10]; rfl) (neqRun (A := (ckH x.h)) (B := 0) (.tmp 16) (.const (.int .i64 0)) rfl le_ le_)) rfl (by decide) ?_
 refine plD ?_
 refine tn_ hK9 ?_
 refine wp_cond_true le_ ?_
 refine wp_seq_k fun K31 hK31 => ?_
 refine plStart ?_
 refine lk_ (.int .i64 (ckH x.h)) ?_
 refine lk_ (.string ⟨([]).toArray⟩) ?_
 refine lk_ (.int .i64 (ckH x.h)) ?_
 refine plD ?_
 refine tn_ hK31 ?_
 refine wp_ret ?_
 refine then_ret ?_
 refine bodyPost_ret (v := .tuple #[.string ⟨([]).toArray⟩, .int .i64 (ckH x.h)]) (gRes2 rfl (gResTmp (t := 8) (v := .string ⟨([]).toArray⟩) (lg_)) (gResTmp (t := 9) (v := .int .i64 (ckH x.h)) (lg_))) rfl ?_
 have hfin_ : sgV seed hh ii x.h = _ := sgV_ck h10
 exact ⟨by rw [hfin_]; rfl, hm7.bel⟩
theorem vverify_any (p : List UInt8) (hh : Int) (t : List UInt8) (w : World) (ht : Tabs w) (hp : p.length = 16) (htl : t.length ≤ 1000000) : Calls Tryz.prog 9 #[.agg (bcs p).toArray, .int .i64 hh, .string ⟨t.toArray⟩] w (fun e w' => ∃ v : Lv, v.h = (vfV p hh t).1 ∧ e = .returned (.tuple #[.agg (hcs v.h v.A v.c v.B v.d).toArray, .int .i64 (vfV p hh t).2.1, .int .i64 (vfV p hh t).2.2]) ∧ v.At w' ∧ NewA w.heap.size v.A ∧ NewA w.heap.size v.B ∧ Below w.heap.size w w') := by
 have hm0 := Mem.ofLv (l := []) (w := w) (fun _ h_ => by cases h_)
 go_enter Tryz.func9, Tryz.ntmps9
 refine litStart 51 [(0, .agg (bcs p).toArray), (1, .int .i64 hh), (2, .string ⟨t.toArray⟩)] kr_ (fun X0 => ?_)
 refine wp_seq_k fun K1 hK1 => ?_
 refine plStart ?_
 refine plBox hm0 (cs := bcs p) (i := 0) rfl (wn rfl) rfl le_ ?_
 intro g2 w4 hm3
 clear hm0
 try simp only [lc1_, lc2_, lc3_, lc4_] at hm3
 replace hm3 := Mem.insAt (M := (lvRes [])) 0 hm3
 simp only [List.insertIdx_succ_cons, List.insertIdx_zero] at hm3
 refine qP rfl ?_
 refine plAlloc (z := [.int .i64 0, .slice none 0 0, .int .i64 0, .slice none 0 0]) Ty.ag_voxel_api_Header hm3 (i := 1) rfl (wn rfl) rfl ?_
 intro g5 w7 hm6
 clear hm3
 try simp only [lc1_, lc2_, lc3_, lc4_] at hm6
 replace hm6 := Mem.insAt (M := ((.arr g2 27 (bcs p)) :: lvRes [])) 1 hm6
 simp only [List.insertIdx_succ_cons, List.insertIdx_zero] at hm6
 refine qP rfl ?_
 refine lk_ (.int .i64 0) ?_
 refine lk_ (.int .i64 0) ?_
 refine plD ?_
 refine tn_ hK1 ?_
 refine wp_seq_k fun K8 hK8 => ?_
 refine plStart ?_
 refine lk_ (.string ⟨t.toArray⟩) ?_
 refine plConvB (e := 5) t kr_ kr_ kr_ (by have q_ := (decSf t).2; unfold maxLen; omega) hm6 (i := 1) rfl (wn rfl) rfl le_ ?_
 intro g9 c10 w11 hm12
 clear hm6
 try simp only [lc1_, lc2_, lc3_, lc4_] at hm12
 replace hm12 := Mem.insAt (M := ((.arr g2 27 (bcs p)) :: (.arr g5 25 ([.int .i64 0, .slice none 0 0, .int .i64 0, .slice none 0 0])) :: lvRes [])) 2 hm12
 simp only [List.insertIdx_succ_cons, List.insertIdx_zero] at hm12
 refine qP rfl ?_
 refine plCall (i := 2) 34 [.slice (some ⟨g9, 0, none⟩) t.length c10] [] [] rfl kr_ (wn rfl) rfl le_ (litArgs kr_) (by exact getBytes_any t (some ⟨g9, 0, none⟩) _ c10 _ _ (hm12.rd 2 rfl)) ?_
 rintro e w13 ⟨rfl, rfl⟩
 refine ⟨_, rfl, ?_⟩
 refine qP rfl ?_
 refine lk_ (.tuple #[.string ⟨((decS t).1).toArray⟩, .int .i64 ((decS t).2.1), .int .i64 ((decS t).2.2)]) ?_
 refine lk_ (.string ⟨((decS t).1).toArray⟩) ?_
 refine lk_ (.int .i64 ((decS t).2.1)) ?_
 refine lk_ (.int .i64 ((decS t).2.2)) ?_
 refine lk_ (.string ⟨((decS t).1).toArray⟩) ?_
 refine lk_ (.int .i64 ((decS t).2.1)) ?_
 refine lk_ (.int .i64 ((decS t).2.2)) ?_
 refine plD ?_
 refine tn_ hK8 ?_
 refine wp_seq_k fun K15 hK15 => ?_
 refine wp_seq_k fun K16 hK16 => ?_
 refine plStart ?_
 refine lk_ (.int .i64 ((decS t).2.2)) ?_
 by_cases h17 : ((decS t).2.2) = 0
 ·refine litVal (v := .bool false) rfl (wn rfl) (boolTo (by rw [decide_eq_true h17]; rfl) (neqRun (A := ((decS t).2.2)) (B := 0) (.tmp 21) (.const (.int .i64 0)) rfl le_ le_)) rfl (by decide) ?_
  refine plD ?_
  refine tn_ hK16 ?_
  refine wp_cond_false le_ ?_
  refine wp_skip ?_
  refine tn_ hK15 ?_
  refine wp_seq_k fun K18 hK18 => ?_
  refine plStart ?_
  refine lk_ (.string ⟨((decS t).1).toArray⟩) ?_
  refine plConvB (e := 5) ((decS t).1) kr_ kr_ kr_ (by have q_ := (decSf t).2; unfold maxLen; omega) hm12 (i := 1) rfl (wn rfl) rfl le_ ?_
  intro g19 c20 w21 hm22
  clear hm12
  try simp only [lc1_, lc2_, lc3_, lc4_] at hm22
  replace hm22 := Mem.insAt (M := ((.arr g2 27 (bcs p)) :: (.arr g5 25 ([.int .i64 0, .slice none 0 0, .int .i64 0, .slice none 0 0])) :: (.rd (some ⟨g9, 0, none⟩) 1 t.length c10 (bcs t)) :: lvRes [])) 3 hm22
  simp only [List.insertIdx_succ_cons, List.insertIdx_zero] at hm22
  refine qP rfl ?_
  refine plCall (i := 2) 12 [.slice (some ⟨g19, 0, none⟩) (((decS t).1).length) c20] [] [] rfl kr_ (wn rfl) rfl le_ (litArgs kr_) (by exact LD.decode_any (decS t).1 (some ⟨g19, 0, none⟩) c20 _ (hm22.rd 3 rfl) (by have q_ := (decSf t).2; omega)) ?_
  rintro e w23 ⟨A_, c_, B_, d_, rfl, ha_, hb_, hA_, hB_, hbz⟩
  obtain ⟨v25, hv25_, rfl, rfl, rfl, rfl, hat_⟩ : ∃ v_ : Lv, v_.h = (decH (decS t).1).1 ∧ v_.A = A_ ∧ v_.c = c_ ∧ v_.B = B_ ∧ v_.d = d_ ∧ v_.At w23 := ⟨⟨0, 0, (decH (decS t).1).1, A_, c_, B_, d_⟩, rfl, rfl, rfl, rfl, rfl, ⟨ha_, hb_⟩⟩
  rw [← hv25_] at ha_ hb_ ⊢
  have hA2_ := hA_.mono hm22.bel.size
  have hB2_ := hB_.mono hm22.bel.size
  have hm24 := Mem.newLv (lx := []) (M := lvRes []) [.arr g2 27 (bcs p), .arr g5 25 ([.int .i64 0, .slice none 0 0, .int .i64 0, .slice none 0 0]), .rd (some ⟨g9, 0, none⟩) 1 t.length c10 (bcs t), .rd (some ⟨g19, 0, none⟩) 1 (((decS t).1).length) c20 (bcs ((decS t).1))] hm22 hbz hat_ (Or.inr ⟨hA_, hB_⟩) hdNone (fun _ h_ => lvRes_mut h_)
  simp only [List.cons_append, List.nil_append] at hm24
  clear hm22
  clear hat_ hA_ hB_ hbz ha_ hb_
  refine ⟨_, rfl, ?_⟩
  refine qP rfl ?_
  refine lk_ (.tuple #[.agg (hcs v25.h v25.A v25.c v25.B v25.d).toArray, .int .i64 ((decH (decS t).1).2)]) ?_
  refine lk_ (.agg (hcs v25.h v25.A v25.c v25.B v25.d).toArray) ?_
  refine lk_ (.int .i64 ((decH (decS t).1).2)) ?_
  refine plAlloc (z := [.int .i64 0, .slice none 0 0, .int .i64 0, .slice none 0 0]) Ty.ag_voxel_api_Header hm24 (i := 6) rfl (wn rfl) rfl ?_
  intro g26 w28 hm27
  clear hm24
  try simp only [lc1_, lc2_, lc3_, lc4_] at hm27
  replace hm27 := Mem.insAt (M := ((.arr g2 27 (bcs p)) :: (.arr g5 25 ([.int .i64 0, .slice none 0 0, .int .i64 0, .slice none 0 0])) :: (.rd (some ⟨g9, 0, none⟩) 1 t.length c10 (bcs t)) :: (.rd (some ⟨g19, 0, none⟩) 1 (((decS t).1).length) c20 (bcs ((decS t).1))) :: (lvRes [v25] ++ lvRes []))) 4 hm27
  simp only [List.insertIdx_succ_cons, List.insertIdx_zero] at hm27
  refine qP rfl ?_
  refine plStore 4 Ty.ag_voxel_api_Header hm27 rfl (i := 7) (cs := hcs v25.h v25.A v25.c v25.B v25.d) rfl (wn rfl) rfl le_ le_ rfl rfl kr_ ?_
  intro w30 hm29
  clear hm27
  try simp only [lc1_, lc2_, lc3_, lc4_] at hm29
  refine qNone rfl ?_
  refine lk_ (.int .i64 ((decH (decS t).1).2)) ?_
  refine plD ?_
  refine tn_ hK18 ?_
  refine wpPrune [(1, .int .i64 hh), (2, .string ⟨t.toArray⟩), (3, .pointer (some ⟨g2, 0, none⟩)), (6, .pointer (some ⟨g5, 0, none⟩)), (7, .int .i64 0), (8, .int .i64 0), (9, .string ⟨((decS t).1).toArray⟩), (10, .int .i64 ((decS t).2.1)), (11, .int .i64 ((decH (decS t).1).2)), (12, .pointer (some ⟨g26, 0, none⟩))] ⟨lg_, ⟨lg_, ⟨lg_, ⟨lg_, ⟨lg_, ⟨lg_, ⟨lg_, ⟨lg_, ⟨lg_, ⟨lg_, trivial⟩⟩⟩⟩⟩⟩⟩⟩⟩⟩ (fun X31 => ?_)
  refine wp_seq_k fun K32 hK32 => ?_
  refine wp_seq_k fun K33 hK33 => ?_
  refine plStart ?_
  refine lk_ (.int .i64 ((decH (decS t).1).2)) ?_
  by_cases h34 : ((decH (decS t).1).2) = 0
  ·refine litVal (v := .bool false) rfl (wn rfl) (boolTo (by rw [decide_eq_true h34]; rfl) (neqRun (A := ((decH (decS t).1).2)) (B := 0) (.tmp 31) (.const (.int .i64 0)) rfl le_ le_)) rfl (by decide) ?_
   refine plD ?_
   refine tn_ hK33 ?_
   refine wp_cond_false le_ ?_
   refine wp_skip ?_
   refine tn_ hK32 ?_
   refine wp_seq_k fun K35 hK35 => ?_
   refine mgStart hm29 kr_ ?_
   intro w37 hm36
   clear hm29
   refine mgTake (i := 0) (v := .agg (bcs p).toArray) rfl kr_ (wn rfl) (fun _ _ _ h => h) hm36 (fun w_ h_ => gLoadAg (vs := bcs p) (k := 0) 0 h_ rfl (by rw [List.drop_zero]; exact List.take_of_length_le (Nat.le_of_eq (by rw [bcs_length]; exact hp))) (by rw [bcs_length]; exact hp) (.tmp 3) Ty.ag_voxel_api_Digest rfl le_) ?_
   refine mP rfl ?_
   refine mk_ (i := 1) (v := .int .i64 hh) rfl rfl (fun _ _ _ h => h) hm36 rfl ?_
   refine mk_ (i := 2) (v := .string ⟨((decS t).1).toArray⟩) rfl rfl (fun _ _ _ h => h) hm36 rfl ?_
   refine mk_ (i := 3) (v := .string ⟨t.toArray⟩) rfl rfl (fun _ _ _ h => h) hm36 rfl ?_
   refine mk_ (i := 4) (v := .int .i64 ((decS t).2.1)) rfl rfl (fun _ _ _ h => h) hm36 rfl ?_
   refine mgTake (i := 5) (v := .string ⟨(t.drop ((decS t).2.1.toNat)).toArray⟩) rfl kr_ (wn rfl) (fun _ _ _ h => h) hm36 (fun w_ h_ => slStrLRun (kl := .i64) (L := ((decS t).2.1)) (.tmp 39) (.tmp 40) t ((decS t).2.1.toNat) rfl le_ le_ (by have q_ := (decSf t).1 h17; omega) (by have q_ := (decSf t).1 h17; omega) kr_) ?_
   refine mP rfl ?_
   refine mgCall (i := 6) 35 [.agg (bcs p).toArray, .int .i64 hh, .string ⟨((decS t).1).toArray⟩, .string ⟨(t.drop ((decS t).2.1.toNat)).toArray⟩] [] [] kr_ rfl kr_ (wn rfl) rfl le_ (litArgs kr_) (verify_any p hh (decS t).1 (t.drop (decS t).2.1.toNat) _ (ht.below hm36.bel ht.size) hp (by have q_ := (decSf t).2; omega) (by rw [List.length_drop]; omega)) ?_
   rintro e w38 ⟨rfl, hbz⟩
   have hm39 := hm36.below hbz
   clear hbz hm36
   refine ⟨_, rfl, hm39, ?_⟩
   refine mP rfl ?_
   refine mk_ (i := 7) (v := .tuple #[.int .i64 ((verifyD p hh (decS t).1 (t.drop (decS t).2.1.toNat)).1), .int .i64 ((verifyD p hh (decS t).1 (t.drop (decS t).2.1.toNat)).2)]) rfl rfl (fun _ _ _ h => h) hm39 rfl ?_
   refine mk_ (i := 8) (v := .int .i64 ((verifyD p hh (decS t).1 (t.drop (decS t).2.1.toNat)).1)) rfl rfl (fun _ _ _ h => h) hm39 rfl ?_
   refine mk_ (i := 9) (v := .int .i64 ((verifyD p hh (decS t).1 (t.drop (decS t).2.1.toNat)).2)) rfl rfl (fun _ _ _ h => h) hm39 rfl ?_
   refine mk_ (i := 10) (v := .int .i64 ((verifyD p hh (decS t).1 (t.drop (decS t).2.1.toNat)).1)) rfl rfl (fun _ _ _ h => h) hm39 rfl ?_
   refine mk_ (i := 11) (v := .int .i64 ((verifyD p hh (decS t).1 (t.drop (decS t).2.1.toNat)).2)) rfl rfl (fun _ _ _ h => h) hm39 rfl ?_
   refine mgDone kr_ ?_
   refine tn_ hK35 ?_
   refine wpPrune [(6, .pointer (some ⟨g5, 0, none⟩)), (7, .int .i64 0), (8, .int .i64 0), (11, .int .i64 ((verifyD p hh (decS t).1 (t.drop (decS t).2.1.toNat)).2)), (12, .pointer (some ⟨g26, 0, none⟩)), (13, .int .i64 ((verifyD p hh (decS t).1 (t.drop (decS t).2.1.toNat)).1))] ⟨lg_, ⟨lg_, ⟨lg_, ⟨lg_, ⟨lg_, ⟨lg_, trivial⟩⟩⟩⟩⟩⟩ (fun X40 => ?_)
   refine wp_seq_k fun K41 hK41 => ?_
   refine wp_seq_k fun K42 hK42 => ?_
   refine plStart ?_
   refine lk_ (.int .i64 ((verifyD p hh (decS t).1 (t.drop (decS t).2.1.toNat)).2)) ?_
   by_cases h43 : ((verifyD p hh (decS t).1 (t.drop (decS t).2.1.toNat)).2) = 0
   ·refine litVal (v := .bool false) rfl (wn rfl) (boolTo (by rw [decide_eq_true h43]; rfl) (neqRun (A := ((verifyD p hh (decS t).1 (t.drop (decS t).2.1.toNat)).2)) (B := 0) (.tmp 45) (.const (.int .i64 0)) rfl le_ le_)) rfl (by decide) ?_
    refine plD ?_
    refine tn_ hK42 ?_
    refine wp_cond_false le_ ?_
    refine wp_skip ?_
    refine tn_ hK41 ?_
    refine wp_seq_k fun K44 hK44 => ?_
    refine plStart ?_
    refine litVal (v := .agg (hcs v25.h v25.A v25.c v25.B v25.d).toArray) rfl (wn rfl) (gLoadAg (vs := hcs v25.h v25.A v25.c v25.B v25.d) (k := 0) 4 hm39 rfl kr_ kr_ (.tmp 12) Ty.ag_voxel_api_Header rfl le_) rfl (by decide) ?_
    refine lk_ (.int .i64 ((verifyD p hh (decS t).1 (t.drop (decS t).2.1.toNat)).1)) ?_
    refine plStore 1 Ty.ag_voxel_api_Header hm39 rfl (i := 2) (cs := hcs v25.h v25.A v25.c v25.B v25.d) rfl (wn rfl) rfl le_ le_ rfl rfl kr_ ?_
    intro w46 hm45
    clear hm39
    try simp only [lc1_, lc2_, lc3_, lc4_] at hm45
    refine qNone rfl ?_
    refine lk_ (.int .i64 ((verifyD p hh (decS t).1 (t.drop (decS t).2.1.toNat)).1)) ?_
    refine lk_ (.int .i64 0) ?_
    refine plD ?_
    refine tn_ hK44 ?_
    refine wp_ret ?_
    refine bodyPost_ret (v := .tuple #[.agg (hcs v25.h v25.A v25.c v25.B v25.d).toArray, .int .i64 ((verifyD p hh (decS t).1 (t.drop (decS t).2.1.toNat)).1), .int .i64 0]) (gRes3 rfl (gResAg (cs := hcs v25.h v25.A v25.c v25.B v25.d) 1 hm45 rfl Ty.ag_voxel_api_Header rfl (lg_)) (gResTmp (t := 7) (v := .int .i64 ((verifyD p hh (decS t).1 (t.drop (decS t).2.1.toNat)).1)) (lg_)) (gResTmp (t := 8) (v := .int .i64 0) (lg_))) rfl ?_
    have hfin_ : vfV p hh t = _ := vfV_ok h17 h34 h43
    exact ⟨v25, by rw [hfin_, hv25_], by first | (rw [hfin_]; done) | (rw [hfin_]; rfl), (Mem.lv ((Mem.tailN (T := (lvRes [v25] ++ lvRes [])) 5 hm45 rfl).sub (L' := lvRes [v25]) (lf_))) v25 List.mem_cons_self, hA2_, hB2_, hm45.bel⟩
   refine litVal (v := .bool true) rfl (wn rfl) (boolTo (by rw [decide_eq_false h43]; rfl) (neqRun (A := ((verifyD p hh (decS t).1 (t.drop (decS t).2.1.toNat)).2)) (B := 0) (.tmp 45) (.const (.int .i64 0)) rfl le_ le_)) rfl (by decide) ?_
   refine plD ?_
   refine tn_ hK42 ?_
   refine wp_cond_true le_ ?_
   refine wp_seq_k fun K47 hK47 => ?_
   refine plStart ?_
   refine lk_ (.agg ([.int .i64 0, .slice none 0 0, .int .i64 0, .slice none 0 0]).toArray) ?_
   refine lk_ (.int .i64 ((verifyD p hh (decS t).1 (t.drop (decS t).2.1.toNat)).2)) ?_
   refine plStore 1 Ty.ag_voxel_api_Header hm39 rfl (i := 2) (cs := [.int .i64 0, .slice none 0 0, .int .i64 0, .slice none 0 0]) rfl (wn rfl) rfl le_ le_ rfl rfl kr_ ?_
   intro w49 hm48
   clear hm39
   try simp only [lc1_, lc2_, lc3_, lc4_] at hm48
   refine qNone rfl ?_
   refine lk_ (.int .i64 0) ?_
   refine lk_ (.int .i64 ((verifyD p hh (decS t).1 (t.drop (decS t).2.1.toNat)).2)) ?_
   refine plD ?_
   refine tn_ hK47 ?_
   refine wp_ret ?_
   refine then_ret ?_
   refine bodyPost_ret (v := .tuple #[.agg ([.int .i64 0, .slice none 0 0, .int .i64 0, .slice none 0 0]).toArray, .int .i64 0, .int .i64 ((verifyD p hh (decS t).1 (t.drop (decS t).2.1.toNat)).2)]) (gRes3 rfl (gResAg (cs := [.int .i64 0, .slice none 0 0, .int .i64 0, .slice none 0 0]) 1 hm48 rfl Ty.ag_voxel_api_Header rfl (lg_)) (gResTmp (t := 7) (v := .int .i64 0) (lg_)) (gResTmp (t := 8) (v := .int .i64 ((verifyD p hh (decS t).1 (t.drop (decS t).2.1.toNat)).2)) (lg_))) rfl ?_
   have hfin_ : vfV p hh t = _ := vfV_c h17 h34 h43
   exact ⟨⟨0, 0, hd0, none, 0, none, 0⟩, by rw [hfin_], by first | (rw [hfin_]; done) | (rw [hfin_]; rfl), ⟨Rd.nil _ _ 1, Rd.nil _ _ 16⟩, NewA.none _, NewA.none _, hm48.bel⟩
  refine litVal (v := .bool true) rfl (wn rfl) (boolTo (by rw [decide_eq_false h34]; rfl) (neqRun (A := ((decH (decS t).1).2)) (B := 0) (.tmp 31) (.const (.int .i64 0)) rfl le_ le_)) rfl (by decide) ?_
  refine plD ?_
  refine tn_ hK33 ?_
  refine wp_cond_true le_ ?_
  refine wp_seq_k fun K50 hK50 => ?_
  refine plStart ?_
  refine lk_ (.agg ([.int .i64 0, .slice none 0 0, .int .i64 0, .slice none 0 0]).toArray) ?_
  refine lk_ (.int .i64 ((decH (decS t).1).2)) ?_
  refine plStore 1 Ty.ag_voxel_api_Header hm29 rfl (i := 2) (cs := [.int .i64 0, .slice none 0 0, .int .i64 0, .slice none 0 0]) rfl (wn rfl) rfl le_ le_ rfl rfl kr_ ?_
  intro w52 hm51
  clear hm29
  try simp only [lc1_, lc2_, lc3_, lc4_] at hm51
  refine qNone rfl ?_
  refine lk_ (.int .i64 0) ?_
  refine lk_ (.int .i64 ((decH (decS t).1).2)) ?_
  refine plD ?_
  refine tn_ hK50 ?_
  refine wp_ret ?_
  refine then_ret ?_
  refine bodyPost_ret (v := .tuple #[.agg ([.int .i64 0, .slice none 0 0, .int .i64 0, .slice none 0 0]).toArray, .int .i64 0, .int .i64 ((decH (decS t).1).2)]) (gRes3 rfl (gResAg (cs := [.int .i64 0, .slice none 0 0, .int .i64 0, .slice none 0 0]) 1 hm51 rfl Ty.ag_voxel_api_Header rfl (lg_)) (gResTmp (t := 7) (v := .int .i64 0) (lg_)) (gResTmp (t := 8) (v := .int .i64 ((decH (decS t).1).2)) (lg_))) rfl ?_
  have hfin_ : vfV p hh t = _ := vfV_b h17 h34
  exact ⟨⟨0, 0, hd0, none, 0, none, 0⟩, by rw [hfin_], by first | (rw [hfin_]; done) | (rw [hfin_]; rfl), ⟨Rd.nil _ _ 1, Rd.nil _ _ 16⟩, NewA.none _, NewA.none _, hm51.bel⟩
 refine litVal (v := .bool true) rfl (wn rfl) (boolTo (by rw [decide_eq_false h17]; rfl) (neqRun (A := ((decS t).2.2)) (B := 0) (.tmp 21) (.const (.int .i64 0)) rfl le_ le_)) rfl (by decide) ?_
 refine plD ?_
 refine tn_ hK16 ?_
 refine wp_cond_true le_ ?_
 refine wp_seq_k fun K53 hK53 => ?_
 refine plStart ?_
 refine lk_ (.agg ([.int .i64 0, .slice none 0 0, .int .i64 0, .slice none 0 0]).toArray) ?_
 refine lk_ (.int .i64 ((decS t).2.2)) ?_
 refine plStore 1 Ty.ag_voxel_api_Header hm12 rfl (i := 2) (cs := [.int .i64 0, .slice none 0 0, .int .i64 0, .slice none 0 0]) rfl (wn rfl) rfl le_ le_ rfl rfl kr_ ?_
 intro w55 hm54
 clear hm12
 try simp only [lc1_, lc2_, lc3_, lc4_] at hm54
 refine qNone rfl ?_
 refine lk_ (.int .i64 0) ?_
 refine lk_ (.int .i64 ((decS t).2.2)) ?_
 refine plD ?_
 refine tn_ hK53 ?_
 refine wpPrune [(1, .int .i64 hh), (2, .string ⟨t.toArray⟩), (3, .pointer (some ⟨g2, 0, none⟩)), (6, .pointer (some ⟨g5, 0, none⟩)), (7, .int .i64 0), (8, .int .i64 ((decS t).2.2)), (9, .string ⟨((decS t).1).toArray⟩), (10, .int .i64 ((decS t).2.1)), (11, .int .i64 ((decS t).2.2))] ⟨lg_, ⟨lg_, ⟨lg_, ⟨lg_, ⟨lg_, ⟨lg_, ⟨lg_, ⟨lg_, ⟨lg_, trivial⟩⟩⟩⟩⟩⟩⟩⟩⟩ (fun X56 => ?_)
 refine wp_ret ?_
 refine then_ret ?_
 refine bodyPost_ret (v := .tuple #[.agg ([.int .i64 0, .slice none 0 0, .int .i64 0, .slice none 0 0]).toArray, .int .i64 0, .int .i64 ((decS t).2.2)]) (gRes3 rfl (gResAg (cs := [.int .i64 0, .slice none 0 0, .int .i64 0, .slice none 0 0]) 1 hm54 rfl Ty.ag_voxel_api_Header rfl (lg_)) (gResTmp (t := 7) (v := .int .i64 0) (lg_)) (gResTmp (t := 8) (v := .int .i64 ((decS t).2.2)) (lg_))) rfl ?_
 have hfin_ : vfV p hh t = _ := vfV_a h17
 exact ⟨⟨0, 0, hd0, none, 0, none, 0⟩, by rw [hfin_], by first | (rw [hfin_]; done) | (rw [hfin_]; rfl), ⟨Rd.nil _ _ 1, Rd.nil _ _ 16⟩, NewA.none _, NewA.none _, hm54.bel⟩
theorem rvverify_any (p : List UInt8) (hh : Int) (t : List UInt8) (w : World) (ht : TabsR w) (hp : p.length = 16) (htl : t.length ≤ 1000000) : Calls Tryz.prog 10 #[.agg (bcs p).toArray, .int .i64 hh, .string ⟨t.toArray⟩] w (fun e w' => ∃ v : Lv, v.h = (vfV p hh t).1 ∧ e = .returned (.agg (hcs v.h v.A v.c v.B v.d ++ ([.int .i64 (vfV p hh t).2.1, .int .i64 (vfV p hh t).2.2] : List Value)).toArray) ∧ v.At w' ∧ NewA w.heap.size v.A ∧ NewA w.heap.size v.B ∧ Below w.heap.size w w') := by
 have hm0 := Mem.ofLv (l := []) (w := w) (fun _ h_ => by cases h_)
 go_enter Tryz.func10, Tryz.ntmps10
 refine litStart 52 [(0, .agg (bcs p).toArray), (1, .int .i64 hh), (2, .string ⟨t.toArray⟩)] kr_ (fun X0 => ?_)
 refine wp_seq_k fun K1 hK1 => ?_
 refine plStart ?_
 refine plBox hm0 (cs := bcs p) (i := 0) rfl (wn rfl) rfl le_ ?_
 intro g2 w4 hm3
 clear hm0
 try simp only [lc1_, lc2_, lc3_, lc4_] at hm3
 replace hm3 := Mem.insAt (M := (lvRes [])) 0 hm3
 simp only [List.insertIdx_succ_cons, List.insertIdx_zero] at hm3
 refine qP rfl ?_
 refine plAlloc (z := [.int .i64 0, .slice none 0 0, .int .i64 0, .slice none 0 0, .int .i64 0, .int .i64 0]) Ty.ag_voxel_voxelref18_Verified hm3 (i := 1) rfl (wn rfl) rfl ?_
 intro g5 w7 hm6
 clear hm3
 try simp only [lc1_, lc2_, lc3_, lc4_] at hm6
 replace hm6 := Mem.insAt (M := ((.arr g2 27 (bcs p)) :: lvRes [])) 1 hm6
 simp only [List.insertIdx_succ_cons, List.insertIdx_zero] at hm6
 refine qP rfl ?_
 refine plD ?_
 refine tn_ hK1 ?_
 refine wp_seq_k fun K8 hK8 => ?_
 refine plStart ?_
 refine lk_ (.string ⟨t.toArray⟩) ?_
 refine plConvB (e := 5) t kr_ kr_ kr_ (by have q_ := (decSf t).2; unfold maxLen; omega) hm6 (i := 1) rfl (wn rfl) rfl le_ ?_
 intro g9 c10 w11 hm12
 clear hm6
 try simp only [lc1_, lc2_, lc3_, lc4_] at hm12
 replace hm12 := Mem.insAt (M := ((.arr g2 27 (bcs p)) :: (.arr g5 36 ([.int .i64 0, .slice none 0 0, .int .i64 0, .slice none 0 0, .int .i64 0, .int .i64 0])) :: lvRes [])) 2 hm12
 simp only [List.insertIdx_succ_cons, List.insertIdx_zero] at hm12
 refine qP rfl ?_
 refine plCall (i := 2) 36 [.slice (some ⟨g9, 0, none⟩) t.length c10] [] [] rfl kr_ (wn rfl) rfl le_ (litArgs kr_) (by exact refGetBytes_any t (some ⟨g9, 0, none⟩) _ c10 _ _ (hm12.rd 2 rfl)) ?_
 rintro e w13 ⟨rfl, rfl⟩
 refine ⟨_, rfl, ?_⟩
 refine qP rfl ?_
 refine lk_ (.tuple #[.string ⟨((decS t).1).toArray⟩, .int .i64 ((decS t).2.1), .int .i64 ((decS t).2.2)]) ?_
 refine lk_ (.string ⟨((decS t).1).toArray⟩) ?_
 refine lk_ (.int .i64 ((decS t).2.1)) ?_
 refine lk_ (.int .i64 ((decS t).2.2)) ?_
 refine lk_ (.string ⟨((decS t).1).toArray⟩) ?_
 refine lk_ (.int .i64 ((decS t).2.1)) ?_
 refine lk_ (.int .i64 ((decS t).2.2)) ?_
 refine plD ?_
 refine tn_ hK8 ?_
 refine wp_seq_k fun K15 hK15 => ?_
 refine wp_seq_k fun K16 hK16 => ?_
 refine plStart ?_
 refine lk_ (.int .i64 ((decS t).2.2)) ?_
 by_cases h17 : ((decS t).2.2) = 0
 ·refine litVal (v := .bool false) rfl (wn rfl) (boolTo (by rw [decide_eq_true h17]; rfl) (neqRun (A := ((decS t).2.2)) (B := 0) (.tmp 21) (.const (.int .i64 0)) rfl le_ le_)) rfl (by decide) ?_
  refine plD ?_
  refine tn_ hK16 ?_
  refine wp_cond_false le_ ?_
  refine wp_skip ?_
  refine tn_ hK15 ?_
  refine wp_seq_k fun K18 hK18 => ?_
  refine plStart ?_
  refine lk_ (.string ⟨((decS t).1).toArray⟩) ?_
  refine plConvB (e := 5) ((decS t).1) kr_ kr_ kr_ (by have q_ := (decSf t).2; unfold maxLen; omega) hm12 (i := 1) rfl (wn rfl) rfl le_ ?_
  intro g19 c20 w21 hm22
  clear hm12
  try simp only [lc1_, lc2_, lc3_, lc4_] at hm22
  replace hm22 := Mem.insAt (M := ((.arr g2 27 (bcs p)) :: (.arr g5 36 ([.int .i64 0, .slice none 0 0, .int .i64 0, .slice none 0 0, .int .i64 0, .int .i64 0])) :: (.rd (some ⟨g9, 0, none⟩) 1 t.length c10 (bcs t)) :: lvRes [])) 3 hm22
  simp only [List.insertIdx_succ_cons, List.insertIdx_zero] at hm22
  refine qP rfl ?_
  refine plCall (i := 2) 37 [.slice (some ⟨g19, 0, none⟩) (((decS t).1).length) c20] [] [] rfl kr_ (wn rfl) rfl le_ (litArgs kr_) (by exact rdecode_any (decS t).1 (some ⟨g19, 0, none⟩) c20 _ (hm22.rd 3 rfl) (by have q_ := (decSf t).2; omega)) ?_
  rintro e w23 ⟨A_, c_, B_, d_, rfl, ha_, hb_, hA_, hB_, hbz⟩
  obtain ⟨v25, hv25_, rfl, rfl, rfl, rfl, hat_⟩ : ∃ v_ : Lv, v_.h = (decH (decS t).1).1 ∧ v_.A = A_ ∧ v_.c = c_ ∧ v_.B = B_ ∧ v_.d = d_ ∧ v_.At w23 := ⟨⟨0, 0, (decH (decS t).1).1, A_, c_, B_, d_⟩, rfl, rfl, rfl, rfl, rfl, ⟨ha_, hb_⟩⟩
  rw [← hv25_] at ha_ hb_ ⊢
  have hA2_ := hA_.mono hm22.bel.size
  have hB2_ := hB_.mono hm22.bel.size
  have hm24 := Mem.newLv (lx := []) (M := lvRes []) [.arr g2 27 (bcs p), .arr g5 36 ([.int .i64 0, .slice none 0 0, .int .i64 0, .slice none 0 0, .int .i64 0, .int .i64 0]), .rd (some ⟨g9, 0, none⟩) 1 t.length c10 (bcs t), .rd (some ⟨g19, 0, none⟩) 1 (((decS t).1).length) c20 (bcs ((decS t).1))] hm22 hbz hat_ (Or.inr ⟨hA_, hB_⟩) hdNone (fun _ h_ => lvRes_mut h_)
  simp only [List.cons_append, List.nil_append] at hm24
  clear hm22
  clear hat_ hA_ hB_ hbz ha_ hb_
  refine ⟨_, rfl, ?_⟩
  refine qP rfl ?_
  refine lk_ (.tuple #[.agg (hcs v25.h v25.A v25.c v25.B v25.d).toArray, .int .i64 ((decH (decS t).1).2)]) ?_
  refine lk_ (.agg (hcs v25.h v25.A v25.c v25.B v25.d).toArray) ?_
  refine lk_ (.int .i64 ((decH (decS t).1).2)) ?_
  refine plAlloc (z := [.int .i64 0, .slice none 0 0, .int .i64 0, .slice none 0 0]) Ty.ag_voxel_api_Header hm24 (i := 6) rfl (wn rfl) rfl ?_
  intro g26 w28 hm27
  clear hm24
  try simp only [lc1_, lc2_, lc3_, lc4_] at hm27
  replace hm27 := Mem.insAt (M := ((.arr g2 27 (bcs p)) :: (.arr g5 36 ([.int .i64 0, .slice none 0 0, .int .i64 0, .slice none 0 0, .int .i64 0, .int .i64 0])) :: (.rd (some ⟨g9, 0, none⟩) 1 t.length c10 (bcs t)) :: (.rd (some ⟨g19, 0, none⟩) 1 (((decS t).1).length) c20 (bcs ((decS t).1))) :: (lvRes [v25] ++ lvRes []))) 4 hm27
  simp only [List.insertIdx_succ_cons, List.insertIdx_zero] at hm27
  refine qP rfl ?_
  refine plStore 4 Ty.ag_voxel_api_Header hm27 rfl (i := 7) (cs := hcs v25.h v25.A v25.c v25.B v25.d) rfl (wn rfl) rfl le_ le_ rfl rfl kr_ ?_
  intro w30 hm29
  clear hm27
  try simp only [lc1_, lc2_, lc3_, lc4_] at hm29
  refine qNone rfl ?_
  refine lk_ (.int .i64 ((decH (decS t).1).2)) ?_
  refine plD ?_
  refine tn_ hK18 ?_
  refine wpPrune [(1, .int .i64 hh), (2, .string ⟨t.toArray⟩), (3, .pointer (some ⟨g2, 0, none⟩)), (6, .pointer (some ⟨g5, 0, none⟩)), (7, .string ⟨((decS t).1).toArray⟩), (8, .int .i64 ((decS t).2.1)), (10, .pointer (some ⟨g26, 0, none⟩)), (11, .int .i64 ((decH (decS t).1).2))] ⟨lg_, ⟨lg_, ⟨lg_, ⟨lg_, ⟨lg_, ⟨lg_, ⟨lg_, ⟨lg_, trivial⟩⟩⟩⟩⟩⟩⟩⟩ (fun X31 => ?_)
  refine wp_seq_k fun K32 hK32 => ?_
  refine wp_seq_k fun K33 hK33 => ?_
  refine plStart ?_
  refine lk_ (.int .i64 ((decH (decS t).1).2)) ?_
  by_cases h34 : ((decH (decS t).1).2) = 0
  ·refine litVal (v := .bool false) rfl (wn rfl) (boolTo (by rw [decide_eq_true h34]; rfl) (neqRun (A := ((decH (decS t).1).2)) (B := 0) (.tmp 31) (.const (.int .i64 0)) rfl le_ le_)) rfl (by decide) ?_
   refine plD ?_
   refine tn_ hK33 ?_
   refine wp_cond_false le_ ?_
   refine wp_skip ?_
   refine tn_ hK32 ?_
   refine wp_seq_k fun K35 hK35 => ?_
   refine mgStart hm29 kr_ ?_
   intro w37 hm36
   clear hm29
   refine mgTake (i := 0) (v := .agg (bcs p).toArray) rfl kr_ (wn rfl) (fun _ _ _ h => h) hm36 (fun w_ h_ => gLoadAg (vs := bcs p) (k := 0) 0 h_ rfl (by rw [List.drop_zero]; exact List.take_of_length_le (Nat.le_of_eq (by rw [bcs_length]; exact hp))) (by rw [bcs_length]; exact hp) (.tmp 3) Ty.ag_voxel_api_Digest rfl le_) ?_
   refine mP rfl ?_
   refine mk_ (i := 1) (v := .int .i64 hh) rfl rfl (fun _ _ _ h => h) hm36 rfl ?_
   refine mk_ (i := 2) (v := .string ⟨((decS t).1).toArray⟩) rfl rfl (fun _ _ _ h => h) hm36 rfl ?_
   refine mk_ (i := 3) (v := .string ⟨t.toArray⟩) rfl rfl (fun _ _ _ h => h) hm36 rfl ?_
   refine mk_ (i := 4) (v := .int .i64 ((decS t).2.1)) rfl rfl (fun _ _ _ h => h) hm36 rfl ?_
   refine mgTake (i := 5) (v := .string ⟨(t.drop ((decS t).2.1.toNat)).toArray⟩) rfl kr_ (wn rfl) (fun _ _ _ h => h) hm36 (fun w_ h_ => slStrLRun (kl := .i64) (L := ((decS t).2.1)) (.tmp 39) (.tmp 40) t ((decS t).2.1.toNat) rfl le_ le_ (by have q_ := (decSf t).1 h17; omega) (by have q_ := (decSf t).1 h17; omega) kr_) ?_
   refine mP rfl ?_
   refine mgCall (i := 6) 38 [.agg (bcs p).toArray, .int .i64 hh, .string ⟨((decS t).1).toArray⟩, .string ⟨(t.drop ((decS t).2.1.toNat)).toArray⟩] [] [] kr_ rfl kr_ (wn rfl) rfl le_ (litArgs kr_) (refVerify_any p hh (decS t).1 (t.drop (decS t).2.1.toNat) _ (ht.below hm36.bel ht.size) hp (by have q_ := (decSf t).2; omega) (by rw [List.length_drop]; omega)) ?_
   rintro e w38 ⟨rfl, hbz⟩
   have hm39 := hm36.below hbz
   clear hbz hm36
   refine ⟨_, rfl, hm39, ?_⟩
   refine mP rfl ?_
   refine mk_ (i := 7) (v := .tuple #[.int .i64 ((verifyD p hh (decS t).1 (t.drop (decS t).2.1.toNat)).1), .int .i64 ((verifyD p hh (decS t).1 (t.drop (decS t).2.1.toNat)).2)]) rfl rfl (fun _ _ _ h => h) hm39 rfl ?_
   refine mk_ (i := 8) (v := .int .i64 ((verifyD p hh (decS t).1 (t.drop (decS t).2.1.toNat)).1)) rfl rfl (fun _ _ _ h => h) hm39 rfl ?_
   refine mk_ (i := 9) (v := .int .i64 ((verifyD p hh (decS t).1 (t.drop (decS t).2.1.toNat)).2)) rfl rfl (fun _ _ _ h => h) hm39 rfl ?_
   refine mk_ (i := 10) (v := .int .i64 ((verifyD p hh (decS t).1 (t.drop (decS t).2.1.toNat)).1)) rfl rfl (fun _ _ _ h => h) hm39 rfl ?_
   refine mk_ (i := 11) (v := .int .i64 ((verifyD p hh (decS t).1 (t.drop (decS t).2.1.toNat)).2)) rfl rfl (fun _ _ _ h => h) hm39 rfl ?_
   refine mgDone kr_ ?_
   refine tn_ hK35 ?_
   refine wpPrune [(6, .pointer (some ⟨g5, 0, none⟩)), (10, .pointer (some ⟨g26, 0, none⟩)), (12, .int .i64 ((verifyD p hh (decS t).1 (t.drop (decS t).2.1.toNat)).1)), (13, .int .i64 ((verifyD p hh (decS t).1 (t.drop (decS t).2.1.toNat)).2))] ⟨lg_, ⟨lg_, ⟨lg_, ⟨lg_, trivial⟩⟩⟩⟩ (fun X40 => ?_)
   refine wp_seq_k fun K41 hK41 => ?_
   refine wp_seq_k fun K42 hK42 => ?_
   refine plStart ?_
   refine lk_ (.int .i64 ((verifyD p hh (decS t).1 (t.drop (decS t).2.1.toNat)).2)) ?_
   by_cases h43 : ((verifyD p hh (decS t).1 (t.drop (decS t).2.1.toNat)).2) = 0
   ·refine litVal (v := .bool false) rfl (wn rfl) (boolTo (by rw [decide_eq_true h43]; rfl) (neqRun (A := ((verifyD p hh (decS t).1 (t.drop (decS t).2.1.toNat)).2)) (B := 0) (.tmp 45) (.const (.int .i64 0)) rfl le_ le_)) rfl (by decide) ?_
    refine plD ?_
    refine tn_ hK42 ?_
    refine wp_cond_false le_ ?_
    refine wp_skip ?_
    refine tn_ hK41 ?_
    refine wp_seq_k fun K44 hK44 => ?_
    refine plStart ?_
    refine litVal (v := .agg (hcs v25.h v25.A v25.c v25.B v25.d).toArray) rfl (wn rfl) (gLoadAg (vs := hcs v25.h v25.A v25.c v25.B v25.d) (k := 0) 4 hm39 rfl kr_ kr_ (.tmp 10) Ty.ag_voxel_api_Header rfl le_) rfl (by decide) ?_
    refine lk_ (.int .i64 ((verifyD p hh (decS t).1 (t.drop (decS t).2.1.toNat)).1)) ?_
    refine lk_ (.agg ([.int .i64 v25.h.tick, .slice v25.A v25.h.counts.length v25.c, .int .i64 v25.h.depth, .slice v25.B v25.h.rn v25.d, .int .i64 ((verifyD p hh (decS t).1 (t.drop (decS t).2.1.toNat)).1), .int .i64 0]).toArray) ?_
    refine plStore 1 Ty.ag_voxel_voxelref18_Verified hm39 rfl (i := 3) (cs := [.int .i64 v25.h.tick, .slice v25.A v25.h.counts.length v25.c, .int .i64 v25.h.depth, .slice v25.B v25.h.rn v25.d, .int .i64 ((verifyD p hh (decS t).1 (t.drop (decS t).2.1.toNat)).1), .int .i64 0]) rfl (wn rfl) rfl le_ le_ rfl rfl kr_ ?_
    intro w46 hm45
    clear hm39
    try simp only [lc1_, lc2_, lc3_, lc4_] at hm45
    refine qNone rfl ?_
    refine plD ?_
    refine tn_ hK44 ?_
    refine wp_ret ?_
    refine bodyPost_ret (v := .agg ([.int .i64 v25.h.tick, .slice v25.A v25.h.counts.length v25.c, .int .i64 v25.h.depth, .slice v25.B v25.h.rn v25.d, .int .i64 ((verifyD p hh (decS t).1 (t.drop (decS t).2.1.toNat)).1), .int .i64 0]).toArray) (gRes1 rfl (gResAg (cs := [.int .i64 v25.h.tick, .slice v25.A v25.h.counts.length v25.c, .int .i64 v25.h.depth, .slice v25.B v25.h.rn v25.d, .int .i64 ((verifyD p hh (decS t).1 (t.drop (decS t).2.1.toNat)).1), .int .i64 0]) 1 hm45 rfl Ty.ag_voxel_voxelref18_Verified rfl (lg_))) rfl ?_
    have hfin_ : vfV p hh t = _ := vfV_ok h17 h34 h43
    exact ⟨v25, by rw [hfin_, hv25_], by first | (rw [hfin_]; done) | (rw [hfin_]; rfl), (Mem.lv ((Mem.tailN (T := (lvRes [v25] ++ lvRes [])) 5 hm45 rfl).sub (L' := lvRes [v25]) (lf_))) v25 List.mem_cons_self, hA2_, hB2_, hm45.bel⟩
   refine litVal (v := .bool true) rfl (wn rfl) (boolTo (by rw [decide_eq_false h43]; rfl) (neqRun (A := ((verifyD p hh (decS t).1 (t.drop (decS t).2.1.toNat)).2)) (B := 0) (.tmp 45) (.const (.int .i64 0)) rfl le_ le_)) rfl (by decide) ?_
   refine plD ?_
   refine tn_ hK42 ?_
   refine wp_cond_true le_ ?_
   refine wp_seq_k fun K47 hK47 => ?_
   refine plStart ?_
   refine lk_ (.int .i64 ((verifyD p hh (decS t).1 (t.drop (decS t).2.1.toNat)).2)) ?_
   refine lk_ (.agg ([.int .i64 0, .slice none 0 0, .int .i64 0, .slice none 0 0, .int .i64 0, .int .i64 ((verifyD p hh (decS t).1 (t.drop (decS t).2.1.toNat)).2)]).toArray) ?_
   refine plStore 1 Ty.ag_voxel_voxelref18_Verified hm39 rfl (i := 2) (cs := [.int .i64 0, .slice none 0 0, .int .i64 0, .slice none 0 0, .int .i64 0, .int .i64 ((verifyD p hh (decS t).1 (t.drop (decS t).2.1.toNat)).2)]) rfl (wn rfl) rfl le_ le_ rfl rfl kr_ ?_
   intro w49 hm48
   clear hm39
   try simp only [lc1_, lc2_, lc3_, lc4_] at hm48
   refine qNone rfl ?_
   refine plD ?_
   refine tn_ hK47 ?_
   refine wp_ret ?_
   refine then_ret ?_
   refine bodyPost_ret (v := .agg ([.int .i64 0, .slice none 0 0, .int .i64 0, .slice none 0 0, .int .i64 0, .int .i64 ((verifyD p hh (decS t).1 (t.drop (decS t).2.1.toNat)).2)]).toArray) (gRes1 rfl (gResAg (cs := [.int .i64 0, .slice none 0 0, .int .i64 0, .slice none 0 0, .int .i64 0, .int .i64 ((verifyD p hh (decS t).1 (t.drop (decS t).2.1.toNat)).2)]) 1 hm48 rfl Ty.ag_voxel_voxelref18_Verified rfl (lg_))) rfl ?_
   have hfin_ : vfV p hh t = _ := vfV_c h17 h34 h43
   exact ⟨⟨0, 0, hd0, none, 0, none, 0⟩, by rw [hfin_], by first | (rw [hfin_]; done) | (rw [hfin_]; rfl), ⟨Rd.nil _ _ 1, Rd.nil _ _ 16⟩, NewA.none _, NewA.none _, hm48.bel⟩
  refine litVal (v := .bool true) rfl (wn rfl) (boolTo (by rw [decide_eq_false h34]; rfl) (neqRun (A := ((decH (decS t).1).2)) (B := 0) (.tmp 31) (.const (.int .i64 0)) rfl le_ le_)) rfl (by decide) ?_
  refine plD ?_
  refine tn_ hK33 ?_
  refine wp_cond_true le_ ?_
  refine wp_seq_k fun K50 hK50 => ?_
  refine plStart ?_
  refine lk_ (.int .i64 ((decH (decS t).1).2)) ?_
  refine lk_ (.agg ([.int .i64 0, .slice none 0 0, .int .i64 0, .slice none 0 0, .int .i64 0, .int .i64 ((decH (decS t).1).2)]).toArray) ?_
  refine plStore 1 Ty.ag_voxel_voxelref18_Verified hm29 rfl (i := 2) (cs := [.int .i64 0, .slice none 0 0, .int .i64 0, .slice none 0 0, .int .i64 0, .int .i64 ((decH (decS t).1).2)]) rfl (wn rfl) rfl le_ le_ rfl rfl kr_ ?_
  intro w52 hm51
  clear hm29
  try simp only [lc1_, lc2_, lc3_, lc4_] at hm51
  refine qNone rfl ?_
  refine plD ?_
  refine tn_ hK50 ?_
  refine wp_ret ?_
  refine then_ret ?_
  refine bodyPost_ret (v := .agg ([.int .i64 0, .slice none 0 0, .int .i64 0, .slice none 0 0, .int .i64 0, .int .i64 ((decH (decS t).1).2)]).toArray) (gRes1 rfl (gResAg (cs := [.int .i64 0, .slice none 0 0, .int .i64 0, .slice none 0 0, .int .i64 0, .int .i64 ((decH (decS t).1).2)]) 1 hm51 rfl Ty.ag_voxel_voxelref18_Verified rfl (lg_))) rfl ?_
  have hfin_ : vfV p hh t = _ := vfV_b h17 h34
  exact ⟨⟨0, 0, hd0, none, 0, none, 0⟩, by rw [hfin_], by first | (rw [hfin_]; done) | (rw [hfin_]; rfl), ⟨Rd.nil _ _ 1, Rd.nil _ _ 16⟩, NewA.none _, NewA.none _, hm51.bel⟩
 refine litVal (v := .bool true) rfl (wn rfl) (boolTo (by rw [decide_eq_false h17]; rfl) (neqRun (A := ((decS t).2.2)) (B := 0) (.tmp 21) (.const (.int .i64 0)) rfl le_ le_)) rfl (by decide) ?_
 refine plD ?_
 refine tn_ hK16 ?_
 refine wp_cond_true le_ ?_
 refine wp_seq_k fun K53 hK53 => ?_
 refine plStart ?_
 refine lk_ (.int .i64 ((decS t).2.2)) ?_
 refine lk_ (.agg ([.int .i64 0, .slice none 0 0, .int .i64 0, .slice none 0 0, .int .i64 0, .int .i64 ((decS t).2.2)]).toArray) ?_
 refine plStore 1 Ty.ag_voxel_voxelref18_Verified hm12 rfl (i := 2) (cs := [.int .i64 0, .slice none 0 0, .int .i64 0, .slice none 0 0, .int .i64 0, .int .i64 ((decS t).2.2)]) rfl (wn rfl) rfl le_ le_ rfl rfl kr_ ?_
 intro w55 hm54
 clear hm12
 try simp only [lc1_, lc2_, lc3_, lc4_] at hm54
 refine qNone rfl ?_
 refine plD ?_
 refine tn_ hK53 ?_
 refine wpPrune [(1, .int .i64 hh), (2, .string ⟨t.toArray⟩), (3, .pointer (some ⟨g2, 0, none⟩)), (6, .pointer (some ⟨g5, 0, none⟩)), (7, .string ⟨((decS t).1).toArray⟩), (8, .int .i64 ((decS t).2.1))] ⟨lg_, ⟨lg_, ⟨lg_, ⟨lg_, ⟨lg_, ⟨lg_, trivial⟩⟩⟩⟩⟩⟩ (fun X56 => ?_)
 refine wp_ret ?_
 refine then_ret ?_
 refine bodyPost_ret (v := .agg ([.int .i64 0, .slice none 0 0, .int .i64 0, .slice none 0 0, .int .i64 0, .int .i64 ((decS t).2.2)]).toArray) (gRes1 rfl (gResAg (cs := [.int .i64 0, .slice none 0 0, .int .i64 0, .slice none 0 0, .int .i64 0, .int .i64 ((decS t).2.2)]) 1 hm54 rfl Ty.ag_voxel_voxelref18_Verified rfl (lg_))) rfl ?_
 have hfin_ : vfV p hh t = _ := vfV_a h17
 exact ⟨⟨0, 0, hd0, none, 0, none, 0⟩, by rw [hfin_], by first | (rw [hfin_]; done) | (rw [hfin_]; rfl), ⟨Rd.nil _ _ 1, Rd.nil _ _ 16⟩, NewA.none _, NewA.none _, hm54.bel⟩
end Go.Proofs.YtgjgjimgomhbmaaGreatDoor
