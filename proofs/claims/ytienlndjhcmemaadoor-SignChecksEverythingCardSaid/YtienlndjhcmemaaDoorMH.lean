/-
  MH: several texts in one: SgRoot, SgRSign, SgRVerify, EqInts, Arith2, SgSanity, SgLawKit, Laid. No statement is proved here.
-/
import Derived.Test.YtienlndjhcmemaaDoorMG
import Derived.Test.YtienlndjhcmemaaDoorMD
import Derived.Test.YtienlndjhcmemaaDoorMA
import Derived.Laws.StructEq
import Derived.Test.YtienlndjhcmemaaDoorMF
import Derived.Test.YtienlndjhcmemaaDoorCards
import Derived.Test.YtienlndjhcmemaaDoorTie
import Derived.ProofKit
import Derived.OpenShut
import Derived.Deep.DeepHandedRow
import Derived.Lib.LaidTab
/-
  Root of the specification: what it returns.
-/
namespace Go.Proofs.YtienlndjhcmemaaDoor
open Go.RowKit

theorem slStrLRun {P : Program} {w : World} {o : Oper} {a : Act} {t : TypeId} {kl : IntKind} {L : Int} (x y : Operand) (l : List UInt8) (U : Nat)
    (ho : o.op = .slice t x (some y) none none) (hx : a.eval x = .string ⟨l.toArray⟩) (hh : a.eval y = .int kl L) (hL : L = (U : Int)) (h2 : U ≤ l.length) (ht : P.underlying t = some .string) :
    (execOp a.eval o).run P w = .ok (.value (.string ⟨(l.drop U).toArray⟩)) w := by
  subst hL
  unfold execOp
  have hs : (⟨l.toArray⟩ : ByteArray).size = l.length := by simp [ByteArray.size]
  have := run_slice_string_l (P := P) w t ⟨l.toArray⟩ ht kl (U : Int) (by omega) (by rw [hs]; omega)
  rw [Int.toNat_natCast, ext_drop] at this
  simp only [ho, hx, hh, Option.map_some, Option.map_none, Sem.run_bind, Sem.run_pure, run_sliceAt_string w t _ _ _ _ ht, this, Result.andThen_ok]
def GRoot (D r : List UInt8) (i j : Nat) (ix_ : Nat) (v : Value) (w : World) : Prop :=
  match ix_ with
  | 7 => v = .agg (bcs (part r j)).toArray
  | 10 => v = .int .i64 ((digAt D j : Nat) : Int)
  | 11 => v = .agg (bcs (endD i D r j)).toArray
  | 12 => ∃ g, v = .slice (some ⟨g, 0, none⟩) 1 1 ∧ Arr w g 23 (bcs (endD i D r j))
  | _ => True
set_option maxRecDepth 100000 in
set_option maxHeartbeats 2000000 in
theorem refRoot_any (p : List UInt8) (h i : Nat) (m r : List UInt8) (w : World) (ht : TabsR w) (hp : p.length = 16) (hm : m.length ≤ 100000000) (hh : h ≤ 6) (hi : i < 64) (hr : 16 * (35 + h) ≤ r.length) (hr2 : r.length ≤ 1000000) :
    Calls Tryd.prog 25 #[.agg (bcs p).toArray, .int .i64 (h : Int), .int .i64 (i : Int), sv m, sv r] w fun e w' => e = .returned (.agg (bcs (rootD h i (messageD p i m) r)).toArray) ∧ Below w.heap.size w w' := by
  have HPL := Lib.hid (show (bcs p).length = 16 by rw [bcs_length]; exact hp)
  have hdd : (messageD p i m).length = 16 := ofDig_len _ _
  have HMSG := Lib.hid (fun w' (h' : TabsR w') => refMessage_any p i m w' h' hp (isI64_nat (n := i) (by omega)) hm)
  have hi64 := isI64_nat (show i ≤ 1000000 by omega)
  have hg : w.heap.size ≤ w.heap.size := Nat.le_refl _
  clear hp
  unfold sv
  go_enter Tryd.func25, Tryd.ntmps25
  go_wp2_with (with_reducible refine bxArr (cs := bcs p) (.tmp 0) (wn rfl) rfl rfl ?_)
  intro w1 h5 hb
  have l5 : w.heap.size < w1.heap.size := h5.lt
  go_wp2_with (with_reducible refine alArr (z := zerosB 16) Tryd.ag_b16 (wn rfl) rfl ?_)
  intro w2 h10 b2
  have l10 : w1.heap.size < w2.heap.size := h10.lt
  replace h5 := h5.below b2 h5.lt
  replace hb := hb.trans (b2.mono hb.size)
  clear b2
  generalize w1.heap.size = g10 at *
  go_wp2_with (with_reducible refine ldArr (.tmp 5) Tryd.ag_b16 (wn rfl) rfl rfl HPL.out h5 ?_)
  have hmc := HMSG.out w2 (ht.below hb ht.size)
  refine hmc.mono ?_
  rintro e w3 ⟨rfl, b3⟩
  replace h10 := h10.below b3 h10.lt
  replace hb := hb.trans (b3.mono hb.size)
  obtain ⟨D, hD⟩ : ∃ D, D = messageD p i m := ⟨_, rfl⟩
  rw [← hD] at hdd
  rw [← hD]
  have HMD := Lib.hid hD
  clear hmc b3 hD HMSG h5
  go_wp2_with fail
  refine (refDigits_any D w3 hdd).mono ?_
  rintro e w4 ⟨rfl, b4⟩
  replace h10 := h10.below b4 h10.lt
  replace hb := hb.trans (b4.mono hb.size)
  clear b4
  have HDL := Lib.hid (show (ivs (digitsD D)).length = 35 by rw [ivs_len]; exact digitsD_len hdd)
  go_wp2_with (with_reducible refine alArr (z := zerosI 35) Tryd.ag_i35 (wn rfl) rfl ?_)
  intro w5 h11 b5
  have l11 : w.heap.size ≤ w4.heap.size := hb.size
  have e10 := h10.lt
  replace h10 := h10.below b5 e10
  replace hb := hb.trans (b5.mono hb.size)
  clear b5
  generalize w4.heap.size = g11 at *
  go_wp2_with (with_reducible refine stArr (cs := ivs (digitsD D)) (.tmp 11) (.tmp 22) Tryd.ag_i35 (wn rfl) rfl rfl rfl h11 (zerosI_len _) HDL.out (ivs_one _) ?_)
  intro w6 h11 hkeep hbel
  replace h10 := hkeep _ _ _ (by omega) h10
  replace hb := hb.trans (hbel _ l11)
  clear hkeep hbel
  have n11 := h11.lt
  have n10 := h10.lt
  go_wp2_with fail
  go_loopw [12, 13] (fun v12 v13 wr => ∃ j : Nat, j ≤ 35 ∧ v13 = .int .i64 j ∧ wr.ownsRow w6.heap.size 23 16 v12 j (bcs ((List.range j).map (endD i D r)).flatten) ∧ Below w6.heap.size w6 wr) (fun _ v13 _ => 35 - (intOf v13).toNat)
  case atStart => exact ⟨0, by omega, rfl, World.ownsRow_nil _ _ _ _, Below.refl _ _⟩
  case round =>
    obtain ⟨j, hj, rfl, hown, b6⟩ := hrel
    by_cases hlt : j < 35
    · have hrl : j * 16 + 16 ≤ r.length := by omega
      have HT := Lib.hid (range_map_next (endD i D r) j)
      have H16 := Lib.hid (show (bcs (endD i D r j)).length = 16 by rw [bcs_length]; exact endD_len hrl)
      have HDG := Lib.hid (show (ivs (digitsD D))[0 + j * 1]? = some (.int .i64 ((digAt D j : Nat) : Int)) by rw [Nat.zero_add, Nat.mul_one]; exact digits_get D hdd j hlt)
      have HCL : Hid (∀ w', TabsR w' → Calls Tryd.prog 31 #[.int .i64 (i : Int), .int .i64 (j : Int), .agg (bcs (part r j)).toArray, .int .i64 ((digAt D j : Nat) : Int), .int .i64 15] w' fun e w'' => e = .returned (.agg (bcs (endD i D r j)).toArray) ∧ Below w'.heap.size w' w'') := Lib.hid (fun w' h => refClimbTo i j (part r j) (digAt D j) w' h hi64 (isI64_nat (by omega)) (part_len hrl) (digAt_le _ _))
      have HDG1 : Hid (∀ w', Calls Tryd.prog 44 #[.string ⟨(r.drop (16 * j)).toArray⟩] w' fun e w'' => e = .returned (.agg (bcs (part r j)).toArray) ∧ Below w'.heap.size w' w'') := Lib.hid (fun w' => refDig_any (r.drop (16 * j)) w' (by rw [List.length_drop]; omega))
      clear hrl
      replace h11 := h11.below b6 n11
      go_wp2_with fail
      refine aStart (by kernel_rfl) ?_
      replace h11 := h11.drew
      replace hown : wr.drew.ownsRow w6.heap.size 23 16 u12 j (bcs ((List.range j).map (endD i D r)).flatten) := hown
      replace hb : Below w.heap.size w wr.drew := (hb.trans (b6.mono hb.size)).drew
      replace b6 := b6.drew
      generalize wr.drew = wd at *
      refine aTake (i := 0) (v := u12) rfl (by kernel_rfl) (wn rfl) (fun _ _ _ h => h) (fun w => by kernel_rfl) ?_
      refine aTake (i := 1) (v := .int .i64 (i : Int)) rfl (by kernel_rfl) (wn rfl) (fun _ _ _ h => h) (fun w => by kernel_rfl) ?_
      refine aTake (i := 2) (v := .int .i64 (j : Int)) rfl (by kernel_rfl) (wn rfl) (fun _ _ _ h => h) (fun w => by kernel_rfl) ?_
      refine aTake (i := 3) (v := .string ⟨r.toArray⟩) rfl (by kernel_rfl) (wn rfl) (fun _ _ _ h => h) (fun w => by kernel_rfl) ?_
      refine aTake (i := 4) (v := .int .i64 (j : Int)) rfl (by kernel_rfl) (wn rfl) (fun _ _ _ h => h) (fun w => by kernel_rfl) ?_
      refine aTake (i := 5) (v := .int .i64 ((16 * j : Nat) : Int)) rfl (by kernel_rfl) (wn rfl) (fun _ _ _ h => h) (fun w => mulRun (A := 16) (B := (j : Int)) (.const (.int .i64 16)) (.tmp 31) rfl rfl (by kernel_rfl) (by omega) (by omega)) ?_
      refine aTake (i := 6) (v := .string ⟨(r.drop (16 * j)).toArray⟩) rfl (by kernel_rfl) (wn rfl) (fun _ _ _ h => h) (fun w => slStrLRun (kl := .i64) (L := ((16 * j : Nat) : Int)) (.tmp 30) (.tmp 32) r (16 * j) rfl (by kernel_rfl) (by kernel_rfl) rfl (by omega) Tryd.und_str) ?_
      refine aTake (i := 8) (v := .int .i64 (j : Int)) rfl (by kernel_rfl) (wn rfl) (fun _ _ _ h => h) (fun w => by kernel_rfl) ?_
      refine aTake (i := 9) (v := .pointer (some ⟨g11, 0 + j * 1, none⟩)) rfl (by kernel_rfl) (wn rfl) (fun _ _ _ h => h) (fun w => iaRun (kk := .i64) (.tmp 11) (.tmp 35) j Tryd.arr_i35 (by kernel_rfl) rfl (by kernel_rfl) (by kernel_rfl) rfl hlt) ?_
      refine rgFloat [(7, 34), (10, 37), (11, 38), (12, 39)] (GRoot D r i j) _ 2 rfl (by kernel_rfl) ?mono ?step ?fin
      case mono =>
        intro p hp v w w' h hE
        simp only [List.mem_cons, List.not_mem_nil, or_false] at hp
        rcases hp with rfl | rfl | rfl | rfl
        · exact h
        · exact h
        · exact h
        · exact (by obtain ⟨g, e1, e2⟩ := h; exact ⟨g, e1, e2.below hE e2.lt⟩)
      case step =>
        intro p hp
        simp only [List.mem_cons, List.not_mem_nil, or_false] at hp
        rcases hp with rfl | rfl | rfl | rfl
        · refine ⟨_, rfl, rfl, fun a w' hF hE hG => ?_⟩
          refine callOp 44 [.string ⟨(r.drop (16 * j)).toArray⟩] [] [] (by kernel_rfl) (wn rfl) rfl rfl (by show [a.eval (.tmp 33)] = _; rw [hF.eval 33 (by kernel_rfl)]; first | done | kernel_rfl) ?_
          refine (HDG1.out w').mono ?_
          rintro e w2 ⟨rfl, hb2⟩
          exact ⟨_, rfl, ⟨_, rfl, hb2, rfl⟩⟩
        · refine ⟨_, rfl, rfl, fun a w' hF hE hG => ?_⟩
          refine ldOne (p := ⟨g11, 0 + j * 1, none⟩) (.tmp 36) (by kernel_rfl) (wn rfl) rfl ((hF.eval 36 (by kernel_rfl)).trans (by kernel_rfl)) ((h11.below hE h11.lt).cell (i := 0 + j * 1) HDG.out) ?_
          exact ⟨_, rfl, Below.refl _ _, rfl⟩
        · refine ⟨_, rfl, rfl, fun a w' hF hE hG => ?_⟩
          have hx34 : a.tmps.getD 34 undef = .agg (bcs (part r j)).toArray := hG (7, 34) (by simp) (by kernel_rfl)
          have hx37 : a.tmps.getD 37 undef = .int .i64 ((digAt D j : Nat) : Int) := hG (10, 37) (by simp) (by kernel_rfl)
          refine callOp 31 [.int .i64 (i : Int), .int .i64 (j : Int), .agg (bcs (part r j)).toArray, .int .i64 ((digAt D j : Nat) : Int), .int .i64 15] [] [] (by kernel_rfl) (wn rfl) rfl rfl (by show [a.eval (.tmp 28), a.eval (.tmp 29), a.tmps.getD 34 undef, a.tmps.getD 37 undef, a.eval (.const (.int .i64 15))] = _; rw [hF.eval 28 (by kernel_rfl), hF.eval 29 (by kernel_rfl), hx34, hx37]; first | done | kernel_rfl) ?_
          refine (HCL.out w' (ht.below (hb.trans (hE.mono hb.size)) ht.size)).mono ?_
          rintro e w2 ⟨rfl, hb2⟩
          exact ⟨_, rfl, ⟨_, rfl, hb2, rfl⟩⟩
        · refine ⟨_, rfl, rfl, fun a w' hF hE hG => ?_⟩
          refine bsAgg1 (.tmp 38) Tryd.sl_dig (wn rfl) rfl (show a.tmps.getD 38 undef = _ from hG (11, 38) (by simp) (by kernel_rfl)) (by rw [List.size_toArray]; exact H16.out) (by decide) ?_
          exact ⟨_, rfl, (Below.refl _ _).alloc (Nat.le_refl _) _, _, rfl, Arr.new w' _ _⟩
      case fin =>
        intro a wf hF hE hG
        obtain ⟨g39, q39, h39⟩ := hG (12, 39) (by simp)
        have hsz := hE.size
        have huf := ownsRow_below hown hE (Nat.le_refl _)
        replace b6 := b6.trans (hE.mono b6.size)
        rw [hF.eq]
        simp only [putsX]
        rw [q39]
        generalize a.tmps.getD 34 undef = x34
        generalize a.tmps.getD 37 undef = x37
        generalize a.tmps.getD 38 undef = x38
        clear hG hF q39 hown hE
        have hrd : Rd wf wf.heap.size 16 (some ⟨g39, 0, none⟩) 1 1 (bcs (endD i D r j)) := rd_of_arr h39 (fun _ _ h => h) H16.out (Nat.le_refl _) (by unfold maxLen; omega) h39.lt
        refine aNext (i := 13) (by kernel_rfl) rfl ?_
        refine appR (.tmp 27) (.tmp 39) Tryd.sl_dig (wn rfl) rfl (by kernel_rfl) (by kernel_rfl) huf hrd (bcs_one _) b6 (Nat.le_refl _) (by omega) (by omega) ?_
        intro v' w' h3 h4 _
        rw [← bcs_append, ← HT.out] at h3
        clear huf hrd
        refine aTake (i := 14) (v := v') rfl (by kernel_rfl) (wn rfl) (fun _ _ _ h => h) (fun w => by kernel_rfl) ?_
        refine aDone (by kernel_rfl) ?_
        simp only [Act.put, List.setIfInBounds_toArray, List.set_cons_succ, List.set_cons_zero]
        clear h39 b6 hb h10 h11
        go_wp2_with fail
        go_roundw
        case rel => exact ⟨j + 1, by omega, by go_num, h3, h4⟩
        case measure => (simp [intOf]; try omega)
    · obtain rfl : j = 35 := by omega
      clear hlt
      obtain ⟨A, c, rfl, hrd⟩ := Rd.of_own hown
      clear hown
      replace h10 := h10.below b6 h10.lt
      replace hb := hb.trans (b6.mono hb.size)
      have hFL : ((((List.range 35).map (endD i D r)).flatten)).length = 35 * 16 := range_map_len' _ 35 (fun j hj => endD_len (by omega))
      have hlf : ofDig 4 [encD 35 ((List.range 35).map (endD i D r)).flatten] = leafD ((List.range 35).map (endD i D r)) := by unfold leafD; rw [List.length_map, List.length_range]
      have hle : (encD 35 ((List.range 35).map (endD i D r)).flatten).length ≤ 1000 := Nat.le_trans (encD_le _ _) (by rw [hFL]; omega)
      have HLF := Lib.hid hlf
      clear hlf hFL b6 h11
      go_wp2_with fail
      refine (refLeaf_any _ A 35 c _ wr (ht.below hb ht.size) hrd (Nat.le_refl _) (by omega)).mono ?_
      rintro e w7 ⟨rfl, b7⟩
      rw [HLF.out]
      replace h10 := h10.below b7 h10.lt
      replace hb := hb.trans (b7.mono hb.size)
      clear b7 hrd hle
      obtain ⟨V, hV⟩ : ∃ V, V = leafD ((List.range 35).map (endD i D r)) := ⟨_, rfl⟩
      have hVL : V.length = 16 := by rw [hV]; exact ofDig_len _ _
      rw [← hV]
      have HV := Lib.hid hV
      have HV16 := Lib.hid hVL
      have HVL := Lib.hid (show (bcs V).length = 16 by rw [bcs_length]; exact hVL)
      clear hV hVL HLF
      go_wp2_with (with_reducible refine alArr (z := zerosB 16) Tryd.ag_b16 (wn rfl) rfl ?_)
      intro w8 h14 b8
      have l14 : w.heap.size ≤ w7.heap.size := hb.size
      replace n10 := h10.lt
      replace h10 := h10.below b8 n10
      replace hb := hb.trans (b8.mono hb.size)
      clear b8 n11
      generalize w7.heap.size = g14 at *
      go_wp2_with (with_reducible refine stArr (cs := bcs V) (.tmp 14) (.tmp 42) Tryd.ag_b16 (wn rfl) rfl rfl rfl h14 (zerosB_len _) HVL.out (bcs_one _) ?_)
      intro w9 h14 hkeep hbel
      replace h10 := hkeep _ _ _ (by omega) h10
      replace hb := hb.trans (hbel _ l14)
      clear hkeep hbel
      have h14' : Arr w9 g14 23 (bcs (upD h i r V 0)) := h14
      clear h14
      go_wp2_with fail
      go_loopw [15, 16] (fun v15 v16 wr => ∃ l : Nat, l ≤ h ∧ v16 = .int .i64 l ∧ v15 = .int .i64 ((i / 2 ^ l : Nat) : Int) ∧ Arr wr g10 23 (zerosB 16) ∧ Arr wr g14 23 (bcs (upD h i r V l)) ∧ Below w.heap.size w wr) (fun _ v16 _ => h - (intOf v16).toNat)
      case atStart => exact ⟨0, by omega, rfl, by simp, h10, h14', hb⟩
      case round =>
        clear h10 h14' hb
        obtain ⟨l, hl, rfl, rfl, h10, h14, hb⟩ := hrel
        by_cases hlt : l < h
        · have hPl : (part r (35 + l)).length = 16 := part_len (by omega)
          have hOl : (upD h i r V l).length = 16 := upD_len _ _ _ HV16.out _
          have hq : i / 2 ^ l / 2 = i / 2 ^ (l + 1) := by rw [Nat.div_div_eq_div_mul, Nat.pow_succ]
          have hx64 : i / 2 ^ l ≤ 64 := by have := Nat.div_le_self i (2 ^ l); omega
          have HUP := Lib.hid (show upD h i r V (l + 1) = if i / 2 ^ l % 2 = 1 then joinD ((l + 1 : Nat) : Int) ((i / 2 ^ (l + 1) : Nat) : Int) (part r (35 + l)) (upD h i r V l) else joinD ((l + 1 : Nat) : Int) ((i / 2 ^ (l + 1) : Nat) : Int) (upD h i r V l) (part r (35 + l)) from rfl)
          have HP := Lib.hid (show (bcs (part r (35 + l))).length = 16 by rw [bcs_length]; exact hPl)
          have HO := Lib.hid (show (bcs (upD h i r V l)).length = 16 by rw [bcs_length]; exact hOl)
          have HP16 := Lib.hid hPl
          have HO16 := Lib.hid hOl
          have HDG1 : Hid (∀ w', Calls Tryd.prog 44 #[.string ⟨(r.drop (16 * (35 + l))).toArray⟩] w' fun e w'' => e = .returned (.agg (bcs (part r (35 + l))).toArray) ∧ Below w'.heap.size w' w'') := Lib.hid (fun w' => refDig_any (r.drop (16 * (35 + l))) w' (by rw [List.length_drop]; omega))
          rw [← hq] at HUP
          clear hPl hOl hq
          obtain ⟨P, hP⟩ : ∃ P, P = part r (35 + l) := ⟨_, rfl⟩
          obtain ⟨O, hO⟩ : ∃ O, O = upD h i r V l := ⟨_, rfl⟩
          rw [← hP] at HUP HP HP16 HDG1
          rw [← hO] at HUP HO HO16 h14
          obtain ⟨x, hx⟩ : ∃ x, x = i / 2 ^ l := ⟨_, rfl⟩
          rw [← hx] at HUP hx64
          rw [← hx]
          have HX := Lib.hid hx
          clear hP hO hx
          go_wp2_with (with_reducible refine slStrL (.tmp 49) (.tmp 52) r (16 * (35 + l)) (wn rfl) rfl rfl rfl (by omega) (by omega) Tryd.und_str ?_)
          have hdc := HDG1.out wr
          refine hdc.mono ?_
          rintro e w1 ⟨rfl, b1⟩
          replace h10 := h10.below b1 h10.lt
          replace h14 := h14.below b1 h14.lt
          replace hb := hb.trans (b1.mono hb.size)
          clear b1 hdc
          go_wp2_with (with_reducible refine alArr (z := zerosB 16) Tryd.ag_b16 (wn rfl) rfl ?_)
          intro w2 h17 b2
          have l17 : w.heap.size ≤ w1.heap.size := hb.size
          have f10 := h10.lt
          have f14 := h14.lt
          replace h10 := h10.below b2 f10
          replace h14 := h14.below b2 f14
          replace hb := hb.trans (b2.mono hb.size)
          clear b2
          generalize w1.heap.size = g17 at *
          go_wp2_with (with_reducible refine stArr (cs := bcs P) (.tmp 17) (.tmp 54) Tryd.ag_b16 (wn rfl) rfl rfl rfl h17 (zerosB_len _) HP.out (bcs_one _) ?_)
          intro w3 h17 hkeep hbel
          replace h10 := hkeep _ _ _ (by omega) h10
          replace h14 := hkeep _ _ _ (by omega) h14
          replace hb := hb.trans (hbel _ l17)
          clear hkeep hbel
          by_cases hpar : x % 2 = 1
          · have HUPN := Lib.hid (show upD h i r V (l + 1) = joinD ((l + 1 : Nat) : Int) ((x / 2 : Nat) : Int) P O by rw [HUP.out, if_pos hpar])
            have HWL := Lib.hid (show (bcs (joinD ((l + 1 : Nat) : Int) ((x / 2 : Nat) : Int) P O)).length = 16 by rw [bcs_length]; exact ofDig_len _ _)
            have HJ : Hid (∀ w', TabsR w' → Calls Tryd.prog 46 #[.int .i64 ((l : Int) + 1), .int .i64 ((x : Int) / 2), .agg (bcs P).toArray, .agg (bcs O).toArray] w' fun e w'' => e = .returned (.agg (bcs (joinD ((l + 1 : Nat) : Int) ((x / 2 : Nat) : Int) P O)).toArray) ∧ Below w'.heap.size w' w'') :=
              Lib.hid (fun w' ht' => refNode_any ((l + 1 : Nat) : Int) ((x / 2 : Nat) : Int) P O w' ht' (isI64_nat (n := l + 1) (by omega)) (isI64_nat (by omega)) HP16.out HO16.out)
            obtain ⟨W, hW⟩ : ∃ W, W = joinD ((l + 1 : Nat) : Int) ((x / 2 : Nat) : Int) P O := ⟨_, rfl⟩
            rw [← hW] at HUPN HWL HJ
            clear hW HUP
            have hpar2 : ((x : Int) % 2 == 1) = true := by simp; omega
            go_wp2_with (first | (with_reducible refine ldArr (.tmp 17) Tryd.ag_b16 (wn rfl) rfl rfl HP.out h17 ?_) | (with_reducible refine ldArr (.tmp 14) Tryd.ag_b16 (wn rfl) rfl rfl HO.out h14 ?_))
            have hjc := HJ.out w3 (ht.below hb ht.size)
            refine hjc.mono ?_
            rintro e w4 ⟨rfl, b4⟩
            replace h10 := h10.below b4 h10.lt
            replace h14 := h14.below b4 h14.lt
            replace hb := hb.trans (b4.mono hb.size)
            clear b4 hjc h17
            go_wp2_with (with_reducible refine stArr (cs := bcs W) (.tmp 14) (.tmp 64) Tryd.ag_b16 (wn rfl) rfl rfl rfl h14 HO.out HWL.out (bcs_one _) ?_)
            intro w5 h14 hkeep hbel
            replace h10 := hkeep _ _ _ (by omega) h10
            replace hb := hb.trans (hbel _ (by omega))
            clear hkeep hbel
            rw [← HUPN.out] at h14
            go_wp2_with fail
            go_roundw
            case rel => exact ⟨l + 1, by omega, by go_num, by have hx := HX.out; subst hx; rw [Nat.pow_succ, ← Nat.div_div_eq_div_mul]; go_num, h10, h14, hb⟩
            case measure => (simp [intOf]; try omega)
          · have HUPN := Lib.hid (show upD h i r V (l + 1) = joinD ((l + 1 : Nat) : Int) ((x / 2 : Nat) : Int) O P by rw [HUP.out, if_neg hpar])
            have HWL := Lib.hid (show (bcs (joinD ((l + 1 : Nat) : Int) ((x / 2 : Nat) : Int) O P)).length = 16 by rw [bcs_length]; exact ofDig_len _ _)
            have HJ : Hid (∀ w', TabsR w' → Calls Tryd.prog 46 #[.int .i64 ((l : Int) + 1), .int .i64 ((x : Int) / 2), .agg (bcs O).toArray, .agg (bcs P).toArray] w' fun e w'' => e = .returned (.agg (bcs (joinD ((l + 1 : Nat) : Int) ((x / 2 : Nat) : Int) O P)).toArray) ∧ Below w'.heap.size w' w'') :=
              Lib.hid (fun w' ht' => refNode_any ((l + 1 : Nat) : Int) ((x / 2 : Nat) : Int) O P w' ht' (isI64_nat (n := l + 1) (by omega)) (isI64_nat (by omega)) HO16.out HP16.out)
            obtain ⟨W, hW⟩ : ∃ W, W = joinD ((l + 1 : Nat) : Int) ((x / 2 : Nat) : Int) O P := ⟨_, rfl⟩
            rw [← hW] at HUPN HWL HJ
            clear hW HUP
            have hpar2 : ((x : Int) % 2 == 1) = false := by simp; omega
            go_wp2_with (first | (with_reducible refine ldArr (.tmp 14) Tryd.ag_b16 (wn rfl) rfl rfl HO.out h14 ?_) | (with_reducible refine ldArr (.tmp 17) Tryd.ag_b16 (wn rfl) rfl rfl HP.out h17 ?_))
            have hjc := HJ.out w3 (ht.below hb ht.size)
            refine hjc.mono ?_
            rintro e w4 ⟨rfl, b4⟩
            replace h10 := h10.below b4 h10.lt
            replace h14 := h14.below b4 h14.lt
            replace hb := hb.trans (b4.mono hb.size)
            clear b4 hjc h17
            go_wp2_with (with_reducible refine stArr (cs := bcs W) (.tmp 14) (.tmp 71) Tryd.ag_b16 (wn rfl) rfl rfl rfl h14 HO.out HWL.out (bcs_one _) ?_)
            intro w5 h14 hkeep hbel
            replace h10 := hkeep _ _ _ (by omega) h10
            replace hb := hb.trans (hbel _ (by omega))
            clear hkeep hbel
            rw [← HUPN.out] at h14
            go_wp2_with fail
            go_roundw
            case rel => exact ⟨l + 1, by omega, by go_num, by have hx := HX.out; subst hx; rw [Nat.pow_succ, ← Nat.div_div_eq_div_mul]; go_num, h10, h14, hb⟩
            case measure => (simp [intOf]; try omega)
        · obtain rfl : l = h := by omega
          have hR : upD l i r V l = rootD l i (messageD p i m) r := by
            have h1 := HV.out
            have h2 := HMD.out
            subst h1
            subst h2
            rfl
          have HR := Lib.hid hR
          have HRB := Lib.hid (show (bcs (upD l i r V l)).length = 16 by rw [bcs_length]; exact upD_len _ _ _ HV16.out _)
          clear hR
          go_wp2_with (first | (with_reducible refine ldArr (.tmp 14) Tryd.ag_b16 (wn rfl) rfl rfl HRB.out h14 ?_) | (with_reducible refine stArr (cs := bcs (upD l i r V l)) (.tmp 10) (.tmp 74) Tryd.ag_b16 (wn rfl) rfl rfl rfl h10 (zerosB_len _) HRB.out (bcs_one _) ?_))
          intro w5 h10 _ hbel
          go_wp2_with fail
          refine bodyPost_ret (v := .agg (bcs (upD l i r V l)).toArray) ?_ rfl ⟨by rw [HR.out], hb.trans (hbel _ (by omega))⟩
          exact res_cell1 _ Tryd.results25 Tryd.ag_b16 _ rfl HRB.out (fun j u hu => by rw [Nat.zero_add]; exact h10.cell hu)
end Go.Proofs.YtienlndjhcmemaaDoor
/-
  Sign and Verify of the specification: what they return.
-/
namespace Go.Proofs.YtienlndjhcmemaaDoor
open Go.RowKit
set_option linter.unusedVariables false

theorem cat_two (a b : List UInt8) : (⟨a.toArray⟩ : ByteArray) ++ ⟨b.toArray⟩ = ⟨(a ++ b).toArray⟩ := by
  apply ByteArray.ext
  simp
def GRSign (seed D : List UInt8) (i j G0 : Nat) (ix_ : Nat) (v : Value) (w : World) : Prop :=
  match ix_ with
  | 5 => v = .agg (bcs (startD seed i j)).toArray
  | 8 => v = .int .i64 ((digAt D j : Nat) : Int)
  | 9 => v = .agg (bcs (chainD seed i (digAt D j) j)).toArray
  | 10 => ∃ b, v = .pointer (some ⟨b, 0, none⟩) ∧ Arr w b 23 (zerosB 16) ∧ G0 ≤ b
  | _ => True
set_option maxRecDepth 100000 in
set_option maxHeartbeats 2000000 in
theorem refSign_ok (seed : List UInt8) (h i : Nat) (m : List UInt8) (w : World) (ht : TabsR w) (hs : seed.length ≤ 100000000) (hm : m.length ≤ 100000000) (hh : h ≤ 6) (hi : i < 2 ^ h) :
    Calls Tryd.prog 19 #[sv seed, .int .i64 (h : Int), .int .i64 (i : Int), sv m] w fun e w' => e = .returned (textV (signD seed h i m) 0) ∧ Below w.heap.size w w' := by
  have hcd := countD_of hh
  have hp1 := two_pow_pos h
  have hp64 := two_pow_le hh
  have HPB := Lib.hid (show publicD seed h = (valueD seed h 0, 0) by unfold publicD; rw [if_neg (by omega), Int.toNat_natCast])
  obtain ⟨M, hM⟩ : ∃ M, M = 2 ^ h := ⟨_, rfl⟩
  have HS := Lib.hid (show enc i ++ restD seed h i (messageD (valueD seed h 0) i m) = signD seed h i m from rfl)
  have hdd : (messageD (valueD seed h 0) i m).length = 16 := ofDig_len _ _
  have HMSG := Lib.hid (fun w' (h' : TabsR w') => refMessage_any (valueD seed h 0) i m w' h' (valueD_len _ _ _) (isI64_nat (n := i) (by omega)) hm)
  have HVAL := Lib.hid (fun (l x : Nat) (hl : l ≤ 6) (hx : x ≤ 64) (w' : World) (h' : TabsR w') => refValue_any seed hs l x w' h' hl (Nat.le_trans (Nat.mul_le_mul_left _ (two_pow_le hl)) (by omega)))
  rw [← hM] at hcd hp1 hp64 hi
  have HPUB := Lib.hid (fun w' (h' : TabsR w') => refPublic_any seed h w' h' hs)
  have hen := enc_len i
  have hi64 := isI64_nat (show i ≤ 1000000 by omega)
  clear hM
  unfold textV
  rw [← HS.out]
  have hg : w.heap.size ≤ w.heap.size := Nat.le_refl _
  unfold sv
  go_enter Tryd.func19, Tryd.ntmps19
  go_wp2_with fail
  have hpc := HPUB.out w ht
  refine hpc.mono ?_
  rintro e w1 ⟨rfl, hb⟩
  rw [HPB.out]
  unfold pairV
  have HL := Lib.hid (show (bcs (valueD seed h 0)).length = 16 by rw [bcs_length]; exact valueD_len _ _ _)
  clear hpc HPUB HPB
  go_wp2_with (with_reducible refine alArr (z := zerosB 16) Tryd.ag_b16 (wn rfl) rfl ?_)
  intro w2 h10 b2
  have l10 : w.heap.size ≤ w1.heap.size := hb.size
  replace hb := hb.trans (b2.mono hb.size)
  clear b2
  generalize w1.heap.size = g10 at *
  go_wp2_with (with_reducible refine stArr (cs := bcs (valueD seed h 0)) (.tmp 10) (.tmp 24) Tryd.ag_b16 (wn rfl) rfl rfl rfl h10 (zerosB_len _) HL.out (bcs_one _) ?_)
  intro w3 h10 _ hbel
  replace hb := hb.trans (hbel _ l10)
  clear hbel
  go_wp2_with fail
  refine (refCount_any h w3).mono ?_
  rintro e w4 ⟨rfl, rfl⟩
  rw [hcd]
  clear hcd
  go_wp2_with fail
  refine (refInt_any i w4 hi64.1 hi64.2).mono ?_
  rintro e w5 hret
  obtain ⟨A5, c5, rfl, _, hrd, b5⟩ := hret.open
  replace h10 := h10.below b5 h10.lt
  replace hb := hb.trans (b5.mono hb.size)
  clear hret b5
  go_wp2_with (first | (with_reducible refine convStr (.tmp 38) (enc i) Tryd.sl_u8.und Tryd.und_u8 Tryd.und_str (wn rfl) rfl rfl hrd ?_) | (with_reducible refine ldArr (.tmp 10) Tryd.ag_b16 (wn rfl) rfl rfl HL.out h10 ?_))
  have hmc := HMSG.out w5 (ht.below hb ht.size)
  refine hmc.mono ?_
  rintro e w6 ⟨rfl, b6⟩
  replace hb := hb.trans (b6.mono hb.size)
  obtain ⟨D, hD⟩ : ∃ D, D = messageD (valueD seed h 0) i m := ⟨_, rfl⟩
  rw [← hD] at hdd
  rw [← hD]
  have HMD := Lib.hid hD
  clear hmc b6 hD HMSG h10 hrd HS
  go_wp2_with fail
  refine (refDigits_any D w6 hdd).mono ?_
  rintro e w7 ⟨rfl, b7⟩
  replace hb := hb.trans (b7.mono hb.size)
  clear b7 HL
  have HDL := Lib.hid (show (ivs (digitsD D)).length = 35 by rw [ivs_len]; exact digitsD_len hdd)
  go_wp2_with (with_reducible refine alArr (z := zerosI 35) Tryd.ag_i35 (wn rfl) rfl ?_)
  intro w8 h13 b8
  have l13 : w.heap.size ≤ w7.heap.size := hb.size
  replace hb := hb.trans (b8.mono hb.size)
  clear b8
  generalize w7.heap.size = g13 at *
  go_wp2_with (with_reducible refine stArr (cs := ivs (digitsD D)) (.tmp 13) (.tmp 44) Tryd.ag_i35 (wn rfl) rfl rfl rfl h13 (zerosI_len _) HDL.out (ivs_one _) ?_)
  intro w9 h13 _ hbel
  replace hb := hb.trans (hbel _ l13)
  clear hbel
  have hso : (⟨(enc i).toArray⟩ : ByteArray) = ⟨(sgOut seed i D 0).toArray⟩ := by unfold sgOut; simp
  rw [hso]
  clear hso
  go_wp2_with fail
  go_loopw [12, 14] (fun v12 v14 wr => ∃ j : Nat, j ≤ 35 ∧ v14 = .int .i64 j ∧ v12 = .string ⟨(sgOut seed i D j).toArray⟩ ∧ Arr wr g13 25 (ivs (digitsD D)) ∧ Below w.heap.size w wr) (fun _ v14 _ => 35 - (intOf v14).toNat)
  case atStart => exact ⟨0, by omega, rfl, rfl, h13, hb⟩
  case round =>
    clear h13 hb
    obtain ⟨j, hj, rfl, rfl, h13, hb⟩ := hrel
    by_cases hlt : j < 35
    · have HNX := Lib.hid (sgOut_next seed i D j)
      have hj64 := isI64_nat (show j ≤ 1000000 by omega)
      have HDG := Lib.hid (show (ivs (digitsD D))[0 + j * 1]? = some (.int .i64 ((digAt D j : Nat) : Int)) by rw [Nat.zero_add, Nat.mul_one]; exact digits_get D hdd j hlt)
      have HCL : Hid (∀ w', TabsR w' → Calls Tryd.prog 31 #[.int .i64 (i : Int), .int .i64 (j : Int), .agg (bcs (startD seed i j)).toArray, .int .i64 0, .int .i64 ((digAt D j : Nat) : Int)] w' fun e w'' => e = .returned (.agg (bcs (chainD seed i (digAt D j) j)).toArray) ∧ Below w'.heap.size w' w'') := Lib.hid (fun w' h => refClimb0 i j (startD seed i j) (digAt D j) w' h hi64 hj64 (startD_len _ _ _) (by have := digAt_le D j; omega))
      have HC16 := Lib.hid (chainD_len seed i (digAt D j) j)
      have HCB := Lib.hid (show (bcs (chainD seed i (digAt D j) j)).length = 16 by rw [bcs_length]; exact chainD_len _ _ _ _)
      have hol : (sgOut seed i D j).length ≤ 600 := by rw [sgOut_len]; omega
      obtain ⟨out, hout⟩ : ∃ out, out = sgOut seed i D j := ⟨_, rfl⟩
      rw [← hout] at HNX hol
      rw [← hout]
      clear hout
      go_wp2_with fail
      refine aStart (by kernel_rfl) ?_
      replace h13 := h13.drew
      replace hb := hb.drew
      generalize wr.drew = wd at *
      refine aTake (i := 0) (v := .int .i64 (i : Int)) rfl (by kernel_rfl) (wn rfl) (fun _ _ _ h => h) (fun w => by kernel_rfl) ?_
      refine aTake (i := 1) (v := .int .i64 (j : Int)) rfl (by kernel_rfl) (wn rfl) (fun _ _ _ h => h) (fun w => by kernel_rfl) ?_
      refine aTake (i := 2) (v := .string ⟨seed.toArray⟩) rfl (by kernel_rfl) (wn rfl) (fun _ _ _ h => h) (fun w => by kernel_rfl) ?_
      refine aTake (i := 3) (v := .int .i64 (i : Int)) rfl (by kernel_rfl) (wn rfl) (fun _ _ _ h => h) (fun w => by kernel_rfl) ?_
      refine aTake (i := 4) (v := .int .i64 (j : Int)) rfl (by kernel_rfl) (wn rfl) (fun _ _ _ h => h) (fun w => by kernel_rfl) ?_
      refine aTake (i := 6) (v := .int .i64 (j : Int)) rfl (by kernel_rfl) (wn rfl) (fun _ _ _ h => h) (fun w => by kernel_rfl) ?_
      refine aTake (i := 7) (v := .pointer (some ⟨g13, 0 + j * 1, none⟩)) rfl (by kernel_rfl) (wn rfl) (fun _ _ _ h => h) (fun w => iaRun (kk := .i64) (.tmp 13) (.tmp 55) j Tryd.arr_i35 (by kernel_rfl) rfl (by kernel_rfl) (by kernel_rfl) rfl hlt) ?_
      refine rgFloat [(5, 54), (8, 57), (9, 58), (10, 15)] (GRSign seed D i j wd.heap.size) _ 1 rfl (by kernel_rfl) ?mono ?step ?fin
      case mono =>
        intro p hp v w w' h hE
        simp only [List.mem_cons, List.not_mem_nil, or_false] at hp
        rcases hp with rfl | rfl | rfl | rfl
        · exact h
        · exact h
        · exact h
        · exact (by obtain ⟨b, e1, e2, e3⟩ := h; exact ⟨b, e1, e2.below hE e2.lt, e3⟩)
      case step =>
        intro p hp
        simp only [List.mem_cons, List.not_mem_nil, or_false] at hp
        rcases hp with rfl | rfl | rfl | rfl
        · refine ⟨_, rfl, rfl, fun a w' hF hE hG => ?_⟩
          refine callOp 32 [.string ⟨seed.toArray⟩, .int .i64 (i : Int), .int .i64 (j : Int)] [] [] (by kernel_rfl) (wn rfl) rfl rfl (by show [a.eval (.tmp 51), a.eval (.tmp 52), a.eval (.tmp 53)] = _; rw [hF.eval 51 (by kernel_rfl), hF.eval 52 (by kernel_rfl), hF.eval 53 (by kernel_rfl)]; first | done | kernel_rfl) ?_
          refine (refStart_any seed i j w' (ht.below (hb.trans (hE.mono hb.size)) ht.size) hi64 hj64 hs).mono ?_
          rintro e w2 ⟨rfl, hb2⟩
          exact ⟨_, rfl, ⟨_, rfl, hb2, rfl⟩⟩
        · refine ⟨_, rfl, rfl, fun a w' hF hE hG => ?_⟩
          refine ldOne (p := ⟨g13, 0 + j * 1, none⟩) (.tmp 56) (by kernel_rfl) (wn rfl) rfl ((hF.eval 56 (by kernel_rfl)).trans (by kernel_rfl)) ((h13.below hE h13.lt).cell (i := 0 + j * 1) HDG.out) ?_
          exact ⟨_, rfl, Below.refl _ _, rfl⟩
        · refine ⟨_, rfl, rfl, fun a w' hF hE hG => ?_⟩
          have hx54 : a.tmps.getD 54 undef = .agg (bcs (startD seed i j)).toArray := hG (5, 54) (by simp) (by kernel_rfl)
          have hx57 : a.tmps.getD 57 undef = .int .i64 ((digAt D j : Nat) : Int) := hG (8, 57) (by simp) (by kernel_rfl)
          refine callOp 31 [.int .i64 (i : Int), .int .i64 (j : Int), .agg (bcs (startD seed i j)).toArray, .int .i64 0, .int .i64 ((digAt D j : Nat) : Int)] [] [] (by kernel_rfl) (wn rfl) rfl rfl (by show [a.eval (.tmp 49), a.eval (.tmp 50), a.tmps.getD 54 undef, a.eval (.const (.int .i64 0)), a.tmps.getD 57 undef] = _; rw [hF.eval 49 (by kernel_rfl), hF.eval 50 (by kernel_rfl), hx54, hx57]; first | done | kernel_rfl) ?_
          refine (HCL.out w' (ht.below (hb.trans (hE.mono hb.size)) ht.size)).mono ?_
          rintro e w2 ⟨rfl, hb2⟩
          exact ⟨_, rfl, ⟨_, rfl, hb2, rfl⟩⟩
        · refine ⟨_, rfl, rfl, fun a w' hF hE hG => ?_⟩
          refine alArr (z := zerosB 16) Tryd.ag_b16 (wn rfl) rfl fun w2 hA hb2 => ?_
          exact ⟨_, rfl, hb2, _, rfl, hA, hE.size⟩
      case fin =>
        intro a wf hF hE hG
        have q58 : a.tmps.getD 58 undef = .agg (bcs (chainD seed i (digAt D j) j)).toArray := hG (9, 58) (by simp)
        obtain ⟨g15, q15, h15, hg15⟩ := hG (10, 15) (by simp)
        have n13 := h13.lt
        have l15 : w.heap.size ≤ g15 := Nat.le_trans hb.size hg15
        replace h13 := h13.below hE h13.lt
        replace hb := hb.trans (hE.mono hb.size)
        rw [hF.eq]
        simp only [putsX]
        rw [q58, q15]
        generalize a.tmps.getD 54 undef = x54
        generalize a.tmps.getD 57 undef = x57
        clear hG hF q58 q15 hE
        refine aNext (i := 11) (by kernel_rfl) rfl ?_
        refine stArr (b := g15) (cs := bcs (chainD seed i (digAt D j) j)) (.tmp 15) (.tmp 58) Tryd.ag_b16 (wn rfl) rfl (by kernel_rfl) (by kernel_rfl) h15 (zerosB_len _) HCB.out (bcs_one _) ?_
        intro w5 h15 hkeep hbel
        replace h13 := hkeep _ _ _ (by omega) h13
        replace hb := hb.trans (hbel _ l15)
        refine aDone (by kernel_rfl) ?_
        simp only [Act.put, List.setIfInBounds_toArray, List.set_cons_succ, List.set_cons_zero]
        clear hkeep hbel n13 hg15
        generalize chainD seed i (digAt D j) j = CH at *
        have hcl16 : CH.length ≤ 16 := by rw [HC16.out]; exact Nat.le_refl _
        go_wp2_with (with_reducible refine ldArr (.tmp 15) Tryd.ag_b16 (wn rfl) rfl rfl HCB.out h15 ?_)
        refine (text_any CH w5 HC16.out).mono ?_
        rintro e w6 ⟨rfl, b6⟩
        unfold sv
        replace h13 := h13.below b6 h13.lt
        replace hb := hb.trans (b6.mono hb.size)
        clear b6 h15
        go_wp2_with fail
        rw [cat_two, ← HNX.out]
        go_roundw
        case rel => exact ⟨j + 1, by omega, by go_num, rfl, h13, hb⟩
        case measure => (simp [intOf]; try omega)
    · obtain rfl : j = 35 := by omega
      have hso : sgOut seed i D 35 = sgAll seed i D 0 := by unfold sgAll; simp
      rw [hso]
      clear hso hlt h13
      go_wp2_with fail
      go_loopw [12, 16, 17] (fun v12 v16 v17 wr => ∃ l : Nat, l ≤ h ∧ v17 = .int .i64 l ∧ v16 = .int .i64 ((i / 2 ^ l : Nat) : Int) ∧ v12 = .string ⟨(sgAll seed i D l).toArray⟩ ∧ Below w.heap.size w wr) (fun _ _ v17 _ => h - (intOf v17).toNat)
      case atStart => exact ⟨0, by omega, rfl, by simp, rfl, hb⟩
      case round =>
        clear hb
        obtain ⟨l, hl, rfl, rfl, rfl, hb⟩ := hrel
        by_cases hlt : l < h
        · have HNX := Lib.hid (sgAll_next seed i D l)
          have hol : (sgAll seed i D l).length ≤ 1000 := by rw [sgAll_len]; omega
          obtain ⟨out, hout⟩ : ∃ out, out = sgAll seed i D l := ⟨_, rfl⟩
          rw [← hout] at HNX hol
          rw [← hout]
          have hn64 : i / 2 ^ l ≤ i := Nat.div_le_self _ _
          obtain ⟨x, hx⟩ : ∃ x, x = i / 2 ^ l := ⟨_, rfl⟩
          have hxo := xor_one x
          rw [← hx] at HNX hn64
          rw [← hx]
          have HX := Lib.hid hx
          clear hout hx
          by_cases hpar : x % 2 = 1
          · rw [if_pos hpar] at hxo
            rw [hxo] at HNX
            have hpar2 : ((x : Int) % 2 == 1) = true := by simp; omega
            have HV16 := Lib.hid (valueD_len seed l (x - 1))
            have HVB := Lib.hid (show (bcs (valueD seed l (x - 1))).length = 16 by rw [bcs_length]; exact valueD_len _ _ _)
            obtain ⟨Y, hY⟩ : ∃ Y, Y = x - 1 := ⟨_, rfl⟩
            rw [← hY] at HNX HV16 HVB
            have hc : ((Y : Nat) : Int) = (x : Int) - 1 := by omega
            have HVC := Lib.hid (fun w' (h' : TabsR w') => HVAL.out l Y (by omega) (by omega) w' h')
            rw [hc] at HVC
            clear hxo hpar hY hc
            go_wp2_with fail
            have hvc := HVC.out wr (ht.below hb ht.size)
            refine hvc.mono ?_
            rintro e w1 ⟨rfl, b1⟩
            replace hb := hb.trans (b1.mono hb.size)
            clear b1 hvc
            go_wp2_with (with_reducible refine alArr (z := zerosB 16) Tryd.ag_b16 (wn rfl) rfl ?_)
            intro w2 h19 b2
            have l19 : w.heap.size ≤ w1.heap.size := hb.size
            replace hb := hb.trans (b2.mono hb.size)
            clear b2
            generalize w1.heap.size = g19 at *
            generalize valueD seed l Y = VY at *
            have hcl16 : VY.length ≤ 16 := by rw [HV16.out]; exact Nat.le_refl _
            go_wp2_with (with_reducible refine stArr (cs := bcs VY) (.tmp 19) (.tmp 79) Tryd.ag_b16 (wn rfl) rfl rfl rfl h19 (zerosB_len _) HVB.out (bcs_one _) ?_)
            intro w3 h19 _ hbel
            replace hb := hb.trans (hbel _ l19)
            clear hbel
            go_wp2_with (with_reducible refine ldArr (.tmp 19) Tryd.ag_b16 (wn rfl) rfl rfl HVB.out h19 ?_)
            refine (text_any VY w3 HV16.out).mono ?_
            rintro e w4 ⟨rfl, b4⟩
            unfold sv
            replace hb := hb.trans (b4.mono hb.size)
            clear b4 h19
            go_wp2_with fail
            rw [cat_two, ← HNX.out]
            go_roundw
            case rel => ((repeat apply Exists.intro); exact ⟨⟨l + 1, by omega, by go_num, by have hx := HX.out; subst hx; rw [Nat.pow_succ, ← Nat.div_div_eq_div_mul]; go_num, rfl, hb⟩, rfl⟩)
            case measure => (simp [intOf]; try omega)
          · rw [if_neg hpar] at hxo
            rw [hxo] at HNX
            have hpar2 : ((x : Int) % 2 == 1) = false := by simp; omega
            have HV16 := Lib.hid (valueD_len seed l (x + 1))
            have HVB := Lib.hid (show (bcs (valueD seed l (x + 1))).length = 16 by rw [bcs_length]; exact valueD_len _ _ _)
            obtain ⟨Y, hY⟩ : ∃ Y, Y = x + 1 := ⟨_, rfl⟩
            rw [← hY] at HNX HV16 HVB
            have hc : ((Y : Nat) : Int) = (x : Int) + 1 := by omega
            have HVC := Lib.hid (fun w' (h' : TabsR w') => HVAL.out l Y (by omega) (by omega) w' h')
            rw [hc] at HVC
            clear hxo hpar hY hc
            go_wp2_with fail
            have hvc := HVC.out wr (ht.below hb ht.size)
            refine hvc.mono ?_
            rintro e w1 ⟨rfl, b1⟩
            replace hb := hb.trans (b1.mono hb.size)
            clear b1 hvc
            go_wp2_with (with_reducible refine alArr (z := zerosB 16) Tryd.ag_b16 (wn rfl) rfl ?_)
            intro w2 h19 b2
            have l19 : w.heap.size ≤ w1.heap.size := hb.size
            replace hb := hb.trans (b2.mono hb.size)
            clear b2
            generalize w1.heap.size = g19 at *
            generalize valueD seed l Y = VY at *
            have hcl16 : VY.length ≤ 16 := by rw [HV16.out]; exact Nat.le_refl _
            go_wp2_with (with_reducible refine stArr (cs := bcs VY) (.tmp 19) (.tmp 79) Tryd.ag_b16 (wn rfl) rfl rfl rfl h19 (zerosB_len _) HVB.out (bcs_one _) ?_)
            intro w3 h19 _ hbel
            replace hb := hb.trans (hbel _ l19)
            clear hbel
            go_wp2_with (with_reducible refine ldArr (.tmp 19) Tryd.ag_b16 (wn rfl) rfl rfl HVB.out h19 ?_)
            refine (text_any VY w3 HV16.out).mono ?_
            rintro e w4 ⟨rfl, b4⟩
            unfold sv
            replace hb := hb.trans (b4.mono hb.size)
            clear b4 h19
            go_wp2_with fail
            rw [cat_two, ← HNX.out]
            go_roundw
            case rel => ((repeat apply Exists.intro); exact ⟨⟨l + 1, by omega, by go_num, by have hx := HX.out; subst hx; rw [Nat.pow_succ, ← Nat.div_div_eq_div_mul]; go_num, rfl, hb⟩, rfl⟩)
            case measure => (simp [intOf]; try omega)
        · obtain rfl : l = h := by omega
          have HAL := Lib.hid (sgAll_all seed l i D)
          rw [HAL.out]
          go_wp2_with fail
          have hD := HMD.out
          subst hD
          go_ret2
          exact ⟨rfl, hb⟩
set_option maxRecDepth 100000 in
set_option maxHeartbeats 2000000 in
theorem refSign_any (seed : List UInt8) (h i : Int) (m : List UInt8) (w : World) (ht : TabsR w) (hs : seed.length ≤ 100000000) (hm : m.length ≤ 100000000) :
    Calls Tryd.prog 19 #[sv seed, .int .i64 h, .int .i64 i, sv m] w fun e w' => e = .returned (textV (makeD seed h i m).1 (makeD seed h i m).2) ∧ Below w.heap.size w w' := by
  have hcl := countD_le h
  by_cases hc : countD h = 0
  · have HP := Lib.hid (show makeD seed h i m = ([], 1) by unfold makeD; rw [if_pos hc])
    have HPB := Lib.hid (show publicD seed h = (List.replicate 16 0, 1) by unfold publicD; rw [if_pos hc])
    have HPUB := Lib.hid (fun w' (h' : TabsR w') => refPublic_any seed h w' h' hs)
    have HL := Lib.hid (show (bcs (List.replicate 16 0)).length = 16 by rw [bcs_length]; rfl)
    clear hc hcl
    rw [HP.out]
    generalize List.replicate 16 (0 : UInt8) = ZZ at *
    unfold textV sv
    go_enter Tryd.func19, Tryd.ntmps19
    go_wp2_with fail
    have hpc := HPUB.out w ht
    refine hpc.mono ?_
    rintro e w1 ⟨rfl, hb⟩
    rw [HPB.out]
    unfold pairV
    clear hpc
    go_wp2_with (with_reducible refine alArr (z := zerosB 16) Tryd.ag_b16 (wn rfl) rfl ?_)
    intro w2 h10 b2
    have l10 : w.heap.size ≤ w1.heap.size := hb.size
    replace hb := hb.trans (b2.mono hb.size)
    clear b2
    generalize w1.heap.size = g10 at *
    go_wp2_with (with_reducible refine stArr (cs := bcs ZZ) (.tmp 10) (.tmp 24) Tryd.ag_b16 (wn rfl) rfl rfl rfl h10 (zerosB_len _) HL.out (bcs_one _) ?_)
    intro w3 h10 _ hbel
    replace hb := hb.trans (hbel _ l10)
    clear hbel h10
    go_wp2_with fail
    go_ret2
    exact ⟨rfl, hb⟩
  · by_cases hi : i < 0 ∨ (countD h : Int) ≤ i
    · have HP := Lib.hid (show makeD seed h i m = ([], 23) by unfold makeD; rw [if_neg hc, if_pos hi])
      rw [HP.out]
      have HPB := Lib.hid (show publicD seed h = (valueD seed h.toNat 0, 0) by unfold publicD; rw [if_neg hc])
      have HPUB := Lib.hid (fun w' (h' : TabsR w') => refPublic_any seed h w' h' hs)
      have HC := Lib.hid (fun w' => refCount_any h w')
      have HL := Lib.hid (show (bcs (valueD seed h.toNat 0)).length = 16 by rw [bcs_length]; exact valueD_len _ _ _)
      generalize valueD seed h.toNat 0 = ZZ at *
      obtain ⟨M, hM⟩ : ∃ M, M = countD h := ⟨_, rfl⟩
      rw [← hM] at hcl hi HC
      clear hM hc
      unfold textV sv
      by_cases hi0 : i < 0
      · clear hi
        go_enter Tryd.func19, Tryd.ntmps19
        go_wp2_with fail
        have hpc := HPUB.out w ht
        refine hpc.mono ?_
        rintro e w1 ⟨rfl, hb⟩
        rw [HPB.out]
        unfold pairV
        clear hpc
        go_wp2_with (with_reducible refine alArr (z := zerosB 16) Tryd.ag_b16 (wn rfl) rfl ?_)
        intro w2 h10 b2
        have l10 : w.heap.size ≤ w1.heap.size := hb.size
        replace hb := hb.trans (b2.mono hb.size)
        clear b2
        generalize w1.heap.size = g10 at *
        go_wp2_with (with_reducible refine stArr (cs := bcs ZZ) (.tmp 10) (.tmp 24) Tryd.ag_b16 (wn rfl) rfl rfl rfl h10 (zerosB_len _) HL.out (bcs_one _) ?_)
        intro w3 h10 _ hbel
        replace hb := hb.trans (hbel _ l10)
        clear hbel h10
        go_wp2_with fail
        go_ret2
        exact ⟨rfl, hb⟩
      · have hi1 : (M : Int) ≤ i := by omega
        clear hi
        go_enter Tryd.func19, Tryd.ntmps19
        go_wp2_with fail
        have hpc := HPUB.out w ht
        refine hpc.mono ?_
        rintro e w1 ⟨rfl, hb⟩
        rw [HPB.out]
        unfold pairV
        clear hpc
        go_wp2_with (with_reducible refine alArr (z := zerosB 16) Tryd.ag_b16 (wn rfl) rfl ?_)
        intro w2 h10 b2
        have l10 : w.heap.size ≤ w1.heap.size := hb.size
        replace hb := hb.trans (b2.mono hb.size)
        clear b2
        generalize w1.heap.size = g10 at *
        go_wp2_with (with_reducible refine stArr (cs := bcs ZZ) (.tmp 10) (.tmp 24) Tryd.ag_b16 (wn rfl) rfl rfl rfl h10 (zerosB_len _) HL.out (bcs_one _) ?_)
        intro w3 h10 _ hbel
        replace hb := hb.trans (hbel _ l10)
        clear hbel h10
        go_wp2_with fail
        refine (HC.out w3).mono ?_
        rintro e w4 ⟨rfl, rfl⟩
        go_wp2_with fail
        go_ret2
        exact ⟨rfl, hb⟩
    · obtain ⟨h0, h6⟩ := countD_pos (h := h) (i := i) (by omega) (by omega)
      obtain ⟨k, rfl⟩ : ∃ k : Nat, h = (k : Int) := ⟨h.toNat, by omega⟩
      obtain ⟨n, rfl⟩ : ∃ n : Nat, i = (n : Int) := ⟨i.toNat, by omega⟩
      have e : makeD seed (k : Int) (n : Int) m = (signD seed k n m, 0) := by unfold makeD; rw [if_neg hc, if_neg hi, Int.toNat_natCast, Int.toNat_natCast]
      rw [e]
      have hcd := countD_of (h := k) (by omega)
      exact refSign_ok seed k n m w ht hs hm (by omega) (by omega)
end Go.Proofs.YtienlndjhcmemaaDoor
/-
  Verify of the specification: what it returns.
-/
namespace Go.Proofs.YtienlndjhcmemaaDoor
open Go.RowKit
set_option linter.unusedVariables false

set_option maxRecDepth 100000 in
set_option maxHeartbeats 2000000 in
theorem refVerify_e (p : List UInt8) (h x u er : Int) (S : Nat) (m sig : List UInt8) (w : World) (hl : sig.length ≤ 1000000) (hc : countD h ≠ 0) (hx : isI64 x) (hd : dec sig = (x, u, er)) (hS : sizeD h x = S) (her : er = 5 ∨ er = 6) :
    Calls Tryd.prog 23 #[.agg (bcs p).toArray, .int .i64 h, sv m, sv sig] w fun e w' => e = .returned (.tuple #[.int .i64 0, .int .i64 er]) ∧ Below w.heap.size w w' := by
  have hcl := countD_le h
  have hcp : 0 < countD h := by omega
  have HC := Lib.hid (fun w' => refCount_any h w')
  have HZ := Lib.hid (fun w' => refSize_any h x w')
  have HD := Lib.hid hd
  have HSZ := Lib.hid hS
  have hsle := sizeD_le h x
  rw [hS] at hsle
  obtain ⟨hx1, hx2⟩ := hx
  clear hc hd hS
  unfold sv
  obtain ⟨M, hM⟩ : ∃ M, M = countD h := ⟨_, rfl⟩
  have her1 : 5 ≤ er := by omega
  have her2 : er ≤ 6 := by omega
  clear her
  rw [← hM] at hcl hcp HC
  clear hM
  go_enter Tryd.func23, Tryd.ntmps23
  go_wp2_with (with_reducible refine bxArr (cs := bcs p) (.tmp 0) (wn rfl) rfl rfl ?_)
  intro w1 h4 hb
  go_wp2_with fail
  refine (HC.out w1).mono ?_
  rintro e w3 ⟨rfl, rfl⟩
  go_wp2_with (with_reducible refine convBs (.tmp 17) sig Tryd.und_str Tryd.sl_u8.und Tryd.und_u8 (wn rfl) rfl rfl (by omega) ?_)
  intro A5 c5 w5 hrd b5
  replace h4 := h4.below b5 h4.lt
  replace hb := hb.trans (b5.mono hb.size)
  clear b5
  go_wp2_with fail
  refine (refGetInt_any sig A5 _ c5 _ w5 hrd).mono ?_
  rintro e w6 ⟨rfl, rfl⟩
  rw [HD.out]
  clear hrd
  go_wp2_with fail
  go_ret2
  exact ⟨rfl, hb⟩
set_option maxRecDepth 100000 in
set_option maxHeartbeats 2000000 in
theorem refVerify_s1 (p : List UInt8) (h x u er : Int) (S : Nat) (m sig : List UInt8) (w : World) (hl : sig.length ≤ 1000000) (hc : countD h ≠ 0) (hx : isI64 x) (hd : dec sig = (x, u, er)) (hS : sizeD h x = S) (her : er = 0) (hz : x < 0) :
    Calls Tryd.prog 23 #[.agg (bcs p).toArray, .int .i64 h, sv m, sv sig] w fun e w' => e = .returned (.tuple #[.int .i64 0, .int .i64 8]) ∧ Below w.heap.size w w' := by
  have hcl := countD_le h
  have hcp : 0 < countD h := by omega
  have HC := Lib.hid (fun w' => refCount_any h w')
  have HZ := Lib.hid (fun w' => refSize_any h x w')
  have HD := Lib.hid hd
  have HSZ := Lib.hid hS
  have hsle := sizeD_le h x
  rw [hS] at hsle
  obtain ⟨hx1, hx2⟩ := hx
  clear hc hd hS
  unfold sv
  obtain ⟨M, hM⟩ : ∃ M, M = countD h := ⟨_, rfl⟩
  subst her
  rw [← hM] at hcl hcp HC
  clear hM
  go_enter Tryd.func23, Tryd.ntmps23
  go_wp2_with (with_reducible refine bxArr (cs := bcs p) (.tmp 0) (wn rfl) rfl rfl ?_)
  intro w1 h4 hb
  go_wp2_with fail
  refine (HC.out w1).mono ?_
  rintro e w3 ⟨rfl, rfl⟩
  go_wp2_with (with_reducible refine convBs (.tmp 17) sig Tryd.und_str Tryd.sl_u8.und Tryd.und_u8 (wn rfl) rfl rfl (by omega) ?_)
  intro A5 c5 w5 hrd b5
  replace h4 := h4.below b5 h4.lt
  replace hb := hb.trans (b5.mono hb.size)
  clear b5
  go_wp2_with fail
  refine (refGetInt_any sig A5 _ c5 _ w5 hrd).mono ?_
  rintro e w6 ⟨rfl, rfl⟩
  rw [HD.out]
  clear hrd
  go_wp2_with fail
  go_ret2
  exact ⟨rfl, hb⟩
set_option maxRecDepth 100000 in
set_option maxHeartbeats 2000000 in
theorem refVerify_s2 (p : List UInt8) (h x u er : Int) (S : Nat) (m sig : List UInt8) (w : World) (hl : sig.length ≤ 1000000) (hc : countD h ≠ 0) (hx : isI64 x) (hd : dec sig = (x, u, er)) (hS : sizeD h x = S) (her : er = 0) (hz0 : 0 ≤ x) (hz : (countD h : Int) ≤ x) :
    Calls Tryd.prog 23 #[.agg (bcs p).toArray, .int .i64 h, sv m, sv sig] w fun e w' => e = .returned (.tuple #[.int .i64 0, .int .i64 8]) ∧ Below w.heap.size w w' := by
  have hcl := countD_le h
  have hcp : 0 < countD h := by omega
  have HC := Lib.hid (fun w' => refCount_any h w')
  have HZ := Lib.hid (fun w' => refSize_any h x w')
  have HD := Lib.hid hd
  have HSZ := Lib.hid hS
  have hsle := sizeD_le h x
  rw [hS] at hsle
  obtain ⟨hx1, hx2⟩ := hx
  clear hc hd hS
  unfold sv
  obtain ⟨M, hM⟩ : ∃ M, M = countD h := ⟨_, rfl⟩
  subst her
  rw [← hM] at hz
  rw [← hM] at hcl hcp HC
  clear hM
  go_enter Tryd.func23, Tryd.ntmps23
  go_wp2_with (with_reducible refine bxArr (cs := bcs p) (.tmp 0) (wn rfl) rfl rfl ?_)
  intro w1 h4 hb
  go_wp2_with fail
  refine (HC.out w1).mono ?_
  rintro e w3 ⟨rfl, rfl⟩
  go_wp2_with (with_reducible refine convBs (.tmp 17) sig Tryd.und_str Tryd.sl_u8.und Tryd.und_u8 (wn rfl) rfl rfl (by omega) ?_)
  intro A5 c5 w5 hrd b5
  replace h4 := h4.below b5 h4.lt
  replace hb := hb.trans (b5.mono hb.size)
  clear b5
  go_wp2_with fail
  refine (refGetInt_any sig A5 _ c5 _ w5 hrd).mono ?_
  rintro e w6 ⟨rfl, rfl⟩
  rw [HD.out]
  clear hrd
  go_wp2_with fail
  refine (HC.out w5).mono ?_
  rintro e w7 ⟨rfl, rfl⟩
  go_wp2_with fail
  go_ret2
  exact ⟨rfl, hb⟩
set_option maxRecDepth 100000 in
set_option maxHeartbeats 2000000 in
theorem refVerify_t (p : List UInt8) (h x u er : Int) (S : Nat) (m sig : List UInt8) (w : World) (hl : sig.length ≤ 1000000) (hc : countD h ≠ 0) (hx : isI64 x) (hd : dec sig = (x, u, er)) (hS : sizeD h x = S) (her : er = 0) (hz0 : 0 ≤ x) (hz : x < (countD h : Int)) (hlt : sig.length < S) :
    Calls Tryd.prog 23 #[.agg (bcs p).toArray, .int .i64 h, sv m, sv sig] w fun e w' => e = .returned (.tuple #[.int .i64 0, .int .i64 5]) ∧ Below w.heap.size w w' := by
  have hcl := countD_le h
  have hcp : 0 < countD h := by omega
  have HC := Lib.hid (fun w' => refCount_any h w')
  have HZ := Lib.hid (fun w' => refSize_any h x w')
  have HD := Lib.hid hd
  have HSZ := Lib.hid hS
  have hsle := sizeD_le h x
  rw [hS] at hsle
  obtain ⟨hx1, hx2⟩ := hx
  clear hc hd hS
  unfold sv
  obtain ⟨M, hM⟩ : ∃ M, M = countD h := ⟨_, rfl⟩
  subst her
  rw [← hM] at hz
  rw [← hM] at hcl hcp HC
  clear hM
  go_enter Tryd.func23, Tryd.ntmps23
  go_wp2_with (with_reducible refine bxArr (cs := bcs p) (.tmp 0) (wn rfl) rfl rfl ?_)
  intro w1 h4 hb
  go_wp2_with fail
  refine (HC.out w1).mono ?_
  rintro e w3 ⟨rfl, rfl⟩
  go_wp2_with (with_reducible refine convBs (.tmp 17) sig Tryd.und_str Tryd.sl_u8.und Tryd.und_u8 (wn rfl) rfl rfl (by omega) ?_)
  intro A5 c5 w5 hrd b5
  replace h4 := h4.below b5 h4.lt
  replace hb := hb.trans (b5.mono hb.size)
  clear b5
  go_wp2_with fail
  refine (refGetInt_any sig A5 _ c5 _ w5 hrd).mono ?_
  rintro e w6 ⟨rfl, rfl⟩
  rw [HD.out]
  clear hrd
  go_wp2_with fail
  refine (HC.out w5).mono ?_
  rintro e w7 ⟨rfl, rfl⟩
  go_wp2_with fail
  refine (HZ.out w7).mono ?_
  rintro e w8 ⟨rfl, b8⟩
  rw [HSZ.out]
  replace hb := hb.trans (b8.mono hb.size)
  clear b8
  go_wp2_with fail
  go_ret2
  exact ⟨rfl, hb⟩
set_option maxRecDepth 100000 in
set_option maxHeartbeats 2000000 in
theorem refVerify_m (p : List UInt8) (h x u er : Int) (S : Nat) (m sig : List UInt8) (w : World) (hl : sig.length ≤ 1000000) (hc : countD h ≠ 0) (hx : isI64 x) (hd : dec sig = (x, u, er)) (hS : sizeD h x = S) (her : er = 0) (hz0 : 0 ≤ x) (hz : x < (countD h : Int)) (hlt : S < sig.length) :
    Calls Tryd.prog 23 #[.agg (bcs p).toArray, .int .i64 h, sv m, sv sig] w fun e w' => e = .returned (.tuple #[.int .i64 0, .int .i64 6]) ∧ Below w.heap.size w w' := by
  have hcl := countD_le h
  have hcp : 0 < countD h := by omega
  have HC := Lib.hid (fun w' => refCount_any h w')
  have HZ := Lib.hid (fun w' => refSize_any h x w')
  have HD := Lib.hid hd
  have HSZ := Lib.hid hS
  have hsle := sizeD_le h x
  rw [hS] at hsle
  obtain ⟨hx1, hx2⟩ := hx
  clear hc hd hS
  unfold sv
  obtain ⟨M, hM⟩ : ∃ M, M = countD h := ⟨_, rfl⟩
  subst her
  rw [← hM] at hz
  rw [← hM] at hcl hcp HC
  clear hM
  go_enter Tryd.func23, Tryd.ntmps23
  go_wp2_with (with_reducible refine bxArr (cs := bcs p) (.tmp 0) (wn rfl) rfl rfl ?_)
  intro w1 h4 hb
  go_wp2_with fail
  refine (HC.out w1).mono ?_
  rintro e w3 ⟨rfl, rfl⟩
  go_wp2_with (with_reducible refine convBs (.tmp 17) sig Tryd.und_str Tryd.sl_u8.und Tryd.und_u8 (wn rfl) rfl rfl (by omega) ?_)
  intro A5 c5 w5 hrd b5
  replace h4 := h4.below b5 h4.lt
  replace hb := hb.trans (b5.mono hb.size)
  clear b5
  go_wp2_with fail
  refine (refGetInt_any sig A5 _ c5 _ w5 hrd).mono ?_
  rintro e w6 ⟨rfl, rfl⟩
  rw [HD.out]
  clear hrd
  go_wp2_with fail
  refine (HC.out w5).mono ?_
  rintro e w7 ⟨rfl, rfl⟩
  go_wp2_with fail
  refine (HZ.out w7).mono ?_
  rintro e w8 ⟨rfl, b8⟩
  rw [HSZ.out]
  replace hb := hb.trans (b8.mono hb.size)
  clear b8
  go_wp2_with fail
  refine (HZ.out w8).mono ?_
  rintro e w9 ⟨rfl, b8⟩
  rw [HSZ.out]
  replace hb := hb.trans (b8.mono hb.size)
  clear b8
  go_wp2_with fail
  go_ret2
  exact ⟨rfl, hb⟩
set_option maxRecDepth 100000 in
set_option maxHeartbeats 2000000 in
theorem refVerify_c (p : List UInt8) (h : Int) (m sig : List UInt8) (w : World) (hc : countD h = 0) :
    Calls Tryd.prog 23 #[.agg (bcs p).toArray, .int .i64 h, sv m, sv sig] w fun e w' => e = .returned (.tuple #[.int .i64 0, .int .i64 1]) ∧ Below w.heap.size w w' := by
  have HCC := Lib.hid hc
  have HC := Lib.hid (fun w' => refCount_any h w')
  clear hc
  unfold sv
  go_enter Tryd.func23, Tryd.ntmps23
  go_wp2_with (with_reducible refine bxArr (cs := bcs p) (.tmp 0) (wn rfl) rfl rfl ?_)
  intro w1 h4 hb
  go_wp2_with fail
  refine (HC.out w1).mono ?_
  rintro e w3 ⟨rfl, rfl⟩
  rw [HCC.out]
  go_wp2_with fail
  go_ret2
  exact ⟨rfl, hb⟩
def GRVer (p R : List UInt8) (ix_ : Nat) (v : Value) (_w : World) : Prop :=
  match ix_ with
  | 0 => v = .agg (bcs p).toArray
  | 7 => v = .agg (bcs R).toArray
  | 8 => v = .agg (bcs p).toArray
  | _ => True
set_option maxRecDepth 100000 in
set_option maxHeartbeats 2000000 in
theorem refVerify_ok (p : List UInt8) (h i U : Nat) (m sig : List UInt8) (w : World) (ht : TabsR w) (hp : p.length = 16) (hm : m.length ≤ 100000000) (hh : h ≤ 6) (hi : i < 2 ^ h) (hd : dec sig = ((i : Int), (U : Int), 0)) (hU : U = (enc i).length) (hl : sig.length = U + 16 * (35 + h)) :
    Calls Tryd.prog 23 #[.agg (bcs p).toArray, .int .i64 (h : Int), sv m, sv sig] w fun e w' => e = .returned (verV i (rootD h i (messageD p i m) (sig.drop U)) p) ∧ Below w.heap.size w w' := by
  have hcd := countD_of hh
  have hp1 := two_pow_pos h
  have hp64 := two_pow_le hh
  have hen := enc_len i
  have hsz : sizeD h i = sig.length := by rw [sizeD_of hh hi, ← hU, hl]
  have hsl : sig.length ≤ 700 := by omega
  have hU10 : U ≤ sig.length := by omega
  have HPL := Lib.hid (show (bcs p).length = 16 by rw [bcs_length]; exact hp)
  have HP16 := Lib.hid hp
  have HROOT := Lib.hid (fun w' (h' : TabsR w') => refRoot_any p h i m (sig.drop U) w' h' hp hm hh (by omega) (by rw [List.length_drop]; omega) (by rw [List.length_drop]; omega))
  have HRL := Lib.hid (show (rootD h i (messageD p i m) (sig.drop U)).length = 16 from upD_len _ _ _ (ofDig_len _ _) _)
  obtain ⟨R, hR⟩ : ∃ R, R = rootD h i (messageD p i m) (sig.drop U) := ⟨_, rfl⟩
  rw [← hR] at HRL HROOT
  rw [← hR]
  obtain ⟨M, hM⟩ : ∃ M, M = 2 ^ h := ⟨_, rfl⟩
  rw [← hM] at hcd hp1 hp64 hi
  have HC := Lib.hid (fun w' => refCount_any h w')
  rw [hcd] at HC
  have HZ := Lib.hid (fun w' => refSize_any h i w')
  rw [hsz] at HZ
  have HD := Lib.hid hd
  clear hM hd hsz hU hl hR hcd
  unfold sv
  go_enter Tryd.func23, Tryd.ntmps23
  go_wp2_with (with_reducible refine bxArr (cs := bcs p) (.tmp 0) (wn rfl) rfl rfl ?_)
  intro w1 h4 hb
  go_wp2_with fail
  refine (HC.out w1).mono ?_
  rintro e w3 ⟨rfl, rfl⟩
  go_wp2_with (with_reducible refine convBs (.tmp 17) sig Tryd.und_str Tryd.sl_u8.und Tryd.und_u8 (wn rfl) rfl rfl (by omega) ?_)
  intro A5 c5 w5 hrd b5
  replace h4 := h4.below b5 h4.lt
  replace hb := hb.trans (b5.mono hb.size)
  clear b5
  go_wp2_with fail
  refine (refGetInt_any sig A5 _ c5 _ w5 hrd).mono ?_
  rintro e w6 ⟨rfl, rfl⟩
  rw [HD.out]
  clear hrd
  go_wp2_with fail
  refine (HC.out w5).mono ?_
  rintro e w7 ⟨rfl, rfl⟩
  go_wp2_with fail
  refine (HZ.out w7).mono ?_
  rintro e w8 ⟨rfl, b8⟩
  replace h4 := h4.below b8 h4.lt
  replace hb := hb.trans (b8.mono hb.size)
  clear b8
  go_wp2_with fail
  refine (HZ.out w8).mono ?_
  rintro e w9 ⟨rfl, b8⟩
  replace h4 := h4.below b8 h4.lt
  replace hb := hb.trans (b8.mono hb.size)
  clear b8
  go_wp2_with fail
  refine aStart (by kernel_rfl) ?_
  replace h4 := h4.drew
  replace hb := hb.drew
  generalize w9.drew = wd at *
  refine aTake (i := 1) (v := .int .i64 (h : Int)) rfl (by kernel_rfl) (wn rfl) (fun _ _ _ h => h) (fun w => by kernel_rfl) ?_
  refine aTake (i := 2) (v := .int .i64 (i : Int)) rfl (by kernel_rfl) (wn rfl) (fun _ _ _ h => h) (fun w => by kernel_rfl) ?_
  refine aTake (i := 3) (v := .string ⟨m.toArray⟩) rfl (by kernel_rfl) (wn rfl) (fun _ _ _ h => h) (fun w => by kernel_rfl) ?_
  refine aTake (i := 4) (v := .string ⟨sig.toArray⟩) rfl (by kernel_rfl) (wn rfl) (fun _ _ _ h => h) (fun w => by kernel_rfl) ?_
  refine aTake (i := 5) (v := .int .i64 (U : Int)) rfl (by kernel_rfl) (wn rfl) (fun _ _ _ h => h) (fun w => by kernel_rfl) ?_
  refine aTake (i := 6) (v := .string ⟨(sig.drop U).toArray⟩) rfl (by kernel_rfl) (wn rfl) (fun _ _ _ h => h) (fun w => slStrLRun (kl := .i64) (L := (U : Int)) (.tmp 50) (.tmp 51) sig U rfl (by kernel_rfl) (by kernel_rfl) rfl (by omega) Tryd.und_str) ?_
  refine rgFloat [(0, 46), (7, 53), (8, 54)] (GRVer p R) _ 1 rfl (by kernel_rfl) ?mono ?step ?fin
  case mono =>
    intro p hp v w w' h hE
    simp only [List.mem_cons, List.not_mem_nil, or_false] at hp
    rcases hp with rfl | rfl | rfl
    · exact h
    · exact h
    · exact h
  case step =>
    intro p hp
    simp only [List.mem_cons, List.not_mem_nil, or_false] at hp
    rcases hp with rfl | rfl | rfl
    · refine ⟨_, rfl, rfl, fun a w' hF hE hG => ?_⟩
      refine ldArr (b := w.heap.size) (.tmp 4) Tryd.ag_b16 (wn rfl) rfl ((hF.eval 4 (by kernel_rfl)).trans (by kernel_rfl)) HPL.out (h4.below hE h4.lt) ?_
      exact ⟨_, rfl, Below.refl _ _, rfl⟩
    · refine ⟨_, rfl, rfl, fun a w' hF hE hG => ?_⟩
      have hx46 : a.tmps.getD 46 undef = .agg (bcs p).toArray := hG (0, 46) (by simp) (by kernel_rfl)
      refine callOp 25 [.agg (bcs p).toArray, .int .i64 (h : Int), .int .i64 (i : Int), .string ⟨m.toArray⟩, .string ⟨(sig.drop U).toArray⟩] [] [] (by kernel_rfl) (wn rfl) rfl rfl (by show [a.tmps.getD 46 undef, a.eval (.tmp 47), a.eval (.tmp 48), a.eval (.tmp 49), a.eval (.tmp 52)] = _; rw [hx46, hF.eval 47 (by kernel_rfl), hF.eval 48 (by kernel_rfl), hF.eval 49 (by kernel_rfl), hF.eval 52 (by kernel_rfl)]; first | done | kernel_rfl) ?_
      refine (HROOT.out w' (ht.below (hb.trans (hE.mono hb.size)) ht.size)).mono ?_
      rintro e w2 ⟨rfl, hb2⟩
      exact ⟨_, rfl, ⟨_, rfl, hb2, rfl⟩⟩
    · refine ⟨_, rfl, rfl, fun a w' hF hE hG => ?_⟩
      refine ldArr (b := w.heap.size) (.tmp 4) Tryd.ag_b16 (wn rfl) rfl ((hF.eval 4 (by kernel_rfl)).trans (by kernel_rfl)) HPL.out (h4.below hE h4.lt) ?_
      exact ⟨_, rfl, Below.refl _ _, rfl⟩
  case fin =>
    intro a wf hF hE hG
    have q53 : a.tmps.getD 53 undef = .agg (bcs R).toArray := hG (7, 53) (by simp)
    have q54 : a.tmps.getD 54 undef = .agg (bcs p).toArray := hG (8, 54) (by simp)
    replace hb := hb.trans (hE.mono hb.size)
    rw [hF.eq]
    simp only [putsX]
    rw [q53, q54]
    generalize a.tmps.getD 46 undef = x46
    clear hG hF q53 q54 hE h4
    by_cases heq : R = p
    · have hbq : (!(R == p)) = false := by simp [heq]
      have HBQ := Lib.hid hbq
      have HEQ := Lib.hid heq
      clear hbq heq
      refine aNext (i := 9) (by kernel_rfl) rfl ?_
      refine neqBytes (.tmp 53) (.tmp 54) R p false Tryd.arr_b16 Tryd.und_u8 Tryd.one_u8 (by kernel_rfl) (wn rfl) rfl (by kernel_rfl) (by kernel_rfl) HRL.out HP16.out HBQ.out ?_
      refine aDone (by kernel_rfl) ?_
      simp only [Act.put, List.setIfInBounds_toArray, List.set_cons_succ, List.set_cons_zero]
      go_wp2_with fail
      go_ret2
      refine ⟨?_, hb⟩
      unfold verV
      rw [if_pos HEQ.out, if_pos HEQ.out]
      rfl
    · have hbq : (!(R == p)) = true := by simp [heq]
      have HBQ := Lib.hid hbq
      have HEQ := Lib.hid heq
      clear hbq heq
      refine aNext (i := 9) (by kernel_rfl) rfl ?_
      refine neqBytes (.tmp 53) (.tmp 54) R p true Tryd.arr_b16 Tryd.und_u8 Tryd.one_u8 (by kernel_rfl) (wn rfl) rfl (by kernel_rfl) (by kernel_rfl) HRL.out HP16.out HBQ.out ?_
      refine aDone (by kernel_rfl) ?_
      simp only [Act.put, List.setIfInBounds_toArray, List.set_cons_succ, List.set_cons_zero]
      go_wp2_with fail
      go_ret2
      refine ⟨?_, hb⟩
      unfold verV
      rw [if_neg HEQ.out, if_neg HEQ.out]
      rfl
theorem refVerify_any (p : List UInt8) (h : Int) (m sig : List UInt8) (w : World) (ht : TabsR w) (hp : p.length = 16) (hm : m.length ≤ 100000000) (hl : sig.length ≤ 1000000) :
    Calls Tryd.prog 23 #[.agg (bcs p).toArray, .int .i64 h, sv m, sv sig] w fun e w' => e = .returned (verifyV p h m sig) ∧ Below w.heap.size w w' := by
  by_cases hc : countD h = 0
  · have e : verifyD p h m sig = (0, 1) := by unfold verifyD; rw [if_pos hc]
    unfold verifyV
    rw [e]
    exact refVerify_c p h m sig w hc
  · obtain ⟨x, u, er, hd⟩ : ∃ x u er, dec sig = (x, u, er) := ⟨_, _, _, rfl⟩
    have hf := dec_facts hd
    have hx : isI64 x := by
      rcases hf with ⟨_, _, _, _, h5⟩ | ⟨rfl, _, _⟩
      · exact h5
      · unfold isI64; omega
    by_cases he : er = 0
    · subst he
      by_cases hz : sizeD h x = 0
      · have e : verifyD p h m sig = (0, 8) := by unfold verifyD; rw [if_neg hc, hd]; simp [hz]
        unfold verifyV
        rw [e]
        by_cases hx0 : x < 0
        · exact refVerify_s1 p h x u 0 _ m sig w hl hc hx hd rfl rfl hx0
        · refine refVerify_s2 p h x u 0 _ m sig w hl hc hx hd rfl rfl (by omega) ?_
          unfold sizeD at hz
          split at hz
          · omega
          · omega
      · have hr : 0 ≤ x ∧ x < (countD h : Int) := by
          unfold sizeD at hz
          split at hz
          · omega
          · omega
        by_cases hlt : sig.length < sizeD h x
        · have e : verifyD p h m sig = (0, 5) := by unfold verifyD; rw [if_neg hc, hd]; simp [hz, hlt]
          unfold verifyV
          rw [e]
          exact refVerify_t p h x u 0 _ m sig w hl hc hx hd rfl rfl hr.1 hr.2 hlt
        · by_cases hgt : sizeD h x < sig.length
          · have e : verifyD p h m sig = (0, 6) := by unfold verifyD; rw [if_neg hc, hd]; simp [hz, hlt, hgt]
            unfold verifyV
            rw [e]
            exact refVerify_m p h x u 0 _ m sig w hl hc hx hd rfl rfl hr.1 hr.2 hgt
          · obtain ⟨h0, h6⟩ := countD_pos hr.1 hr.2
            obtain ⟨k, rfl⟩ : ∃ k : Nat, h = (k : Int) := ⟨h.toNat, by omega⟩
            obtain ⟨i, rfl⟩ : ∃ i : Nat, x = (i : Int) := ⟨x.toNat, by omega⟩
            obtain ⟨U, rfl⟩ : ∃ U : Nat, u = (U : Int) := ⟨u.toNat, by rcases hf with h1 | h1 <;> omega⟩
            have hk : k ≤ 6 := by omega
            have hcd := countD_of hk
            have hi : i < 2 ^ k := by omega
            have hU := dec_len hd
            have hss := sizeD_of hk hi
            have e : verifyV p k m sig = verV i (rootD k i (messageD p i m) (sig.drop U)) p := by
              unfold verifyV verV verifyD
              rw [if_neg hc, hd]
              simp only [ne_eq, not_true_eq_false, if_false, hz, hlt, hgt, Int.toNat_natCast]
              split <;> rfl
            rw [e]
            exact refVerify_ok p k i U m sig w ht hp hm hk hi hd hU (by omega)
    · have e : verifyD p h m sig = (0, er) := by unfold verifyD; rw [if_neg hc, hd]; simp [he]
      unfold verifyV
      rw [e]
      exact refVerify_e p h x u er _ m sig w hl hc hx hd rfl (by rcases hf with h1 | h1 <;> omega)
end Go.Proofs.YtienlndjhcmemaaDoor
/-
  '==' on arrays of integers. No statement is proved here.
-/
namespace Go.Proofs.YtienlndjhcmemaaDoor
open Go.RowKit

theorem all_range_eqI : ∀ (xs ys : List Int), xs.length = ys.length → ((List.range xs.length).all fun i => xs.getD i 0 == ys.getD i 0) = (xs == ys)
  | [], [], _ => rfl
  | x :: xs, y :: ys, h => by
    have ih := all_range_eqI xs ys (by simpa using h)
    rw [List.length_cons, List.range_succ_eq_map, List.all_cons, List.all_map]
    simp only [List.getD_cons_zero, Function.comp_def, List.getD_cons_succ, ih]
    simp [List.cons_beq_cons]
  | [], _ :: _, h => by simp at h
  | _ :: _, [], h => by simp at h
theorem run_equalIn_ints {P : Program} (w : World) (d : Nat) (t e : TypeId) (n : Nat) (k : IntKind) (ht : P.underlying t = some (.array n e)) (he : P.underlying e = some (.int k)) (hsz : ∀ w, (sizeOf e).run P w = .ok 1 w)
    (xs ys : List Int) (hx : xs.length = n) (hy : ys.length = n) :
    (Op.equalIn (d + 2) t (.agg (xs.map (Value.int k)).toArray) (.agg (ys.map (Value.int k)).toArray)).run P w = .ok (xs == ys) w := by
  rw [← all_range_eqI xs ys (hx.trans hy.symm), hx, List.range_eq_range', Op.equalIn]
  simp only [Sem.run_bind, run_underlying ht, Result.andThen_ok, hsz, Std.Legacy.Range.forIn_eq_forIn_range', Std.Legacy.Range.size, Nat.sub_zero, Nat.add_sub_cancel, Nat.div_one]
  have hl : ∀ i ∈ List.range' 0 n 1, i < n := fun i hi => by simpa using (List.mem_range'_1.1 hi).2
  generalize List.range' 0 n 1 = l at hl ⊢
  induction l with
  | nil => simp
  | cons i l ih =>
    have hi : i < n := hl i (by simp)
    have px : (Go.part e (xs.map (Value.int k)).toArray (i * 1)).run P w = .ok (.int k (xs.getD i 0)) w := by
      simp [Go.part, isAgg, run_underlying he, List.getD, List.getElem?_eq_getElem (show i < xs.length by omega)]
    have py : (Go.part e (ys.map (Value.int k)).toArray (i * 1)).run P w = .ok (.int k (ys.getD i 0)) w := by
      simp [Go.part, isAgg, run_underlying he, List.getD, List.getElem?_eq_getElem (show i < ys.length by omega)]
    have pe : (Op.equalIn (d + 1) e (.int k (xs.getD i 0)) (.int k (ys.getD i 0))).run P w = .ok (xs.getD i 0 == ys.getD i 0) w := by
      rw [run_equalIn_int w d e k k _ _ he]
    simp only [List.forIn_cons, Sem.run_bind, px, py, pe, Result.andThen_ok, List.all_cons]
    cases hb : (xs.getD i 0 == ys.getD i 0)
    · simp
    · simp only [Bool.not_true, Bool.false_eq_true, if_false, Sem.run_pure, Result.andThen_ok, Bool.true_and]
      exact ih fun j hj => hl j (by simp [hj])
/-- '==' on arrays of ints, at the operation. -/
theorem eqInts {P : Program} {w : World} {ops : Array Oper} {rest : List Oper} {o : Oper} {a : Act} {Q : Exit → Act → World → Prop} {t e ty : TypeId} {n : Nat} {k : IntKind} (x y : Operand) (xs ys : List Int) (b : Bool) (ht : P.underlying t = some (.array n e)) (he : P.underlying e = some (.int k)) (hs : (P.info? e).map (·.size) = some 1) (hq : P.eqGuardType P.depth t = false)
    (hgd : Region.wanted o (yielded ops a.tmps) = true) (ho : o.op = .binOp .eql t x y ty) (hxv : a.eval x = .agg (xs.map (Value.int k)).toArray) (hyv : a.eval y = .agg (ys.map (Value.int k)).toArray) (hx : xs.length = n) (hy : ys.length = n) (hb : (xs == ys) = b)
    (hk : wpList P ops Q rest (a.put o.dst (.bool b)) w) : wpList P ops Q (o :: rest) a w := by
  refine opVal (v := .bool b) hgd ?_ hk
  obtain ⟨i, hi, hsz⟩ := Option.map_eq_some_iff.1 hs
  have hr := run_equalIn_ints w 9998 t e n k ht he (fun w => by simp [sizeOf, typeInfo, hi, hsz]) xs ys hx hy
  rw [hb] at hr
  unfold execOp
  simp only [ho, hxv, hyv]
  simp [eqGuard, hq, run_eql_struct, hr]
end Go.Proofs.YtienlndjhcmemaaDoor
/-
  More arithmetic, conversions and texts at an operation, for operations taken first. No statement is proved here.
-/
namespace Go.Proofs.YtienlndjhcmemaaDoor
open Go.RowKit

section
variable {P : Program} {w : World} {o : Oper} {a : Act} {t ty src dst : TypeId} {A B C : Int} {k : IntKind}
/-- 'int(x)'. -/
theorem convIntRun (x : Operand) (hs : (P.underlying src).isSome = true) (hd : P.underlying dst = some (.int .i64)) (ho : o.op = .convert src dst x) (hx : a.eval x = .int k A) (h : -9223372036854775808 ≤ A ∧ A ≤ 9223372036854775807) : (execOp a.eval o).run P w = .ok (.value (.int .i64 A)) w := by
  have hw := IntWalk.i64_in A h
  have hk : P.intKind dst = .i64 := by simp [Program.intKind, hd]
  have hr := run_convert_int (P := P) w src dst k A hs (by rw [hk]; exact hd)
  rw [hk, hw] at hr
  unfold execOp
  simp only [ho, hx, Sem.run_bind, Sem.run_pure, hr, Result.andThen_ok]
/-- '%' of two numbers not below 0. -/
theorem remRun (x y : Operand) (ho : o.op = .binOp .rem t x y ty) (hx : a.eval x = .int .i64 A) (hy : a.eval y = .int .i64 B) (hA : 0 ≤ A) (hB : 1 ≤ B) (hC : A % B = C) : (execOp a.eval o).run P w = .ok (.value (.int .i64 C)) w := by
  have h0 : ¬ B = 0 := by omega
  have h1 : A.tmod B = C := by rw [Int.tmod_eq_emod_of_nonneg hA, hC]
  unfold execOp
  simp [ho, hx, hy, eqGuard, binOp_rem, Op.intDiv, h0, h1]
/-- len of a text. -/
theorem lenStrRun (x : Operand) (l : List UInt8) (ht : P.underlying t = some .string) (ho : o.op = .call { callee := .builtin .len, args := #[x], argTypes := #[t] }) (hx : a.eval x = .string ⟨l.toArray⟩) : (execOp a.eval o).run P w = .ok (.value (.int .i64 (l.length : Int))) w := by
  unfold execOp
  have hs : (⟨l.toArray⟩ : ByteArray).size = l.length := by simp [ByteArray.size]
  simp [ho, hx, resolve, invoke, builtin, Builtin.len_, run_underlying ht, goInt, hs]
end
end Go.Proofs.YtienlndjhcmemaaDoor
/-
  sanity of the statements on sign answers true.
-/
namespace Go.Proofs.YtienlndjhcmemaaDoor
open Go.RowKit
set_option linter.unusedVariables false

/-- A call that answers b and leaves what was there as it was. -/
def RetB (w : World) (b : Bool) (e : Ending) (w' : World) : Prop := e = .returned (.bool b) ∧ Below w.heap.size w w'
def sanA : List UInt8 := List.replicate 16 0
def sanB : List UInt8 := [255, 16, 0, 0, 0, 0, 0, 0, 0, 0, 0, 0, 0, 0, 0, 0]
theorem san_a : (ivs (digitsD sanA))[0]? = some (.int .i64 0) ∧ (ivs (digitsD sanA))[31]? = some (.int .i64 0) ∧ (ivs (digitsD sanA))[32]? = some (.int .i64 1) ∧ (ivs (digitsD sanA))[33]? = some (.int .i64 14) ∧ (ivs (digitsD sanA))[34]? = some (.int .i64 0) :=
  ⟨by kernel_rfl, by kernel_rfl, by kernel_rfl, by kernel_rfl, by kernel_rfl⟩
theorem san_b : (ivs (digitsD sanB))[0]? = some (.int .i64 15) ∧ (ivs (digitsD sanB))[1]? = some (.int .i64 15) ∧ (ivs (digitsD sanB))[2]? = some (.int .i64 1) ∧ (ivs (digitsD sanB))[3]? = some (.int .i64 0) ∧ (ivs (digitsD sanB))[32]? = some (.int .i64 1) ∧ (ivs (digitsD sanB))[33]? = some (.int .i64 12) ∧ (ivs (digitsD sanB))[34]? = some (.int .i64 1) :=
  ⟨by kernel_rfl, by kernel_rfl, by kernel_rfl, by kernel_rfl, by kernel_rfl, by kernel_rfl, by kernel_rfl⟩
theorem san_pub : publicD [115] 7 = (List.replicate 16 0, 1) := by unfold publicD; rw [if_pos (by decide)]
theorem san_pub0 : publicD [115] 0 = (valueD [115] 0 0, 0) := by unfold publicD; rw [if_neg (by decide)]; rfl
theorem san_sgn : makeD [115] 1 2 [109] = ([], 23) := by unfold makeD; rw [if_neg (by decide), if_pos (by decide)]
theorem san_sgn0 : makeD [115] 0 0 [109] = (signD [115] 0 0 [109], 0) := by unfold makeD; rw [if_neg (by decide), if_neg (by decide)]; rfl
theorem san_ver : verifyD (valueD [115] 0 0) 0 [109] (signD [115] 0 0 [109]) = (0, 0) := verify_sign [115] (h := 0) (i := 0) [109] (by decide) (by decide)
theorem san_verx : verifyD (valueD [115] 0 0) 0 [109] (signD [115] 0 0 [109] ++ [120]) = (0, 6) := verify_more (valueD [115] 0 0) [115] (h := 0) (i := 0) [109] [109] [120] (by decide) (by decide) (by simp)
theorem san_len : (signD [115] 0 0 [109]).length = 561 := (signD_len [115] (h := 0) (i := 0) [109] (by decide) (by decide)).trans (by kernel_rfl)
set_option maxRecDepth 100000 in
set_option maxHeartbeats 2000000 in
theorem sanity_any (w : World) (ht : Tabs w) : Calls Tryd.prog 9 #[] w (RetB w true) := by
  have HA := Lib.hid san_a
  have HB := Lib.hid san_b
  have HAL := Lib.hid (show (ivs (digitsD sanA)).length = 35 by rw [ivs_len]; exact digitsD_len rfl)
  have HBL := Lib.hid (show (ivs (digitsD sanB)).length = 35 by rw [ivs_len]; exact digitsD_len rfl)
  have HPL := Lib.hid (show (bcs (valueD [115] 0 0)).length = 16 by rw [bcs_length]; exact valueD_len _ _ _)
  have HP16 := Lib.hid (valueD_len [115] 0 0)
  have HSL := Lib.hid san_len
  have hbd : ∀ w : World, (Instr.build 23 #[]).run Tryd.prog w = .ok (.agg (bcs sanA).toArray) w := fun w => by kernel_rfl
  have hbd2 : ∀ w : World, (Instr.build 23 #[(0, .int .u8 255), (1, .int .u8 16)]).run Tryd.prog w = .ok (.agg (bcs sanB).toArray) w := fun w => by kernel_rfl
  have HD1 := Lib.hid (fun w' => digits_any sanA w' rfl)
  have HD2 := Lib.hid (fun w' => digits_any sanB w' rfl)
  have HPU := Lib.hid (fun w' (h : Tabs w') => public_any [115] 7 w' h (by decide))
  have HPU0 := Lib.hid (fun w' (h : Tabs w') => public_any [115] 0 w' h (by decide))
  have HSG := Lib.hid (fun w' (h : Tabs w') => sign_any [115] 1 2 [109] w' h (by decide) (by decide))
  have HSG0 := Lib.hid (fun w' (h : Tabs w') => sign_any [115] 0 0 [109] w' h (by decide) (by decide))
  have HV := Lib.hid (fun w' (h : Tabs w') => verify_any (valueD [115] 0 0) 0 [109] (signD [115] 0 0 [109]) w' h HP16.out (by decide) (by rw [HSL.out]; decide))
  have HVX := Lib.hid (fun w' (h : Tabs w') => verify_any (valueD [115] 0 0) 0 [109] (signD [115] 0 0 [109] ++ [120]) w' h HP16.out (by decide) (by rw [List.length_append, HSL.out]; decide))
  rw [san_pub] at HPU
  rw [san_pub0] at HPU0
  rw [san_sgn] at HSG
  rw [san_sgn0] at HSG0
  unfold verifyV at HV HVX
  rw [san_ver] at HV
  rw [san_verx] at HVX
  have HC3 := Lib.hid (fun w' => count_any 3 w')
  have HS1 := Lib.hid (fun w' => size_any 2 3 w')
  have HS0 := Lib.hid (fun w' => size_any 0 0 w')
  rw [show countD 3 = 8 from rfl] at HC3
  rw [show sizeD 2 3 = 593 by kernel_rfl] at HS1
  rw [show sizeD 0 0 = 561 by kernel_rfl] at HS0
  unfold pairV at HPU HPU0
  unfold textV sv at HSG HSG0
  have hsz1 : (signD [115] 0 0 [109]).length ≤ 1000 := by rw [HSL.out]; decide
  generalize signD [115] 0 0 [109] = sg at *
  generalize valueD [115] 0 0 = pk at *
  have hg : w.heap.size ≤ w.heap.size := Nat.le_refl _
  have hb : Below w.heap.size w w := Below.refl _ _
  go_enter Tryd.func9, Tryd.ntmps9
  go_wp2_with (with_reducible refine bdVal (ps := #[]) (v := .agg (bcs sanA).toArray) hbd (wn rfl) rfl rfl ?_)
  refine (HD1.out w).mono ?_
  rintro e w1 ⟨rfl, b1⟩
  replace hb := hb.trans b1
  clear b1 HD1
  go_wp2_with (with_reducible refine alArr (z := zerosI 35) Tryd.ag_i35 (wn rfl) rfl ?_)
  intro w2 h1 b2
  have l1 : w.heap.size ≤ w1.heap.size := hb.size
  replace hb := hb.trans (b2.mono hb.size)
  clear b2
  generalize w1.heap.size = g1 at *
  go_wp2_with (with_reducible refine stArr (cs := ivs (digitsD sanA)) (.tmp 1) (.tmp 17) Tryd.ag_i35 (wn rfl) rfl rfl rfl h1 (zerosI_len _) HAL.out (ivs_one _) ?_)
  intro w3 h1 _ hbel
  replace hb := hb.trans (hbel _ l1)
  clear hbel
  go_wp2_with (with_reducible refine bdVal (ps := #[(0, .int .u8 255), (1, .int .u8 16)]) (v := .agg (bcs sanB).toArray) hbd2 (wn rfl) rfl rfl ?_)
  refine (HD2.out w3).mono ?_
  rintro e w4 ⟨rfl, b4⟩
  replace h1 := h1.below b4 h1.lt
  replace hb := hb.trans (b4.mono hb.size)
  clear b4 HD2
  go_wp2_with (with_reducible refine alArr (z := zerosI 35) Tryd.ag_i35 (wn rfl) rfl ?_)
  intro w5 h2 b5
  have l2 : w.heap.size ≤ w4.heap.size := hb.size
  have n1 := h1.lt
  replace h1 := h1.below b5 n1
  replace hb := hb.trans (b5.mono hb.size)
  clear b5
  generalize w4.heap.size = g2 at *
  go_wp2_with (with_reducible refine stArr (cs := ivs (digitsD sanB)) (.tmp 2) (.tmp 19) Tryd.ag_i35 (wn rfl) rfl rfl rfl h2 (zerosI_len _) HBL.out (ivs_one _) ?_)
  intro w6 h2 hkeep hbel
  replace h1 := hkeep _ _ _ (by omega) h1
  replace hb := hb.trans (hbel _ l2)
  clear hbel hkeep hbd hbd2
  go_wp2_with fail
  have hc := HPU.out w6 (ht.below hb ht.size)
  refine hc.mono ?_
  rintro e w7 ⟨rfl, b7⟩
  replace h1 := h1.below b7 h1.lt
  replace h2 := h2.below b7 h2.lt
  replace hb := hb.trans (b7.mono hb.size)
  clear b7 HPU hc
  go_wp2_with (with_reducible refine alArr (z := zerosB 16) Tryd.ag_b16 (wn rfl) rfl ?_)
  intro w8 h3 b8
  have l3 : w.heap.size ≤ w7.heap.size := hb.size
  have n2 := h2.lt
  replace n1 := h1.lt
  replace h1 := h1.below b8 n1
  replace h2 := h2.below b8 n2
  replace hb := hb.trans (b8.mono hb.size)
  clear b8
  generalize w7.heap.size = g3 at *
  go_wp2_with (with_reducible refine stArr (cs := bcs (List.replicate 16 0)) (.tmp 3) (.tmp 22) Tryd.ag_b16 (wn rfl) rfl rfl rfl h3 (zerosB_len _) rfl (bcs_one _) ?_)
  intro w9 h3 hkeep hbel
  replace h1 := hkeep _ _ _ (by omega) h1
  replace h2 := hkeep _ _ _ (by omega) h2
  replace hb := hb.trans (hbel _ l3)
  clear hbel hkeep h3
  go_wp2_with fail
  have hc := HSG.out w9 (ht.below hb ht.size)
  refine hc.mono ?_
  rintro e w10 ⟨rfl, b10⟩
  replace h1 := h1.below b10 h1.lt
  replace h2 := h2.below b10 h2.lt
  replace hb := hb.trans (b10.mono hb.size)
  clear b10 HSG hc
  go_wp2_with fail
  have hc := HPU0.out w10 (ht.below hb ht.size)
  refine hc.mono ?_
  rintro e w11 ⟨rfl, b11⟩
  replace h1 := h1.below b11 h1.lt
  replace h2 := h2.below b11 h2.lt
  replace hb := hb.trans (b11.mono hb.size)
  clear b11 HPU0 hc
  go_wp2_with (with_reducible refine alArr (z := zerosB 16) Tryd.ag_b16 (wn rfl) rfl ?_)
  intro w12 h7 b12
  have l7 : w.heap.size ≤ w11.heap.size := hb.size
  replace n2 := h2.lt
  replace n1 := h1.lt
  replace h1 := h1.below b12 n1
  replace h2 := h2.below b12 n2
  replace hb := hb.trans (b12.mono hb.size)
  clear b12
  generalize w11.heap.size = g7 at *
  go_wp2_with (with_reducible refine stArr (cs := bcs pk) (.tmp 7) (.tmp 30) Tryd.ag_b16 (wn rfl) rfl rfl rfl h7 (zerosB_len _) HPL.out (bcs_one _) ?_)
  intro w13 h7 hkeep hbel
  replace h1 := hkeep _ _ _ (by omega) h1
  replace h2 := hkeep _ _ _ (by omega) h2
  replace hb := hb.trans (hbel _ l7)
  clear hbel hkeep
  go_wp2_with fail
  have hc := HSG0.out w13 (ht.below hb ht.size)
  refine hc.mono ?_
  rintro e w14 ⟨rfl, b14⟩
  replace h1 := h1.below b14 h1.lt
  replace h2 := h2.below b14 h2.lt
  replace h7 := h7.below b14 h7.lt
  replace hb := hb.trans (b14.mono hb.size)
  clear b14 HSG0 hc
  go_wp2_with (with_reducible refine ldArr (.tmp 7) Tryd.ag_b16 (wn rfl) rfl rfl HPL.out h7 ?_)
  have hc := HV.out w14 (ht.below hb ht.size)
  refine hc.mono ?_
  rintro e w15 ⟨rfl, b15⟩
  replace h1 := h1.below b15 h1.lt
  replace h2 := h2.below b15 h2.lt
  replace h7 := h7.below b15 h7.lt
  replace hb := hb.trans (b15.mono hb.size)
  clear b15 HV hc
  go_wp2_with (with_reducible refine ldArr (.tmp 7) Tryd.ag_b16 (wn rfl) rfl rfl HPL.out h7 ?_)
  rw [show (⟨#[120]⟩ : ByteArray) = ⟨[120].toArray⟩ from rfl, cat_two]
  have hc := HVX.out w15 (ht.below hb ht.size)
  refine hc.mono ?_
  rintro e w16 ⟨rfl, b16⟩
  replace h1 := h1.below b16 h1.lt
  replace h2 := h2.below b16 h2.lt
  replace hb := hb.trans (b16.mono hb.size)
  clear b16 HVX hc h7
  obtain ⟨a0, a1, a2, a3, a4⟩ := HA.out
  obtain ⟨e0, e1, e2, e3, e4, e5, e6⟩ := HB.out
  have ca0 := h1.cell a0
  have ca1 := h1.cell a1
  have ca2 := h1.cell a2
  have ca3 := h1.cell a3
  have ca4 := h1.cell a4
  have cb0 := h2.cell e0
  have cb1 := h2.cell e1
  have cb2 := h2.cell e2
  have cb3 := h2.cell e3
  have cb4 := h2.cell e4
  have cb5 := h2.cell e5
  have cb6 := h2.cell e6
  clear a0 a1 a2 a3 a4 e0 e1 e2 e3 e4 e5 e6 h1 h2
  go_wp2_with fail
  clear ca0 ca1 ca2 ca3 ca4 cb0 cb1 cb2 cb3 cb4 cb5 cb6
  refine (HC3.out w16).mono ?_
  rintro e w17 ⟨rfl, b17⟩
  replace hb := hb.trans (b17.mono hb.size)
  clear b17
  go_wp2_with fail
  refine (HS1.out w17).mono ?_
  rintro e w18 ⟨rfl, b18⟩
  replace hb := hb.trans (b18.mono hb.size)
  clear b18
  go_wp2_with fail
  refine (HS0.out w18).mono ?_
  rintro e w19 ⟨rfl, b19⟩
  replace hb := hb.trans (b19.mono hb.size)
  clear b19
  have h561 : ((sg.length : Int) == 561) = true := by have := HSL.out; simp; omega
  go_wp2_with fail
  go_ret
  exact ⟨rfl, hb⟩
end Go.Proofs.YtienlndjhcmemaaDoor
/-
  Small laws for the statements on sign.
-/
namespace Go.Proofs.YtienlndjhcmemaaDoor
open Go.RowKit

theorem ivs_eq (l : List Nat) : ivs l = (l.map fun x : Nat => (x : Int)).map (Value.int .i64) := by
  unfold ivs
  rw [List.map_map]
  rfl
theorem ints_one (l : List Int) : ∀ u ∈ l.map (Value.int .i64), u.oneCell' = true := by
  intro u hu
  obtain ⟨x, _, rfl⟩ := List.mem_map.1 hu
  rfl
section
variable {P : Program} {w : World} {o : Oper} {a : Act} {t ty : TypeId} {k : IntKind} {A B : Int}
theorem eqIntRun (x y : Operand) (ho : o.op = .binOp .eql t x y ty) (hx : a.eval x = .int k A) (hy : a.eval y = .int k A) : (execOp a.eval o).run P w = .ok (.value (.bool true)) w := by
  unfold execOp
  simp [ho, hx, hy, eqGuard, binOp_eql]
theorem eqIntRunB (x y : Operand) (b : Bool) (ho : o.op = .binOp .eql t x y ty) (hx : a.eval x = .int k A) (hy : a.eval y = .int k B) (hb : (A == B) = b) : (execOp a.eval o).run P w = .ok (.value (.bool b)) w := by
  unfold execOp
  simp [ho, hx, hy, eqGuard, binOp_eql, hb]
end
end Go.Proofs.YtienlndjhcmemaaDoor
/-
  What the rows' lists give: the tables of constants lie in memory. No statement is proved here.
-/
namespace Go.Proofs.YtienlndjhcmemaaDoor
open Go.ChangeShapes Go.WideShapes Go.ChangeAt Go.RowKit

def shaZ : List Int := shaK.map fun x : Nat => (x : Int)
theorem gOwn : Tryd.prog.globalNamed "voxel/hash.constants" = some 1 := by kernel_rfl
theorem gRef : Tryd.prog.globalNamed "voxel/voxelref02.constants" = some 0 := by kernel_rfl
theorem gOwnT : (Tryd.prog.globals[1]?).map (·.type) = some 90 := by kernel_rfl
theorem gRefT : (Tryd.prog.globals[0]?).map (·.type) = some 90 := by kernel_rfl
theorem gUndA : Tryd.prog.underlying 90 = some (.array 64 68) := by kernel_rfl
theorem gUndE : Tryd.prog.underlying 68 = some (.int .u32) := by kernel_rfl
theorem gCellsA : Tryd.prog.cellsOf 90 = 64 := by kernel_rfl
theorem gCellsE : Tryd.prog.cellsOf 68 = 1 := by kernel_rfl
theorem tabs_cells {W : World} {g : Nat} {cs : Array Value} (h : ∀ i : Nat, i < 64 → W.cell? ⟨g, i, none⟩ = some (.int .u32 (shaZ.getD i 0))) (_hc : cs = cs) :
    ∀ j u, (wvs shaK)[j]? = some u → W.cell? ⟨g, 0 + j, none⟩ = some u := by
  intro j u hu
  have hj : j < 64 := by have := (List.getElem?_eq_some_iff.1 hu).1; rwa [wvs_len] at this
  rw [Nat.zero_add, h j hj, ← hu]
  unfold wvs shaZ
  rw [List.getElem?_map, List.getElem?_eq_getElem (show j < shaK.length from hj)]
  simp [List.getD, show j < shaK.length from hj, wv]
theorem blocks_there {W : World} {g : Nat} {v : Value} (h : W.cell? ⟨g, 0, none⟩ = some v) : g < W.heap.size := by
  unfold World.cell? at h
  rcases Nat.lt_or_ge g W.heap.size with h' | h'
  · exact h'
  · rw [show W.heap[(⟨g, 0, none⟩ : Addr).block]? = none from Array.getElem?_eq_none h'] at h
    simp at h
theorem laid_own1 {W : World} (h : laidMetH Tryd.prog [("voxel/hash.constants", Rows.laid_voxel_hash_constants)] W) : Tabs W := by
  have ht : Lib.TabIs Tryd.prog W "voxel/hash.constants" .u32 shaZ := Lib.tabIs_of_head (rest := []) gOwn gOwnT gUndA gUndE gCellsE gCellsA h
  exact ⟨blocks_there (ht.cell gOwn 0 (by decide)), tabs_cells (cs := #[]) (fun i hi => ht.cell gOwn i hi) rfl⟩
theorem laid_both {W : World} (h : laidMetH Tryd.prog [("voxel/voxelref02.constants", Rows.laid_voxel_voxelref02_constants), ("voxel/hash.constants", Rows.laid_voxel_hash_constants)] W) : Tabs W ∧ TabsR W := by
  have hr : Lib.TabIs Tryd.prog W "voxel/voxelref02.constants" .u32 shaZ := Lib.tabIs_of_head (rest := [("voxel/hash.constants", Rows.laid_voxel_hash_constants)]) gRef gRefT gUndA gUndE gCellsE gCellsA h
  have h' : laidMet Tryd.prog [("voxel/voxelref02.constants", Rows.laid_voxel_voxelref02_constants), ("voxel/hash.constants", Rows.laid_voxel_hash_constants)] W := h
  obtain ⟨ps, ⟨_, _, _, _, _, q1, _, _, _, _, ⟨g', t', cs, fuel, p, q, hg', ht', hvar, hd, _, _⟩, _⟩, _⟩ := h'
  obtain rfl := Option.some.inj (gOwn.symm.trans hg')
  obtain rfl := Option.some.inj (gOwnT.symm.trans ht')
  have ho : Lib.TabIs Tryd.prog W "voxel/hash.constants" .u32 shaZ := by
    unfold Lib.TabIs
    have hd' : DataW.trod (fun _ => ()) Tryd.prog W 0 (fun _ => true) false fuel 90 cs.toList = some (Lib.tabData .u32 shaZ, p) := hd
    rw [hvar, ← Lib.cells_of_tab gUndA gUndE gCellsE gCellsA hd']
  have hsz : 2 ≤ W.heap.size := blocks_there (ho.cell gOwn 0 (by decide))
  exact ⟨⟨hsz, tabs_cells (cs := #[]) (fun i hi => ho.cell gOwn i hi) rfl⟩, ⟨hsz, tabs_cells (cs := #[]) (fun i hi => hr.cell gRef i hi) rfl⟩⟩
/-- A table's block, filled. -/
def fillTab : Obj → Obj
  | .cells _ t frozen => .cells (wvs shaK).toArray t frozen
  | o => o
/-- A world for the witnesses: the settled one, the tables (blocks 0 and 1) holding what their initialisers lay. -/
noncomputable def laidWorld (os : Os) : World :=
  { World.holding Tryd.prog os ⟨#[], #[], []⟩ with heap := ((World.holding Tryd.prog os ⟨#[], #[], []⟩).heap.modify 0 fillTab).modify 1 fillTab }
theorem laid_met1 (os : Os) (args : Array Value) : laidMet Tryd.prog [("voxel/hash.constants", Rows.laid_voxel_hash_constants)] ((laidWorld os).forCall (fun _ _ => 0) ⟨#[], args, []⟩).memory :=
  laidMet_of_run' 8 (by kernel_rfl) (by kernel_rfl)
theorem laid_met2 (os : Os) (args : Array Value) : laidMet Tryd.prog [("voxel/voxelref02.constants", Rows.laid_voxel_voxelref02_constants), ("voxel/hash.constants", Rows.laid_voxel_hash_constants)] ((laidWorld os).forCall (fun _ _ => 0) ⟨#[], args, []⟩).memory :=
  laidMet_of_run' 8 (by kernel_rfl) (by kernel_rfl)
end Go.Proofs.YtienlndjhcmemaaDoor
