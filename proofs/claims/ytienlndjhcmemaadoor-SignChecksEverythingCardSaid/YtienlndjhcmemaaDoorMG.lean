/-
  MG: several texts in one: SgSign, SgVerify, SgVerify2. No statement is proved here.
-/
import Derived.Test.YtienlndjhcmemaaDoorMF
import Derived.Test.YtienlndjhcmemaaDoorMD
import Derived.Laws.EntriesVeiled
/-
  Public of the specification and Sign of sign: what they return.
-/
namespace Go.Proofs.YtienlndjhcmemaaDoor
open Go.RowKit

set_option maxRecDepth 100000 in
set_option maxHeartbeats 1000000 in
theorem refPublic_any (seed : List UInt8) (h : Int) (w : World) (ht : TabsR w) (hs : seed.length ≤ 100000000) :
    Calls Tryd.prog 17 #[sv seed, .int .i64 h] w fun e w' => e = .returned (pairV (publicD seed h).1 (publicD seed h).2) ∧ Below w.heap.size w w' := by
  by_cases hc : countD h = 0
  · have hp : publicD seed h = (List.replicate 16 0, 1) := by unfold publicD; rw [if_pos hc]
    have HP := Lib.hid hp
    have HC := Lib.hid hc
    clear hp hc
    rw [HP.out]
    have hg : w.heap.size ≤ w.heap.size := Nat.le_refl _
    unfold sv
    go_enter Tryd.func17, Tryd.ntmps17
    go_wp2_with (with_reducible refine alArr (z := zerosB 16) Tryd.ag_b16 (wn rfl) rfl ?_)
    intro w1 h4 hb
    go_wp2_with fail
    refine (refCount_any h w1).mono ?_
    rintro e w2 ⟨rfl, rfl⟩
    rw [HC.out]
    have hbd : ∀ w : World, (Instr.build 23 #[]).run Tryd.prog w = .ok (.agg (zerosB 16).toArray) w := fun w => by kernel_rfl
    go_wp2_with (first | (with_reducible refine bdVal (ps := #[]) (v := .agg (zerosB 16).toArray) hbd (wn rfl) rfl rfl ?_) | (with_reducible refine stArr (cs := zerosB 16) (.tmp 4) (.tmp 9) Tryd.ag_b16 (wn rfl) rfl rfl rfl h4 (zerosB_len _) (zerosB_len _) (by rw [zeros_bcs]; exact bcs_one _) ?_))
    intro w3 h4 _ hbel
    go_wp2_with fail
    refine bodyPost_ret (v := .tuple #[.agg (zerosB 16).toArray, .int .i64 1]) ?_ rfl ⟨rfl, hb.trans (hbel _ hg)⟩
    exact res_cell2 _ Tryd.results17 Tryd.ag_b16 _ rfl (zerosB_len _) (fun j u hu => by rw [Nat.zero_add]; exact h4.cell hu)
  · have hp : publicD seed h = (valueD seed h.toNat 0, 0) := by unfold publicD; rw [if_neg hc]
    have h06 : 0 ≤ h ∧ h ≤ 6 := countD_pos (i := 0) (by omega) (by omega)
    obtain ⟨k, rfl⟩ : ∃ k : Nat, h = (k : Int) := ⟨h.toNat, by omega⟩
    have hk : k ≤ 6 := by omega
    have hcd := countD_of hk
    have hp1 := two_pow_pos k
    have hp64 := two_pow_le hk
    rw [hp, Int.toNat_natCast]
    have HL := Lib.hid (show (bcs (valueD seed k 0)).length = 16 by rw [bcs_length]; exact valueD_len _ _ _)
    have HV := Lib.hid (fun w' (h' : TabsR w') => refValue_any seed hs k 0 w' h' hk (by rw [Nat.zero_add, Nat.one_mul]; omega))
    clear hp hc h06
    have hg : w.heap.size ≤ w.heap.size := Nat.le_refl _
    unfold sv
    go_enter Tryd.func17, Tryd.ntmps17
    go_wp2_with (with_reducible refine alArr (z := zerosB 16) Tryd.ag_b16 (wn rfl) rfl ?_)
    intro w1 h4 hb
    go_wp2_with fail
    refine (refCount_any k w1).mono ?_
    rintro e w2 ⟨rfl, rfl⟩
    rw [hcd]
    clear hcd
    generalize 2 ^ k = M at *
    go_wp2_with fail
    have hv := HV.out w2 (ht.below hb ht.size)
    refine hv.mono ?_
    rintro e w3 ⟨rfl, b3⟩
    replace h4 := h4.below b3 h4.lt
    replace hb := hb.trans (b3.mono hb.size)
    clear b3 hv
    go_wp2_with (with_reducible refine stArr (cs := bcs (valueD seed k 0)) (.tmp 4) (.tmp 12) Tryd.ag_b16 (wn rfl) rfl rfl rfl h4 (zerosB_len _) HL.out (bcs_one _) ?_)
    intro w5 h4 _ hbel
    go_wp2_with fail
    refine bodyPost_ret (v := .tuple #[.agg (bcs (valueD seed k 0)).toArray, .int .i64 0]) ?_ rfl ⟨rfl, hb.trans (hbel _ hg)⟩
    exact res_cell2 _ Tryd.results17 Tryd.ag_b16 _ rfl HL.out (fun j u hu => by rw [Nat.zero_add]; exact h4.cell hu)
def textV (l : List UInt8) (e : Int) : Value := .tuple #[sv l, .int .i64 e]
theorem climb0 (i j : Int) (d : List UInt8) (n : Nat) (w : World) (ht : Tabs w) (hi : isI64 i) (hj : isI64 j) (hd : d.length = 16) (hn : n ≤ 1000) :
    Calls Tryd.prog 29 #[.int .i64 i, .int .i64 j, .agg (bcs d).toArray, .int .i64 0, .int .i64 (n : Int)] w fun e w' => e = .returned (.agg (bcs (climbD i j 0 d n)).toArray) ∧ Below w.heap.size w w' := by
  have := climb_any i j d 0 n w ht hi hj hd (by omega)
  rwa [Nat.zero_add] at this
theorem refClimb0 (i j : Int) (d : List UInt8) (n : Nat) (w : World) (ht : TabsR w) (hi : isI64 i) (hj : isI64 j) (hd : d.length = 16) (hn : n ≤ 1000) :
    Calls Tryd.prog 31 #[.int .i64 i, .int .i64 j, .agg (bcs d).toArray, .int .i64 0, .int .i64 (n : Int)] w fun e w' => e = .returned (.agg (bcs (climbD i j 0 d n)).toArray) ∧ Below w.heap.size w w' := by
  have := refClimb_any i j d 0 n w ht hi hj hd (by omega)
  rwa [Nat.zero_add] at this
/-- Where the value beside the way stands in its level. -/
theorem side_lt {h i l : Nat} (hi : i < 2 ^ h) (hl : l < h) : (i / 2 ^ l) ^^^ 1 < 2 ^ (h - l) := by
  have h1 : i / 2 ^ l < 2 ^ (h - l) := by
    rw [Nat.div_lt_iff_lt_mul (two_pow_pos l), ← Nat.pow_add, show h - l + l = h by omega]
    exact hi
  refine Nat.xor_lt_two_pow h1 ?_
  exact Nat.one_lt_two_pow (by omega)
def sgOut (seed : List UInt8) (i : Nat) (D : List UInt8) (j : Nat) : List UInt8 := enc i ++ ((List.range j).map fun j => chainD seed i (digAt D j) j).flatten
theorem sgOut_next (seed : List UInt8) (i : Nat) (D : List UInt8) (j : Nat) : sgOut seed i D (j + 1) = sgOut seed i D j ++ chainD seed i (digAt D j) j := by
  unfold sgOut
  rw [range_map_next (fun j => chainD seed i (digAt D j) j) j, List.append_assoc]
theorem sgOut_len (seed : List UInt8) (i : Nat) (D : List UInt8) (j : Nat) : (sgOut seed i D j).length = (enc i).length + j * 16 := by
  unfold sgOut
  rw [List.length_append, range_map_len _ (fun j => chainD_len _ _ _ _)]
def sgAll (seed : List UInt8) (i : Nat) (D : List UInt8) (l : Nat) : List UInt8 := sgOut seed i D 35 ++ ((List.range l).map fun l => valueD seed l ((i / 2 ^ l) ^^^ 1)).flatten
theorem sgAll_next (seed : List UInt8) (i : Nat) (D : List UInt8) (l : Nat) : sgAll seed i D (l + 1) = sgAll seed i D l ++ valueD seed l ((i / 2 ^ l) ^^^ 1) := by
  unfold sgAll
  rw [range_map_next (fun l => valueD seed l ((i / 2 ^ l) ^^^ 1)) l, List.append_assoc]
theorem sgAll_len (seed : List UInt8) (i : Nat) (D : List UInt8) (l : Nat) : (sgAll seed i D l).length = (enc i).length + 35 * 16 + l * 16 := by
  unfold sgAll
  rw [List.length_append, sgOut_len, range_map_len _ (fun l => valueD_len _ _ _)]
theorem sgAll_all (seed : List UInt8) (h i : Nat) (D : List UInt8) : sgAll seed i D h = enc i ++ restD seed h i D := by
  unfold sgAll sgOut restD
  rw [List.append_assoc]
def GSign (seed : List UInt8) (l x M ck gk G0 : Nat) (ix_ : Nat) (v : Value) (w : World) : Prop :=
  match ix_ with
  | 3 => v = .slice (some ⟨gk, 0, none⟩) M ck
  | 8 => v = .pointer (some ⟨gk, 0 + x * 16, none⟩)
  | 9 => v = .agg (bcs (valueD seed l x)).toArray
  | 10 => ∃ b, v = .pointer (some ⟨b, 0, none⟩) ∧ Arr w b 23 (zerosB 16) ∧ G0 ≤ b
  | _ => True
set_option maxRecDepth 100000 in
set_option maxHeartbeats 2000000 in
theorem sign_ok (seed : List UInt8) (h i : Nat) (m : List UInt8) (w : World) (ht : Tabs w) (hs : seed.length ≤ 100000000) (hm : m.length ≤ 100000000) (hh : h ≤ 6) (hi : i < 2 ^ h) :
    Calls Tryd.prog 18 #[sv seed, .int .i64 (h : Int), .int .i64 (i : Int), sv m] w fun e w' => e = .returned (textV (signD seed h i m) 0) ∧ Below w.heap.size w w' := by
  have hcd := countD_of hh
  have hp1 := two_pow_pos h
  have hp64 := two_pow_le hh
  obtain ⟨M, hM⟩ : ∃ M, M = 2 ^ h := ⟨_, rfl⟩
  have HS := Lib.hid (show enc i ++ restD seed h i (messageD (valueD seed h 0) i m) = signD seed h i m from rfl)
  have hdd : (messageD (valueD seed h 0) i m).length = 16 := ofDig_len _ _
  have HMSG := Lib.hid (fun w' (h' : Tabs w') => message_any (valueD seed h 0) i m w' h' (valueD_len _ _ _) (isI64_nat (n := i) (by omega)) hm)
  have HSL := Lib.hid (fun l (hl : l < h) => side_lt hi hl)
  rw [← hM] at hcd hp1 hp64 hi
  have HM := Lib.hid hM
  have hen := enc_len i
  have hi64 := isI64_nat (show i ≤ 1000000 by omega)
  clear hM
  unfold textV
  rw [← HS.out]
  unfold sv
  go_enter Tryd.func18, Tryd.ntmps18
  go_wp2_with fail
  refine (count_any h w).mono ?_
  rintro e w1 ⟨rfl, hb⟩
  rw [hcd]
  go_wp2_with fail
  refine (count_any h w1).mono ?_
  rintro e w2 ⟨rfl, b2⟩
  rw [hcd]
  replace hb := hb.trans (b2.mono hb.size)
  clear b2 hcd
  go_wp2_with fail
  refine (tree_any seed h w2 (ht.below hb ht.size) hs hh).mono ?_
  rintro e w3 hret
  obtain ⟨g, cap, rfl, hT, b3⟩ := hret.mem
  replace hb := hb.trans (b3.mono hb.size)
  clear b3 hret
  have HT3 := Lib.hid hT
  clear hT
  go_wp2_with fail
  refine (int_any i w3 hi64.1 hi64.2).mono ?_
  rintro e w4 ⟨v11, rfl, hown, b3⟩
  obtain ⟨gk, ck, hc1, hrd⟩ := (HT3.out.below b3).2 h (Nat.le_refl _)
  rw [Nat.sub_self, Nat.pow_zero] at hc1 hrd
  have hel := rd_elem (k := 0) hrd (by omega)
  rw [levD_one, Nat.zero_mul] at hel
  have HEL := Lib.hid hel
  have HL := Lib.hid (show (bcs (valueD seed h 0)).length = 16 by rw [bcs_length]; exact valueD_len _ _ _)
  clear hrd hel
  go_wp2_with (with_reducible refine ldAgg (.tmp 39) (bcs (valueD seed h 0)) Tryd.ag_b16 (wn rfl) rfl rfl HL.out HEL.out ?_)
  have hmc := HMSG.out w4 (ht.below (hb.trans (b3.mono hb.size)) ht.size)
  refine hmc.mono ?_
  rintro e w5 ⟨rfl, b5⟩
  replace hown := ownsRow_below hown b5 (Nat.le_refl _)
  replace b3 := b3.trans (b5.mono b3.size)
  clear hmc hc1 HEL b5 HMSG HL
  obtain ⟨D, hD⟩ : ∃ D, D = messageD (valueD seed h 0) i m := ⟨_, rfl⟩
  rw [← hD] at hdd
  rw [← hD]
  have HD := Lib.hid hD
  clear hD HS
  go_wp2_with fail
  refine (digits_any D w5 hdd).mono ?_
  rintro e w6 ⟨rfl, b6⟩
  replace hown := ownsRow_below hown b6 (Nat.le_refl _)
  replace b3 := b3.trans (b6.mono b3.size)
  clear b6
  have hown0 : w6.ownsRow w3.heap.size 5 1 v11 (sgOut seed i D 0).length (bcs (sgOut seed i D 0)) := by unfold sgOut; simpa using hown
  clear hown
  have HDL := Lib.hid (show (ivs (digitsD D)).length = 35 by rw [ivs_len]; exact digitsD_len hdd)
  have HDG := Lib.hid (fun j (hj : j < 35) => digits_get D hdd j hj)
  go_wp2_with fail
  go_loopw [11, 45] (fun v11 v45 wr => ∃ j : Nat, j ≤ 35 ∧ v45 = .int .i64 j ∧ wr.ownsRow w3.heap.size 5 1 v11 (sgOut seed i D j).length (bcs (sgOut seed i D j)) ∧ Below w3.heap.size w3 wr) (fun _ v45 _ => 35 - (intOf v45).toNat)
  case atStart => exact ⟨0, by omega, rfl, hown0, b3⟩
  case round =>
    clear hown0 b3
    obtain ⟨j, hj, rfl, hown, b3⟩ := hrel
    by_cases hlt : j < 35
    · have HDJ := Lib.hid (HDG.out j hlt)
      have HNX := Lib.hid (sgOut_next seed i D j)
      have hol : (sgOut seed i D j).length ≤ 600 := by rw [sgOut_len]; omega
      have hda := digAt_le D j
      have hj64 := isI64_nat (show j ≤ 1000000 by omega)
      have HC := Lib.hid (fun w' (h' : Tabs w') => climb0 i j (startD seed i j) (digAt D j) w' h' hi64 hj64 (startD_len _ _ _) (by omega))
      have HE : Hid (climbD i j 0 (startD seed i j) (digAt D j) = chainD seed i (digAt D j) j) := Lib.hid rfl
      have HL := Lib.hid (show (bcs (chainD seed i (digAt D j) j)).length = 16 by rw [bcs_length]; exact chainD_len _ _ _ _)
      have HCL := Lib.hid (chainD_len seed i (digAt D j) j)
      generalize sgOut seed i D j = out at *
      generalize chainD seed i (digAt D j) j = CH at *
      generalize digAt D j = dg at *
      go_wp2_with (with_reducible refine ixArr (.tmp 44) (.tmp 45) j (.int .i64 (dg : Int)) Tryd.arr_i35 Tryd.und_int Tryd.one_int (wn rfl) rfl rfl rfl rfl HDJ.out HDL.out ?_)
      refine (start_any seed i j wr (ht.below (hb.trans (b3.mono hb.size)) ht.size) hi64 hj64 hs).mono ?_
      rintro e w7 ⟨rfl, b7⟩
      replace hown := ownsRow_below hown b7 (Nat.le_refl _)
      replace b3 := b3.trans (b7.mono b3.size)
      clear b7
      have hcc := HC.out w7 (ht.below (hb.trans (b3.mono hb.size)) ht.size)
      go_wp2_with fail
      refine hcc.mono ?_
      rintro e w8 ⟨rfl, b8⟩
      rw [HE.out]
      replace hown := ownsRow_below hown b8 (Nat.le_refl _)
      replace b3 := b3.trans (b8.mono b3.size)
      clear b8 hcc
      go_wp2_with (with_reducible refine alArr (z := zerosB 16) Tryd.ag_b16 (wn rfl) rfl ?_)
      intro w9 h14 b9
      have l14 : w3.heap.size ≤ w8.heap.size := b3.size
      have n14 := h14.lt
      have hlo := Lib.hid hown.lt
      replace hown := ownsRow_below hown b9 (Nat.le_refl _)
      replace b3 := b3.trans (b9.mono b3.size)
      clear b9
      generalize w8.heap.size = g14 at *
      go_wp2_with (with_reducible refine stArr (cs := bcs CH) (.tmp 14) (.tmp 56) Tryd.ag_b16 (wn rfl) rfl rfl rfl h14 (zerosB_len _) HL.out (bcs_one _) ?_)
      intro w10 h14 _ hbel
      replace hown := own_lt_below hown (hbel _ (Nat.le_refl _)) (fun k hk => (hlo.out k hk).2)
      replace b3 := b3.trans (hbel _ l14)
      clear hbel hlo
      have hrd : Rd w10 w10.heap.size 1 (some ⟨g14, 0, none⟩) 16 16 (bcs CH) := rd_of_arr h14 (fun _ _ h => h) (by rw [HL.out]) (Nat.le_refl _) (by unfold maxLen; omega) h14.lt
      clear n14 h14
      go_wp2_with (first | (with_reducible refine slPtr (.tmp 14) Tryd.arr_b16 Tryd.one_u8 (by omega) (wn rfl) rfl rfl ?_) | (at_builtin; with_reducible refine appR _ _ Tryd.sl_u8 (wn rfl) rfl rfl rfl hown hrd (bcs_one _) b3 (Nat.le_refl _) (by omega) (by omega) ?_))
      intro v' w' h3 h4 _
      rw [← bcs_append, ← HNX.out] at h3
      have hl2 := congrArg List.length HNX.out
      rw [List.length_append, HCL.out] at hl2
      rw [← hl2] at h3
      clear hown b3 hrd hl2
      go_wp2_with fail
      go_roundw
      case rel => exact ⟨j + 1, by omega, by go_num, h3, h4⟩
      case measure => (simp [intOf]; try omega)
    · obtain rfl : j = 35 := by omega
      have hown0 : wr.ownsRow w3.heap.size 5 1 u11 (sgAll seed i D 0).length (bcs (sgAll seed i D 0)) := by
        have e : sgAll seed i D 0 = sgOut seed i D 35 := by unfold sgAll; simp
        rw [e]; exact hown
      clear hown hlt
      go_wp2_with fail
      go_loopw [11, 62] (fun v11 v62 wr => ∃ l : Nat, l ≤ h ∧ v62 = .int .i64 l ∧ wr.ownsRow w3.heap.size 5 1 v11 (sgAll seed i D l).length (bcs (sgAll seed i D l)) ∧ Below w3.heap.size w3 wr) (fun _ v62 _ => h - (intOf v62).toNat)
      case atStart => exact ⟨0, by omega, rfl, hown0, b3⟩
      case round =>
        clear hown0 b3
        obtain ⟨l, hl, rfl, hown, b3⟩ := hrel
        by_cases hlt : l < h
        · have HNX := Lib.hid (sgAll_next seed i D l)
          have hol : (sgAll seed i D l).length ≤ 1000 := by rw [sgAll_len]; omega
          obtain ⟨x, hx⟩ : ∃ x, x = (i / 2 ^ l) ^^^ 1 := ⟨_, rfl⟩
          have hxM : x < 2 ^ (h - l) := by rw [hx]; exact HSL.out l hlt
          have hx64 : x ≤ 64 := by have := two_pow_le (h := h - l) (by omega); omega
          rw [← hx] at HNX
          have HX := Lib.hid hx
          obtain ⟨hgl, htm⟩ := HT3.out.below b3
          obtain ⟨gl, cl, hcl, hrdl⟩ := htm l (by omega)
          have HL := Lib.hid (show (bcs (valueD seed l x)).length = 16 by rw [bcs_length]; exact valueD_len _ _ _)
          have HVL := Lib.hid (valueD_len seed l x)
          have hi' : i < 64 := by omega
          clear hx htm
          obtain ⟨ML, hML⟩ : ∃ y, y = 2 ^ (h - l) := ⟨_, rfl⟩
          rw [← hML] at hxM hcl hrdl
          clear hML
          have HSA := Lib.hid (show sgAll seed i D l = sgAll seed i D l from rfl)
          generalize sgAll seed i D l = out at *
          clear HSA
          go_wp2_with fail
          refine aStart (by kernel_rfl) ?_
          replace hcl : wr.drew.cell? ⟨g, 0 + l * 1, none⟩ = some (.slice (some ⟨gl, 0, none⟩) ML cl) := by rw [Nat.zero_add, Nat.mul_one]; exact hcl
          replace hrdl : Rd wr.drew wr.drew.heap.size 16 (some ⟨gl, 0, none⟩) ML cl (bcs (levD seed l ML)) := hrdl.drew
          replace hown : wr.drew.ownsRow w3.heap.size 5 1 u11 out.length (bcs out) := hown
          have hlo := Lib.hid hown.lt
          replace b3 := b3.drew
          replace hgl : g < wr.drew.heap.size := hgl
          generalize wr.drew = wd at *
          have H16 := HL
          refine aTake (i := 0) (v := .slice (some ⟨g, 0, none⟩) (h + 1) cap) rfl (by kernel_rfl) (wn rfl) (fun _ _ _ h => h) (fun w => by kernel_rfl) ?_
          refine aTake (i := 1) (v := .int .i64 (l : Int)) rfl (by kernel_rfl) (wn rfl) (fun _ _ _ h => h) (fun w => by kernel_rfl) ?_
          refine aTake (i := 2) (v := .pointer (some ⟨g, 0 + l * 1, none⟩)) rfl (by kernel_rfl) (wn rfl) (fun _ _ _ h => h) (fun w => iaRowRun (kk := .i64) (n := h + 1) (c := cap) (.tmp 65) (.tmp 66) l Tryd.sl_digs rfl (by kernel_rfl) (by kernel_rfl) rfl (by omega)) ?_
          refine aTake (i := 4) (v := .int .i64 (i : Int)) rfl (by kernel_rfl) (wn rfl) (fun _ _ _ h => h) (fun w => by kernel_rfl) ?_
          refine aTake (i := 5) (v := .int .i64 (l : Int)) rfl (by kernel_rfl) (wn rfl) (fun _ _ _ h => h) (fun w => by kernel_rfl) ?_
          refine aTake (i := 6) (v := .int .i64 ((i / 2 ^ l : Nat) : Int)) rfl (by kernel_rfl) (wn rfl) (fun _ _ _ h => h) (fun w => shrNat (m := i) (n := l) (.tmp 69) (.tmp 70) rfl (by kernel_rfl) (by kernel_rfl) (by omega)) ?_
          refine aTake (i := 7) (v := .int .i64 (x : Int)) rfl (by kernel_rfl) (wn rfl) (fun _ _ _ h => h) (fun w => (by have hz := HX.out; subst hz; exact xorRun (m := i / 2 ^ l) (n := 1) (.tmp 71) (.const (.int .i64 1)) rfl (by kernel_rfl) rfl (by have := Nat.div_le_self i (2 ^ l); omega) (by omega))) ?_
          refine rgFloat [(3, 68), (8, 73), (9, 74), (10, 16)] (GSign seed l x ML cl gl wd.heap.size) _ 1 rfl (by kernel_rfl) ?mono ?step ?fin
          case mono =>
            intro p hp v w w' h hE
            simp only [List.mem_cons, List.not_mem_nil, or_false] at hp
            rcases hp with rfl | rfl | rfl | rfl
            · exact h
            · exact h
            · exact h
            · exact (by obtain ⟨b, e1, e2, e3⟩ := h; exact ⟨b, e1, e2.below hE e2.lt, e3⟩)
          case step =>
            intro p hp
            simp only [List.mem_cons, List.not_mem_nil, or_false] at hp
            rcases hp with rfl | rfl | rfl | rfl
            · refine ⟨_, rfl, rfl, fun a w' hF hE hG => ?_⟩
              refine ldOne (p := ⟨g, 0 + l * 1, none⟩) (.tmp 67) (by kernel_rfl) (wn rfl) rfl ((hF.eval 67 (by kernel_rfl)).trans (by kernel_rfl)) ((hE.cell (p := ⟨g, 0 + l * 1, none⟩) (by show g < _; omega)).trans hcl) ?_
              exact ⟨_, rfl, Below.refl _ _, rfl⟩
            · refine ⟨_, rfl, rfl, fun a w' hF hE hG => ?_⟩
              refine iaRow (kk := .i64) (b := gl) (off := 0) (n := ML) (c := cl) (K := (x : Int)) (.tmp 68) (.tmp 72) x Tryd.sl_dig (wn rfl) rfl (show a.tmps.getD 68 undef = _ from hG (3, 68) (by simp) (by kernel_rfl)) ((hF.eval 72 (by kernel_rfl)).trans (by kernel_rfl)) rfl hxM ?_
              exact ⟨_, rfl, Below.refl _ _, rfl⟩
            · refine ⟨_, rfl, rfl, fun a w' hF hE hG => ?_⟩
              refine ldAgg (b := gl) (off := 0 + x * 16) (.tmp 73) (bcs (valueD seed l x)) Tryd.ag_b16 (wn rfl) rfl (show a.tmps.getD 73 undef = _ from hG (8, 73) (by simp) (by kernel_rfl)) H16.out (by have := rd_elem (k := x) (hrdl.below hE) hxM; rw [levD_at seed l ML x hxM] at this; exact this) ?_
              exact ⟨_, rfl, Below.refl _ _, rfl⟩
            · refine ⟨_, rfl, rfl, fun a w' hF hE hG => ?_⟩
              refine alArr (z := zerosB 16) Tryd.ag_b16 (wn rfl) rfl fun w2 hA hb2 => ?_
              exact ⟨_, rfl, hb2, _, rfl, hA, hE.size⟩
          case fin =>
            intro a wf hF hE hG
            have q74 : a.tmps.getD 74 undef = .agg (bcs (valueD seed l x)).toArray := hG (9, 74) (by simp)
            obtain ⟨g16, q16, h16, hg16⟩ := hG (10, 16) (by simp)
            have hsz := hE.size
            have hownf := own_lt_below hown hE (fun k hk => (hlo.out k hk).2)
            have l16 : w3.heap.size ≤ g16 := Nat.le_trans b3.size hg16
            replace b3 := b3.trans (hE.mono b3.size)
            rw [hF.eq]
            simp only [putsX]
            rw [q74, q16]
            generalize a.tmps.getD 68 undef = x68
            generalize a.tmps.getD 73 undef = x73
            clear hG hF q74 q16 hE hown
            refine aNext (i := 11) (by kernel_rfl) rfl ?_
            refine stArr (b := g16) (cs := bcs (valueD seed l x)) (.tmp 16) (.tmp 74) Tryd.ag_b16 (wn rfl) rfl (by kernel_rfl) (by kernel_rfl) h16 (zerosB_len _) HL.out (bcs_one _) ?_
            intro w5 h16 hkeep hbel
            have hown5 := own_lt_below hownf (hbel _ (Nat.le_refl _)) (fun k hk => Nat.lt_of_lt_of_le (hlo.out k hk).2 hg16)
            replace b3 := b3.trans (hbel _ l16)
            refine aDone (by kernel_rfl) ?_
            simp only [Act.put, List.setIfInBounds_toArray, List.set_cons_succ, List.set_cons_zero]
            have hrd : Rd w5 w5.heap.size 1 (some ⟨g16, 0, none⟩) 16 16 (bcs (valueD seed l x)) := rd_of_arr h16 (fun _ _ h => h) (by rw [HL.out]) (Nat.le_refl _) (by unfold maxLen; omega) h16.lt
            clear hkeep hbel hlo hownf hcl hrdl h16 hg16
            go_wp2_with (first | (with_reducible refine slPtr (.tmp 16) Tryd.arr_b16 Tryd.one_u8 (by omega) (wn rfl) rfl rfl ?_) | (at_builtin; with_reducible refine appR _ _ Tryd.sl_u8 (wn rfl) rfl rfl rfl hown5 hrd (bcs_one _) b3 (Nat.le_refl _) (by omega) (by omega) ?_))
            intro v' w' h3 h4 _
            rw [← bcs_append, ← HNX.out] at h3
            have hl2 := congrArg List.length HNX.out
            rw [List.length_append, HVL.out] at hl2
            rw [← hl2] at h3
            clear hown5 b3 hrd hl2
            go_wp2_with fail
            go_roundw
            case rel => ((repeat apply Exists.intro); exact ⟨⟨l + 1, by omega, by go_num, h3, h4⟩, rfl⟩)
            case measure => (simp [intOf]; try omega)
        · obtain rfl : l = h := by omega
          have HAL := Lib.hid (sgAll_all seed l i D)
          rw [HAL.out] at hown
          obtain ⟨A, c, rfl, hrd⟩ := Rd.of_own hown
          clear hown
          go_wp2_with (with_reducible refine convStr (.tmp 79) (enc i ++ restD seed l i D) Tryd.sl_u8.und Tryd.und_u8 Tryd.und_str (wn rfl) rfl rfl hrd ?_)
          go_wp2_with fail
          have hD := HD.out
          subst hD
          go_ret2
          exact ⟨rfl, hb.trans (b3.mono hb.size)⟩
set_option maxRecDepth 100000 in
set_option maxHeartbeats 2000000 in
theorem sign_any (seed : List UInt8) (h i : Int) (m : List UInt8) (w : World) (ht : Tabs w) (hs : seed.length ≤ 100000000) (hm : m.length ≤ 100000000) :
    Calls Tryd.prog 18 #[sv seed, .int .i64 h, .int .i64 i, sv m] w fun e w' => e = .returned (textV (makeD seed h i m).1 (makeD seed h i m).2) ∧ Below w.heap.size w w' := by
  have hcl := countD_le h
  by_cases hc : countD h = 0
  · have HP := Lib.hid (show makeD seed h i m = ([], 1) by unfold makeD; rw [if_pos hc])
    have HC := Lib.hid hc
    clear hc hcl
    rw [HP.out]
    unfold textV sv
    go_enter Tryd.func18, Tryd.ntmps18
    go_wp2_with fail
    refine (count_any h w).mono ?_
    rintro e w1 ⟨rfl, hb⟩
    rw [HC.out]
    go_wp2_with fail
    go_ret2
    exact ⟨rfl, hb⟩
  · by_cases hi : i < 0
    · have HP := Lib.hid (show makeD seed h i m = ([], 23) by unfold makeD; rw [if_neg hc, if_pos (Or.inl hi)])
      rw [HP.out]
      have hcp : 0 < countD h := by omega
      clear hc
      unfold textV sv
      go_enter Tryd.func18, Tryd.ntmps18
      go_wp2_with fail
      refine (count_any h w).mono ?_
      rintro e w1 ⟨rfl, hb⟩
      generalize countD h = M at *
      go_wp2_with fail
      go_ret2
      exact ⟨rfl, hb⟩
    · by_cases hi2 : (countD h : Int) ≤ i
      · have HP := Lib.hid (show makeD seed h i m = ([], 23) by unfold makeD; rw [if_neg hc, if_pos (Or.inr hi2)])
        rw [HP.out]
        have hcp : 0 < countD h := by omega
        clear hc
        have HC := Lib.hid (fun w' => count_any h w')
        unfold textV sv
        go_enter Tryd.func18, Tryd.ntmps18
        go_wp2_with fail
        refine (HC.out w).mono ?_
        rintro e w1 ⟨rfl, hb⟩
        obtain ⟨M, hM⟩ : ∃ M, M = countD h := ⟨_, rfl⟩
        rw [← hM] at hcl hi2 hcp HC
        rw [← hM]
        clear hM
        go_wp2_with fail
        refine (HC.out w1).mono ?_
        rintro e w2 ⟨rfl, b2⟩
        replace hb := hb.trans (b2.mono hb.size)
        clear b2
        go_wp2_with fail
        go_ret2
        exact ⟨rfl, hb⟩
      · obtain ⟨h0, h6⟩ := countD_pos (h := h) (i := i) (by omega) (by omega)
        obtain ⟨k, rfl⟩ : ∃ k : Nat, h = (k : Int) := ⟨h.toNat, by omega⟩
        obtain ⟨n, rfl⟩ : ∃ n : Nat, i = (n : Int) := ⟨i.toNat, by omega⟩
        have e : makeD seed (k : Int) (n : Int) m = (signD seed k n m, 0) := by unfold makeD; rw [if_neg hc, if_neg (by omega), Int.toNat_natCast, Int.toNat_natCast]
        rw [e]
        have hcd := countD_of (h := k) (by omega)
        exact sign_ok seed k n m w ht hs hm (by omega) (by omega)
end Go.Proofs.YtienlndjhcmemaaDoor
/-
  Verify of sign: what it returns.
-/
namespace Go.Proofs.YtienlndjhcmemaaDoor
open Go.RowKit

def GVerA (i l : Nat) (P O W : List UInt8) (ix_ : Nat) (v : Value) (_w : World) : Prop :=
  match ix_ with
  | 2 => v = .int .i64 (i : Int)
  | 5 => v = .int .i64 ((i / 2 ^ (l + 1) : Nat) : Int)
  | 6 => v = .agg (bcs P).toArray
  | 7 => v = .agg (bcs O).toArray
  | 8 => v = .agg (bcs W).toArray
  | _ => True
def GVerB (i l : Nat) (P O W : List UInt8) (ix_ : Nat) (v : Value) (_w : World) : Prop :=
  match ix_ with
  | 2 => v = .int .i64 (i : Int)
  | 5 => v = .int .i64 ((i / 2 ^ (l + 1) : Nat) : Int)
  | 6 => v = .agg (bcs O).toArray
  | 7 => v = .agg (bcs P).toArray
  | 8 => v = .agg (bcs W).toArray
  | _ => True
/-- '!=' on arrays of bytes. -/
theorem neqBytes {P : Program} {w : World} {ops : Array Oper} {rest : List Oper} {o : Oper} {a : Act} {Q : Exit → Act → World → Prop} {t e ty : TypeId} {n : Nat} (x y : Operand) (xs ys : List UInt8) (b : Bool) (ht : P.underlying t = some (.array n e)) (he : P.underlying e = some (.int .u8)) (hs : (P.info? e).map (·.size) = some 1) (hq : P.eqGuardType P.depth t = false)
    (hgd : Region.wanted o (yielded ops a.tmps) = true) (ho : o.op = .binOp .neq t x y ty) (hxv : a.eval x = .agg (bcs xs).toArray) (hyv : a.eval y = .agg (bcs ys).toArray) (hx : xs.length = n) (hy : ys.length = n) (hb : (!(xs == ys)) = b)
    (hk : wpList P ops Q rest (a.put o.dst (.bool b)) w) : wpList P ops Q (o :: rest) a w := by
  refine opVal (v := .bool b) hgd ?_ hk
  unfold execOp
  have hr := run_eqBytes (P := P) w ht he hs xs ys hx hy
  subst hb
  simp only [ho, hxv, hyv]
  simp [eqGuard, hq, run_neq_struct, hr]
theorem par_bit (i l : Nat) (hi : i < 1000) : bits .and .i64 ((i : Int) / 2 ^ l) 1 = ((i / 2 ^ l % 2 : Nat) : Int) := by
  have h1 : ((i : Int) / 2 ^ l) = ((i / 2 ^ l : Nat) : Int) := by simp
  have h2 := Nat.div_le_self i (2 ^ l)
  have h3 := i64_and_n (i / 2 ^ l) 1 (by omega) (by omega)
  rw [h1]
  rw [Nat.and_one_is_mod] at h3
  exact h3
theorem upD_len (h i : Nat) (r : List UInt8) {v : List UInt8} (hv : v.length = 16) : ∀ l, (upD h i r v l).length = 16
  | 0 => hv
  | l + 1 => by
    unfold upD
    split <;> exact ofDig_len _ _
/-- What Verify answers to an index and as many bytes as it asks for. -/
def verV (i : Nat) (root p : List UInt8) : Value := .tuple #[.int .i64 (if root = p then (i : Int) else 0), .int .i64 (if root = p then 0 else 8)]
set_option maxRecDepth 100000 in
set_option maxHeartbeats 2000000 in
theorem verify_ok (p : List UInt8) (h i U : Nat) (m sig : List UInt8) (w : World) (ht : Tabs w) (hp : p.length = 16) (hm : m.length ≤ 100000000) (hh : h ≤ 6) (hi : i < 2 ^ h) (hd : dec sig = ((i : Int), (U : Int), 0)) (hU : U = (enc i).length) (hl : sig.length = U + 16 * (35 + h)) :
    Calls Tryd.prog 22 #[.agg (bcs p).toArray, .int .i64 (h : Int), sv m, sv sig] w fun e w' => e = .returned (verV i (rootD h i (messageD p i m) (sig.drop U)) p) ∧ Below w.heap.size w w' := by
  have hcd := countD_of hh
  have hp1 := two_pow_pos h
  have hp64 := two_pow_le hh
  have hen := enc_len i
  have hsz : sizeD h i = sig.length := by rw [sizeD_of hh hi, ← hU, hl]
  have hsl : sig.length ≤ 700 := by omega
  have hsl0 : 1 ≤ sig.length := by omega
  have hU10 : U ≤ 10 := by omega
  have HL := Lib.hid hl
  have HPL := Lib.hid (show (bcs p).length = 16 by rw [bcs_length]; exact hp)
  have hdd : (messageD p i m).length = 16 := ofDig_len _ _
  have HMSG := Lib.hid (fun w' (h' : Tabs w') => message_any p i m w' h' hp (isI64_nat (n := i) (by omega)) hm)
  obtain ⟨M, hM⟩ : ∃ M, M = 2 ^ h := ⟨_, rfl⟩
  rw [← hM] at hcd hp1 hp64 hi
  have HD := Lib.hid hd
  have HSZ := Lib.hid hsz
  clear hM hd hsz hU hl
  unfold sv
  go_enter Tryd.func22, Tryd.ntmps22
  go_wp2_with (with_reducible refine bxArr (cs := bcs p) (.tmp 0) (wn rfl) rfl rfl ?_)
  intro w1 h4 hb
  have l4 : w.heap.size < w1.heap.size := h4.lt
  go_wp2_with (with_reducible refine bxOne (.tmp 3) (wn rfl) rfl rfl rfl ?_)
  intro w2 h7 b2
  have l7 : w1.heap.size < w2.heap.size := h7.lt
  replace h4 := h4.below b2 h4.lt
  replace hb := hb.trans (b2.mono hb.size)
  clear b2
  generalize w1.heap.size = g7 at *
  go_wp2_with fail
  refine (count_any h w2).mono ?_
  rintro e w3 ⟨rfl, b3⟩
  rw [hcd]
  replace h4 := h4.below b3 h4.lt
  replace h7 := h7.below b3 h7.lt
  replace hb := hb.trans (b3.mono hb.size)
  have l3 : g7 < w3.heap.size := h7.lt
  clear b3 hcd l7
  have c7 : w3.cell? ⟨g7, 0, none⟩ = some (.string ⟨sig.toArray⟩) := h7.cell (i := 0) rfl
  go_wp2_with (with_reducible refine convBs (.tmp 23) sig Tryd.und_str Tryd.sl_u8.und Tryd.und_u8 (wn rfl) rfl rfl (by omega) ?_)
  intro A5 c5 w5 hrd b5
  replace h4 := h4.below b5 h4.lt
  replace h7 := h7.below b5 h7.lt
  replace hb := hb.trans (b5.mono hb.size)
  have l5 : g7 < w5.heap.size := h7.lt
  clear b5 c7 l3
  go_wp2_with fail
  refine (getInt_any sig A5 _ c5 _ w5 hrd).mono ?_
  rintro e w6 ⟨rfl, rfl⟩
  rw [HD.out]
  clear hrd
  go_wp2_with fail
  have h10 := (Arr.new w5 3 [.int .i64 (i : Int)]).alloc (.cells #[.int .i64 (U : Int)] 3)
  have h11 := Arr.new (w5.alloc (.cells #[.int .i64 (i : Int)] 3)) 3 [.int .i64 (U : Int)]
  have hs1 : (w5.alloc (.cells #[.int .i64 (i : Int)] 3)).heap.size = w5.heap.size + 1 := by simp
  rw [hs1] at h11
  have b6 : Below w5.heap.size w5 ((w5.alloc (.cells #[.int .i64 (i : Int)] 3)).alloc (.cells #[.int .i64 (U : Int)] 3)) := ((Below.refl _ _).alloc (Nat.le_refl _) _).alloc (by simp) _
  have h11 : Arr ((w5.alloc (.cells #[.int .i64 (i : Int)] 3)).alloc (.cells #[.int .i64 (U : Int)] 3)) (w5.heap.size + 1) 3 [.int .i64 (U : Int)] := h11
  have h10 : Arr ((w5.alloc (.cells #[.int .i64 (i : Int)] 3)).alloc (.cells #[.int .i64 (U : Int)] 3)) w5.heap.size 3 [.int .i64 (i : Int)] := h10
  replace h4 := h4.below b6 h4.lt
  replace h7 := h7.below b6 h7.lt
  replace hb := hb.trans (b6.mono hb.size)
  clear b6 hs1
  generalize (w5.alloc (.cells #[.int .i64 (i : Int)] 3)).alloc (.cells #[.int .i64 (U : Int)] 3) = w6 at *
  generalize w5.heap.size = g10 at *
  refine (size_any h i w6).mono ?_
  rintro e w7 ⟨rfl, b7⟩
  rw [HSZ.out]
  replace h4 := h4.below b7 h4.lt
  replace h7 := h7.below b7 h7.lt
  replace h10 := h10.below b7 h10.lt
  replace h11 := h11.below b7 h11.lt
  replace hb := hb.trans (b7.mono hb.size)
  clear b7
  have c7 : w7.cell? ⟨g7, 0, none⟩ = some (.string ⟨sig.toArray⟩) := h7.cell (i := 0) rfl
  have n7 := h7.lt
  have n10 := h10.lt
  have n11 := h11.lt
  have n4 := h4.lt
  have c10 : w7.cell? ⟨g10, 0, none⟩ = some (.int .i64 (i : Int)) := h10.cell (i := 0) rfl
  go_wp2_with (with_reducible refine ldArr (.tmp 4) Tryd.ag_b16 (wn rfl) rfl rfl HPL.out (h4.alloc _) ?_)
  have h14 := Arr.new w7 60 [.func (.func 38) #[] #[.pointer (some ⟨g7, 0, none⟩), .pointer (some ⟨g10 + 1, 0, none⟩)]]
  have b8 : Below w7.heap.size w7 (w7.alloc (.cells [.func (.func 38) #[] #[.pointer (some ⟨g7, 0, none⟩), .pointer (some ⟨g10 + 1, 0, none⟩)]].toArray 60)) := (Below.refl _ _).alloc (Nat.le_refl _) _
  generalize w7.alloc (.cells [.func (.func 38) #[] #[.pointer (some ⟨g7, 0, none⟩), .pointer (some ⟨g10 + 1, 0, none⟩)]].toArray 60) = w8 at *
  replace h4 := h4.below b8 n4
  replace h7 := h7.below b8 n7
  replace h10 := h10.below b8 n10
  replace h11 := h11.below b8 n11
  have hw7 : w.heap.size ≤ w7.heap.size := hb.size
  replace hb := hb.trans (b8.mono hb.size)
  generalize w7.heap.size = g14 at *
  clear b8 c7 c10
  have hmc := HMSG.out w8 (ht.below hb ht.size)
  refine hmc.mono ?_
  rintro e w9 ⟨rfl, b9⟩
  replace h4 := h4.below b9 h4.lt
  replace h7 := h7.below b9 h7.lt
  replace h10 := h10.below b9 h10.lt
  replace h11 := h11.below b9 h11.lt
  replace h14 := h14.below b9 h14.lt
  replace hb := hb.trans (b9.mono hb.size)
  obtain ⟨D, hD⟩ : ∃ D, D = messageD p i m := ⟨_, rfl⟩
  rw [← hD] at hdd
  rw [← hD]
  have HMD := Lib.hid hD
  clear hmc b9 hD HMSG
  go_wp2_with fail
  refine (digits_any D w9 hdd).mono ?_
  rintro e w10 ⟨rfl, b10⟩
  replace h4 := h4.below b10 h4.lt
  replace h7 := h7.below b10 h7.lt
  replace h10 := h10.below b10 h10.lt
  replace h11 := h11.below b10 h11.lt
  replace h14 := h14.below b10 h14.lt
  replace hb := hb.trans (b10.mono hb.size)
  clear b10
  have HDL := Lib.hid (show (ivs (digitsD D)).length = 35 by rw [ivs_len]; exact digitsD_len hdd)
  go_wp2_with (with_reducible refine alArr (z := zerosI 35) Tryd.ag_i35 (wn rfl) rfl ?_)
  intro w11 h15 b11
  have l15 : w.heap.size ≤ w10.heap.size := hb.size
  have e4 := h4.lt
  have e7 := h7.lt
  have e10 := h10.lt
  have e11 := h11.lt
  have e14 := h14.lt
  replace h4 := h4.below b11 e4
  replace h7 := h7.below b11 e7
  replace h10 := h10.below b11 e10
  replace h11 := h11.below b11 e11
  replace h14 := h14.below b11 e14
  replace hb := hb.trans (b11.mono hb.size)
  clear b11
  generalize w10.heap.size = g15 at *
  go_wp2_with (with_reducible refine stArr (cs := ivs (digitsD D)) (.tmp 15) (.tmp 54) Tryd.ag_i35 (wn rfl) rfl rfl rfl h15 (zerosI_len _) HDL.out (ivs_one _) ?_)
  intro w12 h15 hkeep hbel
  replace h4 := hkeep _ _ _ (by omega) h4
  replace h7 := hkeep _ _ _ (by omega) h7
  replace h10 := hkeep _ _ _ (by omega) h10
  replace h11 := hkeep _ _ _ (by omega) h11
  replace h14 := hkeep _ _ _ (by omega) h14
  replace hb := hb.trans (hbel _ l15)
  clear hkeep hbel
  have hll := HL.out
  have HLEAF := Lib.hid (leaf_any 41 [.pointer (some ⟨g10, 0, none⟩), .pointer (some ⟨g14, 0, none⟩), .pointer (some ⟨g15, 0, none⟩)] (endD i D (sig.drop U)) w12 (ht.below hb ht.size) (by kernel_rfl)
    (fun j hj => endD_len (by rw [List.length_drop]; omega))
    (fun j w' hj hE => verClo_any sig D U i j g10 g14 g15 g7 (g10 + 1) w' ((ht.below hb ht.size).below hE (ht.below hb ht.size).size) (by omega) hj hdd (by omega) (by omega) (h10.below hE h10.lt) (h14.below hE h14.lt) (h15.below hE h15.lt) (h7.below hE h7.lt) (h11.below hE h11.lt)))
  clear hll
  go_wp2_with fail
  refine HLEAF.out.mono ?_
  rintro e w13 ⟨rfl, b13⟩
  replace h4 := h4.below b13 h4.lt
  replace h7 := h7.below b13 h7.lt
  replace h10 := h10.below b13 h10.lt
  replace h11 := h11.below b13 h11.lt
  replace h14 := h14.below b13 h14.lt
  replace hb := hb.trans (b13.mono hb.size)
  have e15 := h15.lt
  have l16 : w12.heap.size ≤ w13.heap.size := b13.size
  clear b13 HLEAF h15
  obtain ⟨V, hV⟩ : ∃ V, V = leafD ((List.range 35).map (endD i D (sig.drop U))) := ⟨_, rfl⟩
  have hVL : V.length = 16 := by rw [hV]; exact ofDig_len _ _
  rw [← hV]
  have HV := Lib.hid hV
  have HV16 := Lib.hid hVL
  have HVL := Lib.hid (show (bcs V).length = 16 by rw [bcs_length]; exact hVL)
  clear hV hVL
  go_wp2_with (with_reducible refine alArr (z := zerosB 16) Tryd.ag_b16 (wn rfl) rfl ?_)
  intro w14 h16 b14
  have l13 : w.heap.size ≤ w13.heap.size := hb.size
  replace e4 := h4.lt
  replace e7 := h7.lt
  replace e10 := h10.lt
  replace e11 := h11.lt
  replace e14 := h14.lt
  replace h4 := h4.below b14 e4
  replace h7 := h7.below b14 e7
  replace h10 := h10.below b14 e10
  replace h11 := h11.below b14 e11
  replace h14 := h14.below b14 e14
  replace hb := hb.trans (b14.mono hb.size)
  clear b14
  generalize w13.heap.size = g16 at *
  go_wp2_with (with_reducible refine stArr (cs := bcs V) (.tmp 16) (.tmp 56) Tryd.ag_b16 (wn rfl) rfl rfl rfl h16 (zerosB_len _) HVL.out (bcs_one _) ?_)
  intro w15 h16 hkeep hbel
  replace h4 := hkeep _ _ _ (by omega) h4
  replace h7 := hkeep _ _ _ (by omega) h7
  replace h10 := hkeep _ _ _ (by omega) h10
  replace h11 := hkeep _ _ _ (by omega) h11
  replace h14 := hkeep _ _ _ (by omega) h14
  replace hb := hb.trans (hbel _ l13)
  clear hkeep hbel
  have h16' : Arr w15 g16 23 (bcs (upD h i (sig.drop U) V 0)) := h16
  clear h16
  go_wp2_with fail
  go_loopw [58] (fun v58 wr => ∃ l : Nat, l ≤ h ∧ v58 = .int .i64 l ∧ Arr wr w.heap.size 23 (bcs p) ∧ Arr wr g7 9 [sv sig] ∧ Arr wr g10 3 [.int .i64 (i : Int)] ∧ Arr wr (g10 + 1) 3 [.int .i64 (U : Int)] ∧ Arr wr g14 60 [.func (.func 38) #[] #[.pointer (some ⟨g7, 0, none⟩), .pointer (some ⟨g10 + 1, 0, none⟩)]] ∧ Arr wr g16 23 (bcs (upD h i (sig.drop U) V l)) ∧ Below w.heap.size w wr) (fun v58 _ => h - (intOf v58).toNat)
  case atStart => exact ⟨0, by omega, rfl, h4, h7, h10, h11, h14, h16', hb⟩
  case round =>
    clear h4 h7 h10 h11 h14 h16' hb
    obtain ⟨l, hl, rfl, h4, h7, h10, h11, h14, h16, hb⟩ := hrel
    by_cases hlt : l < h
    · have hll := HL.out
      have HAT : Hid (Calls Tryd.prog 38 #[.int .i64 (35 + (l : Int)), .pointer (some ⟨g7, 0, none⟩), .pointer (some ⟨g10 + 1, 0, none⟩)] wr fun e w' => e = .returned (.agg (bcs (part (sig.drop U) (35 + l))).toArray) ∧ Below wr.heap.size wr w') := Lib.hid (at_any sig U (35 + l) g7 (g10 + 1) wr h7 h11 (by omega) (by omega))
      have hPl : (part (sig.drop U) (35 + l)).length = 16 := part_len (by rw [List.length_drop]; omega)
      have hOl : (upD h i (sig.drop U) V l).length = 16 := upD_len _ _ _ (by exact HV16.out) _ 
      have hx64 : i / 2 ^ l ≤ i := Nat.div_le_self _ _
      have hx65 : i / 2 ^ (l + 1) ≤ i := Nat.div_le_self _ _
      have HUP := Lib.hid (show upD h i (sig.drop U) V (l + 1) = if i / 2 ^ l % 2 = 1 then joinD ((l + 1 : Nat) : Int) ((i / 2 ^ (l + 1) : Nat) : Int) (part (sig.drop U) (35 + l)) (upD h i (sig.drop U) V l) else joinD ((l + 1 : Nat) : Int) ((i / 2 ^ (l + 1) : Nat) : Int) (upD h i (sig.drop U) V l) (part (sig.drop U) (35 + l)) from rfl)
      have HP := Lib.hid (show (bcs (part (sig.drop U) (35 + l))).length = 16 by rw [bcs_length]; exact hPl)
      have HO := Lib.hid (show (bcs (upD h i (sig.drop U) V l)).length = 16 by rw [bcs_length]; exact hOl)
      have HP16 := Lib.hid hPl
      have HO16 := Lib.hid hOl
      clear hll hPl hOl
      have c14 : wr.cell? ⟨g14, 0, none⟩ = some (.func (.func 38) #[] #[.pointer (some ⟨g7, 0, none⟩), .pointer (some ⟨g10 + 1, 0, none⟩)]) := h14.cell (i := 0) rfl
      obtain ⟨P, hP⟩ : ∃ P, P = part (sig.drop U) (35 + l) := ⟨_, rfl⟩
      obtain ⟨O, hO⟩ : ∃ O, O = upD h i (sig.drop U) V l := ⟨_, rfl⟩
      rw [← hP] at HAT HUP HP HP16
      rw [← hO] at HUP HO HO16 h16
      clear hP hO
      go_wp2_with fail
      refine HAT.out.mono ?_
      rintro e w1 ⟨rfl, b1⟩
      clear c14
      replace h4 := h4.below b1 h4.lt
      replace h7 := h7.below b1 h7.lt
      replace h10 := h10.below b1 h10.lt
      replace h11 := h11.below b1 h11.lt
      replace h14 := h14.below b1 h14.lt
      replace h16 := h16.below b1 h16.lt
      replace hb := hb.trans (b1.mono hb.size)
      clear b1
      go_wp2_with (with_reducible refine alArr (z := zerosB 16) Tryd.ag_b16 (wn rfl) rfl ?_)
      intro w2 h18 b2
      have l18 : w.heap.size ≤ w1.heap.size := hb.size
      have f4 := h4.lt
      have f7 := h7.lt
      have f10 := h10.lt
      have f11 := h11.lt
      have f14 := h14.lt
      have f16 := h16.lt
      replace h4 := h4.below b2 f4
      replace h7 := h7.below b2 f7
      replace h10 := h10.below b2 f10
      replace h11 := h11.below b2 f11
      replace h14 := h14.below b2 f14
      replace h16 := h16.below b2 f16
      replace hb := hb.trans (b2.mono hb.size)
      clear b2
      generalize w1.heap.size = g18 at *
      go_wp2_with (with_reducible refine stArr (cs := bcs P) (.tmp 18) (.tmp 64) Tryd.ag_b16 (wn rfl) rfl rfl rfl h18 (zerosB_len _) HP.out (bcs_one _) ?_)
      intro w3 h18 hkeep hbel
      replace h4 := hkeep _ _ _ (by omega) h4
      replace h7 := hkeep _ _ _ (by omega) h7
      replace h10 := hkeep _ _ _ (by omega) h10
      replace h11 := hkeep _ _ _ (by omega) h11
      replace h14 := hkeep _ _ _ (by omega) h14
      replace h16 := hkeep _ _ _ (by omega) h16
      replace hb := hb.trans (hbel _ l18)
      clear hkeep hbel
      have c10 : w3.cell? ⟨g10, 0, none⟩ = some (.int .i64 (i : Int)) := h10.cell (i := 0) rfl
      by_cases hpar : i / 2 ^ l % 2 = 1
      · have hbit : (bits .and .i64 ((i : Int) / 2 ^ l) 1 == 1) = true := by rw [par_bit i l (by omega)]; rw [hpar]; rfl
        obtain ⟨W, hW⟩ : ∃ W, W = joinD ((l + 1 : Nat) : Int) ((i / 2 ^ (l + 1) : Nat) : Int) P O := ⟨_, rfl⟩
        have hUPn : upD h i (sig.drop U) V (l + 1) = W := by rw [HUP.out, if_pos hpar, hW]
        have HUPN := Lib.hid hUPn
        have HWL := Lib.hid (show (bcs W).length = 16 by rw [bcs_length, hW]; exact ofDig_len _ _)
        have HJ : Hid (∀ w', Tabs w' → Calls Tryd.prog 42 #[.int .i64 ((l : Int) + 1), .int .i64 ((i / 2 ^ (l + 1) : Nat) : Int), .agg (bcs P).toArray, .agg (bcs O).toArray] w' fun e w'' => e = .returned (.agg (bcs W).toArray) ∧ Below w'.heap.size w' w'') :=
          Lib.hid (fun w' ht' => by rw [hW]; exact join_any ((l : Int) + 1) ((i / 2 ^ (l + 1) : Nat) : Int) P O w' ht' (isI64_nat (n := l + 1) (by omega)) (isI64_nat (by omega)) HP16.out HO16.out)
        clear hUPn hW HUP hpar
        go_wp2_with fail
        refine aStart (by kernel_rfl) ?_
        clear hbit c10
        replace h4 := h4.drew
        replace h7 := h7.drew
        replace h10 := h10.drew
        replace h11 := h11.drew
        replace h14 := h14.drew
        replace h16 := h16.drew
        replace h18 := h18.drew
        replace hb := hb.drew
        generalize w3.drew = wd at *
        refine aTake (i := 0) (v := .int .i64 (l : Int)) rfl (by kernel_rfl) (wn rfl) (fun _ _ _ h => h) (fun w => by kernel_rfl) ?_
        refine aTake (i := 1) (v := .int .i64 ((l : Int) + 1)) rfl (by kernel_rfl) (wn rfl) (fun _ _ _ h => h) (fun w => addRun (A := (l : Int)) (B := 1) (.tmp 70) (.const (.int .i64 1)) rfl (by kernel_rfl) rfl rfl (by omega)) ?_
        refine aTake (i := 3) (v := .int .i64 (l : Int)) rfl (by kernel_rfl) (wn rfl) (fun _ _ _ h => h) (fun w => by kernel_rfl) ?_
        refine aTake (i := 4) (v := .int .i64 ((l + 1 : Nat) : Int)) rfl (by kernel_rfl) (wn rfl) (fun _ _ _ h => h) (fun w => addRun (A := (l : Int)) (B := 1) (.tmp 73) (.const (.int .i64 1)) rfl (by kernel_rfl) rfl (by omega) (by omega)) ?_
        refine rgFloat [(2, 72), (5, 75), (6, 76), (7, 77), (8, 78)] (GVerA i l P O W) _ 1 rfl (by kernel_rfl) ?mono ?step ?fin
        case mono =>
          intro p hp v w w' h hE
          simp only [List.mem_cons, List.not_mem_nil, or_false] at hp
          rcases hp with rfl | rfl | rfl | rfl | rfl
          · exact h
          · exact h
          · exact h
          · exact h
          · exact h
        case step =>
          intro p hp
          simp only [List.mem_cons, List.not_mem_nil, or_false] at hp
          rcases hp with rfl | rfl | rfl | rfl | rfl
          · refine ⟨_, rfl, rfl, fun a w' hF hE hG => ?_⟩
            refine ldOne (p := ⟨g10, 0, none⟩) (.tmp 10) (by kernel_rfl) (wn rfl) rfl ((hF.eval 10 (by kernel_rfl)).trans (by kernel_rfl)) ((h10.below hE h10.lt).cell (i := 0) rfl) ?_
            exact ⟨_, rfl, Below.refl _ _, rfl⟩
          · refine ⟨_, rfl, rfl, fun a w' hF hE hG => ?_⟩
            refine opVal (v := .int .i64 ((i / 2 ^ (l + 1) : Nat) : Int)) (wn rfl) (shrNat (m := i) (n := l + 1) (.tmp 72) (.tmp 74) rfl (show a.tmps.getD 72 undef = _ from hG (2, 72) (by simp) (by kernel_rfl)) ((hF.eval 74 (by kernel_rfl)).trans (by kernel_rfl)) (by omega)) ?_
            exact ⟨_, rfl, Below.refl _ _, rfl⟩
          · refine ⟨_, rfl, rfl, fun a w' hF hE hG => ?_⟩
            refine ldArr (b := g18) (.tmp 18) Tryd.ag_b16 (wn rfl) rfl ((hF.eval 18 (by kernel_rfl)).trans (by kernel_rfl)) HP.out (h18.below hE h18.lt) ?_
            exact ⟨_, rfl, Below.refl _ _, rfl⟩
          · refine ⟨_, rfl, rfl, fun a w' hF hE hG => ?_⟩
            refine ldArr (b := g16) (.tmp 16) Tryd.ag_b16 (wn rfl) rfl ((hF.eval 16 (by kernel_rfl)).trans (by kernel_rfl)) HO.out (h16.below hE h16.lt) ?_
            exact ⟨_, rfl, Below.refl _ _, rfl⟩
          · refine ⟨_, rfl, rfl, fun a w' hF hE hG => ?_⟩
            have hx75 : a.tmps.getD 75 undef = .int .i64 ((i / 2 ^ (l + 1) : Nat) : Int) := hG (5, 75) (by simp) (by kernel_rfl)
            have hx76 : a.tmps.getD 76 undef = .agg (bcs P).toArray := hG (6, 76) (by simp) (by kernel_rfl)
            have hx77 : a.tmps.getD 77 undef = .agg (bcs O).toArray := hG (7, 77) (by simp) (by kernel_rfl)
            refine callOp 42 [.int .i64 ((l : Int) + 1), .int .i64 ((i / 2 ^ (l + 1) : Nat) : Int), .agg (bcs P).toArray, .agg (bcs O).toArray] [] [] (by kernel_rfl) (wn rfl) rfl rfl (by show [a.eval (.tmp 71), a.tmps.getD 75 undef, a.tmps.getD 76 undef, a.tmps.getD 77 undef] = _; rw [hF.eval 71 (by kernel_rfl), hx75, hx76, hx77]; first | done | kernel_rfl) ?_
            refine (HJ.out w' (ht.below (hb.trans (hE.mono hb.size)) ht.size)).mono ?_
            rintro e w2 ⟨rfl, hb2⟩
            exact ⟨_, rfl, ⟨_, rfl, hb2, rfl⟩⟩
        case fin =>
          intro a wf hF hE hG
          have qf : a.tmps.getD 78 undef = .agg (bcs W).toArray := hG (8, 78) (by simp)
          replace h4 := h4.below hE h4.lt
          replace h7 := h7.below hE h7.lt
          replace h10 := h10.below hE h10.lt
          replace h11 := h11.below hE h11.lt
          replace h14 := h14.below hE h14.lt
          replace h16 := h16.below hE h16.lt
          have hszf := hb.size
          replace hb := hb.trans (hE.mono hb.size)
          rw [hF.eq]
          simp only [putsX]
          rw [qf]
          generalize a.tmps.getD 72 undef = x72
          generalize a.tmps.getD 75 undef = x75
          generalize a.tmps.getD 76 undef = x76
          generalize a.tmps.getD 77 undef = x77
          clear hG hF hE qf
          refine aNext (i := 9) (by kernel_rfl) rfl ?_
          refine stArr (b := g16) (cs := bcs W) (.tmp 16) (.tmp 78) Tryd.ag_b16 (wn rfl) rfl (by kernel_rfl) (by kernel_rfl) h16 HO.out HWL.out (bcs_one _) ?_
          intro w4 h16 hkeep hbel
          replace h4 := hkeep _ _ _ (by omega) h4
          replace h7 := hkeep _ _ _ (by omega) h7
          replace h10 := hkeep _ _ _ (by omega) h10
          replace h11 := hkeep _ _ _ (by omega) h11
          replace h14 := hkeep _ _ _ (by omega) h14
          replace hb := hb.trans (hbel _ (by omega))
          clear hkeep hbel h18
          rw [← HUPN.out] at h16
          refine aDone (by kernel_rfl) ?_
          simp only [Act.put, List.setIfInBounds_toArray, List.set_cons_succ, List.set_cons_zero]
          go_wp2_with fail
          go_roundw
          case rel => exact ⟨l + 1, by omega, by go_num, h4, h7, h10, h11, h14, h16, hb⟩
          case measure => (simp [intOf]; try omega)
      · have hbit : (bits .and .i64 ((i : Int) / 2 ^ l) 1 == 1) = false := by 
          rw [par_bit i l (by omega)]
          have : i / 2 ^ l % 2 = 0 := by omega
          rw [this]; rfl
        obtain ⟨W, hW⟩ : ∃ W, W = joinD ((l + 1 : Nat) : Int) ((i / 2 ^ (l + 1) : Nat) : Int) O P := ⟨_, rfl⟩
        have hUPn : upD h i (sig.drop U) V (l + 1) = W := by rw [HUP.out, if_neg hpar, hW]
        have HUPN := Lib.hid hUPn
        have HWL := Lib.hid (show (bcs W).length = 16 by rw [bcs_length, hW]; exact ofDig_len _ _)
        have HJ : Hid (∀ w', Tabs w' → Calls Tryd.prog 42 #[.int .i64 ((l : Int) + 1), .int .i64 ((i / 2 ^ (l + 1) : Nat) : Int), .agg (bcs O).toArray, .agg (bcs P).toArray] w' fun e w'' => e = .returned (.agg (bcs W).toArray) ∧ Below w'.heap.size w' w'') :=
          Lib.hid (fun w' ht' => by rw [hW]; exact join_any ((l : Int) + 1) ((i / 2 ^ (l + 1) : Nat) : Int) O P w' ht' (isI64_nat (n := l + 1) (by omega)) (isI64_nat (by omega)) HO16.out HP16.out)
        clear hUPn hW HUP hpar
        go_wp2_with fail
        refine aStart (by kernel_rfl) ?_
        clear hbit c10
        replace h4 := h4.drew
        replace h7 := h7.drew
        replace h10 := h10.drew
        replace h11 := h11.drew
        replace h14 := h14.drew
        replace h16 := h16.drew
        replace h18 := h18.drew
        replace hb := hb.drew
        generalize w3.drew = wd at *
        refine aTake (i := 0) (v := .int .i64 (l : Int)) rfl (by kernel_rfl) (wn rfl) (fun _ _ _ h => h) (fun w => by kernel_rfl) ?_
        refine aTake (i := 1) (v := .int .i64 ((l : Int) + 1)) rfl (by kernel_rfl) (wn rfl) (fun _ _ _ h => h) (fun w => addRun (A := (l : Int)) (B := 1) (.tmp 79) (.const (.int .i64 1)) rfl (by kernel_rfl) rfl rfl (by omega)) ?_
        refine aTake (i := 3) (v := .int .i64 (l : Int)) rfl (by kernel_rfl) (wn rfl) (fun _ _ _ h => h) (fun w => by kernel_rfl) ?_
        refine aTake (i := 4) (v := .int .i64 ((l + 1 : Nat) : Int)) rfl (by kernel_rfl) (wn rfl) (fun _ _ _ h => h) (fun w => addRun (A := (l : Int)) (B := 1) (.tmp 82) (.const (.int .i64 1)) rfl (by kernel_rfl) rfl (by omega) (by omega)) ?_
        refine rgFloat [(2, 81), (5, 84), (6, 85), (7, 86), (8, 87)] (GVerB i l P O W) _ 1 rfl (by kernel_rfl) ?mono ?step ?fin
        case mono =>
          intro p hp v w w' h hE
          simp only [List.mem_cons, List.not_mem_nil, or_false] at hp
          rcases hp with rfl | rfl | rfl | rfl | rfl
          · exact h
          · exact h
          · exact h
          · exact h
          · exact h
        case step =>
          intro p hp
          simp only [List.mem_cons, List.not_mem_nil, or_false] at hp
          rcases hp with rfl | rfl | rfl | rfl | rfl
          · refine ⟨_, rfl, rfl, fun a w' hF hE hG => ?_⟩
            refine ldOne (p := ⟨g10, 0, none⟩) (.tmp 10) (by kernel_rfl) (wn rfl) rfl ((hF.eval 10 (by kernel_rfl)).trans (by kernel_rfl)) ((h10.below hE h10.lt).cell (i := 0) rfl) ?_
            exact ⟨_, rfl, Below.refl _ _, rfl⟩
          · refine ⟨_, rfl, rfl, fun a w' hF hE hG => ?_⟩
            refine opVal (v := .int .i64 ((i / 2 ^ (l + 1) : Nat) : Int)) (wn rfl) (shrNat (m := i) (n := l + 1) (.tmp 81) (.tmp 83) rfl (show a.tmps.getD 81 undef = _ from hG (2, 81) (by simp) (by kernel_rfl)) ((hF.eval 83 (by kernel_rfl)).trans (by kernel_rfl)) (by omega)) ?_
            exact ⟨_, rfl, Below.refl _ _, rfl⟩
          · refine ⟨_, rfl, rfl, fun a w' hF hE hG => ?_⟩
            refine ldArr (b := g16) (.tmp 16) Tryd.ag_b16 (wn rfl) rfl ((hF.eval 16 (by kernel_rfl)).trans (by kernel_rfl)) HO.out (h16.below hE h16.lt) ?_
            exact ⟨_, rfl, Below.refl _ _, rfl⟩
          · refine ⟨_, rfl, rfl, fun a w' hF hE hG => ?_⟩
            refine ldArr (b := g18) (.tmp 18) Tryd.ag_b16 (wn rfl) rfl ((hF.eval 18 (by kernel_rfl)).trans (by kernel_rfl)) HP.out (h18.below hE h18.lt) ?_
            exact ⟨_, rfl, Below.refl _ _, rfl⟩
          · refine ⟨_, rfl, rfl, fun a w' hF hE hG => ?_⟩
            have hx84 : a.tmps.getD 84 undef = .int .i64 ((i / 2 ^ (l + 1) : Nat) : Int) := hG (5, 84) (by simp) (by kernel_rfl)
            have hx85 : a.tmps.getD 85 undef = .agg (bcs O).toArray := hG (6, 85) (by simp) (by kernel_rfl)
            have hx86 : a.tmps.getD 86 undef = .agg (bcs P).toArray := hG (7, 86) (by simp) (by kernel_rfl)
            refine callOp 42 [.int .i64 ((l : Int) + 1), .int .i64 ((i / 2 ^ (l + 1) : Nat) : Int), .agg (bcs O).toArray, .agg (bcs P).toArray] [] [] (by kernel_rfl) (wn rfl) rfl rfl (by show [a.eval (.tmp 80), a.tmps.getD 84 undef, a.tmps.getD 85 undef, a.tmps.getD 86 undef] = _; rw [hF.eval 80 (by kernel_rfl), hx84, hx85, hx86]; first | done | kernel_rfl) ?_
            refine (HJ.out w' (ht.below (hb.trans (hE.mono hb.size)) ht.size)).mono ?_
            rintro e w2 ⟨rfl, hb2⟩
            exact ⟨_, rfl, ⟨_, rfl, hb2, rfl⟩⟩
        case fin =>
          intro a wf hF hE hG
          have qf : a.tmps.getD 87 undef = .agg (bcs W).toArray := hG (8, 87) (by simp)
          replace h4 := h4.below hE h4.lt
          replace h7 := h7.below hE h7.lt
          replace h10 := h10.below hE h10.lt
          replace h11 := h11.below hE h11.lt
          replace h14 := h14.below hE h14.lt
          replace h16 := h16.below hE h16.lt
          have hszf := hb.size
          replace hb := hb.trans (hE.mono hb.size)
          rw [hF.eq]
          simp only [putsX]
          rw [qf]
          generalize a.tmps.getD 81 undef = x81
          generalize a.tmps.getD 84 undef = x84
          generalize a.tmps.getD 85 undef = x85
          generalize a.tmps.getD 86 undef = x86
          clear hG hF hE qf
          refine aNext (i := 9) (by kernel_rfl) rfl ?_
          refine stArr (b := g16) (cs := bcs W) (.tmp 16) (.tmp 87) Tryd.ag_b16 (wn rfl) rfl (by kernel_rfl) (by kernel_rfl) h16 HO.out HWL.out (bcs_one _) ?_
          intro w4 h16 hkeep hbel
          replace h4 := hkeep _ _ _ (by omega) h4
          replace h7 := hkeep _ _ _ (by omega) h7
          replace h10 := hkeep _ _ _ (by omega) h10
          replace h11 := hkeep _ _ _ (by omega) h11
          replace h14 := hkeep _ _ _ (by omega) h14
          replace hb := hb.trans (hbel _ (by omega))
          clear hkeep hbel h18
          rw [← HUPN.out] at h16
          refine aDone (by kernel_rfl) ?_
          simp only [Act.put, List.setIfInBounds_toArray, List.set_cons_succ, List.set_cons_zero]
          go_wp2_with fail
          go_roundw
          case rel => exact ⟨l + 1, by omega, by go_num, h4, h7, h10, h11, h14, h16, hb⟩
          case measure => (simp [intOf]; try omega)
    · obtain rfl : l = h := by omega
      have hR : upD l i (sig.drop U) V l = rootD l i (messageD p i m) (sig.drop U) := by
        have h1 := HV.out
        have h2 := HMD.out
        subst h1
        subst h2
        rfl
      obtain ⟨R, hRR⟩ : ∃ R, R = upD l i (sig.drop U) V l := ⟨_, rfl⟩
      have hRl : R.length = 16 := by rw [hRR]; exact upD_len _ _ _ HV16.out _
      rw [← hRR] at h16 hR
      have HR := Lib.hid hR
      have HRB := Lib.hid (show (bcs R).length = 16 by rw [bcs_length]; exact hRl)
      have HRL := Lib.hid hRl
      have hpl : p.length = 16 := by have := HPL.out; rwa [bcs_length] at this
      have HPLL := Lib.hid hpl
      have c10 : wr.cell? ⟨g10, 0, none⟩ = some (.int .i64 (i : Int)) := h10.cell (i := 0) rfl
      clear hRR hRl hpl hR
      by_cases heq : R = p
      · have hbq : (!(R == p)) = false := by simp [heq]
        have HBQ := Lib.hid hbq
        have HEQ := Lib.hid heq
        clear hbq heq
        go_wp2_with (first | (with_reducible refine ldArr (.tmp 16) Tryd.ag_b16 (wn rfl) rfl rfl HRB.out h16 ?_) | (with_reducible refine ldArr (.tmp 4) Tryd.ag_b16 (wn rfl) rfl rfl HPL.out h4 ?_) | (with_reducible refine neqBytes (.tmp 89) (.tmp 90) R p false Tryd.arr_b16 Tryd.und_u8 Tryd.one_u8 (by kernel_rfl) (wn rfl) rfl rfl rfl HRL.out HPLL.out HBQ.out ?_))
        go_wp2_with fail
        go_ret2
        refine ⟨?_, hb⟩
        unfold verV
        rw [← HR.out, if_pos HEQ.out, if_pos HEQ.out]
        rfl
      · have hbq : (!(R == p)) = true := by simp [heq]
        have HBQ := Lib.hid hbq
        have HEQ := Lib.hid heq
        clear hbq heq
        go_wp2_with (first | (with_reducible refine ldArr (.tmp 16) Tryd.ag_b16 (wn rfl) rfl rfl HRB.out h16 ?_) | (with_reducible refine ldArr (.tmp 4) Tryd.ag_b16 (wn rfl) rfl rfl HPL.out h4 ?_) | (with_reducible refine neqBytes (.tmp 89) (.tmp 90) R p true Tryd.arr_b16 Tryd.und_u8 Tryd.one_u8 (by kernel_rfl) (wn rfl) rfl rfl rfl HRL.out HPLL.out HBQ.out ?_))
        go_wp2_with fail
        go_ret2
        refine ⟨?_, hb⟩
        unfold verV
        rw [← HR.out, if_neg HEQ.out, if_neg HEQ.out]
        rfl
end Go.Proofs.YtienlndjhcmemaaDoor
/-
  Verify of sign: what it returns, every way.
-/
namespace Go.Proofs.YtienlndjhcmemaaDoor
open Go.RowKit
set_option linter.unusedVariables false

def verifyV (p : List UInt8) (h : Int) (m sig : List UInt8) : Value := .tuple #[.int .i64 (verifyD p h m sig).1, .int .i64 (verifyD p h m sig).2]
set_option maxRecDepth 100000 in
set_option maxHeartbeats 2000000 in
theorem verify_e (p : List UInt8) (h x u er : Int) (S : Nat) (m sig : List UInt8) (w : World) (hp : p.length = 16) (hl : sig.length ≤ 1000000) (hc : countD h ≠ 0) (hx : isI64 x) (hd : dec sig = (x, u, er)) (hS : sizeD h x = S) (hS1 : S ≤ 1000000) (her : er = 5 ∨ er = 6) :
    Calls Tryd.prog 22 #[.agg (bcs p).toArray, .int .i64 h, sv m, sv sig] w fun e w' => e = .returned (.tuple #[.int .i64 0, .int .i64 er]) ∧ Below w.heap.size w w' := by
  have hcl := countD_le h
  have hcp : 0 < countD h := by omega
  have HC := Lib.hid (fun w' => count_any h w')
  have HZ := Lib.hid (fun w' => size_any h x w')
  have HD := Lib.hid hd
  have HSZ := Lib.hid hS
  obtain ⟨hx1, hx2⟩ := hx
  clear hc hd hS
  unfold sv
  obtain ⟨M, hM⟩ : ∃ M, M = countD h := ⟨_, rfl⟩
  rw [← hM] at hcl hcp HC
  clear hM
  have her1 : 5 ≤ er := by omega
  have her2 : er ≤ 6 := by omega
  clear her
  go_enter Tryd.func22, Tryd.ntmps22
  go_wp2_with (with_reducible refine bxArr (cs := bcs p) (.tmp 0) (wn rfl) rfl rfl ?_)
  intro w1 h4 hb
  have l4 : w.heap.size < w1.heap.size := h4.lt
  clear h4
  go_wp2_with (with_reducible refine bxOne (.tmp 3) (wn rfl) rfl rfl rfl ?_)
  intro w2 h7 b2
  replace hb := hb.trans (b2.mono hb.size)
  clear b2
  generalize w1.heap.size = g7 at *
  go_wp2_with fail
  refine (HC.out w2).mono ?_
  rintro e w3 ⟨rfl, b3⟩
  replace h7 := h7.below b3 h7.lt
  replace hb := hb.trans (b3.mono hb.size)
  clear b3 HC
  have c7 : w3.cell? ⟨g7, 0, none⟩ = some (.string ⟨sig.toArray⟩) := h7.cell (i := 0) rfl
  go_wp2_with (with_reducible refine convBs (.tmp 23) sig Tryd.und_str Tryd.sl_u8.und Tryd.und_u8 (wn rfl) rfl rfl (by omega) ?_)
  intro A5 c5 w5 hrd b5
  replace h7 := h7.below b5 h7.lt
  replace hb := hb.trans (b5.mono hb.size)
  clear b5 c7
  go_wp2_with fail
  refine (getInt_any sig A5 _ c5 _ w5 hrd).mono ?_
  rintro e w6 ⟨rfl, rfl⟩
  rw [HD.out]
  clear hrd
  go_wp2_with fail
  have b6 : Below w5.heap.size w5 ((w5.alloc (.cells #[.int .i64 x] 3)).alloc (.cells #[.int .i64 u] 3)) := ((Below.refl _ _).alloc (Nat.le_refl _) _).alloc (by simp) _
  replace h7 := h7.below b6 h7.lt
  replace hb := hb.trans (b6.mono hb.size)
  clear b6
  generalize (w5.alloc (.cells #[.int .i64 x] 3)).alloc (.cells #[.int .i64 u] 3) = w6 at *
  refine (HZ.out w6).mono ?_
  rintro e w7 ⟨rfl, b7⟩
  rw [HSZ.out]
  replace h7 := h7.below b7 h7.lt
  replace hb := hb.trans (b7.mono hb.size)
  clear b7
  have c7 : w7.cell? ⟨g7, 0, none⟩ = some (.string ⟨sig.toArray⟩) := h7.cell (i := 0) rfl
  go_wp2_with fail
  go_ret2
  exact ⟨rfl, hb⟩
set_option maxRecDepth 100000 in
set_option maxHeartbeats 2000000 in
theorem verify_s (p : List UInt8) (h x u er : Int) (S : Nat) (m sig : List UInt8) (w : World) (hp : p.length = 16) (hl : sig.length ≤ 1000000) (hc : countD h ≠ 0) (hx : isI64 x) (hd : dec sig = (x, u, er)) (hS : sizeD h x = S) (hS1 : S ≤ 1000000) (her : er = 0) (hz : S = 0) :
    Calls Tryd.prog 22 #[.agg (bcs p).toArray, .int .i64 h, sv m, sv sig] w fun e w' => e = .returned (.tuple #[.int .i64 0, .int .i64 8]) ∧ Below w.heap.size w w' := by
  have hcl := countD_le h
  have hcp : 0 < countD h := by omega
  have HC := Lib.hid (fun w' => count_any h w')
  have HZ := Lib.hid (fun w' => size_any h x w')
  have HD := Lib.hid hd
  have HSZ := Lib.hid hS
  obtain ⟨hx1, hx2⟩ := hx
  clear hc hd hS
  unfold sv
  obtain ⟨M, hM⟩ : ∃ M, M = countD h := ⟨_, rfl⟩
  rw [← hM] at hcl hcp HC
  clear hM
  subst her
  subst hz
  go_enter Tryd.func22, Tryd.ntmps22
  go_wp2_with (with_reducible refine bxArr (cs := bcs p) (.tmp 0) (wn rfl) rfl rfl ?_)
  intro w1 h4 hb
  have l4 : w.heap.size < w1.heap.size := h4.lt
  clear h4
  go_wp2_with (with_reducible refine bxOne (.tmp 3) (wn rfl) rfl rfl rfl ?_)
  intro w2 h7 b2
  replace hb := hb.trans (b2.mono hb.size)
  clear b2
  generalize w1.heap.size = g7 at *
  go_wp2_with fail
  refine (HC.out w2).mono ?_
  rintro e w3 ⟨rfl, b3⟩
  replace h7 := h7.below b3 h7.lt
  replace hb := hb.trans (b3.mono hb.size)
  clear b3 HC
  have c7 : w3.cell? ⟨g7, 0, none⟩ = some (.string ⟨sig.toArray⟩) := h7.cell (i := 0) rfl
  go_wp2_with (with_reducible refine convBs (.tmp 23) sig Tryd.und_str Tryd.sl_u8.und Tryd.und_u8 (wn rfl) rfl rfl (by omega) ?_)
  intro A5 c5 w5 hrd b5
  replace h7 := h7.below b5 h7.lt
  replace hb := hb.trans (b5.mono hb.size)
  clear b5 c7
  go_wp2_with fail
  refine (getInt_any sig A5 _ c5 _ w5 hrd).mono ?_
  rintro e w6 ⟨rfl, rfl⟩
  rw [HD.out]
  clear hrd
  go_wp2_with fail
  have b6 : Below w5.heap.size w5 ((w5.alloc (.cells #[.int .i64 x] 3)).alloc (.cells #[.int .i64 u] 3)) := ((Below.refl _ _).alloc (Nat.le_refl _) _).alloc (by simp) _
  replace h7 := h7.below b6 h7.lt
  replace hb := hb.trans (b6.mono hb.size)
  clear b6
  generalize (w5.alloc (.cells #[.int .i64 x] 3)).alloc (.cells #[.int .i64 u] 3) = w6 at *
  refine (HZ.out w6).mono ?_
  rintro e w7 ⟨rfl, b7⟩
  rw [HSZ.out]
  replace h7 := h7.below b7 h7.lt
  replace hb := hb.trans (b7.mono hb.size)
  clear b7
  have c7 : w7.cell? ⟨g7, 0, none⟩ = some (.string ⟨sig.toArray⟩) := h7.cell (i := 0) rfl
  go_wp2_with fail
  go_ret2
  exact ⟨rfl, hb⟩
set_option maxRecDepth 100000 in
set_option maxHeartbeats 2000000 in
theorem verify_t (p : List UInt8) (h x u er : Int) (S : Nat) (m sig : List UInt8) (w : World) (hp : p.length = 16) (hl : sig.length ≤ 1000000) (hc : countD h ≠ 0) (hx : isI64 x) (hd : dec sig = (x, u, er)) (hS : sizeD h x = S) (hS1 : S ≤ 1000000) (her : er = 0) (hz : 0 < S) (hlt : sig.length < S) :
    Calls Tryd.prog 22 #[.agg (bcs p).toArray, .int .i64 h, sv m, sv sig] w fun e w' => e = .returned (.tuple #[.int .i64 0, .int .i64 5]) ∧ Below w.heap.size w w' := by
  have hcl := countD_le h
  have hcp : 0 < countD h := by omega
  have HC := Lib.hid (fun w' => count_any h w')
  have HZ := Lib.hid (fun w' => size_any h x w')
  have HD := Lib.hid hd
  have HSZ := Lib.hid hS
  obtain ⟨hx1, hx2⟩ := hx
  clear hc hd hS
  unfold sv
  obtain ⟨M, hM⟩ : ∃ M, M = countD h := ⟨_, rfl⟩
  rw [← hM] at hcl hcp HC
  clear hM
  subst her
  go_enter Tryd.func22, Tryd.ntmps22
  go_wp2_with (with_reducible refine bxArr (cs := bcs p) (.tmp 0) (wn rfl) rfl rfl ?_)
  intro w1 h4 hb
  have l4 : w.heap.size < w1.heap.size := h4.lt
  clear h4
  go_wp2_with (with_reducible refine bxOne (.tmp 3) (wn rfl) rfl rfl rfl ?_)
  intro w2 h7 b2
  replace hb := hb.trans (b2.mono hb.size)
  clear b2
  generalize w1.heap.size = g7 at *
  go_wp2_with fail
  refine (HC.out w2).mono ?_
  rintro e w3 ⟨rfl, b3⟩
  replace h7 := h7.below b3 h7.lt
  replace hb := hb.trans (b3.mono hb.size)
  clear b3 HC
  have c7 : w3.cell? ⟨g7, 0, none⟩ = some (.string ⟨sig.toArray⟩) := h7.cell (i := 0) rfl
  go_wp2_with (with_reducible refine convBs (.tmp 23) sig Tryd.und_str Tryd.sl_u8.und Tryd.und_u8 (wn rfl) rfl rfl (by omega) ?_)
  intro A5 c5 w5 hrd b5
  replace h7 := h7.below b5 h7.lt
  replace hb := hb.trans (b5.mono hb.size)
  clear b5 c7
  go_wp2_with fail
  refine (getInt_any sig A5 _ c5 _ w5 hrd).mono ?_
  rintro e w6 ⟨rfl, rfl⟩
  rw [HD.out]
  clear hrd
  go_wp2_with fail
  have b6 : Below w5.heap.size w5 ((w5.alloc (.cells #[.int .i64 x] 3)).alloc (.cells #[.int .i64 u] 3)) := ((Below.refl _ _).alloc (Nat.le_refl _) _).alloc (by simp) _
  replace h7 := h7.below b6 h7.lt
  replace hb := hb.trans (b6.mono hb.size)
  clear b6
  generalize (w5.alloc (.cells #[.int .i64 x] 3)).alloc (.cells #[.int .i64 u] 3) = w6 at *
  refine (HZ.out w6).mono ?_
  rintro e w7 ⟨rfl, b7⟩
  rw [HSZ.out]
  replace h7 := h7.below b7 h7.lt
  replace hb := hb.trans (b7.mono hb.size)
  clear b7
  have c7 : w7.cell? ⟨g7, 0, none⟩ = some (.string ⟨sig.toArray⟩) := h7.cell (i := 0) rfl
  go_wp2_with fail
  go_ret2
  exact ⟨rfl, hb⟩
set_option maxRecDepth 100000 in
set_option maxHeartbeats 2000000 in
theorem verify_m (p : List UInt8) (h x u er : Int) (S : Nat) (m sig : List UInt8) (w : World) (hp : p.length = 16) (hl : sig.length ≤ 1000000) (hc : countD h ≠ 0) (hx : isI64 x) (hd : dec sig = (x, u, er)) (hS : sizeD h x = S) (hS1 : S ≤ 1000000) (her : er = 0) (hz : 0 < S) (hlt : S < sig.length) :
    Calls Tryd.prog 22 #[.agg (bcs p).toArray, .int .i64 h, sv m, sv sig] w fun e w' => e = .returned (.tuple #[.int .i64 0, .int .i64 6]) ∧ Below w.heap.size w w' := by
  have hcl := countD_le h
  have hcp : 0 < countD h := by omega
  have HC := Lib.hid (fun w' => count_any h w')
  have HZ := Lib.hid (fun w' => size_any h x w')
  have HD := Lib.hid hd
  have HSZ := Lib.hid hS
  obtain ⟨hx1, hx2⟩ := hx
  clear hc hd hS
  unfold sv
  obtain ⟨M, hM⟩ : ∃ M, M = countD h := ⟨_, rfl⟩
  rw [← hM] at hcl hcp HC
  clear hM
  subst her
  go_enter Tryd.func22, Tryd.ntmps22
  go_wp2_with (with_reducible refine bxArr (cs := bcs p) (.tmp 0) (wn rfl) rfl rfl ?_)
  intro w1 h4 hb
  have l4 : w.heap.size < w1.heap.size := h4.lt
  clear h4
  go_wp2_with (with_reducible refine bxOne (.tmp 3) (wn rfl) rfl rfl rfl ?_)
  intro w2 h7 b2
  replace hb := hb.trans (b2.mono hb.size)
  clear b2
  generalize w1.heap.size = g7 at *
  go_wp2_with fail
  refine (HC.out w2).mono ?_
  rintro e w3 ⟨rfl, b3⟩
  replace h7 := h7.below b3 h7.lt
  replace hb := hb.trans (b3.mono hb.size)
  clear b3 HC
  have c7 : w3.cell? ⟨g7, 0, none⟩ = some (.string ⟨sig.toArray⟩) := h7.cell (i := 0) rfl
  go_wp2_with (with_reducible refine convBs (.tmp 23) sig Tryd.und_str Tryd.sl_u8.und Tryd.und_u8 (wn rfl) rfl rfl (by omega) ?_)
  intro A5 c5 w5 hrd b5
  replace h7 := h7.below b5 h7.lt
  replace hb := hb.trans (b5.mono hb.size)
  clear b5 c7
  go_wp2_with fail
  refine (getInt_any sig A5 _ c5 _ w5 hrd).mono ?_
  rintro e w6 ⟨rfl, rfl⟩
  rw [HD.out]
  clear hrd
  go_wp2_with fail
  have b6 : Below w5.heap.size w5 ((w5.alloc (.cells #[.int .i64 x] 3)).alloc (.cells #[.int .i64 u] 3)) := ((Below.refl _ _).alloc (Nat.le_refl _) _).alloc (by simp) _
  replace h7 := h7.below b6 h7.lt
  replace hb := hb.trans (b6.mono hb.size)
  clear b6
  generalize (w5.alloc (.cells #[.int .i64 x] 3)).alloc (.cells #[.int .i64 u] 3) = w6 at *
  refine (HZ.out w6).mono ?_
  rintro e w7 ⟨rfl, b7⟩
  rw [HSZ.out]
  replace h7 := h7.below b7 h7.lt
  replace hb := hb.trans (b7.mono hb.size)
  clear b7
  have c7 : w7.cell? ⟨g7, 0, none⟩ = some (.string ⟨sig.toArray⟩) := h7.cell (i := 0) rfl
  go_wp2_with fail
  go_ret2
  exact ⟨rfl, hb⟩
set_option maxRecDepth 100000 in
set_option maxHeartbeats 2000000 in
theorem verify_c (p : List UInt8) (h : Int) (m sig : List UInt8) (w : World) (hc : countD h = 0) :
    Calls Tryd.prog 22 #[.agg (bcs p).toArray, .int .i64 h, sv m, sv sig] w fun e w' => e = .returned (.tuple #[.int .i64 0, .int .i64 1]) ∧ Below w.heap.size w w' := by
  have HCC := Lib.hid hc
  clear hc
  unfold sv
  go_enter Tryd.func22, Tryd.ntmps22
  go_wp2_with (with_reducible refine bxArr (cs := bcs p) (.tmp 0) (wn rfl) rfl rfl ?_)
  intro w1 h4 hb
  clear h4
  go_wp2_with (with_reducible refine bxOne (.tmp 3) (wn rfl) rfl rfl rfl ?_)
  intro w2 h7 b2
  replace hb := hb.trans (b2.mono hb.size)
  clear b2 h7
  go_wp2_with fail
  refine (count_any h w2).mono ?_
  rintro e w3 ⟨rfl, b3⟩
  rw [HCC.out]
  replace hb := hb.trans (b3.mono hb.size)
  clear b3
  go_wp2_with fail
  go_ret2
  exact ⟨rfl, hb⟩
theorem sizeD_le (h i : Int) : sizeD h i ≤ 1000000 := by
  unfold sizeD
  split
  · omega
  · rename_i hc
    have h1 := countD_pos (h := h) (i := i) (by omega) (by omega)
    have := enc_len i
    omega
theorem dec_len {sig : List UInt8} {i U : Nat} (hd : dec sig = ((i : Int), (U : Int), 0)) : U = (enc (i : Int)).length := by
  have h1 := dec_canon hd
  rw [Int.toNat_natCast] at h1
  rcases dec_facts hd with ⟨_, h2, h3, h4, h5⟩ | ⟨_, _, h6⟩
  · rw [← h1, List.length_take]; omega
  · omega
theorem verify_any (p : List UInt8) (h : Int) (m sig : List UInt8) (w : World) (ht : Tabs w) (hp : p.length = 16) (hm : m.length ≤ 100000000) (hl : sig.length ≤ 1000000) :
    Calls Tryd.prog 22 #[.agg (bcs p).toArray, .int .i64 h, sv m, sv sig] w fun e w' => e = .returned (verifyV p h m sig) ∧ Below w.heap.size w w' := by
  by_cases hc : countD h = 0
  · have e : verifyD p h m sig = (0, 1) := by unfold verifyD; rw [if_pos hc]
    unfold verifyV
    rw [e]
    exact verify_c p h m sig w hc
  · obtain ⟨x, u, er, hd⟩ : ∃ x u er, dec sig = (x, u, er) := ⟨_, _, _, rfl⟩
    have hf := dec_facts hd
    have hx : isI64 x := by
      rcases hf with ⟨_, _, _, _, h5⟩ | ⟨rfl, _, _⟩
      · exact h5
      · unfold isI64; omega
    by_cases he : er = 0
    · subst he
      by_cases hz : sizeD h x = 0
      · have e : verifyD p h m sig = (0, 8) := by unfold verifyD; rw [if_neg hc, hd]; simp [hz]
        unfold verifyV
        rw [e]
        exact verify_s p h x u 0 _ m sig w hp hl hc hx hd rfl (sizeD_le _ _) rfl hz
      · by_cases hlt : sig.length < sizeD h x
        · have e : verifyD p h m sig = (0, 5) := by unfold verifyD; rw [if_neg hc, hd]; simp [hz, hlt]
          unfold verifyV
          rw [e]
          exact verify_t p h x u 0 _ m sig w hp hl hc hx hd rfl (sizeD_le _ _) rfl (by omega) hlt
        · by_cases hgt : sizeD h x < sig.length
          · have e : verifyD p h m sig = (0, 6) := by unfold verifyD; rw [if_neg hc, hd]; simp [hz, hlt, hgt]
            unfold verifyV
            rw [e]
            exact verify_m p h x u 0 _ m sig w hp hl hc hx hd rfl (sizeD_le _ _) rfl (by omega) hgt
          · have hr : 0 ≤ x ∧ x < (countD h : Int) := by
              unfold sizeD at hz
              split at hz
              · omega
              · omega
            obtain ⟨h0, h6⟩ := countD_pos hr.1 hr.2
            obtain ⟨k, rfl⟩ : ∃ k : Nat, h = (k : Int) := ⟨h.toNat, by omega⟩
            obtain ⟨i, rfl⟩ : ∃ i : Nat, x = (i : Int) := ⟨x.toNat, by omega⟩
            obtain ⟨U, rfl⟩ : ∃ U : Nat, u = (U : Int) := ⟨u.toNat, by rcases hf with h1 | h1 <;> omega⟩
            have hk : k ≤ 6 := by omega
            have hcd := countD_of hk
            have hi : i < 2 ^ k := by omega
            have hU := dec_len hd
            have hss := sizeD_of hk hi
            have e : verifyV p k m sig = verV i (rootD k i (messageD p i m) (sig.drop U)) p := by
              unfold verifyV verV verifyD
              rw [if_neg hc, hd]
              simp only [ne_eq, not_true_eq_false, if_false, hz, hlt, hgt, Int.toNat_natCast]
              split <;> rfl
            rw [e]
            exact verify_ok p k i U m sig w ht hp hm hk hi hd hU (by omega)
    · have e : verifyD p h m sig = (0, er) := by unfold verifyD; rw [if_neg hc, hd]; simp [he]
      unfold verifyV
      rw [e]
      exact verify_e p h x u er _ m sig w hp hl hc hx hd rfl (sizeD_le _ _) (by rcases hf with h1 | h1 <;> omega)
end Go.Proofs.YtienlndjhcmemaaDoor
