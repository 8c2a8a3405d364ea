/-
  SignChecksEverything answers true, for any seed, height, index, messages, place and byte.
-/
import Derived.Test.YtienlndjhcmemaaDoorMH
import Derived.Test.YtienlndjhcmemaaDoorBRow
import Derived.Test.YtienlndjhcmemaaDoorSignIsAccepted
namespace Go.Proofs.YtienlndjhcmemaaDoor
open Go.RowKit
set_option linter.unusedVariables false

/-- '+' of two texts. -/
theorem addStrOp {P : Program} {w : World} {ops : Array Oper} {rest : List Oper} {o : Oper} {a : Act} {Q : Exit → Act → World → Prop} {t ty : TypeId} (x y : Operand) (xs ys : List UInt8) (hgd : Region.wanted o (yielded ops a.tmps) = true)
    (ho : o.op = .binOp .add t x y ty) (hx : a.eval x = .string ⟨xs.toArray⟩) (hy : a.eval y = .string ⟨ys.toArray⟩) (h1 : xs.length ≤ 1000000) (h2 : ys.length ≤ 1000000)
    (hk : wpList P ops Q rest (a.put o.dst (.string ⟨(xs ++ ys).toArray⟩)) w) : wpList P ops Q (o :: rest) a w := by
  refine opVal (v := .string ⟨(xs ++ ys).toArray⟩) hgd ?_ hk
  unfold execOp
  have s1 : (⟨xs.toArray⟩ : ByteArray).size = xs.length := by simp [ByteArray.size]
  have s2 : (⟨ys.toArray⟩ : ByteArray).size = ys.length := by simp [ByteArray.size]
  have hle : (xs.length : Int) + (ys.length : Int) ≤ 9223372036854775807 := by omega
  rw [← cat_two]
  simp [ho, hx, hy, eqGuard, binOp_string_add, Op.stringOp, s1, s2, hle]
/-- What the row of an accepted signature with another index or message answers. -/
def acc (k i : Nat) (pk m r : List UInt8) : Bool := rootD k i (messageD pk i m) r == pk
theorem verify_acc (pk : List UInt8) {k i : Nat} (m r : List UInt8) (hh : k ≤ 6) (hi : i < 2 ^ k) (hr : r.length = 16 * (35 + k)) : ((verifyD pk k m (enc i ++ r)).2 == 0) = acc k i pk m r := by
  rw [verify_of pk m r hh hi hr]
  unfold acc
  by_cases h : rootD k i (messageD pk i m) r = pk
  · rw [if_pos h, h]; simp
  · rw [if_neg h, beq_eq_false_iff_ne.2 h]; rfl
theorem rootD_len (k i : Nat) (d r : List UInt8) : (rootD k i d r).length = 16 := by
  unfold rootD
  exact upD_len _ _ _ (ofDig_len _ _) _
theorem set_behind (b : UInt8) (r : List UInt8) (n : Nat) (x : UInt8) (hn : 1 ≤ n) : ([b] ++ r).set n x = [b] ++ r.set (n - 1) x := by
  obtain ⟨j, rfl⟩ : ∃ j, n = j + 1 := ⟨n - 1, by omega⟩
  rfl
theorem drop_one (b : UInt8) (r : List UInt8) : ([b] ++ r).drop 1 = r := rfl
theorem next_mod {i c k2 : Nat} (hi : i < 64) (h : ((i : Int) + 1) % (c : Int) = (k2 : Int)) : (wrap64 ((i : Int) + 1)).tmod (c : Int) = (k2 : Int) := by
  have e0 : wrap64 ((i : Int) + 1) = (i : Int) + 1 := by unfold wrap64; omega
  rw [e0, Int.tmod_eq_emod_of_nonneg (by omega)]
  exact h
theorem wrap64_nat {n : Nat} (h : n ≤ 1000000) : wrap64 (n : Int) = (n : Int) := by unfold wrap64; omega
theorem below_setCell {w : World} {B g j : Nat} {v : Value} (hB : B ≤ g) : Below B w (w.setCell ⟨g, j, none⟩ v) :=
  ⟨rfl, rfl, rfl, by simp [World.setCell], fun k hk => by
    have : g ≠ k := by omega
    simp [World.setCell, Array.getElem?_modify, this]⟩
theorem u8_bc (b : UInt8) (y : Int) (hy : 0 ≤ y ∧ y ≤ 255) : ∃ x : UInt8, Value.int .u8 (((b.toNat : Int) + y) % 256) = bc x := by
  refine ⟨UInt8.ofNat (((b.toNat : Int) + y) % 256).toNat, ?_⟩
  unfold bc
  congr 1
  have h := b.toNat_lt
  have h1 := Int.emod_nonneg ((b.toNat : Int) + y) (show (256 : Int) ≠ 0 by omega)
  have h2 := Int.emod_lt_of_pos ((b.toNat : Int) + y) (show (0 : Int) < 256 by omega)
  simp
  omega

set_option maxRecDepth 100000 in
set_option maxHeartbeats 8000000 in
theorem walk_SignChecksEverything (seed : List UInt8) (H I : Int) (m oth : List UInt8) (at_ by_ : Int) (w : World) (ht : Tabs w) (htr : TabsR w) (hs : seed.length ≤ 140737488351232) (hH : 0 ≤ H ∧ H ≤ 255) (hI : 0 ≤ I ∧ I ≤ 255) (hm : m.length ≤ 140737488351232) (ho : oth.length ≤ 140737488351232) (hat : 0 ≤ at_ ∧ at_ ≤ 65535) (hby : 0 ≤ by_ ∧ by_ ≤ 255) :
    Calls Tryd.prog 8 #[sv seed, .int .u8 H, .int .u8 I, sv m, sv oth, .int .u16 at_, .int .u8 by_] w (RetB w true) := by
  have HSAN := Lib.hid (fun w' (h : Tabs w') => sanity_any w' h)
  unfold sv
  by_cases h1 : seed.length ≤ 200
  · by_cases h2 : m.length ≤ 200
    · by_cases h3 : oth.length ≤ 200
      · obtain ⟨k, hk2, hk⟩ := u8_mod3 hH
        have hk6 : k ≤ 6 := by omega
        obtain ⟨i, hi, hie⟩ := u8_modc hI (two_pow_pos k)
        have hp0 := two_pow_pos k
        have h64 := two_pow_le hk6
        obtain ⟨k2, hk2lt, hk2e⟩ := u8_modc (I := (i : Int) + 1) (by omega) (two_pow_pos k)
        have hcd := countD_of hk6
        have hi64 : i < 64 := by omega
        have hk64 : k2 < 64 := by omega
        obtain ⟨r, hr⟩ : ∃ r, r = restD seed k i (messageD (valueD seed k 0) i m) := ⟨_, rfl⟩
        have hrl : r.length = 16 * (35 + k) := by rw [hr]; exact restD_len _ _ _ _
        have hSr : signD seed k i m = enc i ++ r := by rw [hr]; rfl
        obtain ⟨b0, hb0⟩ : ∃ b, enc (i : Int) = [b] := ⟨_, enc_small hi64⟩
        have HCN := Lib.hid (fun w' => refCount_any k w')
        rw [hcd] at HCN
        have HPU := Lib.hid (fun w' (h' : Tabs w') => public_any seed k w' h' (by omega))
        have HSG := Lib.hid (fun w' (h' : Tabs w') => sign_any seed k i m w' h' (by omega) (by omega))
        have hpd : publicD seed k = (valueD seed k 0, 0) := by unfold publicD; rw [if_neg (by omega), Int.toNat_natCast]
        have hmd : makeD seed k i m = (signD seed k i m, 0) := by unfold makeD; rw [if_neg (by omega), if_neg (by omega), Int.toNat_natCast, Int.toNat_natCast]
        rw [hpd] at HPU
        rw [hmd, hSr, hb0] at HSG
        have hPKl := valueD_len seed k 0
        clear hpd hmd hSr hr hcd
        generalize valueD seed k 0 = PK at *
        have hse : (enc (k2 : Int)).length = 1 := by rw [enc_small hk64]; rfl
        -- the three answers
        have HV1 := Lib.hid (fun w' (h' : Tabs w') => verify_any PK k oth ([b0] ++ r) w' h' hPKl (by omega) (by rw [List.length_append, hrl]; simp; omega))
        have a1 := verify_acc PK (k := k) (i := i) oth r hk6 hi hrl
        rw [hb0] at a1
        have HV2 := Lib.hid (fun w' (h' : Tabs w') => verify_any PK k m (enc (k2 : Int) ++ r) w' h' hPKl (by omega) (by rw [List.length_append, hrl, hse]; omega))
        have a2 := verify_acc PK (k := k) (i := k2) m r hk6 hk2lt hrl
        obtain ⟨n, hn1, hnl, hne⟩ : ∃ n : Nat, 1 ≤ n ∧ n ≤ r.length ∧ 1 + at_ % ((r.length : Int)) = (n : Int) := by
          have e1 := Int.emod_nonneg at_ (show ((r.length : Nat) : Int) ≠ 0 by omega)
          have e2 := Int.emod_lt_of_pos at_ (show (0 : Int) < ((r.length : Nat) : Int) by omega)
          exact ⟨(1 + at_ % ((r.length : Nat) : Int)).toNat, by omega, by omega, by omega⟩
        obtain ⟨bn, hbn⟩ : ∃ b, ([b0] ++ r)[n]? = some b := ⟨_, List.getElem?_eq_getElem (show n < ([b0] ++ r).length by rw [List.length_append]; simp; omega)⟩
        obtain ⟨x, hx⟩ := u8_bc bn by_ hby
        have hsb := set_behind b0 r n x hn1
        obtain ⟨r2, hr2⟩ : ∃ r2, r2 = r.set (n - 1) x := ⟨_, rfl⟩
        have hr2l : r2.length = 16 * (35 + k) := by rw [hr2, List.length_set, hrl]
        rw [← hr2] at hsb
        have HV3 := Lib.hid (fun w' (h' : Tabs w') => verify_any PK k m ([b0] ++ r2) w' h' hPKl (by omega) (by rw [List.length_append, hr2l]; simp; omega))
        have a3 := verify_acc PK (k := k) (i := i) m r2 hk6 hi hr2l
        rw [hb0] at a3
        have HR1 := Lib.hid (fun w' (h' : TabsR w') => refRoot_any PK k i oth r w' h' hPKl (by omega) hk6 hi64 (by omega) (by omega))
        have HR2 := Lib.hid (fun w' (h' : TabsR w') => refRoot_any PK k k2 m r w' h' hPKl (by omega) hk6 hk64 (by omega) (by omega))
        have HR3 := Lib.hid (fun w' (h' : TabsR w') => refRoot_any PK k i m r2 w' h' hPKl (by omega) hk6 hi64 (by omega) (by omega))
        have HRL1 := Lib.hid (rootD_len k i (messageD PK i oth) r)
        have HRL2 := Lib.hid (rootD_len k k2 (messageD PK k2 m) r)
        have HRL3 := Lib.hid (rootD_len k i (messageD PK i m) r2)
        have HQ1 : Hid ((rootD k i (messageD PK i oth) r == PK) = acc k i PK oth r) := Lib.hid rfl
        have HQ2 : Hid ((rootD k k2 (messageD PK k2 m) r == PK) = acc k k2 PK m r) := Lib.hid rfl
        have HQ3 : Hid ((rootD k i (messageD PK i m) r2 == PK) = acc k i PK m r2) := Lib.hid rfl
        unfold verifyV sv at HV1 HV2 HV3
        unfold sv at HR1 HR2 HR3
        unfold pairV sv at HPU
        unfold textV sv at HSG
        have hy1 := Lib.hid a1
        have hy2 := Lib.hid a2
        have hy3 := Lib.hid a3
        clear a1 a2 a3 hr2
        generalize acc k i PK oth r = q1 at *
        generalize acc k k2 PK m r = q2 at *
        generalize acc k i PK m r2 = q3 at *
        generalize rootD k i (messageD PK i oth) r = R1 at *
        generalize rootD k k2 (messageD PK k2 m) r = R2 at *
        generalize rootD k i (messageD PK i m) r2 = R3 at *
        generalize verifyD PK k oth ([b0] ++ r) = v1 at *
        generalize verifyD PK k m (enc (k2 : Int) ++ r) = v2 at *
        generalize verifyD PK k m ([b0] ++ r2) = v3 at *
        obtain ⟨x1, y1⟩ := v1
        obtain ⟨x2, y2⟩ := v2
        obtain ⟨x3, y3⟩ := v3
        have HIN := Lib.hid (fun w' => refInt_any (k2 : Int) w' (by omega) (by omega))
        have HKB := Lib.hid (show (bcs PK).length = 16 by rw [bcs_length]; exact hPKl)
        have HK16 := Lib.hid hPKl
        have HK := Lib.hid hk
        have HIE := Lib.hid hie
        generalize 2 ^ k = c at *
        have hk2t : (wrap64 ((i : Int) + 1)).tmod (c : Int) = (k2 : Int) := next_mod hi64 hk2e
        have HK2E := Lib.hid hk2t
        have HSE := Lib.hid hse
        have HNE := Lib.hid hne
        have HSB := Lib.hid hsb
        have HX := Lib.hid hx
        have HBN := Lib.hid hbn
        have hrl1 : 560 ≤ r.length := by omega
        have hrl2 : r.length ≤ 1000 := by omega
        have hr2l2 : r2.length ≤ 1000 := by omega
        have HR2L := Lib.hid (show r2.length = r.length by omega)
        obtain ⟨S, hS⟩ : ∃ S, S = [b0] ++ r := ⟨_, rfl⟩
        have hSl : S.length = r.length + 1 := by rw [hS]; simp
        have hSd : S.drop 1 = r := by rw [hS]; rfl
        rw [← hS] at HSG HV1 HSB HBN
        have HSD := Lib.hid hSd
        have HSL := Lib.hid hSl
        have hS1 : 561 ≤ S.length := by omega
        have hS2 : S.length ≤ 1001 := by omega
        have hnS : n < S.length := by omega
        obtain ⟨S2, hS2e⟩ : ∃ S2, S2 = [b0] ++ r2 := ⟨_, rfl⟩
        rw [← hS2e] at HV3 HSB
        have HS2D := Lib.hid (show S2.drop 1 = r2 by rw [hS2e]; rfl)
        have HS2L := Lib.hid (show S2.length = S.length by rw [hS2e, hSl]; simp; omega)
        clear hk hie hk2e hk2t hse hne hsb hx hbn hS hSl hSd hS2e hPKl hb0 hrl hr2l
        go_enter Tryd.func8, Tryd.ntmps8
        go_wp2_with fail
        have hc := HSAN.out w ht
        refine hc.mono ?_
        rintro e w1 ⟨rfl, hb⟩
        clear hc HSAN
        go_wp2_with fail
        rw [HK.out]
        have hc := HCN.out w1
        refine hc.mono ?_
        rintro e w2 ⟨rfl, rfl⟩
        clear hc
        go_wp2_with fail
        rw [HIE.out]
        have hc := HCN.out w2
        refine hc.mono ?_
        rintro e w2' ⟨rfl, rfl⟩
        clear hc HCN
        go_wp2_with fail
        rw [HK2E.out]
        have hc := HPU.out w2' (ht.below hb ht.size)
        refine hc.mono ?_
        rintro e w3 ⟨rfl, b3⟩
        replace hb := hb.trans (b3.mono hb.size)
        clear b3 hc HPU
        go_wp2_with (with_reducible refine alArr (z := zerosB 16) Tryd.ag_b16 (wn rfl) rfl ?_)
        intro w4 h19 b4
        have l19 : w.heap.size ≤ w3.heap.size := hb.size
        replace hb := hb.trans (b4.mono hb.size)
        clear b4
        generalize w3.heap.size = g19 at *
        go_wp2_with (with_reducible refine stArr (cs := bcs PK) (.tmp 19) (.tmp 67) Tryd.ag_b16 (wn rfl) rfl rfl rfl h19 (zerosB_len _) HKB.out (bcs_one _) ?_)
        intro w5 h19 _ hbel
        replace hb := hb.trans (hbel _ l19)
        clear hbel
        go_wp2_with fail
        have hc := HSG.out w5 (ht.below hb ht.size)
        refine hc.mono ?_
        rintro e w6 ⟨rfl, b6⟩
        replace h19 := h19.below b6 h19.lt
        replace hb := hb.trans (b6.mono hb.size)
        clear b6 hc HSG
        go_wp2_with (with_reducible refine ldArr (.tmp 19) Tryd.ag_b16 (wn rfl) rfl rfl HKB.out h19 ?_)
        have hc := HV1.out w6 (ht.below hb ht.size)
        refine hc.mono ?_
        rintro e w7 ⟨rfl, b7⟩
        replace h19 := h19.below b7 h19.lt
        replace hb := hb.trans (b7.mono hb.size)
        clear b7 hc HV1
        go_wp2_with fail
        refine rgStart (fun w' => Below w7.heap.size w7 w') (by kernel_rfl) ?_
        have hq : Below w7.heap.size w7 w7.drew := (Below.refl _ _).drew
        generalize w7.drew = wq at *
        refine rgTake (S := fun w' => Below w7.heap.size w7 w') (i := 0) (v := .int .i64 (k2 : Int)) rfl (by kernel_rfl) (by kernel_rfl) (fun _ _ _ h => h) (fun w _ => by kernel_rfl) hq ?_
        refine rgTake (S := fun w' => Below w7.heap.size w7 w') (i := 3) (v := .string ⟨S.toArray⟩) rfl (by kernel_rfl) (by kernel_rfl) (fun _ _ _ h => h) (fun w _ => by kernel_rfl) hq ?_
        refine rgTake (S := fun w' => Below w7.heap.size w7 w') (i := 4) (v := .string ⟨(S.drop 1).toArray⟩) rfl (by kernel_rfl) (by kernel_rfl) (fun _ _ _ h => h) (fun w _ => slStrLRun (kl := .i64) (L := 1) (.tmp 95) (.const (.int .i64 1)) S 1 rfl (by kernel_rfl) rfl rfl (by omega) Tryd.und_str) hq ?_
        rw [HSD.out]
        refine rgNext (S := fun w' => Below w7.heap.size w7 w') (i := 1) (by kernel_rfl) rfl ?_
        refine callOp 24 [.int .i64 (k2 : Int)] [] [] (by kernel_rfl) (by kernel_rfl) rfl rfl (by kernel_rfl) ?_
        refine (HIN.out _).mono ?_
        rintro e wi hret
        obtain ⟨Ai, ci, rfl, _, hrdi, hbq⟩ := hret.open
        refine ⟨_, rfl, ?_⟩
        replace hq := hq.trans (hbq.mono hq.size)
        clear hbq hret
        refine rgBack hq ?_
        refine rgNext (S := fun w' => Below w7.heap.size w7 w') (i := 2) (by kernel_rfl) rfl ?_
        refine convStr (.tmp 93) (enc (k2 : Int)) Tryd.sl_u8.und Tryd.und_u8 Tryd.und_str (by kernel_rfl) rfl (by kernel_rfl) hrdi ?_
        refine rgBack hq ?_
        refine rgNext (S := fun w' => Below w7.heap.size w7 w') (i := 5) (by kernel_rfl) rfl ?_
        refine addStrOp (.tmp 94) (.tmp 96) (enc (k2 : Int)) r (by kernel_rfl) rfl (by kernel_rfl) (by kernel_rfl) (by rw [HSE.out]; omega) (by omega) ?_
        refine rgBack hq ?_
        refine rgTake (S := fun w' => Below w7.heap.size w7 w') (i := 6) (v := .string ⟨(enc (k2 : Int) ++ r).toArray⟩) rfl (by kernel_rfl) (by kernel_rfl) (fun _ _ _ h => h) (fun w _ => by kernel_rfl) hq ?_
        refine rgDone (by kernel_rfl) ?_
        simp only [Act.put, List.setIfInBounds_toArray, List.set_cons_succ, List.set_cons_zero]
        replace h19 := h19.below hq h19.lt
        replace hb := hb.trans (hq.mono hb.size)
        clear hq hrdi
        generalize enc (k2 : Int) ++ r = MV at *
        go_wp2_with (with_reducible refine ldArr (.tmp 19) Tryd.ag_b16 (wn rfl) rfl rfl HKB.out h19 ?_)
        have hc := HV2.out wi (ht.below hb ht.size)
        refine hc.mono ?_
        rintro e w8 ⟨rfl, b8⟩
        replace h19 := h19.below b8 h19.lt
        replace hb := hb.trans (b8.mono hb.size)
        clear b8 hc HV2
        go_wp2_with (with_reducible refine convBsW (.tmp 106) S Tryd.und_str Tryd.sl_u8.und Tryd.und_u8 (wn rfl) rfl rfl (by omega) ?_)
        intro c28 w9 h28 hc28 hc28m b9
        have l28 : w.heap.size ≤ w8.heap.size := hb.size
        have n19 := h19.lt
        replace h19 := h19.below b9 n19
        replace hb := hb.trans (b9.mono hb.size)
        clear b9
        generalize w8.heap.size = g28 at *
        have hn19 : g28 ≠ g19 := by omega
        have hne2 := HNE.out
        have hsl2 := HSL.out
        have hrlS : (S.length : Int) - 1 = (r.length : Int) := by omega
        have HRLS := Lib.hid hrlS
        have cn := h28.cell (j := n) (u := .int .u8 (bn.toNat : Int)) (bcs_get HBN.out)
        have fn := h28.thaw hnS
        have bnl := bn.toNat_lt
        unfold maxLen at hc28m
        clear hne2 hsl2 hrlS
        go_upto_region 16 with (fail)
        have h29 : wrap64 (1 + at_ % ((S.length : Int) - 1)) = (n : Int) := by
          rw [HRLS.out, HNE.out]
          exact wrap64_nat (by omega)
        rw [h29]
        clear h29
        go_upto_region 17 with (first | (with_reducible refine iaRow (kk := .i64) (b := g28) (off := 0) (n := S.length) (c := c28) (K := (n : Int)) (.tmp 117) (.tmp 118) n Tryd.sl_u8 (wn rfl) rfl rfl rfl rfl hnS ?_) | (with_reducible refine iaRow (kk := .i64) (b := g28) (off := 0) (n := S.length) (c := c28) (K := (n : Int)) (.tmp 115) (.tmp 116) n Tryd.sl_u8 (wn rfl) rfl rfl rfl rfl hnS ?_) | (with_reducible refine ldOne (v := .int .u8 (bn.toNat : Int)) (.tmp 119) (by kernel_rfl) (wn rfl) rfl rfl (by rw [Nat.zero_add, Nat.mul_one]; exact cn) ?_))
        rw [HX.out]
        have hset : Below g28 w9 (w9.setCell ⟨g28, n, none⟩ (bc x)) := below_setCell (Nat.le_refl _)
        have h28b := h28.set hnS x
        rw [HSB.out] at h28b
        replace h19 := h19.below hset n19
        replace hb := hb.trans (hset.mono l28)
        clear h28 cn fn hset HX HSB HBN HNE HRLS
        generalize w9.setCell ⟨g28, n, none⟩ (bc x) = w10 at *
        have hrd : Rd w10 (g28 + 1) 1 (some ⟨g28, 0, none⟩) S.length c28 (bcs S2) := by
          have := h28b.rd (c := c28) (by rw [HS2L.out]; exact hc28) (by unfold maxLen; exact hc28m) (Nat.lt_succ_self g28)
          rw [HS2L.out] at this
          exact this
        go_wp2_with (first | (with_reducible refine ldArr (.tmp 19) Tryd.ag_b16 (wn rfl) rfl rfl HKB.out h19 ?_) | (with_reducible refine convStr (.tmp 128) S2 Tryd.sl_u8.und Tryd.und_u8 Tryd.und_str (wn rfl) rfl rfl hrd ?_))
        have hc := HV3.out w10 (ht.below hb ht.size)
        refine hc.mono ?_
        rintro e w11 ⟨rfl, b11⟩
        have n28 := h28b.lt
        replace h19 := h19.below b11 h19.lt
        replace h28b := h28b.below b11 n28
        replace hb := hb.trans (b11.mono hb.size)
        clear b11 hc HV3 hrd n28
        go_wp2_with fail
        refine rgStart (fun w' => Below w11.heap.size w11 w') (by kernel_rfl) ?_
        have hq : Below w11.heap.size w11 w11.drew := (Below.refl _ _).drew
        generalize w11.drew = wq at *
        refine rgLoad (S := fun w' => Below w11.heap.size w11 w') (i := 0) (b := g19) (off := 0) (.tmp 19) (bcs PK) Tryd.ag_b16 rfl (by kernel_rfl) (by kernel_rfl) (fun _ _ _ h => h) rfl (by kernel_rfl) HKB.out (fun w' h j u hu => by rw [Nat.zero_add]; exact (h19.below h h19.lt).cell hu) hq ?_
        refine rgTake (S := fun w' => Below w11.heap.size w11 w') (i := 1) (v := .int .i64 (k : Int)) rfl (by kernel_rfl) (by kernel_rfl) (fun _ _ _ h => h) (fun w _ => by kernel_rfl) hq ?_
        refine rgTake (S := fun w' => Below w11.heap.size w11 w') (i := 2) (v := .int .i64 (i : Int)) rfl (by kernel_rfl) (by kernel_rfl) (fun _ _ _ h => h) (fun w _ => by kernel_rfl) hq ?_
        refine rgTake (S := fun w' => Below w11.heap.size w11 w') (i := 3) (v := .string ⟨oth.toArray⟩) rfl (by kernel_rfl) (by kernel_rfl) (fun _ _ _ h => h) (fun w _ => by kernel_rfl) hq ?_
        refine rgTake (S := fun w' => Below w11.heap.size w11 w') (i := 4) (v := .string ⟨S.toArray⟩) rfl (by kernel_rfl) (by kernel_rfl) (fun _ _ _ h => h) (fun w _ => by kernel_rfl) hq ?_
        refine rgTake (S := fun w' => Below w11.heap.size w11 w') (i := 5) (v := .string ⟨(S.drop 1).toArray⟩) rfl (by kernel_rfl) (by kernel_rfl) (fun _ _ _ h => h) (fun w _ => slStrLRun (kl := .i64) (L := 1) (.tmp 137) (.const (.int .i64 1)) S 1 rfl (by kernel_rfl) rfl rfl (by omega) Tryd.und_str) hq ?_
        rw [HSD.out]
        refine rgLoad (S := fun w' => Below w11.heap.size w11 w') (i := 7) (b := g19) (off := 0) (.tmp 19) (bcs PK) Tryd.ag_b16 rfl (by kernel_rfl) (by kernel_rfl) (fun _ _ _ h => h) rfl (by kernel_rfl) HKB.out (fun w' h j u hu => by rw [Nat.zero_add]; exact (h19.below h h19.lt).cell hu) hq ?_
        refine rgNext (S := fun w' => Below w11.heap.size w11 w') (i := 6) (by kernel_rfl) rfl ?_
        simp only [Act.put, List.setIfInBounds_toArray, List.set_cons_succ, List.set_cons_zero]
        refine callOp 25 [.agg (bcs PK).toArray, .int .i64 (k : Int), .int .i64 (i : Int), .string ⟨oth.toArray⟩, .string ⟨r.toArray⟩] [] [] (by kernel_rfl) (by kernel_rfl) rfl (by kernel_rfl) (by kernel_rfl) ?_
        refine (HR1.out _ (htr.below (hb.trans (hq.mono hb.size)) htr.size)).mono ?_
        rintro e wq1 ⟨rfl, hbq⟩
        refine ⟨_, rfl, ?_⟩
        replace hq := hq.trans (hbq.mono hq.size)
        clear hbq
        refine rgBack hq ?_
        refine rgNext (S := fun w' => Below w11.heap.size w11 w') (i := 8) (by kernel_rfl) rfl ?_
        refine eqBytes (.tmp 139) (.tmp 140) R1 PK q1 Tryd.arr_b16 Tryd.und_u8 Tryd.one_u8 (by kernel_rfl) (by kernel_rfl) rfl (by kernel_rfl) (by kernel_rfl) HRL1.out HK16.out HQ1.out ?_
        refine rgBack hq ?_
        refine rgTake (S := fun w' => Below w11.heap.size w11 w') (i := 9) (v := .bool q1) rfl (by kernel_rfl) (by kernel_rfl) (fun _ _ _ h => h) (fun w _ => by kernel_rfl) hq ?_
        refine rgDone (by kernel_rfl) ?_
        simp only [Act.put, List.setIfInBounds_toArray, List.set_cons_succ, List.set_cons_zero]
        replace h19 := h19.below hq h19.lt
        replace h28b := h28b.below hq h28b.lt
        replace hb := hb.trans (hq.mono hb.size)
        clear hq HR1 HRL1 HQ1
        generalize hww : wq1 = w12 at *
        clear hww
        go_wp2_with fail
        refine rgStart (fun w' => Below w12.heap.size w12 w') (by kernel_rfl) ?_
        have hq : Below w12.heap.size w12 w12.drew := (Below.refl _ _).drew
        generalize w12.drew = wq at *
        refine rgLoad (S := fun w' => Below w12.heap.size w12 w') (i := 0) (b := g19) (off := 0) (.tmp 19) (bcs PK) Tryd.ag_b16 rfl (by kernel_rfl) (by kernel_rfl) (fun _ _ _ h => h) rfl (by kernel_rfl) HKB.out (fun w' h j u hu => by rw [Nat.zero_add]; exact (h19.below h h19.lt).cell hu) hq ?_
        refine rgTake (S := fun w' => Below w12.heap.size w12 w') (i := 1) (v := .int .i64 (k : Int)) rfl (by kernel_rfl) (by kernel_rfl) (fun _ _ _ h => h) (fun w _ => by kernel_rfl) hq ?_
        refine rgTake (S := fun w' => Below w12.heap.size w12 w') (i := 2) (v := .int .i64 (k2 : Int)) rfl (by kernel_rfl) (by kernel_rfl) (fun _ _ _ h => h) (fun w _ => by kernel_rfl) hq ?_
        refine rgTake (S := fun w' => Below w12.heap.size w12 w') (i := 3) (v := .string ⟨m.toArray⟩) rfl (by kernel_rfl) (by kernel_rfl) (fun _ _ _ h => h) (fun w _ => by kernel_rfl) hq ?_
        refine rgTake (S := fun w' => Below w12.heap.size w12 w') (i := 4) (v := .string ⟨S.toArray⟩) rfl (by kernel_rfl) (by kernel_rfl) (fun _ _ _ h => h) (fun w _ => by kernel_rfl) hq ?_
        refine rgTake (S := fun w' => Below w12.heap.size w12 w') (i := 5) (v := .string ⟨(S.drop 1).toArray⟩) rfl (by kernel_rfl) (by kernel_rfl) (fun _ _ _ h => h) (fun w _ => slStrLRun (kl := .i64) (L := 1) (.tmp 146) (.const (.int .i64 1)) S 1 rfl (by kernel_rfl) rfl rfl (by omega) Tryd.und_str) hq ?_
        rw [HSD.out]
        refine rgLoad (S := fun w' => Below w12.heap.size w12 w') (i := 7) (b := g19) (off := 0) (.tmp 19) (bcs PK) Tryd.ag_b16 rfl (by kernel_rfl) (by kernel_rfl) (fun _ _ _ h => h) rfl (by kernel_rfl) HKB.out (fun w' h j u hu => by rw [Nat.zero_add]; exact (h19.below h h19.lt).cell hu) hq ?_
        refine rgNext (S := fun w' => Below w12.heap.size w12 w') (i := 6) (by kernel_rfl) rfl ?_
        simp only [Act.put, List.setIfInBounds_toArray, List.set_cons_succ, List.set_cons_zero]
        refine callOp 25 [.agg (bcs PK).toArray, .int .i64 (k : Int), .int .i64 (k2 : Int), .string ⟨m.toArray⟩, .string ⟨r.toArray⟩] [] [] (by kernel_rfl) (by kernel_rfl) rfl (by kernel_rfl) (by kernel_rfl) ?_
        refine (HR2.out _ (htr.below (hb.trans (hq.mono hb.size)) htr.size)).mono ?_
        rintro e wq1 ⟨rfl, hbq⟩
        refine ⟨_, rfl, ?_⟩
        replace hq := hq.trans (hbq.mono hq.size)
        clear hbq
        refine rgBack hq ?_
        refine rgNext (S := fun w' => Below w12.heap.size w12 w') (i := 8) (by kernel_rfl) rfl ?_
        refine eqBytes (.tmp 148) (.tmp 149) R2 PK q2 Tryd.arr_b16 Tryd.und_u8 Tryd.one_u8 (by kernel_rfl) (by kernel_rfl) rfl (by kernel_rfl) (by kernel_rfl) HRL2.out HK16.out HQ2.out ?_
        refine rgBack hq ?_
        refine rgTake (S := fun w' => Below w12.heap.size w12 w') (i := 9) (v := .bool q2) rfl (by kernel_rfl) (by kernel_rfl) (fun _ _ _ h => h) (fun w _ => by kernel_rfl) hq ?_
        refine rgDone (by kernel_rfl) ?_
        simp only [Act.put, List.setIfInBounds_toArray, List.set_cons_succ, List.set_cons_zero]
        replace h19 := h19.below hq h19.lt
        replace h28b := h28b.below hq h28b.lt
        replace hb := hb.trans (hq.mono hb.size)
        clear hq HR2 HRL2 HQ2
        generalize hww : wq1 = w13 at *
        clear hww
        go_wp2_with fail
        refine rgStart (fun w' => Below w13.heap.size w13 w') (by kernel_rfl) ?_
        have hq : Below w13.heap.size w13 w13.drew := (Below.refl _ _).drew
        generalize w13.drew = wq at *
        have hrd : Rd wq (g28 + 1) 1 (some ⟨g28, 0, none⟩) S.length c28 (bcs S2) := by
          have := (h28b.below hq h28b.lt).rd (c := c28) (by rw [HS2L.out]; exact hc28) (by unfold maxLen; exact hc28m) (Nat.lt_succ_self g28)
          rw [HS2L.out] at this
          exact this
        refine rgLoad (S := fun w' => Below w13.heap.size w13 w') (i := 0) (b := g19) (off := 0) (.tmp 19) (bcs PK) Tryd.ag_b16 rfl (by kernel_rfl) (by kernel_rfl) (fun _ _ _ h => h) rfl (by kernel_rfl) HKB.out (fun w' h j u hu => by rw [Nat.zero_add]; exact (h19.below h h19.lt).cell hu) hq ?_
        refine rgTake (S := fun w' => Below w13.heap.size w13 w') (i := 1) (v := .int .i64 (k : Int)) rfl (by kernel_rfl) (by kernel_rfl) (fun _ _ _ h => h) (fun w _ => by kernel_rfl) hq ?_
        refine rgTake (S := fun w' => Below w13.heap.size w13 w') (i := 2) (v := .int .i64 (i : Int)) rfl (by kernel_rfl) (by kernel_rfl) (fun _ _ _ h => h) (fun w _ => by kernel_rfl) hq ?_
        refine rgTake (S := fun w' => Below w13.heap.size w13 w') (i := 3) (v := .string ⟨m.toArray⟩) rfl (by kernel_rfl) (by kernel_rfl) (fun _ _ _ h => h) (fun w _ => by kernel_rfl) hq ?_
        refine rgTake (S := fun w' => Below w13.heap.size w13 w') (i := 4) (v := .slice (some ⟨g28, 0, none⟩) S.length c28) rfl (by kernel_rfl) (by kernel_rfl) (fun _ _ _ h => h) (fun w _ => by kernel_rfl) hq ?_
        refine rgLoad (S := fun w' => Below w13.heap.size w13 w') (i := 8) (b := g19) (off := 0) (.tmp 19) (bcs PK) Tryd.ag_b16 rfl (by kernel_rfl) (by kernel_rfl) (fun _ _ _ h => h) rfl (by kernel_rfl) HKB.out (fun w' h j u hu => by rw [Nat.zero_add]; exact (h19.below h h19.lt).cell hu) hq ?_
        refine rgNext (S := fun w' => Below w13.heap.size w13 w') (i := 5) (by kernel_rfl) rfl ?_
        refine convStr (.tmp 155) S2 Tryd.sl_u8.und Tryd.und_u8 Tryd.und_str (by kernel_rfl) rfl (by kernel_rfl) hrd ?_
        refine rgBack hq ?_
        simp only [Act.put, List.setIfInBounds_toArray, List.set_cons_succ, List.set_cons_zero]
        refine rgTake (S := fun w' => Below w13.heap.size w13 w') (i := 6) (v := .string ⟨(S2.drop 1).toArray⟩) rfl (by kernel_rfl) (by kernel_rfl) (fun _ _ _ h => h) (fun w _ => slStrLRun (kl := .i64) (L := 1) (.tmp 156) (.const (.int .i64 1)) S2 1 rfl (by kernel_rfl) rfl rfl (by have := HS2L.out; omega) Tryd.und_str) hq ?_
        rw [HS2D.out]
        refine rgNext (S := fun w' => Below w13.heap.size w13 w') (i := 7) (by kernel_rfl) rfl ?_
        simp only [Act.put, List.setIfInBounds_toArray, List.set_cons_succ, List.set_cons_zero]
        refine callOp 25 [.agg (bcs PK).toArray, .int .i64 (k : Int), .int .i64 (i : Int), .string ⟨m.toArray⟩, .string ⟨r2.toArray⟩] [] [] (by kernel_rfl) (by kernel_rfl) rfl (by kernel_rfl) (by kernel_rfl) ?_
        refine (HR3.out _ (htr.below (hb.trans (hq.mono hb.size)) htr.size)).mono ?_
        rintro e wq1 ⟨rfl, hbq⟩
        refine ⟨_, rfl, ?_⟩
        replace hq := hq.trans (hbq.mono hq.size)
        clear hbq
        refine rgBack hq ?_
        refine rgNext (S := fun w' => Below w13.heap.size w13 w') (i := 9) (by kernel_rfl) rfl ?_
        refine eqBytes (.tmp 158) (.tmp 159) R3 PK q3 Tryd.arr_b16 Tryd.und_u8 Tryd.one_u8 (by kernel_rfl) (by kernel_rfl) rfl (by kernel_rfl) (by kernel_rfl) HRL3.out HK16.out HQ3.out ?_
        refine rgBack hq ?_
        refine rgTake (S := fun w' => Below w13.heap.size w13 w') (i := 10) (v := .bool q3) rfl (by kernel_rfl) (by kernel_rfl) (fun _ _ _ h => h) (fun w _ => by kernel_rfl) hq ?_
        refine rgDone (by kernel_rfl) ?_
        simp only [Act.put, List.setIfInBounds_toArray, List.set_cons_succ, List.set_cons_zero]
        replace h19 := h19.below hq h19.lt
        replace h28b := h28b.below hq h28b.lt
        replace hb := hb.trans (hq.mono hb.size)
        clear hq HR3 HRL3 HQ3 hrd
        generalize hww : wq1 = w14 at *
        clear hww
        have e1 : decide (y1 = 0) = q1 := by rw [← hy1.out]; rfl
        have e2 : decide (y2 = 0) = q2 := by rw [← hy2.out]; rfl
        have e3 : decide (y3 = 0) = q3 := by rw [← hy3.out]; rfl
        clear hy1 hy2 hy3
        go_wp2_with (first | (with_reducible refine eqBoolOp (B := q1) (.tmp 164) (.tmp 165) Tryd.und_bool (by kernel_rfl) rfl ((by kernel_rfl : _ = Value.bool (decide (y1 = 0))).trans (congrArg Value.bool e1)) (by kernel_rfl) ?_) | (with_reducible refine eqBoolOp (B := q2) (.tmp 170) (.tmp 171) Tryd.und_bool (by kernel_rfl) rfl ((by kernel_rfl : _ = Value.bool (decide (y2 = 0))).trans (congrArg Value.bool e2)) (by kernel_rfl) ?_) | (with_reducible refine eqBoolOp (B := q3) (.tmp 176) (.tmp 177) Tryd.und_bool (by kernel_rfl) rfl ((by kernel_rfl : _ = Value.bool (decide (y3 = 0))).trans (congrArg Value.bool e3)) (by kernel_rfl) ?_))
        go_ret
        exact ⟨rfl, hb⟩
      · have hdummy : True := trivial
        go_enter Tryd.func8, Tryd.ntmps8
        go_wp2_with fail
        have hc := HSAN.out w ht
        refine hc.mono ?_
        rintro e w1 ⟨rfl, hb⟩
        clear hc HSAN
        go_wp2_with fail
        go_ret
        exact ⟨rfl, hb⟩
    · have hdummy : True := trivial
      go_enter Tryd.func8, Tryd.ntmps8
      go_wp2_with fail
      have hc := HSAN.out w ht
      refine hc.mono ?_
      rintro e w1 ⟨rfl, hb⟩
      clear hc HSAN
      go_wp2_with fail
      go_ret
      exact ⟨rfl, hb⟩
  · have hdummy : True := trivial
    go_enter Tryd.func8, Tryd.ntmps8
    go_wp2_with fail
    have hc := HSAN.out w ht
    refine hc.mono ?_
    rintro e w1 ⟨rfl, hb⟩
    clear hc HSAN
    go_wp2_with fail
    go_ret
    exact ⟨rfl, hb⟩
end Go.Proofs.YtienlndjhcmemaaDoor

