/-
  The coder's sanity examples hold. No statement is proved here.
-/
import Derived.Test.YtpbebmbkcpdbeaaCoGood
import Derived.Outline
namespace Go.Proofs.Ytpbebmbkcpdbeaa
open Go.RowKit
set_option linter.unusedVariables false

def RetPair (w : World) (l : List UInt8) (n : Int) (e : Ending) (w' : World) : Prop := e = .returned (.tuple #[.string ⟨l.toArray⟩, .int .i64 n]) ∧ Below w.heap.size w w'
theorem encode_at {prior data l : List UInt8} {n : Int} (h : coEncode prior data = (l, n)) (hp : prior.length ≤ 140737488351232) (hd : data.length ≤ 140737488351232) (w : World) :
    Calls Try.prog 12 #[.string ⟨prior.toArray⟩, .string ⟨data.toArray⟩] w (RetPair w l n) := by
  have h1 := encode_any prior data hp hd w
  rw [h] at h1
  exact h1
theorem decode_at {prior text l : List UInt8} {n : Int} (h : coDec prior text = (l, n)) (hp : prior.length ≤ 140737488351232) (hd : text.length ≤ 140737488351232) (w : World) :
    Calls Try.prog 15 #[.string ⟨prior.toArray⟩, .string ⟨text.toArray⟩] w (RetPair w l n) := by
  have h1 := decodeText_any prior text hp hd w
  rw [h] at h1
  exact h1
/-- An element of an array of integers by value. -/
theorem ixArr {P : Program} {w : World} {ops : Array Oper} {rest : List Oper} {o : Oper} {a : Act} {Q : Exit → Act → World → Prop} {t e : TypeId} {n : Nat} {k2 : IntKind} {cs : List Value} {kk : IntKind} {K : Int} (x y : Operand) (i : Nat) (v : Value)
    (hu : P.underlying t = some (.array n e)) (hue : P.underlying e = some (.int k2)) (he : (P.info? e).map (·.size) = some 1) (hgd : Region.wanted o (yielded ops a.tmps) = true)
    (ho : o.op = .index t x y) (hx : a.eval x = .agg cs.toArray) (hy : a.eval y = .int kk K) (hK : K = (i : Int)) (hv : cs[i]? = some v) (hl : cs.length = n)
    (h : wpList P ops Q rest (a.put o.dst v) w) : wpList P ops Q (o :: rest) a w := by
  subst hK
  obtain ⟨j, hj, hs⟩ := Option.map_eq_some_iff.1 he
  have hlt : i < n := by rw [← hl]; exact (List.getElem?_eq_some_iff.1 hv).1
  refine opVal (v := v) hgd ?_ h
  unfold execOp
  have hp : (Go.part e cs.toArray i).run P w = .ok v w := by
    unfold Go.part
    have ha : (isAgg e).run P w = .ok false w := by
      unfold isAgg
      rw [Sem.run_bind, run_underlying hue w]
      rfl
    simp [ha, hv]
  simp [ho, hx, hy, Instr.index, asIntOf, run_underlying hu, sizeOf, typeInfo, hj, hs, hlt, hp]
def RetT (w : World) (e : Ending) (w' : World) : Prop := e = .returned (.bool true) ∧ Below w.heap.size w w'

set_option maxRecDepth 100000 in
set_option maxHeartbeats 4000000 in
theorem sanity_any (w : World) : Calls Try.prog 11 #[] w (RetT w) := by
  have HN := Lib.hid (fun w => encode_at sn_none (by decide) (by decide) w)
  have HA := Lib.hid (fun w => encode_at sn_a (by decide) (by decide) w)
  obtain ⟨EL, nl, hEL⟩ : ∃ EL nl, coEncode [] coHundred = (EL, nl) := ⟨_, _, rfl⟩
  have hl := sn_long
  rw [hEL] at hl
  obtain ⟨hl1, hl2⟩ := hl
  simp only at hl1 hl2
  subst hl2
  have HLO := Lib.hid (fun w => encode_at hEL (by decide) (by rw [coHundred_len]; omega) w)
  obtain ⟨EP, np, hEP⟩ : ∃ EP np, coEncode coThousand coHundred = (EP, np) := ⟨_, _, rfl⟩
  have hs := sn_short
  have hbk := sn_back
  rw [hEP] at hs hbk
  obtain ⟨hs1, hs2⟩ := hs
  simp only at hs1 hs2 hbk
  subst hs2
  have HSH := Lib.hid (fun w => encode_at hEP (by rw [coThousand_len]; omega) (by rw [coHundred_len]; omega) w)
  have HBK := Lib.hid (fun w => decode_at hbk (by rw [coThousand_len]; omega) (by omega) w)
  have HJ := Lib.hid (fun w => decode_at sn_trunc (by decide) (by decide) w)
  have HK := Lib.hid (fun w => decode_at sn_limit (by decide) (by decide) w)
  have HB := Lib.hid (fun w => decode_at sn_bad (by decide) (by decide) w)
  have HT1 := Lib.hid (fun w => times_any [97] 100 (by decide) (by decide) w)
  rw [coHundred_flat] at HT1
  have HT2 := Lib.hid (fun w => times_any coHundred 10 (by rw [coHundred_len]; omega) (by decide) w)
  rw [show coFlat coHundred 10 = coThousand from rfl] at HT2
  have hhl := coHundred_len
  have htl := coThousand_len
  clear hEL hEP hbk
  generalize coHundred = H at *
  generalize coThousand = TH at *
  go_enter Try.func11, Try.ntmps11
  go_wp2_with fail
  refine (new_any w).mono ?_
  rintro e w1 ⟨rfl, b1⟩
  go_wp2_with (with_reducible refine alArr (z := mcs coZero) Try.ag_m (wn rfl) rfl ?_)
  intro w2 h1 b2
  have l1 := h1.lt
  have ls : w.heap.size ≤ w1.heap.size := b1.size
  have hb := b1.trans (b2.mono ls)
  clear b1 b2
  have HL := Lib.hid (show (mcs coNew).length = 256 by rw [mcs_length]; exact coNew_len)
  go_wp2_with (with_reducible refine stArrG (cs := mcs coNew) (.tmp 1) (.tmp 22) Try.ag_m (wn rfl) rfl rfl rfl h1 (by kernel_rfl) HL.out (mcs_one _) ?_)
  intro w3 h1 hgr
  replace hb := hb.grown hgr hb.size (fun k e => by cases e; exact ls)
  clear hgr l1
  generalize w1.heap.size = g1 at *
  go_wp2_with fail
  refine (refInt_any 1 _ (by decide) (by decide)).mono ?_
  rintro e w4 hret
  obtain ⟨A, c, rfl, _, hrd, b4⟩ := hret.open
  clear hret
  replace h1 := h1.below b4 h1.lt
  replace hb := hb.trans (b4.mono hb.size)
  clear b4
  go_wp2_with (with_reducible refine convStr (.tmp 23) (enc 1) Try.sl_u8.und Try.und_u8 Try.und_str (wn rfl) rfl rfl hrd ?_)
  clear hrd
  refine (HN.out _).mono ?_
  rintro e w4 ⟨rfl, b4⟩
  replace h1 := h1.below b4 h1.lt
  replace hb := hb.trans (b4.mono hb.size)
  clear b4
  go_wp2_with fail
  refine (HA.out _).mono ?_
  rintro e w4 ⟨rfl, b4⟩
  replace h1 := h1.below b4 h1.lt
  replace hb := hb.trans (b4.mono hb.size)
  clear b4
  go_wp2_with fail
  refine (HT1.out _).mono ?_
  rintro e w4 ⟨rfl, rfl⟩
  go_wp2_with fail
  refine (HLO.out _).mono ?_
  rintro e w4 ⟨rfl, b4⟩
  replace h1 := h1.below b4 h1.lt
  replace hb := hb.trans (b4.mono hb.size)
  clear b4
  go_wp2_with fail
  refine (HT2.out _).mono ?_
  rintro e w4 ⟨rfl, rfl⟩
  go_wp2_with fail
  refine (HSH.out _).mono ?_
  rintro e w4 ⟨rfl, b4⟩
  replace h1 := h1.below b4 h1.lt
  replace hb := hb.trans (b4.mono hb.size)
  clear b4
  go_wp2_with fail
  refine (HT2.out _).mono ?_
  rintro e w4 ⟨rfl, rfl⟩
  go_wp2_with fail
  refine (HBK.out _).mono ?_
  rintro e w4 ⟨rfl, b4⟩
  replace h1 := h1.below b4 h1.lt
  replace hb := hb.trans (b4.mono hb.size)
  clear b4
  go_wp2_with fail
  refine (HJ.out _).mono ?_
  rintro e w4 ⟨rfl, b4⟩
  replace h1 := h1.below b4 h1.lt
  replace hb := hb.trans (b4.mono hb.size)
  clear b4
  go_wp2_with fail
  refine (refInt_any (-1) _ (by decide) (by decide)).mono ?_
  rintro e w4 hret
  obtain ⟨A, c, rfl, _, hrd, b4⟩ := hret.open
  clear hret
  replace h1 := h1.below b4 h1.lt
  replace hb := hb.trans (b4.mono hb.size)
  clear b4
  go_wp2_with (with_reducible refine convStr (.tmp 59) (enc (-1)) Try.sl_u8.und Try.und_u8 Try.und_str (wn rfl) rfl rfl hrd ?_)
  clear hrd
  refine (HK.out _).mono ?_
  rintro e w4 ⟨rfl, b4⟩
  replace h1 := h1.below b4 h1.lt
  replace hb := hb.trans (b4.mono hb.size)
  clear b4
  go_wp2_with fail
  rw [show (⟨(enc 1).toArray⟩ : ByteArray) ++ ⟨#[2, 97]⟩ = ⟨(enc 1 ++ [2, 97]).toArray⟩ from cat_two _ _]
  refine (HB.out _).mono ?_
  rintro e w4 ⟨rfl, b4⟩
  replace h1 := h1.below b4 h1.lt
  replace hb := hb.trans (b4.mono hb.size)
  clear b4
  obtain ⟨u0, u1, u255, u255t, u0t⟩ := sn_up
  have m0 := h1.cell (mcs_get (m := coNew) (c := 0) (by decide))
  have m1 := h1.cell (mcs_get (m := coNew) (c := 1) (by decide))
  have m255 := h1.cell (mcs_get (m := coNew) (c := 255) (by decide))
  rw [u0] at m0
  rw [u1] at m1
  rw [u255] at m255
  have q255 := mcs_get (m := coTrain coNew (coAll [255])) (c := 1) (by rw [(coTrain_good coNew_good (coAll_ok _)).len]; decide)
  have n255 : (mcs (coTrain coNew (coAll [255]))).length = 256 := by rw [mcs_length]; exact (coTrain_good coNew_good (coAll_ok _)).len
  have n0 : (mcs (coTrain coNew (coAll [0]))).length = 256 := by rw [mcs_length]; exact (coTrain_good coNew_good (coAll_ok _)).len
  have HN255 := Lib.hid n255
  have HN0 := Lib.hid n0
  clear n255 n0
  have q0 := mcs_get (m := coTrain coNew (coAll [0])) (c := 1) (by rw [(coTrain_good coNew_good (coAll_ok _)).len]; decide)
  rw [u255t] at q255
  rw [u0t] at q0
  clear u0 u1 u255 u255t u0t
  have HTU := Lib.hid (fun w => train_any coNew coNew_good [255] (by decide) w)
  have HTD := Lib.hid (fun w => train_any coNew coNew_good [0] (by decide) w)
  generalize coTrain coNew (coAll [255]) = M255 at *
  generalize coTrain coNew (coAll [0]) = M0 at *
  go_wp2_with (with_reducible refine ldArr (.tmp 1) Try.ag_m (by kernel_rfl) rfl rfl HL.out h1 ?_)
  refine (HTU.out _).mono ?_
  rintro e w4 ⟨rfl, b4⟩
  replace h1 := h1.below b4 h1.lt
  replace hb := hb.trans (b4.mono hb.size)
  clear b4
  go_wp2_with (first | (with_reducible refine ldArr (.tmp 1) Try.ag_m (by kernel_rfl) rfl rfl HL.out h1 ?_) | (with_reducible refine ixArr (.tmp 85) (.const (.int .i64 1)) 1 _ Try.und_m Try.und_int Try.one_int (by kernel_rfl) rfl rfl rfl rfl q255 HN255.out ?_))
  refine (HTD.out _).mono ?_
  rintro e w4 ⟨rfl, b4⟩
  replace h1 := h1.below b4 h1.lt
  replace hb := hb.trans (b4.mono hb.size)
  clear b4
  go_wp2_with (with_reducible refine ixArr (.tmp 91) (.const (.int .i64 1)) 1 _ Try.und_m Try.und_int Try.one_int (by kernel_rfl) rfl rfl rfl rfl q0 HN0.out ?_)
  refine (refInt_any 0 _ (by decide) (by decide)).mono ?_
  rintro e w4 hret
  obtain ⟨A, c, rfl, _, hrd, b4⟩ := hret.open
  clear hret
  replace hb := hb.trans (b4.mono hb.size)
  clear b4 h1 m0 m1 m255 q0 q255
  have hc0 : (⟨(enc 0).toArray⟩ : ByteArray) ++ ⟨#[0]⟩ = ⟨(enc 0 ++ [0]).toArray⟩ := cat_two _ _
  have hc1 : (⟨(enc 1).toArray⟩ : ByteArray) ++ ⟨#[0, 97]⟩ = ⟨(enc 1 ++ [0, 97]).toArray⟩ := cat_two _ _
  generalize enc 0 ++ [0] = E0 at *
  generalize enc 1 ++ [0, 97] = E1 at *
  have hel0 := enc_len 0
  have hel1 := enc_len 1
  generalize enc 0 = X0 at *
  generalize enc 1 = X1 at *
  go_wp2_with (with_reducible refine convStr (.tmp 96) X0 Try.sl_u8.und Try.und_u8 Try.und_str (wn rfl) rfl rfl hrd ?_)
  go_ret
  exact ⟨rfl, hb⟩
end Go.Proofs.Ytpbebmbkcpdbeaa
