/-
  SignDigitsCross answers true, for any two digests.
-/
import Derived.Test.YtienlndjhcmemaaDoorMH
namespace Go.Proofs.YtienlndjhcmemaaDoor
open Go.RowKit
set_option linter.unusedVariables false

def lessB (a b : List UInt8) (k : Nat) : Bool := (List.range k).any fun i => decide (digAt a i < digAt b i)
theorem lessB_next (a b : List UInt8) (k : Nat) : lessB a b (k + 1) = (lessB a b k || decide (digAt a k < digAt b k)) := by
  unfold lessB
  rw [List.range_succ, List.any_append]
  simp
theorem digAt_get {d : List UInt8} (h : d.length = 16) {i x : Nat} (hx : (digitsD d)[i]? = some x) : digAt d i = x ∧ i < 35 := by
  have hl := (List.getElem?_eq_some_iff.1 hx).1
  rw [digitsD_len h] at hl
  unfold digAt
  rw [hx]
  exact ⟨rfl, hl⟩
theorem lessB_all {a b : List UInt8} (ha : a.length = 16) (hb : b.length = 16) : lessB a b 35 = !(a == b) := by
  by_cases h : a = b
  · subst h
    have : lessB a a 35 = false := by
      unfold lessB
      rw [List.any_eq_false]
      intro x _
      simp
    rw [this]
    simp
  · have h1 : (a == b) = false := by simpa using h
    rw [h1, Bool.not_false]
    cases hl : lessB a b 35 with
    | true => rfl
    | false =>
      exfalso
      apply h
      refine cross_le ha hb fun i x y hx hy => ?_
      obtain ⟨e1, h35⟩ := digAt_get hb hx
      obtain ⟨e2, _⟩ := digAt_get ha hy
      unfold lessB at hl
      rw [List.any_eq_false] at hl
      have := hl i (List.mem_range.2 h35)
      simp at this
      omega
theorem beq_comm16 (a b : List UInt8) : (!(b == a)) = !(a == b) := by
  by_cases h : a = b
  · subst h; rfl
  · rw [beq_eq_false_iff_ne.2 h, beq_eq_false_iff_ne.2 (Ne.symm h)]
theorem Tryd.und_bool : Tryd.prog.underlying 4 = some .bool := by kernel_rfl
/-- '==' on two bools that are the same. -/
theorem eqBoolOp {P : Program} {w : World} {ops : Array Oper} {rest : List Oper} {o : Oper} {a : Act} {Q : Exit → Act → World → Prop} {t ty : TypeId} {B : Bool} (x y : Operand) (hu : P.underlying t = some .bool) (hgd : Region.wanted o (yielded ops a.tmps) = true)
    (ho : o.op = .binOp .eql t x y ty) (hx : a.eval x = .bool B) (hy : a.eval y = .bool B) (hk : wpList P ops Q rest (a.put o.dst (.bool true)) w) : wpList P ops Q (o :: rest) a w := by
  refine opVal (v := .bool true) hgd ?_ hk
  unfold execOp
  have hr := run_equal_bool (P := P) (w := w) t B B hu
  simp [ho, hx, hy, eqGuard, binOp, hr]
set_option maxRecDepth 100000 in
set_option maxHeartbeats 4000000 in
theorem walk_SignDigitsCross (d e_ : List UInt8) (w : World) (ht : Tabs w) (hd : d.length = 16) (he : e_.length = 16) :
    Calls Tryd.prog 7 #[.agg (bcs d).toArray, .agg (bcs e_).toArray] w (RetB w true) := by
  have HSAN := Lib.hid (fun w' (h : Tabs w') => sanity_any w' h)
  have HDB := Lib.hid (show (bcs d).length = 16 by rw [bcs_length]; exact hd)
  have HEB := Lib.hid (show (bcs e_).length = 16 by rw [bcs_length]; exact he)
  have HD16 := Lib.hid hd
  have HE16 := Lib.hid he
  have HDD := Lib.hid (fun w' => digits_any d w' hd)
  have HDE := Lib.hid (fun w' => digits_any e_ w' he)
  have HLD := Lib.hid (show (ivs (digitsD d)).length = 35 by rw [ivs_len]; exact digitsD_len hd)
  have HLE := Lib.hid (show (ivs (digitsD e_)).length = 35 by rw [ivs_len]; exact digitsD_len he)
  have HGD := Lib.hid (fun j (hj : j < 35) => digits_get d hd j hj)
  have HGE := Lib.hid (fun j (hj : j < 35) => digits_get e_ he j hj)
  have HL1 := Lib.hid (lessB_all hd he)
  have HL2 := Lib.hid ((lessB_all he hd).trans (beq_comm16 d e_))
  clear hd he
  go_enter Tryd.func7, Tryd.ntmps7
  go_wp2_with (with_reducible refine bxArr (cs := bcs d) (.tmp 0) (wn rfl) rfl rfl ?_)
  intro w1 h2 hb
  have l2 : w.heap.size < w1.heap.size := h2.lt
  go_wp2_with (with_reducible refine bxArr (cs := bcs e_) (.tmp 1) (wn rfl) rfl rfl ?_)
  intro w2 h3 b2
  have l3 : w1.heap.size < w2.heap.size := h3.lt
  replace h2 := h2.below b2 h2.lt
  replace hb := hb.trans (b2.mono hb.size)
  clear b2
  generalize w1.heap.size = g3 at *
  go_wp2_with fail
  have hc := HSAN.out w2 (ht.below hb ht.size)
  refine hc.mono ?_
  rintro e w3 ⟨rfl, b3⟩
  replace h2 := h2.below b3 h2.lt
  replace h3 := h3.below b3 h3.lt
  replace hb := hb.trans (b3.mono hb.size)
  clear b3 hc HSAN
  go_wp2_with (with_reducible refine ldArr (.tmp 2) Tryd.ag_b16 (wn rfl) rfl rfl HDB.out h2 ?_)
  have hc := HDD.out w3
  refine hc.mono ?_
  rintro e w4 ⟨rfl, bx⟩
  replace h2 := h2.below bx h2.lt
  replace h3 := h3.below bx h3.lt
  replace hb := hb.trans (bx.mono hb.size)
  clear bx hc HDD
  go_wp2_with (with_reducible refine alArr (z := zerosI 35) Tryd.ag_i35 (wn rfl) rfl ?_)
  intro w5 h6 bx
  have lg6 : w.heap.size ≤ w4.heap.size := hb.size
  have nh2g6 := h2.lt
  replace h2 := h2.below bx nh2g6
  have nh3g6 := h3.lt
  replace h3 := h3.below bx nh3g6
  replace hb := hb.trans (bx.mono hb.size)
  clear bx
  generalize w4.heap.size = g6 at *
  go_wp2_with (with_reducible refine stArr (cs := ivs (digitsD d)) (.tmp 6) (.tmp 13) Tryd.ag_i35 (wn rfl) rfl rfl rfl h6 (zerosI_len _) HLD.out (ivs_one _) ?_)
  intro w6 h6 hkeep hbel
  replace h2 := hkeep _ _ _ (by omega) h2
  replace h3 := hkeep _ _ _ (by omega) h3
  replace hb := hb.trans (hbel _ lg6)
  clear hkeep hbel
  go_wp2_with (with_reducible refine ldArr (.tmp 3) Tryd.ag_b16 (wn rfl) rfl rfl HEB.out h3 ?_)
  have hc := HDE.out w6
  refine hc.mono ?_
  rintro e w7 ⟨rfl, bx⟩
  replace h2 := h2.below bx h2.lt
  replace h3 := h3.below bx h3.lt
  replace h6 := h6.below bx h6.lt
  replace hb := hb.trans (bx.mono hb.size)
  clear bx hc HDE
  go_wp2_with (with_reducible refine alArr (z := zerosI 35) Tryd.ag_i35 (wn rfl) rfl ?_)
  intro w8 h7 bx
  have lg7 : w.heap.size ≤ w7.heap.size := hb.size
  have nh2g7 := h2.lt
  replace h2 := h2.below bx nh2g7
  have nh3g7 := h3.lt
  replace h3 := h3.below bx nh3g7
  have nh6g7 := h6.lt
  replace h6 := h6.below bx nh6g7
  replace hb := hb.trans (bx.mono hb.size)
  clear bx
  generalize w7.heap.size = g7 at *
  go_wp2_with (with_reducible refine stArr (cs := ivs (digitsD e_)) (.tmp 7) (.tmp 15) Tryd.ag_i35 (wn rfl) rfl rfl rfl h7 (zerosI_len _) HLE.out (ivs_one _) ?_)
  intro w9 h7 hkeep hbel
  replace h2 := hkeep _ _ _ (by omega) h2
  replace h3 := hkeep _ _ _ (by omega) h3
  replace h6 := hkeep _ _ _ (by omega) h6
  replace hb := hb.trans (hbel _ lg7)
  clear hkeep hbel
  go_wp2_with fail
  go_loopw [8, 9, 10] (fun v8 v9 v10 wr => ∃ (j : Nat) (L G : Bool), j ≤ 35 ∧ v10 = .int .i64 j ∧ v8 = .bool L ∧ v9 = .bool G ∧ L = lessB d e_ j ∧ G = lessB e_ d j ∧ Arr wr w.heap.size 23 (bcs d) ∧ Arr wr g3 23 (bcs e_) ∧ Arr wr g6 25 (ivs (digitsD d)) ∧ Arr wr g7 25 (ivs (digitsD e_)) ∧ Below w.heap.size w wr) (fun _ _ v10 _ => 35 - (intOf v10).toNat)
  case atStart => exact ⟨0, false, false, by omega, rfl, rfl, rfl, rfl, rfl, h2, h3, h6, h7, hb⟩
  case round =>
    clear h2 h3 h6 h7 hb
    obtain ⟨j, L, G, hj, rfl, rfl, rfl, hL, hG, h2, h3, h6, h7, hb⟩ := hrel
    by_cases hlt : j < 35
    · have ca := h6.cell (HGD.out j hlt)
      have cb := h7.cell (HGE.out j hlt)
      have n1 := lessB_next d e_ j
      have n2 := lessB_next e_ d j
      rw [← hL] at n1
      rw [← hG] at n2
      have N1 := Lib.hid n1
      have N2 := Lib.hid n2
      clear n1 n2 hL hG
      generalize digAt d j = da at *
      generalize digAt e_ j = db at *
      have k0 : (0 : Int) ≤ (j : Int) := by omega
      have k1 : (j : Int) < 35 := by omega
      cases L <;> cases G
      all_goals
        go_wp2_with fail
        go_quiet (fail)
        go_wp2_with fail
        go_quiet (fail)
        go_wp2_with fail
        go_roundw
        case rel => exact ⟨j + 1, _, _, by omega, by go_num, rfl, rfl, by rw [N1.out]; simp, by rw [N2.out]; simp, h2, h3, h6, h7, below_drewN' hb _⟩
        case measure => (simp [intOf]; try omega)
    · obtain rfl : j = 35 := by omega
      have hL2 := hL.trans HL1.out
      have hG2 := hG.trans HL2.out
      have HLL := Lib.hid hL2
      have HGG := Lib.hid hG2
      clear hlt hL hG hL2 hG2 h6 h7
      have HBB : Hid ((!(d == e_)) = !(d == e_)) := Lib.hid rfl
      obtain ⟨B, hB⟩ : ∃ B, B = !(d == e_) := ⟨_, rfl⟩
      have e1 := HLL.out
      have e2 := HGG.out
      rw [← hB] at e1 e2
      subst e1
      subst e2
      have HB := Lib.hid hB.symm
      clear hB HLL HGG HBB HL1 HL2
      have hpb : (G == G) = true := beq_self_eq_true G
      go_wp2_with (first | (with_reducible refine ldArr (.tmp 2) Tryd.ag_b16 (by kernel_rfl) rfl rfl HDB.out h2 ?_) | (with_reducible refine ldArr (.tmp 3) Tryd.ag_b16 (by kernel_rfl) rfl rfl HEB.out h3 ?_) | (with_reducible refine neqBytes (.tmp 43) (.tmp 44) d e_ G Tryd.arr_b16 Tryd.und_u8 Tryd.one_u8 (by kernel_rfl) (by kernel_rfl) rfl rfl rfl HD16.out HE16.out HB.out ?_) | (with_reducible refine neqBytes (.tmp 50) (.tmp 51) d e_ G Tryd.arr_b16 Tryd.und_u8 Tryd.one_u8 (by kernel_rfl) (by kernel_rfl) rfl rfl rfl HD16.out HE16.out HB.out ?_) | (with_reducible refine eqBoolOp (.tmp 42) (.tmp 45) Tryd.und_bool (by kernel_rfl) rfl rfl rfl ?_) | (with_reducible refine eqBoolOp (.tmp 49) (.tmp 52) Tryd.und_bool (by kernel_rfl) rfl rfl rfl ?_))
      go_ret
      exact ⟨rfl, hb⟩
end Go.Proofs.YtienlndjhcmemaaDoor

