/-
  HashOfSeparates answers true, for any two tags from 0 to 255 and lists of parts.
-/
import Derived.Test.YthmhmjdppldmiaaDoorHashOfMatchesSpec
import Derived.Test.YthmhmjdppldmiaaDoorEncInj
import Derived.Deep.CutBlock
namespace Go.Proofs.YthmhmjdppldmiaaDoor
open Go.RowKit

theorem lists_next {l m : List (List UInt8)} {i : Nat} {x y : List UInt8} (hx : l[i]? = some x) (hy : m[i]? = some y) : (l.take (i + 1) = m.take (i + 1)) ↔ (l.take i = m.take i ∧ x = y) := by
  rw [List.take_add_one, List.take_add_one, hx, hy]
  have h1 := (List.getElem?_eq_some_iff.1 hx).1
  have h2 := (List.getElem?_eq_some_iff.1 hy).1
  constructor
  · intro h
    have := List.append_inj h (by rw [List.length_take, List.length_take]; omega)
    exact ⟨this.1, by simpa using this.2⟩
  · rintro ⟨h, rfl⟩; rw [h]
/-- Whether the lists (and the tags) are the same as far as the loop has come. -/
def sameTo (a b : Int) (l m : List (List UInt8)) (i : Nat) : Bool := decide (a = b ∧ l.length = m.length ∧ l.take i = m.take i)
theorem sameTo_next {a b : Int} {l m : List (List UInt8)} {i : Nat} {x y : List UInt8} (hx : l[i]? = some x) (hy : m[i]? = some y) (h : sameTo a b l m i = true) : (x == y) = sameTo a b l m (i + 1) := by
  unfold sameTo at *
  rw [decide_eq_true_iff] at h
  rw [Bool.eq_iff_iff, beq_iff_eq, decide_eq_true_iff, lists_next hx hy]
  exact ⟨fun e => ⟨h.1, h.2.1, h.2.2, e⟩, fun e => e.2.2.2⟩
theorem sameTo_all (a b : Int) (l m : List (List UInt8)) : sameTo a b l m l.length = decide (a = b ∧ l = m) := by
  unfold sameTo
  congr 1
  refine propext ⟨fun ⟨h1, h2, h3⟩ => ⟨h1, ?_⟩, fun ⟨h1, h2⟩ => ⟨h1, by rw [h2], by rw [h2]⟩⟩
  rw [List.take_of_length_le (Nat.le_refl _), List.take_of_length_le (by omega)] at h3
  exact h3
theorem sameTo_not {a b : Int} {l m : List (List UInt8)} {i : Nat} (h : sameTo a b l m i = false) : decide (a = b ∧ l = m) = false := by
  unfold sameTo at h
  rw [decide_eq_false_iff_not] at h ⊢
  rintro ⟨rfl, rfl⟩
  exact h ⟨rfl, rfl, rfl⟩
theorem sameTo_zero (a b : Int) (l m : List (List UInt8)) : sameTo a b l m 0 = (decide (a = b) && decide (l.length = m.length)) := by
  unfold sameTo
  simp

/-- '!=' on texts. -/
theorem neStr {P : Program} {w : World} {ops : Array Oper} {rest : List Oper} {o : Oper} {a : Act} {Q : Exit → Act → World → Prop} {t ty : TypeId} (x y : Operand) (xs ys : List UInt8) (b : Bool) (hgd : Region.wanted o (yielded ops a.tmps) = true)
    (ho : o.op = .binOp .neq t x y ty) (hx : a.eval x = .string ⟨xs.toArray⟩) (hy : a.eval y = .string ⟨ys.toArray⟩) (hb : (xs != ys) = b) (hk : wpList P ops Q rest (a.put o.dst (.bool b)) w) : wpList P ops Q (o :: rest) a w := by
  refine opVal (v := .bool b) hgd ?_ hk
  unfold execOp
  simp [ho, hx, hy, eqGuard, binOp_string_neq, ← hb, bne]
set_option maxRecDepth 100000 in
set_option maxHeartbeats 4000000 in
theorem walk_HashOfSeparates (a b : Int) (l : List (List UInt8)) (A : Option Addr) (n c : Nat) (m : List (List UInt8)) (A2 : Option Addr) (n2 c2 : Nat) (w : World) (ht : Tabs w) (ha : 0 ≤ a ∧ a ≤ 255) (hb' : 0 ≤ b ∧ b ≤ 255)
    (hr : Rd w w.heap.size 1 A n c (l.map sv)) (hn : n ≤ 140737488351232) (_hg : ∀ y ∈ l, y.length ≤ 140737488351232) (hr2 : Rd w w.heap.size 1 A2 n2 c2 (m.map sv)) (hn2 : n2 ≤ 140737488351232) (_hg2 : ∀ y ∈ m, y.length ≤ 140737488351232) :
    Calls Tryd.prog 8 #[.agg #[.int .u8 a, .int .u8 b], .slice A n c, .slice A2 n2 c2] w (RetB w true) := by
  by_cases hf : few12 l = true
  · by_cases hf2 : few12 m = true
    · obtain ⟨hin, hl12⟩ := few12_input a hf
      obtain ⟨hin2, hm12⟩ := few12_input b hf2
      obtain rfl : l.length = n := by have := hr.len; simpa using this
      obtain rfl : m.length = n2 := by have := hr2.len; simpa using this
      have HINJ := Lib.hid (fun h => inputOf_inj ha hb' hf hf2 h : inputOf a l = inputOf b m → a = b ∧ l = m)
      have HSAME := Lib.hid (fun h => by rw [h.1, h.2] : a = b ∧ l = m → inputOf a l = inputOf b m)
      obtain ⟨dd, hdd⟩ : ∃ dd : Bool, decide (a = b ∧ l = m) = dd := ⟨_, rfl⟩
      have HDD := Lib.hid hdd
      clear hdd
      go_enter Tryd.func8, Tryd.ntmps8
      go_wp2_with (with_reducible refine bxArr (cs := [.int .u8 a, .int .u8 b]) (.tmp 0) (wn rfl) rfl rfl ?_)
      intro w0 h3 hb0
      have h3lt := h3.lt
      have hq := Below.refl w0.heap.size w0
      go_wp2_with fail
      refine (sanity_any w0 (ht.below hb0 ht.size)).mono ?_
      rintro e w1 ⟨rfl, hb1⟩
      replace hq := hq.trans hb1
      clear hb1
      have hfew := few_any l A l.length c _ w1 (hr.below (hb0.trans (hq.mono hb0.size))) (hb0.trans (hq.mono hb0.size)).size hn
      rw [hf] at hfew
      go_wp2_with fail
      refine hfew.mono ?_
      rintro e w2 ⟨rfl, hb2⟩
      replace hq := hq.trans (hb2.mono hq.size)
      clear hb2 hfew
      have hfew := few_any m A2 m.length c2 _ w2 (hr2.below (hb0.trans (hq.mono hb0.size))) (hb0.trans (hq.mono hb0.size)).size hn2
      rw [hf2] at hfew
      go_wp2_with fail
      refine hfew.mono ?_
      rintro e w3 ⟨rfl, hb2⟩
      replace hq := hq.trans (hb2.mono hq.size)
      clear hb2 hfew
      go_upto_region 4 with fail
      go_cut [8] from 28 to 39 (fun v wx => v = .bool (sameTo a b l m 0) ∧ wx = w3)
      case first =>
        have hA := h3.below hq h3lt
        have hc0 := hA.cell (i := 0) rfl
        have hc1 := hA.cell (i := 1) rfl
        by_cases hab : a = b
        · have e1 : (a == b) = true := by simp [hab]
          go_wp2_with fail
          go_meet
          exact ⟨by rw [sameTo_zero, decide_eq_true hab, Bool.true_and]; congr 1; rw [Bool.eq_iff_iff, beq_iff_eq, decide_eq_true_iff]; omega, rfl⟩
        · have e1 : (a == b) = false := by simp [hab]
          go_wp2_with fail
          go_meet
          exact ⟨by rw [sameTo_zero]; simp [hab], rfl⟩
      case rest =>
        obtain ⟨rfl, rfl⟩ := hcut
        go_upto_block 0 with fail
        go_cut [8] from 40 to 57 (fun v wx => v = .bool dd ∧ Below w0.heap.size w0 wx)
        case first =>
          go_wp2_with fail
          go_loopw [8, 9] (fun v8 v9 wr => ∃ i : Nat, i ≤ l.length ∧ v9 = .int .i64 i ∧ v8 = .bool (sameTo a b l m i) ∧ Below w0.heap.size w0 wr) (fun _ v9 _ => l.length - (intOf v9).toNat)
          case atStart => exact ⟨0, by omega, rfl, rfl, hq⟩
          case round =>
            clear hq
            obtain ⟨i, hi, rfl, rfl, hq⟩ := hrel
            by_cases hlt : i < l.length
            · cases hsm : sameTo a b l m i with
              | true =>
                have hlm : l.length = m.length := by unfold sameTo at hsm; rw [decide_eq_true_iff] at hsm; exact hsm.2.1
                have hlt2 : i < m.length := by omega
                clear hlm
                obtain ⟨b1, off1, u1, rfl, _, hu1, hcell1⟩ := (hr.below (hb0.trans (hq.mono hb0.size))).at1 hlt
                obtain ⟨p, hp, rfl⟩ : ∃ p : List UInt8, l[i]? = some p ∧ u1 = .string ⟨p.toArray⟩ := by
                  rw [List.getElem?_map] at hu1
                  obtain ⟨x, hx, hxu⟩ := Option.map_eq_some_iff.1 hu1
                  exact ⟨x, hx, hxu.symm⟩
                obtain ⟨b2, off2, u2, rfl, _, hu2, hcell2⟩ := (hr2.below (hb0.trans (hq.mono hb0.size))).at1 hlt2
                obtain ⟨p2, hp2, rfl⟩ : ∃ p : List UInt8, m[i]? = some p ∧ u2 = .string ⟨p.toArray⟩ := by
                  rw [List.getElem?_map] at hu2
                  obtain ⟨x, hx, hxu⟩ := Option.map_eq_some_iff.1 hu2
                  exact ⟨x, hx, hxu.symm⟩
                have HN := Lib.hid (sameTo_next hp hp2 hsm)
                clear hu1 hu2 hp hp2
                go_wp2_with fail
                go_quiet (fail)
                rw [show (p == p2) = sameTo a b l m (i + 1) from HN.out]
                go_wp2_with fail
                go_roundw
                case rel => exact ⟨i + 1, by omega, by go_num, rfl, ⟨hq.os, hq.tape, hq.output, hq.size, hq.block⟩⟩
                case measure => (simp [intOf]; try omega)
              | false =>
                have hno := sameTo_not hsm
                go_wp2_with fail
                go_meet
                exact ⟨by rw [← HDD.out, hno], hq⟩
            · obtain rfl : i = l.length := by omega
              rw [sameTo_all, HDD.out]
              go_wp2_with fail
              go_meet
              exact ⟨rfl, hq⟩
        case rest =>
          clear hq
          obtain ⟨rfl, hq⟩ := hcut
          have hA := h3.below hq h3lt
          have hc0 := hA.cell (i := 0) rfl
          have hc1 := hA.cell (i := 1) rfl

          go_wp2_with fail
          clear hA hc0 hc1
          refine (input_any a l A l.length c _ _ (hr.below (hb0.trans (hq.mono hb0.size))) (hb0.trans (hq.mono hb0.size)).size (by omega) (by omega)).mono ?_
          rintro e v1 hret
          obtain ⟨X1, k1, rfl, _, hx1, hb2⟩ := hret.open
          clear hret
          have hs1 := hb2.size
          replace hq := hq.trans (hb2.mono hq.size)
          clear hb2

          have hA := h3.below hq h3lt
          have hc0 := hA.cell (i := 0) rfl
          have hc1 := hA.cell (i := 1) rfl

          go_wp2_with fail
          clear hA hc0 hc1
          refine (input_any b m A2 m.length c2 _ _ (hr2.below (hb0.trans (hq.mono hb0.size))) (hb0.trans (hq.mono hb0.size)).size (by omega) (by omega)).mono ?_
          rintro e v2 hret
          obtain ⟨X2, k2, rfl, _, hx2, hb2⟩ := hret.open
          clear hret
          replace hx1 := hx1.below hb2
          have hs2 := hb2.size
          replace hq := hq.trans (hb2.mono hq.size)
          clear hb2

          cases hdb : dd <;> rw [hdb] at HDD <;> clear hdb
          rotate_left
          · have hxy : inputOf b m = inputOf a l := (HSAME.out (of_decide_eq_true HDD.out)).symm
            rw [hxy] at hx2
            go_wp2_with (first | (with_reducible refine convStr (.tmp 71) (inputOf a l) Tryd.sl_u8.und Tryd.und_u8 Tryd.und_str (by with_unfolding_all rfl) rfl rfl hx1 ?_) | (with_reducible refine convStr (.tmp 73) (inputOf a l) Tryd.sl_u8.und Tryd.und_u8 Tryd.und_str (by with_unfolding_all rfl) rfl rfl hx2 ?_) | (with_reducible refine eqStr (.tmp 72) (.tmp 74) (inputOf a l) (inputOf a l) true (by with_unfolding_all rfl) rfl rfl rfl (by simp) ?_))
            go_ret
            exact ⟨rfl, hb0.trans (hq.mono hb0.size)⟩
          · have hxy : ¬ inputOf a l = inputOf b m := fun h => (of_decide_eq_false HDD.out) (HINJ.out h)
            have HW := hb0.trans (hq.mono hb0.size)
            have H3 := h3.below hq h3lt
            have hz := Below.refl v2.heap.size v2
            have HXB := Lib.hid (show (inputOf a l != inputOf b m) = true by rw [bne_iff_ne]; exact hxy)
            have HL1 := Lib.hid (bcs32 (inputOf a l))
            have HL2 := Lib.hid (bcs32 (inputOf b m))
            have HD1 := Lib.hid (show (bcs (ofDig a l)).length = 16 by rw [bcs_length]; exact ofDig_len a l)
            have HD2 := Lib.hid (show (bcs (ofDig b m)).length = 16 by rw [bcs_length]; exact ofDig_len b m)
            clear hxy

            have hA := H3.below hz H3.lt
            have hc0 := hA.cell (i := 0) rfl
            have hc1 := hA.cell (i := 1) rfl

            go_wp2_with fail
            refine (of_any a l A l.length c _ _ (ht.below (HW.trans (hz.mono HW.size)) ht.size) (hr.below (HW.trans (hz.mono HW.size))) (HW.trans (hz.mono HW.size)).size (by omega) (by omega)).mono ?_
            clear hA hc0 hc1
            rintro e v3 ⟨rfl, hb2⟩
            replace hz := hz.trans (hb2.mono hz.size)
            clear hb2

            go_wp2_with (with_reducible refine alArr (z := zerosB 16) Tryd.ag_b16 (wn rfl) rfl ?_)
            intro w5 h12 hb5
            have hsz := hz.size
            replace hz := hz.trans (hb5.mono hz.size)
            clear hb5
            generalize v3.heap.size = g12 at *
            go_wp2_with (with_reducible refine stArr (cs := bcs (ofDig a l)) (.tmp 12) (.tmp 81) Tryd.ag_b16 (wn rfl) rfl rfl rfl h12 (zerosB_len _) HD1.out (bcs_one _) ?_)
            intro v4 h12 hkeep hbel
            replace hz := hz.trans (hbel _ hsz)
            clear hkeep hbel hsz

            have hA := H3.below hz H3.lt
            have hc0 := hA.cell (i := 0) rfl
            have hc1 := hA.cell (i := 1) rfl

            go_wp2_with fail
            refine (of_any b m A2 m.length c2 _ _ (ht.below (HW.trans (hz.mono HW.size)) ht.size) (hr2.below (HW.trans (hz.mono HW.size))) (HW.trans (hz.mono HW.size)).size (by omega) (by omega)).mono ?_
            clear hA hc0 hc1
            rintro e v5 ⟨rfl, hb2⟩
            replace h12 := h12.below hb2 h12.lt
            replace hz := hz.trans (hb2.mono hz.size)
            clear hb2

            go_wp2_with (with_reducible refine alArr (z := zerosB 16) Tryd.ag_b16 (wn rfl) rfl ?_)
            intro w5 h13 hb5
            have ne_h12 := Nat.ne_of_lt h12.lt
            replace h12 := h12.below hb5 h12.lt
            have hsz := hz.size
            replace hz := hz.trans (hb5.mono hz.size)
            clear hb5
            generalize v5.heap.size = g13 at *
            go_wp2_with (with_reducible refine stArr (cs := bcs (ofDig b m)) (.tmp 13) (.tmp 86) Tryd.ag_b16 (wn rfl) rfl rfl rfl h13 (zerosB_len _) HD2.out (bcs_one _) ?_)
            intro v6 h13 hkeep hbel
            replace h12 := hkeep _ _ _ ne_h12 h12
            clear ne_h12
            replace hz := hz.trans (hbel _ hsz)
            clear hkeep hbel hsz

            go_wp2_with fail
            refine (sum_any (inputOf a l) X1 (inputOf a l).length k1 _ _ (ht.below (HW.trans (hz.mono HW.size)) ht.size) (hx1.below (hz.mono hs2)) (Nat.le_trans hs2 hz.size) (by omega)).mono ?_
            rintro e v7 ⟨rfl, hb2⟩
            replace h12 := h12.below hb2 h12.lt
            replace h13 := h13.below hb2 h13.lt
            replace hz := hz.trans (hb2.mono hz.size)
            clear hb2

            go_wp2_with (with_reducible refine alArr (z := zerosB 32) Tryd.ag_b32 (wn rfl) rfl ?_)
            intro w5 h14 hb5
            have ne_h12 := Nat.ne_of_lt h12.lt
            replace h12 := h12.below hb5 h12.lt
            have ne_h13 := Nat.ne_of_lt h13.lt
            replace h13 := h13.below hb5 h13.lt
            have hsz := hz.size
            replace hz := hz.trans (hb5.mono hz.size)
            clear hb5
            generalize v7.heap.size = g14 at *
            go_wp2_with (with_reducible refine stArr (cs := bcs (sha (inputOf a l))) (.tmp 14) (.tmp 88) Tryd.ag_b32 (wn rfl) rfl rfl rfl h14 (zerosB_len _) HL1.out (bcs_one _) ?_)
            intro v8 h14 hkeep hbel
            replace h12 := hkeep _ _ _ ne_h12 h12
            clear ne_h12
            replace h13 := hkeep _ _ _ ne_h13 h13
            clear ne_h13
            replace hz := hz.trans (hbel _ hsz)
            clear hkeep hbel hsz

            go_wp2_with fail
            refine (sum_any (inputOf b m) X2 (inputOf b m).length k2 _ _ (ht.below (HW.trans (hz.mono HW.size)) ht.size) (hx2.below hz) hz.size (by omega)).mono ?_
            rintro e v9 ⟨rfl, hb2⟩
            replace h12 := h12.below hb2 h12.lt
            replace h13 := h13.below hb2 h13.lt
            replace h14 := h14.below hb2 h14.lt
            replace hz := hz.trans (hb2.mono hz.size)
            clear hb2

            go_wp2_with (with_reducible refine alArr (z := zerosB 32) Tryd.ag_b32 (wn rfl) rfl ?_)
            intro w5 h15 hb5
            have ne_h12 := Nat.ne_of_lt h12.lt
            replace h12 := h12.below hb5 h12.lt
            have ne_h13 := Nat.ne_of_lt h13.lt
            replace h13 := h13.below hb5 h13.lt
            have ne_h14 := Nat.ne_of_lt h14.lt
            replace h14 := h14.below hb5 h14.lt
            have hsz := hz.size
            replace hz := hz.trans (hb5.mono hz.size)
            clear hb5
            generalize v9.heap.size = g15 at *
            go_wp2_with (with_reducible refine stArr (cs := bcs (sha (inputOf b m))) (.tmp 15) (.tmp 90) Tryd.ag_b32 (wn rfl) rfl rfl rfl h15 (zerosB_len _) HL2.out (bcs_one _) ?_)
            intro v10 h15 hkeep hbel
            replace h12 := hkeep _ _ _ ne_h12 h12
            clear ne_h12
            replace h13 := hkeep _ _ _ ne_h13 h13
            clear ne_h13
            replace h14 := hkeep _ _ _ ne_h14 h14
            clear ne_h14
            replace hz := hz.trans (hbel _ hsz)
            clear hkeep hbel hsz

            go_wp2_with fail
            go_loopw [16, 17] (fun v16 v17 wr => ∃ i : Nat, i ≤ 16 ∧ v17 = .int .i64 i ∧ v16 = .bool (decide ((sha (inputOf a l)).take i = (sha (inputOf b m)).take i)) ∧ Below v10.heap.size v10 wr) (fun _ v17 _ => 16 - (intOf v17).toNat)
            case atStart => exact ⟨0, by omega, rfl, rfl, Below.refl _ _⟩
            case round =>
              obtain ⟨i, hi, rfl, rfl, hy⟩ := hrel
              by_cases hlt : i < 16
              · have hx14 : i < (sha (inputOf a l)).length := by rw [sha_len]; omega
                have hx15 : i < (sha (inputOf b m)).length := by rw [sha_len]; omega
                obtain ⟨y1, e14, eb14⟩ := bcs_at hx14
                obtain ⟨y2, e15, eb15⟩ := bcs_at hx15
                have hc14 := (h14.below hy h14.lt).cell eb14
                have hc15 := (h15.below hy h15.lt).cell eb15
                have HN := Lib.hid (take_eq_next e14 e15)
                clear eb14 eb15
                clear e14 e15 hx14 hx15
                cases hcl : decide ((sha (inputOf a l)).take i = (sha (inputOf b m)).take i)
                · have hnx : decide ((sha (inputOf a l)).take (i + 1) = (sha (inputOf b m)).take (i + 1)) = false := decide_eq_false fun h => of_decide_eq_false hcl (HN.out.1 h).1
                  have HNX := Lib.hid hnx
                  clear hnx hcl
                  go_wp2_with fail
                  go_quiet (fail)
                  go_wp2_with fail
                  go_roundw
                  case rel => exact ⟨i + 1, by omega, by go_num, by rw [HNX.out], ⟨hy.os, hy.tape, hy.output, hy.size, hy.block⟩⟩
                  case measure => (simp [intOf]; try omega)
                · have hnx : ((y1.toNat : Int) == (y2.toNat : Int)) = decide ((sha (inputOf a l)).take (i + 1) = (sha (inputOf b m)).take (i + 1)) := by
                    rw [Bool.eq_iff_iff, beq_iff_eq, decide_eq_true_iff, HN.out]
                    refine ⟨fun h => ⟨of_decide_eq_true hcl, UInt8.toNat_inj.1 (by omega)⟩, fun h => by rw [h.2]⟩
                  have HNX := Lib.hid hnx
                  clear hnx hcl
                  have hlt32 : i < 32 := by omega
                  have hlt33 : (i : Int) < 32 := by omega
                  have hlt34 : (0 : Int) ≤ (i : Int) := by omega
                  unfold bc at hc14 hc15
                  go_wp2_with fail
                  go_quiet (fail)
                  rw [HNX.out]
                  go_wp2_with fail
                  go_roundw
                  case rel => exact ⟨i + 1, by omega, by go_num, rfl, ⟨hy.os, hy.tape, hy.output, hy.size, hy.block⟩⟩
                  case measure => (simp [intOf]; try omega)
              · obtain rfl : i = 16 := by omega
                have hcl : decide ((sha (inputOf a l)).take 16 = (sha (inputOf b m)).take 16) = (ofDig a l == ofDig b m) := by
                  unfold ofDig
                  rw [Bool.eq_iff_iff, beq_iff_eq, decide_eq_true_iff]
                rw [hcl]
                obtain ⟨cl, hcl2⟩ : ∃ cl : Bool, (ofDig a l == ofDig b m) = cl := ⟨_, rfl⟩
                rw [hcl2]
                clear hcl
                have HCL := Lib.hid hcl2
                clear hcl2
                have k12 := h12.below hy h12.lt
                have k13 := h13.below hy h13.lt
                have j1 := hx1.below ((hz.trans (hy.mono hz.size)).mono hs2)
                have j2 := hx2.below (hz.trans (hy.mono hz.size))
                go_wp2_with (first | (with_reducible refine convStr (.tmp 107) (inputOf a l) Tryd.sl_u8.und Tryd.und_u8 Tryd.und_str (by with_unfolding_all rfl) rfl rfl j1 ?_) | (with_reducible refine convStr (.tmp 109) (inputOf b m) Tryd.sl_u8.und Tryd.und_u8 Tryd.und_str (by with_unfolding_all rfl) rfl rfl j2 ?_) | (with_reducible refine neStr (.tmp 108) (.tmp 110) (inputOf a l) (inputOf b m) true (by with_unfolding_all rfl) rfl rfl rfl HXB.out ?_) | (with_reducible refine ldArr (.tmp 12) Tryd.ag_b16 (by with_unfolding_all rfl) rfl rfl HD1.out k12 ?_) | (with_reducible refine ldArr (.tmp 13) Tryd.ag_b16 (by with_unfolding_all rfl) rfl rfl HD2.out k13 ?_) | (with_reducible refine eqBytes (.tmp 114) (.tmp 115) (ofDig a l) (ofDig b m) cl Tryd.arr_b16 Tryd.und_u8 Tryd.one_u8 (by kernel_rfl) (by with_unfolding_all rfl) rfl rfl rfl (ofDig_len a l) (ofDig_len b m) HCL.out ?_))
                have hbb : (cl == cl) = true := by cases cl <;> rfl
                try rw [hbb]
                go_wp2_with fail
                go_ret
                exact ⟨by first | rfl | (cases cl <;> rfl), HW.trans ((hz.trans (hy.mono hz.size)).mono HW.size)⟩
    · rw [Bool.not_eq_true] at hf2
      go_enter Tryd.func8, Tryd.ntmps8
      go_wp2_with (with_reducible refine bxArr (cs := [.int .u8 a, .int .u8 b]) (.tmp 0) (wn rfl) rfl rfl ?_)
      intro w0 h3 hb0
      go_wp2_with fail
      refine (sanity_any w0 (ht.below hb0 ht.size)).mono ?_
      rintro e w1 ⟨rfl, hb1⟩
      replace hb0 := hb0.trans (hb1.mono hb0.size)
      clear hb1 h3
      have hfew := few_any l A n c _ w1 (hr.below hb0) hb0.size hn
      rw [hf] at hfew
      go_wp2_with fail
      refine hfew.mono ?_
      rintro e w2 ⟨rfl, hb2⟩
      replace hb0 := hb0.trans (hb2.mono hb0.size)
      clear hb2 hfew
      have hfew := few_any m A2 n2 c2 _ w2 (hr2.below hb0) hb0.size hn2
      rw [hf2] at hfew
      go_wp2_with fail
      refine hfew.mono ?_
      rintro e w3 ⟨rfl, hb2⟩
      replace hb0 := hb0.trans (hb2.mono hb0.size)
      clear hb2 hfew
      go_wp2_with fail
      go_ret
      exact ⟨rfl, hb0⟩
  · rw [Bool.not_eq_true] at hf
    go_enter Tryd.func8, Tryd.ntmps8
    go_wp2_with (with_reducible refine bxArr (cs := [.int .u8 a, .int .u8 b]) (.tmp 0) (wn rfl) rfl rfl ?_)
    intro w0 h3 hb0
    go_wp2_with fail
    refine (sanity_any w0 (ht.below hb0 ht.size)).mono ?_
    rintro e w1 ⟨rfl, hb1⟩
    replace hb0 := hb0.trans (hb1.mono hb0.size)
    clear hb1 h3
    have hfew := few_any l A n c _ w1 (hr.below hb0) hb0.size hn
    rw [hf] at hfew
    go_wp2_with fail
    refine hfew.mono ?_
    rintro e w2 ⟨rfl, hb2⟩
    replace hb0 := hb0.trans (hb2.mono hb0.size)
    clear hb2 hfew
    go_wp2_with fail
    go_ret
    exact ⟨rfl, hb0⟩
end Go.Proofs.YthmhmjdppldmiaaDoor

