/-
  MF: several texts in one: SgLeaf, SgValue, Arith, SgMem, SgClo, SgTree, SgPublic. No statement is proved here.
-/
import Derived.Test.YtienlndjhcmemaaDoorME
import Derived.Test.YtienlndjhcmemaaDoorMA
import Derived.IntWalk
import Derived.Laws.OwnMore
import Derived.Laws.EntriesVeiled
/-
  leaf of sign, over any function of the number of a chain: what it returns.
-/
namespace Go.Proofs.YtienlndjhcmemaaDoor
open Go.RowKit

theorem Tryd.sl_dig : SlTy Tryd.prog 48 23 (.agg digZero) 16 16 := ⟨by kernel_rfl, by kernel_rfl, by simp [digZero, Value.cells], by decide⟩
theorem rd_aggN (w : World) (cs : List Value) (t : TypeId) (size n : Nat) (hs : cs.length = n * size) (h : n ≤ maxLen) : Rd (w.alloc (.cells cs.toArray t)) (w.heap.size + 1) size (some ⟨w.heap.size, 0, none⟩) n n cs := by
  refine ⟨hs, Nat.le_refl _, h, fun _ => ⟨w.heap.size, 0, rfl, by omega, cells_new w cs t⟩⟩
theorem range_map_next (D : Nat → List UInt8) (k : Nat) : ((List.range (k + 1)).map D).flatten = ((List.range k).map D).flatten ++ D k := by
  rw [List.range_succ, List.map_append, List.flatten_append]
  simp
theorem range_map_len' (D : Nat → List UInt8) : ∀ k, (∀ j, j < k → (D j).length = 16) → (((List.range k).map D).flatten).length = k * 16
  | 0, _ => rfl
  | k + 1, hD => by rw [range_map_next, List.length_append, hD k (by omega), range_map_len' D k fun j hj => hD j (by omega)]; omega
theorem range_map_len (D : Nat → List UInt8) (hD : ∀ j, (D j).length = 16) (k : Nat) : (((List.range k).map D).flatten).length = k * 16 := range_map_len' D k fun j _ => hD j
theorem encD_le (n : Nat) (D : List UInt8) : (encD n D).length ≤ 10 + D.length := by
  unfold encD
  rw [List.length_append]
  have := enc_len n
  omega
set_option maxRecDepth 100000 in
set_option maxHeartbeats 1000000 in
theorem leaf_any (f : FuncId) (caps : List Value) (D : Nat → List UInt8) (w : World) (ht : Tabs w) (hf : callable Tryd.prog f = true) (hD : ∀ j, j < 35 → (D j).length = 16)
    (H : ∀ (j : Nat) (w' : World), j < 35 → Ext w w' → Calls Tryd.prog f (.int .i64 (j : Int) :: caps).toArray w' fun e w'' => e = .returned (.agg (bcs (D j)).toArray) ∧ Below w'.heap.size w' w'') :
    Calls Tryd.prog 40 #[.func (.func f) #[] caps.toArray] w fun e w' => e = .returned (.agg (bcs (leafD ((List.range 35).map D))).toArray) ∧ Below w.heap.size w w' := by
  have HL := Lib.hid (show (bcs (leafD ((List.range 35).map D))).length = 16 by rw [bcs_length]; exact ofDig_len _ _)
  have HH := Lib.hid H
  have HDD := Lib.hid hD
  have hll : (encD 35 ((List.range 35).map D).flatten).length ≤ 1000 := Nat.le_trans (encD_le _ _) (by rw [range_map_len' D 35 hD]; omega)
  have hlf : leafD ((List.range 35).map D) = ofDig 4 [encD 35 ((List.range 35).map D).flatten] := by unfold leafD; rw [List.length_map, List.length_range]
  have HLF := Lib.hid hlf
  clear H hD hlf
  go_enter Tryd.func40, Tryd.ntmps40
  go_wp2_with (with_reducible refine alArr (z := zerosB 16) Tryd.ag_b16 (wn rfl) rfl ?_)
  intro w1 h2 hb
  go_wp2_with fail
  go_loopw [3, 5] (fun v3 v5 wr => ∃ k : Nat, k ≤ 35 ∧ v5 = .int .i64 k ∧ wr.ownsRow w1.heap.size 23 16 v3 k (bcs ((List.range k).map D).flatten) ∧ Below w1.heap.size w1 wr) (fun _ v5 _ => 35 - (intOf v5).toNat)
  case atStart => exact ⟨0, by omega, rfl, World.ownsRow_nil _ _ _ _, Below.refl _ _⟩
  case round =>
    obtain ⟨k, hk, rfl, hown, hbw⟩ := hrel
    by_cases hlt : k < 35
    · have hE : Ext w wr := hb.trans (hbw.mono hb.size)
      have hc := HH.out k wr hlt hE
      have hd16 : (bcs (D k)).length = 16 := by rw [bcs_length]; exact HDD.out k hlt
      have HT := Lib.hid (range_map_next D k)
      have H16 := Lib.hid hd16
      have HC := Lib.hid hc
      clear hc hd16
      generalize D k = Dk at *
      go_wp2_with (with_reducible refine callOp f [.int .i64 (k : Int)] [] caps hf (wn rfl) rfl rfl rfl ?_)
      refine HC.out.mono ?_
      rintro e w2 ⟨rfl, hb2⟩
      refine ⟨_, rfl, ?_⟩
      have hownw := ownsRow_below hown hb2 (Nat.le_refl _)
      replace hbw := hbw.trans (hb2.mono hbw.size)
      clear hown hb2 hE
      go_wp2_with (first | (with_reducible refine bsAgg1 (.tmp 11) Tryd.sl_dig (wn rfl) rfl rfl (by rw [List.size_toArray]; exact H16.out) (by decide) ?_) | (at_builtin; with_reducible refine appR _ _ Tryd.sl_dig (wn rfl) rfl rfl rfl (hownw.alloc _) (rd_aggN _ (bcs Dk) _ 16 1 H16.out (by decide)) (bcs_one Dk) (hbw.alloc hbw.size _) (Nat.le_refl _) (by omega) (by omega) ?_))
      intro v' w' h3 h4 _
      clear hownw hbw
      go_wp2_with fail
      go_roundw
      case rel => exact ⟨k + 1, by omega, by go_num, by rw [HT.out, bcs_append]; exact h3, h4⟩
      case measure => (simp [intOf]; try omega)
    · obtain rfl : k = 35 := by omega
      obtain ⟨A, c, rfl, hrd⟩ := Rd.of_own hown
      clear hown
      replace h2 := h2.below hbw h2.lt
      replace hb := hb.trans (hbw.mono hb.size)
      clear hbw
      generalize ((List.range 35).map D).flatten = L at *
      go_wp2_with fail
      refine (digs_any L A 35 c _ wr hrd (Nat.le_refl _) (by omega)).mono ?_
      rintro e w2 hret
      obtain ⟨A2, c2, rfl, _, hrd2, hb2⟩ := hret.open
      clear hret hrd
      replace h2 := h2.below hb2 h2.lt
      replace hb := hb.trans (hb2.mono hb.size)
      clear hb2
      go_wp2_with (with_reducible refine convStr (.tmp 16) (encD 35 L) Tryd.sl_u8.und Tryd.und_u8 Tryd.und_str (wn rfl) rfl rfl hrd2 ?_)
      obtain ⟨hrd4, b4⟩ := new_row w2 [.string ⟨(encD 35 L).toArray⟩] 9 1 rfl (by omega)
      generalize w2.alloc (.cells [.string ⟨(encD 35 L).toArray⟩].toArray 9) = w4 at *
      replace h2 := h2.below b4 h2.lt
      replace hb := hb.trans (b4.mono hb.size)
      clear b4 hrd2
      refine (of_any 4 [encD 35 L] _ 1 1 _ w4 (ht.below hb ht.size) hrd4 (Nat.le_refl _) (inputB_le 4 _ (by omega)) (by simp)).mono ?_
      rintro e w5 ⟨rfl, hb5⟩
      replace h2 := h2.below hb5 h2.lt
      replace hb := hb.trans (hb5.mono hb.size)
      rw [← HLF.out]
      clear hb5 hrd4
      go_wp2_with (with_reducible refine stArr (cs := bcs (leafD ((List.range 35).map D))) (.tmp 2) (.tmp 19) Tryd.ag_b16 (wn rfl) rfl rfl rfl h2 (zerosB_len _) HL.out (bcs_one _) ?_)
      intro w6 h2 _ hbel
      go_wp2_with fail
      refine bodyPost_ret (v := .agg (bcs (leafD ((List.range 35).map D))).toArray) ?_ rfl ⟨rfl, hb.trans (hbel _ (Nat.le_refl _))⟩
      exact res_cell1 _ Tryd.results40 Tryd.ag_b16 _ rfl HL.out (fun j u hu => by rw [Nat.zero_add]; exact h2.cell hu)
end Go.Proofs.YtienlndjhcmemaaDoor
/-
  value of the specification: what it returns.
-/
namespace Go.Proofs.YtienlndjhcmemaaDoor
open Go.RowKit

theorem climb15 (i j : Int) (d : List UInt8) (w : World) (ht : Tabs w) (hi : isI64 i) (hj : isI64 j) (hd : d.length = 16) :
    Calls Tryd.prog 29 #[.int .i64 i, .int .i64 j, .agg (bcs d).toArray, .int .i64 0, .int .i64 15] w fun e w' => e = .returned (.agg (bcs (climbD i j 0 d 15)).toArray) ∧ Below w.heap.size w w' :=
  climb_any i j d 0 15 w ht hi hj hd (by omega)
theorem refClimb15 (i j : Int) (d : List UInt8) (w : World) (ht : TabsR w) (hi : isI64 i) (hj : isI64 j) (hd : d.length = 16) :
    Calls Tryd.prog 31 #[.int .i64 i, .int .i64 j, .agg (bcs d).toArray, .int .i64 0, .int .i64 15] w fun e w' => e = .returned (.agg (bcs (climbD i j 0 d 15)).toArray) ∧ Below w.heap.size w w' :=
  refClimb_any i j d 0 15 w ht hi hj hd (by omega)
theorem isI64_nat {n : Nat} (h : n ≤ 1000000) : isI64 (n : Int) := by unfold isI64; omega
set_option maxRecDepth 100000 in
set_option maxHeartbeats 1000000 in
theorem refValue0 (seed : List UInt8) (n : Nat) (w : World) (ht : TabsR w) (hs : seed.length ≤ 100000000) (hn : n ≤ 1000000) :
    Calls Tryd.prog 28 #[sv seed, .int .i64 0, .int .i64 (n : Int)] w fun e w' => e = .returned (.agg (bcs (valueD seed 0 n)).toArray) ∧ Below w.heap.size w w' := by
  have HL := Lib.hid (show (bcs (valueD seed 0 n)).length = 16 by rw [bcs_length]; exact valueD_len _ _ _)
  obtain ⟨D, hDe⟩ : ∃ D, D = chainD seed n 15 := ⟨_, rfl⟩
  have hD : ∀ j, (D j).length = 16 := fun j => by rw [hDe]; exact chainD_len seed n 15 j
  have HE := Lib.hid (show ∀ k : Nat, climbD n k 0 (startD seed n k) 15 = D k from fun k => by rw [hDe]; rfl)
  have hll : (encD 35 ((List.range 35).map D).flatten).length ≤ 1000 := Nat.le_trans (encD_le _ _) (by rw [range_map_len _ hD]; omega)
  have hlf : ofDig 4 [encD 35 ((List.range 35).map D).flatten] = valueD seed 0 n := by rw [hDe]; unfold valueD leafD; rw [List.length_map, List.length_range]
  have HLF := Lib.hid hlf
  have HDD := Lib.hid hD
  have hi64 := isI64_nat hn
  clear hlf hD hDe
  unfold sv
  go_enter Tryd.func28, Tryd.ntmps28
  go_wp2_with (with_reducible refine alArr (z := zerosB 16) Tryd.ag_b16 (wn rfl) rfl ?_)
  intro w1 h2 hb
  go_wp2_with fail
  go_loopw [7, 8] (fun v3 v5 wr => ∃ k : Nat, k ≤ 35 ∧ v5 = .int .i64 k ∧ wr.ownsRow w1.heap.size 23 16 v3 k (bcs ((List.range k).map D).flatten) ∧ Below w1.heap.size w1 wr) (fun _ v5 _ => 35 - (intOf v5).toNat)
  case atStart => exact ⟨0, by omega, rfl, World.ownsRow_nil _ _ _ _, Below.refl _ _⟩
  case round =>
    obtain ⟨k, hk, rfl, hown, hbw⟩ := hrel
    by_cases hlt : k < 35
    · have hE : Below w.heap.size w wr := hb.trans (hbw.mono hb.size)
      have hk64 := isI64_nat (show k ≤ 1000000 by omega)
      go_wp2_with fail
      refine (refStart_any seed n k wr (ht.below hE ht.size) hi64 hk64 hs).mono ?_
      rintro e w2 ⟨rfl, hb2⟩
      have hownw := ownsRow_below hown hb2 (Nat.le_refl _)
      replace hbw := hbw.trans (hb2.mono hbw.size)
      replace hE := hE.trans (hb2.mono hE.size)
      clear hown hb2
      go_wp2_with fail
      refine (refClimb15 n k (startD seed n k) w2 (ht.below hE ht.size) hi64 hk64 (startD_len _ _ _)).mono ?_
      rintro e w3 ⟨rfl, hb3⟩
      rw [HE.out]
      have hd16 : (bcs (D k)).length = 16 := by rw [bcs_length]; exact HDD.out k
      have HT := Lib.hid (range_map_next D k)
      have H16 := Lib.hid hd16
      clear hd16
      replace hownw := ownsRow_below hownw hb3 (Nat.le_refl _)
      replace hbw := hbw.trans (hb3.mono hbw.size)
      clear hb3 hE
      go_wp2_with (first | (with_reducible refine bsAgg1 (.tmp 38) Tryd.sl_dig (wn rfl) rfl rfl (by rw [List.size_toArray]; exact H16.out) (by decide) ?_) | (at_builtin; with_reducible refine appR _ _ Tryd.sl_dig (wn rfl) rfl rfl rfl (hownw.alloc _) (rd_aggN _ (bcs (D k)) _ 16 1 H16.out (by decide)) (bcs_one (D k)) (hbw.alloc hbw.size _) (Nat.le_refl _) (by omega) (by omega) ?_))
      intro v' w' h3 h4 _
      clear hownw hbw
      go_wp2_with fail
      go_roundw
      case rel => exact ⟨k + 1, by omega, by go_num, by rw [HT.out, bcs_append]; exact h3, h4⟩
      case measure => (simp [intOf]; try omega)
    · obtain rfl : k = 35 := by omega
      obtain ⟨A, c, rfl, hrd⟩ := Rd.of_own hown
      clear hown
      replace h2 := h2.below hbw h2.lt
      replace hb := hb.trans (hbw.mono hb.size)
      clear hbw
      go_wp2_with fail
      refine (refLeaf_any _ A 35 c _ wr (ht.below hb ht.size) hrd (Nat.le_refl _) (by omega)).mono ?_
      rintro e w5 ⟨rfl, hb5⟩
      replace h2 := h2.below hb5 h2.lt
      replace hb := hb.trans (hb5.mono hb.size)
      rw [HLF.out]
      clear hb5 hrd
      go_wp2_with (with_reducible refine stArr (cs := bcs (valueD seed 0 n)) (.tmp 6) (.tmp 42) Tryd.ag_b16 (wn rfl) rfl rfl rfl h2 (zerosB_len _) HL.out (bcs_one _) ?_)
      intro w6 h2 _ hbel
      go_wp2_with fail
      refine bodyPost_ret (v := .agg (bcs (valueD seed 0 n)).toArray) ?_ rfl ⟨rfl, hb.trans (hbel _ (Nat.le_refl _))⟩
      exact res_cell1 _ Tryd.results28 Tryd.ag_b16 _ rfl HL.out (fun j u hu => by rw [Nat.zero_add]; exact h2.cell hu)
set_option maxRecDepth 100000 in
set_option maxHeartbeats 1000000 in
theorem refValue_any (seed : List UInt8) (hs : seed.length ≤ 100000000) : ∀ (l n : Nat) (w : World), TabsR w → l ≤ 6 → (n + 1) * 2 ^ l ≤ 100000 →
    Calls Tryd.prog 28 #[sv seed, .int .i64 (l : Int), .int .i64 (n : Int)] w fun e w' => e = .returned (.agg (bcs (valueD seed l n)).toArray) ∧ Below w.heap.size w w'
  | 0, n, w, ht, _, hn => refValue0 seed n w ht hs (by omega)
  | l + 1, n, w, ht, hl, hn => by
    have hp : 2 ^ (l + 1) = 2 * 2 ^ l := by rw [Nat.pow_succ, Nat.mul_comm]
    have hpp : 0 < 2 ^ l := two_pow_pos l
    have hn1 : (2 * n + 1) * 2 ^ l ≤ 100000 := by
      rw [hp] at hn
      have : (n + 1) * (2 * 2 ^ l) = (2 * n + 1) * 2 ^ l + 2 ^ l := by rw [← Nat.mul_assoc, Nat.add_mul, Nat.add_mul]; rw [show n * 2 = 2 * n by omega]; simp [Nat.add_mul]; omega
      omega
    have hn2 : (2 * n + 1 + 1) * 2 ^ l ≤ 100000 := by
      rw [hp] at hn
      have : (n + 1) * (2 * 2 ^ l) = (2 * n + 1 + 1) * 2 ^ l := by rw [← Nat.mul_assoc, show (n + 1) * 2 = 2 * n + 1 + 1 by omega]
      omega
    have hnle : n ≤ 100000 := by
      have h1 : (n + 1) * 1 ≤ (n + 1) * 2 ^ (l + 1) := Nat.mul_le_mul_left _ (two_pow_pos _)
      omega
    have ih1 := fun w' h => refValue_any seed hs l (2 * n) w' h (by omega) hn1
    have ih2 := fun w' h => refValue_any seed hs l (2 * n + 1) w' h (by omega) hn2
    have HI1 := Lib.hid ih1
    have HI2 := Lib.hid ih2
    have HL := Lib.hid (show (bcs (valueD seed (l + 1) n)).length = 16 by rw [bcs_length]; exact valueD_len _ _ _)
    clear hp hn hn1 hn2 ih1 ih2 hpp
    unfold sv
    go_enter Tryd.func28, Tryd.ntmps28
    go_wp2_with (with_reducible refine alArr (z := zerosB 16) Tryd.ag_b16 (wn rfl) rfl ?_)
    intro w1 h2 hb
    go_wp2_with fail
    have hc1 := HI1.out w1 (ht.below hb ht.size)
    refine hc1.mono ?_
    rintro e w2 ⟨rfl, hb2⟩
    replace h2 := h2.below hb2 h2.lt
    replace hb := hb.trans (hb2.mono hb.size)
    clear hb2 hc1
    go_wp2_with fail
    have hc1 := HI2.out w2 (ht.below hb ht.size)
    refine hc1.mono ?_
    rintro e w3 ⟨rfl, hb2⟩
    replace h2 := h2.below hb2 h2.lt
    replace hb := hb.trans (hb2.mono hb.size)
    clear hb2 hc1
    go_wp2_with fail
    refine (refNode_any ((l + 1 : Nat) : Int) (n : Int) (valueD seed l (2 * n)) (valueD seed l (2 * n + 1)) w3 (ht.below hb ht.size) (isI64_nat (by omega)) (isI64_nat (by omega)) (valueD_len _ _ _) (valueD_len _ _ _)).mono ?_
    rintro e w4 ⟨rfl, hb2⟩
    replace h2 := h2.below hb2 h2.lt
    replace hb := hb.trans (hb2.mono hb.size)
    rw [show joinD ((l + 1 : Nat) : Int) (n : Int) (valueD seed l (2 * n)) (valueD seed l (2 * n + 1)) = valueD seed (l + 1) n from rfl]
    clear hb2
    go_wp2_with (with_reducible refine stArr (cs := bcs (valueD seed (l + 1) n)) (.tmp 6) (.tmp 26) Tryd.ag_b16 (wn rfl) rfl rfl rfl h2 (zerosB_len _) HL.out (bcs_one _) ?_)
    intro w6 h2 _ hbel
    go_wp2_with fail
    refine bodyPost_ret (v := .agg (bcs (valueD seed (l + 1) n)).toArray) ?_ rfl ⟨rfl, hb.trans (hbel _ (Nat.le_refl _))⟩
    exact res_cell1 _ Tryd.results28 Tryd.ag_b16 _ rfl HL.out (fun j u hu => by rw [Nat.zero_add]; exact h2.cell hu)
end Go.Proofs.YtienlndjhcmemaaDoor
/-
  Arithmetic on int at an operation, for operations taken first. No statement is proved here.
-/
namespace Go.Proofs.YtienlndjhcmemaaDoor
open Go.RowKit

section
variable {P : Program} {w : World} {o : Oper} {a : Act} {t ty : TypeId} {A B C : Int}
theorem addRun (x y : Operand) (ho : o.op = .binOp .add t x y ty) (hx : a.eval x = .int .i64 A) (hy : a.eval y = .int .i64 B) (hC : A + B = C) (h : -9223372036854775808 ≤ C ∧ C ≤ 9223372036854775807) : (execOp a.eval o).run P w = .ok (.value (.int .i64 C)) w := by
  have hw := IntWalk.i64_in C h
  unfold execOp
  simp [ho, hx, hy, eqGuard, binOp_add, Op.intArith, hC, hw]
theorem subRun (x y : Operand) (ho : o.op = .binOp .sub t x y ty) (hx : a.eval x = .int .i64 A) (hy : a.eval y = .int .i64 B) (hC : A - B = C) (h : -9223372036854775808 ≤ C ∧ C ≤ 9223372036854775807) : (execOp a.eval o).run P w = .ok (.value (.int .i64 C)) w := by
  have hw := IntWalk.i64_in C h
  unfold execOp
  simp [ho, hx, hy, eqGuard, binOp_sub, Op.intArith, hC, hw]
theorem mulRun (x y : Operand) (ho : o.op = .binOp .mul t x y ty) (hx : a.eval x = .int .i64 A) (hy : a.eval y = .int .i64 B) (hC : A * B = C) (h : -9223372036854775808 ≤ C ∧ C ≤ 9223372036854775807) : (execOp a.eval o).run P w = .ok (.value (.int .i64 C)) w := by
  have hw := IntWalk.i64_in C h
  unfold execOp
  simp [ho, hx, hy, eqGuard, binOp_mul, Op.intArith, hC, hw]
theorem shrRun {n : Nat} (x y : Operand) (ho : o.op = .binOp .shr t x y ty) (hx : a.eval x = .int .i64 A) (hy : a.eval y = .int .i64 (n : Int)) (_hn : n ≤ 64) : (execOp a.eval o).run P w = .ok (.value (.int .i64 (A / 2 ^ n))) w := by
  unfold execOp
  simp [ho, hx, hy, eqGuard, binOp_shr]
theorem shrNat {m n : Nat} (x y : Operand) (ho : o.op = .binOp .shr t x y ty) (hx : a.eval x = .int .i64 (m : Int)) (hy : a.eval y = .int .i64 (n : Int)) (hn : n ≤ 64) : (execOp a.eval o).run P w = .ok (.value (.int .i64 ((m / 2 ^ n : Nat) : Int))) w := by
  rw [shrRun x y ho hx hy hn]
  have : ((m / 2 ^ n : Nat) : Int) = (m : Int) / 2 ^ n := by simp
  rw [this]
theorem xorRun {m n : Nat} (x y : Operand) (ho : o.op = .binOp .xor t x y ty) (hx : a.eval x = .int .i64 (m : Int)) (hy : a.eval y = .int .i64 (n : Int)) (hm : m < 9223372036854775808) (hn : n < 9223372036854775808) : (execOp a.eval o).run P w = .ok (.value (.int .i64 ((m ^^^ n : Nat) : Int))) w := by
  have hx2 : m ^^^ n < 2 ^ 63 := Nat.xor_lt_two_pow (by omega) (by omega)
  unfold execOp
  simp [ho, hx, hy, eqGuard, binOp_xor, Op.intBits]
  rw [show IntKind.i64.bits = 64 from rfl, Nat.mod_eq_of_lt (by omega), Nat.mod_eq_of_lt (by omega)]
  exact IntWalk.i64_in _ (by omega)
end
end Go.Proofs.YtienlndjhcmemaaDoor
/-
  More operations by hand: a cell is loaded, the address of an element, rows of different types. No statement is proved here.
-/
namespace Go.Proofs.YtienlndjhcmemaaDoor
open Go.RowKit

section
variable {P : Program} {w : World} {ops : Array Oper} {rest : List Oper} {o : Oper} {a : Act} {Q : Exit → Act → World → Prop}
/-- One cell is loaded. -/
theorem ldOne {ty : TypeId} {p : Addr} {v : Value} (x : Operand) (hu : ((P.underlying ty).map fun d => match d with | .struct _ | .array _ _ => true | _ => false) = some false) (hgd : Region.wanted o (yielded ops a.tmps) = true)
    (ho : o.op = .load ty x) (hx : a.eval x = .pointer (some p)) (hc : w.cell? p = some v) (hk : wpList P ops Q rest (a.put o.dst v) w) : wpList P ops Q (o :: rest) a w := by
  refine opVal (v := v) hgd ?_ hk
  obtain ⟨d, hd, h2⟩ := Option.map_eq_some_iff.1 hu
  have ha : (isAgg ty).run P w = .ok false w := by
    unfold isAgg
    rw [Sem.run_bind, run_underlying hd w]
    cases d <;> simp_all
  have hl : (Instr.loadAt ty (.pointer (some p))).run P w = .ok v w := by
    simp [Instr.loadAt, Instr.sureAddr, loadVar, ha, hc]
  unfold execOp
  simp only [ho, hx, Sem.run_bind, Sem.run_pure, hl, Result.andThen_ok]
/-- The address of an element of a slice. -/
theorem iaRow {t e : TypeId} {z : Value} {size bytes b off n c : Nat} {kk : IntKind} {K : Int} (x y : Operand) (k : Nat) (T : SlTy P t e z size bytes) (hgd : Region.wanted o (yielded ops a.tmps) = true)
    (ho : o.op = .indexAddr t x y) (hx : a.eval x = .slice (some ⟨b, off, none⟩) n c) (hy : a.eval y = .int kk K) (hK : K = (k : Int)) (hk : k < n)
    (h : wpList P ops Q rest (a.put o.dst (.pointer (some ⟨b, off + k * size, none⟩))) w) : wpList P ops Q (o :: rest) a w := by
  subst hK
  obtain ⟨i, hi, hz0, hz1, hz2⟩ := info_parts T.inf
  refine opVal (v := .pointer (some ⟨b, off + k * size, none⟩)) hgd ?_ h
  have ht : P.underlying t = some (.slice (P.elem t)) := by rw [T.und]; simp [Program.elem, T.und]
  have he : P.elem t = e := by have := T.und; rw [this] at ht; injection ht with ht; injection ht with ht; exact ht.symm
  have hr := run_indexAt_slice (P := P) w t ⟨b, off, none⟩ n c kk (k : Int) ht
  rw [if_pos ⟨by omega, by omega⟩, he, Int.toNat_natCast] at hr
  unfold execOp
  simp only [ho, hx, hy, Sem.run_bind, Sem.run_pure]
  rw [hr]
  simp [sizeOf, typeInfo, hi, hz1, add_off]
theorem iaRun {w : World} {o : Oper} {a : Act} {t e : TypeId} {b off n s : Nat} {kk : IntKind} {K : Int} (x y : Operand) (k : Nat) (hu : P.underlying t = some (.array n e)) (he : (P.info? e).map (·.size) = some s)
    (ho : o.op = .indexAddr t x y) (hx : a.eval x = .pointer (some ⟨b, off, none⟩)) (hy : a.eval y = .int kk K) (hK : K = (k : Int)) (hk : k < n) : (execOp a.eval o).run P w = .ok (.value (.pointer (some ⟨b, off + k * s, none⟩))) w := by
  subst hK
  obtain ⟨j, hj, hs⟩ := Option.map_eq_some_iff.1 he
  have hl : P.arrayLen t = n := by simp [Program.arrayLen, hu]
  have hel : P.elem t = e := by simp [Program.elem, hu]
  have ht : P.underlying t = some (.array (P.arrayLen t) (P.elem t)) := by rw [hl, hel]; exact hu
  have hr := run_indexAt_array (P := P) w t ⟨b, off, none⟩ kk (k : Int) ht
  rw [hl, if_pos ⟨by omega, by omega⟩, hel, Int.toNat_natCast] at hr
  unfold execOp
  simp only [ho, hx, hy, Sem.run_bind, Sem.run_pure]
  rw [hr]
  simp [sizeOf, typeInfo, hj, hs, add_off]
/-- The address of an element of an array variable. -/
theorem iaArr {t e : TypeId} {b off n s : Nat} {kk : IntKind} {K : Int} (x y : Operand) (k : Nat) (hu : P.underlying t = some (.array n e)) (he : (P.info? e).map (·.size) = some s) (hgd : Region.wanted o (yielded ops a.tmps) = true)
    (ho : o.op = .indexAddr t x y) (hx : a.eval x = .pointer (some ⟨b, off, none⟩)) (hy : a.eval y = .int kk K) (hK : K = (k : Int)) (hk : k < n)
    (h : wpList P ops Q rest (a.put o.dst (.pointer (some ⟨b, off + k * s, none⟩))) w) : wpList P ops Q (o :: rest) a w := by
  subst hK
  obtain ⟨j, hj, hs⟩ := Option.map_eq_some_iff.1 he
  refine opVal (v := .pointer (some ⟨b, off + k * s, none⟩)) hgd ?_ h
  have hl : P.arrayLen t = n := by simp [Program.arrayLen, hu]
  have hel : P.elem t = e := by simp [Program.elem, hu]
  have ht : P.underlying t = some (.array (P.arrayLen t) (P.elem t)) := by rw [hl, hel]; exact hu
  have hr := run_indexAt_array (P := P) w t ⟨b, off, none⟩ kk (k : Int) ht
  rw [hl, if_pos ⟨by omega, by omega⟩, hel, Int.toNat_natCast] at hr
  unfold execOp
  simp only [ho, hx, hy, Sem.run_bind, Sem.run_pure]
  rw [hr]
  simp [sizeOf, typeInfo, hj, hs, add_off]
end
theorem iaRowRun {P : Program} {w : World} {o : Oper} {a : Act} {t e : TypeId} {z : Value} {size bytes b off n c : Nat} {kk : IntKind} {K : Int} (x y : Operand) (k : Nat) (T : SlTy P t e z size bytes)
    (ho : o.op = .indexAddr t x y) (hx : a.eval x = .slice (some ⟨b, off, none⟩) n c) (hy : a.eval y = .int kk K) (hK : K = (k : Int)) (hk : k < n) : (execOp a.eval o).run P w = .ok (.value (.pointer (some ⟨b, off + k * size, none⟩))) w := by
  subst hK
  obtain ⟨i, hi, hz0, hz1, hz2⟩ := info_parts T.inf
  have ht : P.underlying t = some (.slice (P.elem t)) := by rw [T.und]; simp [Program.elem, T.und]
  have he : P.elem t = e := by have := T.und; rw [this] at ht; injection ht with ht; injection ht with ht; exact ht.symm
  have hr := run_indexAt_slice (P := P) w t ⟨b, off, none⟩ n c kk (k : Int) ht
  rw [if_pos ⟨by omega, by omega⟩, he, Int.toNat_natCast] at hr
  unfold execOp
  simp only [ho, hx, hy, Sem.run_bind, Sem.run_pure]
  rw [hr]
  simp [sizeOf, typeInfo, hi, hz1, add_off]
theorem rd_elem {w : World} {B b off n c k : Nat} {L : List UInt8} (h : Rd w B 16 (some ⟨b, off, none⟩) n c (bcs L)) (hk : k < n) : ∀ j u, (bcs ((L.drop (k * 16)).take 16))[j]? = some u → w.cell? ⟨b, off + k * 16 + j, none⟩ = some u := by
  obtain ⟨b', off', e1, _, hc⟩ := h.cells (by omega)
  injection e1 with e1
  injection e1 with e1 e2
  subst e1; subst e2
  intro j u hu
  have hl := h.len
  rw [bcs_length] at hl
  have hj := (List.getElem?_eq_some_iff.1 hu).1
  rw [bcs_length, List.length_take, List.length_drop] at hj
  rw [Nat.add_assoc]
  refine hc (k * 16 + j) u ?_
  rw [← hu]
  unfold bcs
  rw [List.getElem?_map, List.getElem?_map, List.getElem?_take, List.getElem?_drop, if_pos (by omega)]
theorem own_of_arr {w : World} {b n size base : Nat} {t : TypeId} {cur : List Value} (h : Arr w b t cur) (hl : cur.length = n * size) (hb : base ≤ b) (hn : n ≤ maxLen) : w.ownsRow base t size (.slice (some ⟨b, 0, none⟩) n n) n cur :=
  ⟨hl, Or.inr ⟨b, n, cur.toArray, rfl, hb, h, Nat.le_refl _, hn, by simpa using hl, by simp; exact List.take_of_length_le (by omega)⟩⟩
/-- Rows of different types lie in different blocks. -/
theorem own_ne {w : World} {base base' size size' n n' : Nat} {e e' : TypeId} {v v' : Value} {xs xs' : List Value} (h : w.ownsRow base e size v n xs) (h' : w.ownsRow base' e' size' v' n' xs') (hne : e ≠ e') : v.ownBlock = none ∨ v.ownBlock ≠ v'.ownBlock := by
  rcases h.2 with ⟨rfl, _⟩ | ⟨g, cap, cur, rfl, _, hh, _⟩
  · exact Or.inl rfl
  · right
    rcases h'.2 with ⟨rfl, _⟩ | ⟨g', cap', cur', rfl, _, hh', _⟩
    · simp [Value.ownBlock]
    · intro he
      have : g = g' := by simpa [Value.ownBlock] using he
      subst this
      rw [hh] at hh'
      injection hh' with hh'
      injection hh' with _ ht
      exact hne ht
theorem own_arr_ne {w : World} {base size n b : Nat} {e t : TypeId} {v : Value} {xs cur : List Value} (h : w.ownsRow base e size v n xs) (h' : Arr w b t cur) (hne : e ≠ t) : ∀ g, v.ownBlock = some g → g ≠ b := by
  rcases h.2 with ⟨rfl, _⟩ | ⟨g', cap, cur', rfl, _, hh, _⟩
  · intro g hg; simp [Value.ownBlock] at hg
  · intro g hg he
    have : g' = g := by simpa [Value.ownBlock] using hg
    subst this
    subst he
    unfold Arr at h'
    rw [hh] at h'
    injection h' with h'
    injection h' with _ ht
    exact hne ht
theorem own_setCell {w : World} {base size n b i : Nat} {e t : TypeId} {v u : Value} {xs cur : List Value} (h : w.ownsRow base e size v n xs) (h' : Arr w b t cur) (hne : e ≠ t) : (w.setCell ⟨b, i, none⟩ u).ownsRow base e size v n xs := by
  have hn := own_arr_ne h h' hne
  refine h.kept (row := some b) ⟨rfl, rfl, rfl, by simp [World.setCell], fun k hk hne' => ?_⟩ ?_
  · exact Below.heap_setCell w ⟨b, i, none⟩ u k (by
      intro e2
      apply hne'
      first | exact congrArg some e2 | exact congrArg some e2.symm)
  · cases hv : v.ownBlock with
    | none => exact Or.inl rfl
    | some g => exact Or.inr (fun e2 => hn g hv (by injection e2))
theorem own_row {w w' : World} {base size n b : Nat} {e t : TypeId} {v : Value} {xs cur : List Value} (h : w.ownsRow base e size v n xs) (h' : Arr w b t cur) (hne : e ≠ t) (hg : w.grownBy w' (some b)) : w'.ownsRow base e size v n xs := by
  have hn := own_arr_ne h h' hne
  refine h.kept hg ?_
  cases hv : v.ownBlock with
  | none => exact Or.inl rfl
  | some g => exact Or.inr (fun e2 => hn g hv (by injection e2))
theorem own_lt_below {w w' : World} {base size n B : Nat} {e : TypeId} {v : Value} {xs : List Value} (h : w.ownsRow base e size v n xs) (hb : Below B w w') (hlt : ∀ k, v.ownBlock = some k → k < B) : w'.ownsRow base e size v n xs := by
  refine ⟨h.1, ?_⟩
  rcases h.2 with h2 | ⟨g, cap, cur, rfl, h3, h4, h5⟩
  · exact Or.inl h2
  · exact Or.inr ⟨g, cap, cur, rfl, h3, (hb.block g (hlt g rfl)).trans h4, h5⟩
theorem Tryd.und_int : Tryd.prog.underlying 3 = some (.int .i64) := by kernel_rfl
theorem Tryd.one_int : (Tryd.prog.info? 3).map (·.size) = some 1 := by kernel_rfl
theorem spl_one (cur : List Value) (i : Nat) (u : Value) (h : i < cur.length) : spl cur i [u] = cur.set i u := by
  unfold spl
  apply List.ext_getElem?
  intro j
  rw [List.getElem?_set]
  have hl : (cur.take i).length = i := by rw [List.length_take]; omega
  by_cases h1 : j < i
  · rw [List.append_assoc, List.getElem?_append_left (by omega), List.getElem?_take, if_pos h1, if_neg (by omega)]
  · by_cases h2 : j = i
    · subst h2
      rw [List.append_assoc, List.getElem?_append_right (by omega), hl, Nat.sub_self, if_pos rfl, if_pos h]
      rfl
    · rw [List.getElem?_append_right (by rw [List.length_append]; simp; omega), if_neg (by omega), List.length_append, hl, List.getElem?_drop]
      congr 1
      simp
      omega
/-- One cell of a block is set. -/
theorem stOne {P : Program} {w : World} {ops : Array Oper} {rest : List Oper} {o : Oper} {a : Act} {Q : Exit → Act → World → Prop} {g i : Nat} {t ty : TypeId} {cur : List Value} {u : Value} (x y : Operand) (he : (P.info? ty).map (·.size) = some 1) (hgd : Region.wanted o (yielded ops a.tmps) = true) (ho : o.op = .store ty x y)
    (hx : a.eval x = .pointer (some ⟨g, i, none⟩)) (hy : a.eval y = u) (hu : u.cells = #[u]) (h1 : u.oneCell' = true) (hA : Arr w g t cur) (hi : i < cur.length)
    (h : ∀ w', Arr w' g t (cur.set i u) → (∀ b' t' c', b' ≠ g → Arr w b' t' c' → Arr w' b' t' c') → (∀ B, B ≤ g → Below B w w') → w.grownBy w' (some g) → wpList P ops Q rest (a.put o.dst undef) w') : wpList P ops Q (o :: rest) a w := by
  obtain ⟨j, hj, hs⟩ := Option.map_eq_some_iff.1 he
  have hst := run_storeCells_spl (P := P) hA (off := i) [u] (by simp; omega) (by intro v hv; simp at hv; subst hv; exact h1)
  rw [spl_one cur i u hi] at hst
  have hrun : (storeVar ty ⟨g, i, none⟩ u).run P w = .ok () (w.setRow g (cur.set i u).toArray) := by
    simp only [storeVar, sizeOf, typeInfo]
    simp [hj, hs, hu]
    simpa using hst
  refine wpList_want hgd fun K hK => ?_
  unfold Oper.wp execOp
  simp only [ho, hx, hy, Instr.storeAt, Instr.sureAddr, Sem.run_bind, Sem.run_pure, Result.andThen_ok, hrun]
  refine hK _ _ (h _ (hA.setRow _) (fun b' t' c' hne hA' => hA'.setRow_other (fun e => hne e.symm) _) (fun B hB => below_setRow w hB _) ⟨rfl, rfl, rfl, by simp [World.setRow], fun k hk hne => ?_⟩)
  unfold World.setRow
  have : g ≠ k := fun e => hne (by rw [e])
  simp [Array.getElem?_modify, this]
end Go.Proofs.YtienlndjhcmemaaDoor
/-
  The closures of tree and of Verify: what they return.
-/
namespace Go.Proofs.YtienlndjhcmemaaDoor
open Go.RowKit

def GTreeClo (seed : List UInt8) (i j : Nat) (ix_ : Nat) (v : Value) (_w : World) : Prop :=
  match ix_ with
  | 0 => v = .int .i64 (i : Int)
  | 2 => v = sv seed
  | 3 => v = .int .i64 (i : Int)
  | 5 => v = .agg (bcs (startD seed i j)).toArray
  | 6 => v = .agg (bcs (chainD seed i 15 j)).toArray
  | _ => True
set_option maxRecDepth 100000 in
set_option maxHeartbeats 1000000 in
theorem treeClo_any (seed : List UInt8) (i j gi gs : Nat) (w : World) (ht : Tabs w) (hs : seed.length ≤ 100000000) (hi : i ≤ 1000000) (hj : j ≤ 1000000) (hi1 : Arr w gi 3 [.int .i64 (i : Int)]) (hs1 : Arr w gs 9 [sv seed]) :
    Calls Tryd.prog 47 #[.int .i64 (j : Int), .pointer (some ⟨gi, 0, none⟩), .pointer (some ⟨gs, 0, none⟩)] w fun e w' => e = .returned (.agg (bcs (chainD seed i 15 j)).toArray) ∧ Below w.heap.size w w' := by
  have HL := Lib.hid (show (bcs (chainD seed i 15 j)).length = 16 by rw [bcs_length]; exact chainD_len _ _ _ _)
  have HCL : Hid (∀ w', Tabs w' → Calls Tryd.prog 29 #[.int .i64 (i : Int), .int .i64 (j : Int), .agg (bcs (startD seed i j)).toArray, .int .i64 0, .int .i64 15] w' fun e w'' => e = .returned (.agg (bcs (chainD seed i 15 j)).toArray) ∧ Below w'.heap.size w' w'') := Lib.hid (fun w' h => climb15 i j (startD seed i j) w' h (isI64_nat hi) (isI64_nat hj) (startD_len _ _ _))
  have hi64 := isI64_nat hi
  have hj64 := isI64_nat hj
  have hg : w.heap.size ≤ w.heap.size := Nat.le_refl _
  go_enter Tryd.func47, Tryd.ntmps47
  go_wp2_with (with_reducible refine alArr (z := zerosB 16) Tryd.ag_b16 (wn rfl) rfl ?_)
  intro w1 h4 bw1
  replace hi1 := hi1.below bw1 hi1.lt
  replace hs1 := hs1.below bw1 hs1.lt
  have hb := bw1
  clear bw1
  go_wp2_with fail
  refine aStart (by kernel_rfl) ?_
  replace hi1 := hi1.drew
  replace hs1 := hs1.drew
  replace h4 := h4.drew
  replace hb := hb.drew
  generalize w1.drew = wd at *
  refine aTake (i := 1) (v := .int .i64 (j : Int)) rfl (by kernel_rfl) (wn rfl) (fun _ _ _ h => h) (fun w => by kernel_rfl) ?_
  refine aTake (i := 4) (v := .int .i64 (j : Int)) rfl (by kernel_rfl) (wn rfl) (fun _ _ _ h => h) (fun w => by kernel_rfl) ?_
  refine rgFloat [(0, 5), (2, 7), (3, 8), (5, 10), (6, 11)] (GTreeClo seed i j) _ 1 rfl (by kernel_rfl) ?mono ?step ?fin
  case mono =>
    intro p hp v w w' h hE
    simp only [List.mem_cons, List.not_mem_nil, or_false] at hp
    rcases hp with rfl | rfl | rfl | rfl | rfl
    · exact h
    · exact h
    · exact h
    · exact h
    · exact h
  case step =>
    intro p hp
    simp only [List.mem_cons, List.not_mem_nil, or_false] at hp
    rcases hp with rfl | rfl | rfl | rfl | rfl
    · refine ⟨_, rfl, rfl, fun a w' hF hE hG => ?_⟩
      refine ldOne (p := ⟨gi, 0, none⟩) (.tmp 1) (by kernel_rfl) (wn rfl) rfl ((hF.eval 1 (by kernel_rfl)).trans (by kernel_rfl)) ((hi1.below hE hi1.lt).cell (i := 0) rfl) ?_
      exact ⟨_, rfl, Below.refl _ _, rfl⟩
    · refine ⟨_, rfl, rfl, fun a w' hF hE hG => ?_⟩
      refine ldOne (p := ⟨gs, 0, none⟩) (.tmp 2) (by kernel_rfl) (wn rfl) rfl ((hF.eval 2 (by kernel_rfl)).trans (by kernel_rfl)) ((hs1.below hE hs1.lt).cell (i := 0) rfl) ?_
      exact ⟨_, rfl, Below.refl _ _, rfl⟩
    · refine ⟨_, rfl, rfl, fun a w' hF hE hG => ?_⟩
      refine ldOne (p := ⟨gi, 0, none⟩) (.tmp 1) (by kernel_rfl) (wn rfl) rfl ((hF.eval 1 (by kernel_rfl)).trans (by kernel_rfl)) ((hi1.below hE hi1.lt).cell (i := 0) rfl) ?_
      exact ⟨_, rfl, Below.refl _ _, rfl⟩
    · refine ⟨_, rfl, rfl, fun a w' hF hE hG => ?_⟩
      have hx7 : a.tmps.getD 7 undef = sv seed := hG (2, 7) (by simp) (by kernel_rfl)
      have hx8 : a.tmps.getD 8 undef = .int .i64 (i : Int) := hG (3, 8) (by simp) (by kernel_rfl)
      refine callOp 30 [sv seed, .int .i64 (i : Int), .int .i64 (j : Int)] [] [] (by kernel_rfl) (wn rfl) rfl rfl (by show [a.tmps.getD 7 undef, a.tmps.getD 8 undef, a.eval (.tmp 9)] = _; rw [hx7, hx8, hF.eval 9 (by kernel_rfl)]; first | done | kernel_rfl) ?_
      refine (start_any seed i j w' (ht.below (hb.trans (hE.mono hb.size)) ht.size) hi64 hj64 hs).mono ?_
      rintro e w2 ⟨rfl, hb2⟩
      exact ⟨_, rfl, ⟨_, rfl, hb2, rfl⟩⟩
    · refine ⟨_, rfl, rfl, fun a w' hF hE hG => ?_⟩
      have hx5 : a.tmps.getD 5 undef = .int .i64 (i : Int) := hG (0, 5) (by simp) (by kernel_rfl)
      have hx10 : a.tmps.getD 10 undef = .agg (bcs (startD seed i j)).toArray := hG (5, 10) (by simp) (by kernel_rfl)
      refine callOp 29 [.int .i64 (i : Int), .int .i64 (j : Int), .agg (bcs (startD seed i j)).toArray, .int .i64 0, .int .i64 15] [] [] (by kernel_rfl) (wn rfl) rfl rfl (by show [a.tmps.getD 5 undef, a.eval (.tmp 6), a.tmps.getD 10 undef, a.eval (.const (.int .i64 0)), a.eval (.const (.int .i64 15))] = _; rw [hx5, hF.eval 6 (by kernel_rfl), hx10]; first | done | kernel_rfl) ?_
      refine (HCL.out w' (ht.below (hb.trans (hE.mono hb.size)) ht.size)).mono ?_
      rintro e w2 ⟨rfl, hb2⟩
      exact ⟨_, rfl, ⟨_, rfl, hb2, rfl⟩⟩
  case fin =>
    intro a wf hF hE hG
    have qf : a.tmps.getD 11 undef = .agg (bcs (chainD seed i 15 j)).toArray := hG (6, 11) (by simp)
    replace h4 := h4.below hE h4.lt
    have hszf := hb.size
    replace hb := hb.trans (hE.mono hb.size)
    rw [hF.eq]
    simp only [putsX]
    rw [qf]
    generalize a.tmps.getD 5 undef = x5
    generalize a.tmps.getD 7 undef = x7
    generalize a.tmps.getD 8 undef = x8
    generalize a.tmps.getD 10 undef = x10
    clear hG hF hE qf
    refine aNext (i := 7) (by kernel_rfl) rfl ?_
    refine stArr (b := w.heap.size) (cs := bcs (chainD seed i 15 j)) (.tmp 4) (.tmp 11) Tryd.ag_b16 (wn rfl) rfl (by kernel_rfl) (by kernel_rfl) h4 (zerosB_len _) HL.out (bcs_one _) ?_
    intro w4 h4 hkeep hbel
    replace hb := hb.trans (hbel _ hg)
    refine aDone (by kernel_rfl) ?_
    simp only [Act.put, List.setIfInBounds_toArray, List.set_cons_succ, List.set_cons_zero]
    go_wp2_with fail
    refine bodyPost_ret (v := .agg (bcs (chainD seed i 15 j)).toArray) ?_ rfl ⟨rfl, hb⟩
    exact res_cell1 _ Tryd.results47 Tryd.ag_b16 _ rfl HL.out (fun j u hu => by rw [Nat.zero_add]; exact h4.cell hu)
set_option maxRecDepth 100000 in
set_option maxHeartbeats 1000000 in
theorem at_any (sig : List UInt8) (U k gt gu : Nat) (w : World) (h1 : Arr w gt 9 [sv sig]) (h2 : Arr w gu 3 [.int .i64 (U : Int)]) (hl : sig.length ≤ 1000000) (hk : U + k * 16 + 16 ≤ sig.length) :
    Calls Tryd.prog 38 #[.int .i64 (k : Int), .pointer (some ⟨gt, 0, none⟩), .pointer (some ⟨gu, 0, none⟩)] w fun e w' => e = .returned (.agg (bcs (part (sig.drop U) k)).toArray) ∧ Below w.heap.size w w' := by
  have hp : (sig.drop (U + k * 16)).take 16 = part (sig.drop U) k := by unfold part; rw [List.drop_drop, Nat.mul_comm 16 k]
  have hpl : 16 ≤ (sig.drop (U + k * 16)).length := by rw [List.length_drop]; omega
  have HL := Lib.hid (show (bcs (part (sig.drop U) k)).length = 16 by rw [bcs_length, ← hp, List.length_take]; omega)
  have HP := Lib.hid hp
  have HPL := Lib.hid hpl
  have hg : w.heap.size ≤ w.heap.size := Nat.le_refl _
  clear hp hpl
  go_enter Tryd.func38, Tryd.ntmps38
  go_wp2_with (with_reducible refine alArr (z := zerosB 16) Tryd.ag_b16 (wn rfl) rfl ?_)
  intro w1 h4 bw1
  replace h1 := h1.below bw1 h1.lt
  replace h2 := h2.below bw1 h2.lt
  have hb := bw1
  clear bw1
  have c1 : w1.cell? ⟨gt, 0, none⟩ = some (.string ⟨sig.toArray⟩) := h1.cell (i := 0) rfl
  have c2 : w1.cell? ⟨gu, 0, none⟩ = some (.int .i64 (U : Int)) := h2.cell (i := 0) rfl
  go_wp2_with (with_reducible refine slStrL (.tmp 5) (.tmp 9) sig (U + k * 16) (wn rfl) rfl rfl rfl (by omega) (by omega) Tryd.und_str ?_)
  clear c1 c2
  go_wp2_with fail
  refine (sgDigest_any (sig.drop (U + k * 16)) w1 HPL.out).mono ?_
  rintro e w2 ⟨rfl, bw2⟩
  replace h1 := h1.below bw2 h1.lt
  replace h2 := h2.below bw2 h2.lt
  replace h4 := h4.below bw2 h4.lt
  replace hb := hb.trans (bw2.mono hb.size)
  clear bw2
  rw [HP.out]
  clear h1 h2
  go_wp2_with (with_reducible refine stArr (cs := bcs (part (sig.drop U) k)) (.tmp 4) (.tmp 11) Tryd.ag_b16 (wn rfl) rfl rfl rfl h4 (zerosB_len _) HL.out (bcs_one _) ?_)
  intro w3 h4 hkeep hbel
  replace hb := hb.trans (hbel _ hg)
  clear hkeep hbel
  go_wp2_with fail
  refine bodyPost_ret (v := (.agg (bcs (part (sig.drop U) k)).toArray)) ?_ rfl ⟨rfl, hb⟩
  exact res_cell1 _ Tryd.results38 Tryd.ag_b16 _ rfl HL.out (fun j u hu => by rw [Nat.zero_add]; exact h4.cell hu)

theorem digits_get (D : List UInt8) (h : D.length = 16) (j : Nat) (hj : j < 35) : (ivs (digitsD D))[j]? = some (.int .i64 ((digAt D j : Nat) : Int)) := by
  have hlt : j < (digitsD D).length := by rw [digitsD_len h]; exact hj
  unfold ivs digAt
  rw [List.getElem?_map, List.getElem?_eq_getElem hlt]
  rfl
theorem climbTo (i j : Int) (d : List UInt8) (a : Nat) (w : World) (ht : Tabs w) (hi : isI64 i) (hj : isI64 j) (hd : d.length = 16) (ha : a ≤ 15) :
    Calls Tryd.prog 29 #[.int .i64 i, .int .i64 j, .agg (bcs d).toArray, .int .i64 (a : Int), .int .i64 15] w fun e w' => e = .returned (.agg (bcs (climbD i j a d (15 - a))).toArray) ∧ Below w.heap.size w w' := by
  have := climb_any i j d a (15 - a) w ht hi hj hd (by omega)
  rwa [show ((a + (15 - a) : Nat) : Int) = 15 by omega] at this
theorem refClimbTo (i j : Int) (d : List UInt8) (a : Nat) (w : World) (ht : TabsR w) (hi : isI64 i) (hj : isI64 j) (hd : d.length = 16) (ha : a ≤ 15) :
    Calls Tryd.prog 31 #[.int .i64 i, .int .i64 j, .agg (bcs d).toArray, .int .i64 (a : Int), .int .i64 15] w fun e w' => e = .returned (.agg (bcs (climbD i j a d (15 - a))).toArray) ∧ Below w.heap.size w w' := by
  have := refClimb_any i j d a (15 - a) w ht hi hj hd (by omega)
  rwa [show ((a + (15 - a) : Nat) : Int) = 15 by omega] at this
theorem part_len {r : List UInt8} {k : Nat} (h : k * 16 + 16 ≤ r.length) : (part r k).length = 16 := by
  unfold part
  rw [List.length_take, List.length_drop]
  omega
/-- The last value of a chain, out of a signature. -/
def endD (i : Nat) (D r : List UInt8) (j : Nat) : List UInt8 := climbD i j (digAt D j) (part r j) (15 - digAt D j)
theorem endD_len {i j : Nat} {D r : List UInt8} (h : j * 16 + 16 ≤ r.length) : (endD i D r j).length = 16 := climbD_len _ _ _ (part_len h) _
def GVerClo (D r : List UInt8) (i j gt gu : Nat) (ix_ : Nat) (v : Value) (_w : World) : Prop :=
  match ix_ with
  | 0 => v = .int .i64 (i : Int)
  | 2 => v = .func (.func 38) #[] #[.pointer (some ⟨gt, 0, none⟩), .pointer (some ⟨gu, 0, none⟩)]
  | 4 => v = .agg (bcs (part r j)).toArray
  | 7 => v = .int .i64 ((digAt D j : Nat) : Int)
  | 8 => v = .agg (bcs (endD i D r j)).toArray
  | _ => True
set_option maxRecDepth 100000 in
set_option maxHeartbeats 1000000 in
theorem verClo_any (sig D : List UInt8) (U i j gi ga gd gt gu : Nat) (w : World) (ht : Tabs w) (hi : i ≤ 1000000) (hj : j < 35) (hD : D.length = 16) (hl : sig.length ≤ 1000000) (hk : U + j * 16 + 16 ≤ sig.length)
    (h1 : Arr w gi 3 [.int .i64 (i : Int)]) (h2 : Arr w ga 60 [.func (.func 38) #[] #[.pointer (some ⟨gt, 0, none⟩), .pointer (some ⟨gu, 0, none⟩)]]) (h3 : Arr w gd 25 (ivs (digitsD D)))
    (h4 : Arr w gt 9 [sv sig]) (h5 : Arr w gu 3 [.int .i64 (U : Int)]) :
    Calls Tryd.prog 41 #[.int .i64 (j : Int), .pointer (some ⟨gi, 0, none⟩), .pointer (some ⟨ga, 0, none⟩), .pointer (some ⟨gd, 0, none⟩)] w fun e w' => e = .returned (.agg (bcs (endD i D (sig.drop U) j)).toArray) ∧ Below w.heap.size w w' := by
  have hrl : j * 16 + 16 ≤ (sig.drop U).length := by rw [List.length_drop]; omega
  have HCL : Hid (∀ w', Tabs w' → Calls Tryd.prog 29 #[.int .i64 (i : Int), .int .i64 (j : Int), .agg (bcs (part (sig.drop U) j)).toArray, .int .i64 ((digAt D j : Nat) : Int), .int .i64 15] w' fun e w'' => e = .returned (.agg (bcs (endD i D (sig.drop U) j)).toArray) ∧ Below w'.heap.size w' w'') := Lib.hid (fun w' h => climbTo i j (part (sig.drop U) j) (digAt D j) w' h (isI64_nat hi) (isI64_nat (by omega)) (part_len hrl) (digAt_le _ _))
  have HAT := Lib.hid (fun w' (a : Arr w' gt 9 [sv sig]) (b : Arr w' gu 3 [.int .i64 (U : Int)]) => at_any sig U j gt gu w' a b hl hk)
  have HL := Lib.hid (show (bcs (endD i D (sig.drop U) j)).length = 16 by rw [bcs_length]; exact endD_len hrl)
  have HDG := Lib.hid (show (ivs (digitsD D))[0 + j * 1]? = some (.int .i64 ((digAt D j : Nat) : Int)) by rw [Nat.zero_add, Nat.mul_one]; exact digits_get D hD j hj)
  have hg : w.heap.size ≤ w.heap.size := Nat.le_refl _
  clear hrl
  generalize sig.drop U = r at *
  go_enter Tryd.func41, Tryd.ntmps41
  go_wp2_with (with_reducible refine alArr (z := zerosB 16) Tryd.ag_b16 (wn rfl) rfl ?_)
  intro w1 h6 bw1
  replace h1 := h1.below bw1 h1.lt
  replace h2 := h2.below bw1 h2.lt
  replace h3 := h3.below bw1 h3.lt
  replace h4 := h4.below bw1 h4.lt
  replace h5 := h5.below bw1 h5.lt
  have hb := bw1
  clear bw1
  go_wp2_with fail
  refine aStart (by kernel_rfl) ?_
  replace h1 := h1.drew
  replace h2 := h2.drew
  replace h3 := h3.drew
  replace h4 := h4.drew
  replace h5 := h5.drew
  replace h6 := h6.drew
  replace hb := hb.drew
  generalize w1.drew = wd at *
  refine aTake (i := 1) (v := .int .i64 (j : Int)) rfl (by kernel_rfl) (wn rfl) (fun _ _ _ h => h) (fun w => by kernel_rfl) ?_
  refine aTake (i := 3) (v := .int .i64 (j : Int)) rfl (by kernel_rfl) (wn rfl) (fun _ _ _ h => h) (fun w => by kernel_rfl) ?_
  refine aTake (i := 5) (v := .int .i64 (j : Int)) rfl (by kernel_rfl) (wn rfl) (fun _ _ _ h => h) (fun w => by kernel_rfl) ?_
  refine aTake (i := 6) (v := .pointer (some ⟨gd, 0 + j * 1, none⟩)) rfl (by kernel_rfl) (wn rfl) (fun _ _ _ h => h) (fun w => iaRun (kk := .i64) (.tmp 3) (.tmp 11) j Tryd.arr_i35 (by kernel_rfl) rfl (by kernel_rfl) (by kernel_rfl) rfl hj) ?_
  refine rgFloat [(0, 6), (2, 8), (4, 10), (7, 13), (8, 14)] (GVerClo D r i j gt gu) _ 1 rfl (by kernel_rfl) ?mono ?step ?fin
  case mono =>
    intro p hp v w w' h hE
    simp only [List.mem_cons, List.not_mem_nil, or_false] at hp
    rcases hp with rfl | rfl | rfl | rfl | rfl
    · exact h
    · exact h
    · exact h
    · exact h
    · exact h
  case step =>
    intro p hp
    simp only [List.mem_cons, List.not_mem_nil, or_false] at hp
    rcases hp with rfl | rfl | rfl | rfl | rfl
    · refine ⟨_, rfl, rfl, fun a w' hF hE hG => ?_⟩
      refine ldOne (p := ⟨gi, 0, none⟩) (.tmp 1) (by kernel_rfl) (wn rfl) rfl ((hF.eval 1 (by kernel_rfl)).trans (by kernel_rfl)) ((h1.below hE h1.lt).cell (i := 0) rfl) ?_
      exact ⟨_, rfl, Below.refl _ _, rfl⟩
    · refine ⟨_, rfl, rfl, fun a w' hF hE hG => ?_⟩
      refine ldOne (p := ⟨ga, 0, none⟩) (.tmp 2) (by kernel_rfl) (wn rfl) rfl ((hF.eval 2 (by kernel_rfl)).trans (by kernel_rfl)) ((h2.below hE h2.lt).cell (i := 0) rfl) ?_
      exact ⟨_, rfl, Below.refl _ _, rfl⟩
    · refine ⟨_, rfl, rfl, fun a w' hF hE hG => ?_⟩
      refine callOp 38 [.int .i64 (j : Int)] [] [.pointer (some ⟨gt, 0, none⟩), .pointer (some ⟨gu, 0, none⟩)] (by kernel_rfl) (wn rfl) rfl (show a.tmps.getD 8 undef = _ from hG (2, 8) (by simp) (by kernel_rfl)) (by show [a.eval (.tmp 9)] = _; rw [hF.eval 9 (by kernel_rfl)]; first | done | kernel_rfl) ?_
      refine (HAT.out w' (h4.below hE h4.lt) (h5.below hE h5.lt)).mono ?_
      rintro e w2 ⟨rfl, hb2⟩
      exact ⟨_, rfl, ⟨_, rfl, hb2, rfl⟩⟩
    · refine ⟨_, rfl, rfl, fun a w' hF hE hG => ?_⟩
      refine ldOne (p := ⟨gd, 0 + j * 1, none⟩) (.tmp 12) (by kernel_rfl) (wn rfl) rfl ((hF.eval 12 (by kernel_rfl)).trans (by kernel_rfl)) ((h3.below hE h3.lt).cell (i := 0 + j * 1) HDG.out) ?_
      exact ⟨_, rfl, Below.refl _ _, rfl⟩
    · refine ⟨_, rfl, rfl, fun a w' hF hE hG => ?_⟩
      have hx6 : a.tmps.getD 6 undef = .int .i64 (i : Int) := hG (0, 6) (by simp) (by kernel_rfl)
      have hx10 : a.tmps.getD 10 undef = .agg (bcs (part r j)).toArray := hG (4, 10) (by simp) (by kernel_rfl)
      have hx13 : a.tmps.getD 13 undef = .int .i64 ((digAt D j : Nat) : Int) := hG (7, 13) (by simp) (by kernel_rfl)
      refine callOp 29 [.int .i64 (i : Int), .int .i64 (j : Int), .agg (bcs (part r j)).toArray, .int .i64 ((digAt D j : Nat) : Int), .int .i64 15] [] [] (by kernel_rfl) (wn rfl) rfl rfl (by show [a.tmps.getD 6 undef, a.eval (.tmp 7), a.tmps.getD 10 undef, a.tmps.getD 13 undef, a.eval (.const (.int .i64 15))] = _; rw [hx6, hF.eval 7 (by kernel_rfl), hx10, hx13]; first | done | kernel_rfl) ?_
      refine (HCL.out w' (ht.below (hb.trans (hE.mono hb.size)) ht.size)).mono ?_
      rintro e w2 ⟨rfl, hb2⟩
      exact ⟨_, rfl, ⟨_, rfl, hb2, rfl⟩⟩
  case fin =>
    intro a wf hF hE hG
    have qf : a.tmps.getD 14 undef = .agg (bcs (endD i D r j)).toArray := hG (8, 14) (by simp)
    replace h6 := h6.below hE h6.lt
    have hszf := hb.size
    replace hb := hb.trans (hE.mono hb.size)
    rw [hF.eq]
    simp only [putsX]
    rw [qf]
    generalize a.tmps.getD 6 undef = x6
    generalize a.tmps.getD 8 undef = x8
    generalize a.tmps.getD 10 undef = x10
    generalize a.tmps.getD 13 undef = x13
    clear hG hF hE qf
    refine aNext (i := 9) (by kernel_rfl) rfl ?_
    refine stArr (b := w.heap.size) (cs := bcs (endD i D r j)) (.tmp 5) (.tmp 14) Tryd.ag_b16 (wn rfl) rfl (by kernel_rfl) (by kernel_rfl) h6 (zerosB_len _) HL.out (bcs_one _) ?_
    intro w4 h6 hkeep hbel
    replace hb := hb.trans (hbel _ hg)
    refine aDone (by kernel_rfl) ?_
    simp only [Act.put, List.setIfInBounds_toArray, List.set_cons_succ, List.set_cons_zero]
    go_wp2_with fail
    refine bodyPost_ret (v := .agg (bcs (endD i D r j)).toArray) ?_ rfl ⟨rfl, hb⟩
    exact res_cell1 _ Tryd.results41 Tryd.ag_b16 _ rfl HL.out (fun j u hu => by rw [Nat.zero_add]; exact h6.cell hu)
end Go.Proofs.YtienlndjhcmemaaDoor
/-
  tree of sign: its levels lie in memory.
-/
namespace Go.Proofs.YtienlndjhcmemaaDoor
open Go.RowKit

theorem Tryd.sl_digs : SlTy Tryd.prog 49 48 (.slice none 0 0) 1 24 := ⟨by kernel_rfl, by kernel_rfl, rfl, by decide⟩
/-- The first m values of a level. -/
def levD (seed : List UInt8) (l m : Nat) : List UInt8 := ((List.range m).map (valueD seed l)).flatten
theorem levD_next (seed : List UInt8) (l m : Nat) : levD seed l (m + 1) = levD seed l m ++ valueD seed l m := range_map_next _ _
theorem levD_len (seed : List UInt8) (l m : Nat) : (levD seed l m).length = m * 16 := range_map_len _ (valueD_len seed l) m
theorem levD_at (seed : List UInt8) (l m k : Nat) (hk : k < m) : ((levD seed l m).drop (k * 16)).take 16 = valueD seed l k := by
  induction m with
  | zero => omega
  | succ m ih =>
    rw [levD_next]
    by_cases h : k < m
    · rw [List.drop_append_of_le_length (by rw [levD_len]; omega), List.take_append_of_le_length (by rw [List.length_drop, levD_len]; omega)]
      exact ih h
    · obtain rfl : k = m := by omega
      rw [List.drop_append, List.drop_of_length_le (by rw [levD_len]; omega), levD_len]
      simp
      exact List.take_of_length_le (by rw [valueD_len]; omega)
/-- The levels 0 to l lie in memory. -/
def TreeRows (seed : List UInt8) (h l base : Nat) (vs : List Value) (w : World) : Prop :=
  ∀ k, k ≤ l → ∃ A c, vs[k]? = some (.slice A (2 ^ (h - k)) c) ∧ w.ownsRow base 23 16 (.slice A (2 ^ (h - k)) c) (2 ^ (h - k)) (bcs (levD seed k (2 ^ (h - k))))
theorem TreeRows.below {seed : List UInt8} {h l base B : Nat} {vs : List Value} {w w' : World} (H : TreeRows seed h l base vs w) (hb : Below B w w') (hs : w.heap.size ≤ B) : TreeRows seed h l base vs w' := by
  intro k hk
  obtain ⟨A, c, h1, h2⟩ := H k hk
  exact ⟨A, c, h1, ownsRow_below h2 hb hs⟩
theorem TreeRows.grown {seed : List UInt8} {h l base base' n : Nat} {v : Value} {xs vs : List Value} {w w' : World} (H : TreeRows seed h l base vs w) (hv : w.ownsRow base' 48 1 v n xs) (hg : w.grownBy w' v.ownBlock) : TreeRows seed h l base vs w' := by
  intro k hk
  obtain ⟨A, c, h1, h2⟩ := H k hk
  exact ⟨A, c, h1, h2.kept hg (own_ne h2 hv (by decide))⟩
theorem TreeRows.next {seed : List UInt8} {h l base : Nat} {vs : List Value} {A : Option Addr} {c : Nat} {w : World} (H : TreeRows seed h l base vs w) (hl : vs.length = l + 1) (hu : w.ownsRow base 23 16 (.slice A (2 ^ (h - (l + 1))) c) (2 ^ (h - (l + 1))) (bcs (levD seed (l + 1) (2 ^ (h - (l + 1)))))) :
    TreeRows seed h (l + 1) base (vs ++ [.slice A (2 ^ (h - (l + 1))) c]) w := by
  intro k hk
  by_cases h1 : k ≤ l
  · obtain ⟨A', c', h2, h3⟩ := H k h1
    exact ⟨A', c', by rw [List.getElem?_append_left (by omega)]; exact h2, h3⟩
  · obtain rfl : k = l + 1 := by omega
    exact ⟨A, c, by rw [List.getElem?_append_right (by omega), hl, Nat.sub_self]; rfl, hu⟩
/-- What tree leaves. -/
def RetTree (seed : List UInt8) (h : Nat) (w : World) (e : Ending) (w' : World) : Prop :=
  ∃ v vs, e = .returned v ∧ w'.ownsRow w.heap.size 48 1 v (h + 1) vs ∧ TreeRows seed h h w.heap.size vs w' ∧ Below w.heap.size w w'

def GTree1 (seed : List UInt8) (u : Value) (i : Nat) (ix_ : Nat) (v : Value) (w : World) : Prop :=
  match ix_ with
  | 3 => v = u
  | 5 => v = .agg (bcs (valueD seed 0 i)).toArray
  | 6 => ∃ g, v = .slice (some ⟨g, 0, none⟩) 1 1 ∧ Arr w g 23 (bcs (valueD seed 0 i))
  | _ => True
def GTree2 (seed : List UInt8) (l n m c gA : Nat) (ix_ : Nat) (v : Value) (w : World) : Prop :=
  match ix_ with
  | 7 => v = .slice (some ⟨gA, 0, none⟩) m c
  | 10 => v = .pointer (some ⟨gA, 0 + (2 * n) * 16, none⟩)
  | 11 => v = .agg (bcs (valueD seed l (2 * n))).toArray
  | 15 => v = .slice (some ⟨gA, 0, none⟩) m c
  | 19 => v = .pointer (some ⟨gA, 0 + (2 * n + 1) * 16, none⟩)
  | 20 => v = .agg (bcs (valueD seed l (2 * n + 1))).toArray
  | 21 => v = .agg (bcs (valueD seed (l + 1) n)).toArray
  | 22 => ∃ g, v = .slice (some ⟨g, 0, none⟩) 1 1 ∧ Arr w g 23 (bcs (valueD seed (l + 1) n))
  | _ => True
set_option maxRecDepth 100000 in
set_option maxHeartbeats 2000000 in
theorem tree_any (seed : List UInt8) (h : Nat) (w : World) (ht : Tabs w) (hs : seed.length ≤ 100000000) (hh : h ≤ 6) :
    Calls Tryd.prog 27 #[sv seed, .int .i64 (h : Int)] w (RetTree seed h w) := by
  unfold sv
  have hmk : ∀ w : World, (Instr.makeSlice 49 (.int .i64 1) (.int .i64 1)).run Tryd.prog w = .ok (.slice (some ⟨w.heap.size, 0, none⟩) 1 1) (w.alloc (.cells #[.slice none 0 0] 48)) := fun _ => by kernel_rfl
  have hcd := countD_of hh
  have hp64 := two_pow_le hh
  have hp1 := two_pow_pos h
  have HLS := Lib.hid (fun (i : Nat) (g6 : Nat) (hi : i ≤ 1000000) (w' : World) (ht' : Tabs w') (k6 : Arr w' g6 3 [.int .i64 (i : Int)]) (k2 : Arr w' w.heap.size 9 [sv seed]) =>
    leaf_any 47 [.pointer (some ⟨g6, 0, none⟩), .pointer (some ⟨w.heap.size, 0, none⟩)] (chainD seed i 15) w' ht' (by kernel_rfl) (fun j _ => chainD_len seed i 15 j)
      (fun j w'' hj hE => treeClo_any seed i j g6 w.heap.size w'' (ht'.below hE ht'.size) hs hi (by omega) (k6.below hE k6.lt) (k2.below hE k2.lt)))
  go_enter Tryd.func27, Tryd.ntmps27
  go_wp2_with (with_reducible refine bxOne (.tmp 0) (wn rfl) rfl rfl rfl ?_)
  intro w1 h2 hb
  have l2 : w.heap.size < w1.heap.size := h2.lt
  go_wp2_with fail
  have hl := Arr.new w1 48 [.slice none 0 0]
  have bA : Below w1.heap.size w1 (w1.alloc (.cells [.slice none 0 0].toArray 48)) := (Below.refl _ _).alloc (Nat.le_refl _) _
  generalize w1.alloc (.cells [.slice none 0 0].toArray 48) = wA at *
  have ll := hl.lt
  replace h2 := h2.below bA h2.lt
  replace hb := hb.trans (bA.mono hb.size)
  clear bA hmk
  refine (count_any h wA).mono ?_
  rintro e wB ⟨rfl, bB⟩
  rw [hcd]
  replace h2 := h2.below bB h2.lt
  replace hl := hl.below bB ll
  replace hb := hb.trans (bB.mono hb.size)
  clear bB hcd
  generalize w1.heap.size = gl at *
  have llB := hl.lt
  have HM : Hid (2 ^ h = 2 ^ h) := Lib.hid rfl
  obtain ⟨M, hM⟩ : ∃ M, M = 2 ^ h := ⟨_, rfl⟩
  rw [← hM] at hp64 hp1
  replace HM := Lib.hid hM
  rw [← hM]
  clear hM
  go_wp2_with fail
  go_loopw [13] (fun v13 wr => ∃ (i : Nat) (u : Value), i ≤ M ∧ v13 = .int .i64 i ∧ Arr wr w.heap.size 9 [sv seed] ∧ Arr wr gl 48 [u] ∧ wr.ownsRow wB.heap.size 23 16 u i (bcs (levD seed 0 i)) ∧ wB.heap.size ≤ wr.heap.size ∧ Below w.heap.size w wr) (fun v13 _ => M - (intOf v13).toNat)
  case atStart => exact ⟨0, .slice none 0 0, by omega, rfl, h2, hl, World.ownsRow_nil _ _ _ _, Nat.le_refl _, hb⟩
  case round =>
    clear h2 hl hb
    obtain ⟨i, u, hi, rfl, h2, hl, hown, hwB, hb⟩ := hrel
    by_cases hlt : i < M
    · go_wp2_with fail
      have h6 := Arr.new wr 3 [.int .i64 (i : Int)]
      have b6 : Below wr.heap.size wr (wr.alloc (.cells [.int .i64 (i : Int)].toArray 3)) := (Below.refl _ _).alloc (Nat.le_refl _) _
      generalize wr.alloc (.cells [.int .i64 (i : Int)].toArray 3) = wa at *
      generalize hg6 : wr.heap.size = g6 at *
      replace h2 := h2.below b6 (by rw [← hg6]; exact h2.lt)
      replace hl := hl.below b6 (by rw [← hg6]; exact hl.lt)
      replace hown := ownsRow_below hown b6 (by omega)
      replace hwB := Nat.le_trans hwB (by have := b6.size; omega : g6 ≤ wa.heap.size)
      replace hb := hb.trans (b6.mono (by have := hb.size; omega))
      clear b6 hg6
      refine aStart (by kernel_rfl) ?_
      replace h2 := h2.drew
      replace hl := hl.drew
      replace h6 := h6.drew
      replace hb := hb.drew
      have hown' : wa.drew.ownsRow wB.heap.size 23 16 u i (bcs (levD seed 0 i)) := hown
      have hwB' : wB.heap.size ≤ wa.drew.heap.size := hwB
      clear hown hwB
      generalize wa.drew = wd at *
      have H16 := Lib.hid (show (bcs (valueD seed 0 i)).length = 16 by rw [bcs_length]; exact valueD_len _ _ _)
      have HLEAF : Hid (∀ w', Tabs w' → Arr w' g6 3 [.int .i64 (i : Int)] → Arr w' w.heap.size 9 [sv seed] → Calls Tryd.prog 40 #[.func (.func 47) #[] #[.pointer (some ⟨g6, 0, none⟩), .pointer (some ⟨w.heap.size, 0, none⟩)]] w' fun e w'' => e = .returned (.agg (bcs (valueD seed 0 i)).toArray) ∧ Below w'.heap.size w' w'') := Lib.hid (HLS.out i g6 (by omega))
      refine aTake (i := 0) (v := .slice (some ⟨gl, 0, none⟩) 1 1) rfl (by kernel_rfl) (wn rfl) (fun _ _ _ h => h) (fun w => by kernel_rfl) ?_
      refine aTake (i := 1) (v := .slice (some ⟨gl, 0, none⟩) 1 1) rfl (by kernel_rfl) (wn rfl) (fun _ _ _ h => h) (fun w => by kernel_rfl) ?_
      refine aTake (i := 2) (v := .pointer (some ⟨gl, 0, none⟩)) rfl (by kernel_rfl) (wn rfl) (fun _ _ _ h => h) (fun w => by kernel_rfl) ?_
      refine aTake (i := 4) (v := .func (.func 47) #[] #[.pointer (some ⟨g6, 0, none⟩), .pointer (some ⟨w.heap.size, 0, none⟩)]) rfl (by kernel_rfl) (wn rfl) (fun _ _ _ h => h) (fun w => by kernel_rfl) ?_
      refine rgFloat [(3, 19), (5, 21), (6, 22)] (GTree1 seed u i) _ 3 rfl (by kernel_rfl) ?mono ?step ?fin
      case mono =>
        intro p hp v w w' h hE
        simp only [List.mem_cons, List.not_mem_nil, or_false] at hp
        rcases hp with rfl | rfl | rfl
        · exact h
        · exact h
        · exact (by obtain ⟨g, e1, e2⟩ := h; exact ⟨g, e1, e2.below hE e2.lt⟩)
      case step =>
        intro p hp
        simp only [List.mem_cons, List.not_mem_nil, or_false] at hp
        rcases hp with rfl | rfl | rfl
        · refine ⟨_, rfl, rfl, fun a w' hF hE hG => ?_⟩
          refine ldOne (p := ⟨gl, 0, none⟩) (.tmp 18) (by kernel_rfl) (wn rfl) rfl ((hF.eval 18 (by kernel_rfl)).trans (by kernel_rfl)) ((hl.below hE hl.lt).cell (i := 0) rfl) ?_
          exact ⟨_, rfl, Below.refl _ _, rfl⟩
        · refine ⟨_, rfl, rfl, fun a w' hF hE hG => ?_⟩
          refine callOp 40 [.func (.func 47) #[] #[.pointer (some ⟨g6, 0, none⟩), .pointer (some ⟨w.heap.size, 0, none⟩)]] [] [] (by kernel_rfl) (wn rfl) rfl rfl (by show [a.eval (.tmp 20)] = _; rw [hF.eval 20 (by kernel_rfl)]; first | done | kernel_rfl) ?_
          refine (HLEAF.out w' (ht.below (hb.trans (hE.mono hb.size)) ht.size) (h6.below hE h6.lt) (h2.below hE h2.lt)).mono ?_
          rintro e w2 ⟨rfl, hb2⟩
          exact ⟨_, rfl, ⟨_, rfl, hb2, rfl⟩⟩
        · refine ⟨_, rfl, rfl, fun a w' hF hE hG => ?_⟩
          refine bsAgg1 (.tmp 21) Tryd.sl_dig (wn rfl) rfl (show a.tmps.getD 21 undef = _ from hG (5, 21) (by simp) (by kernel_rfl)) (by rw [List.size_toArray]; exact H16.out) (by decide) ?_
          exact ⟨_, rfl, (Below.refl _ _).alloc (Nat.le_refl _) _, _, rfl, Arr.new w' _ _⟩
      case fin =>
        intro a wf hF hE hG
        have q19 : a.tmps.getD 19 undef = u := hG (3, 19) (by simp)
        obtain ⟨g22, q22, h22⟩ := hG (6, 22) (by simp)
        replace h2 := h2.below hE h2.lt
        replace hl := hl.below hE hl.lt
        have hsz := hE.size
        have hownf := ownsRow_below hown' hE (Nat.le_refl _)
        replace hb := hb.trans (hE.mono hb.size)
        rw [hF.eq]
        simp only [putsX]
        rw [q19, q22]
        generalize a.tmps.getD 21 undef = x21
        clear hG hF q19 q22 h6 hown' hE
        have hrd : Rd wf wf.heap.size 16 (some ⟨g22, 0, none⟩) 1 1 (bcs (valueD seed 0 i)) := rd_of_arr h22 (fun _ _ h => h) H16.out (Nat.le_refl _) (by unfold maxLen; omega) h22.lt
        refine aNext (i := 7) (by kernel_rfl) rfl ?_
        refine appR (.tmp 19) (.tmp 22) Tryd.sl_dig (wn rfl) rfl (by kernel_rfl) (by kernel_rfl) hownf hrd (bcs_one _) (Below.refl wB.heap.size wf) (by omega) (by omega) (by omega) ?_
        intro v' w' h3 h4 h5
        rw [← bcs_append, ← levD_next] at h3
        replace h2 := h2.below h4 (by omega)
        replace hl := hl.below h4 (by omega)
        have hwB2 : wB.heap.size ≤ w'.heap.size := by have := h4.size; omega
        replace hb := hb.trans (h4.mono (by omega))
        clear hownf hrd h4 h5
        refine aTake (i := 8) (v := .pointer (some ⟨gl, 0, none⟩)) rfl (by kernel_rfl) (wn rfl) (fun _ _ _ h => h) (fun w => by kernel_rfl) ?_
        obtain ⟨A', c', rfl, _⟩ := Rd.of_own h3
        refine aNext (i := 9) (by kernel_rfl) rfl ?_
        refine stOne (g := gl) (i := 0) (u := .slice A' (i + 1) c') (.tmp 24) (.tmp 23) (by kernel_rfl) (wn rfl) rfl (by kernel_rfl) (by kernel_rfl) rfl rfl hl (by simp) ?_
        intro w5 hl5 hkeep hbel hgr
        have h3' := own_row h3 hl (by decide) hgr
        replace h2 := hkeep _ _ _ (by omega) h2
        replace hb := hb.trans (hbel _ (by omega))
        have hwB3 : wB.heap.size ≤ w5.heap.size := by have := hgr.size; omega
        refine aDone (by kernel_rfl) ?_
        simp only [Act.put, List.setIfInBounds_toArray, List.set_cons_succ, List.set_cons_zero]
        clear hkeep hbel hgr h3 hl hwB2 hwB' h22
        go_wp2_with fail
        go_roundw
        case rel => exact ⟨i + 1, .slice A' (i + 1) c', by omega, by go_num, h2, hl5, h3', hwB3, hb⟩
        case measure => (simp [intOf]; try omega)
    · obtain rfl : i = M := by omega
      clear hlt
      have hn0 := two_pow_pos h
      obtain ⟨A0, c0, rfl, _⟩ := Rd.of_own hown
      have hT0 : TreeRows seed h 0 w.heap.size [.slice A0 i c0] wr := by
        intro k hk
        obtain rfl : k = 0 := by omega
        have hM := HM.out
        subst hM
        exact ⟨A0, c0, rfl, ownsRow_base hown (by omega)⟩
      have hv0 := own_of_arr (base := w.heap.size) (n := 1) (size := 1) hl rfl (by omega) (by unfold maxLen; omega)
      clear hl hown h2
      go_wp2_with fail
      go_loopw [5, 27] (fun v5 v27 wr => ∃ (l : Nat) (vs : List Value), l ≤ h ∧ v27 = .int .i64 l ∧ wr.ownsRow w.heap.size 48 1 v5 (l + 1) vs ∧ TreeRows seed h l w.heap.size vs wr ∧ Below w.heap.size w wr) (fun _ v27 _ => h - (intOf v27).toNat)
      case atStart => exact ⟨0, _, by omega, rfl, hv0, hT0, hb⟩
      case round =>
        clear hv0 hT0 hb
        obtain ⟨l, vs, hl, rfl, hv5, hT, hb⟩ := hrel
        by_cases hlt : l < h
        · obtain ⟨Al, c, hvl, hol⟩ := hT l (Nat.le_refl _)
          obtain ⟨half, hhalf⟩ : ∃ x, x = 2 ^ (h - (l + 1)) := ⟨_, rfl⟩
          have hm2 : 2 ^ (h - l) = 2 * half := by rw [hhalf, show h - l = (h - (l + 1)) + 1 by omega, Nat.pow_succ, Nat.mul_comm]
          have hh0 : 0 < half := by rw [hhalf]; exact two_pow_pos _
          have hh64 : half ≤ 64 := by rw [hhalf]; exact two_pow_le (by omega)
          rw [hm2] at hvl hol
          obtain ⟨m, hm⟩ : ∃ x, x = 2 * half := ⟨_, rfl⟩
          rw [← hm] at hvl hol
          obtain ⟨gA, cA, eA, _, lA⟩ := hol.form (by omega)
          injection eA with eA _ ecA
          subst eA
          obtain ⟨g5, cap5, rfl, _, l5⟩ := hv5.form (by omega)
          have hcl := (hv5.cellAt l (by omega)).trans hvl
          obtain ⟨A', c', e', hrdl⟩ := Rd.of_own hol
          injection e' with e1 _ e3
          subst e1; subst e3
          have hqm : (m : Int) / 2 = (half : Int) := by omega
          have hm128 : m ≤ 128 := by omega
          have HHALF := Lib.hid hhalf
          have HMM := Lib.hid hm
          have HQM := Lib.hid hqm
          clear ecA hhalf hm2 hm hqm hvl
          obtain ⟨wo, rfl⟩ : ∃ wo : World, wo = wr := ⟨_, rfl⟩
          go_wp2_with fail
          rw [HQM.out]
          go_loopw [8, 36] (fun v8 v36 wr2 => ∃ n : Nat, n ≤ half ∧ v36 = .int .i64 n ∧ wr2.ownsRow wo.heap.size 23 16 v8 n (bcs (levD seed (l + 1) n)) ∧ Below wo.heap.size wo wr2) (fun _ v36 _ => half - (intOf v36).toNat)
          case atStart => exact ⟨0, by omega, rfl, World.ownsRow_nil _ _ _ _, Below.refl _ _⟩
          case round =>
            obtain ⟨n, hn, rfl, hu, hbo⟩ := hrel
            by_cases hln : n < half
            · have hwl : wo.heap.size ≤ wr.heap.size := hbo.size
              replace hcl := (hbo.cell (p := ⟨g5, l, none⟩) l5).trans hcl
              replace hrdl := hrdl.below hbo
              have hmm : 2 * n + 1 < m := by have := HMM.out; omega
              go_wp2_with fail
              refine aStart (by kernel_rfl) ?_
              replace hcl : wr.drew.cell? ⟨g5, 0 + l * 1, none⟩ = some (.slice (some ⟨gA, 0, none⟩) m c) := by rw [Nat.zero_add, Nat.mul_one]; exact hcl
              replace hrdl : Rd wr.drew wo.heap.size 16 (some ⟨gA, 0, none⟩) m c (bcs (levD seed l m)) := hrdl.drew
              replace hu : wr.drew.ownsRow wo.heap.size 23 16 u8 n (bcs (levD seed (l + 1) n)) := hu
              replace hb : Below w.heap.size w wr.drew := (hb.trans (hbo.mono hb.size)).drew
              replace hbo := hbo.drew
              replace hwl : wo.heap.size ≤ wr.drew.heap.size := hwl
              generalize wr.drew = wd at *
              have H16 := Lib.hid (show (bcs (valueD seed (l + 1) n)).length = 16 by rw [bcs_length]; exact valueD_len _ _ _)
              have HJ : Hid (∀ w', Tabs w' → Calls Tryd.prog 42 #[.int .i64 ((l : Int) + 1), .int .i64 (n : Int), .agg (bcs (valueD seed l (2 * n))).toArray, .agg (bcs (valueD seed l (2 * n + 1))).toArray] w' fun e w'' => e = .returned (.agg (bcs (valueD seed (l + 1) n)).toArray) ∧ Below w'.heap.size w' w'') :=
                Lib.hid (fun w' ht' => join_any ((l : Int) + 1) (n : Int) (valueD seed l (2 * n)) (valueD seed l (2 * n + 1)) w' ht' (isI64_nat (n := l + 1) (by omega)) (isI64_nat (by omega)) (valueD_len _ _ _) (valueD_len _ _ _))
              refine aTake (i := 0) (v := u8) rfl (by kernel_rfl) (wn rfl) (fun _ _ _ h => h) (fun w => by kernel_rfl) ?_
              refine aTake (i := 1) (v := .int .i64 (l : Int)) rfl (by kernel_rfl) (wn rfl) (fun _ _ _ h => h) (fun w => by kernel_rfl) ?_
              refine aTake (i := 2) (v := .int .i64 ((l : Int) + 1)) rfl (by kernel_rfl) (wn rfl) (fun _ _ _ h => h) (fun w => addRun (A := (l : Int)) (B := 1) (.tmp 40) (.const (.int .i64 1)) rfl (by kernel_rfl) rfl rfl (by omega)) ?_
              refine aTake (i := 3) (v := .int .i64 (n : Int)) rfl (by kernel_rfl) (wn rfl) (fun _ _ _ h => h) (fun w => by kernel_rfl) ?_
              refine aTake (i := 4) (v := .slice (some ⟨g5, 0, none⟩) (l + 1) cap5) rfl (by kernel_rfl) (wn rfl) (fun _ _ _ h => h) (fun w => by kernel_rfl) ?_
              refine aTake (i := 5) (v := .int .i64 (l : Int)) rfl (by kernel_rfl) (wn rfl) (fun _ _ _ h => h) (fun w => by kernel_rfl) ?_
              refine aTake (i := 6) (v := .pointer (some ⟨g5, 0 + l * 1, none⟩)) rfl (by kernel_rfl) (wn rfl) (fun _ _ _ h => h) (fun w => iaRowRun (kk := .i64) (n := l + 1) (c := cap5) (.tmp 43) (.tmp 44) l Tryd.sl_digs rfl (by kernel_rfl) (by kernel_rfl) rfl (by omega)) ?_
              refine aTake (i := 8) (v := .int .i64 (n : Int)) rfl (by kernel_rfl) (wn rfl) (fun _ _ _ h => h) (fun w => by kernel_rfl) ?_
              refine aTake (i := 9) (v := .int .i64 (2 * (n : Int))) rfl (by kernel_rfl) (wn rfl) (fun _ _ _ h => h) (fun w => mulRun (A := 2) (B := (n : Int)) (.const (.int .i64 2)) (.tmp 47) rfl rfl (by kernel_rfl) rfl (by omega)) ?_
              refine aTake (i := 12) (v := .slice (some ⟨g5, 0, none⟩) (l + 1) cap5) rfl (by kernel_rfl) (wn rfl) (fun _ _ _ h => h) (fun w => by kernel_rfl) ?_
              refine aTake (i := 13) (v := .int .i64 (l : Int)) rfl (by kernel_rfl) (wn rfl) (fun _ _ _ h => h) (fun w => by kernel_rfl) ?_
              refine aTake (i := 14) (v := .pointer (some ⟨g5, 0 + l * 1, none⟩)) rfl (by kernel_rfl) (wn rfl) (fun _ _ _ h => h) (fun w => iaRowRun (kk := .i64) (n := l + 1) (c := cap5) (.tmp 51) (.tmp 52) l Tryd.sl_digs rfl (by kernel_rfl) (by kernel_rfl) rfl (by omega)) ?_
              refine aTake (i := 16) (v := .int .i64 (n : Int)) rfl (by kernel_rfl) (wn rfl) (fun _ _ _ h => h) (fun w => by kernel_rfl) ?_
              refine aTake (i := 17) (v := .int .i64 (2 * (n : Int))) rfl (by kernel_rfl) (wn rfl) (fun _ _ _ h => h) (fun w => mulRun (A := 2) (B := (n : Int)) (.const (.int .i64 2)) (.tmp 55) rfl rfl (by kernel_rfl) rfl (by omega)) ?_
              refine aTake (i := 18) (v := .int .i64 (2 * (n : Int) + 1)) rfl (by kernel_rfl) (wn rfl) (fun _ _ _ h => h) (fun w => addRun (A := 2 * (n : Int)) (B := 1) (.tmp 56) (.const (.int .i64 1)) rfl (by kernel_rfl) rfl rfl (by omega)) ?_
              refine rgFloat [(7, 46), (10, 49), (11, 50), (15, 54), (19, 58), (20, 59), (21, 60), (22, 61)] (GTree2 seed l n m c gA) _ 2 rfl (by kernel_rfl) ?mono ?step ?fin
              case mono =>
                intro p hp v w w' h hE
                simp only [List.mem_cons, List.not_mem_nil, or_false] at hp
                rcases hp with rfl | rfl | rfl | rfl | rfl | rfl | rfl | rfl
                · exact h
                · exact h
                · exact h
                · exact h
                · exact h
                · exact h
                · exact h
                · exact (by obtain ⟨g, e1, e2⟩ := h; exact ⟨g, e1, e2.below hE e2.lt⟩)
              case step =>
                intro p hp
                simp only [List.mem_cons, List.not_mem_nil, or_false] at hp
                rcases hp with rfl | rfl | rfl | rfl | rfl | rfl | rfl | rfl
                · refine ⟨_, rfl, rfl, fun a w' hF hE hG => ?_⟩
                  refine ldOne (p := ⟨g5, 0 + l * 1, none⟩) (.tmp 45) (by kernel_rfl) (wn rfl) rfl ((hF.eval 45 (by kernel_rfl)).trans (by kernel_rfl)) ((hE.cell (p := ⟨g5, 0 + l * 1, none⟩) (by show g5 < _; omega)).trans hcl) ?_
                  exact ⟨_, rfl, Below.refl _ _, rfl⟩
                · refine ⟨_, rfl, rfl, fun a w' hF hE hG => ?_⟩
                  refine iaRow (kk := .i64) (b := gA) (off := 0) (n := m) (c := c) (K := 2 * (n : Int)) (.tmp 46) (.tmp 48) (2 * n) Tryd.sl_dig (wn rfl) rfl (show a.tmps.getD 46 undef = _ from hG (7, 46) (by simp) (by kernel_rfl)) ((hF.eval 48 (by kernel_rfl)).trans (by kernel_rfl)) (by omega) (by omega) ?_
                  exact ⟨_, rfl, Below.refl _ _, rfl⟩
                · refine ⟨_, rfl, rfl, fun a w' hF hE hG => ?_⟩
                  refine ldAgg (b := gA) (off := 0 + (2 * n) * 16) (.tmp 49) (bcs (valueD seed l (2 * n))) Tryd.ag_b16 (wn rfl) rfl (show a.tmps.getD 49 undef = _ from hG (10, 49) (by simp) (by kernel_rfl)) (by rw [bcs_length]; exact valueD_len _ _ _) (by have := rd_elem (k := 2 * n) (hrdl.below (hE.mono hwl)) (by omega); rw [levD_at seed l m (2 * n) (by omega)] at this; exact this) ?_
                  exact ⟨_, rfl, Below.refl _ _, rfl⟩
                · refine ⟨_, rfl, rfl, fun a w' hF hE hG => ?_⟩
                  refine ldOne (p := ⟨g5, 0 + l * 1, none⟩) (.tmp 53) (by kernel_rfl) (wn rfl) rfl ((hF.eval 53 (by kernel_rfl)).trans (by kernel_rfl)) ((hE.cell (p := ⟨g5, 0 + l * 1, none⟩) (by show g5 < _; omega)).trans hcl) ?_
                  exact ⟨_, rfl, Below.refl _ _, rfl⟩
                · refine ⟨_, rfl, rfl, fun a w' hF hE hG => ?_⟩
                  refine iaRow (kk := .i64) (b := gA) (off := 0) (n := m) (c := c) (K := 2 * (n : Int) + 1) (.tmp 54) (.tmp 57) (2 * n + 1) Tryd.sl_dig (wn rfl) rfl (show a.tmps.getD 54 undef = _ from hG (15, 54) (by simp) (by kernel_rfl)) ((hF.eval 57 (by kernel_rfl)).trans (by kernel_rfl)) (by omega) (by omega) ?_
                  exact ⟨_, rfl, Below.refl _ _, rfl⟩
                · refine ⟨_, rfl, rfl, fun a w' hF hE hG => ?_⟩
                  refine ldAgg (b := gA) (off := 0 + (2 * n + 1) * 16) (.tmp 58) (bcs (valueD seed l (2 * n + 1))) Tryd.ag_b16 (wn rfl) rfl (show a.tmps.getD 58 undef = _ from hG (19, 58) (by simp) (by kernel_rfl)) (by rw [bcs_length]; exact valueD_len _ _ _) (by have := rd_elem (k := 2 * n + 1) (hrdl.below (hE.mono hwl)) (by omega); rw [levD_at seed l m (2 * n + 1) (by omega)] at this; exact this) ?_
                  exact ⟨_, rfl, Below.refl _ _, rfl⟩
                · refine ⟨_, rfl, rfl, fun a w' hF hE hG => ?_⟩
                  have hx50 : a.tmps.getD 50 undef = .agg (bcs (valueD seed l (2 * n))).toArray := hG (11, 50) (by simp) (by kernel_rfl)
                  have hx59 : a.tmps.getD 59 undef = .agg (bcs (valueD seed l (2 * n + 1))).toArray := hG (20, 59) (by simp) (by kernel_rfl)
                  refine callOp 42 [.int .i64 ((l : Int) + 1), .int .i64 (n : Int), .agg (bcs (valueD seed l (2 * n))).toArray, .agg (bcs (valueD seed l (2 * n + 1))).toArray] [] [] (by kernel_rfl) (wn rfl) rfl rfl (by show [a.eval (.tmp 41), a.eval (.tmp 42), a.tmps.getD 50 undef, a.tmps.getD 59 undef] = _; rw [hF.eval 41 (by kernel_rfl), hF.eval 42 (by kernel_rfl), hx50, hx59]; first | done | kernel_rfl) ?_
                  refine (HJ.out w' (ht.below (hb.trans (hE.mono hb.size)) ht.size)).mono ?_
                  rintro e w2 ⟨rfl, hb2⟩
                  exact ⟨_, rfl, ⟨_, rfl, hb2, rfl⟩⟩
                · refine ⟨_, rfl, rfl, fun a w' hF hE hG => ?_⟩
                  refine bsAgg1 (.tmp 60) Tryd.sl_dig (wn rfl) rfl (show a.tmps.getD 60 undef = _ from hG (21, 60) (by simp) (by kernel_rfl)) (by rw [List.size_toArray]; exact H16.out) (by decide) ?_
                  exact ⟨_, rfl, (Below.refl _ _).alloc (Nat.le_refl _) _, _, rfl, Arr.new w' _ _⟩
              case fin =>
                intro a wf hF hE hG
                obtain ⟨g61, q61, h61⟩ := hG (22, 61) (by simp)
                have hsz := hE.size
                have huf := ownsRow_below hu hE (Nat.le_refl _)
                replace hbo := hbo.trans (hE.mono hbo.size)
                rw [hF.eq]
                simp only [putsX]
                rw [q61]
                generalize a.tmps.getD 46 undef = x46
                generalize a.tmps.getD 49 undef = x49
                generalize a.tmps.getD 50 undef = x50
                generalize a.tmps.getD 54 undef = x54
                generalize a.tmps.getD 58 undef = x58
                generalize a.tmps.getD 59 undef = x59
                generalize a.tmps.getD 60 undef = x60
                clear hG hF q61 hu hE
                have hrd : Rd wf wf.heap.size 16 (some ⟨g61, 0, none⟩) 1 1 (bcs (valueD seed (l + 1) n)) := rd_of_arr h61 (fun _ _ h => h) H16.out (Nat.le_refl _) (by unfold maxLen; omega) h61.lt
                refine aNext (i := 23) (by kernel_rfl) rfl ?_
                refine appR (.tmp 39) (.tmp 61) Tryd.sl_dig (wn rfl) rfl (by kernel_rfl) (by kernel_rfl) huf hrd (bcs_one _) hbo (Nat.le_refl _) (by omega) (by omega) ?_
                intro v' w' h3 h4 _
                rw [← bcs_append, ← levD_next] at h3
                clear huf hrd
                refine aTake (i := 24) (v := v') rfl (by kernel_rfl) (wn rfl) (fun _ _ _ h => h) (fun w => by kernel_rfl) ?_
                refine aDone (by kernel_rfl) ?_
                simp only [Act.put, List.setIfInBounds_toArray, List.set_cons_succ, List.set_cons_zero]
                clear h61 hcl hrdl hb hwl hbo
                go_wp2_with fail
                go_roundw
                case rel => exact ⟨n + 1, by omega, by go_num, h3, h4⟩
                case measure => (simp [intOf]; try omega)
            · obtain rfl : n = half := by omega
              clear hln
              have hh := HHALF.out
              have hlen : vs.length = l + 1 := by have := hv5.1; simpa using this
              obtain ⟨A8, c8, rfl, _⟩ := Rd.of_own hu
              have hTw := hT.below hbo (Nat.le_refl _)
              have hv5w := ownsRow_below hv5 hbo (Nat.le_refl _)
              have huw : wr.ownsRow w.heap.size 23 16 (.slice A8 n c8) n (bcs (levD seed (l + 1) n)) := ownsRow_base hu hb.size
              have hbw := hb.trans (hbo.mono hb.size)
              have HN := Lib.hid hh
              clear hh hT hv5 hu hb hbo hcl hrdl hol
              go_wp2_with (at_builtin; with_reducible refine app1 _ _ Tryd.sl_digs (wn rfl) rfl rfl rfl hv5w hbw (Nat.le_refl _) rfl (by omega) (by omega) ?_)
              intro v' w' h3 h4 h5
              have hal : Below wr.heap.size wr (wr.alloc (.cells #[.slice A8 n c8] 48)) := (Below.refl _ _).alloc (Nat.le_refl _) _
              have hT2 := (hTw.below hal (Nat.le_refl _)).grown (ownsRow_below hv5w hal (Nat.le_refl _)) h5
              have hu2 := (ownsRow_below huw hal (Nat.le_refl _)).kept h5 (own_ne (ownsRow_below huw hal (Nat.le_refl _)) (ownsRow_below hv5w hal (Nat.le_refl _)) (by decide))
              have hh := HN.out
              subst hh
              have hT3 := hT2.next hlen hu2
              clear hTw hv5w huw hbw hal hT2 hu2 h5
              go_wp2_with fail
              go_roundw
              case rel => exact ⟨l + 1, vs ++ [.slice A8 (2 ^ (h - (l + 1))) c8], by omega, by go_num, h3, hT3, h4⟩
              case measure => (simp [intOf]; try omega)
        · obtain rfl : l = h := by omega
          go_wp2_with fail
          go_ret
          exact ⟨_, vs, rfl, hv5, hT, hb⟩
end Go.Proofs.YtienlndjhcmemaaDoor
/-
  Public of sign and of the specification: what they return.
-/
namespace Go.Proofs.YtienlndjhcmemaaDoor
open Go.RowKit

/-- A result that lies in memory, and one more. -/
theorem res_cell2 {P : Program} {w : World} {fn : Func} {p t : Tmp} {ty : TypeId} {z : Array Value} {n b off : Nat} (cs : List Value) (h : fn.results = #[.cell p ty, .tmp t]) (T : AgTy P ty z n) (tmps : Array Value)
    (hp : tmps.getD p undef = .pointer (some ⟨b, off, none⟩)) (hl : cs.length = n) (hc : ∀ j u, cs[j]? = some u → w.cell? ⟨b, off + j, none⟩ = some u) :
    (results fn tmps).run P w = .ok (.tuple #[.agg cs.toArray, tmps.getD t undef]) w := by
  have hr := run_loadAgg (P := P) (w := w) T b off cs hl hc
  have hp' : tmps[p]?.getD undef = .pointer (some ⟨b, off, none⟩) := by simpa using hp
  simp only [results, h]
  simp [Result.andThen, hp', asAddr, hr]
/-- The levels of a tree of height h lie in memory, block g holds their slices. -/
def TreeMem (seed : List UInt8) (h g : Nat) (w : World) : Prop :=
  g < w.heap.size ∧ ∀ k, k ≤ h → ∃ gk ck, w.cell? ⟨g, k, none⟩ = some (.slice (some ⟨gk, 0, none⟩) (2 ^ (h - k)) ck) ∧ Rd w w.heap.size 16 (some ⟨gk, 0, none⟩) (2 ^ (h - k)) ck (bcs (levD seed k (2 ^ (h - k))))
theorem TreeMem.below {seed : List UInt8} {h g : Nat} {w w' : World} (H : TreeMem seed h g w) (hb : Ext w w') : TreeMem seed h g w' := by
  refine ⟨Nat.lt_of_lt_of_le H.1 hb.size, fun k hk => ?_⟩
  obtain ⟨gk, ck, h1, h2⟩ := H.2 k hk
  exact ⟨gk, ck, (hb.cell (p := ⟨g, k, none⟩) H.1).trans h1, (h2.below hb).more hb.size⟩
theorem RetTree.mem {seed : List UInt8} {h : Nat} {w w' : World} {e : Ending} (H : RetTree seed h w e w') :
    ∃ g cap, e = .returned (.slice (some ⟨g, 0, none⟩) (h + 1) cap) ∧ TreeMem seed h g w' ∧ Below w.heap.size w w' := by
  obtain ⟨v, vs, rfl, hv, hT, hb⟩ := H
  obtain ⟨g, cap, rfl, _, hg⟩ := hv.form (by omega)
  refine ⟨g, cap, rfl, ⟨hg, fun k hk => ?_⟩, hb⟩
  obtain ⟨A, c, h1, h2⟩ := hT k hk
  have h3 := (hv.cellAt k (by omega)).trans h1
  obtain ⟨gk, ck, e4, _, _⟩ := h2.form (two_pow_pos _)
  injection e4 with e5 _ e6
  subst e5
  obtain ⟨A', c', e', hrd⟩ := Rd.of_own h2
  injection e' with e1 _ e2
  subst e1; subst e2
  exact ⟨gk, c, h3, hrd⟩
theorem levD_one (seed : List UInt8) (h : Nat) : ((levD seed h 1).drop (0 * 16)).take 16 = valueD seed h 0 := levD_at seed h 1 0 (by omega)
def pairV (d : List UInt8) (e : Int) : Value := .tuple #[.agg (bcs d).toArray, .int .i64 e]
theorem zeros_bcs : zerosB 16 = bcs (List.replicate 16 0) := rfl
set_option maxRecDepth 100000 in
set_option maxHeartbeats 1000000 in
theorem public_any (seed : List UInt8) (h : Int) (w : World) (ht : Tabs w) (hs : seed.length ≤ 100000000) :
    Calls Tryd.prog 16 #[sv seed, .int .i64 h] w fun e w' => e = .returned (pairV (publicD seed h).1 (publicD seed h).2) ∧ Below w.heap.size w w' := by
  by_cases hc : countD h = 0
  · have hp : publicD seed h = (List.replicate 16 0, 1) := by unfold publicD; rw [if_pos hc]
    have HP := Lib.hid hp
    have HC := Lib.hid hc
    clear hp hc
    rw [HP.out]
    have hg : w.heap.size ≤ w.heap.size := Nat.le_refl _
    unfold sv
    go_enter Tryd.func16, Tryd.ntmps16
    go_wp2_with (with_reducible refine alArr (z := zerosB 16) Tryd.ag_b16 (wn rfl) rfl ?_)
    intro w1 h4 hb
    go_wp2_with fail
    refine (count_any h w1).mono ?_
    rintro e w2 ⟨rfl, b2⟩
    rw [HC.out]
    replace h4 := h4.below b2 h4.lt
    replace hb := hb.trans (b2.mono hb.size)
    clear b2
    have hbd : ∀ w : World, (Instr.build 23 #[]).run Tryd.prog w = .ok (.agg (zerosB 16).toArray) w := fun w => by kernel_rfl
    go_wp2_with (first | (with_reducible refine bdVal (ps := #[]) (v := .agg (zerosB 16).toArray) hbd (wn rfl) rfl rfl ?_) | (with_reducible refine stArr (cs := zerosB 16) (.tmp 4) (.tmp 9) Tryd.ag_b16 (wn rfl) rfl rfl rfl h4 (zerosB_len _) (zerosB_len _) (by rw [zeros_bcs]; exact bcs_one _) ?_))
    intro w3 h4 _ hbel
    go_wp2_with fail
    refine bodyPost_ret (v := .tuple #[.agg (zerosB 16).toArray, .int .i64 1]) ?_ rfl ⟨rfl, hb.trans (hbel _ hg)⟩
    exact res_cell2 _ Tryd.results16 Tryd.ag_b16 _ rfl (zerosB_len _) (fun j u hu => by rw [Nat.zero_add]; exact h4.cell hu)
  · have hp : publicD seed h = (valueD seed h.toNat 0, 0) := by unfold publicD; rw [if_neg hc]
    have h06 : 0 ≤ h ∧ h ≤ 6 := countD_pos (i := 0) (by omega) (by omega)
    obtain ⟨k, rfl⟩ : ∃ k : Nat, h = (k : Int) := ⟨h.toNat, by omega⟩
    have hk : k ≤ 6 := by omega
    have hcd := countD_of hk
    have hp1 := two_pow_pos k
    have hp64 := two_pow_le hk
    rw [hp, Int.toNat_natCast]
    have HL := Lib.hid (show (bcs (valueD seed k 0)).length = 16 by rw [bcs_length]; exact valueD_len _ _ _)
    clear hp hc h06
    have hg : w.heap.size ≤ w.heap.size := Nat.le_refl _
    unfold sv
    go_enter Tryd.func16, Tryd.ntmps16
    go_wp2_with (with_reducible refine alArr (z := zerosB 16) Tryd.ag_b16 (wn rfl) rfl ?_)
    intro w1 h4 hb
    go_wp2_with fail
    refine (count_any k w1).mono ?_
    rintro e w2 ⟨rfl, b2⟩
    rw [hcd]
    replace h4 := h4.below b2 h4.lt
    replace hb := hb.trans (b2.mono hb.size)
    clear b2 hcd
    generalize 2 ^ k = M at *
    go_wp2_with fail
    refine (tree_any seed k w2 (ht.below hb ht.size) hs hk).mono ?_
    rintro e w3 hret
    obtain ⟨g, cap, rfl, hT, b3⟩ := hret.mem
    replace h4 := h4.below b3 h4.lt
    replace hb := hb.trans (b3.mono hb.size)
    obtain ⟨gk, ck, hc1, hrd⟩ := hT.2 k (Nat.le_refl _)
    rw [Nat.sub_self, Nat.pow_zero] at hc1 hrd
    have hel := rd_elem (k := 0) hrd (by omega)
    rw [levD_one, Nat.zero_mul] at hel
    have HEL := Lib.hid hel
    clear b3 hret hT hrd hel
    go_wp2_with (first | (with_reducible refine ldAgg (.tmp 16) (bcs (valueD seed k 0)) Tryd.ag_b16 (wn rfl) rfl rfl HL.out HEL.out ?_) | (with_reducible refine stArr (cs := bcs (valueD seed k 0)) (.tmp 4) (.tmp 17) Tryd.ag_b16 (wn rfl) rfl rfl rfl h4 (zerosB_len _) HL.out (bcs_one _) ?_))
    intro w5 h4 _ hbel
    go_wp2_with fail
    refine bodyPost_ret (v := .tuple #[.agg (bcs (valueD seed k 0)).toArray, .int .i64 0]) ?_ rfl ⟨rfl, hb.trans (hbel _ hg)⟩
    exact res_cell2 _ Tryd.results16 Tryd.ag_b16 _ rfl HL.out (fun j u hu => by rw [Nat.zero_add]; exact h4.cell hu)
end Go.Proofs.YtienlndjhcmemaaDoor
