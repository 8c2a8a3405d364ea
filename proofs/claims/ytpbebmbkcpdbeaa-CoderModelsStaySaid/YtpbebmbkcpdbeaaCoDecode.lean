/-
  decode of the coder: what it returns. No statement is proved here.
-/
import Derived.Test.YtpbebmbkcpdbeaaCoRBytes
import Derived.Outline
namespace Go.Proofs.Ytpbebmbkcpdbeaa
open Go.RowKit
set_option linter.unusedVariables false

/-- What keeps all blocks but two. -/
structure Kp2 (g1 g2 : Nat) (A B : World) : Prop where
  os : B.os = A.os
  tape : B.tape = A.tape
  output : B.output = A.output
  size : A.heap.size ≤ B.heap.size
  block : ∀ k, k < A.heap.size → k ≠ g1 → k ≠ g2 → B.heap[k]? = A.heap[k]?
theorem Kp2.trans {g1 g2 : Nat} {A B C : World} (h : Kp2 g1 g2 A B) (k : Kp2 g1 g2 B C) : Kp2 g1 g2 A C :=
  ⟨k.os.trans h.os, k.tape.trans h.tape, k.output.trans h.output, Nat.le_trans h.size k.size, fun b hb h1 h2 => (k.block b (Nat.lt_of_lt_of_le hb h.size) h1 h2).trans (h.block b hb h1 h2)⟩
theorem Kp2.left {g1 g2 : Nat} {A B : World} (h : A.grownBy B (some g1)) : Kp2 g1 g2 A B := ⟨h.os, h.tape, h.output, h.size, fun k hk h1 _ => h.block k hk (fun e => h1 (by injection e))⟩
theorem Kp2.right {g1 g2 : Nat} {A B : World} (h : A.grownBy B (some g2)) : Kp2 g1 g2 A B := ⟨h.os, h.tape, h.output, h.size, fun k hk _ h2 => h.block k hk (fun e => h2 (by injection e))⟩
theorem Kp2.arr {g1 g2 : Nat} {A B : World} (h : Kp2 g1 g2 A B) {b : Nat} {t : TypeId} {cur : List Value} (hA : Arr A b t cur) (h1 : b ≠ g1) (h2 : b ≠ g2) : Arr B b t cur := (h.block b hA.lt h1 h2).trans hA
theorem Kp2.below {g1 g2 n0 : Nat} {W A B : World} (h : Kp2 g1 g2 A B) (hb : Below n0 W A) (hn : n0 ≤ A.heap.size) (h1 : n0 ≤ g1) (h2 : n0 ≤ g2) : Below n0 W B :=
  hb.trans ⟨h.os, h.tape, h.output, h.size, fun k hk => h.block k (by omega) (by omega) (by omega)⟩
theorem coWord_shift (T : List UInt8) (k : Nat) : coWord T k % 16777216 * 256 + coB T (k + 4) = coWord T (k + 1) := by
  have h1 := coB_lt T (k + 1)
  have h2 := coB_lt T (k + 2)
  have h3 := coB_lt T (k + 3)
  have h4 := coB_lt T (k + 4)
  have e : coWord T (k + 1) = ((coB T (k + 1) * 256 + coB T (k + 2)) * 256 + coB T (k + 3)) * 256 + coB T (k + 4) := rfl
  rw [e]
  unfold coWord
  omega
theorem coWord_lt (T : List UInt8) (k : Nat) : coWord T k < 4294967296 := by
  have h0 := coB_lt T k
  have h1 := coB_lt T (k + 1)
  have h2 := coB_lt T (k + 2)
  have h3 := coB_lt T (k + 3)
  unfold coWord
  omega
theorem coWp_next (T : List UInt8) (j : Nat) (h : j < 4) : coWp T 0 j % 16777216 * 256 + coB T j = coWp T 0 (j + 1) := by
  have h1 := coWp_lt T 0 j (by omega)
  have h2 : 256 ^ j ≤ 16777216 := by
    rcases (by omega : j = 0 ∨ j = 1 ∨ j = 2 ∨ j = 3) with rfl | rfl | rfl | rfl <;> decide
  rw [Nat.mod_eq_of_lt (by omega)]
  show _ = coWp T 0 j * 256 + coB T (0 + j)
  rw [Nat.zero_add]

/-- What holds while the coder decodes. -/
structure CoPD (T : List UInt8) (n : Nat) (s : List Nat × CoIv) (L : List UInt8) (n0 g7 gs gv gd : Nat) (w0 w : World) : Prop where
  st : CoSt s
  m : Arr w g7 32 (mcs s.1)
  src : Arr w gs 62 (soCells T (s.2.out.length + 4) (coWord T s.2.out.length))
  v : Arr w gv 56 (ivCells s.2.x s.2.y (.func (.func 37) [Value.pointer (some ⟨gs, 0, none⟩)].toArray [].toArray))
  o : Arr w gd 5 (bcs (L ++ List.replicate (n - L.length) 0))
  b : Below n0 w0 w
theorem bcs_zeros (n : Nat) : bcs (List.replicate n 0) = List.replicate n (Value.int .u8 0) := by
  unfold bcs
  rw [List.map_replicate]
  rfl
theorem fill_next {n : Nat} {L : List UInt8} {x : UInt8} {k : Nat} (hL : L.length = k) (hk : k < n) : (bcs (L ++ List.replicate (n - L.length) 0)).set k (bc x) = bcs ((L ++ [x]) ++ List.replicate (n - (L ++ [x]).length) 0) := by
  subst hL
  unfold bcs
  rw [← List.map_set]
  congr 1
  rw [show n - L.length = (n - (L.length + 1)) + 1 by omega, List.replicate_succ, List.length_append, List.length_singleton, List.set_append_right _ _ (Nat.le_refl _), Nat.sub_self, List.append_assoc]
  rfl
/-- 'make([]T, n)' of one-cell elements. -/
theorem mkRow {P : Program} {w : World} {ops : Array Oper} {rest : List Oper} {o : Oper} {a : Act} {Q : Exit → Act → World → Prop} {t e : TypeId} {z : Value} {bytes : Nat} (x y : Operand) (n : Nat) (T : SlTy P t e z 1 bytes) (hz : z.cells = #[z]) (hgd : Region.wanted o (yielded ops a.tmps) = true)
    (ho : o.op = .makeSlice t x y) (hx : a.eval x = .int .i64 (n : Int)) (hy : a.eval y = .int .i64 (n : Int)) (hn : n ≤ 16777216) (hb : bytes ≤ 1000)
    (h : ∀ w', Arr w' w.heap.size e (List.replicate n z) → Below w.heap.size w w' → wpList P ops Q rest (a.put o.dst (.slice (some ⟨w.heap.size, 0, none⟩) n n)) w') : wpList P ops Q (o :: rest) a w := by
  obtain ⟨i, hi, hz0, hz1, hz2⟩ := info_parts T.inf
  have hr := run_makeSlice (P := P) (w := w) t e i z T.und hi hz0 .i64 .i64 (n : Int) (n : Int) (by omega) (by omega) (by rw [hz1]; simp; omega) (by
    have h1 := Nat.mul_le_mul hb hn
    have h2 : ((bytes : Int) * (n : Int)) = ((bytes * n : Nat) : Int) := by simp
    rw [hz2, h2]
    omega) (by omega)
  rw [hz1, hz, Int.toNat_natCast, Nat.mul_one] at hr
  refine wpList_want hgd fun K hK => ?_
  unfold Oper.wp execOp
  simp only [ho, hx, hy, Sem.run_bind, Sem.run_pure, Result.andThen_ok, hr]
  refine hK _ _ (h _ ?_ ((Below.refl _ _).alloc (Nat.le_refl _) _))
  have hA := Arr.new w e (madeCells #[z] n).toList
  rw [Array.toArray_toList] at hA
  rw [← toList_madeCells_one]
  exact hA

set_option maxRecDepth 100000 in
set_option maxHeartbeats 4000000 in
theorem decode_any (prior T : List UInt8) (n : Nat) (hp : prior.length ≤ 140737488351232) (hT : T.length ≤ 140737488351232) (hn : n ≤ 1000000) (w : World) :
    Calls Try.prog 28 #[.string ⟨prior.toArray⟩, .string ⟨T.toArray⟩, .int .i64 (n : Int)] w fun e w' => e = .returned (.string ⟨(coDecode T n (coTrain coNew (coAll prior), coStart)).toArray⟩) ∧ Below w.heap.size w w' := by
  have HS := Lib.hid (coNew_st prior)
  have HT := Lib.hid (fun w' => train_any coNew coNew_good prior hp w')
  obtain ⟨CF, hC⟩ : ∃ CF, CF = coDecode T n (coTrain coNew (coAll prior), coStart) := ⟨_, rfl⟩
  rw [← hC]
  have HC := Lib.hid hC
  clear hC
  generalize coTrain coNew (coAll prior) = m0 at *
  go_enter Try.func28, Try.ntmps28
  go_wp2_with fail
  refine (new_any w).mono ?_
  rintro e w1 ⟨rfl, b1⟩
  go_wp2_with fail
  refine (HT.out w1).mono ?_
  rintro e w2 ⟨rfl, b2⟩
  have hb := b1.trans (b2.mono b1.size)
  clear b1 b2
  go_wp2_with (with_reducible refine alArr (z := mcs coZero) Try.ag_m (wn rfl) rfl ?_)
  intro w3 h7 b3
  have l7 : w.heap.size ≤ w2.heap.size := hb.size
  replace hb := hb.trans (b3.mono l7)
  clear b3
  have HL := Lib.hid (show (mcs m0).length = 256 by rw [mcs_length]; exact HS.out.good.len)
  go_wp2_with (with_reducible refine stArrG (cs := mcs m0) (.tmp 7) (.tmp 16) Try.ag_m (wn rfl) rfl rfl rfl h7 (by kernel_rfl) HL.out (mcs_one _) ?_)
  intro w4 h7 hgr
  replace hb := hb.grown hgr hb.size (fun k e => by cases e; exact l7)
  clear hgr
  generalize w2.heap.size = g7 at *
  go_wp2_with fail
  have hs0 : Arr (w4.alloc (Obj.cells #[Value.string ⟨T.toArray⟩, Value.int .i64 0, Value.int .i64 0] 62)) w4.heap.size 62 (soCells T 0 (coWp T 0 0)) := Arr.new w4 62 (soCells T 0 0)
  have l7s := h7.lt
  replace h7 := h7.alloc (Obj.cells #[Value.string ⟨T.toArray⟩, Value.int .i64 0, Value.int .i64 0] 62)
  have ls : w.heap.size ≤ w4.heap.size := hb.size
  replace hb := hb.alloc hb.size (Obj.cells #[Value.string ⟨T.toArray⟩, Value.int .i64 0, Value.int .i64 0] 62)
  have hne : g7 ≠ w4.heap.size := by omega
  generalize w4.alloc (Obj.cells #[Value.string ⟨T.toArray⟩, Value.int .i64 0, Value.int .i64 0] 62) = w5 at *
  generalize w4.heap.size = gs at *
  go_loopw [20] (fun c wr => ∃ j : Nat, j ≤ 4 ∧ c = .int .i64 (j : Int) ∧ Arr wr gs 62 (soCells T j (coWp T 0 j)) ∧ Arr wr g7 32 (mcs m0) ∧ Below w.heap.size w wr) (fun c _ => 4 - (intOf c).toNat)
  case atStart => exact ⟨0, by omega, rfl, hs0, h7, hb⟩
  case round =>
    clear hs0 h7 hb
    obtain ⟨j, hj, rfl, hs, h7, hb⟩ := hrel
    by_cases h4 : j < 4
    · have hlt := coWp_lt T 0 j hj
      have hq : 256 ^ j ≤ 16777216 := by
        rcases (by omega : j = 0 ∨ j = 1 ∨ j = 2 ∨ j = 3) with rfl | rfl | rfl | rfl <;> decide
      have hnx := next_any T j (coWp T 0 j) gs 0 wr (by omega) (by omega) hT hs
      rw [coWp_next T j h4] at hnx
      clear hlt hq
      go_wp2_with fail
      refine hnx.mono ?_
      rintro e w6 ⟨rfl, hs6, hg6⟩
      replace h7 := h7.grown hg6 (fun e => hne (by injection e))
      replace hb := hb.grown hg6 hb.size (fun k e => by cases e; exact ls)
      clear hs hg6 hnx
      go_wp2_with fail
      go_roundw
      case rel => exact ⟨j + 1, by omega, by simp, hs6, h7, hb⟩
      case measure => simp [intOf]; omega
    · obtain rfl : j = 4 := by omega
      rw [coWp_four] at hs
      clear hj h4
      have hv : Arr (wr.alloc (Obj.cells #[Value.int .i64 0, Value.int .i64 4294967295, Value.func (Fn.func 37) #[Value.pointer (some ⟨gs, 0, none⟩)] #[]] 56)) wr.heap.size 56 (ivCells 0 4294967295 (.func (.func 37) [Value.pointer (some ⟨gs, 0, none⟩)].toArray [].toArray)) :=
        Arr.new wr 56 (ivCells 0 4294967295 (.func (.func 37) [Value.pointer (some ⟨gs, 0, none⟩)].toArray [].toArray))
      have lgs := hs.lt
      have lg7 := h7.lt
      have hng : w.heap.size ≤ wr.heap.size := hb.size
      have hs5 := hs.alloc (Obj.cells #[Value.int .i64 0, Value.int .i64 4294967295, Value.func (Fn.func 37) #[Value.pointer (some ⟨gs, 0, none⟩)] #[]] 56)
      have h75 := h7.alloc (Obj.cells #[Value.int .i64 0, Value.int .i64 4294967295, Value.func (Fn.func 37) #[Value.pointer (some ⟨gs, 0, none⟩)] #[]] 56)
      have hb5 := hb.alloc hb.size (Obj.cells #[Value.int .i64 0, Value.int .i64 4294967295, Value.func (Fn.func 37) #[Value.pointer (some ⟨gs, 0, none⟩)] #[]] 56)
      clear hs h7 hb
      go_wp2_with (first | (refine mkRow (z := .int .u8 0) (.tmp 29) (.tmp 29) n Try.sl_u8 rfl (wn rfl) rfl rfl rfl (by omega) (by decide) ?_) | fail)
      intro wd hd bd
      have hsz1 : (wr.alloc (Obj.cells #[Value.int .i64 0, Value.int .i64 4294967295, Value.func (Fn.func 37) #[Value.pointer (some ⟨gs, 0, none⟩)] #[]] 56)).heap.size = wr.heap.size + 1 := World.size_alloc _ _
      generalize wr.alloc (Obj.cells #[Value.int .i64 0, Value.int .i64 4294967295, Value.func (Fn.func 37) #[Value.pointer (some ⟨gs, 0, none⟩)] #[]] 56) = wv at *
      generalize wr.heap.size = gv at *
      obtain ⟨gd, hgd⟩ : ∃ gd, gd = gv + 1 := ⟨_, rfl⟩
      rw [← hgd] at hd bd hsz1
      simp only [← hgd]
      have hd0 : Arr wd gd 5 (bcs ([] ++ List.replicate (n - ([] : List UInt8).length) 0)) := by
        rw [List.nil_append, List.length_nil, Nat.sub_zero, bcs_zeros]
        exact hd
      have hin : CoPD T n (m0, coStart) [] w.heap.size g7 gs gv gd w wd := ⟨HS.out, h75.below bd (by omega), hs5.below bd (by omega), hv.below bd (by omega), hd0, hb5.trans (bd.mono (by omega))⟩
      have HLAY : Hid (g7 ≠ gs ∧ g7 ≠ gv ∧ g7 ≠ gd ∧ gs ≠ gv ∧ gs ≠ gd ∧ gv ≠ gd ∧ w.heap.size ≤ g7 ∧ w.heap.size ≤ gs ∧ w.heap.size ≤ gv ∧ w.heap.size ≤ gd) := Lib.hid (by omega)
      clear hd hd0 bd hsz1 hgd hv hs5 h75 hb5 lgs lg7 hng l7 ls l7s hne HL
      go_wp2_with fail
      go_loopw [33] (fun k_ wr => ∃ (k : Nat) (s : List Nat × CoIv) (L : List UInt8), k ≤ n ∧ k_ = .int .i64 (k : Int) ∧ Hid (L ++ coDecode T (n - k) s = CF) ∧ Hid (L.length = k) ∧ Hid (s.2.out.length ≤ 40 * k) ∧ CoPD T n s L w.heap.size g7 gs gv gd w wr) (fun k_ _ => n - (intOf k_).toNat)
      case atStart => exact ⟨0, _, [], by omega, rfl, Lib.hid HC.out.symm, Lib.hid rfl, Lib.hid (Nat.zero_le _), hin⟩
      case round =>
        clear hin HC
        obtain ⟨k, s, L, hk, rfl, HD, HLL, HSL, hin⟩ := hrel
        by_cases hlt : k < n
        · go_wp2_with fail
          go_loopw [12] (fun c wi => ∃ (t C : Nat), t ≤ 8 ∧ c = .int .i64 (C : Int) ∧ ∃ s', Hid (coDecBits T (8 - t) C s' = coDecBits T 8 1 s) ∧ Hid (2 ^ t ≤ C ∧ C < 2 ^ (t + 1)) ∧ Hid (s'.2.out.length ≤ 40 * k + 5 * t) ∧ CoPD T n s' L w.heap.size g7 gs gv gd w wi) (fun c _ => 256 - (intOf c).toNat)
          case atStart => exact ⟨0, 1, by omega, rfl, s, Lib.hid rfl, Lib.hid (by decide), HSL, hin⟩
          case round =>
            clear hin HSL
            obtain ⟨t, C, ht, rfl, s', HDB, HCB, HSL, hin⟩ := hrel
            by_cases hc256 : C < 256
            · go_wp2_with fail
              have h8 : t < 8 := by
                rcases Nat.lt_or_ge t 8 with h | h
                · exact h
                · have h1 := HCB.out.1
                  have h2 : 2 ^ 8 ≤ 2 ^ t := Nat.pow_le_pow_right (by decide) h
                  omega
              have hc1 : 1 ≤ C := by
                have h1 := HCB.out.1
                have h2 : 1 ≤ 2 ^ t := Nat.one_le_two_pow
                omega
              obtain ⟨m, v⟩ := s'
              have hgood := hin.st.good
              have hopn := hin.st.opn
              have hA := hin.m
              have hS := hin.src
              have hV := hin.v
              have hD := hin.o
              have hB := hin.b
              clear hin
              simp only at hgood hopn hA hV hS
              have hmid := hgood.mid _ hc1 hc256
              obtain ⟨n1, n2, n3, n4, n5, n6, l1, l2, l3, l4⟩ := HLAY.out
              have hpm := mcs_get (m := m) (c := C) (by rw [hgood.len]; exact hc256)
              have hMA := fun W hW => middle_any v (m.getD C 0) gv (.func (.func 37) [Value.pointer (some ⟨gs, 0, none⟩)].toArray [].toArray) W hopn.toCoIn hmid hW
              refine rgStart (fun w' => Arr w' gs 62 (soCells T (v.out.length + 4) (coWord T v.out.length)) ∧ Arr w' gv 56 (ivCells v.x v.y (.func (.func 37) [Value.pointer (some ⟨gs, 0, none⟩)].toArray [].toArray)) ∧ Arr w' g7 32 (mcs m)) (by kernel_rfl) ?_
              have hq : (fun w' : World => Arr w' gs 62 (soCells T (v.out.length + 4) (coWord T v.out.length)) ∧ Arr w' gv 56 (ivCells v.x v.y (.func (.func 37) [Value.pointer (some ⟨gs, 0, none⟩)].toArray [].toArray)) ∧ Arr w' g7 32 (mcs m)) wr.drew := ⟨hS.drew, hV.drew, hA.drew⟩
              refine rgTake (S := fun w' => Arr w' gs 62 (soCells T (v.out.length + 4) (coWord T v.out.length)) ∧ Arr w' gv 56 (ivCells v.x v.y (.func (.func 37) [Value.pointer (some ⟨gs, 0, none⟩)].toArray [].toArray)) ∧ Arr w' g7 32 (mcs m)) (i := 0) (v := .pointer (some ⟨gs, 0, none⟩)) rfl (by kernel_rfl) (by kernel_rfl) (fun _ _ _ h => h) (fun w _ => by kernel_rfl) hq ?_
              refine rgTake (S := fun w' => Arr w' gs 62 (soCells T (v.out.length + 4) (coWord T v.out.length)) ∧ Arr w' gv 56 (ivCells v.x v.y (.func (.func 37) [Value.pointer (some ⟨gs, 0, none⟩)].toArray [].toArray)) ∧ Arr w' g7 32 (mcs m)) (i := 1) (v := .pointer (some ⟨gs, 0, none⟩)) rfl (by kernel_rfl) (by kernel_rfl) (fun _ _ _ h => h) (fun w _ => by kernel_rfl) hq ?_
              refine rgTake (S := fun w' => Arr w' gs 62 (soCells T (v.out.length + 4) (coWord T v.out.length)) ∧ Arr w' gv 56 (ivCells v.x v.y (.func (.func 37) [Value.pointer (some ⟨gs, 0, none⟩)].toArray [].toArray)) ∧ Arr w' g7 32 (mcs m)) (i := 2) (v := .pointer (some ⟨gs, 2, none⟩)) rfl (by kernel_rfl) (by kernel_rfl) (fun _ _ _ h => h) (fun w _ => by kernel_rfl) hq ?_
              refine rgTake (S := fun w' => Arr w' gs 62 (soCells T (v.out.length + 4) (coWord T v.out.length)) ∧ Arr w' gv 56 (ivCells v.x v.y (.func (.func 37) [Value.pointer (some ⟨gs, 0, none⟩)].toArray [].toArray)) ∧ Arr w' g7 32 (mcs m)) (i := 3) (v := .int .i64 ((coWord T v.out.length : Nat) : Int)) rfl (by kernel_rfl) (by kernel_rfl) (fun _ _ _ h => h) (fun w h => ldRun (.tmp 40) (by kernel_rfl) rfl (by kernel_rfl) (h.1.cell (i := 2) rfl)) hq ?_
              refine rgTake (S := fun w' => Arr w' gs 62 (soCells T (v.out.length + 4) (coWord T v.out.length)) ∧ Arr w' gv 56 (ivCells v.x v.y (.func (.func 37) [Value.pointer (some ⟨gs, 0, none⟩)].toArray [].toArray)) ∧ Arr w' g7 32 (mcs m)) (i := 4) (v := .pointer (some ⟨gv, 0, none⟩)) rfl (by kernel_rfl) (by kernel_rfl) (fun _ _ _ h => h) (fun w _ => by kernel_rfl) hq ?_
              refine rgTake (S := fun w' => Arr w' gs 62 (soCells T (v.out.length + 4) (coWord T v.out.length)) ∧ Arr w' gv 56 (ivCells v.x v.y (.func (.func 37) [Value.pointer (some ⟨gs, 0, none⟩)].toArray [].toArray)) ∧ Arr w' g7 32 (mcs m)) (i := 5) (v := .int .i64 (C : Int)) rfl (by kernel_rfl) (by kernel_rfl) (fun _ _ _ h => h) (fun w _ => by kernel_rfl) hq ?_
              simp only [Act.put, List.setIfInBounds_toArray, List.set_cons_succ, List.set_cons_zero]
              refine rgTake (S := fun w' => Arr w' gs 62 (soCells T (v.out.length + 4) (coWord T v.out.length)) ∧ Arr w' gv 56 (ivCells v.x v.y (.func (.func 37) [Value.pointer (some ⟨gs, 0, none⟩)].toArray [].toArray)) ∧ Arr w' g7 32 (mcs m)) (i := 6) (v := .pointer (some ⟨g7, 0 + C * 1, none⟩)) rfl (by kernel_rfl) (by kernel_rfl) (fun _ _ _ h => h) (fun w _ => iaRun (n := 256) (kk := .i64) (.tmp 7) (.tmp 43) C Try.und_m Try.one_int rfl (by kernel_rfl) (by kernel_rfl) rfl hc256) hq ?_
              refine rgTake (S := fun w' => Arr w' gs 62 (soCells T (v.out.length + 4) (coWord T v.out.length)) ∧ Arr w' gv 56 (ivCells v.x v.y (.func (.func 37) [Value.pointer (some ⟨gs, 0, none⟩)].toArray [].toArray)) ∧ Arr w' g7 32 (mcs m)) (i := 7) (v := .int .i64 ((m.getD C 0 : Nat) : Int)) rfl (by kernel_rfl) (by kernel_rfl) (fun _ _ _ h => h) (fun w h => ldRun (.tmp 44) (by kernel_rfl) rfl (by kernel_rfl) (show w.cell? ⟨g7, 0 + C * 1, none⟩ = _ by rw [Nat.zero_add, Nat.mul_one]; exact h.2.2.cell hpm)) hq ?_
              refine rgNext (S := fun w' => Arr w' gs 62 (soCells T (v.out.length + 4) (coWord T v.out.length)) ∧ Arr w' gv 56 (ivCells v.x v.y (.func (.func 37) [Value.pointer (some ⟨gs, 0, none⟩)].toArray [].toArray)) ∧ Arr w' g7 32 (mcs m)) (i := 8) (by kernel_rfl) rfl ?_
              simp only [Act.put, List.setIfInBounds_toArray, List.set_cons_succ, List.set_cons_zero]
              refine callOp 38 [.pointer (some ⟨gv, 0, none⟩), .int .i64 ((m.getD C 0 : Nat) : Int)] [] [] (by kernel_rfl) (wn rfl) rfl rfl rfl ?_
              refine (hMA wr.drew hq.2.1).mono ?_
              rintro e w4 ⟨rfl, rfl⟩
              refine ⟨_, rfl, ?_⟩
              replace hq : (fun w' : World => Arr w' gs 62 (soCells T (v.out.length + 4) (coWord T v.out.length)) ∧ Arr w' gv 56 (ivCells v.x v.y (.func (.func 37) [Value.pointer (some ⟨gs, 0, none⟩)].toArray [].toArray)) ∧ Arr w' g7 32 (mcs m)) wr.drew.drew := ⟨hS.drew.drew, hV.drew.drew, hA.drew.drew⟩
              refine rgBack hq ?_
              refine rgTake (S := fun w' => Arr w' gs 62 (soCells T (v.out.length + 4) (coWord T v.out.length)) ∧ Arr w' gv 56 (ivCells v.x v.y (.func (.func 37) [Value.pointer (some ⟨gs, 0, none⟩)].toArray [].toArray)) ∧ Arr w' g7 32 (mcs m)) (i := 9) (v := .bool (decide (((coWord T v.out.length : Nat) : Int) ≤ ((coMid v (m.getD C 0) : Nat) : Int)))) rfl (by kernel_rfl) (by kernel_rfl) (fun _ _ _ h => h) (fun w _ => leqRun (.tmp 41) (.tmp 46) rfl (by kernel_rfl) (by kernel_rfl)) hq ?_
              refine rgDone (by kernel_rfl) ?_
              simp only [Act.put, List.setIfInBounds_toArray, List.set_cons_succ, List.set_cons_zero]
              have HBD : Hid (∀ b, (if coWord T v.out.length ≤ coMid v (m.getD C 0) then 1 else 0) = b → coDecBits T (7 - t + 1) C (m, v) = coDecBits T (7 - t) (2 * C + b) (coStep (m, v) (C, b))) := Lib.hid (coDecBits_succ T (7 - t) C (m, v))
              have HDB2 : Hid (coDecBits T (7 - t + 1) C (m, v) = coDecBits T 8 1 s) := Lib.hid (by rw [show 7 - t + 1 = 8 - t by omega]; exact HDB.out)
              clear HDB hMA
              replace hD := hD.drew.drew
              replace hB := hB.drew.drew
              obtain ⟨hS, hV, hA⟩ := hq
              generalize wr.drew.drew = wd at *
              by_cases hle : coWord T v.out.length ≤ coMid v (m.getD C 0)
              · have HBB := Lib.hid hle
                have hle2 : ((coWord T v.out.length : Nat) : Int) ≤ ((coMid v (m.getD C 0) : Nat) : Int) := by omega
                clear hle
                have hcm := hA.cell hpm
                go_wp2_with fail
                clear hle2 hcm
                have HDB3 : Hid (coDecBits T (7 - t) (2 * C + 1) (coStep (m, v) (C, 1)) = coDecBits T 8 1 s) := Lib.hid ((HBD.out 1 (by rw [if_pos HBB.out])).symm.trans HDB2.out)
                refine (narrow_any v 1 (m.getD C 0) gv 37 [.pointer (some ⟨gs, 0, none⟩)] [] (by kernel_rfl) (fun out W => Arr W gs 62 (soCells T (out.length + 4) (coWord T out.length))) (Kp2 gs gv) wd hopn hmid (by omega) (fun _ _ _ => Kp2.trans) (fun A B cur _ hg => Kp2.right hg) (fun out A B cur hS _ hg => hS.grown hg (fun e => n4 (by injection e))) ?nx hV hS).mono ?_
                case nx =>
                  intro out x W cur hlen hS hV
                  have h1 := coNarrow_len v 1 (m.getD C 0)
                  have h2 : v.out.length ≤ 40 * k + 5 * t := HSL.out
                  refine (next_any T (out.length + 4) (coWord T out.length) gs (x.toNat : Int) W (coWord_lt T _) (by omega) hT hS).mono ?_
                  rintro e W' ⟨rfl, hA', hg⟩
                  refine ⟨rfl, ?_, hg.block gv hV.lt (fun e => n4 (by injection e with e; exact e.symm)), Kp2.left hg⟩
                  rw [coWord_shift] at hA'
                  rw [List.length_append, List.length_singleton, Nat.add_right_comm]
                  exact hA'
                rintro e w5 ⟨rfl, hS5, hV5, hK5⟩
                have hA5 := hK5.arr hA n1 n2
                have hD5 := hK5.arr hD (Ne.symm n5) (Ne.symm n6)
                have hB5 := hK5.below hB hB.size l2 l3
                have hN : coStep (m, v) (C, 1) = (coLearnAt m C 1, coNarrow v 1 (m.getD C 0)) := rfl
                rw [hN] at HDB3
                have HST2 := Lib.hid (CoSt.step (s := (m, v)) ⟨hgood, hopn⟩ (p := (C, 1)) hc1 hc256)
                rw [hN] at HST2
                have HSL3 : Hid ((coNarrow v 1 (m.getD C 0)).out.length ≤ 40 * k + 5 * (t + 1)) := Lib.hid (by have h1 := coNarrow_len v 1 (m.getD C 0); have h2 : v.out.length ≤ 40 * k + 5 * t := HSL.out; omega)
                clear hN HSL hS hV hA hD hB hK5 HBD HDB2 HBB
                generalize coNarrow v 1 (m.getD C 0) = v' at *
                go_wp2_with fail
                refine (learn_any m g7 C 1 w5 hgood hc1 hc256 (by omega) hA5).mono ?_
                rintro e w6 ⟨rfl, hA6, hg6⟩
                have hin : CoPD T n (coLearnAt m C 1, v') L w.heap.size g7 gs gv gd w w6 := ⟨HST2.out, hA6, hS5.grown hg6 (fun e => n1 (by injection e with e; exact e.symm)), hV5.grown hg6 (fun e => n2 (by injection e with e; exact e.symm)), hD5.grown hg6 (fun e => n3 (by injection e with e; exact e.symm)), hB5.grown hg6 hB5.size (fun k e => by cases e; exact l1)⟩
                clear hA5 hA6 hS5 hV5 hD5 hB5 hg6 hpm hgood hopn hmid n1 n2 n3 n4 n5 n6 l1 l2 l3 l4
                have hnx : bits .or .i64 ((C : Int) * 2) 1 = ((2 * C + 1 : Nat) : Int) := co_next C 1 (by omega) (by omega)
                have HCB2 : Hid (2 ^ (t + 1) ≤ 2 * C + 1 ∧ 2 * C + 1 < 2 ^ (t + 1 + 1)) := Lib.hid (by have h1 := HCB.out; rw [Nat.pow_succ] at h1 ⊢; rw [Nat.pow_succ, Nat.pow_succ]; omega)
                clear HCB
                have HNX := Lib.hid hnx
                clear hnx
                go_wp2_with fail
                rw [HNX.out]
                go_roundw
                case rel => exact ⟨t + 1, 2 * C + 1, by omega, rfl, _, Lib.hid (by rw [show 8 - (t + 1) = 7 - t by omega]; exact HDB3.out), HCB2, HSL3, hin⟩
                case measure => simp [intOf]; omega
              · have HBB := Lib.hid hle
                have hle2 : ¬ ((coWord T v.out.length : Nat) : Int) ≤ ((coMid v (m.getD C 0) : Nat) : Int) := by omega
                clear hle
                have hcm := hA.cell hpm
                go_wp2_with fail
                clear hle2 hcm
                have HDB3 : Hid (coDecBits T (7 - t) (2 * C + 0) (coStep (m, v) (C, 0)) = coDecBits T 8 1 s) := Lib.hid ((HBD.out 0 (by rw [if_neg HBB.out])).symm.trans HDB2.out)
                refine (narrow_any v 0 (m.getD C 0) gv 37 [.pointer (some ⟨gs, 0, none⟩)] [] (by kernel_rfl) (fun out W => Arr W gs 62 (soCells T (out.length + 4) (coWord T out.length))) (Kp2 gs gv) wd hopn hmid (by omega) (fun _ _ _ => Kp2.trans) (fun A B cur _ hg => Kp2.right hg) (fun out A B cur hS _ hg => hS.grown hg (fun e => n4 (by injection e))) ?nx hV hS).mono ?_
                case nx =>
                  intro out x W cur hlen hS hV
                  have h1 := coNarrow_len v 0 (m.getD C 0)
                  have h2 : v.out.length ≤ 40 * k + 5 * t := HSL.out
                  refine (next_any T (out.length + 4) (coWord T out.length) gs (x.toNat : Int) W (coWord_lt T _) (by omega) hT hS).mono ?_
                  rintro e W' ⟨rfl, hA', hg⟩
                  refine ⟨rfl, ?_, hg.block gv hV.lt (fun e => n4 (by injection e with e; exact e.symm)), Kp2.left hg⟩
                  rw [coWord_shift] at hA'
                  rw [List.length_append, List.length_singleton, Nat.add_right_comm]
                  exact hA'
                rintro e w5 ⟨rfl, hS5, hV5, hK5⟩
                have hA5 := hK5.arr hA n1 n2
                have hD5 := hK5.arr hD (Ne.symm n5) (Ne.symm n6)
                have hB5 := hK5.below hB hB.size l2 l3
                have hN : coStep (m, v) (C, 0) = (coLearnAt m C 0, coNarrow v 0 (m.getD C 0)) := rfl
                rw [hN] at HDB3
                have HST2 := Lib.hid (CoSt.step (s := (m, v)) ⟨hgood, hopn⟩ (p := (C, 0)) hc1 hc256)
                rw [hN] at HST2
                have HSL3 : Hid ((coNarrow v 0 (m.getD C 0)).out.length ≤ 40 * k + 5 * (t + 1)) := Lib.hid (by have h1 := coNarrow_len v 0 (m.getD C 0); have h2 : v.out.length ≤ 40 * k + 5 * t := HSL.out; omega)
                clear hN HSL hS hV hA hD hB hK5 HBD HDB2 HBB
                generalize coNarrow v 0 (m.getD C 0) = v' at *
                go_wp2_with fail
                refine (learn_any m g7 C 0 w5 hgood hc1 hc256 (by omega) hA5).mono ?_
                rintro e w6 ⟨rfl, hA6, hg6⟩
                have hin : CoPD T n (coLearnAt m C 0, v') L w.heap.size g7 gs gv gd w w6 := ⟨HST2.out, hA6, hS5.grown hg6 (fun e => n1 (by injection e with e; exact e.symm)), hV5.grown hg6 (fun e => n2 (by injection e with e; exact e.symm)), hD5.grown hg6 (fun e => n3 (by injection e with e; exact e.symm)), hB5.grown hg6 hB5.size (fun k e => by cases e; exact l1)⟩
                clear hA5 hA6 hS5 hV5 hD5 hB5 hg6 hpm hgood hopn hmid n1 n2 n3 n4 n5 n6 l1 l2 l3 l4
                have hnx : bits .or .i64 ((C : Int) * 2) 0 = ((2 * C + 0 : Nat) : Int) := co_next C 0 (by omega) (by omega)
                have HCB2 : Hid (2 ^ (t + 1) ≤ 2 * C + 0 ∧ 2 * C + 0 < 2 ^ (t + 1 + 1)) := Lib.hid (by have h1 := HCB.out; rw [Nat.pow_succ] at h1 ⊢; rw [Nat.pow_succ, Nat.pow_succ]; omega)
                clear HCB
                have HNX := Lib.hid hnx
                clear hnx
                go_wp2_with fail
                rw [HNX.out]
                go_roundw
                case rel => exact ⟨t + 1, 2 * C + 0, by omega, rfl, _, Lib.hid (by rw [show 8 - (t + 1) = 7 - t by omega]; exact HDB3.out), HCB2, HSL3, hin⟩
                case measure => simp [intOf]; omega
            · have ht8 : t = 8 := by
                rcases Nat.lt_or_ge t 8 with h | h
                · have h1 := HCB.out.2
                  have h2 : 2 ^ (t + 1) ≤ 2 ^ 8 := Nat.pow_le_pow_right (by decide) (by omega)
                  omega
                · omega
              subst ht8
              have hC2 : C < 512 := HCB.out.2
              have HD2 := Lib.hid (coDecode_next hlt HD.out HDB.out)
              have HLL2 : Hid ((L ++ [UInt8.ofNat C]).length = k + 1) := Lib.hid (by rw [List.length_append, HLL.out]; rfl)
              have HSL2 : Hid (s'.2.out.length ≤ 40 * (k + 1)) := Lib.hid (by have h1 := HSL.out; omega)
              have HBY : Hid (C % 256 = (UInt8.ofNat C).toNat) := Lib.hid (by simp)
              have hkd : k < (bcs (L ++ List.replicate (n - L.length) 0)).length := by
                rw [bcs_length, List.length_append, List.length_replicate, HLL.out]
                omega
              obtain ⟨old, hold⟩ : ∃ old, (bcs (L ++ List.replicate (n - L.length) 0))[k]? = some old := ⟨_, List.getElem?_eq_getElem hkd⟩
              have cd := hin.o.cell hold
              have fd := hin.o.thaw k
              have hDn := hin.o.set k (bc (UInt8.ofNat C))
              rw [fill_next HLL.out hlt] at hDn
              obtain ⟨n1, n2, n3, n4, n5, n6, l1, l2, l3, l4⟩ := HLAY.out
              have hin2 : CoPD T n s' (L ++ [UInt8.ofNat C]) w.heap.size g7 gs gv gd w (wr.setCell ⟨gd, k, none⟩ (bc (UInt8.ofNat C))) := ⟨hin.st, hin.m.other (Ne.symm n3) _ _, hin.src.other (Ne.symm n5) _ _, hin.v.other (Ne.symm n6) _ _, hDn, hin.b.setCell (p := ⟨gd, k, none⟩) l4 _⟩
              have hby : bc (UInt8.ofNat C) = Value.int .u8 ((C : Int) % 256) := by
                unfold bc
                rw [← HBY.out]
                exact congrArg _ (by omega)
              rw [hby] at hin2
              clear hin hby HBY hDn hold hkd n1 n2 n3 n4 n5 n6 l1 l2 l3 l4 HD HLL HSL HDB HCB
              go_wp2_with fail
              refine ⟨⟨k + 1, s', _, by omega, by simp, HD2, HLL2, HSL2, hin2⟩, ?_⟩
              simp [intOf]; omega
        · obtain rfl : k = n := by omega
          have hB := hin.b
          have HCE : Hid (L = CF) := Lib.hid (by have h1 := HD.out; rw [Nat.sub_self] at h1; rw [← h1]; exact (List.append_nil _).symm)
          have hO := hin.o
          rw [HLL.out, Nat.sub_self, List.replicate_zero, List.append_nil] at hO
          obtain ⟨n1, n2, n3, n4, n5, n6, l1, l2, l3, l4⟩ := HLAY.out
          have hown := own_of_arr (size := 1) (n := k) hO (by rw [bcs_length, HLL.out, Nat.mul_one]) l4 (by unfold maxLen; omega)
          obtain ⟨A, c, hAe, hrd⟩ := Rd.of_own hown
          injection hAe with ha1 ha2 ha3
          subst ha1
          subst ha3
          clear hin HD hO hown
          go_wp2_with (with_reducible refine convStr (.tmp 67) L Try.sl_u8.und Try.und_u8 Try.und_str (wn rfl) rfl rfl hrd ?_)
          go_ret
          exact ⟨by rw [← HCE.out]; rfl, hB⟩
end Go.Proofs.Ytpbebmbkcpdbeaa
