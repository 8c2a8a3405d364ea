/-
  The reference's Bytes: what it returns. No statement is proved here.
-/
import Derived.Test.YtpbebmbkcpdbeaaCoWord
import Derived.Outline
namespace Go.Proofs.Ytpbebmbkcpdbeaa
open Go.RowKit
set_option linter.unusedVariables false

section
variable {P : Program} {w : World} {o : Oper} {a : Act} {t ty : TypeId}
theorem shr12 {m : Nat} (x y : Operand) (ho : o.op = .binOp .shr t x y ty) (hx : a.eval x = .int .i64 (m : Int)) (hy : a.eval y = .int .u64 12) : (execOp a.eval o).run P w = .ok (.value (.int .i64 ((m / 4096 : Nat) : Int))) w := by
  have h1 : ((m / 4096 : Nat) : Int) = (m : Int).fdiv (2 ^ 12) := by
    rw [Int.fdiv_eq_ediv_of_nonneg _ (by decide)]
    simp
  rw [h1]
  unfold execOp
  simp [ho, hx, hy, eqGuard, binOp_shr, Op.shift]
  rfl
theorem lenSlRun {e : TypeId} {A : Option Addr} {n c : Nat} (x : Operand) (ht : P.underlying t = some (.slice e)) (ho : o.op = .call { callee := .builtin .len, args := #[x], argTypes := #[t] }) (hx : a.eval x = .slice A n c) : (execOp a.eval o).run P w = .ok (.value (.int .i64 (n : Int))) w := by
  unfold execOp
  simp [ho, hx, resolve, invoke, builtin, Builtin.len_, run_underlying ht, goInt]
theorem leqRun {A B : Int} (x y : Operand) (ho : o.op = .binOp .leq t x y ty) (hx : a.eval x = .int .i64 A) (hy : a.eval y = .int .i64 B) : (execOp a.eval o).run P w = .ok (.value (.bool (decide (A ≤ B)))) w := by
  unfold execOp
  simp [ho, hx, hy, eqGuard, binOp_leq]
end
/-- What holds while the reference decodes. -/
structure CoRD (s : List Nat × CoIv) (L : List UInt8) (ro : Value) (n0 g7 g8 : Nat) (w0 w : World) : Prop where
  st : CoSt s
  m : Arr w g7 30 (mcs s.1)
  v : ∃ vo, Arr w g8 58 (riCells s.2.x s.2.y vo) ∧ w.ownsRow n0 5 1 vo s.2.out.length (bcs s.2.out) ∧ (ro.ownBlock = none ∨ ro.ownBlock ≠ vo.ownBlock)
  o : w.ownsRow n0 5 1 ro L.length (bcs L)
  b : Below n0 w0 w
theorem coDecBits_succ (T : List UInt8) (j c : Nat) (s : List Nat × CoIv) (b : Nat) (h : (if coWord T s.2.out.length ≤ coMid s.2 (s.1.getD c 0) then 1 else 0) = b) : coDecBits T (j + 1) c s = coDecBits T j (2 * c + b) (coStep s (c, b)) := by
  subst h
  rfl
theorem coStep_len (s : List Nat × CoIv) (p : Nat × Nat) : (coStep s p).2.out.length ≤ s.2.out.length + 5 := coNarrow_len _ _ _
theorem sep_after {w : World} {n0 n N : Nat} {ro vo vo' : Value} {xs : List Value} {e : TypeId} (h : w.ownsRow n0 e 1 ro n xs) (hN : w.heap.size ≤ N) (hsep : ro.ownBlock = none ∨ ro.ownBlock ≠ vo.ownBlock) (hS : SameOrNew vo vo' N) : ro.ownBlock = none ∨ ro.ownBlock ≠ vo'.ownBlock := by
  rcases hsep with h1 | h1
  · exact Or.inl h1
  · rcases hS with h2 | ⟨g, h2, h3⟩
    · exact Or.inr (fun e => h1 (e.trans h2))
    · refine Or.inr (fun e => ?_)
      have := (h.lt g (e.trans h2)).2
      omega
theorem row_kept {w w' : World} {n0 n : Nat} {ro vo : Value} {xs : List Value} {e : TypeId} (h : w.ownsRow n0 e 1 ro n xs) (hsep : ro.ownBlock = none ∨ ro.ownBlock ≠ vo.ownBlock) (hk : RowKept w w' vo) : w'.ownsRow n0 e 1 ro n xs := by
  refine ⟨h.1, ?_⟩
  rcases h.2 with h2 | ⟨g, cap, cur, rfl, h3, h4, h5⟩
  · exact Or.inl h2
  · refine Or.inr ⟨g, cap, cur, rfl, h3, (hk g (Array.getElem?_eq_some_iff.1 h4).1 (fun e => ?_)).trans h4, h5⟩
    rcases hsep with h6 | h6
    · cases h6
    · exact h6 e
theorem sep_app {w : World} {n0 n : Nat} {ro vo v4 : Value} {xs : List Value} {e : TypeId} (h : w.ownsRow n0 e 1 vo n xs) (hsep : ro.ownBlock = none ∨ ro.ownBlock ≠ vo.ownBlock) (hS : SameOrNew ro v4 w.heap.size) : v4.ownBlock = none ∨ v4.ownBlock ≠ vo.ownBlock := by
  rcases hS with h2 | ⟨g, h2, h3⟩
  · rw [h2]; exact hsep
  · refine Or.inr (fun e => ?_)
    have := (h.lt g (e.symm.trans h2)).2
    omega
theorem sep_symm {ro vo : Value} (h : ro.ownBlock = none ∨ ro.ownBlock ≠ vo.ownBlock) : vo.ownBlock = none ∨ vo.ownBlock ≠ ro.ownBlock := by
  rcases h with h | h
  · cases hv : vo.ownBlock with
    | none => exact Or.inl rfl
    | some g => exact Or.inr (by rw [h]; simp)
  · exact Or.inr (Ne.symm h)
theorem coDecode_next {T : List UInt8} {L CF : List UInt8} {n k C : Nat} {s s' : List Nat × CoIv} (hk : k < n) (h : L ++ coDecode T (n - k) s = CF) (hb : coDecBits T (8 - 8) C s' = coDecBits T 8 1 s) : (L ++ [UInt8.ofNat C]) ++ coDecode T (n - (k + 1)) s' = CF := by
  rw [← h, show n - k = (n - (k + 1)) + 1 by omega, List.append_assoc]
  congr 1
  show _ = UInt8.ofNat (coDecBits T 8 1 s).1 :: coDecode T (n - (k + 1)) (coDecBits T 8 1 s).2
  rw [← hb]
  rfl
theorem ownBlock_row {w : World} {n0 n : Nat} {v : Value} {xs : List Value} {e : TypeId} (h : w.ownsRow n0 e 1 v n xs) : v.ownBlock = none ∨ ∃ g, v.ownBlock = some g ∧ g < w.heap.size := by
  cases hv : v.ownBlock with
  | none => exact Or.inl rfl
  | some g => exact Or.inr ⟨g, rfl, (h.lt g hv).2⟩

set_option maxRecDepth 100000 in
set_option maxHeartbeats 4000000 in
theorem refBytes_any (prior T : List UInt8) (n : Nat) (hp : prior.length ≤ 140737488351232) (hT : T.length ≤ 140737488351232) (hn : n ≤ 1000000) (w : World) :
    Calls Try.prog 29 #[.string ⟨prior.toArray⟩, .string ⟨T.toArray⟩, .int .i64 (n : Int)] w fun e w' => e = .returned (.string ⟨(coDecode T n (coTrain coNew (coAll prior), coStart)).toArray⟩) ∧ Below w.heap.size w w' := by
  have HS := Lib.hid (coNew_st prior)
  have HT := Lib.hid (fun w' => refTrain_any coNew coNew_good prior hp w')
  obtain ⟨CF, hC⟩ : ∃ CF, CF = coDecode T n (coTrain coNew (coAll prior), coStart) := ⟨_, rfl⟩
  rw [← hC]
  have HC := Lib.hid hC
  clear hC
  generalize coTrain coNew (coAll prior) = m0 at *
  go_enter Try.func29, Try.ntmps29
  go_wp2_with fail
  refine (refNew_any w).mono ?_
  rintro e w1 ⟨rfl, b1⟩
  go_wp2_with fail
  refine (HT.out w1).mono ?_
  rintro e w2 ⟨rfl, b2⟩
  have hb := b1.trans (b2.mono b1.size)
  clear b1 b2
  go_wp2_with (with_reducible refine alArr (z := mcs coZero) Try.ag_i256 (wn rfl) rfl ?_)
  intro w3 h5 b3
  have l5 : w.heap.size ≤ w2.heap.size := hb.size
  replace hb := hb.trans (b3.mono l5)
  clear b3
  have HL := Lib.hid (show (mcs m0).length = 256 by rw [mcs_length]; exact HS.out.good.len)
  go_wp2_with (with_reducible refine stArrG (cs := mcs m0) (.tmp 7) (.tmp 16) Try.ag_i256 (wn rfl) rfl rfl rfl h5 (by kernel_rfl) HL.out (mcs_one _) ?_)
  intro w4 h5 hgr
  replace hb := hb.grown hgr hb.size (fun k e => by cases e; exact l5)
  clear hgr
  generalize w2.heap.size = g7 at *
  go_wp2_with (with_reducible refine alArr (z := riCells 0 0 (.slice none 0 0)) Try.ag_ri (wn rfl) rfl ?_)
  intro w5 h6 b5
  have l6 := h5.lt
  replace h5 := h5.below b5 h5.lt
  replace hb := hb.trans (b5.mono hb.size)
  clear b5
  go_wp2_with (with_reducible refine stArrG (cs := riCells 0 4294967295 (.slice none 0 0)) (.tmp 8) (.tmp 17) Try.ag_ri (wn rfl) rfl rfl rfl h6 (by kernel_rfl) (by kernel_rfl) (ri_one_nil _ _) ?_)
  intro w6 h6 hgr
  have hne : g7 ≠ w4.heap.size := by omega
  replace h5 := h5.grown hgr (fun e => hne (by injection e))
  replace hb := hb.grown hgr hb.size (fun k e => by cases e; omega)
  clear hgr
  generalize w4.heap.size = g8 at *
  have hin : CoRD (m0, coStart) [] (.slice none 0 0) w.heap.size g7 g8 w w6 := ⟨HS.out, h5, ⟨.slice none 0 0, h6, World.ownsRow_nil _ _ _ _, Or.inl rfl⟩, World.ownsRow_nil _ _ _ _, hb⟩
  have HLAY := Lib.hid (show g7 ≠ g8 ∧ w.heap.size ≤ g8 ∧ w.heap.size ≤ g7 from ⟨hne, by omega, l5⟩)
  clear h5 h6 hb hne l5 l6
  go_wp2_with fail
  go_loopw [9, 10] (fun o_ k_ wr => ∃ (k : Nat) (s : List Nat × CoIv) (L : List UInt8), k ≤ n ∧ k_ = .int .i64 (k : Int) ∧ Hid (L ++ coDecode T (n - k) s = CF) ∧ Hid (L.length = k) ∧ Hid (s.2.out.length ≤ 40 * k) ∧ CoRD s L o_ w.heap.size g7 g8 w wr) (fun _ k_ _ => n - (intOf k_).toNat)
  case atStart => exact ⟨0, _, [], by omega, rfl, Lib.hid HC.out.symm, Lib.hid rfl, Lib.hid (Nat.zero_le _), hin⟩
  case round =>
    clear hin HC
    obtain ⟨k, s, L, hk, rfl, HD, HLL, HSL, hin⟩ := hrel
    by_cases hlt : k < n
    · go_wp2_with fail
      go_loopw [11, 12] (fun c i wi => ∃ (t C : Nat) (I : Int) (s' : List Nat × CoIv), t ≤ 8 ∧ c = .int .i64 (I : Int) ∧ I = (C : Int) ∧ i = .int .i64 (t : Int) ∧ Hid (coDecBits T (8 - t) C s' = coDecBits T 8 1 s) ∧ Hid (2 ^ t ≤ C ∧ C < 2 ^ (t + 1)) ∧ Hid (s'.2.out.length ≤ 40 * k + 5 * t) ∧ CoRD s' L u9 w.heap.size g7 g8 w wi) (fun _ i _ => 8 - (intOf i).toNat)
      case atStart => exact ⟨0, 1, _, _, by omega, rfl, rfl, rfl, Lib.hid rfl, Lib.hid (by decide), HSL, hin⟩
      case round =>
        clear hin HSL
        obtain ⟨t, C, I, s', ht, rfl, hI, rfl, HDB, HCB, HSL, hin⟩ := hrel
        by_cases h8 : t < 8
        · subst hI
          go_wp2_with fail
          have hc256 : C < 256 := by
            have h1 := HCB.out.2
            have h2 : 2 ^ (t + 1) ≤ 2 ^ 8 := Nat.pow_le_pow_right (by decide) (by omega)
            omega
          have hc1 : 1 ≤ C := by
            have h1 := HCB.out.1
            have h2 : 1 ≤ 2 ^ t := Nat.one_le_two_pow
            omega
          obtain ⟨m, v⟩ := s'
          have hgood := hin.st.good
          have hopn := hin.st.opn
          have hA := hin.m
          obtain ⟨vo, hV, hO, hsep⟩ := hin.v
          have hR := hin.o
          have hB := hin.b
          clear hin
          simp only at hgood hopn hA hV hO hsep
          have hmid := hgood.mid _ hc1 hc256
          obtain ⟨hne, hl8, hl7⟩ := HLAY.out
          have hpm := mcs_get (m := m) (c := C) (by rw [hgood.len]; exact hc256)
          obtain ⟨A, cc, rfl, hrd⟩ := Rd.of_own hO
          clear hrd
          have hvx : v.x ≤ v.y := hopn.le
          have hvy : v.y < 4294967296 := hopn.hi
          have hmul : (v.y - v.x) * m.getD C 0 ≤ 4294967296 * 4065 := Nat.mul_le_mul (by omega) hmid.2
          have HMID : Hid (coMid v (m.getD C 0) = v.x + (v.y - v.x) * m.getD C 0 / 4096) := Lib.hid rfl
          obtain ⟨vd, hvd⟩ : ∃ vd, vd = v.y - v.x := ⟨_, rfl⟩
          rw [← hvd] at hmul HMID
          obtain ⟨q, hq0⟩ : ∃ q, q = vd * m.getD C 0 := ⟨_, rfl⟩
          rw [← hq0] at hmul HMID
          have HSUB : Hid ((v.y : Int) - (v.x : Int) = (vd : Int)) := Lib.hid (by omega)
          have HMUL : Hid ((vd : Int) * ((m.getD C 0 : Nat) : Int) = (q : Int)) := Lib.hid (by rw [hq0]; simp)
          have HADD : Hid ((v.x : Int) + ((q / 4096 : Nat) : Int) = ((coMid v (m.getD C 0) : Nat) : Int)) := Lib.hid (by rw [HMID.out]; simp)
          have hM1 : coMid v (m.getD C 0) < 8589934592 := by rw [HMID.out]; omega
          have hWT := word_any T v.out.length
          refine rgStart (fun w' => Arr w' g8 58 (riCells v.x v.y (.slice A v.out.length cc)) ∧ Arr w' g7 30 (mcs m)) (by kernel_rfl) ?_
          have hq : (fun w' : World => Arr w' g8 58 (riCells v.x v.y (.slice A v.out.length cc)) ∧ Arr w' g7 30 (mcs m)) wr.drew := ⟨hV.drew, hA.drew⟩
          refine rgTake (S := fun w' => Arr w' g8 58 (riCells v.x v.y (.slice A v.out.length cc)) ∧ Arr w' g7 30 (mcs m)) (i := 0) (v := .string ⟨T.toArray⟩) rfl (by kernel_rfl) (by kernel_rfl) (fun _ _ _ h => h) (fun w _ => by kernel_rfl) hq ?_
          refine rgTake (S := fun w' => Arr w' g8 58 (riCells v.x v.y (.slice A v.out.length cc)) ∧ Arr w' g7 30 (mcs m)) (i := 1) (v := .pointer (some ⟨g8, 2, none⟩)) rfl (by kernel_rfl) (by kernel_rfl) (fun _ _ _ h => h) (fun w _ => by kernel_rfl) hq ?_
          refine rgTake (S := fun w' => Arr w' g8 58 (riCells v.x v.y (.slice A v.out.length cc)) ∧ Arr w' g7 30 (mcs m)) (i := 2) (v := .slice A v.out.length cc) rfl (by kernel_rfl) (by kernel_rfl) (fun _ _ _ h => h) (fun w h => ldRun (.tmp 28) (by kernel_rfl) rfl (by kernel_rfl) (h.1.cell (i := 2) rfl)) hq ?_
          refine rgTake (S := fun w' => Arr w' g8 58 (riCells v.x v.y (.slice A v.out.length cc)) ∧ Arr w' g7 30 (mcs m)) (i := 3) (v := .int .i64 (v.out.length : Int)) rfl (by kernel_rfl) (by kernel_rfl) (fun _ _ _ h => h) (fun w _ => lenSlRun (A := A) (c := cc) (.tmp 29) Try.sl_u8.und rfl (by kernel_rfl)) hq ?_
          refine rgTake (S := fun w' => Arr w' g8 58 (riCells v.x v.y (.slice A v.out.length cc)) ∧ Arr w' g7 30 (mcs m)) (i := 5) (v := .pointer (some ⟨g8, 0, none⟩)) rfl (by kernel_rfl) (by kernel_rfl) (fun _ _ _ h => h) (fun w _ => by kernel_rfl) hq ?_
          refine rgTake (S := fun w' => Arr w' g8 58 (riCells v.x v.y (.slice A v.out.length cc)) ∧ Arr w' g7 30 (mcs m)) (i := 6) (v := .int .i64 (v.x : Int)) rfl (by kernel_rfl) (by kernel_rfl) (fun _ _ _ h => h) (fun w h => ldRun (.tmp 32) (by kernel_rfl) rfl (by kernel_rfl) (h.1.cell (i := 0) rfl)) hq ?_
          refine rgTake (S := fun w' => Arr w' g8 58 (riCells v.x v.y (.slice A v.out.length cc)) ∧ Arr w' g7 30 (mcs m)) (i := 7) (v := .pointer (some ⟨g8, 1, none⟩)) rfl (by kernel_rfl) (by kernel_rfl) (fun _ _ _ h => h) (fun w _ => by kernel_rfl) hq ?_
          refine rgTake (S := fun w' => Arr w' g8 58 (riCells v.x v.y (.slice A v.out.length cc)) ∧ Arr w' g7 30 (mcs m)) (i := 8) (v := .int .i64 (v.y : Int)) rfl (by kernel_rfl) (by kernel_rfl) (fun _ _ _ h => h) (fun w h => ldRun (.tmp 34) (by kernel_rfl) rfl (by kernel_rfl) (h.1.cell (i := 1) rfl)) hq ?_
          refine rgTake (S := fun w' => Arr w' g8 58 (riCells v.x v.y (.slice A v.out.length cc)) ∧ Arr w' g7 30 (mcs m)) (i := 9) (v := .pointer (some ⟨g8, 0, none⟩)) rfl (by kernel_rfl) (by kernel_rfl) (fun _ _ _ h => h) (fun w _ => by kernel_rfl) hq ?_
          refine rgTake (S := fun w' => Arr w' g8 58 (riCells v.x v.y (.slice A v.out.length cc)) ∧ Arr w' g7 30 (mcs m)) (i := 10) (v := .int .i64 (v.x : Int)) rfl (by kernel_rfl) (by kernel_rfl) (fun _ _ _ h => h) (fun w h => ldRun (.tmp 36) (by kernel_rfl) rfl (by kernel_rfl) (h.1.cell (i := 0) rfl)) hq ?_
          simp only [Act.put, List.setIfInBounds_toArray, List.set_cons_succ, List.set_cons_zero]
          refine rgTake (S := fun w' => Arr w' g8 58 (riCells v.x v.y (.slice A v.out.length cc)) ∧ Arr w' g7 30 (mcs m)) (i := 11) (v := .int .i64 (vd : Int)) rfl (by kernel_rfl) (by kernel_rfl) (fun _ _ _ h => h) (fun w _ => subRun (.tmp 35) (.tmp 37) rfl (by kernel_rfl) (by kernel_rfl) HSUB.out (by omega)) hq ?_
          refine rgTake (S := fun w' => Arr w' g8 58 (riCells v.x v.y (.slice A v.out.length cc)) ∧ Arr w' g7 30 (mcs m)) (i := 12) (v := .int .i64 (C : Int)) rfl (by kernel_rfl) (by kernel_rfl) (fun _ _ _ h => h) (fun w _ => by kernel_rfl) hq ?_
          refine rgTake (S := fun w' => Arr w' g8 58 (riCells v.x v.y (.slice A v.out.length cc)) ∧ Arr w' g7 30 (mcs m)) (i := 13) (v := .pointer (some ⟨g7, 0 + C * 1, none⟩)) rfl (by kernel_rfl) (by kernel_rfl) (fun _ _ _ h => h) (fun w _ => iaRun (n := 256) (kk := .i64) (.tmp 7) (.tmp 39) C Try.und_i256 Try.one_int rfl (by kernel_rfl) (by kernel_rfl) rfl hc256) hq ?_
          refine rgTake (S := fun w' => Arr w' g8 58 (riCells v.x v.y (.slice A v.out.length cc)) ∧ Arr w' g7 30 (mcs m)) (i := 14) (v := .int .i64 ((m.getD C 0 : Nat) : Int)) rfl (by kernel_rfl) (by kernel_rfl) (fun _ _ _ h => h) (fun w h => ldRun (.tmp 40) (by kernel_rfl) rfl (by kernel_rfl) (show w.cell? ⟨g7, 0 + C * 1, none⟩ = _ by rw [Nat.zero_add, Nat.mul_one]; exact h.2.cell hpm)) hq ?_
          refine rgTake (S := fun w' => Arr w' g8 58 (riCells v.x v.y (.slice A v.out.length cc)) ∧ Arr w' g7 30 (mcs m)) (i := 15) (v := .int .i64 (q : Int)) rfl (by kernel_rfl) (by kernel_rfl) (fun _ _ _ h => h) (fun w _ => mulRun (.tmp 38) (.tmp 41) rfl (by kernel_rfl) (by kernel_rfl) HMUL.out (by omega)) hq ?_
          refine rgTake (S := fun w' => Arr w' g8 58 (riCells v.x v.y (.slice A v.out.length cc)) ∧ Arr w' g7 30 (mcs m)) (i := 16) (v := .int .i64 ((q / 4096 : Nat) : Int)) rfl (by kernel_rfl) (by kernel_rfl) (fun _ _ _ h => h) (fun w _ => shr12 (.tmp 42) (.const (.int .u64 12)) rfl (by kernel_rfl) rfl) hq ?_
          refine rgTake (S := fun w' => Arr w' g8 58 (riCells v.x v.y (.slice A v.out.length cc)) ∧ Arr w' g7 30 (mcs m)) (i := 17) (v := .int .i64 ((coMid v (m.getD C 0) : Nat) : Int)) rfl (by kernel_rfl) (by kernel_rfl) (fun _ _ _ h => h) (fun w _ => addRun (.tmp 33) (.tmp 43) rfl (by kernel_rfl) (by kernel_rfl) HADD.out (by omega)) hq ?_
          refine rgNext (S := fun w' => Arr w' g8 58 (riCells v.x v.y (.slice A v.out.length cc)) ∧ Arr w' g7 30 (mcs m)) (i := 4) (by kernel_rfl) rfl ?_
          simp only [Act.put, List.setIfInBounds_toArray, List.set_cons_succ, List.set_cons_zero]
          refine callOp 39 [.string ⟨T.toArray⟩, .int .i64 (v.out.length : Int)] [] [] (by kernel_rfl) (wn rfl) rfl rfl rfl ?_
          refine (hWT wr.drew (by have h1 : v.out.length ≤ 40 * k + 5 * t := HSL.out; omega) hT).mono ?_
          rintro e w4 ⟨rfl, rfl⟩
          refine ⟨_, rfl, ?_⟩
          refine rgBack hq ?_
          refine rgTake (S := fun w' => Arr w' g8 58 (riCells v.x v.y (.slice A v.out.length cc)) ∧ Arr w' g7 30 (mcs m)) (i := 18) (v := .bool (decide (((coWord T v.out.length : Nat) : Int) ≤ ((coMid v (m.getD C 0) : Nat) : Int)))) rfl (by kernel_rfl) (by kernel_rfl) (fun _ _ _ h => h) (fun w _ => leqRun (.tmp 31) (.tmp 44) rfl (by kernel_rfl) (by kernel_rfl)) hq ?_
          refine rgDone (by kernel_rfl) ?_
          simp only [Act.put, List.setIfInBounds_toArray, List.set_cons_succ, List.set_cons_zero]
          have HBD : Hid (∀ b, (if coWord T v.out.length ≤ coMid v (m.getD C 0) then 1 else 0) = b → coDecBits T (7 - t + 1) C (m, v) = coDecBits T (7 - t) (2 * C + b) (coStep (m, v) (C, b))) := Lib.hid (coDecBits_succ T (7 - t) C (m, v))
          have HDB2 : Hid (coDecBits T (7 - t + 1) C (m, v) = coDecBits T 8 1 s) := Lib.hid (by rw [show 7 - t + 1 = 8 - t by omega]; exact HDB.out)
          clear HDB HMID hvd hq0 HSUB HMUL HADD hWT hq
          generalize coWord T v.out.length = W at *
          generalize coMid v (m.getD C 0) = M at *
          by_cases hle : W ≤ M
          · have hle2 : (W : Int) ≤ (M : Int) := by omega
            have HDB3 : Hid (coDecBits T (7 - t) (2 * C + 1) (coStep (m, v) (C, 1)) = coDecBits T 8 1 s) := Lib.hid ((HBD.out 1 (by rw [if_pos hle])).symm.trans HDB2.out)
            clear HBD HDB2 hle
            go_wp2_with fail
            clear hle2
            have hsz := hB.size
            refine lgStart (fun w' => Arr w' g8 58 (riCells v.x v.y (.slice A v.out.length cc)) ∧ Arr w' g7 30 (mcs m)) 5 (by kernel_rfl) ?_
            have hq : (fun w' : World => Arr w' g8 58 (riCells v.x v.y (.slice A v.out.length cc)) ∧ Arr w' g7 30 (mcs m)) wr.drew.drew := ⟨hV.drew.drew, hA.drew.drew⟩
            replace hO : wr.drew.drew.ownsRow w.heap.size 5 1 (.slice A v.out.length cc) v.out.length (bcs v.out) := hO
            replace hR : wr.drew.drew.ownsRow w.heap.size 5 1 u9 L.length (bcs L) := hR
            replace hB := hB.drew.drew
            replace hA := hA.drew.drew
            replace hV := hV.drew.drew
            have hsz : w.heap.size ≤ wr.drew.drew.heap.size := hsz
            generalize wr.drew.drew = wd at *
            refine lgLoad [0, 1, 2, 3, 4] (i := 0) (b := g8) (t := 58) (.tmp 8) (riCells v.x v.y (.slice A v.out.length cc)) Try.ag_ri rfl (by kernel_rfl) (wn rfl) (fun _ _ _ h => h) rfl (by kernel_rfl) rfl (fun w h => h.1) hq ?_
            refine lgTake [0, 1, 2, 3, 4] (i := 1) (v := .int .i64 1) rfl (by kernel_rfl) (by kernel_rfl) (fun _ _ _ h => h) (fun w _ => by kernel_rfl) hq ?_
            refine lgTake [0, 1, 2, 3, 4] (i := 2) (v := .int .i64 (C : Int)) rfl (by kernel_rfl) (by kernel_rfl) (fun _ _ _ h => h) (fun w _ => by kernel_rfl) hq ?_
            refine lgTake [0, 1, 2, 3, 4] (i := 3) (v := .pointer (some ⟨g7, 0 + C * 1, none⟩)) rfl (by kernel_rfl) (by kernel_rfl) (fun _ _ _ h => h) (fun w _ => iaRun (n := 256) (kk := .i64) (.tmp 7) (.tmp 48) C Try.und_i256 Try.one_int rfl (by kernel_rfl) (by kernel_rfl) rfl hc256) hq ?_
            refine lgTake [0, 1, 2, 3, 4] (i := 4) (v := .int .i64 ((m.getD C 0 : Nat) : Int)) rfl (by kernel_rfl) (by kernel_rfl) (fun _ _ _ h => h) (fun w h => ldRun (.tmp 49) (by kernel_rfl) rfl (by kernel_rfl) (show w.cell? ⟨g7, 0 + C * 1, none⟩ = _ by rw [Nat.zero_add, Nat.mul_one]; exact h.2.cell hpm)) hq ?_
            refine lgNext (i := 5) (by kernel_rfl) rfl (by kernel_rfl) ?_
            simp only [Act.put, List.setIfInBounds_toArray, List.set_cons_succ, List.set_cons_zero]
            refine callOp 36 [.agg (riCells v.x v.y (.slice A v.out.length cc)).toArray, .int .i64 ((1 : Nat) : Int), .int .i64 ((m.getD C 0 : Nat) : Int)] [] [] (by kernel_rfl) (wn rfl) rfl rfl rfl ?_
            refine (refNarrow_any v 1 (m.getD C 0) w.heap.size (.slice A v.out.length cc) wd hopn hmid (by omega) hsz (by have h1 : v.out.length ≤ 40 * k + 5 * t := HSL.out; omega) hO).mono ?_
            rintro e w4 ⟨vo', rfl, hO4, hB4, hK4, hRK4, hSN4⟩
            refine ⟨_, rfl, ?_⟩
            replace hA := hK4 _ _ _ (by decide) hA
            replace hV := hK4 _ _ _ (by decide) hV
            replace hB := hB.trans hB4
            replace hSN4 := sep_after hR (Nat.le_refl _) hsep hSN4
            replace hR := row_kept hR hsep hRK4
            have hN : coStep (m, v) (C, 1) = (coLearnAt m C 1, coNarrow v 1 (m.getD C 0)) := rfl
            rw [hN] at HDB3
            have HST2 := Lib.hid (CoSt.step (s := (m, v)) ⟨hgood, hopn⟩ (p := (C, 1)) hc1 hc256)
            rw [hN] at HST2
            have HSL3 : Hid ((coNarrow v 1 (m.getD C 0)).out.length ≤ 40 * k + 5 * (t + 1)) := Lib.hid (by have h1 := coNarrow_len v 1 (m.getD C 0); have h2 : v.out.length ≤ 40 * k + 5 * t := HSL.out; omega)
            clear hN HSL hO hq hRK4 hK4 hB4 hsep
            generalize coNarrow v 1 (m.getD C 0) = v' at *
            refine lgNext (i := 6) (by kernel_rfl) rfl (by kernel_rfl) ?_
            refine stArrG (cs := riCells v'.x v'.y vo') (.tmp 8) (.tmp 51) Try.ag_ri (wn rfl) rfl rfl rfl hV rfl rfl (ri_one hO4) ?_
            intro w5 hV5 hg5
            refine lgDone (by kernel_rfl) ?_
            simp only [Act.put, List.setIfInBounds_toArray, List.set_cons_succ, List.set_cons_zero]
            have hO5 := own_row hO4 hV (by decide) hg5
            have hR5 := own_row hR hV (by decide) hg5
            replace hA := hA.grown hg5 (fun e => hne (by injection e))
            replace hB := hB.grown hg5 hB.size (fun k e => by cases e; exact hl8)
            clear hO4 hV hg5 hR
            have hth := hA.thaw C
            have hc := hA.cell hpm
            have hs := hA.set C (.int .i64 ((coLearn (m.getD C 0) 1 : Nat) : Int))
            rw [mcs_set] at hs
            have hB5 := hB.setCell (p := ⟨g7, C, none⟩) hl7 (.int .i64 ((coLearn (m.getD C 0) 1 : Nat) : Int))
            have hO6 := own_setCell (i := C) (u := .int .i64 ((coLearn (m.getD C 0) 1 : Nat) : Int)) hO5 hA (by decide)
            have hR6 := own_setCell (i := C) (u := .int .i64 ((coLearn (m.getD C 0) 1 : Nat) : Int)) hR5 hA (by decide)
            have hV6 := hV5.other hne C (.int .i64 ((coLearn (m.getD C 0) 1 : Nat) : Int))
            have hin : CoRD (coLearnAt m C 1, v') L u9 w.heap.size g7 g8 w (w5.setCell ⟨g7, C, none⟩ (.int .i64 ((coLearn (m.getD C 0) 1 : Nat) : Int))) := ⟨HST2.out, hs, ⟨vo', hV6, hO6, hSN4⟩, hR6, hB5⟩
            clear hs hB5 hO6 hV6 hpm hgood hopn hR6 hR5 hO5 hV5
            have HCB2 : Hid (2 ^ (t + 1) ≤ 2 * C + 1 ∧ 2 * C + 1 < 2 ^ (t + 1 + 1)) := Lib.hid (by have h1 := HCB.out; rw [Nat.pow_succ] at h1 ⊢; rw [Nat.pow_succ, Nat.pow_succ]; omega)
            clear HCB
            generalize m.getD C 0 = p at *
            go_wp2_with fail
            refine (refLearn_any p 1 _ hmid (by omega)).mono ?_
            rintro e w6 ⟨rfl, rfl⟩
            go_wp2_with fail
            go_roundw
            case rel => exact ⟨t + 1, 2 * C + 1, _, _, by omega, rfl, by omega, by simp, Lib.hid (by rw [show 8 - (t + 1) = 7 - t by omega]; exact HDB3.out), HCB2, HSL3, hin⟩
            case measure => simp [intOf]; omega
          · have hle2 : ¬ (W : Int) ≤ (M : Int) := by omega
            have HDB3 : Hid (coDecBits T (7 - t) (2 * C + 0) (coStep (m, v) (C, 0)) = coDecBits T 8 1 s) := Lib.hid ((HBD.out 0 (by rw [if_neg hle])).symm.trans HDB2.out)
            clear HBD HDB2 hle
            go_wp2_with fail
            clear hle2
            have hsz := hB.size
            refine lgStart (fun w' => Arr w' g8 58 (riCells v.x v.y (.slice A v.out.length cc)) ∧ Arr w' g7 30 (mcs m)) 5 (by kernel_rfl) ?_
            have hq : (fun w' : World => Arr w' g8 58 (riCells v.x v.y (.slice A v.out.length cc)) ∧ Arr w' g7 30 (mcs m)) wr.drew.drew := ⟨hV.drew.drew, hA.drew.drew⟩
            replace hO : wr.drew.drew.ownsRow w.heap.size 5 1 (.slice A v.out.length cc) v.out.length (bcs v.out) := hO
            replace hR : wr.drew.drew.ownsRow w.heap.size 5 1 u9 L.length (bcs L) := hR
            replace hB := hB.drew.drew
            replace hA := hA.drew.drew
            replace hV := hV.drew.drew
            have hsz : w.heap.size ≤ wr.drew.drew.heap.size := hsz
            generalize wr.drew.drew = wd at *
            refine lgLoad [0, 1, 2, 3, 4] (i := 0) (b := g8) (t := 58) (.tmp 8) (riCells v.x v.y (.slice A v.out.length cc)) Try.ag_ri rfl (by kernel_rfl) (wn rfl) (fun _ _ _ h => h) rfl (by kernel_rfl) rfl (fun w h => h.1) hq ?_
            refine lgTake [0, 1, 2, 3, 4] (i := 1) (v := .int .i64 0) rfl (by kernel_rfl) (by kernel_rfl) (fun _ _ _ h => h) (fun w _ => by kernel_rfl) hq ?_
            refine lgTake [0, 1, 2, 3, 4] (i := 2) (v := .int .i64 (C : Int)) rfl (by kernel_rfl) (by kernel_rfl) (fun _ _ _ h => h) (fun w _ => by kernel_rfl) hq ?_
            refine lgTake [0, 1, 2, 3, 4] (i := 3) (v := .pointer (some ⟨g7, 0 + C * 1, none⟩)) rfl (by kernel_rfl) (by kernel_rfl) (fun _ _ _ h => h) (fun w _ => iaRun (n := 256) (kk := .i64) (.tmp 7) (.tmp 48) C Try.und_i256 Try.one_int rfl (by kernel_rfl) (by kernel_rfl) rfl hc256) hq ?_
            refine lgTake [0, 1, 2, 3, 4] (i := 4) (v := .int .i64 ((m.getD C 0 : Nat) : Int)) rfl (by kernel_rfl) (by kernel_rfl) (fun _ _ _ h => h) (fun w h => ldRun (.tmp 49) (by kernel_rfl) rfl (by kernel_rfl) (show w.cell? ⟨g7, 0 + C * 1, none⟩ = _ by rw [Nat.zero_add, Nat.mul_one]; exact h.2.cell hpm)) hq ?_
            refine lgNext (i := 5) (by kernel_rfl) rfl (by kernel_rfl) ?_
            simp only [Act.put, List.setIfInBounds_toArray, List.set_cons_succ, List.set_cons_zero]
            refine callOp 36 [.agg (riCells v.x v.y (.slice A v.out.length cc)).toArray, .int .i64 ((0 : Nat) : Int), .int .i64 ((m.getD C 0 : Nat) : Int)] [] [] (by kernel_rfl) (wn rfl) rfl rfl rfl ?_
            refine (refNarrow_any v 0 (m.getD C 0) w.heap.size (.slice A v.out.length cc) wd hopn hmid (by omega) hsz (by have h1 : v.out.length ≤ 40 * k + 5 * t := HSL.out; omega) hO).mono ?_
            rintro e w4 ⟨vo', rfl, hO4, hB4, hK4, hRK4, hSN4⟩
            refine ⟨_, rfl, ?_⟩
            replace hA := hK4 _ _ _ (by decide) hA
            replace hV := hK4 _ _ _ (by decide) hV
            replace hB := hB.trans hB4
            replace hSN4 := sep_after hR (Nat.le_refl _) hsep hSN4
            replace hR := row_kept hR hsep hRK4
            have hN : coStep (m, v) (C, 0) = (coLearnAt m C 0, coNarrow v 0 (m.getD C 0)) := rfl
            rw [hN] at HDB3
            have HST2 := Lib.hid (CoSt.step (s := (m, v)) ⟨hgood, hopn⟩ (p := (C, 0)) hc1 hc256)
            rw [hN] at HST2
            have HSL3 : Hid ((coNarrow v 0 (m.getD C 0)).out.length ≤ 40 * k + 5 * (t + 1)) := Lib.hid (by have h1 := coNarrow_len v 0 (m.getD C 0); have h2 : v.out.length ≤ 40 * k + 5 * t := HSL.out; omega)
            clear hN HSL hO hq hRK4 hK4 hB4 hsep
            generalize coNarrow v 0 (m.getD C 0) = v' at *
            refine lgNext (i := 6) (by kernel_rfl) rfl (by kernel_rfl) ?_
            refine stArrG (cs := riCells v'.x v'.y vo') (.tmp 8) (.tmp 51) Try.ag_ri (wn rfl) rfl rfl rfl hV rfl rfl (ri_one hO4) ?_
            intro w5 hV5 hg5
            refine lgDone (by kernel_rfl) ?_
            simp only [Act.put, List.setIfInBounds_toArray, List.set_cons_succ, List.set_cons_zero]
            have hO5 := own_row hO4 hV (by decide) hg5
            have hR5 := own_row hR hV (by decide) hg5
            replace hA := hA.grown hg5 (fun e => hne (by injection e))
            replace hB := hB.grown hg5 hB.size (fun k e => by cases e; exact hl8)
            clear hO4 hV hg5 hR
            have hth := hA.thaw C
            have hc := hA.cell hpm
            have hs := hA.set C (.int .i64 ((coLearn (m.getD C 0) 0 : Nat) : Int))
            rw [mcs_set] at hs
            have hB5 := hB.setCell (p := ⟨g7, C, none⟩) hl7 (.int .i64 ((coLearn (m.getD C 0) 0 : Nat) : Int))
            have hO6 := own_setCell (i := C) (u := .int .i64 ((coLearn (m.getD C 0) 0 : Nat) : Int)) hO5 hA (by decide)
            have hR6 := own_setCell (i := C) (u := .int .i64 ((coLearn (m.getD C 0) 0 : Nat) : Int)) hR5 hA (by decide)
            have hV6 := hV5.other hne C (.int .i64 ((coLearn (m.getD C 0) 0 : Nat) : Int))
            have hin : CoRD (coLearnAt m C 0, v') L u9 w.heap.size g7 g8 w (w5.setCell ⟨g7, C, none⟩ (.int .i64 ((coLearn (m.getD C 0) 0 : Nat) : Int))) := ⟨HST2.out, hs, ⟨vo', hV6, hO6, hSN4⟩, hR6, hB5⟩
            clear hs hB5 hO6 hV6 hpm hgood hopn hR6 hR5 hO5 hV5
            have HCB2 : Hid (2 ^ (t + 1) ≤ 2 * C + 0 ∧ 2 * C + 0 < 2 ^ (t + 1 + 1)) := Lib.hid (by have h1 := HCB.out; rw [Nat.pow_succ] at h1 ⊢; rw [Nat.pow_succ, Nat.pow_succ]; omega)
            clear HCB
            generalize m.getD C 0 = p at *
            go_wp2_with fail
            refine (refLearn_any p 0 _ hmid (by omega)).mono ?_
            rintro e w6 ⟨rfl, rfl⟩
            go_wp2_with fail
            go_roundw
            case rel => exact ⟨t + 1, 2 * C + 0, _, _, by omega, rfl, by omega, by simp, Lib.hid (by rw [show 8 - (t + 1) = 7 - t by omega]; exact HDB3.out), HCB2, HSL3, hin⟩
            case measure => simp [intOf]; omega
        · obtain rfl : t = 8 := by omega
          subst hI
          have HD2 := Lib.hid (coDecode_next hlt HD.out HDB.out)
          have HLL2 : Hid ((L ++ [UInt8.ofNat C]).length = k + 1) := Lib.hid (by rw [List.length_append, HLL.out]; rfl)
          have HSL2 : Hid (s'.2.out.length ≤ 40 * (k + 1)) := Lib.hid (by have h1 := HSL.out; omega)
          have hst := hin.st
          have hA := hin.m
          obtain ⟨vo, hV, hO, hsep⟩ := hin.v
          have hR := hin.o
          have hB := hin.b
          have HBY : Hid (C % 256 = (UInt8.ofNat C).toNat) := Lib.hid (by simp)
          have hLk := HLL.out
          have hll : L.length ≤ 1000000 := by omega
          clear hin HD HDB HCB HSL hLk
          generalize UInt8.ofNat C = by_ at *
          go_wp2_with (at_builtin; with_reducible refine app1B _ _ Try.sl_u8 (wn rfl) rfl rfl rfl hR hB (Nat.le_refl _) rfl (by omega) (by omega) ?_)
          intro v4 w4 own4 hb4 hg4 hS4
          have hby : Value.int .u8 ((C : Int) % 256) = bc by_ := by
            unfold bc
            rw [← HBY.out]
            exact congrArg _ (by omega)
          rw [hby, bcs_snoc] at own4
          have hka : ArrsKept wr w4 := (ArrsKept.below ((Below.refl _ _).alloc (Nat.le_refl _) _)).trans (ArrsKept.row (ownsRow_below hR ((Below.refl _ _).alloc (Nat.le_refl _) _) (Nat.le_refl _)) hg4)
          have hO4 := (ownsRow_below hO ((Below.refl _ _).alloc (Nat.le_refl _) (Obj.cells #[Value.int .u8 ((C : Int) % 256)] 5)) (Nat.le_refl _)).kept hg4 (sep_symm hsep)
          have hin : CoRD s' (L ++ [by_]) v4 w.heap.size g7 g8 w w4 := ⟨hst, hka _ _ _ (by decide) hA, ⟨vo, hka _ _ _ (by decide) hV, hO4, sep_app hO hsep hS4⟩, ownsRow_count own4 (by simp) rfl, hb4⟩
          clear hO4 hka own4 hb4 hg4 hS4 hsep hO hR hA hV hB hst hby HBY
          go_wp2_with fail
          go_roundw
          case rel => exact ⟨k + 1, s', L ++ [by_], by omega, by simp, HD2, HLL2, HSL2, hin⟩
          case measure => simp [intOf]; omega
    · obtain rfl : k = n := by omega
      have hR := hin.o
      have hB := hin.b
      have HCE : Hid (L = CF) := Lib.hid (by have h1 := HD.out; rw [Nat.sub_self] at h1; rw [← h1]; exact (List.append_nil _).symm)
      clear hin HD
      obtain ⟨A, c, rfl, hrd⟩ := Rd.of_own hR
      go_wp2_with (with_reducible refine convStr (.tmp 68) L Try.sl_u8.und Try.und_u8 Try.und_str (wn rfl) rfl rfl hrd ?_)
      go_ret
      exact ⟨by rw [← HCE.out]; rfl, hB⟩
end Go.Proofs.Ytpbebmbkcpdbeaa
