/-
  More operations by hand: a cell is loaded, the address of an element, rows of different types. No statement is proved here.
-/
import Derived.Test.YtpbebmbkcpdbeaaRows
import Derived.Test.YtpbebmbkcpdbeaaFloat
import Derived.Test.YtpbebmbkcpdbeaaArith2
import Derived.Laws.OwnMore
import Derived.Laws.EntriesVeiled
namespace Go.Proofs.Ytpbebmbkcpdbeaa
open Go.RowKit

section
variable {P : Program} {w : World} {ops : Array Oper} {rest : List Oper} {o : Oper} {a : Act} {Q : Exit → Act → World → Prop}
/-- One cell is loaded. -/
theorem ldOne {ty : TypeId} {p : Addr} {v : Value} (x : Operand) (hu : ((P.underlying ty).map fun d => match d with | .struct _ | .array _ _ => true | _ => false) = some false) (hgd : Region.wanted o (yielded ops a.tmps) = true)
    (ho : o.op = .load ty x) (hx : a.eval x = .pointer (some p)) (hc : w.cell? p = some v) (hk : wpList P ops Q rest (a.put o.dst v) w) : wpList P ops Q (o :: rest) a w := by
  refine opVal (v := v) hgd ?_ hk
  obtain ⟨d, hd, h2⟩ := Option.map_eq_some_iff.1 hu
  have ha : (isAgg ty).run P w = .ok false w := by
    unfold isAgg
    rw [Sem.run_bind, run_underlying hd w]
    cases d <;> simp_all
  have hl : (Instr.loadAt ty (.pointer (some p))).run P w = .ok v w := by
    simp [Instr.loadAt, Instr.sureAddr, loadVar, ha, hc]
  unfold execOp
  simp only [ho, hx, Sem.run_bind, Sem.run_pure, hl, Result.andThen_ok]
/-- The address of an element of a slice. -/
theorem iaRow {t e : TypeId} {z : Value} {size bytes b off n c : Nat} {kk : IntKind} {K : Int} (x y : Operand) (k : Nat) (T : SlTy P t e z size bytes) (hgd : Region.wanted o (yielded ops a.tmps) = true)
    (ho : o.op = .indexAddr t x y) (hx : a.eval x = .slice (some ⟨b, off, none⟩) n c) (hy : a.eval y = .int kk K) (hK : K = (k : Int)) (hk : k < n)
    (h : wpList P ops Q rest (a.put o.dst (.pointer (some ⟨b, off + k * size, none⟩))) w) : wpList P ops Q (o :: rest) a w := by
  subst hK
  obtain ⟨i, hi, hz0, hz1, hz2⟩ := info_parts T.inf
  refine opVal (v := .pointer (some ⟨b, off + k * size, none⟩)) hgd ?_ h
  have ht : P.underlying t = some (.slice (P.elem t)) := by rw [T.und]; simp [Program.elem, T.und]
  have he : P.elem t = e := by have := T.und; rw [this] at ht; injection ht with ht; injection ht with ht; exact ht.symm
  have hr := run_indexAt_slice (P := P) w t ⟨b, off, none⟩ n c kk (k : Int) ht
  rw [if_pos ⟨by omega, by omega⟩, he, Int.toNat_natCast] at hr
  unfold execOp
  simp only [ho, hx, hy, Sem.run_bind, Sem.run_pure]
  rw [hr]
  simp [sizeOf, typeInfo, hi, hz1, add_off]
theorem iaRun {w : World} {o : Oper} {a : Act} {t e : TypeId} {b off n s : Nat} {kk : IntKind} {K : Int} (x y : Operand) (k : Nat) (hu : P.underlying t = some (.array n e)) (he : (P.info? e).map (·.size) = some s)
    (ho : o.op = .indexAddr t x y) (hx : a.eval x = .pointer (some ⟨b, off, none⟩)) (hy : a.eval y = .int kk K) (hK : K = (k : Int)) (hk : k < n) : (execOp a.eval o).run P w = .ok (.value (.pointer (some ⟨b, off + k * s, none⟩))) w := by
  subst hK
  obtain ⟨j, hj, hs⟩ := Option.map_eq_some_iff.1 he
  have hl : P.arrayLen t = n := by simp [Program.arrayLen, hu]
  have hel : P.elem t = e := by simp [Program.elem, hu]
  have ht : P.underlying t = some (.array (P.arrayLen t) (P.elem t)) := by rw [hl, hel]; exact hu
  have hr := run_indexAt_array (P := P) w t ⟨b, off, none⟩ kk (k : Int) ht
  rw [hl, if_pos ⟨by omega, by omega⟩, hel, Int.toNat_natCast] at hr
  unfold execOp
  simp only [ho, hx, hy, Sem.run_bind, Sem.run_pure]
  rw [hr]
  simp [sizeOf, typeInfo, hj, hs, add_off]
/-- The address of an element of an array variable. -/
theorem iaArr {t e : TypeId} {b off n s : Nat} {kk : IntKind} {K : Int} (x y : Operand) (k : Nat) (hu : P.underlying t = some (.array n e)) (he : (P.info? e).map (·.size) = some s) (hgd : Region.wanted o (yielded ops a.tmps) = true)
    (ho : o.op = .indexAddr t x y) (hx : a.eval x = .pointer (some ⟨b, off, none⟩)) (hy : a.eval y = .int kk K) (hK : K = (k : Int)) (hk : k < n)
    (h : wpList P ops Q rest (a.put o.dst (.pointer (some ⟨b, off + k * s, none⟩))) w) : wpList P ops Q (o :: rest) a w := by
  subst hK
  obtain ⟨j, hj, hs⟩ := Option.map_eq_some_iff.1 he
  refine opVal (v := .pointer (some ⟨b, off + k * s, none⟩)) hgd ?_ h
  have hl : P.arrayLen t = n := by simp [Program.arrayLen, hu]
  have hel : P.elem t = e := by simp [Program.elem, hu]
  have ht : P.underlying t = some (.array (P.arrayLen t) (P.elem t)) := by rw [hl, hel]; exact hu
  have hr := run_indexAt_array (P := P) w t ⟨b, off, none⟩ kk (k : Int) ht
  rw [hl, if_pos ⟨by omega, by omega⟩, hel, Int.toNat_natCast] at hr
  unfold execOp
  simp only [ho, hx, hy, Sem.run_bind, Sem.run_pure]
  rw [hr]
  simp [sizeOf, typeInfo, hj, hs, add_off]
end
theorem iaRowRun {P : Program} {w : World} {o : Oper} {a : Act} {t e : TypeId} {z : Value} {size bytes b off n c : Nat} {kk : IntKind} {K : Int} (x y : Operand) (k : Nat) (T : SlTy P t e z size bytes)
    (ho : o.op = .indexAddr t x y) (hx : a.eval x = .slice (some ⟨b, off, none⟩) n c) (hy : a.eval y = .int kk K) (hK : K = (k : Int)) (hk : k < n) : (execOp a.eval o).run P w = .ok (.value (.pointer (some ⟨b, off + k * size, none⟩))) w := by
  subst hK
  obtain ⟨i, hi, hz0, hz1, hz2⟩ := info_parts T.inf
  have ht : P.underlying t = some (.slice (P.elem t)) := by rw [T.und]; simp [Program.elem, T.und]
  have he : P.elem t = e := by have := T.und; rw [this] at ht; injection ht with ht; injection ht with ht; exact ht.symm
  have hr := run_indexAt_slice (P := P) w t ⟨b, off, none⟩ n c kk (k : Int) ht
  rw [if_pos ⟨by omega, by omega⟩, he, Int.toNat_natCast] at hr
  unfold execOp
  simp only [ho, hx, hy, Sem.run_bind, Sem.run_pure]
  rw [hr]
  simp [sizeOf, typeInfo, hi, hz1, add_off]
theorem rd_elem {w : World} {B b off n c k : Nat} {L : List UInt8} (h : Rd w B 16 (some ⟨b, off, none⟩) n c (bcs L)) (hk : k < n) : ∀ j u, (bcs ((L.drop (k * 16)).take 16))[j]? = some u → w.cell? ⟨b, off + k * 16 + j, none⟩ = some u := by
  obtain ⟨b', off', e1, _, hc⟩ := h.cells (by omega)
  injection e1 with e1
  injection e1 with e1 e2
  subst e1; subst e2
  intro j u hu
  have hl := h.len
  rw [bcs_length] at hl
  have hj := (List.getElem?_eq_some_iff.1 hu).1
  rw [bcs_length, List.length_take, List.length_drop] at hj
  rw [Nat.add_assoc]
  refine hc (k * 16 + j) u ?_
  rw [← hu]
  unfold bcs
  rw [List.getElem?_map, List.getElem?_map, List.getElem?_take, List.getElem?_drop, if_pos (by omega)]
theorem own_of_arr {w : World} {b n size base : Nat} {t : TypeId} {cur : List Value} (h : Arr w b t cur) (hl : cur.length = n * size) (hb : base ≤ b) (hn : n ≤ maxLen) : w.ownsRow base t size (.slice (some ⟨b, 0, none⟩) n n) n cur :=
  ⟨hl, Or.inr ⟨b, n, cur.toArray, rfl, hb, h, Nat.le_refl _, hn, by simpa using hl, by simp; exact List.take_of_length_le (by omega)⟩⟩
/-- Rows of different types lie in different blocks. -/
theorem own_ne {w : World} {base base' size size' n n' : Nat} {e e' : TypeId} {v v' : Value} {xs xs' : List Value} (h : w.ownsRow base e size v n xs) (h' : w.ownsRow base' e' size' v' n' xs') (hne : e ≠ e') : v.ownBlock = none ∨ v.ownBlock ≠ v'.ownBlock := by
  rcases h.2 with ⟨rfl, _⟩ | ⟨g, cap, cur, rfl, _, hh, _⟩
  · exact Or.inl rfl
  · right
    rcases h'.2 with ⟨rfl, _⟩ | ⟨g', cap', cur', rfl, _, hh', _⟩
    · simp [Value.ownBlock]
    · intro he
      have : g = g' := by simpa [Value.ownBlock] using he
      subst this
      rw [hh] at hh'
      injection hh' with hh'
      injection hh' with _ ht
      exact hne ht
theorem own_arr_ne {w : World} {base size n b : Nat} {e t : TypeId} {v : Value} {xs cur : List Value} (h : w.ownsRow base e size v n xs) (h' : Arr w b t cur) (hne : e ≠ t) : ∀ g, v.ownBlock = some g → g ≠ b := by
  rcases h.2 with ⟨rfl, _⟩ | ⟨g', cap, cur', rfl, _, hh, _⟩
  · intro g hg; simp [Value.ownBlock] at hg
  · intro g hg he
    have : g' = g := by simpa [Value.ownBlock] using hg
    subst this
    subst he
    unfold Arr at h'
    rw [hh] at h'
    injection h' with h'
    injection h' with _ ht
    exact hne ht
theorem own_setCell {w : World} {base size n b i : Nat} {e t : TypeId} {v u : Value} {xs cur : List Value} (h : w.ownsRow base e size v n xs) (h' : Arr w b t cur) (hne : e ≠ t) : (w.setCell ⟨b, i, none⟩ u).ownsRow base e size v n xs := by
  have hn := own_arr_ne h h' hne
  refine h.kept (row := some b) ⟨rfl, rfl, rfl, by simp [World.setCell], fun k hk hne' => ?_⟩ ?_
  · exact Below.heap_setCell w ⟨b, i, none⟩ u k (by
      intro e2
      apply hne'
      first | exact congrArg some e2 | exact congrArg some e2.symm)
  · cases hv : v.ownBlock with
    | none => exact Or.inl rfl
    | some g => exact Or.inr (fun e2 => hn g hv (by injection e2))
theorem own_row {w w' : World} {base size n b : Nat} {e t : TypeId} {v : Value} {xs cur : List Value} (h : w.ownsRow base e size v n xs) (h' : Arr w b t cur) (hne : e ≠ t) (hg : w.grownBy w' (some b)) : w'.ownsRow base e size v n xs := by
  have hn := own_arr_ne h h' hne
  refine h.kept hg ?_
  cases hv : v.ownBlock with
  | none => exact Or.inl rfl
  | some g => exact Or.inr (fun e2 => hn g hv (by injection e2))
theorem own_lt_below {w w' : World} {base size n B : Nat} {e : TypeId} {v : Value} {xs : List Value} (h : w.ownsRow base e size v n xs) (hb : Below B w w') (hlt : ∀ k, v.ownBlock = some k → k < B) : w'.ownsRow base e size v n xs := by
  refine ⟨h.1, ?_⟩
  rcases h.2 with h2 | ⟨g, cap, cur, rfl, h3, h4, h5⟩
  · exact Or.inl h2
  · exact Or.inr ⟨g, cap, cur, rfl, h3, (hb.block g (hlt g rfl)).trans h4, h5⟩
theorem Try.und_int : Try.prog.underlying 3 = some (.int .i64) := by kernel_rfl
theorem Try.one_int : (Try.prog.info? 3).map (·.size) = some 1 := by kernel_rfl
theorem spl_one (cur : List Value) (i : Nat) (u : Value) (h : i < cur.length) : spl cur i [u] = cur.set i u := by
  unfold spl
  apply List.ext_getElem?
  intro j
  rw [List.getElem?_set]
  have hl : (cur.take i).length = i := by rw [List.length_take]; omega
  by_cases h1 : j < i
  · rw [List.append_assoc, List.getElem?_append_left (by omega), List.getElem?_take, if_pos h1, if_neg (by omega)]
  · by_cases h2 : j = i
    · subst h2
      rw [List.append_assoc, List.getElem?_append_right (by omega), hl, Nat.sub_self, if_pos rfl, if_pos h]
      rfl
    · rw [List.getElem?_append_right (by rw [List.length_append]; simp; omega), if_neg (by omega), List.length_append, hl, List.getElem?_drop]
      congr 1
      simp
      omega
/-- One cell of a block is set. -/
theorem stOne {P : Program} {w : World} {ops : Array Oper} {rest : List Oper} {o : Oper} {a : Act} {Q : Exit → Act → World → Prop} {g i : Nat} {t ty : TypeId} {cur : List Value} {u : Value} (x y : Operand) (he : (P.info? ty).map (·.size) = some 1) (hgd : Region.wanted o (yielded ops a.tmps) = true) (ho : o.op = .store ty x y)
    (hx : a.eval x = .pointer (some ⟨g, i, none⟩)) (hy : a.eval y = u) (hu : u.cells = #[u]) (h1 : u.oneCell' = true) (hA : Arr w g t cur) (hi : i < cur.length)
    (h : ∀ w', Arr w' g t (cur.set i u) → (∀ b' t' c', b' ≠ g → Arr w b' t' c' → Arr w' b' t' c') → (∀ B, B ≤ g → Below B w w') → w.grownBy w' (some g) → wpList P ops Q rest (a.put o.dst undef) w') : wpList P ops Q (o :: rest) a w := by
  obtain ⟨j, hj, hs⟩ := Option.map_eq_some_iff.1 he
  have hst := run_storeCells_spl (P := P) hA (off := i) [u] (by simp; omega) (by intro v hv; simp at hv; subst hv; exact h1)
  rw [spl_one cur i u hi] at hst
  have hrun : (storeVar ty ⟨g, i, none⟩ u).run P w = .ok () (w.setRow g (cur.set i u).toArray) := by
    simp only [storeVar, sizeOf, typeInfo]
    simp [hj, hs, hu]
    simpa using hst
  refine wpList_want hgd fun K hK => ?_
  unfold Oper.wp execOp
  simp only [ho, hx, hy, Instr.storeAt, Instr.sureAddr, Sem.run_bind, Sem.run_pure, Result.andThen_ok, hrun]
  refine hK _ _ (h _ (hA.setRow _) (fun b' t' c' hne hA' => hA'.setRow_other (fun e => hne e.symm) _) (fun B hB => below_setRow w hB _) ⟨rfl, rfl, rfl, by simp [World.setRow], fun k hk hne => ?_⟩)
  unfold World.setRow
  have : g ≠ k := fun e => hne (by rw [e])
  simp [Array.getElem?_modify, this]
/-- A variable of a struct or array type is set; nothing else turns. -/
theorem stArrG {P : Program} {w : World} {ops : Array Oper} {rest : List Oper} {o : Oper} {a : Act} {Q : Exit → Act → World → Prop} {ty : TypeId} {n b : Nat} {z : Array Value} {cur cs : List Value} (x y : Operand) (T : AgTy P ty z n) (hgd : Region.wanted o (yielded ops a.tmps) = true) (ho : o.op = .store ty x y)
    (hx : a.eval x = .pointer (some ⟨b, 0, none⟩)) (hy : a.eval y = .agg cs.toArray) {t : TypeId} (hA : Arr w b t cur) (hs : cur.length = n) (hl : cs.length = n) (h1 : ∀ u ∈ cs, u.oneCell' = true)
    (h : ∀ w', Arr w' b t cs → w.grownBy w' (some b) → wpList P ops Q rest (a.put o.dst undef) w') : wpList P ops Q (o :: rest) a w := by
  refine wpList_want hgd fun K hK => ?_
  unfold Oper.wp execOp
  simp only [ho, hx, hy, Instr.storeAt, Instr.sureAddr, Sem.run_bind, Sem.run_pure, Result.andThen_ok, run_storeAgg T hA (by rw [List.size_toArray]; exact hs) (by rw [List.size_toArray]; exact hl) (by intro u hu; exact h1 u (by simpa using hu))]
  refine hK _ _ (h _ (hA.setRow cs) ⟨rfl, rfl, rfl, by simp [World.setRow], fun k hk hne => ?_⟩)
  unfold World.setRow
  have : b ≠ k := fun e => hne (by rw [e])
  simp [Array.getElem?_modify, this]
end Go.Proofs.Ytpbebmbkcpdbeaa
