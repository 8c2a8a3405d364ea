/-
  An array variable in memory: a block of its own, with what it holds. No statement is proved here.
-/
import Derived.Test.YtpbebmbkcpdbeaaBase
namespace Go.Proofs.Ytpbebmbkcpdbeaa
open Go.RowKit

/-- Block b holds an array (or what a struct is made of) with the cells cur. -/
def Arr (w : World) (b : Nat) (t : TypeId) (cur : List Value) : Prop := w.heap[b]? = some (.cells cur.toArray t (0, 0))
section
variable {w w' : World} {b b' i : Nat} {t : TypeId} {cur : List Value} {v : Value}
theorem Arr.cell (h : Arr w b t cur) (hi : cur[i]? = some v) : w.cell? ⟨b, i, none⟩ = some v := by
  unfold World.cell?
  rw [show w.heap[(⟨b, i, none⟩ : Addr).block]? = some (.cells cur.toArray t (0, 0)) from h]
  simpa using hi
theorem Arr.thaw (h : Arr w b t cur) (i : Nat) : w.frozen? ⟨b, i, none⟩ = false := by
  unfold World.frozen?
  rw [show w.heap[(⟨b, i, none⟩ : Addr).block]? = some (.cells cur.toArray t (0, 0)) from h]
  simp
theorem Arr.lt (h : Arr w b t cur) : b < w.heap.size := (Array.getElem?_eq_some_iff.1 h).1
theorem Arr.drew (h : Arr w b t cur) : Arr w.drew b t cur := h
theorem Arr.drewN (h : Arr w b t cur) (n : Nat) : Arr (w.drewN n) b t cur := h
theorem Arr.new (w : World) (t : TypeId) (cur : List Value) : Arr (w.alloc (.cells cur.toArray t)) w.heap.size t cur := heap_alloc_new w _
theorem Arr.alloc (h : Arr w b t cur) (o : Obj) : Arr (w.alloc o) b t cur := by
  have hb := h.lt
  unfold Arr at h ⊢
  rw [← h]
  unfold World.alloc
  simp [Array.getElem?_push, Nat.ne_of_lt hb]
theorem Arr.set (h : Arr w b t cur) (i : Nat) (v : Value) : Arr (w.setCell ⟨b, i, none⟩ v) b t (cur.set i v) := by
  unfold Arr at h ⊢
  unfold World.setCell
  simp [Array.getElem?_modify, h]
theorem Arr.other (h : Arr w b t cur) (hne : b' ≠ b) (i : Nat) (v : Value) : Arr (w.setCell ⟨b', i, none⟩ v) b t cur := by
  unfold Arr at h ⊢
  unfold World.setCell
  simp [Array.getElem?_modify, hne, h]
theorem Arr.below {B : Nat} (h : Arr w b t cur) (hb : Below B w w') (hB : b < B) : Arr w' b t cur := by
  unfold Arr at h ⊢
  rw [← h]
  exact hb.block b hB
theorem Arr.setRow (h : Arr w b t cur) (cs : List Value) : Arr (w.setRow b cs.toArray) b t cs := setRow_heap w b _ _ t _ h
theorem Arr.setRow_other (h : Arr w b t cur) (hne : b' ≠ b) (cs : List Value) : Arr (w.setRow b' cs.toArray) b t cur := by
  unfold Arr at h ⊢
  unfold World.setRow
  simp [Array.getElem?_modify, hne, h]
theorem below_setRow {B : Nat} (w : World) (hB : B ≤ b) (cs : Array Value) : Below B w (w.setRow b cs) := by
  refine ⟨rfl, rfl, rfl, by unfold World.setRow; simp, fun k hk => ?_⟩
  unfold World.setRow
  have : b ≠ k := by omega
  simp [Array.getElem?_modify, this]
end
section
variable {P : Program} {w : World} {ops : Array Oper} {rest : List Oper} {o : Oper} {a : Act} {Q : Exit → Act → World → Prop} {ty : TypeId} {n b : Nat}
/-- A new variable of a struct or array type, in a world of which nothing else is told. -/
theorem alArr {z : List Value} (T : AgTy P ty z.toArray n) (hgd : Region.wanted o (yielded ops a.tmps) = true) (ho : o.op = .alloc ty)
    (h : ∀ w', Arr w' w.heap.size ty z → Below w.heap.size w w' → wpList P ops Q rest (a.put o.dst (.pointer (some ⟨w.heap.size, 0, none⟩))) w') : wpList P ops Q (o :: rest) a w :=
  alAgg T hgd ho (h _ (Arr.new w ty z) ((Below.refl _ _).alloc (Nat.le_refl _) _))
theorem ldArr {z : Array Value} {cur : List Value} (x : Operand) (T : AgTy P ty z n) (hgd : Region.wanted o (yielded ops a.tmps) = true) (ho : o.op = .load ty x)
    (hx : a.eval x = .pointer (some ⟨b, 0, none⟩)) (hl : cur.length = n) {t : TypeId} (hA : Arr w b t cur)
    (h : wpList P ops Q rest (a.put o.dst (.agg cur.toArray)) w) : wpList P ops Q (o :: rest) a w :=
  ldAgg x cur T hgd ho hx hl (fun j u hu => by rw [Nat.zero_add]; exact hA.cell hu) h
/-- A variable of a struct or array type is set. -/
theorem stArr {z : Array Value} {cur cs : List Value} (x y : Operand) (T : AgTy P ty z n) (hgd : Region.wanted o (yielded ops a.tmps) = true) (ho : o.op = .store ty x y)
    (hx : a.eval x = .pointer (some ⟨b, 0, none⟩)) (hy : a.eval y = .agg cs.toArray) {t : TypeId} (hA : Arr w b t cur) (hs : cur.length = n) (hl : cs.length = n) (h1 : ∀ u ∈ cs, u.oneCell' = true)
    (h : ∀ w', Arr w' b t cs → (∀ b' t' c', b' ≠ b → Arr w b' t' c' → Arr w' b' t' c') → (∀ B, B ≤ b → Below B w w') → wpList P ops Q rest (a.put o.dst undef) w') : wpList P ops Q (o :: rest) a w := by
  refine wpList_want hgd fun K hK => ?_
  unfold Oper.wp execOp
  simp only [ho, hx, hy, Instr.storeAt, Instr.sureAddr, Sem.run_bind, Sem.run_pure, Result.andThen_ok, run_storeAgg T hA (by rw [List.size_toArray]; exact hs) (by rw [List.size_toArray]; exact hl) (by intro u hu; exact h1 u (by simpa using hu))]
  exact hK _ _ (h _ (hA.setRow cs) (fun b' t' c' hne hA' => hA'.setRow_other (fun e => hne e.symm) cs) (fun B hB => below_setRow w hB _))
/-- A parameter of a struct or array type, boxed. -/
theorem bxArr {cs : List Value} {ty : TypeId} (x : Operand) (hgd : Region.wanted o (yielded ops a.tmps) = true) (ho : o.op = .box ty x) (hx : a.eval x = .agg cs.toArray)
    (h : ∀ w', Arr w' w.heap.size ty cs → Below w.heap.size w w' → wpList P ops Q rest (a.put o.dst (.pointer (some ⟨w.heap.size, 0, none⟩))) w') : wpList P ops Q (o :: rest) a w := by
  refine wpList_want hgd fun K hK => ?_
  unfold Oper.wp execOp
  have hr : (Instr.box ty (.agg cs.toArray)).run P w = .ok (.pointer (some ⟨w.heap.size, 0, none⟩)) (w.alloc (.cells cs.toArray ty)) := by
    simp [Instr.box, newVar, newRow, Value.cells]
  simp only [ho, hx, Sem.run_bind, Sem.run_pure, hr, Result.andThen_ok]
  exact hK _ _ (h _ (Arr.new w ty cs) ((Below.refl _ _).alloc (Nat.le_refl _) _))
/-- A parameter of one cell, boxed. -/
theorem bxOne {v : Value} {ty : TypeId} (x : Operand) (hgd : Region.wanted o (yielded ops a.tmps) = true) (ho : o.op = .box ty x) (hx : a.eval x = v) (hv : v.cells = #[v])
    (h : ∀ w', Arr w' w.heap.size ty [v] → Below w.heap.size w w' → wpList P ops Q rest (a.put o.dst (.pointer (some ⟨w.heap.size, 0, none⟩))) w') : wpList P ops Q (o :: rest) a w := by
  refine wpList_want hgd fun K hK => ?_
  unfold Oper.wp execOp
  have hr : (Instr.box ty v).run P w = .ok (.pointer (some ⟨w.heap.size, 0, none⟩)) (w.alloc (.cells #[v] ty)) := by
    simp [Instr.box, newVar, newRow, hv]
  simp only [ho, hx, Sem.run_bind, Sem.run_pure, hr, Result.andThen_ok]
  exact hK _ _ (h _ (Arr.new w ty [v]) ((Below.refl _ _).alloc (Nat.le_refl _) _))
/-- An array literal whose elements take one cell each. -/
theorem bdArr {ty e : TypeId} {z : Array Value} {parts : Array (Nat × Operand)} (vs : List Value) (T : AgTy P ty z n) (hu : P.underlying ty = some (.array n e)) (he : (P.info? e).map (·.size) = some 1)
    (hgd : Region.wanted o (yielded ops a.tmps) = true) (ho : o.op = .build ty parts) (hev : (parts.map fun (i, x) => (i, a.eval x)).toList = (vs.zipIdx 0).map fun x => (x.2, x.1)) (hlen : vs.length = n) (hone : ∀ v ∈ vs, v.cells = #[v])
    (h : wpList P ops Q rest (a.put o.dst (.agg vs.toArray)) w) : wpList P ops Q (o :: rest) a w := by
  obtain ⟨i, hi, hzz, hsz⟩ := T.parts
  obtain ⟨zv, hzv, hzc⟩ := Option.map_eq_some_iff.1 hzz
  obtain ⟨j, hj, hjs⟩ := Option.map_eq_some_iff.1 he
  obtain ⟨r, hr, hrs, hrk⟩ := Great.fill_dense (s := 1) (by omega) vs 0 z (by intro v hv; rw [hone v hv]; rfl) (by rw [T.zs]; simp; omega)
  have hre : r = vs.toArray := by
    apply Array.ext_getElem?
    intro k
    rw [hrk k]
    simp only [Nat.zero_add, Nat.mul_one, Nat.div_one, Nat.sub_zero, Nat.mod_one, List.getElem?_toArray]
    by_cases hk : k < vs.length
    · rw [if_pos ⟨Nat.zero_le _, hk⟩, List.getElem?_eq_getElem hk]
      have := hone _ (List.getElem_mem hk)
      simp [this]
    · rw [if_neg (by omega), List.getElem?_eq_none (by omega)]
      rw [Array.getElem?_eq_none (by rw [T.zs]; omega)]
  subst hre
  refine wpList_want hgd fun K hK => ?_
  unfold Oper.wp execOp
  have hrun : (Instr.build ty (parts.map fun (i, x) => (i, a.eval x))).run P w = .ok (.agg vs.toArray) w := by
    rw [← hev] at hr
    generalize (parts.map fun (i, x) => (i, a.eval x)) = ps at hr ⊢
    simp only [Nat.mul_one] at hr
    simp [Instr.build, zeroValue, typeInfo, hi, hzv, hzc, run_underlying hu, sizeOf, hj, hjs, hr]
  simp only [ho, Sem.run_bind, Sem.run_pure, hrun, Result.andThen_ok]
  exact hK _ _ h
end
end Go.Proofs.Ytpbebmbkcpdbeaa
