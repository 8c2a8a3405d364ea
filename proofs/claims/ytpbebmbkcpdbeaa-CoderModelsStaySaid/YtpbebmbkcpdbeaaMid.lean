/-
  Cells in the middle of a block that is known whole: a struct's field or an array's part is set, bytes of a text are copied there. No statement is proved here.
-/
import Derived.Test.YtpbebmbkcpdbeaaReg
import Derived.Lib.ConvBytes
namespace Go.Proofs.Ytpbebmbkcpdbeaa
open Go.RowKit

/-- cur with cs laid from place off on. -/
def spl (cur : List Value) (off : Nat) (cs : List Value) : List Value := cur.take off ++ cs ++ cur.drop (off + cs.length)
theorem spl_len {cur cs : List Value} {off : Nat} (h : off + cs.length ≤ cur.length) : (spl cur off cs).length = cur.length := by unfold spl; simp; omega
theorem spl_mid (p q m cs : List Value) (h : cs.length = m.length) : spl (p ++ m ++ q) p.length cs = p ++ cs ++ q := by
  unfold spl
  rw [h, ← List.length_append, List.drop_left, List.append_assoc p m q, List.take_left]
theorem spl_head (m q cs : List Value) (h : cs.length = m.length) : spl (m ++ q) 0 cs = cs ++ q := by
  have := spl_mid [] q m cs h
  simpa using this
theorem spl_at {cur cs : List Value} {off j : Nat} (h : off + cs.length ≤ cur.length) : (spl cur off cs)[j]? = if j < off then cur[j]? else if j < off + cs.length then cs[j - off]? else cur[j]? := by
  unfold spl
  have hl : (cur.take off).length = off := by rw [List.length_take]; omega
  by_cases h1 : j < off
  · rw [if_pos h1, List.append_assoc, List.getElem?_append_left (by omega), List.getElem?_take, if_pos h1]
  · rw [if_neg h1]
    by_cases h2 : j < off + cs.length
    · rw [if_pos h2, List.append_assoc, List.getElem?_append_right (by omega), hl, List.getElem?_append_left (by omega)]
    · rw [if_neg h2, List.getElem?_append_right (by rw [List.length_append]; omega), List.length_append, hl, List.getElem?_drop]
      congr 1; omega
section
variable {P : Program} {w : World} {ops : Array Oper} {rest : List Oper} {o : Oper} {a : Act} {Q : Exit → Act → World → Prop} {g off : Nat} {t : TypeId} {cur : List Value}
theorem run_storeCells_spl (hA : Arr w g t cur) (cs : List Value) (hfit : off + cs.length ≤ cur.length) (h1 : ∀ u ∈ cs, u.oneCell' = true) :
    (storeCells ⟨g, off, none⟩ cs).run P w = .ok () (w.setRow g (spl cur off cs).toArray) := by
  have hst := run_storeCells_at P g off t cs 0 cur.toArray w hA (by rw [List.size_toArray]; omega) h1
  rw [hst]
  simp [spl]
/-- A part of a block is set. -/
theorem stMid {ty : TypeId} {z : Array Value} {n : Nat} (x y : Operand) (cs : List Value) (T : AgTy P ty z n) (hgd : Region.wanted o (yielded ops a.tmps) = true) (ho : o.op = .store ty x y)
    (hx : a.eval x = .pointer (some ⟨g, off, none⟩)) (hy : a.eval y = .agg cs.toArray) (hA : Arr w g t cur) (hl : cs.length = n) (hfit : off + n ≤ cur.length) (h1 : ∀ u ∈ cs, u.oneCell' = true)
    (h : ∀ w', Arr w' g t (spl cur off cs) → (∀ b' t' c', b' ≠ g → Arr w b' t' c' → Arr w' b' t' c') → (∀ B, B ≤ g → Below B w w') → wpList P ops Q rest (a.put o.dst undef) w') : wpList P ops Q (o :: rest) a w := by
  obtain ⟨i, hi, _, hs'⟩ := T.parts
  have hst := run_storeCells_spl (P := P) hA (off := off) cs (by omega) h1
  have hrun : (storeVar ty ⟨g, off, none⟩ (.agg cs.toArray)).run P w = .ok () (w.setRow g (spl cur off cs).toArray) := by
    simp [storeVar, sizeOf, typeInfo, hi, hs', Value.cells, hl, hst]
  refine wpList_want hgd fun K hK => ?_
  unfold Oper.wp execOp
  simp only [ho, hx, hy, Instr.storeAt, Instr.sureAddr, Sem.run_bind, Sem.run_pure, Result.andThen_ok, hrun]
  exact hK _ _ (h _ (hA.setRow _) (fun b' t' c' hne hA' => hA'.setRow_other (fun e => hne e.symm) _) (fun B hB => below_setRow w hB _))
/-- 'copy(d, text)' into bytes of a block. -/
theorem cpStr {dT sT e : TypeId} {dl dc : Nat} (d s : Operand) (txt : List UInt8) (hu : P.underlying dT = some (.slice e)) (he : (P.info? e).map (·.size) = some 1) (hgd : Region.wanted o (yielded ops a.tmps) = true)
    (ho : o.op = .call { callee := .builtin .copy, args := #[d, s], argTypes := #[dT, sT] }) (hd : a.eval d = .slice (some ⟨g, off, none⟩) dl dc) (hs : a.eval s = .string ⟨txt.toArray⟩) (hA : Arr w g t cur) (hfit : off + dl ≤ cur.length)
    (h : ∀ w', Arr w' g t (spl cur off (bcs (txt.take dl))) → (∀ b' t' c', b' ≠ g → Arr w b' t' c' → Arr w' b' t' c') → (∀ B, B ≤ g → Below B w w') → wpList P ops Q rest (a.put o.dst (.int .i64 ((min txt.length dl : Nat) : Int))) w') : wpList P ops Q (o :: rest) a w := by
  obtain ⟨i, hi, hsz⟩ := Option.map_eq_some_iff.1 he
  have hst := run_storeCells_spl (P := P) hA (off := off) (bcs (txt.take dl)) (by rw [bcs_length, List.length_take]; omega) (bcs_one _)
  have hcells : List.take (min txt.length dl) (List.map (fun b : UInt8 => Value.int .u8 b.toNat) txt) = bcs (txt.take dl) := by
    have hb : List.map (fun b : UInt8 => Value.int .u8 b.toNat) txt = bcs txt := rfl
    rw [hb]
    unfold bcs
    rw [← List.map_take]
    by_cases hle : txt.length ≤ dl
    · rw [Nat.min_eq_left hle, List.take_length, List.take_of_length_le hle]
    · rw [Nat.min_eq_right (by omega)]
  have hrun : (Builtin.copy_ #[dT, sT] o.type #[.slice (some ⟨g, off, none⟩) dl dc, .string ⟨txt.toArray⟩]).run P w = .ok (.int .i64 ((min txt.length dl : Nat) : Int)) (w.setRow g (spl cur off (bcs (txt.take dl))).toArray) := by
    have hmin : Nat.min (⟨txt.toArray⟩ : ByteArray).size dl = min txt.length dl := by simp [ByteArray.size]
    simp only [Builtin.copy_, Builtin.lenOf, Builtin.firstCells, sizeOf, typeInfo]
    simp [run_underlying hu, hi, hmin, hcells, hst, goInt]
  refine wpList_want hgd fun K hK => ?_
  unfold Oper.wp execOp
  simp only [ho, resolve, invoke, builtin, Sem.run_bind, Sem.run_pure, Result.andThen_ok, List.map_toArray, List.map_cons, List.map_nil, hd, hs, hrun]
  exact hK _ _ (h _ (hA.setRow _) (fun b' t' c' hne hA' => hA'.setRow_other (fun e => hne e.symm) _) (fun B hB => below_setRow w hB _))
/-- An operation whose value is known. -/
theorem opVal {v : Value} (hgd : Region.wanted o (yielded ops a.tmps) = true) (hrun : (execOp a.eval o).run P w = .ok (.value v) w) (h : wpList P ops Q rest (a.put o.dst v) w) : wpList P ops Q (o :: rest) a w := by
  refine wpList_want hgd fun K hK => ?_
  unfold Oper.wp
  rw [hrun]
  exact hK _ _ h
/-- A literal whose value is known by a run. -/
theorem bdVal {ty : TypeId} {parts : Array (Nat × Operand)} {ps : Array (Nat × Value)} {v : Value} (hrun : ∀ w, (Instr.build ty ps).run P w = .ok v w) (hgd : Region.wanted o (yielded ops a.tmps) = true) (ho : o.op = .build ty parts)
    (hev : (parts.map fun (i, x) => (i, a.eval x)) = ps) (h : wpList P ops Q rest (a.put o.dst v) w) : wpList P ops Q (o :: rest) a w := by
  refine opVal (v := v) hgd ?_ h
  unfold execOp
  simp only [ho, hev, Sem.run_bind, Sem.run_pure, hrun, Result.andThen_ok]
theorem add_off (b off k : Nat) : (⟨b, off, none⟩ : Addr).add k = ⟨b, off + k, none⟩ := by unfold Addr.add; split <;> simp_all
/-- 'arr[lo:]' of an array variable. -/
theorem slPtrL {t e : TypeId} {n b : Nat} {kl : IntKind} {L : Int} (x l : Operand) (U : Nat) (hu : P.underlying t = some (.array n e)) (he : (P.info? e).map (·.size) = some 1) (hgd : Region.wanted o (yielded ops a.tmps) = true)
    (ho : o.op = .slice t x (some l) none none) (hx : a.eval x = .pointer (some ⟨b, off, none⟩)) (hl : a.eval l = .int kl L) (hL : L = (U : Int)) (h1 : U < n)
    (h : wpList P ops Q rest (a.put o.dst (.slice (some ⟨b, off + U, none⟩) (n - U) (n - U))) w) : wpList P ops Q (o :: rest) a w := by
  obtain ⟨i, hi, hsz⟩ := Option.map_eq_some_iff.1 he
  subst hL
  refine opVal (v := .slice (some ⟨b, off + U, none⟩) (n - U) (n - U)) hgd ?_ h
  unfold execOp
  have hne : ¬ n = U := by omega
  have hle : ((U : Int) ≤ (n : Int)) := by omega
  simp [ho, hx, hl, Instr.sliceAt, Instr.sureAddr, run_underlying hu, Instr.sliceBounds, run_sliceBound, sizeOf, typeInfo, hi, hsz, hne, hle, add_off]
/-- 'arr[:]'. -/
theorem slPtr {t e : TypeId} {n b : Nat} (x : Operand) (hu : P.underlying t = some (.array n e)) (he : (P.info? e).map (·.size) = some 1) (h0 : 0 < n) (hgd : Region.wanted o (yielded ops a.tmps) = true)
    (ho : o.op = .slice t x none none none) (hx : a.eval x = .pointer (some ⟨b, off, none⟩))
    (h : wpList P ops Q rest (a.put o.dst (.slice (some ⟨b, off, none⟩) n n)) w) : wpList P ops Q (o :: rest) a w := by
  obtain ⟨i, hi, hsz⟩ := Option.map_eq_some_iff.1 he
  refine opVal (v := .slice (some ⟨b, off, none⟩) n n) hgd ?_ h
  unfold execOp
  have hne : ¬ n = 0 := by omega
  simp [ho, hx, Instr.sliceAt, Instr.sureAddr, run_underlying hu, Instr.sliceBounds, sizeOf, typeInfo, hi, hsz, hne, add_off]
/-- The conversion of a string to bytes. -/
theorem convBs {src e dst : TypeId} (x : Operand) (l : List UInt8) (hs : P.underlying src = some .string) (hd : P.underlying dst = some (.slice e)) (he : P.underlying e = some (.int .u8)) (hgd : Region.wanted o (yielded ops a.tmps) = true)
    (ho : o.op = .convert src dst x) (hx : a.eval x = .string ⟨l.toArray⟩) (hl : l.length ≤ 70368744177664)
    (h : ∀ A c w', Rd w' w'.heap.size 1 A l.length c (bcs l) → Below w.heap.size w w' → wpList P ops Q rest (a.put o.dst (.slice A l.length c)) w') : wpList P ops Q (o :: rest) a w := by
  have hsz : (⟨l.toArray⟩ : ByteArray).size = l.length := by simp [ByteArray.size]
  have hr := Lib.run_convert_string_bytes (P := P) w src dst e ⟨l.toArray⟩ hs hd he
  rw [hsz] at hr
  refine wpList_want hgd fun K hK => ?_
  unfold Oper.wp execOp
  simp only [ho, hx, Sem.run_bind, Sem.run_pure, hr, Result.andThen_ok]
  refine hK _ _ (h _ _ _ ?_ ?_)
  · refine ⟨by rw [bcs_length, Nat.mul_one], grownCap_ge w l.length 0 e, grownCap_le_maxLen w l.length 0 e (by unfold maxLen; omega), fun hn => ⟨w.heap.size, 0, rfl, by rw [Lib.bytesWorld_size]; omega, fun j u hu => ?_⟩⟩
    have hj : j < l.length := by have := (List.getElem?_eq_some_iff.1 hu).1; rwa [bcs_length] at this
    rw [Nat.zero_add, Lib.bytesWorld_cell w e _ j (by rw [hsz]; exact hj), ← hu]
    unfold bcs
    rw [List.getElem?_map, List.getElem?_eq_getElem hj]
    simp [bc, List.getD, hj]
  · exact ⟨rfl, rfl, rfl, by rw [Lib.bytesWorld_size]; omega, fun k hk => Lib.bytesWorld_at_old w e _ k hk⟩
end
end Go.Proofs.Ytpbebmbkcpdbeaa
