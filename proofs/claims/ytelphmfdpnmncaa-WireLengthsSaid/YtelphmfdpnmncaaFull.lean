/-
  append onto a slice without spare room: what it reads as afterwards. No statement is proved here.
-/
import Derived.Test.YtelphmfdpnmncaaBase
namespace Go.Proofs.Ytelphmfdpnmncaa
open Go.RowKit

theorem rd_row (w : World) (cs : Array Value) (t : TypeId) (size n c : Nat) (xs : List Value) (hl : xs.length = n * size) (hn : n ≤ c) (hc : c ≤ maxLen) (hx : ∀ (j : Nat) (u : Value), xs[j]? = some u → cs[j]? = some u) :
    Rd (w.alloc (.cells cs t)) (w.heap.size + 1) size (some ⟨w.heap.size, 0, none⟩) n c xs := by
  refine ⟨hl, hn, hc, fun _ => ⟨w.heap.size, 0, rfl, by omega, fun j u hu => ?_⟩⟩
  rw [World.cell?_alloc_at _ t w.heap.size (0 + j) rfl, Nat.zero_add]
  exact hx j u hu

/-- 'append(s[:n:n], ys...)', n not 0. -/
theorem appFull {P : Program} {w w0 : World} {ops : Array Oper} {rest : List Oper} {o : Oper} {a : Act} {Q : Exit → Act → World → Prop} {t e : TypeId} {z : Value} {size bytes B B' n m c' : Nat} {A A' : Option Addr} {xs ys : List Value} (s x : Operand) (T : SlTy P t e z size bytes)
    (hgd : Region.wanted o (yielded ops a.tmps) = true) (ho : o.op = .call { callee := .builtin .append, args := #[s, x], argTypes := #[t, t] })
    (hs : a.eval s = .slice A n n) (hx : a.eval x = .slice A' m c') (hr : Rd w B size A n n xs) (hr' : Rd w B' size A' m c' ys) (hB : B ≤ w.heap.size) (hb : Below w0.heap.size w0 w)
    (h0 : 0 < n) (hn : n + m ≤ 70368744177664) (hby : (n + m) * bytes ≤ 140737488355328)
    (h : ∀ A3 c3 w', Rd w' w'.heap.size size A3 (n + m) c3 (xs ++ ys) → Below w0.heap.size w0 w' → Below w.heap.size w w' → wpList P ops Q rest (a.put o.dst (.slice A3 (n + m) c3)) w') : wpList P ops Q (o :: rest) a w := by
  obtain ⟨i, hi, hz0, hz1, hz2⟩ := info_parts T.inf
  have hpos := T.pos
  obtain ⟨b, off, rfl, hbB, hc⟩ := hr.cells (Nat.mul_pos h0 hpos)
  by_cases hm : m = 0
  · subst hm
    have hy : ys = [] := List.eq_nil_of_length_eq_zero (by have := hr'.len; simpa using this)
    subst hy
    have hrun : (Builtin.append_ #[t, t] o.type #[.slice (some ⟨b, off, none⟩) n n, .slice A' 0 c']).run P w = .ok (.slice (some ⟨b, off, none⟩) n n) w := by
      cases A' <;> simp [Builtin.append_, run_underlying T.und, sizeOf, typeInfo, hi, Builtin.lenOf, Builtin.firstCells, storeCells, loadCells, loadCellsFrom]
    refine wpList_want hgd fun K hK => ?_
    unfold Oper.wp execOp
    simp only [ho, resolve, invoke, builtin, Sem.run_bind, Sem.run_pure, Result.andThen_ok, List.map_toArray, List.map_cons, List.map_nil, hs, hx, hrun]
    exact hK _ _ (h _ n w (by simpa using hr.more hB) hb (Below.refl _ _))
  · obtain ⟨b', off', rfl, hbB', hc'⟩ := hr'.cells (Nat.mul_pos (by omega) hpos)
    have hadd : ∀ (b off j : Nat), (⟨b, off, none⟩ : Addr).add j = ⟨b, off + j, none⟩ := by intro b off j; unfold Addr.add; split <;> simp_all
    have hrun := run_append_grow (P := P) w t o.type e i z T.und hi hz0 ⟨b, off, none⟩ n n xs (by rw [hz1]; exact hr.len) (fun j v hj => by rw [hadd]; exact hc j v hj)
      ⟨b', off', none⟩ m c' ys (by rw [hz1]; exact hr'.len) (fun j v hj => by rw [hadd]; exact hc' j v hj) (by omega) (by omega) (growslice_fits (by omega) (by rw [hz2]; exact hby))
    refine wpList_want hgd fun K hK => ?_
    unfold Oper.wp execOp
    simp only [ho, resolve, invoke, builtin, Sem.run_bind, Sem.run_pure, Result.andThen_ok, List.map_toArray, List.map_cons, List.map_nil, hs, hx, hrun]
    have hbw : Below w.heap.size w (w.drew.alloc (.cells (xs.toArray ++ ys.toArray ++ Builtin.zeroCells z.cells (grownCap w (n + m) n e - (n + m))) e)) := ((Below.refl _ _).drew).alloc (Nat.le_refl _) _
    refine hK _ _ (h _ _ _ ?_ (hb.trans (hbw.mono hb.size)) hbw)
    have hrr := rd_row w.drew (xs.toArray ++ ys.toArray ++ Builtin.zeroCells z.cells (grownCap w (n + m) n e - (n + m))) e size (n + m) (grownCap w (n + m) n e) (xs ++ ys)
      (by rw [List.length_append, hr.len, hr'.len, Nat.add_mul]) (grownCap_ge w (n + m) n e) (grownCap_le_maxLen w (n + m) n e (by unfold maxLen; omega))
      (fun j u hu => by
        have hj := (List.getElem?_eq_some_iff.1 hu).1
        rw [Array.getElem?_append_left (by simpa using hj), List.append_toArray]
        simpa using hu)
    exact hrr.more (by simp)
end Go.Proofs.Ytelphmfdpnmncaa
