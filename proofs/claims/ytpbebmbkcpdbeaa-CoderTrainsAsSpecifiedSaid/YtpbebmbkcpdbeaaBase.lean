/-
  Plain words and laws for memory, over any program: what a slice reads as (Rd), what a call owns, one-element and string appends. No statement is proved here.
-/
import Derived.WalkKit
import Derived.WalkSpells
import Derived.WalkLawsBesides
import Derived.Lib.Hide
import Derived.Lib.AppendStr
import Derived.Deep.AppendLies
import Derived.Deep.Draws
import Derived.Maps.AppendAt
import Derived.Laws.CopyOwn
import Derived.Great.BuildSlice
namespace Go.Proofs.Ytpbebmbkcpdbeaa
open Go.RowKit

/-- A byte as a cell. -/
def bc (b : UInt8) : Value := .int .u8 (b.toNat : Int)
def bcs (l : List UInt8) : List Value := l.map bc
theorem bcs_length (l : List UInt8) : (bcs l).length = l.length := by simp [bcs]
theorem bcs_append (a b : List UInt8) : bcs (a ++ b) = bcs a ++ bcs b := by simp [bcs]
theorem bcs_one (l : List UInt8) : ∀ u ∈ bcs l, u.oneCell' = true := by
  intro u hu
  simp only [bcs, List.mem_map] at hu
  obtain ⟨b, _, rfl⟩ := hu
  rfl
theorem bcs_str (s : ByteArray) : Lib.strCells s = bcs s.data.toList := rfl

/-- The facts on a slice type t of elements e that take size cells. -/
structure SlTy (P : Program) (t e : TypeId) (z : Value) (size bytes : Nat) : Prop where
  und : P.underlying t = some (.slice e)
  inf : (P.info? e).map (fun i => (i.zero, i.size, i.bytes)) = some (some z, size, bytes)
  zs : z.cells.size = size
  pos : 0 < size

/-- What a slice value of address A, length n and capacity c reads as. -/
structure Rd (w : World) (B size : Nat) (A : Option Addr) (n c : Nat) (xs : List Value) : Prop where
  len : xs.length = n * size
  le : n ≤ c
  cap : c ≤ maxLen
  cells : 0 < n * size → ∃ b off, A = some ⟨b, off, none⟩ ∧ b < B ∧ ∀ j u, xs[j]? = some u → w.cell? ⟨b, off + j, none⟩ = some u

section
variable {w w' : World} {B B' size n c : Nat} {A : Option Addr} {xs : List Value}
theorem Rd.keep (h : Rd w B size A n c xs) (hk : ∀ p : Addr, p.block < B → w'.cell? p = w.cell? p) : Rd w' B size A n c xs :=
  ⟨h.len, h.le, h.cap, fun hn => by
    obtain ⟨b, off, e, hb, hc⟩ := h.cells hn
    exact ⟨b, off, e, hb, fun j u hu => (hk _ hb).trans (hc j u hu)⟩⟩
theorem Rd.below (h : Rd w B size A n c xs) (hb : Below B w w') : Rd w' B size A n c xs := h.keep fun _ hp => hb.cell hp
theorem Rd.more (h : Rd w B size A n c xs) (hB : B ≤ B') : Rd w B' size A n c xs :=
  ⟨h.len, h.le, h.cap, fun hn => by
    obtain ⟨b, off, e, hb, hc⟩ := h.cells hn
    exact ⟨b, off, e, by omega, hc⟩⟩
theorem Rd.drew (h : Rd w B size A n c xs) : Rd w.drew B size A n c xs := ⟨h.len, h.le, h.cap, h.cells⟩
theorem Rd.alloc (h : Rd w B size A n c xs) (hB : B ≤ w.heap.size) (o : Obj) : Rd (w.alloc o) B size A n c xs :=
  h.keep fun p hp => World.cell?_alloc_lt w o p (by omega)
theorem Rd.grown (h : Rd w B size A n c xs) {row : Option Nat} (hg : w.grownBy w' row) (hB : B ≤ w.heap.size) (hr : ∀ g, row = some g → B ≤ g) : Rd w' B size A n c xs :=
  h.keep fun p hp => World.cell?_of_block (hg.block p.block (by omega) (fun e => by have := hr _ e.symm; omega))
theorem Rd.at1 {k : Nat} (h : Rd w B 1 A n c xs) (hk : k < n) : ∃ b off u, A = some ⟨b, off, none⟩ ∧ b < B ∧ xs[k]? = some u ∧ w.cell? ⟨b, off + k, none⟩ = some u := by
  obtain ⟨b, off, e, hb, hc⟩ := h.cells (by omega)
  have hl : k < xs.length := by have := h.len; omega
  exact ⟨b, off, xs[k], e, hb, List.getElem?_eq_getElem hl, hc k _ (List.getElem?_eq_getElem hl)⟩
theorem Rd.nil (w : World) (B size : Nat) : Rd w B size none 0 0 [] := ⟨by simp, Nat.le_refl _, Nat.zero_le _, fun h => absurd h (by omega)⟩
/-- 's[lo:hi]' within the length, as the model makes it. -/
theorem Rd.cut (h : Rd w B size A n c xs) {lo hi m : Nat} (h1 : lo ≤ hi) (h2 : hi ≤ n) (h3 : hi ≤ m) (h4 : m ≤ c) :
    Rd w B size (if m = lo then A else A.map (·.add (lo * size))) (hi - lo) (m - lo) ((xs.drop (lo * size)).take ((hi - lo) * size)) := by
  have hle : hi * size ≤ n * size := Nat.mul_le_mul_right _ h2
  have hlo : lo * size ≤ hi * size := Nat.mul_le_mul_right _ h1
  have hl : xs.length = n * size := h.len
  refine ⟨?_, by omega, by have := h.cap; omega, fun hn => ?_⟩
  · rw [List.length_take, List.length_drop, Nat.sub_mul, hl]; omega
  · have hlt : lo < hi := by
      rcases Nat.lt_or_ge lo hi with hh | hh
      · exact hh
      · rw [show hi - lo = 0 from by omega] at hn; simp at hn
    have hs : 0 < size := Nat.pos_of_mul_pos_left hn
    obtain ⟨b, off, rfl, hb, hc⟩ := h.cells (by have := Nat.mul_le_mul_right size (show 1 ≤ n by omega); omega)
    rw [if_neg (by omega)]
    refine ⟨b, off + lo * size, ?_, hb, fun j u hu => ?_⟩
    · simp only [Option.map_some, Addr.add]
      by_cases hz : lo * size = 0
      · rw [if_pos hz, hz]; rfl
      · rw [if_neg hz]
    · rw [Nat.add_assoc]
      refine hc _ _ ?_
      rw [List.getElem?_take] at hu
      split at hu
      · rw [← hu, List.getElem?_drop]
      · cases hu
theorem Rd.of_own {base : Nat} {e : TypeId} {v : Value} (h : w.ownsRow base e size v n xs) : ∃ A c, v = .slice A n c ∧ Rd w w.heap.size size A n c xs := by
  rcases h.2 with ⟨rfl, rfl⟩ | ⟨g, cap, cur, rfl, hb, hg, hn, hm, _⟩
  · refine ⟨none, 0, rfl, h.1, Nat.le_refl _, Nat.zero_le _, fun hh => absurd hh (by simp)⟩
  · refine ⟨some ⟨g, 0, none⟩, cap, rfl, h.1, hn, hm, fun _ => ⟨g, 0, rfl, ?_, fun j u hu => ?_⟩⟩
    · exact (h.lt g rfl).2
    · have := h.cells (g := g) rfl j u hu
      have hadd : (⟨g, 0, none⟩ : Addr).add j = ⟨g, 0 + j, none⟩ := by unfold Addr.add; split <;> simp_all
      rwa [hadd] at this
end

theorem ownsRow_below {w w' : World} {base B : Nat} {e : TypeId} {size n : Nat} {v : Value} {xs : List Value} (h : w.ownsRow base e size v n xs) (hb : Below B w w') (hs : w.heap.size ≤ B) : w'.ownsRow base e size v n xs := by
  refine h.kept (row := none) ⟨hb.os, hb.tape, hb.output, hb.size, fun k hk _ => hb.block k (by omega)⟩ ?_
  cases hv : v.ownBlock
  · exact Or.inl rfl
  · exact Or.inr (by simp)
theorem ownsRow_base {w : World} {base base' : Nat} {e : TypeId} {size n : Nat} {v : Value} {xs : List Value} (h : w.ownsRow base e size v n xs) (hb : base' ≤ base) : w.ownsRow base' e size v n xs := by
  refine ⟨h.1, ?_⟩
  rcases h.2 with h2 | ⟨g, cap, cur, hv, hg, r⟩
  · exact Or.inl h2
  · exact Or.inr ⟨g, cap, cur, hv, by omega, r⟩
theorem ownsRow_count {w : World} {base n n' : Nat} {e : TypeId} {size : Nat} {v : Value} {xs xs' : List Value} (h : w.ownsRow base e size v n xs) (hn : n = n') (hx : xs = xs') : w.ownsRow base e size v n' xs' := by subst hn; subst hx; exact h

theorem wn {o : Oper} {y : Nat → Option Bool} (h : o.guard = none) : Region.wanted o y = true := by simp [Region.wanted, h]
theorem wpList_want {P : Program} {ops : Array Oper} {Q : Exit → Act → World → Prop} {a : Act} {w : World} {rest : List Oper} {o : Oper} (hw : Region.wanted o (yielded ops a.tmps) = true)
    (h : ∀ K : Act → World → Prop, (∀ a w, wpList P ops Q rest a w → K a w) → o.wp P a w K Q) : wpList P ops Q (o :: rest) a w :=
  wpList_step fun K hK => by rw [if_pos hw]; exact h K hK

section
variable {P : Program} {w w0 : World} {ops : Array Oper} {rest : List Oper} {o : Oper} {a : Act} {Q : Exit → Act → World → Prop}

/-- 'append(v, u)': one element of one cell onto a row of the call's own. -/
theorem app1 {t e : TypeId} {z : Value} {bytes base n : Nat} {v u : Value} {xs : List Value} (s x : Operand) (T : SlTy P t e z 1 bytes) (hgd : Region.wanted o (yielded ops a.tmps) = true)
    (ho : o.op = .call { callee := .builtin .append, args := #[s, x], argTypes := #[t, t] })
    (hs : a.eval s = v) (hx : a.eval x = .slice (some ⟨w.heap.size, 0, none⟩) 1 1)
    (hown : w.ownsRow base e 1 v n xs) (hb : Below base w0 w) (hbase : base ≤ w0.heap.size) (hu : u.oneCell' = true)
    (hn : n + 1 ≤ 70368744177664) (hby : (n + 1) * bytes ≤ 140737488355328)
    (h : ∀ v' w', w'.ownsRow base e 1 v' (n + 1) (xs ++ [u]) → Below base w0 w' → (w.alloc (.cells #[u] e)).grownBy w' v.ownBlock → wpList P ops Q rest (a.put o.dst v') w') :
    wpList P ops Q (o :: rest) a (w.alloc (.cells #[u] e)) := by
  obtain ⟨i, hi, hz0, hz1, hz2⟩ := info_parts T.inf
  have hsz : base ≤ (w.alloc (.cells #[u] e)).heap.size := by have := hb.size; simp; omega
  refine wpList_want hgd fun K hK => wp_append_own _ s x t ho base e i z 1 bytes T.und hi hz0 hz1 hz2 T.zs T.pos v n xs hs (hown.alloc _) ⟨w.heap.size, 0, none⟩ 1 1 [u] hx (by simp) ?_ ?_
    (by unfold maxLen; omega) hby hsz fun v' w' h1 h2 _ => hK _ _ (h v' w' h1 ?_ h2)
  · intro j y hj
    match j, hj with
    | 0, hj => simp at hj; subst hj; simp [Addr.add]
  · intro y hy; simp at hy; subst hy; exact hu
  · refine (hb.alloc (by have := hb.size; omega) _).grown h2 hsz ?_
    intro k hk
    exact ((hown.alloc (.cells #[u] e)).lt k hk).1

/-- 'append(v, text...)' onto bytes of the call's own. -/
theorem appS {t e u : TypeId} {base n : Nat} {v : Value} {xs : List Value} (s x : Operand) (txt : ByteArray) (T : SlTy P t e (.int .u8 0) 1 1) (hu : P.underlying u = some .string) (hgd : Region.wanted o (yielded ops a.tmps) = true)
    (ho : o.op = .call { callee := .builtin .append, args := #[s, x], argTypes := #[t, u] })
    (hs : a.eval s = v) (hx : a.eval x = .string txt)
    (hown : w.ownsRow base e 1 v n xs) (hb : Below base w0 w) (hbase : base ≤ w0.heap.size)
    (hn : n + txt.size ≤ 140737488355328)
    (h : ∀ v' w', w'.ownsRow base e 1 v' (n + txt.size) (xs ++ bcs txt.data.toList) → Below base w0 w' → w.grownBy w' v.ownBlock → wpList P ops Q rest (a.put o.dst v') w') :
    wpList P ops Q (o :: rest) a w := by
  obtain ⟨i, hi, hz0, hz1, hz2⟩ := info_parts T.inf
  have hsz : base ≤ w.heap.size := by have := hb.size; omega
  obtain ⟨v', w', hr, h1, h2, _⟩ := Lib.run_append_own_string (P := P) w base t u o.type e i T.und hu hi hz0 hz1 hz2 v n xs hown txt (by unfold maxLen; omega) hn hsz
  refine wpList_want hgd fun K hK => ?_
  unfold Oper.wp execOp
  simp only [ho, resolve, invoke, builtin, Sem.run_bind, Sem.run_pure, Result.andThen_ok, List.map_toArray, List.map_cons, List.map_nil, hs, hx, hr]
  exact hK _ _ (h v' w' (by rw [← bcs_str]; exact h1) (hb.grown h2 hsz fun k hk => (hown.lt k hk).1) h2)

/-- 'append(v, l...)' of a slice that reads as ys, onto a row of the call's own. -/
theorem appR {t e : TypeId} {z : Value} {size bytes base B n m c : Nat} {v : Value} {A : Option Addr} {xs ys : List Value} (s x : Operand) (T : SlTy P t e z size bytes) (hgd : Region.wanted o (yielded ops a.tmps) = true)
    (ho : o.op = .call { callee := .builtin .append, args := #[s, x], argTypes := #[t, t] })
    (hs : a.eval s = v) (hx : a.eval x = .slice A m c)
    (hown : w.ownsRow base e size v n xs) (hr : Rd w B size A m c ys) (hone : ∀ u ∈ ys, u.oneCell' = true) (hb : Below base w0 w) (hbase : base ≤ w0.heap.size)
    (hn : n + m ≤ 70368744177664) (hby : (n + m) * bytes ≤ 140737488355328)
    (h : ∀ v' w', w'.ownsRow base e size v' (n + m) (xs ++ ys) → Below base w0 w' → w.grownBy w' v.ownBlock → wpList P ops Q rest (a.put o.dst v') w') :
    wpList P ops Q (o :: rest) a w := by
  obtain ⟨i, hi, hz0, hz1, hz2⟩ := info_parts T.inf
  have hsz : base ≤ w.heap.size := by have := hb.size; omega
  have hpos := T.pos
  by_cases hm : m = 0
  · subst hm
    have hy : ys = [] := List.eq_nil_of_length_eq_zero (by have := hr.len; simpa using this)
    subst hy
    have hrun : (Builtin.append_ #[t, t] o.type #[v, .slice A 0 c]).run P w = .ok v w := by
      rcases hown.2 with ⟨rfl, rfl⟩ | ⟨g, cap, cur, rfl, _, _, hnc, _⟩
      · cases A <;> simp [Builtin.append_, run_underlying T.und, sizeOf, typeInfo, hi, Builtin.lenOf, Builtin.firstCells, loadCells, loadCellsFrom]
      · cases A <;> simp [Builtin.append_, run_underlying T.und, sizeOf, typeInfo, hi, Builtin.lenOf, Builtin.firstCells, hnc, storeCells, loadCells, loadCellsFrom]
    refine wpList_want hgd fun K hK => ?_
    unfold Oper.wp execOp
    simp only [ho, resolve, invoke, builtin, Sem.run_bind, Sem.run_pure, Result.andThen_ok, List.map_toArray, List.map_cons, List.map_nil, hs, hx, hrun]
    exact hK _ _ (h v w (by simpa using hown) hb (World.grownBy.refl _ _))
  · have hpm : 0 < m * size := Nat.mul_pos (by omega) hpos
    obtain ⟨b, off, rfl, hlt, hc⟩ := hr.cells hpm
    refine wpList_want hgd fun K hK => wp_append_own _ s x t ho base e i z size bytes T.und hi hz0 hz1 hz2 T.zs T.pos v n xs hs hown ⟨b, off, none⟩ m c ys hx hr.len ?_ hone
      (by unfold maxLen; omega) hby hsz fun v' w' h1 h2 _ => hK _ _ (h v' w' h1 (hb.grown h2 hsz fun k hk => (hown.lt k hk).1) h2)
    intro j u hu
    have := hc j u hu
    have hadd : (⟨b, off, none⟩ : Addr).add j = ⟨b, off + j, none⟩ := by unfold Addr.add; split <;> simp_all
    rwa [hadd]
end

/-- The facts on a struct or array type ty of n cells whose zero value has the cells z. -/
structure AgTy (P : Program) (ty : TypeId) (z : Array Value) (n : Nat) : Prop where
  agg : ((P.underlying ty).map fun d => match d with | .struct _ | .array _ _ => true | _ => false) = some true
  inf : (P.info? ty).map (fun i => (i.zero.map Value.cells, i.size)) = some (some z, n)
  zs : z.size = n

section
variable {P : Program} {w : World} {ops : Array Oper} {rest : List Oper} {o : Oper} {a : Act} {Q : Exit → Act → World → Prop}
theorem run_isAgg {ty : TypeId} {z : Array Value} {n : Nat} (T : AgTy P ty z n) (w : World) : (isAgg ty).run P w = .ok true w := by
  obtain ⟨d, hd, h2⟩ := Option.map_eq_some_iff.1 T.agg
  unfold isAgg
  rw [Sem.run_bind, run_underlying hd w]
  cases d <;> simp_all
theorem AgTy.parts {ty : TypeId} {z : Array Value} {n : Nat} (T : AgTy P ty z n) : ∃ i, P.info? ty = some i ∧ i.zero.map Value.cells = some z ∧ i.size = n := by
  obtain ⟨i, hi, hzz⟩ := Option.map_eq_some_iff.1 T.inf
  simp only [Prod.mk.injEq] at hzz
  exact ⟨i, hi, hzz.1, hzz.2⟩
theorem run_loadAgg {ty : TypeId} {z : Array Value} {n : Nat} (T : AgTy P ty z n) (b off : Nat) (cs : List Value) (hl : cs.length = n) (hc : ∀ j u, cs[j]? = some u → w.cell? ⟨b, off + j, none⟩ = some u) :
    (loadVar ty ⟨b, off, none⟩).run P w = .ok (.agg cs.toArray) w := by
  obtain ⟨i, hi, _, hs⟩ := T.parts
  have hload := run_loadCells_list (P := P) w ⟨b, off, none⟩ cs (fun j v hv => by
    have hadd : (⟨b, off, none⟩ : Addr).add j = ⟨b, off + j, none⟩ := by unfold Addr.add; split <;> simp_all
    rw [hadd]; exact hc j v hv)
  rw [hl] at hload
  simp [loadVar, Sem.run_bind, run_isAgg T, sizeOf, typeInfo, hi, hs, hload]
/-- A struct or an array is loaded whole. -/
theorem ldAgg {ty : TypeId} {z : Array Value} {n b off : Nat} (x : Operand) (cs : List Value) (T : AgTy P ty z n) (hgd : Region.wanted o (yielded ops a.tmps) = true) (ho : o.op = .load ty x)
    (hx : a.eval x = .pointer (some ⟨b, off, none⟩)) (hl : cs.length = n) (hc : ∀ j u, cs[j]? = some u → w.cell? ⟨b, off + j, none⟩ = some u)
    (h : wpList P ops Q rest (a.put o.dst (.agg cs.toArray)) w) : wpList P ops Q (o :: rest) a w := by
  refine wpList_want hgd fun K hK => ?_
  unfold Oper.wp execOp
  simp only [ho, hx, Instr.loadAt, Instr.sureAddr, Sem.run_bind, Sem.run_pure, Result.andThen_ok, run_loadAgg T b off cs hl hc]
  exact hK _ _ h
/-- A new variable of a struct or array type. -/
theorem alAgg {ty : TypeId} {z : Array Value} {n : Nat} (T : AgTy P ty z n) (hgd : Region.wanted o (yielded ops a.tmps) = true) (ho : o.op = .alloc ty)
    (h : wpList P ops Q rest (a.put o.dst (.pointer (some ⟨w.heap.size, 0, none⟩))) (w.alloc (.cells z ty))) : wpList P ops Q (o :: rest) a w := by
  obtain ⟨i, hi, hz, _⟩ := T.parts
  obtain ⟨zv, hzv, hzc⟩ := Option.map_eq_some_iff.1 hz
  refine wpList_want hgd fun K hK => ?_
  unfold Oper.wp execOp
  simp only [ho]
  have hr : (Instr.alloc ty true (.tuple #[])).run P w = .ok (.pointer (some ⟨w.heap.size, 0, none⟩)) (w.alloc (.cells z ty)) := by
    simp [Instr.alloc, zeroValue, typeInfo, hi, hzv, newVar, newRow, hzc]
  simp only [Sem.run_bind, Sem.run_pure, hr, Result.andThen_ok]
  exact hK _ _ h
theorem run_storeAgg {ty : TypeId} {z : Array Value} {n g : Nat} (T : AgTy P ty z n) {cur cs : Array Value} {t : TypeId} (hg : w.heap[g]? = some (.cells cur t (0, 0))) (hs : cur.size = n) (hl : cs.size = n) (h1 : ∀ u ∈ cs, u.oneCell' = true) :
    (storeVar ty ⟨g, 0, none⟩ (.agg cs)).run P w = .ok () (w.setRow g cs) := by
  obtain ⟨i, hi, _, hs'⟩ := T.parts
  have hst := run_storeCells_at P g 0 t cs.toList 0 cur w hg (by simp; omega) (by intro v hv; exact h1 v (by simpa using hv))
  simp only [Nat.zero_add, List.take_zero, List.nil_append, Array.length_toList] at hst
  rw [List.drop_of_length_le (by simp; omega), List.append_nil, Array.toArray_toList] at hst
  simp [storeVar, sizeOf, typeInfo, hi, hs', Value.cells, hl, hst]
theorem setRow_alloc (w : World) (cur cs : Array Value) (t : TypeId) : (w.alloc (.cells cur t)).setRow w.heap.size cs = w.alloc (.cells cs t) := by
  unfold World.setRow World.alloc
  congr 1
  apply Array.ext
  · simp
  · intro i h1 h2
    have hi : i < w.heap.size + 1 := by simpa using h2
    by_cases he : i = w.heap.size
    · subst he; simp [Array.getElem_modify]
    · have hlt : i < w.heap.size := by omega
      have hne : ¬ w.heap.size = i := fun e => he e.symm
      simp [Array.getElem_modify, Array.getElem_push, hlt, hne]
/-- A new variable of a struct or array type is set. -/
theorem stNew {ty : TypeId} {z : Array Value} {n : Nat} (x y : Operand) {cur cs : Array Value} (T : AgTy P ty z n) (hgd : Region.wanted o (yielded ops a.tmps) = true) (ho : o.op = .store ty x y)
    (hx : a.eval x = .pointer (some ⟨w.heap.size, 0, none⟩)) (hy : a.eval y = .agg cs) (hs : cur.size = n) (hl : cs.size = n) (h1 : ∀ u ∈ cs, u.oneCell' = true)
    (h : wpList P ops Q rest (a.put o.dst undef) (w.alloc (.cells cs ty))) : wpList P ops Q (o :: rest) a (w.alloc (.cells cur ty)) := by
  have hg : (w.alloc (.cells cur ty)).heap[w.heap.size]? = some (.cells cur ty (0, 0)) := heap_alloc_new w _
  refine wpList_want hgd fun K hK => ?_
  unfold Oper.wp execOp
  simp only [ho, hx, hy, Instr.storeAt, Instr.sureAddr, Sem.run_bind, Sem.run_pure, Result.andThen_ok, run_storeAgg T hg hs hl h1, setRow_alloc]
  exact hK _ _ h
end

/-- A slice literal of one struct or array. -/
theorem bsAgg1 {P : Program} {w : World} {ops : Array Oper} {rest : List Oper} {o : Oper} {a : Act} {Q : Exit → Act → World → Prop} {t e : TypeId} {z : Value} {size bytes : Nat} {cs : Array Value} (x : Operand)
    (T : SlTy P t e z size bytes) (hgd : Region.wanted o (yielded ops a.tmps) = true) (ho : o.op = .buildSlice t 1 #[(0, x)]) (hx : a.eval x = .agg cs) (hl : cs.size = size) (hs : size ≤ 65536)
    (h : wpList P ops Q rest (a.put o.dst (.slice (some ⟨w.heap.size, 0, none⟩) 1 1)) (w.alloc (.cells cs e))) : wpList P ops Q (o :: rest) a w := by
  obtain ⟨i, hi, hz0, hz1, hz2⟩ := info_parts T.inf
  have hpos := T.pos
  refine wpList_want hgd fun K hK => wp_buildSlice t e 1 _ ho cs i z T.und hi hz0 (by rw [hz1]; omega) (by rw [hz1]; omega) ?_ (hK _ _ h)
  rw [hz1]
  obtain ⟨r, hr, hrs, hrk⟩ := Great.fill_dense hpos [.agg cs] 0 ((Array.range (1 * size)).map (z.cells[· % z.cells.size]!)) (by intro v hv; simp at hv; subst hv; exact hl) (by simp)
  have he : r = cs := by
    apply Array.ext_getElem?
    intro k
    rw [hrk k]
    simp only [Nat.zero_mul, List.length_singleton, Nat.zero_add, Nat.one_mul]
    by_cases hk : k < size
    · rw [if_pos ⟨Nat.zero_le _, hk⟩, Nat.div_eq_of_lt hk, Nat.mod_eq_of_lt hk]
      simp [Value.cells]
    · rw [if_neg (by omega)]
      rw [Array.getElem?_eq_none (by simp; omega), Array.getElem?_eq_none (by omega)]
  rw [he] at hr
  rw [← hr]
  simp [hx]

/-- A result that lies in memory, and two more. -/
theorem res_cell3 {P : Program} {w : World} {fn : Func} {p t u : Tmp} {ty : TypeId} {z : Array Value} {n b off : Nat} (cs : List Value) (h : fn.results = #[.cell p ty, .tmp t, .tmp u]) (T : AgTy P ty z n) (tmps : Array Value)
    (hp : tmps.getD p undef = .pointer (some ⟨b, off, none⟩)) (hl : cs.length = n) (hc : ∀ j u, cs[j]? = some u → w.cell? ⟨b, off + j, none⟩ = some u) :
    (results fn tmps).run P w = .ok (.tuple #[.agg cs.toArray, tmps.getD t undef, tmps.getD u undef]) w := by
  have hr := run_loadAgg (P := P) (w := w) T b off cs hl hc
  have hp' : tmps[p]?.getD undef = .pointer (some ⟨b, off, none⟩) := by simpa using hp
  simp only [results, h]
  simp [Result.andThen, hp', asAddr, hr]
/-- One result that lies in memory. -/
theorem res_cell1 {P : Program} {w : World} {fn : Func} {p : Tmp} {ty : TypeId} {z : Array Value} {n b off : Nat} (cs : List Value) (h : fn.results = #[.cell p ty]) (T : AgTy P ty z n) (tmps : Array Value)
    (hp : tmps.getD p undef = .pointer (some ⟨b, off, none⟩)) (hl : cs.length = n) (hc : ∀ j u, cs[j]? = some u → w.cell? ⟨b, off + j, none⟩ = some u) :
    (results fn tmps).run P w = .ok (.agg cs.toArray) w := by
  have hr := run_loadAgg (P := P) (w := w) T b off cs hl hc
  have hp' : tmps[p]?.getD undef = .pointer (some ⟨b, off, none⟩) := by simpa using hp
  simp only [results, h]
  simp [hp', asAddr, hr]
theorem run_arrayAt {P : Program} (w : World) {arr e : TypeId} {n len c : Nat} {A : Option Addr} (h : P.underlying arr = some (.array n e)) (hn : n ≤ len) : (Instr.arrayAt arr (.slice A len c)).run P w = .ok (.pointer A) w := by
  have hn' : ¬ len < n := by omega
  simp [Instr.arrayAt, run_underlying h, hn']
theorem cells_new (w : World) (cs : List Value) (t : TypeId) : ∀ j u, cs[j]? = some u → (w.alloc (.cells cs.toArray t)).cell? ⟨w.heap.size, 0 + j, none⟩ = some u := by
  intro j u hu
  rw [World.cell?_alloc_at _ t w.heap.size (0 + j) rfl]
  simpa using hu

/-- A call that returns a new row. -/
def RetRow (w : World) (e : TypeId) (size n : Nat) (xs : List Value) (en : Ending) (w' : World) : Prop :=
  ∃ v, en = .returned v ∧ w'.ownsRow w.heap.size e size v n xs ∧ Below w.heap.size w w'
theorem RetRow.open {w : World} {e : TypeId} {size n : Nat} {xs : List Value} {en : Ending} {w' : World} (h : RetRow w e size n xs en w') :
    ∃ A c, en = .returned (.slice A n c) ∧ w'.ownsRow w.heap.size e size (.slice A n c) n xs ∧ Rd w' w'.heap.size size A n c xs ∧ Below w.heap.size w w' := by
  obtain ⟨v, rfl, hown, hb⟩ := h
  obtain ⟨A, c, rfl, hr⟩ := Rd.of_own hown
  exact ⟨A, c, rfl, hown, hr, hb⟩

/-- The conversion of bytes to a string. -/
theorem conv_bs {P : Program} {w : World} {B n c : Nat} {A : Option Addr} {l : List UInt8} {src e dst : TypeId} (hs : P.underlying src = some (.slice e)) (he : P.underlying e = some (.int .u8))
    (hd : P.underlying dst = some .string) (hr : Rd w B 1 A n c (bcs l)) : (convert src dst (.slice A n c)).run P w = .ok (.string ⟨l.toArray⟩) w := by
  have hl : l.length = n := by have := hr.len; simpa [bcs] using this
  by_cases hn : n = 0
  · subst hn
    have : l = [] := List.eq_nil_of_length_eq_zero hl
    subst this
    cases A with
    | none => rw [run_convert_bytes_nil w src e hs he 0 c dst hd]; rfl
    | some p =>
      rw [run_convert_bytes_string w src dst e _ 0 c hs he hd]
      simp [Conv.bytesToString, loadCells, loadCellsFrom]
      rfl
  · obtain ⟨b, off, rfl, _, hc⟩ := hr.cells (by omega)
    have := run_convert_bytes_arg (P := P) w src e hs he b off n c (l.map fun x => (x.toNat : Int)) (by simpa using hl) (fun i hi => by
      have hi' : i < l.length := by omega
      refine hc i _ ?_
      simp [bcs, bc, hi', List.getD]) dst hd
    rw [this]
    congr 2
    unfold strOfNums
    congr 2
    rw [List.map_map]
    congr 1
    refine (List.map_congr_left (g := id) fun x _ => ?_).trans (List.map_id l)
    simp

/-- The same at the operation. -/
theorem convStr {P : Program} {w : World} {ops : Array Oper} {rest : List Oper} {o : Oper} {a : Act} {Q : Exit → Act → World → Prop}
    {B n c : Nat} {A : Option Addr} {src e dst : TypeId} (x : Operand) (l : List UInt8) (hs : P.underlying src = some (.slice e)) (he : P.underlying e = some (.int .u8))
    (hd : P.underlying dst = some .string) (hgd : Region.wanted o (yielded ops a.tmps) = true) (ho : o.op = .convert src dst x) (hx : a.eval x = .slice A n c) (hr : Rd w B 1 A n c (bcs l))
    (h : wpList P ops Q rest (a.put o.dst (.string ⟨l.toArray⟩)) w) : wpList P ops Q (o :: rest) a w := by
  refine wpList_want hgd fun K hK => ?_
  unfold Oper.wp execOp
  simp only [ho, hx, Sem.run_bind, Sem.run_pure, conv_bs hs he hd hr, Result.andThen_ok]
  exact hK _ _ h

section
variable {P : Program} {w : World} {ops : Array Oper} {rest : List Oper} {o : Oper} {a : Act} {Q : Exit → Act → World → Prop}
/-- 's[lo:hi]' of a slice that reads as xs: some slice that reads as the part. -/
theorem slLH {t e : TypeId} {z : Value} {size bytes B n c : Nat} {A : Option Addr} {xs : List Value} {kl kh : IntKind} {L H : Int} (x l h : Operand) (U V : Nat) (T : SlTy P t e z size bytes) (hgd : Region.wanted o (yielded ops a.tmps) = true)
    (ho : o.op = .slice t x (some l) (some h) none) (hx : a.eval x = .slice A n c) (hl : a.eval l = .int kl L) (hh : a.eval h = .int kh H) (hr : Rd w B size A n c xs)
    (hL : L = (U : Int)) (hH : H = (V : Int)) (h1 : U ≤ V) (h2 : V ≤ n)
    (hK : ∀ A', Rd w B size A' (V - U) (c - U) ((xs.drop (U * size)).take ((V - U) * size)) → wpList P ops Q rest (a.put o.dst (.slice A' (V - U) (c - U))) w) : wpList P ops Q (o :: rest) a w := by
  obtain ⟨i, hi, hz0, hz1, hz2⟩ := info_parts T.inf
  subst hL; subst hH
  have hle := hr.le
  have ht : P.underlying t = some (.slice (P.elem t)) := by rw [T.und]; simp [Program.elem, T.und]
  have he : P.elem t = e := by have := T.und; rw [this] at ht; injection ht with ht; injection ht with ht; exact ht.symm
  have hrun := run_slice_lh (P := P) w t A n c ht kl kh (U : Int) (V : Int) (by omega) (by omega) (by omega)
  have hcut := hr.cut (lo := U) (hi := V) (m := c) (by omega) (by omega) (by omega) (by omega)
  refine wpList_want hgd fun K hK' => ?_
  unfold Oper.wp execOp
  simp only [ho, hx, hl, hh, Option.map_some, Option.map_none, Sem.run_bind, Sem.run_pure, run_sliceAt_slice w t _ _ _ _ ht, hrun, he, sizeOf, typeInfo, Int.toNat_natCast, sliced]
  simp [hi, hz1]
  exact hK' _ _ (hK _ (by simpa using hcut))
/-- 's[lo:]'. -/
theorem slL {t e : TypeId} {z : Value} {size bytes B n c : Nat} {A : Option Addr} {xs : List Value} {kl : IntKind} {L : Int} (x l : Operand) (U : Nat) (T : SlTy P t e z size bytes) (hgd : Region.wanted o (yielded ops a.tmps) = true)
    (ho : o.op = .slice t x (some l) none none) (hx : a.eval x = .slice A n c) (hl : a.eval l = .int kl L) (hr : Rd w B size A n c xs)
    (hL : L = (U : Int)) (h1 : U ≤ n)
    (hK : ∀ A', Rd w B size A' (n - U) (c - U) ((xs.drop (U * size)).take ((n - U) * size)) → wpList P ops Q rest (a.put o.dst (.slice A' (n - U) (c - U))) w) : wpList P ops Q (o :: rest) a w := by
  obtain ⟨i, hi, hz0, hz1, hz2⟩ := info_parts T.inf
  subst hL
  have hle := hr.le
  have ht : P.underlying t = some (.slice (P.elem t)) := by rw [T.und]; simp [Program.elem, T.und]
  have he : P.elem t = e := by have := T.und; rw [this] at ht; injection ht with ht; injection ht with ht; exact ht.symm
  have hrun := run_slice_l (P := P) w t A n c ht kl (U : Int) (by omega) (by omega)
  have hcut := hr.cut (lo := U) (hi := n) (m := c) (by omega) (by omega) (by omega) (by omega)
  refine wpList_want hgd fun K hK' => ?_
  unfold Oper.wp execOp
  simp only [ho, hx, hl, Option.map_some, Option.map_none, Sem.run_bind, Sem.run_pure, run_sliceAt_slice w t _ _ _ _ ht, hrun, he, sizeOf, typeInfo, Int.toNat_natCast, sliced]
  simp [hi, hz1]
  exact hK' _ _ (hK _ (by simpa using hcut))
/-- 's[:hi]'. -/
theorem slH {t e : TypeId} {z : Value} {size bytes B n c : Nat} {A : Option Addr} {xs : List Value} {kh : IntKind} {H : Int} (x h : Operand) (V : Nat) (T : SlTy P t e z size bytes) (hgd : Region.wanted o (yielded ops a.tmps) = true)
    (ho : o.op = .slice t x none (some h) none) (hx : a.eval x = .slice A n c) (hh : a.eval h = .int kh H) (hr : Rd w B size A n c xs)
    (hH : H = (V : Int)) (h2 : V ≤ n)
    (hK : ∀ A', Rd w B size A' V c (xs.take (V * size)) → wpList P ops Q rest (a.put o.dst (.slice A' V c)) w) : wpList P ops Q (o :: rest) a w := by
  obtain ⟨i, hi, hz0, hz1, hz2⟩ := info_parts T.inf
  subst hH
  have hle := hr.le
  have ht : P.underlying t = some (.slice (P.elem t)) := by rw [T.und]; simp [Program.elem, T.und]
  have he : P.elem t = e := by have := T.und; rw [this] at ht; injection ht with ht; injection ht with ht; exact ht.symm
  have hrun := run_slice_h (P := P) w t A n c ht kh (V : Int) (by omega) (by omega)
  have hcut := hr.cut (lo := 0) (hi := V) (m := c) (by omega) (by omega) (by omega) (by omega)
  simp only [Nat.sub_zero, Nat.zero_mul, List.drop_zero] at hcut
  refine wpList_want hgd fun K hK' => ?_
  unfold Oper.wp execOp
  simp only [ho, hx, hh, Option.map_some, Option.map_none, Sem.run_bind, Sem.run_pure, run_sliceAt_slice w t _ _ _ _ ht, hrun, he, sizeOf, typeInfo, Int.toNat_natCast, sliced]
  simp [hi, hz1]
  exact hK' _ _ (hK _ (by simpa using hcut))
/-- 's[:hi:max]'. -/
theorem slHM {t e : TypeId} {z : Value} {size bytes B n c : Nat} {A : Option Addr} {xs : List Value} {kh km : IntKind} {H M : Int} (x h m : Operand) (V W : Nat) (T : SlTy P t e z size bytes) (hgd : Region.wanted o (yielded ops a.tmps) = true)
    (ho : o.op = .slice t x none (some h) (some m)) (hx : a.eval x = .slice A n c) (hh : a.eval h = .int kh H) (hm : a.eval m = .int km M) (hr : Rd w B size A n c xs)
    (hH : H = (V : Int)) (hM : M = (W : Int)) (h2 : V ≤ n) (h3 : V ≤ W) (h4 : W ≤ c)
    (hK : ∀ A', Rd w B size A' V W (xs.take (V * size)) → wpList P ops Q rest (a.put o.dst (.slice A' V W)) w) : wpList P ops Q (o :: rest) a w := by
  obtain ⟨i, hi, hz0, hz1, hz2⟩ := info_parts T.inf
  subst hH; subst hM
  have hle := hr.le
  have ht : P.underlying t = some (.slice (P.elem t)) := by rw [T.und]; simp [Program.elem, T.und]
  have he : P.elem t = e := by have := T.und; rw [this] at ht; injection ht with ht; injection ht with ht; exact ht.symm
  have hrun := run_slice_hm (P := P) w t A n c ht kh km (V : Int) (W : Int) (by omega) (by omega) (by omega)
  have hcut := hr.cut (lo := 0) (hi := V) (m := W) (by omega) (by omega) (by omega) (by omega)
  simp only [Nat.sub_zero, Nat.zero_mul, List.drop_zero] at hcut
  refine wpList_want hgd fun K hK' => ?_
  unfold Oper.wp execOp
  simp only [ho, hx, hh, hm, Option.map_some, Option.map_none, Sem.run_bind, Sem.run_pure, run_sliceAt_slice w t _ _ _ _ ht, hrun, he, sizeOf, typeInfo, Int.toNat_natCast, sliced]
  simp [hi, hz1]
  exact hK' _ _ (hK _ (by simpa using hcut))
/-- 's[lo:hi:max]'. -/
theorem slLHM {t e : TypeId} {z : Value} {size bytes B n c : Nat} {A : Option Addr} {xs : List Value} {kl kh km : IntKind} {L H M : Int} (x l h m : Operand) (U V W : Nat) (T : SlTy P t e z size bytes) (hgd : Region.wanted o (yielded ops a.tmps) = true)
    (ho : o.op = .slice t x (some l) (some h) (some m)) (hx : a.eval x = .slice A n c) (hl : a.eval l = .int kl L) (hh : a.eval h = .int kh H) (hm : a.eval m = .int km M) (hr : Rd w B size A n c xs)
    (hL : L = (U : Int)) (hH : H = (V : Int)) (hM : M = (W : Int)) (h1 : U ≤ V) (h2 : V ≤ n) (h3 : V ≤ W) (h4 : W ≤ c)
    (hK : ∀ A', Rd w B size A' (V - U) (W - U) ((xs.drop (U * size)).take ((V - U) * size)) → wpList P ops Q rest (a.put o.dst (.slice A' (V - U) (W - U))) w) : wpList P ops Q (o :: rest) a w := by
  obtain ⟨i, hi, hz0, hz1, hz2⟩ := info_parts T.inf
  subst hL; subst hH; subst hM
  have hle := hr.le
  have ht : P.underlying t = some (.slice (P.elem t)) := by rw [T.und]; simp [Program.elem, T.und]
  have he : P.elem t = e := by have := T.und; rw [this] at ht; injection ht with ht; injection ht with ht; exact ht.symm
  have hrun := run_slice_lhm (P := P) w t A n c ht kl kh km (U : Int) (V : Int) (W : Int) (by omega) (by omega) (by omega) (by omega)
  have hcut := hr.cut (lo := U) (hi := V) (m := W) (by omega) (by omega) (by omega) (by omega)
  refine wpList_want hgd fun K hK' => ?_
  unfold Oper.wp execOp
  simp only [ho, hx, hl, hh, hm, Option.map_some, Sem.run_bind, Sem.run_pure, run_sliceAt_slice w t _ _ _ _ ht, hrun, he, sizeOf, typeInfo, Int.toNat_natCast, sliced]
  simp [hi, hz1]
  exact hK' _ _ (hK _ (by simpa using hcut))
end
end Go.Proofs.Ytpbebmbkcpdbeaa
