/-
  MA: several texts in one: Base, Bits, Quiet, Full, Rows5, Arr, Reg, Mid, Float, WireSpec, Int, IntRef. No statement is proved here.
-/
import Derived.WalkKit
import Derived.WalkSpells
import Derived.WalkLawsBesides
import Derived.Lib.Hide
import Derived.Lib.AppendStr
import Derived.Deep.AppendLies
import Derived.Deep.Draws
import Derived.Maps.AppendAt
import Derived.Laws.CopyOwn
import Derived.Great.BuildSlice
import Derived.Laws.BitsAllLaws
import Derived.Deep.QuietTactic
import Derived.BigQuiet
import Derived.Stop.BytesEq
import Derived.OrdersHeld
import Derived.Lib.ConvBytes
import Derived.Test.YtienlndjhcmemaaDoorRows
/-
  Plain words and laws for memory, over any program: what a slice reads as (Rd), what a call owns, one-element and string appends. No statement is proved here.
-/
namespace Go.Proofs.YtienlndjhcmemaaDoor
open Go.RowKit

/-- A byte as a cell. -/
def bc (b : UInt8) : Value := .int .u8 (b.toNat : Int)
def bcs (l : List UInt8) : List Value := l.map bc
theorem bcs_length (l : List UInt8) : (bcs l).length = l.length := by simp [bcs]
theorem bcs_append (a b : List UInt8) : bcs (a ++ b) = bcs a ++ bcs b := by simp [bcs]
theorem bcs_one (l : List UInt8) : ∀ u ∈ bcs l, u.oneCell' = true := by
  intro u hu
  simp only [bcs, List.mem_map] at hu
  obtain ⟨b, _, rfl⟩ := hu
  rfl
theorem bcs_str (s : ByteArray) : Lib.strCells s = bcs s.data.toList := rfl

/-- The facts on a slice type t of elements e that take size cells. -/
structure SlTy (P : Program) (t e : TypeId) (z : Value) (size bytes : Nat) : Prop where
  und : P.underlying t = some (.slice e)
  inf : (P.info? e).map (fun i => (i.zero, i.size, i.bytes)) = some (some z, size, bytes)
  zs : z.cells.size = size
  pos : 0 < size

/-- What a slice value of address A, length n and capacity c reads as. -/
structure Rd (w : World) (B size : Nat) (A : Option Addr) (n c : Nat) (xs : List Value) : Prop where
  len : xs.length = n * size
  le : n ≤ c
  cap : c ≤ maxLen
  cells : 0 < n * size → ∃ b off, A = some ⟨b, off, none⟩ ∧ b < B ∧ ∀ j u, xs[j]? = some u → w.cell? ⟨b, off + j, none⟩ = some u

section
variable {w w' : World} {B B' size n c : Nat} {A : Option Addr} {xs : List Value}
theorem Rd.keep (h : Rd w B size A n c xs) (hk : ∀ p : Addr, p.block < B → w'.cell? p = w.cell? p) : Rd w' B size A n c xs :=
  ⟨h.len, h.le, h.cap, fun hn => by
    obtain ⟨b, off, e, hb, hc⟩ := h.cells hn
    exact ⟨b, off, e, hb, fun j u hu => (hk _ hb).trans (hc j u hu)⟩⟩
theorem Rd.below (h : Rd w B size A n c xs) (hb : Below B w w') : Rd w' B size A n c xs := h.keep fun _ hp => hb.cell hp
theorem Rd.more (h : Rd w B size A n c xs) (hB : B ≤ B') : Rd w B' size A n c xs :=
  ⟨h.len, h.le, h.cap, fun hn => by
    obtain ⟨b, off, e, hb, hc⟩ := h.cells hn
    exact ⟨b, off, e, by omega, hc⟩⟩
theorem Rd.drew (h : Rd w B size A n c xs) : Rd w.drew B size A n c xs := ⟨h.len, h.le, h.cap, h.cells⟩
theorem Rd.alloc (h : Rd w B size A n c xs) (hB : B ≤ w.heap.size) (o : Obj) : Rd (w.alloc o) B size A n c xs :=
  h.keep fun p hp => World.cell?_alloc_lt w o p (by omega)
theorem Rd.grown (h : Rd w B size A n c xs) {row : Option Nat} (hg : w.grownBy w' row) (hB : B ≤ w.heap.size) (hr : ∀ g, row = some g → B ≤ g) : Rd w' B size A n c xs :=
  h.keep fun p hp => World.cell?_of_block (hg.block p.block (by omega) (fun e => by have := hr _ e.symm; omega))
theorem Rd.at1 {k : Nat} (h : Rd w B 1 A n c xs) (hk : k < n) : ∃ b off u, A = some ⟨b, off, none⟩ ∧ b < B ∧ xs[k]? = some u ∧ w.cell? ⟨b, off + k, none⟩ = some u := by
  obtain ⟨b, off, e, hb, hc⟩ := h.cells (by omega)
  have hl : k < xs.length := by have := h.len; omega
  exact ⟨b, off, xs[k], e, hb, List.getElem?_eq_getElem hl, hc k _ (List.getElem?_eq_getElem hl)⟩
theorem Rd.nil (w : World) (B size : Nat) : Rd w B size none 0 0 [] := ⟨by simp, Nat.le_refl _, Nat.zero_le _, fun h => absurd h (by omega)⟩
/-- 's[lo:hi]' within the length, as the model makes it. -/
theorem Rd.cut (h : Rd w B size A n c xs) {lo hi m : Nat} (h1 : lo ≤ hi) (h2 : hi ≤ n) (h3 : hi ≤ m) (h4 : m ≤ c) :
    Rd w B size (if m = lo then A else A.map (·.add (lo * size))) (hi - lo) (m - lo) ((xs.drop (lo * size)).take ((hi - lo) * size)) := by
  have hle : hi * size ≤ n * size := Nat.mul_le_mul_right _ h2
  have hlo : lo * size ≤ hi * size := Nat.mul_le_mul_right _ h1
  have hl : xs.length = n * size := h.len
  refine ⟨?_, by omega, by have := h.cap; omega, fun hn => ?_⟩
  · rw [List.length_take, List.length_drop, Nat.sub_mul, hl]; omega
  · have hlt : lo < hi := by
      rcases Nat.lt_or_ge lo hi with hh | hh
      · exact hh
      · rw [show hi - lo = 0 from by omega] at hn; simp at hn
    have hs : 0 < size := Nat.pos_of_mul_pos_left hn
    obtain ⟨b, off, rfl, hb, hc⟩ := h.cells (by have := Nat.mul_le_mul_right size (show 1 ≤ n by omega); omega)
    rw [if_neg (by omega)]
    refine ⟨b, off + lo * size, ?_, hb, fun j u hu => ?_⟩
    · simp only [Option.map_some, Addr.add]
      by_cases hz : lo * size = 0
      · rw [if_pos hz, hz]; rfl
      · rw [if_neg hz]
    · rw [Nat.add_assoc]
      refine hc _ _ ?_
      rw [List.getElem?_take] at hu
      split at hu
      · rw [← hu, List.getElem?_drop]
      · cases hu
theorem Rd.of_own {base : Nat} {e : TypeId} {v : Value} (h : w.ownsRow base e size v n xs) : ∃ A c, v = .slice A n c ∧ Rd w w.heap.size size A n c xs := by
  rcases h.2 with ⟨rfl, rfl⟩ | ⟨g, cap, cur, rfl, hb, hg, hn, hm, _⟩
  · refine ⟨none, 0, rfl, h.1, Nat.le_refl _, Nat.zero_le _, fun hh => absurd hh (by simp)⟩
  · refine ⟨some ⟨g, 0, none⟩, cap, rfl, h.1, hn, hm, fun _ => ⟨g, 0, rfl, ?_, fun j u hu => ?_⟩⟩
    · exact (h.lt g rfl).2
    · have := h.cells (g := g) rfl j u hu
      have hadd : (⟨g, 0, none⟩ : Addr).add j = ⟨g, 0 + j, none⟩ := by unfold Addr.add; split <;> simp_all
      rwa [hadd] at this
end

theorem ownsRow_below {w w' : World} {base B : Nat} {e : TypeId} {size n : Nat} {v : Value} {xs : List Value} (h : w.ownsRow base e size v n xs) (hb : Below B w w') (hs : w.heap.size ≤ B) : w'.ownsRow base e size v n xs := by
  refine h.kept (row := none) ⟨hb.os, hb.tape, hb.output, hb.size, fun k hk _ => hb.block k (by omega)⟩ ?_
  cases hv : v.ownBlock
  · exact Or.inl rfl
  · exact Or.inr (by simp)
theorem ownsRow_base {w : World} {base base' : Nat} {e : TypeId} {size n : Nat} {v : Value} {xs : List Value} (h : w.ownsRow base e size v n xs) (hb : base' ≤ base) : w.ownsRow base' e size v n xs := by
  refine ⟨h.1, ?_⟩
  rcases h.2 with h2 | ⟨g, cap, cur, hv, hg, r⟩
  · exact Or.inl h2
  · exact Or.inr ⟨g, cap, cur, hv, by omega, r⟩
theorem ownsRow_count {w : World} {base n n' : Nat} {e : TypeId} {size : Nat} {v : Value} {xs xs' : List Value} (h : w.ownsRow base e size v n xs) (hn : n = n') (hx : xs = xs') : w.ownsRow base e size v n' xs' := by subst hn; subst hx; exact h

theorem wn {o : Oper} {y : Nat → Option Bool} (h : o.guard = none) : Region.wanted o y = true := by simp [Region.wanted, h]
theorem wpList_want {P : Program} {ops : Array Oper} {Q : Exit → Act → World → Prop} {a : Act} {w : World} {rest : List Oper} {o : Oper} (hw : Region.wanted o (yielded ops a.tmps) = true)
    (h : ∀ K : Act → World → Prop, (∀ a w, wpList P ops Q rest a w → K a w) → o.wp P a w K Q) : wpList P ops Q (o :: rest) a w :=
  wpList_step fun K hK => by rw [if_pos hw]; exact h K hK

section
variable {P : Program} {w w0 : World} {ops : Array Oper} {rest : List Oper} {o : Oper} {a : Act} {Q : Exit → Act → World → Prop}

/-- 'append(v, u)': one element of one cell onto a row of the call's own. -/
theorem app1 {t e : TypeId} {z : Value} {bytes base n : Nat} {v u : Value} {xs : List Value} (s x : Operand) (T : SlTy P t e z 1 bytes) (hgd : Region.wanted o (yielded ops a.tmps) = true)
    (ho : o.op = .call { callee := .builtin .append, args := #[s, x], argTypes := #[t, t] })
    (hs : a.eval s = v) (hx : a.eval x = .slice (some ⟨w.heap.size, 0, none⟩) 1 1)
    (hown : w.ownsRow base e 1 v n xs) (hb : Below base w0 w) (hbase : base ≤ w0.heap.size) (hu : u.oneCell' = true)
    (hn : n + 1 ≤ 70368744177664) (hby : (n + 1) * bytes ≤ 140737488355328)
    (h : ∀ v' w', w'.ownsRow base e 1 v' (n + 1) (xs ++ [u]) → Below base w0 w' → (w.alloc (.cells #[u] e)).grownBy w' v.ownBlock → wpList P ops Q rest (a.put o.dst v') w') :
    wpList P ops Q (o :: rest) a (w.alloc (.cells #[u] e)) := by
  obtain ⟨i, hi, hz0, hz1, hz2⟩ := info_parts T.inf
  have hsz : base ≤ (w.alloc (.cells #[u] e)).heap.size := by have := hb.size; simp; omega
  refine wpList_want hgd fun K hK => wp_append_own _ s x t ho base e i z 1 bytes T.und hi hz0 hz1 hz2 T.zs T.pos v n xs hs (hown.alloc _) ⟨w.heap.size, 0, none⟩ 1 1 [u] hx (by simp) ?_ ?_
    (by unfold maxLen; omega) hby hsz fun v' w' h1 h2 _ => hK _ _ (h v' w' h1 ?_ h2)
  · intro j y hj
    match j, hj with
    | 0, hj => simp at hj; subst hj; simp [Addr.add]
  · intro y hy; simp at hy; subst hy; exact hu
  · refine (hb.alloc (by have := hb.size; omega) _).grown h2 hsz ?_
    intro k hk
    exact ((hown.alloc (.cells #[u] e)).lt k hk).1

/-- 'append(v, text...)' onto bytes of the call's own. -/
theorem appS {t e u : TypeId} {base n : Nat} {v : Value} {xs : List Value} (s x : Operand) (txt : ByteArray) (T : SlTy P t e (.int .u8 0) 1 1) (hu : P.underlying u = some .string) (hgd : Region.wanted o (yielded ops a.tmps) = true)
    (ho : o.op = .call { callee := .builtin .append, args := #[s, x], argTypes := #[t, u] })
    (hs : a.eval s = v) (hx : a.eval x = .string txt)
    (hown : w.ownsRow base e 1 v n xs) (hb : Below base w0 w) (hbase : base ≤ w0.heap.size)
    (hn : n + txt.size ≤ 140737488355328)
    (h : ∀ v' w', w'.ownsRow base e 1 v' (n + txt.size) (xs ++ bcs txt.data.toList) → Below base w0 w' → w.grownBy w' v.ownBlock → wpList P ops Q rest (a.put o.dst v') w') :
    wpList P ops Q (o :: rest) a w := by
  obtain ⟨i, hi, hz0, hz1, hz2⟩ := info_parts T.inf
  have hsz : base ≤ w.heap.size := by have := hb.size; omega
  obtain ⟨v', w', hr, h1, h2, _⟩ := Lib.run_append_own_string (P := P) w base t u o.type e i T.und hu hi hz0 hz1 hz2 v n xs hown txt (by unfold maxLen; omega) hn hsz
  refine wpList_want hgd fun K hK => ?_
  unfold Oper.wp execOp
  simp only [ho, resolve, invoke, builtin, Sem.run_bind, Sem.run_pure, Result.andThen_ok, List.map_toArray, List.map_cons, List.map_nil, hs, hx, hr]
  exact hK _ _ (h v' w' (by rw [← bcs_str]; exact h1) (hb.grown h2 hsz fun k hk => (hown.lt k hk).1) h2)

/-- 'append(v, l...)' of a slice that reads as ys, onto a row of the call's own. -/
theorem appR {t e : TypeId} {z : Value} {size bytes base B n m c : Nat} {v : Value} {A : Option Addr} {xs ys : List Value} (s x : Operand) (T : SlTy P t e z size bytes) (hgd : Region.wanted o (yielded ops a.tmps) = true)
    (ho : o.op = .call { callee := .builtin .append, args := #[s, x], argTypes := #[t, t] })
    (hs : a.eval s = v) (hx : a.eval x = .slice A m c)
    (hown : w.ownsRow base e size v n xs) (hr : Rd w B size A m c ys) (hone : ∀ u ∈ ys, u.oneCell' = true) (hb : Below base w0 w) (hbase : base ≤ w0.heap.size)
    (hn : n + m ≤ 70368744177664) (hby : (n + m) * bytes ≤ 140737488355328)
    (h : ∀ v' w', w'.ownsRow base e size v' (n + m) (xs ++ ys) → Below base w0 w' → w.grownBy w' v.ownBlock → wpList P ops Q rest (a.put o.dst v') w') :
    wpList P ops Q (o :: rest) a w := by
  obtain ⟨i, hi, hz0, hz1, hz2⟩ := info_parts T.inf
  have hsz : base ≤ w.heap.size := by have := hb.size; omega
  have hpos := T.pos
  by_cases hm : m = 0
  · subst hm
    have hy : ys = [] := List.eq_nil_of_length_eq_zero (by have := hr.len; simpa using this)
    subst hy
    have hrun : (Builtin.append_ #[t, t] o.type #[v, .slice A 0 c]).run P w = .ok v w := by
      rcases hown.2 with ⟨rfl, rfl⟩ | ⟨g, cap, cur, rfl, _, _, hnc, _⟩
      · cases A <;> simp [Builtin.append_, run_underlying T.und, sizeOf, typeInfo, hi, Builtin.lenOf, Builtin.firstCells, loadCells, loadCellsFrom]
      · cases A <;> simp [Builtin.append_, run_underlying T.und, sizeOf, typeInfo, hi, Builtin.lenOf, Builtin.firstCells, hnc, storeCells, loadCells, loadCellsFrom]
    refine wpList_want hgd fun K hK => ?_
    unfold Oper.wp execOp
    simp only [ho, resolve, invoke, builtin, Sem.run_bind, Sem.run_pure, Result.andThen_ok, List.map_toArray, List.map_cons, List.map_nil, hs, hx, hrun]
    exact hK _ _ (h v w (by simpa using hown) hb (World.grownBy.refl _ _))
  · have hpm : 0 < m * size := Nat.mul_pos (by omega) hpos
    obtain ⟨b, off, rfl, hlt, hc⟩ := hr.cells hpm
    refine wpList_want hgd fun K hK => wp_append_own _ s x t ho base e i z size bytes T.und hi hz0 hz1 hz2 T.zs T.pos v n xs hs hown ⟨b, off, none⟩ m c ys hx hr.len ?_ hone
      (by unfold maxLen; omega) hby hsz fun v' w' h1 h2 _ => hK _ _ (h v' w' h1 (hb.grown h2 hsz fun k hk => (hown.lt k hk).1) h2)
    intro j u hu
    have := hc j u hu
    have hadd : (⟨b, off, none⟩ : Addr).add j = ⟨b, off + j, none⟩ := by unfold Addr.add; split <;> simp_all
    rwa [hadd]
end

/-- The facts on a struct or array type ty of n cells whose zero value has the cells z. -/
structure AgTy (P : Program) (ty : TypeId) (z : Array Value) (n : Nat) : Prop where
  agg : ((P.underlying ty).map fun d => match d with | .struct _ | .array _ _ => true | _ => false) = some true
  inf : (P.info? ty).map (fun i => (i.zero.map Value.cells, i.size)) = some (some z, n)
  zs : z.size = n

section
variable {P : Program} {w : World} {ops : Array Oper} {rest : List Oper} {o : Oper} {a : Act} {Q : Exit → Act → World → Prop}
theorem run_isAgg {ty : TypeId} {z : Array Value} {n : Nat} (T : AgTy P ty z n) (w : World) : (isAgg ty).run P w = .ok true w := by
  obtain ⟨d, hd, h2⟩ := Option.map_eq_some_iff.1 T.agg
  unfold isAgg
  rw [Sem.run_bind, run_underlying hd w]
  cases d <;> simp_all
theorem AgTy.parts {ty : TypeId} {z : Array Value} {n : Nat} (T : AgTy P ty z n) : ∃ i, P.info? ty = some i ∧ i.zero.map Value.cells = some z ∧ i.size = n := by
  obtain ⟨i, hi, hzz⟩ := Option.map_eq_some_iff.1 T.inf
  simp only [Prod.mk.injEq] at hzz
  exact ⟨i, hi, hzz.1, hzz.2⟩
theorem run_loadAgg {ty : TypeId} {z : Array Value} {n : Nat} (T : AgTy P ty z n) (b off : Nat) (cs : List Value) (hl : cs.length = n) (hc : ∀ j u, cs[j]? = some u → w.cell? ⟨b, off + j, none⟩ = some u) :
    (loadVar ty ⟨b, off, none⟩).run P w = .ok (.agg cs.toArray) w := by
  obtain ⟨i, hi, _, hs⟩ := T.parts
  have hload := run_loadCells_list (P := P) w ⟨b, off, none⟩ cs (fun j v hv => by
    have hadd : (⟨b, off, none⟩ : Addr).add j = ⟨b, off + j, none⟩ := by unfold Addr.add; split <;> simp_all
    rw [hadd]; exact hc j v hv)
  rw [hl] at hload
  simp [loadVar, Sem.run_bind, run_isAgg T, sizeOf, typeInfo, hi, hs, hload]
/-- A struct or an array is loaded whole. -/
theorem ldAgg {ty : TypeId} {z : Array Value} {n b off : Nat} (x : Operand) (cs : List Value) (T : AgTy P ty z n) (hgd : Region.wanted o (yielded ops a.tmps) = true) (ho : o.op = .load ty x)
    (hx : a.eval x = .pointer (some ⟨b, off, none⟩)) (hl : cs.length = n) (hc : ∀ j u, cs[j]? = some u → w.cell? ⟨b, off + j, none⟩ = some u)
    (h : wpList P ops Q rest (a.put o.dst (.agg cs.toArray)) w) : wpList P ops Q (o :: rest) a w := by
  refine wpList_want hgd fun K hK => ?_
  unfold Oper.wp execOp
  simp only [ho, hx, Instr.loadAt, Instr.sureAddr, Sem.run_bind, Sem.run_pure, Result.andThen_ok, run_loadAgg T b off cs hl hc]
  exact hK _ _ h
/-- A new variable of a struct or array type. -/
theorem alAgg {ty : TypeId} {z : Array Value} {n : Nat} (T : AgTy P ty z n) (hgd : Region.wanted o (yielded ops a.tmps) = true) (ho : o.op = .alloc ty)
    (h : wpList P ops Q rest (a.put o.dst (.pointer (some ⟨w.heap.size, 0, none⟩))) (w.alloc (.cells z ty))) : wpList P ops Q (o :: rest) a w := by
  obtain ⟨i, hi, hz, _⟩ := T.parts
  obtain ⟨zv, hzv, hzc⟩ := Option.map_eq_some_iff.1 hz
  refine wpList_want hgd fun K hK => ?_
  unfold Oper.wp execOp
  simp only [ho]
  have hr : (Instr.alloc ty true (.tuple #[])).run P w = .ok (.pointer (some ⟨w.heap.size, 0, none⟩)) (w.alloc (.cells z ty)) := by
    simp [Instr.alloc, zeroValue, typeInfo, hi, hzv, newVar, newRow, hzc]
  simp only [Sem.run_bind, Sem.run_pure, hr, Result.andThen_ok]
  exact hK _ _ h
theorem run_storeAgg {ty : TypeId} {z : Array Value} {n g : Nat} (T : AgTy P ty z n) {cur cs : Array Value} {t : TypeId} (hg : w.heap[g]? = some (.cells cur t (0, 0))) (hs : cur.size = n) (hl : cs.size = n) (h1 : ∀ u ∈ cs, u.oneCell' = true) :
    (storeVar ty ⟨g, 0, none⟩ (.agg cs)).run P w = .ok () (w.setRow g cs) := by
  obtain ⟨i, hi, _, hs'⟩ := T.parts
  have hst := run_storeCells_at P g 0 t cs.toList 0 cur w hg (by simp; omega) (by intro v hv; exact h1 v (by simpa using hv))
  simp only [Nat.zero_add, List.take_zero, List.nil_append, Array.length_toList] at hst
  rw [List.drop_of_length_le (by simp; omega), List.append_nil, Array.toArray_toList] at hst
  simp [storeVar, sizeOf, typeInfo, hi, hs', Value.cells, hl, hst]
theorem setRow_alloc (w : World) (cur cs : Array Value) (t : TypeId) : (w.alloc (.cells cur t)).setRow w.heap.size cs = w.alloc (.cells cs t) := by
  unfold World.setRow World.alloc
  congr 1
  apply Array.ext
  · simp
  · intro i h1 h2
    have hi : i < w.heap.size + 1 := by simpa using h2
    by_cases he : i = w.heap.size
    · subst he; simp [Array.getElem_modify]
    · have hlt : i < w.heap.size := by omega
      have hne : ¬ w.heap.size = i := fun e => he e.symm
      simp [Array.getElem_modify, Array.getElem_push, hlt, hne]
/-- A new variable of a struct or array type is set. -/
theorem stNew {ty : TypeId} {z : Array Value} {n : Nat} (x y : Operand) {cur cs : Array Value} (T : AgTy P ty z n) (hgd : Region.wanted o (yielded ops a.tmps) = true) (ho : o.op = .store ty x y)
    (hx : a.eval x = .pointer (some ⟨w.heap.size, 0, none⟩)) (hy : a.eval y = .agg cs) (hs : cur.size = n) (hl : cs.size = n) (h1 : ∀ u ∈ cs, u.oneCell' = true)
    (h : wpList P ops Q rest (a.put o.dst undef) (w.alloc (.cells cs ty))) : wpList P ops Q (o :: rest) a (w.alloc (.cells cur ty)) := by
  have hg : (w.alloc (.cells cur ty)).heap[w.heap.size]? = some (.cells cur ty (0, 0)) := heap_alloc_new w _
  refine wpList_want hgd fun K hK => ?_
  unfold Oper.wp execOp
  simp only [ho, hx, hy, Instr.storeAt, Instr.sureAddr, Sem.run_bind, Sem.run_pure, Result.andThen_ok, run_storeAgg T hg hs hl h1, setRow_alloc]
  exact hK _ _ h
end

/-- A slice literal of one struct or array. -/
theorem bsAgg1 {P : Program} {w : World} {ops : Array Oper} {rest : List Oper} {o : Oper} {a : Act} {Q : Exit → Act → World → Prop} {t e : TypeId} {z : Value} {size bytes : Nat} {cs : Array Value} (x : Operand)
    (T : SlTy P t e z size bytes) (hgd : Region.wanted o (yielded ops a.tmps) = true) (ho : o.op = .buildSlice t 1 #[(0, x)]) (hx : a.eval x = .agg cs) (hl : cs.size = size) (hs : size ≤ 65536)
    (h : wpList P ops Q rest (a.put o.dst (.slice (some ⟨w.heap.size, 0, none⟩) 1 1)) (w.alloc (.cells cs e))) : wpList P ops Q (o :: rest) a w := by
  obtain ⟨i, hi, hz0, hz1, hz2⟩ := info_parts T.inf
  have hpos := T.pos
  refine wpList_want hgd fun K hK => wp_buildSlice t e 1 _ ho cs i z T.und hi hz0 (by rw [hz1]; omega) (by rw [hz1]; omega) ?_ (hK _ _ h)
  rw [hz1]
  obtain ⟨r, hr, hrs, hrk⟩ := Great.fill_dense hpos [.agg cs] 0 ((Array.range (1 * size)).map (z.cells[· % z.cells.size]!)) (by intro v hv; simp at hv; subst hv; exact hl) (by simp)
  have he : r = cs := by
    apply Array.ext_getElem?
    intro k
    rw [hrk k]
    simp only [Nat.zero_mul, List.length_singleton, Nat.zero_add, Nat.one_mul]
    by_cases hk : k < size
    · rw [if_pos ⟨Nat.zero_le _, hk⟩, Nat.div_eq_of_lt hk, Nat.mod_eq_of_lt hk]
      simp [Value.cells]
    · rw [if_neg (by omega)]
      rw [Array.getElem?_eq_none (by simp; omega), Array.getElem?_eq_none (by omega)]
  rw [he] at hr
  rw [← hr]
  simp [hx]

/-- A result that lies in memory, and two more. -/
theorem res_cell3 {P : Program} {w : World} {fn : Func} {p t u : Tmp} {ty : TypeId} {z : Array Value} {n b off : Nat} (cs : List Value) (h : fn.results = #[.cell p ty, .tmp t, .tmp u]) (T : AgTy P ty z n) (tmps : Array Value)
    (hp : tmps.getD p undef = .pointer (some ⟨b, off, none⟩)) (hl : cs.length = n) (hc : ∀ j u, cs[j]? = some u → w.cell? ⟨b, off + j, none⟩ = some u) :
    (results fn tmps).run P w = .ok (.tuple #[.agg cs.toArray, tmps.getD t undef, tmps.getD u undef]) w := by
  have hr := run_loadAgg (P := P) (w := w) T b off cs hl hc
  have hp' : tmps[p]?.getD undef = .pointer (some ⟨b, off, none⟩) := by simpa using hp
  simp only [results, h]
  simp [Result.andThen, hp', asAddr, hr]
/-- One result that lies in memory. -/
theorem res_cell1 {P : Program} {w : World} {fn : Func} {p : Tmp} {ty : TypeId} {z : Array Value} {n b off : Nat} (cs : List Value) (h : fn.results = #[.cell p ty]) (T : AgTy P ty z n) (tmps : Array Value)
    (hp : tmps.getD p undef = .pointer (some ⟨b, off, none⟩)) (hl : cs.length = n) (hc : ∀ j u, cs[j]? = some u → w.cell? ⟨b, off + j, none⟩ = some u) :
    (results fn tmps).run P w = .ok (.agg cs.toArray) w := by
  have hr := run_loadAgg (P := P) (w := w) T b off cs hl hc
  have hp' : tmps[p]?.getD undef = .pointer (some ⟨b, off, none⟩) := by simpa using hp
  simp only [results, h]
  simp [hp', asAddr, hr]
theorem run_arrayAt {P : Program} (w : World) {arr e : TypeId} {n len c : Nat} {A : Option Addr} (h : P.underlying arr = some (.array n e)) (hn : n ≤ len) : (Instr.arrayAt arr (.slice A len c)).run P w = .ok (.pointer A) w := by
  have hn' : ¬ len < n := by omega
  simp [Instr.arrayAt, run_underlying h, hn']
theorem cells_new (w : World) (cs : List Value) (t : TypeId) : ∀ j u, cs[j]? = some u → (w.alloc (.cells cs.toArray t)).cell? ⟨w.heap.size, 0 + j, none⟩ = some u := by
  intro j u hu
  rw [World.cell?_alloc_at _ t w.heap.size (0 + j) rfl]
  simpa using hu

/-- A call that returns a new row. -/
def RetRow (w : World) (e : TypeId) (size n : Nat) (xs : List Value) (en : Ending) (w' : World) : Prop :=
  ∃ v, en = .returned v ∧ w'.ownsRow w.heap.size e size v n xs ∧ Below w.heap.size w w'
theorem RetRow.open {w : World} {e : TypeId} {size n : Nat} {xs : List Value} {en : Ending} {w' : World} (h : RetRow w e size n xs en w') :
    ∃ A c, en = .returned (.slice A n c) ∧ w'.ownsRow w.heap.size e size (.slice A n c) n xs ∧ Rd w' w'.heap.size size A n c xs ∧ Below w.heap.size w w' := by
  obtain ⟨v, rfl, hown, hb⟩ := h
  obtain ⟨A, c, rfl, hr⟩ := Rd.of_own hown
  exact ⟨A, c, rfl, hown, hr, hb⟩

/-- The conversion of bytes to a string. -/
theorem conv_bs {P : Program} {w : World} {B n c : Nat} {A : Option Addr} {l : List UInt8} {src e dst : TypeId} (hs : P.underlying src = some (.slice e)) (he : P.underlying e = some (.int .u8))
    (hd : P.underlying dst = some .string) (hr : Rd w B 1 A n c (bcs l)) : (convert src dst (.slice A n c)).run P w = .ok (.string ⟨l.toArray⟩) w := by
  have hl : l.length = n := by have := hr.len; simpa [bcs] using this
  by_cases hn : n = 0
  · subst hn
    have : l = [] := List.eq_nil_of_length_eq_zero hl
    subst this
    cases A with
    | none => rw [run_convert_bytes_nil w src e hs he 0 c dst hd]; rfl
    | some p =>
      rw [run_convert_bytes_string w src dst e _ 0 c hs he hd]
      simp [Conv.bytesToString, loadCells, loadCellsFrom]
      rfl
  · obtain ⟨b, off, rfl, _, hc⟩ := hr.cells (by omega)
    have := run_convert_bytes_arg (P := P) w src e hs he b off n c (l.map fun x => (x.toNat : Int)) (by simpa using hl) (fun i hi => by
      have hi' : i < l.length := by omega
      refine hc i _ ?_
      simp [bcs, bc, hi', List.getD]) dst hd
    rw [this]
    congr 2
    unfold strOfNums
    congr 2
    rw [List.map_map]
    congr 1
    refine (List.map_congr_left (g := id) fun x _ => ?_).trans (List.map_id l)
    simp

/-- The same at the operation. -/
theorem convStr {P : Program} {w : World} {ops : Array Oper} {rest : List Oper} {o : Oper} {a : Act} {Q : Exit → Act → World → Prop}
    {B n c : Nat} {A : Option Addr} {src e dst : TypeId} (x : Operand) (l : List UInt8) (hs : P.underlying src = some (.slice e)) (he : P.underlying e = some (.int .u8))
    (hd : P.underlying dst = some .string) (hgd : Region.wanted o (yielded ops a.tmps) = true) (ho : o.op = .convert src dst x) (hx : a.eval x = .slice A n c) (hr : Rd w B 1 A n c (bcs l))
    (h : wpList P ops Q rest (a.put o.dst (.string ⟨l.toArray⟩)) w) : wpList P ops Q (o :: rest) a w := by
  refine wpList_want hgd fun K hK => ?_
  unfold Oper.wp execOp
  simp only [ho, hx, Sem.run_bind, Sem.run_pure, conv_bs hs he hd hr, Result.andThen_ok]
  exact hK _ _ h

section
variable {P : Program} {w : World} {ops : Array Oper} {rest : List Oper} {o : Oper} {a : Act} {Q : Exit → Act → World → Prop}
/-- 's[lo:hi]' of a slice that reads as xs: some slice that reads as the part. -/
theorem slLH {t e : TypeId} {z : Value} {size bytes B n c : Nat} {A : Option Addr} {xs : List Value} {kl kh : IntKind} {L H : Int} (x l h : Operand) (U V : Nat) (T : SlTy P t e z size bytes) (hgd : Region.wanted o (yielded ops a.tmps) = true)
    (ho : o.op = .slice t x (some l) (some h) none) (hx : a.eval x = .slice A n c) (hl : a.eval l = .int kl L) (hh : a.eval h = .int kh H) (hr : Rd w B size A n c xs)
    (hL : L = (U : Int)) (hH : H = (V : Int)) (h1 : U ≤ V) (h2 : V ≤ n)
    (hK : ∀ A', Rd w B size A' (V - U) (c - U) ((xs.drop (U * size)).take ((V - U) * size)) → wpList P ops Q rest (a.put o.dst (.slice A' (V - U) (c - U))) w) : wpList P ops Q (o :: rest) a w := by
  obtain ⟨i, hi, hz0, hz1, hz2⟩ := info_parts T.inf
  subst hL; subst hH
  have hle := hr.le
  have ht : P.underlying t = some (.slice (P.elem t)) := by rw [T.und]; simp [Program.elem, T.und]
  have he : P.elem t = e := by have := T.und; rw [this] at ht; injection ht with ht; injection ht with ht; exact ht.symm
  have hrun := run_slice_lh (P := P) w t A n c ht kl kh (U : Int) (V : Int) (by omega) (by omega) (by omega)
  have hcut := hr.cut (lo := U) (hi := V) (m := c) (by omega) (by omega) (by omega) (by omega)
  refine wpList_want hgd fun K hK' => ?_
  unfold Oper.wp execOp
  simp only [ho, hx, hl, hh, Option.map_some, Option.map_none, Sem.run_bind, Sem.run_pure, run_sliceAt_slice w t _ _ _ _ ht, hrun, he, sizeOf, typeInfo, Int.toNat_natCast, sliced]
  simp [hi, hz1]
  exact hK' _ _ (hK _ (by simpa using hcut))
/-- 's[lo:]'. -/
theorem slL {t e : TypeId} {z : Value} {size bytes B n c : Nat} {A : Option Addr} {xs : List Value} {kl : IntKind} {L : Int} (x l : Operand) (U : Nat) (T : SlTy P t e z size bytes) (hgd : Region.wanted o (yielded ops a.tmps) = true)
    (ho : o.op = .slice t x (some l) none none) (hx : a.eval x = .slice A n c) (hl : a.eval l = .int kl L) (hr : Rd w B size A n c xs)
    (hL : L = (U : Int)) (h1 : U ≤ n)
    (hK : ∀ A', Rd w B size A' (n - U) (c - U) ((xs.drop (U * size)).take ((n - U) * size)) → wpList P ops Q rest (a.put o.dst (.slice A' (n - U) (c - U))) w) : wpList P ops Q (o :: rest) a w := by
  obtain ⟨i, hi, hz0, hz1, hz2⟩ := info_parts T.inf
  subst hL
  have hle := hr.le
  have ht : P.underlying t = some (.slice (P.elem t)) := by rw [T.und]; simp [Program.elem, T.und]
  have he : P.elem t = e := by have := T.und; rw [this] at ht; injection ht with ht; injection ht with ht; exact ht.symm
  have hrun := run_slice_l (P := P) w t A n c ht kl (U : Int) (by omega) (by omega)
  have hcut := hr.cut (lo := U) (hi := n) (m := c) (by omega) (by omega) (by omega) (by omega)
  refine wpList_want hgd fun K hK' => ?_
  unfold Oper.wp execOp
  simp only [ho, hx, hl, Option.map_some, Option.map_none, Sem.run_bind, Sem.run_pure, run_sliceAt_slice w t _ _ _ _ ht, hrun, he, sizeOf, typeInfo, Int.toNat_natCast, sliced]
  simp [hi, hz1]
  exact hK' _ _ (hK _ (by simpa using hcut))
/-- 's[:hi]'. -/
theorem slH {t e : TypeId} {z : Value} {size bytes B n c : Nat} {A : Option Addr} {xs : List Value} {kh : IntKind} {H : Int} (x h : Operand) (V : Nat) (T : SlTy P t e z size bytes) (hgd : Region.wanted o (yielded ops a.tmps) = true)
    (ho : o.op = .slice t x none (some h) none) (hx : a.eval x = .slice A n c) (hh : a.eval h = .int kh H) (hr : Rd w B size A n c xs)
    (hH : H = (V : Int)) (h2 : V ≤ n)
    (hK : ∀ A', Rd w B size A' V c (xs.take (V * size)) → wpList P ops Q rest (a.put o.dst (.slice A' V c)) w) : wpList P ops Q (o :: rest) a w := by
  obtain ⟨i, hi, hz0, hz1, hz2⟩ := info_parts T.inf
  subst hH
  have hle := hr.le
  have ht : P.underlying t = some (.slice (P.elem t)) := by rw [T.und]; simp [Program.elem, T.und]
  have he : P.elem t = e := by have := T.und; rw [this] at ht; injection ht with ht; injection ht with ht; exact ht.symm
  have hrun := run_slice_h (P := P) w t A n c ht kh (V : Int) (by omega) (by omega)
  have hcut := hr.cut (lo := 0) (hi := V) (m := c) (by omega) (by omega) (by omega) (by omega)
  simp only [Nat.sub_zero, Nat.zero_mul, List.drop_zero] at hcut
  refine wpList_want hgd fun K hK' => ?_
  unfold Oper.wp execOp
  simp only [ho, hx, hh, Option.map_some, Option.map_none, Sem.run_bind, Sem.run_pure, run_sliceAt_slice w t _ _ _ _ ht, hrun, he, sizeOf, typeInfo, Int.toNat_natCast, sliced]
  simp [hi, hz1]
  exact hK' _ _ (hK _ (by simpa using hcut))
/-- 's[:hi:max]'. -/
theorem slHM {t e : TypeId} {z : Value} {size bytes B n c : Nat} {A : Option Addr} {xs : List Value} {kh km : IntKind} {H M : Int} (x h m : Operand) (V W : Nat) (T : SlTy P t e z size bytes) (hgd : Region.wanted o (yielded ops a.tmps) = true)
    (ho : o.op = .slice t x none (some h) (some m)) (hx : a.eval x = .slice A n c) (hh : a.eval h = .int kh H) (hm : a.eval m = .int km M) (hr : Rd w B size A n c xs)
    (hH : H = (V : Int)) (hM : M = (W : Int)) (h2 : V ≤ n) (h3 : V ≤ W) (h4 : W ≤ c)
    (hK : ∀ A', Rd w B size A' V W (xs.take (V * size)) → wpList P ops Q rest (a.put o.dst (.slice A' V W)) w) : wpList P ops Q (o :: rest) a w := by
  obtain ⟨i, hi, hz0, hz1, hz2⟩ := info_parts T.inf
  subst hH; subst hM
  have hle := hr.le
  have ht : P.underlying t = some (.slice (P.elem t)) := by rw [T.und]; simp [Program.elem, T.und]
  have he : P.elem t = e := by have := T.und; rw [this] at ht; injection ht with ht; injection ht with ht; exact ht.symm
  have hrun := run_slice_hm (P := P) w t A n c ht kh km (V : Int) (W : Int) (by omega) (by omega) (by omega)
  have hcut := hr.cut (lo := 0) (hi := V) (m := W) (by omega) (by omega) (by omega) (by omega)
  simp only [Nat.sub_zero, Nat.zero_mul, List.drop_zero] at hcut
  refine wpList_want hgd fun K hK' => ?_
  unfold Oper.wp execOp
  simp only [ho, hx, hh, hm, Option.map_some, Option.map_none, Sem.run_bind, Sem.run_pure, run_sliceAt_slice w t _ _ _ _ ht, hrun, he, sizeOf, typeInfo, Int.toNat_natCast, sliced]
  simp [hi, hz1]
  exact hK' _ _ (hK _ (by simpa using hcut))
/-- 's[lo:hi:max]'. -/
theorem slLHM {t e : TypeId} {z : Value} {size bytes B n c : Nat} {A : Option Addr} {xs : List Value} {kl kh km : IntKind} {L H M : Int} (x l h m : Operand) (U V W : Nat) (T : SlTy P t e z size bytes) (hgd : Region.wanted o (yielded ops a.tmps) = true)
    (ho : o.op = .slice t x (some l) (some h) (some m)) (hx : a.eval x = .slice A n c) (hl : a.eval l = .int kl L) (hh : a.eval h = .int kh H) (hm : a.eval m = .int km M) (hr : Rd w B size A n c xs)
    (hL : L = (U : Int)) (hH : H = (V : Int)) (hM : M = (W : Int)) (h1 : U ≤ V) (h2 : V ≤ n) (h3 : V ≤ W) (h4 : W ≤ c)
    (hK : ∀ A', Rd w B size A' (V - U) (W - U) ((xs.drop (U * size)).take ((V - U) * size)) → wpList P ops Q rest (a.put o.dst (.slice A' (V - U) (W - U))) w) : wpList P ops Q (o :: rest) a w := by
  obtain ⟨i, hi, hz0, hz1, hz2⟩ := info_parts T.inf
  subst hL; subst hH; subst hM
  have hle := hr.le
  have ht : P.underlying t = some (.slice (P.elem t)) := by rw [T.und]; simp [Program.elem, T.und]
  have he : P.elem t = e := by have := T.und; rw [this] at ht; injection ht with ht; injection ht with ht; exact ht.symm
  have hrun := run_slice_lhm (P := P) w t A n c ht kl kh km (U : Int) (V : Int) (W : Int) (by omega) (by omega) (by omega) (by omega)
  have hcut := hr.cut (lo := U) (hi := V) (m := W) (by omega) (by omega) (by omega) (by omega)
  refine wpList_want hgd fun K hK' => ?_
  unfold Oper.wp execOp
  simp only [ho, hx, hl, hh, hm, Option.map_some, Sem.run_bind, Sem.run_pure, run_sliceAt_slice w t _ _ _ _ ht, hrun, he, sizeOf, typeInfo, Int.toNat_natCast, sliced]
  simp [hi, hz1]
  exact hK' _ _ (hK _ (by simpa using hcut))
end
end Go.Proofs.YtienlndjhcmemaaDoor
/-
  Plain laws on Go's bit operations: what they are on numbers. No program in sight.
-/
namespace Go.Proofs.YtienlndjhcmemaaDoor
open Go.RowKit

theorem nat_xor_ones (k a : Nat) (h : a < 2 ^ k) : a ^^^ (2 ^ k - 1) = 2 ^ k - 1 - a := by
  have e : (BitVec.ofNat k a ^^^ BitVec.allOnes k) = ~~~ BitVec.ofNat k a := by
    apply BitVec.eq_of_getLsbD_eq
    intro i hi
    simp [hi]
  have := congrArg BitVec.toNat e
  rw [BitVec.toNat_xor, BitVec.toNat_not, BitVec.toNat_allOnes, BitVec.toNat_ofNat, Nat.mod_eq_of_lt h] at this
  exact this
theorem nat_or_shift (a b i : Nat) (h : a < 2 ^ i) : a ||| b * 2 ^ i = a + b * 2 ^ i := by
  rw [Nat.or_comm, ← Nat.shiftLeft_eq, ← Nat.shiftLeft_add_eq_or_of_lt h, Nat.add_comm]
theorem ofInt_i64 (a : Nat) (ha : a < 9223372036854775808) : (BitVec.ofInt 64 (a : Int)).toNat = a := by
  rw [BitVec.ofInt_natCast, BitVec.toNat_ofNat]; exact Nat.mod_eq_of_lt (by omega)
theorem i64_and_n (a b : Nat) (ha : a < 9223372036854775808) (hb : b < 9223372036854775808) : bits .and .i64 (a : Int) (b : Int) = ((a &&& b : Nat) : Int) := by
  have hx : a &&& b < 2 ^ 63 := Nat.and_lt_two_pow _ (by omega)
  show IntKind.i64.wrap ((BitVec.ofInt 64 (a : Int) &&& BitVec.ofInt 64 (b : Int)).toNat : Int) = _
  rw [BitVec.toNat_and, ofInt_i64 a ha, ofInt_i64 b hb, IntKind.wrap_i64]
  omega
theorem i64_or_n (a b : Nat) (ha : a < 9223372036854775808) (hb : b < 9223372036854775808) : bits .or .i64 (a : Int) (b : Int) = ((a ||| b : Nat) : Int) := by
  have hx : a ||| b < 2 ^ 63 := Nat.or_lt_two_pow (by omega) (by omega)
  show IntKind.i64.wrap ((BitVec.ofInt 64 (a : Int) ||| BitVec.ofInt 64 (b : Int)).toNat : Int) = _
  rw [BitVec.toNat_or, ofInt_i64 a ha, ofInt_i64 b hb, IntKind.wrap_i64]
  omega
theorem i64_xor_n (a b : Nat) (ha : a < 9223372036854775808) (hb : b < 9223372036854775808) : bits .xor .i64 (a : Int) (b : Int) = ((a ^^^ b : Nat) : Int) := by
  have hx : a ^^^ b < 2 ^ 63 := Nat.xor_lt_two_pow (by omega) (by omega)
  show IntKind.i64.wrap ((BitVec.ofInt 64 (a : Int) ^^^ BitVec.ofInt 64 (b : Int)).toNat : Int) = _
  rw [BitVec.toNat_xor, ofInt_i64 a ha, ofInt_i64 b hb, IntKind.wrap_i64]
  omega
/-- 'x ^ -1' of an int. -/
theorem i64_xor_m1 (a : Int) (h1 : -9223372036854775808 ≤ a) (h2 : a ≤ 9223372036854775807) : bits .xor .i64 a (-1) = -1 - a := by
  show IntKind.i64.wrap ((BitVec.ofInt 64 a ^^^ BitVec.ofInt 64 (-1)).toNat : Int) = _
  have e : (BitVec.ofInt 64 (-1)) = BitVec.allOnes 64 := by decide
  have e2 : BitVec.ofInt 64 a ^^^ BitVec.allOnes 64 = ~~~ BitVec.ofInt 64 a := BitVec.xor_allOnes
  rw [e, e2, BitVec.toNat_not, BitVec.toNat_ofInt, IntKind.wrap_i64]
  omega
theorem u64_xor_n (a b : Nat) (ha : a < 18446744073709551616) (hb : b < 18446744073709551616) : bits .xor .u64 (a : Int) (b : Int) = ((a ^^^ b : Nat) : Int) := u64_xor_nat a b ha hb
theorem u8_and127 (a : UInt8) : bits .and .u8 (a.toNat : Int) 127 = ((a.toNat % 128 : Nat) : Int) := by
  have h := u8_and_nat a.toNat 127 (by have := a.toNat_lt; omega) (by omega)
  have e : a.toNat &&& 127 = a.toNat % 128 := Nat.and_two_pow_sub_one_eq_mod a.toNat 7
  rw [← e]; exact h
theorem u8_or_128 (m : Nat) : bits .or .u8 ((m : Int) % 256) 128 = ((m % 128 + 128 : Nat) : Int) := by
  have h := u8_or_nat (m % 256) 128 (by omega) (by omega)
  have e : m % 256 ||| 128 = m % 128 + 128 := by
    have h1 : m % 256 = m % 128 + (m / 128 % 2) * 2 ^ 7 := by omega
    rw [h1, ← nat_or_shift (m % 128) (m / 128 % 2) 7 (by omega), Nat.or_assoc]
    have h2 : (m / 128 % 2) * 2 ^ 7 ||| 128 = 128 := by
      rcases Nat.mod_two_eq_zero_or_one (m / 128) with h | h <;> rw [h] <;> decide
    rw [h2]
    exact nat_or_shift (m % 128) 1 7 (by omega)
  rw [← e]
  have c : ((m % 256 : Nat) : Int) = (m : Int) % 256 := by omega
  rw [← c]
  exact h
end Go.Proofs.YtienlndjhcmemaaDoor
/-
  Laws for a region that draws its order and only reads: one operation with a known value; a struct or array loaded whole; byte arrays compared. No statement is proved here.
-/
namespace Go.Proofs.YtienlndjhcmemaaDoor
open Go.RowKit

section
variable {P : Program} {w : World} {ops : Array Oper} {rest : List Oper} {o : Oper} {a : Act} {Q : Act → Prop}
theorem qVal {C : World → Prop} {v : Value} (hg : o.guard = none) (h : ∀ w', C w' → (execOp a.eval o).run P w' = .ok (.value v) w') (hk : wpQuiet P ops C Q rest (a.put o.dst v)) : wpQuiet P ops C Q (o :: rest) a := by
  refine wpQuiet_step fun K hK => ?_
  rw [if_pos (by simp [Region.wanted, hg])]
  refine ⟨v, fun w' hw' => ?_, hK _ hk⟩
  unfold Oper.quietAt
  rw [h w' hw']
  exact ⟨rfl, rfl⟩
theorem qLdAgg {ty : TypeId} {z : Array Value} {n b off : Nat} (x : Operand) (cs : List Value) (T : AgTy P ty z n) (hg : o.guard = none) (ho : o.op = .load ty x)
    (hx : a.eval x = .pointer (some ⟨b, off, none⟩)) (hl : cs.length = n) (hc : ∀ j u, cs[j]? = some u → w.cell? ⟨b, off + j, none⟩ = some u)
    (hk : wpQuiet P ops (fun w' => ∃ n, w' = w.drewN n) Q rest (a.put o.dst (.agg cs.toArray))) : wpQuiet P ops (fun w' => ∃ n, w' = w.drewN n) Q (o :: rest) a := by
  refine qVal hg (fun w' hw' => ?_) hk
  obtain ⟨m, rfl⟩ := hw'
  have hr := run_loadAgg (P := P) (w := w.drewN m) T b off cs hl (fun j u hj => (hc j u hj))
  unfold execOp
  simp only [ho, hx, Instr.loadAt, Instr.sureAddr, Sem.run_bind, Sem.run_pure, Result.andThen_ok, hr]
theorem run_eqBytes {t e : TypeId} {n : Nat} (w : World) (ht : P.underlying t = some (.array n e)) (he : P.underlying e = some (.int .u8)) (hs : (P.info? e).map (·.size) = some 1) (xs ys : List UInt8) (hx : xs.length = n) (hy : ys.length = n) :
    (Op.equalIn 10000 t (.agg (bcs xs).toArray) (.agg (bcs ys).toArray)).run P w = .ok (xs == ys) w := by
  obtain ⟨i, hi, hsz⟩ := Option.map_eq_some_iff.1 hs
  exact run_equalIn_bytes w 9998 t e n ht he (fun w => by simp [sizeOf, typeInfo, hi, hsz]) xs ys hx hy
theorem qNeqBytes {t e : TypeId} {n : Nat} (x y : Operand) (xs ys : List UInt8) (ht : P.underlying t = some (.array n e)) (he : P.underlying e = some (.int .u8)) (hs : (P.info? e).map (·.size) = some 1) (hq : P.eqGuardType P.depth t = false)
    (hg : o.guard = none) (ho : o.op = .binOp .neq t x y t) (hxv : a.eval x = .agg (bcs xs).toArray) (hyv : a.eval y = .agg (bcs ys).toArray) (hx : xs.length = n) (hy : ys.length = n)
    (hk : wpQuiet P ops (fun w' => ∃ n, w' = w.drewN n) Q rest (a.put o.dst (.bool (!(xs == ys))))) : wpQuiet P ops (fun w' => ∃ n, w' = w.drewN n) Q (o :: rest) a := by
  refine qVal hg (fun w' _ => ?_) hk
  have hr := run_eqBytes (P := P) w' ht he hs xs ys hx hy
  unfold execOp
  simp only [ho, hxv, hyv]
  simp [eqGuard, hq, run_neq_struct, hr]
end
end Go.Proofs.YtienlndjhcmemaaDoor
/-
  append onto a slice without spare room: what it reads as afterwards. No statement is proved here.
-/
namespace Go.Proofs.YtienlndjhcmemaaDoor
open Go.RowKit

theorem rd_row (w : World) (cs : Array Value) (t : TypeId) (size n c : Nat) (xs : List Value) (hl : xs.length = n * size) (hn : n ≤ c) (hc : c ≤ maxLen) (hx : ∀ (j : Nat) (u : Value), xs[j]? = some u → cs[j]? = some u) :
    Rd (w.alloc (.cells cs t)) (w.heap.size + 1) size (some ⟨w.heap.size, 0, none⟩) n c xs := by
  refine ⟨hl, hn, hc, fun _ => ⟨w.heap.size, 0, rfl, by omega, fun j u hu => ?_⟩⟩
  rw [World.cell?_alloc_at _ t w.heap.size (0 + j) rfl, Nat.zero_add]
  exact hx j u hu

/-- 'append(s[:n:n], ys...)', n not 0. -/
theorem appFull {P : Program} {w w0 : World} {ops : Array Oper} {rest : List Oper} {o : Oper} {a : Act} {Q : Exit → Act → World → Prop} {t e : TypeId} {z : Value} {size bytes B B' n m c' : Nat} {A A' : Option Addr} {xs ys : List Value} (s x : Operand) (T : SlTy P t e z size bytes)
    (hgd : Region.wanted o (yielded ops a.tmps) = true) (ho : o.op = .call { callee := .builtin .append, args := #[s, x], argTypes := #[t, t] })
    (hs : a.eval s = .slice A n n) (hx : a.eval x = .slice A' m c') (hr : Rd w B size A n n xs) (hr' : Rd w B' size A' m c' ys) (hB : B ≤ w.heap.size) (hb : Below w0.heap.size w0 w)
    (h0 : 0 < n) (hn : n + m ≤ 70368744177664) (hby : (n + m) * bytes ≤ 140737488355328)
    (h : ∀ A3 c3 w', Rd w' w'.heap.size size A3 (n + m) c3 (xs ++ ys) → Below w0.heap.size w0 w' → Below w.heap.size w w' → wpList P ops Q rest (a.put o.dst (.slice A3 (n + m) c3)) w') : wpList P ops Q (o :: rest) a w := by
  obtain ⟨i, hi, hz0, hz1, hz2⟩ := info_parts T.inf
  have hpos := T.pos
  obtain ⟨b, off, rfl, hbB, hc⟩ := hr.cells (Nat.mul_pos h0 hpos)
  by_cases hm : m = 0
  · subst hm
    have hy : ys = [] := List.eq_nil_of_length_eq_zero (by have := hr'.len; simpa using this)
    subst hy
    have hrun : (Builtin.append_ #[t, t] o.type #[.slice (some ⟨b, off, none⟩) n n, .slice A' 0 c']).run P w = .ok (.slice (some ⟨b, off, none⟩) n n) w := by
      cases A' <;> simp [Builtin.append_, run_underlying T.und, sizeOf, typeInfo, hi, Builtin.lenOf, Builtin.firstCells, storeCells, loadCells, loadCellsFrom]
    refine wpList_want hgd fun K hK => ?_
    unfold Oper.wp execOp
    simp only [ho, resolve, invoke, builtin, Sem.run_bind, Sem.run_pure, Result.andThen_ok, List.map_toArray, List.map_cons, List.map_nil, hs, hx, hrun]
    exact hK _ _ (h _ n w (by simpa using hr.more hB) hb (Below.refl _ _))
  · obtain ⟨b', off', rfl, hbB', hc'⟩ := hr'.cells (Nat.mul_pos (by omega) hpos)
    have hadd : ∀ (b off j : Nat), (⟨b, off, none⟩ : Addr).add j = ⟨b, off + j, none⟩ := by intro b off j; unfold Addr.add; split <;> simp_all
    have hrun := run_append_grow (P := P) w t o.type e i z T.und hi hz0 ⟨b, off, none⟩ n n xs (by rw [hz1]; exact hr.len) (fun j v hj => by rw [hadd]; exact hc j v hj)
      ⟨b', off', none⟩ m c' ys (by rw [hz1]; exact hr'.len) (fun j v hj => by rw [hadd]; exact hc' j v hj) (by omega) (by omega) (growslice_fits (by omega) (by rw [hz2]; exact hby))
    refine wpList_want hgd fun K hK => ?_
    unfold Oper.wp execOp
    simp only [ho, resolve, invoke, builtin, Sem.run_bind, Sem.run_pure, Result.andThen_ok, List.map_toArray, List.map_cons, List.map_nil, hs, hx, hrun]
    have hbw : Below w.heap.size w (w.drew.alloc (.cells (xs.toArray ++ ys.toArray ++ Builtin.zeroCells z.cells (grownCap w (n + m) n e - (n + m))) e)) := ((Below.refl _ _).drew).alloc (Nat.le_refl _) _
    refine hK _ _ (h _ _ _ ?_ (hb.trans (hbw.mono hb.size)) hbw)
    have hrr := rd_row w.drew (xs.toArray ++ ys.toArray ++ Builtin.zeroCells z.cells (grownCap w (n + m) n e - (n + m))) e size (n + m) (grownCap w (n + m) n e) (xs ++ ys)
      (by rw [List.length_append, hr.len, hr'.len, Nat.add_mul]) (grownCap_ge w (n + m) n e) (grownCap_le_maxLen w (n + m) n e (by unfold maxLen; omega))
      (fun j u hu => by
        have hj := (List.getElem?_eq_some_iff.1 hu).1
        rw [Array.getElem?_append_left (by simpa using hj), List.append_toArray]
        simpa using hu)
    exact hrr.more (by simp)
end Go.Proofs.YtienlndjhcmemaaDoor
/-
  A slice literal whose elements take one cell each: what it reads as. No statement is proved here.
-/
namespace Go.Proofs.YtienlndjhcmemaaDoor
open Go.RowKit

theorem bsRow {P : Program} {w : World} {ops : Array Oper} {rest : List Oper} {o : Oper} {a : Act} {Q : Exit → Act → World → Prop} {t e : TypeId} {z : Value} {bytes len : Nat} {parts : Array (Nat × Operand)} (vs : List Value)
    (T : SlTy P t e z 1 bytes) (hgd : Region.wanted o (yielded ops a.tmps) = true) (ho : o.op = .buildSlice t len parts) (hev : (parts.map fun (i, x) => (i, a.eval x)).toList = (vs.zipIdx 0).map fun x => (x.2, x.1))
    (hlen : vs.length = len) (h0 : 0 < len) (hs : len ≤ 65536) (hone : ∀ v ∈ vs, v.cells = #[v])
    (h : ∀ A w', Rd w' w'.heap.size 1 A len len vs → Below w.heap.size w w' → wpList P ops Q rest (a.put o.dst (.slice A len len)) w') : wpList P ops Q (o :: rest) a w := by
  obtain ⟨i, hi, hz0, hz1, hz2⟩ := info_parts T.inf
  obtain ⟨r, hr, hrs, hrk⟩ := Great.fill_dense (s := 1) (by omega) vs 0 ((Array.range (len * 1)).map (z.cells[· % z.cells.size]!)) (by intro v hv; rw [hone v hv]; rfl) (by simp; omega)
  have he : r = vs.toArray := by
    apply Array.ext_getElem?
    intro k
    rw [hrk k]
    simp only [Nat.zero_mul, Nat.zero_add, Nat.mul_one, Nat.div_one, Nat.sub_zero, Nat.mod_one, List.getElem?_toArray]
    by_cases hk : k < vs.length
    · rw [if_pos ⟨Nat.zero_le _, hk⟩, List.getElem?_eq_getElem hk]
      have := hone _ (List.getElem_mem hk)
      simp [this]
    · rw [if_neg (by omega), List.getElem?_eq_none (by omega)]
      rw [Array.getElem?_eq_none (by simp; omega)]
  subst he
  refine wpList_want hgd fun K hK => wp_buildSlice t e len parts ho vs.toArray i z T.und hi hz0 (by rw [hz1]; omega) (by rw [hz1]; omega) ?_ (hK _ _ (h _ _ ?_ ((Below.refl _ _).alloc (Nat.le_refl _) _)))
  · rw [hz1, hev]; exact hr
  · exact ⟨by omega, Nat.le_refl _, by unfold maxLen; omega, fun _ => ⟨w.heap.size, 0, rfl, by simp, cells_new w vs e⟩⟩
end Go.Proofs.YtienlndjhcmemaaDoor
/-
  An array variable in memory: a block of its own, with what it holds. No statement is proved here.
-/
namespace Go.Proofs.YtienlndjhcmemaaDoor
open Go.RowKit

/-- Block b holds an array (or what a struct is made of) with the cells cur. -/
def Arr (w : World) (b : Nat) (t : TypeId) (cur : List Value) : Prop := w.heap[b]? = some (.cells cur.toArray t (0, 0))
section
variable {w w' : World} {b b' i : Nat} {t : TypeId} {cur : List Value} {v : Value}
theorem Arr.cell (h : Arr w b t cur) (hi : cur[i]? = some v) : w.cell? ⟨b, i, none⟩ = some v := by
  unfold World.cell?
  rw [show w.heap[(⟨b, i, none⟩ : Addr).block]? = some (.cells cur.toArray t (0, 0)) from h]
  simpa using hi
theorem Arr.thaw (h : Arr w b t cur) (i : Nat) : w.frozen? ⟨b, i, none⟩ = false := by
  unfold World.frozen?
  rw [show w.heap[(⟨b, i, none⟩ : Addr).block]? = some (.cells cur.toArray t (0, 0)) from h]
  simp
theorem Arr.lt (h : Arr w b t cur) : b < w.heap.size := (Array.getElem?_eq_some_iff.1 h).1
theorem Arr.drew (h : Arr w b t cur) : Arr w.drew b t cur := h
theorem Arr.drewN (h : Arr w b t cur) (n : Nat) : Arr (w.drewN n) b t cur := h
theorem Arr.new (w : World) (t : TypeId) (cur : List Value) : Arr (w.alloc (.cells cur.toArray t)) w.heap.size t cur := heap_alloc_new w _
theorem Arr.alloc (h : Arr w b t cur) (o : Obj) : Arr (w.alloc o) b t cur := by
  have hb := h.lt
  unfold Arr at h ⊢
  rw [← h]
  unfold World.alloc
  simp [Array.getElem?_push, Nat.ne_of_lt hb]
theorem Arr.set (h : Arr w b t cur) (i : Nat) (v : Value) : Arr (w.setCell ⟨b, i, none⟩ v) b t (cur.set i v) := by
  unfold Arr at h ⊢
  unfold World.setCell
  simp [Array.getElem?_modify, h]
theorem Arr.other (h : Arr w b t cur) (hne : b' ≠ b) (i : Nat) (v : Value) : Arr (w.setCell ⟨b', i, none⟩ v) b t cur := by
  unfold Arr at h ⊢
  unfold World.setCell
  simp [Array.getElem?_modify, hne, h]
theorem Arr.below {B : Nat} (h : Arr w b t cur) (hb : Below B w w') (hB : b < B) : Arr w' b t cur := by
  unfold Arr at h ⊢
  rw [← h]
  exact hb.block b hB
theorem Arr.setRow (h : Arr w b t cur) (cs : List Value) : Arr (w.setRow b cs.toArray) b t cs := setRow_heap w b _ _ t _ h
theorem Arr.setRow_other (h : Arr w b t cur) (hne : b' ≠ b) (cs : List Value) : Arr (w.setRow b' cs.toArray) b t cur := by
  unfold Arr at h ⊢
  unfold World.setRow
  simp [Array.getElem?_modify, hne, h]
theorem below_setRow {B : Nat} (w : World) (hB : B ≤ b) (cs : Array Value) : Below B w (w.setRow b cs) := by
  refine ⟨rfl, rfl, rfl, by unfold World.setRow; simp, fun k hk => ?_⟩
  unfold World.setRow
  have : b ≠ k := by omega
  simp [Array.getElem?_modify, this]
end
section
variable {P : Program} {w : World} {ops : Array Oper} {rest : List Oper} {o : Oper} {a : Act} {Q : Exit → Act → World → Prop} {ty : TypeId} {n b : Nat}
/-- A new variable of a struct or array type, in a world of which nothing else is told. -/
theorem alArr {z : List Value} (T : AgTy P ty z.toArray n) (hgd : Region.wanted o (yielded ops a.tmps) = true) (ho : o.op = .alloc ty)
    (h : ∀ w', Arr w' w.heap.size ty z → Below w.heap.size w w' → wpList P ops Q rest (a.put o.dst (.pointer (some ⟨w.heap.size, 0, none⟩))) w') : wpList P ops Q (o :: rest) a w :=
  alAgg T hgd ho (h _ (Arr.new w ty z) ((Below.refl _ _).alloc (Nat.le_refl _) _))
theorem ldArr {z : Array Value} {cur : List Value} (x : Operand) (T : AgTy P ty z n) (hgd : Region.wanted o (yielded ops a.tmps) = true) (ho : o.op = .load ty x)
    (hx : a.eval x = .pointer (some ⟨b, 0, none⟩)) (hl : cur.length = n) {t : TypeId} (hA : Arr w b t cur)
    (h : wpList P ops Q rest (a.put o.dst (.agg cur.toArray)) w) : wpList P ops Q (o :: rest) a w :=
  ldAgg x cur T hgd ho hx hl (fun j u hu => by rw [Nat.zero_add]; exact hA.cell hu) h
/-- A variable of a struct or array type is set. -/
theorem stArr {z : Array Value} {cur cs : List Value} (x y : Operand) (T : AgTy P ty z n) (hgd : Region.wanted o (yielded ops a.tmps) = true) (ho : o.op = .store ty x y)
    (hx : a.eval x = .pointer (some ⟨b, 0, none⟩)) (hy : a.eval y = .agg cs.toArray) {t : TypeId} (hA : Arr w b t cur) (hs : cur.length = n) (hl : cs.length = n) (h1 : ∀ u ∈ cs, u.oneCell' = true)
    (h : ∀ w', Arr w' b t cs → (∀ b' t' c', b' ≠ b → Arr w b' t' c' → Arr w' b' t' c') → (∀ B, B ≤ b → Below B w w') → wpList P ops Q rest (a.put o.dst undef) w') : wpList P ops Q (o :: rest) a w := by
  refine wpList_want hgd fun K hK => ?_
  unfold Oper.wp execOp
  simp only [ho, hx, hy, Instr.storeAt, Instr.sureAddr, Sem.run_bind, Sem.run_pure, Result.andThen_ok, run_storeAgg T hA (by rw [List.size_toArray]; exact hs) (by rw [List.size_toArray]; exact hl) (by intro u hu; exact h1 u (by simpa using hu))]
  exact hK _ _ (h _ (hA.setRow cs) (fun b' t' c' hne hA' => hA'.setRow_other (fun e => hne e.symm) cs) (fun B hB => below_setRow w hB _))
/-- A parameter of a struct or array type, boxed. -/
theorem bxArr {cs : List Value} {ty : TypeId} (x : Operand) (hgd : Region.wanted o (yielded ops a.tmps) = true) (ho : o.op = .box ty x) (hx : a.eval x = .agg cs.toArray)
    (h : ∀ w', Arr w' w.heap.size ty cs → Below w.heap.size w w' → wpList P ops Q rest (a.put o.dst (.pointer (some ⟨w.heap.size, 0, none⟩))) w') : wpList P ops Q (o :: rest) a w := by
  refine wpList_want hgd fun K hK => ?_
  unfold Oper.wp execOp
  have hr : (Instr.box ty (.agg cs.toArray)).run P w = .ok (.pointer (some ⟨w.heap.size, 0, none⟩)) (w.alloc (.cells cs.toArray ty)) := by
    simp [Instr.box, newVar, newRow, Value.cells]
  simp only [ho, hx, Sem.run_bind, Sem.run_pure, hr, Result.andThen_ok]
  exact hK _ _ (h _ (Arr.new w ty cs) ((Below.refl _ _).alloc (Nat.le_refl _) _))
/-- A parameter of one cell, boxed. -/
theorem bxOne {v : Value} {ty : TypeId} (x : Operand) (hgd : Region.wanted o (yielded ops a.tmps) = true) (ho : o.op = .box ty x) (hx : a.eval x = v) (hv : v.cells = #[v])
    (h : ∀ w', Arr w' w.heap.size ty [v] → Below w.heap.size w w' → wpList P ops Q rest (a.put o.dst (.pointer (some ⟨w.heap.size, 0, none⟩))) w') : wpList P ops Q (o :: rest) a w := by
  refine wpList_want hgd fun K hK => ?_
  unfold Oper.wp execOp
  have hr : (Instr.box ty v).run P w = .ok (.pointer (some ⟨w.heap.size, 0, none⟩)) (w.alloc (.cells #[v] ty)) := by
    simp [Instr.box, newVar, newRow, hv]
  simp only [ho, hx, Sem.run_bind, Sem.run_pure, hr, Result.andThen_ok]
  exact hK _ _ (h _ (Arr.new w ty [v]) ((Below.refl _ _).alloc (Nat.le_refl _) _))
/-- An array literal whose elements take one cell each. -/
theorem bdArr {ty e : TypeId} {z : Array Value} {parts : Array (Nat × Operand)} (vs : List Value) (T : AgTy P ty z n) (hu : P.underlying ty = some (.array n e)) (he : (P.info? e).map (·.size) = some 1)
    (hgd : Region.wanted o (yielded ops a.tmps) = true) (ho : o.op = .build ty parts) (hev : (parts.map fun (i, x) => (i, a.eval x)).toList = (vs.zipIdx 0).map fun x => (x.2, x.1)) (hlen : vs.length = n) (hone : ∀ v ∈ vs, v.cells = #[v])
    (h : wpList P ops Q rest (a.put o.dst (.agg vs.toArray)) w) : wpList P ops Q (o :: rest) a w := by
  obtain ⟨i, hi, hzz, hsz⟩ := T.parts
  obtain ⟨zv, hzv, hzc⟩ := Option.map_eq_some_iff.1 hzz
  obtain ⟨j, hj, hjs⟩ := Option.map_eq_some_iff.1 he
  obtain ⟨r, hr, hrs, hrk⟩ := Great.fill_dense (s := 1) (by omega) vs 0 z (by intro v hv; rw [hone v hv]; rfl) (by rw [T.zs]; simp; omega)
  have hre : r = vs.toArray := by
    apply Array.ext_getElem?
    intro k
    rw [hrk k]
    simp only [Nat.zero_add, Nat.mul_one, Nat.div_one, Nat.sub_zero, Nat.mod_one, List.getElem?_toArray]
    by_cases hk : k < vs.length
    · rw [if_pos ⟨Nat.zero_le _, hk⟩, List.getElem?_eq_getElem hk]
      have := hone _ (List.getElem_mem hk)
      simp [this]
    · rw [if_neg (by omega), List.getElem?_eq_none (by omega)]
      rw [Array.getElem?_eq_none (by rw [T.zs]; omega)]
  subst hre
  refine wpList_want hgd fun K hK => ?_
  unfold Oper.wp execOp
  have hrun : (Instr.build ty (parts.map fun (i, x) => (i, a.eval x))).run P w = .ok (.agg vs.toArray) w := by
    rw [← hev] at hr
    generalize (parts.map fun (i, x) => (i, a.eval x)) = ps at hr ⊢
    simp only [Nat.mul_one] at hr
    simp [Instr.build, zeroValue, typeInfo, hi, hzv, hzc, run_underlying hu, sizeOf, hj, hjs, hr]
  simp only [ho, Sem.run_bind, Sem.run_pure, hrun, Result.andThen_ok]
  exact hK _ _ h
end
end Go.Proofs.YtienlndjhcmemaaDoor
/-
  Regions that draw their order, taken by hand: an operation taken first, two new arrays in either order, and what is left one by one. No statement is proved here.
-/
namespace Go.Proofs.YtienlndjhcmemaaDoor
open Go.RowKit

/-- Number i may be taken first. -/
def mayFirst (ops : Array Oper) (listed : Array Bool) (i : Nat) : Bool :=
  Region.noSelect ops && Region.free .any ops listed i && (Region.ready .any ops listed).contains i

section
variable {P : Program} {ops : Array Oper} {Q : Exit → Act → World → Prop} {S : World → Prop} {listed : Array Bool} {a : Act} {w : World} {fuel : Nat}
theorem rgStart {id : Nat} (S : World → Prop) (hm : P.follows .mixedOrders = true) (h : wpAnyH P .any ops Q S ops.size (Array.replicate ops.size false) a w.drew) : (Code.region id ops true).wp P Q a w :=
  wp_region_held hm h
theorem wpOp_of_list {i : Nat} {o : Oper} {K : Act → World → Prop} (hi : ops[i]? = some o) (h : wpList P ops (Exit.then K Q) [o] a w) : wpOp P ops Q i K a w := by
  unfold wpOp
  simp only [hi]
  unfold wpList at h
  split
  · rename_i hw
    rw [if_pos hw] at h
    refine h.imp (fun h => ?_) (fun h => ⟨h.1, h.2⟩)
    unfold Oper.wp at h ⊢
    generalize (execOp a.eval o).run P w = r at h ⊢
    cases r with
    | ok n w' =>
      cases n <;> simp only [Oper.upon] at h ⊢
      case value v => exact h
      case skip => exact h
      case defer d => exact h
      case enter f args =>
        refine h.mono fun e w'' he => ?_
        cases e with
        | returned u => exact he
        | panicked c => exact he
        | outgrown => exact he
      case row row args => exact h.mono fun _ _ he => he
    | halt x w' => cases x <;> simp only [Oper.upon] at h ⊢; exact h
  · rename_i hw
    rw [if_neg hw] at h
    exact h
/-- An operation taken first. -/
theorem rgTake {i : Nat} {o : Oper} {v : Value} (hi' : ops.toList[i]? = some o) (hm : mayFirst ops listed i = true) (hw : Region.wanted o (yielded ops a.tmps) = true)
    (hQ : ∀ c a w, Q (.panic c) (a.put o.dst v) w → Q (.panic c) a w) (hy : ∀ w, S w → (execOp a.eval o).run P w = .ok (.value v) w) (hS : S w)
    (h : wpAnyH P .any ops Q S fuel (listed.setIfInBounds i true) (a.put o.dst v) w) : wpAnyH P .any ops Q S (fuel + 1) listed a w := by
  have hi : ops[i]? = some o := by rw [← hi']; simp
  simp only [mayFirst, Bool.and_eq_true] at hm
  exact wpAnyH_take hi hm.1.1 hm.1.2 hm.2 hQ (Or.inl ⟨hw, hy⟩) hS h
/-- A struct or an array is loaded whole, first. -/
theorem rgLoad {i : Nat} {o : Oper} {ty : TypeId} {z : Array Value} {n b off : Nat} (x : Operand) (cs : List Value) (T : AgTy P ty z n) (hi' : ops.toList[i]? = some o) (hm : mayFirst ops listed i = true) (hw : Region.wanted o (yielded ops a.tmps) = true)
    (hQ : ∀ c a w, Q (.panic c) (a.put o.dst (.agg cs.toArray)) w → Q (.panic c) a w) (ho : o.op = .load ty x) (hx : a.eval x = .pointer (some ⟨b, off, none⟩)) (hl : cs.length = n)
    (hc : ∀ w, S w → ∀ j u, cs[j]? = some u → w.cell? ⟨b, off + j, none⟩ = some u) (hS : S w)
    (h : wpAnyH P .any ops Q S fuel (listed.setIfInBounds i true) (a.put o.dst (.agg cs.toArray)) w) : wpAnyH P .any ops Q S (fuel + 1) listed a w := by
  refine rgTake hi' hm hw hQ (fun w hw => ?_) hS h
  unfold execOp
  simp only [ho, hx, Instr.loadAt, Instr.sureAddr, Sem.run_bind, Sem.run_pure, Result.andThen_ok, run_loadAgg T b off cs hl (hc w hw)]
/-- The conversion of bytes to a string, first. -/
theorem rgConvStr {i : Nat} {o : Oper} {B n c : Nat} {A : Option Addr} {src e dst : TypeId} (x : Operand) (l : List UInt8) (hs : P.underlying src = some (.slice e)) (he : P.underlying e = some (.int .u8)) (hd : P.underlying dst = some .string)
    (hi : ops.toList[i]? = some o) (hm : mayFirst ops listed i = true) (hw : Region.wanted o (yielded ops a.tmps) = true) (hQ : ∀ c a w, Q (.panic c) (a.put o.dst (.string ⟨l.toArray⟩)) w → Q (.panic c) a w)
    (ho : o.op = .convert src dst x) (hx : a.eval x = .slice A n c) (hr : ∀ w, S w → Rd w B 1 A n c (bcs l)) (hS : S w)
    (h : wpAnyH P .any ops Q S fuel (listed.setIfInBounds i true) (a.put o.dst (.string ⟨l.toArray⟩)) w) : wpAnyH P .any ops Q S (fuel + 1) listed a w := by
  refine rgTake hi hm hw hQ (fun w hw => ?_) hS h
  unfold execOp
  simp only [ho, hx, Sem.run_bind, Sem.run_pure, conv_bs hs he hd (hr w hw), Result.andThen_ok]
/-- A byte of a text, first. -/
theorem rgIndexStr {i : Nat} {o : Oper} {t : TypeId} {kk : IntKind} {K : Int} (x y : Operand) (l : List UInt8) (k : Nat) (b : UInt8) (ht : P.underlying t = some .string)
    (hi : ops.toList[i]? = some o) (hm : mayFirst ops listed i = true) (hw : Region.wanted o (yielded ops a.tmps) = true) (hQ : ∀ c a w, Q (.panic c) (a.put o.dst (.int .u8 (b.toNat : Int))) w → Q (.panic c) a w)
    (ho : o.op = .index t x y) (hx : a.eval x = .string ⟨l.toArray⟩) (hy : a.eval y = .int kk K) (hK : K = (k : Int)) (hb : l[k]? = some b) (hS : S w)
    (h : wpAnyH P .any ops Q S fuel (listed.setIfInBounds i true) (a.put o.dst (.int .u8 (b.toNat : Int))) w) : wpAnyH P .any ops Q S (fuel + 1) listed a w := by
  subst hK
  refine rgTake hi hm hw hQ (fun w _ => ?_) hS h
  unfold execOp
  have hk := (List.getElem?_eq_some_iff.1 hb).1
  have hg : (⟨l.toArray⟩ : ByteArray)[k]? = some b := by
    rw [← hb]
    simp only [getElem?_def, ByteArray.size, List.size_toArray]
    by_cases h : k < l.length
    · rw [dif_pos h, dif_pos h]; rfl
    · omega
  simp [ho, hx, hy, Instr.index, asIntOf, run_underlying ht, hg]
/-- The one that comes up next. -/
theorem rgNext {i : Nat} {o : Oper} (hr : Region.ready .any ops listed = [i]) (hi' : ops.toList[i]? = some o)
    (h : wpList P ops (Exit.then (fun a' w' => S w' ∧ wpAnyH P .any ops Q S fuel (listed.setIfInBounds i true) a' w') Q) [o] a w) : wpAnyH P .any ops Q S (fuel + 1) listed a w := by
  have hi : ops[i]? = some o := by rw [← hi']; simp
  refine wpAnyH_all hr (by simp) fun j hj => ?_
  rw [List.mem_singleton] at hj
  subst hj
  exact wpOp_of_list hi h
theorem rgBack {K : Act → World → Prop} (hS : S w) (h : K a w) : wpList P ops (Exit.then (fun a' w' => S w' ∧ K a' w') Q) [] a w := ⟨hS, h⟩
theorem rgDone (hr : Region.ready .any ops listed = []) (h : Q .normal a w) : wpAnyH P .any ops Q S fuel listed a w := wpAnyH_done hr h _
/-- Two new variables of struct or array types, in either order. -/
theorem rgAlloc2 {i j : Nat} {oi oj : Oper} {ti tj : TypeId} {zi zj : List Value} {ni nj : Nat} (Ti : AgTy P ti zi.toArray ni) (Tj : AgTy P tj zj.toArray nj)
    (hr : Region.ready .any ops listed = [i, j]) (hi' : ops.toList[i]? = some oi) (hj' : ops.toList[j]? = some oj)
    (hri : Region.ready .any ops (listed.setIfInBounds i true) = [j]) (hrj : Region.ready .any ops (listed.setIfInBounds j true) = [i])
    (hgi : oi.guard = none) (hgj : oj.guard = none) (hoi : oi.op = .alloc ti) (hoj : oj.op = .alloc tj) (hd : oi.dst ≠ oj.dst) (hij : i ≠ j)
    (hS : ∀ w', Below w.heap.size w w' → S w')
    (h : ∀ g1 g2 w', g1 ≠ g2 → w.heap.size ≤ g1 → w.heap.size ≤ g2 → Arr w' g1 ti zi → Arr w' g2 tj zj → Below w.heap.size w w' →
      wpAnyH P .any ops Q S fuel ((listed.setIfInBounds i true).setIfInBounds j true) ((a.put oi.dst (.pointer (some ⟨g1, 0, none⟩))).put oj.dst (.pointer (some ⟨g2, 0, none⟩))) w') :
    wpAnyH P .any ops Q S (fuel + 2) listed a w := by
  have hi : ops[i]? = some oi := by rw [← hi']; simp
  have hj : ops[j]? = some oj := by rw [← hj']; simp
  have key : ∀ (k l : Nat) (ok ol : Oper) (tk tl : TypeId) (zk zl : List Value) (nk nl : Nat), AgTy P tk zk.toArray nk → AgTy P tl zl.toArray nl → ops[k]? = some ok → ops[l]? = some ol →
      Region.ready .any ops (listed.setIfInBounds k true) = [l] → ok.guard = none → ol.guard = none → ok.op = .alloc tk → ol.op = .alloc tl →
      (∀ g1 g2 w', g1 ≠ g2 → w.heap.size ≤ g1 → w.heap.size ≤ g2 → Arr w' g1 tk zk → Arr w' g2 tl zl → Below w.heap.size w w' →
        wpAnyH P .any ops Q S fuel ((listed.setIfInBounds k true).setIfInBounds l true) ((a.put ok.dst (.pointer (some ⟨g1, 0, none⟩))).put ol.dst (.pointer (some ⟨g2, 0, none⟩))) w') →
      wpOp P ops Q k (fun a' w' => S w' ∧ wpAnyH P .any ops Q S (fuel + 1) (listed.setIfInBounds k true) a' w') a w := by
    intro k l ok ol tk tl zk zl nk nl Tk Tl hk hl hrk hgk hgl hok hol H
    refine wpOp_of_list hk (alArr Tk (wn hgk) hok fun w1 hA1 hb1 => ⟨hS _ hb1, wpAnyH_all hrk (by simp) fun m hm => ?_⟩)
    rw [List.mem_singleton] at hm
    subst hm
    refine wpOp_of_list hl (alArr Tl (wn hgl) hol fun w2 hA2 hb2 => ?_)
    have hb := hb1.trans (hb2.mono hb1.size)
    refine ⟨hS _ hb, H _ _ _ ?_ (Nat.le_refl _) hb1.size (hA1.below hb2 hA1.lt) hA2 hb⟩
    have := hA1.lt
    omega
  refine wpAnyH_all hr (by simp) fun k hk => ?_
  rcases List.mem_cons.1 hk with rfl | hk
  · exact key _ _ _ _ _ _ _ _ _ _ Ti Tj hi hj hri hgi hgj hoi hoj h
  · rw [List.mem_singleton] at hk
    subst hk
    refine key _ _ _ _ _ _ _ _ _ _ Tj Ti hj hi hrj hgj hgi hoj hoi fun g1 g2 w' h1 h2 h3 h4 h5 h6 => ?_
    rw [Act.put_comm a _ _ (fun d e1 e2 => hd (e2.trans e1.symm)), Array.setIfInBounds_comm _ _ (Ne.symm hij)]
    exact h g2 g1 w' (Ne.symm h1) h3 h2 h5 h4 h6
end
end Go.Proofs.YtienlndjhcmemaaDoor
/-
  Cells in the middle of a block that is known whole: a struct's field or an array's part is set, bytes of a text are copied there. No statement is proved here.
-/
namespace Go.Proofs.YtienlndjhcmemaaDoor
open Go.RowKit

/-- cur with cs laid from place off on. -/
def spl (cur : List Value) (off : Nat) (cs : List Value) : List Value := cur.take off ++ cs ++ cur.drop (off + cs.length)
theorem spl_len {cur cs : List Value} {off : Nat} (h : off + cs.length ≤ cur.length) : (spl cur off cs).length = cur.length := by unfold spl; simp; omega
theorem spl_mid (p q m cs : List Value) (h : cs.length = m.length) : spl (p ++ m ++ q) p.length cs = p ++ cs ++ q := by
  unfold spl
  rw [h, ← List.length_append, List.drop_left, List.append_assoc p m q, List.take_left]
theorem spl_head (m q cs : List Value) (h : cs.length = m.length) : spl (m ++ q) 0 cs = cs ++ q := by
  have := spl_mid [] q m cs h
  simpa using this
theorem spl_at {cur cs : List Value} {off j : Nat} (h : off + cs.length ≤ cur.length) : (spl cur off cs)[j]? = if j < off then cur[j]? else if j < off + cs.length then cs[j - off]? else cur[j]? := by
  unfold spl
  have hl : (cur.take off).length = off := by rw [List.length_take]; omega
  by_cases h1 : j < off
  · rw [if_pos h1, List.append_assoc, List.getElem?_append_left (by omega), List.getElem?_take, if_pos h1]
  · rw [if_neg h1]
    by_cases h2 : j < off + cs.length
    · rw [if_pos h2, List.append_assoc, List.getElem?_append_right (by omega), hl, List.getElem?_append_left (by omega)]
    · rw [if_neg h2, List.getElem?_append_right (by rw [List.length_append]; omega), List.length_append, hl, List.getElem?_drop]
      congr 1; omega
section
variable {P : Program} {w : World} {ops : Array Oper} {rest : List Oper} {o : Oper} {a : Act} {Q : Exit → Act → World → Prop} {g off : Nat} {t : TypeId} {cur : List Value}
theorem run_storeCells_spl (hA : Arr w g t cur) (cs : List Value) (hfit : off + cs.length ≤ cur.length) (h1 : ∀ u ∈ cs, u.oneCell' = true) :
    (storeCells ⟨g, off, none⟩ cs).run P w = .ok () (w.setRow g (spl cur off cs).toArray) := by
  have hst := run_storeCells_at P g off t cs 0 cur.toArray w hA (by rw [List.size_toArray]; omega) h1
  rw [hst]
  simp [spl]
/-- A part of a block is set. -/
theorem stMid {ty : TypeId} {z : Array Value} {n : Nat} (x y : Operand) (cs : List Value) (T : AgTy P ty z n) (hgd : Region.wanted o (yielded ops a.tmps) = true) (ho : o.op = .store ty x y)
    (hx : a.eval x = .pointer (some ⟨g, off, none⟩)) (hy : a.eval y = .agg cs.toArray) (hA : Arr w g t cur) (hl : cs.length = n) (hfit : off + n ≤ cur.length) (h1 : ∀ u ∈ cs, u.oneCell' = true)
    (h : ∀ w', Arr w' g t (spl cur off cs) → (∀ b' t' c', b' ≠ g → Arr w b' t' c' → Arr w' b' t' c') → (∀ B, B ≤ g → Below B w w') → wpList P ops Q rest (a.put o.dst undef) w') : wpList P ops Q (o :: rest) a w := by
  obtain ⟨i, hi, _, hs'⟩ := T.parts
  have hst := run_storeCells_spl (P := P) hA (off := off) cs (by omega) h1
  have hrun : (storeVar ty ⟨g, off, none⟩ (.agg cs.toArray)).run P w = .ok () (w.setRow g (spl cur off cs).toArray) := by
    simp [storeVar, sizeOf, typeInfo, hi, hs', Value.cells, hl, hst]
  refine wpList_want hgd fun K hK => ?_
  unfold Oper.wp execOp
  simp only [ho, hx, hy, Instr.storeAt, Instr.sureAddr, Sem.run_bind, Sem.run_pure, Result.andThen_ok, hrun]
  exact hK _ _ (h _ (hA.setRow _) (fun b' t' c' hne hA' => hA'.setRow_other (fun e => hne e.symm) _) (fun B hB => below_setRow w hB _))
/-- 'copy(d, text)' into bytes of a block. -/
theorem cpStr {dT sT e : TypeId} {dl dc : Nat} (d s : Operand) (txt : List UInt8) (hu : P.underlying dT = some (.slice e)) (he : (P.info? e).map (·.size) = some 1) (hgd : Region.wanted o (yielded ops a.tmps) = true)
    (ho : o.op = .call { callee := .builtin .copy, args := #[d, s], argTypes := #[dT, sT] }) (hd : a.eval d = .slice (some ⟨g, off, none⟩) dl dc) (hs : a.eval s = .string ⟨txt.toArray⟩) (hA : Arr w g t cur) (hfit : off + dl ≤ cur.length)
    (h : ∀ w', Arr w' g t (spl cur off (bcs (txt.take dl))) → (∀ b' t' c', b' ≠ g → Arr w b' t' c' → Arr w' b' t' c') → (∀ B, B ≤ g → Below B w w') → wpList P ops Q rest (a.put o.dst (.int .i64 ((min txt.length dl : Nat) : Int))) w') : wpList P ops Q (o :: rest) a w := by
  obtain ⟨i, hi, hsz⟩ := Option.map_eq_some_iff.1 he
  have hst := run_storeCells_spl (P := P) hA (off := off) (bcs (txt.take dl)) (by rw [bcs_length, List.length_take]; omega) (bcs_one _)
  have hcells : List.take (min txt.length dl) (List.map (fun b : UInt8 => Value.int .u8 b.toNat) txt) = bcs (txt.take dl) := by
    have hb : List.map (fun b : UInt8 => Value.int .u8 b.toNat) txt = bcs txt := rfl
    rw [hb]
    unfold bcs
    rw [← List.map_take]
    by_cases hle : txt.length ≤ dl
    · rw [Nat.min_eq_left hle, List.take_length, List.take_of_length_le hle]
    · rw [Nat.min_eq_right (by omega)]
  have hrun : (Builtin.copy_ #[dT, sT] o.type #[.slice (some ⟨g, off, none⟩) dl dc, .string ⟨txt.toArray⟩]).run P w = .ok (.int .i64 ((min txt.length dl : Nat) : Int)) (w.setRow g (spl cur off (bcs (txt.take dl))).toArray) := by
    have hmin : Nat.min (⟨txt.toArray⟩ : ByteArray).size dl = min txt.length dl := by simp [ByteArray.size]
    simp only [Builtin.copy_, Builtin.lenOf, Builtin.firstCells, sizeOf, typeInfo]
    simp [run_underlying hu, hi, hmin, hcells, hst, goInt]
  refine wpList_want hgd fun K hK => ?_
  unfold Oper.wp execOp
  simp only [ho, resolve, invoke, builtin, Sem.run_bind, Sem.run_pure, Result.andThen_ok, List.map_toArray, List.map_cons, List.map_nil, hd, hs, hrun]
  exact hK _ _ (h _ (hA.setRow _) (fun b' t' c' hne hA' => hA'.setRow_other (fun e => hne e.symm) _) (fun B hB => below_setRow w hB _))
/-- An operation whose value is known. -/
theorem opVal {v : Value} (hgd : Region.wanted o (yielded ops a.tmps) = true) (hrun : (execOp a.eval o).run P w = .ok (.value v) w) (h : wpList P ops Q rest (a.put o.dst v) w) : wpList P ops Q (o :: rest) a w := by
  refine wpList_want hgd fun K hK => ?_
  unfold Oper.wp
  rw [hrun]
  exact hK _ _ h
/-- A literal whose value is known by a run. -/
theorem bdVal {ty : TypeId} {parts : Array (Nat × Operand)} {ps : Array (Nat × Value)} {v : Value} (hrun : ∀ w, (Instr.build ty ps).run P w = .ok v w) (hgd : Region.wanted o (yielded ops a.tmps) = true) (ho : o.op = .build ty parts)
    (hev : (parts.map fun (i, x) => (i, a.eval x)) = ps) (h : wpList P ops Q rest (a.put o.dst v) w) : wpList P ops Q (o :: rest) a w := by
  refine opVal (v := v) hgd ?_ h
  unfold execOp
  simp only [ho, hev, Sem.run_bind, Sem.run_pure, hrun, Result.andThen_ok]
theorem add_off (b off k : Nat) : (⟨b, off, none⟩ : Addr).add k = ⟨b, off + k, none⟩ := by unfold Addr.add; split <;> simp_all
/-- 'arr[lo:]' of an array variable. -/
theorem slPtrL {t e : TypeId} {n b : Nat} {kl : IntKind} {L : Int} (x l : Operand) (U : Nat) (hu : P.underlying t = some (.array n e)) (he : (P.info? e).map (·.size) = some 1) (hgd : Region.wanted o (yielded ops a.tmps) = true)
    (ho : o.op = .slice t x (some l) none none) (hx : a.eval x = .pointer (some ⟨b, off, none⟩)) (hl : a.eval l = .int kl L) (hL : L = (U : Int)) (h1 : U < n)
    (h : wpList P ops Q rest (a.put o.dst (.slice (some ⟨b, off + U, none⟩) (n - U) (n - U))) w) : wpList P ops Q (o :: rest) a w := by
  obtain ⟨i, hi, hsz⟩ := Option.map_eq_some_iff.1 he
  subst hL
  refine opVal (v := .slice (some ⟨b, off + U, none⟩) (n - U) (n - U)) hgd ?_ h
  unfold execOp
  have hne : ¬ n = U := by omega
  have hle : ((U : Int) ≤ (n : Int)) := by omega
  simp [ho, hx, hl, Instr.sliceAt, Instr.sureAddr, run_underlying hu, Instr.sliceBounds, run_sliceBound, sizeOf, typeInfo, hi, hsz, hne, hle, add_off]
/-- 'arr[:]'. -/
theorem slPtr {t e : TypeId} {n b : Nat} (x : Operand) (hu : P.underlying t = some (.array n e)) (he : (P.info? e).map (·.size) = some 1) (h0 : 0 < n) (hgd : Region.wanted o (yielded ops a.tmps) = true)
    (ho : o.op = .slice t x none none none) (hx : a.eval x = .pointer (some ⟨b, off, none⟩))
    (h : wpList P ops Q rest (a.put o.dst (.slice (some ⟨b, off, none⟩) n n)) w) : wpList P ops Q (o :: rest) a w := by
  obtain ⟨i, hi, hsz⟩ := Option.map_eq_some_iff.1 he
  refine opVal (v := .slice (some ⟨b, off, none⟩) n n) hgd ?_ h
  unfold execOp
  have hne : ¬ n = 0 := by omega
  simp [ho, hx, Instr.sliceAt, Instr.sureAddr, run_underlying hu, Instr.sliceBounds, sizeOf, typeInfo, hi, hsz, hne, add_off]
/-- The conversion of a string to bytes. -/
theorem convBs {src e dst : TypeId} (x : Operand) (l : List UInt8) (hs : P.underlying src = some .string) (hd : P.underlying dst = some (.slice e)) (he : P.underlying e = some (.int .u8)) (hgd : Region.wanted o (yielded ops a.tmps) = true)
    (ho : o.op = .convert src dst x) (hx : a.eval x = .string ⟨l.toArray⟩) (hl : l.length ≤ 70368744177664)
    (h : ∀ A c w', Rd w' w'.heap.size 1 A l.length c (bcs l) → Below w.heap.size w w' → wpList P ops Q rest (a.put o.dst (.slice A l.length c)) w') : wpList P ops Q (o :: rest) a w := by
  have hsz : (⟨l.toArray⟩ : ByteArray).size = l.length := by simp [ByteArray.size]
  have hr := Lib.run_convert_string_bytes (P := P) w src dst e ⟨l.toArray⟩ hs hd he
  rw [hsz] at hr
  refine wpList_want hgd fun K hK => ?_
  unfold Oper.wp execOp
  simp only [ho, hx, Sem.run_bind, Sem.run_pure, hr, Result.andThen_ok]
  refine hK _ _ (h _ _ _ ?_ ?_)
  · refine ⟨by rw [bcs_length, Nat.mul_one], grownCap_ge w l.length 0 e, grownCap_le_maxLen w l.length 0 e (by unfold maxLen; omega), fun hn => ⟨w.heap.size, 0, rfl, by rw [Lib.bytesWorld_size]; omega, fun j u hu => ?_⟩⟩
    have hj : j < l.length := by have := (List.getElem?_eq_some_iff.1 hu).1; rwa [bcs_length] at this
    rw [Nat.zero_add, Lib.bytesWorld_cell w e _ j (by rw [hsz]; exact hj), ← hu]
    unfold bcs
    rw [List.getElem?_map, List.getElem?_eq_getElem hj]
    simp [bc, List.getD, hj]
  · exact ⟨rfl, rfl, rfl, by rw [Lib.bytesWorld_size]; omega, fun k hk => Lib.bytesWorld_at_old w e _ k hk⟩
end
end Go.Proofs.YtienlndjhcmemaaDoor
/-
  A region that draws its order and holds calls and new variables that may come up in any order: each is shown once. No statement is proved here.
-/
namespace Go.Proofs.YtienlndjhcmemaaDoor
open Go.RowKit

/-- What was there is as it was. -/
abbrev Ext (w w' : World) : Prop := Below w.heap.size w w'
theorem Ext.trans' {a b c : World} (h : Ext a b) (k : Ext b c) : Ext a c := Below.trans h (k.mono h.size)

/-- Operation k waits for operation i. -/
def waitsFor (ops : Array Oper) (k i : Nat) : Bool := ((ops.toList[k]?).map fun o => o.after.any fun e => Region.binds .any e && e.on == i).getD false
/-- Operation k waits for operation p, or for one of X that does. -/
def reachX (ops : Array Oper) (X : List (Nat × Nat)) : Nat → Nat → Nat → Bool
  | 0, k, p => waitsFor ops k p
  | f + 1, k, p => waitsFor ops k p || X.any fun q => waitsFor ops k q.1 && reachX ops X f q.1 p
theorem reach_listed {ops : Array Oper} {X : List (Nat × Nat)} {listed : Array Bool} (hinv : ∀ q ∈ X, listed.getD q.1 true = true → ∀ p ∈ X, waitsFor ops q.1 p.1 = true → listed.getD p.1 true = true) :
    ∀ (f k : Nat), (∀ q ∈ X, waitsFor ops k q.1 = true → listed.getD q.1 true = true) → ∀ p ∈ X, reachX ops X f k p.1 = true → listed.getD p.1 true = true
  | 0, _, hk, p, hp, h => hk p hp h
  | f + 1, k, hk, p, hp, h => by
    unfold reachX at h
    rw [Bool.or_eq_true] at h
    rcases h with h | h
    · exact hk p hp h
    · obtain ⟨q, hq, h2⟩ := List.any_eq_true.1 h
      rw [Bool.and_eq_true] at h2
      exact reach_listed hinv f q.1 (fun q' hq' hw' => hinv q hq (hk q hq h2.1) q' hq' hw') p hp h2.2
/-- The operations X (number, slot) may come up in any order that their edges allow, and no other before all of them. -/
def floatB (ops : Array Oper) (listed : Array Bool) (n : Nat) (X : List (Nat × Nat)) : Bool :=
  (X.all fun p => X.all fun q => (p.1 == q.1) == (p.2 == q.2)) && decide (listed.size = ops.size) && decide X.Nodup &&
  (X.all fun p => decide (p.2 < n) && decide (p.1 < ops.size) && !listed.getD p.1 true &&
    ((ops.toList[p.1]?).map fun o => o.after.all fun e => !Region.binds .any e || (decide (e.on < p.1) && (listed.getD e.on false || X.any (·.1 == e.on)))).getD false) &&
  (List.range ops.size).all fun k => listed.getD k true || X.any (·.1 == k) || (X.all fun p => waitsFor ops k p.1 || reachX ops X X.length k p.1)
/-- The frame a, the slots of X aside. -/
structure FrameX (a0 : Act) (X : List (Nat × Nat)) (a : Act) : Prop where
  size : a.tmps.size = a0.tmps.size
  defers : a.defers = a0.defers
  same : ∀ t, (∀ p ∈ X, p.2 ≠ t) → a.tmps.getD t undef = a0.tmps.getD t undef
theorem FrameX.eval {a0 a : Act} {X : List (Nat × Nat)} (h : FrameX a0 X a) (t : Nat) (ht : (X.all fun p => !(p.2 == t)) = true) : a.eval (.tmp t) = a0.eval (.tmp t) := by
  have := h.same t (fun p hp e => by have := List.all_eq_true.1 ht p hp; simp [e] at this)
  simpa [Act.eval] using this
def listX : List (Nat × Nat) → Array Bool → Array Bool
  | [], l => l
  | p :: X, l => listX X (l.setIfInBounds p.1 true)
theorem listX_size : ∀ (X : List (Nat × Nat)) (l : Array Bool), (listX X l).size = l.size
  | [], _ => rfl
  | p :: X, l => by rw [listX, listX_size X]; simp
theorem listX_get : ∀ (X : List (Nat × Nat)) (l : Array Bool) (k : Nat), k < l.size → (listX X l).getD k true = (l.getD k true || X.any (·.1 == k))
  | [], l, k, _ => by simp [listX]
  | p :: X, l, k, hk => by
    rw [listX, listX_get X _ k (by simpa using hk), List.any_cons]
    by_cases h : p.1 = k
    · subst h; simp [hk]
    · have : (p.1 == k) = false := by simpa using h
      rw [this, Bool.false_or]
      congr 1
      simp [h]

section
variable {P : Program} {ops : Array Oper} {Q : Exit → Act → World → Prop} {X : List (Nat × Nat)} {G : Nat → Value → World → Prop} {a0 : Act} {w0 : World} {listed0 : Array Bool}
theorem getD_put_same {a : Act} {d : Nat} {v : Value} (h : d < a.tmps.size) : (a.put (some d) v).tmps.getD d undef = v := by simp [Act.put, h]
theorem getD_put_other {a : Act} {d t : Nat} {v : Value} (h : d ≠ t) : (a.put (some d) v).tmps.getD t undef = a.tmps.getD t undef := by simp [Act.put, h]
theorem float_go (hB : floatB ops listed0 a0.tmps.size X = true)
    (hmono : ∀ p ∈ X, ∀ v w w', G p.1 v w → Ext w w' → G p.1 v w')
    (hstep : ∀ p ∈ X, ∃ o, ops.toList[p.1]? = some o ∧ o.dst = some p.2 ∧ ∀ a w, FrameX a0 X a → Ext w0 w → (∀ q ∈ X, waitsFor ops p.1 q.1 = true → G q.1 (a.tmps.getD q.2 undef) w) →
      wpList P ops (Exit.then (fun a' w' => ∃ v, a' = a.put o.dst v ∧ Ext w w' ∧ G p.1 v w') Q) [o] a w)
    (fuel : Nat) (hend : ∀ a w, FrameX a0 X a → Ext w0 w → (∀ p ∈ X, G p.1 (a.tmps.getD p.2 undef) w) → wpAny P .any ops Q fuel (listX X listed0) a w) :
    ∀ (m : Nat) (listed : Array Bool) (a : Act) (w : World), (X.filter fun p => !listed.getD p.1 true).length = m → listed.size = ops.size →
      (∀ k, X.any (·.1 == k) = false → listed.getD k true = listed0.getD k true) → FrameX a0 X a → Ext w0 w → (∀ p ∈ X, listed.getD p.1 true = true → G p.1 (a.tmps.getD p.2 undef) w) →
      (∀ q ∈ X, listed.getD q.1 true = true → ∀ p ∈ X, waitsFor ops q.1 p.1 = true → listed.getD p.1 true = true) →
      wpAny P .any ops Q (m + fuel) listed a w := by
  unfold floatB at hB
  simp only [Bool.and_eq_true, List.all_eq_true, decide_eq_true_eq, Bool.or_eq_true, Bool.not_eq_true', beq_iff_eq] at hB
  obtain ⟨⟨⟨⟨hpair, hls⟩, hnd⟩, hX⟩, hrest⟩ := hB
  have hpair' : ∀ p ∈ X, ∀ q ∈ X, (p.1 = q.1 ↔ p.2 = q.2) := fun p hp q hq => by
    have := hpair p hp q hq
    rw [Bool.eq_iff_iff] at this
    simpa using this
  intro m
  induction m with
  | zero =>
    intro listed a w hm hsz hk hF hE hG _
    have hall : ∀ p ∈ X, listed.getD p.1 true = true := fun p hp => by
      have := List.length_eq_zero_iff.1 hm
      rw [List.filter_eq_nil_iff] at this
      simpa using this p hp
    have hl : listed = listX X listed0 := by
      apply Array.ext
      · rw [listX_size, hsz, hls]
      · intro k h1 h2
        have e1 : listed.getD k true = listed[k] := by simp [h1]
        have e2 : (listX X listed0).getD k true = (listX X listed0)[k] := by simp [h2]
        rw [← e1, ← e2, listX_get X listed0 k (by rw [hls, ← hsz]; exact h1)]
        cases hx : X.any (·.1 == k) with
        | false => rw [hk k hx, Bool.or_false]
        | true =>
          rw [Bool.or_true]
          obtain ⟨p, hp, hpk⟩ := List.any_eq_true.1 hx
          rw [beq_iff_eq] at hpk
          rw [← hpk]; exact hall p hp
    rw [hl, Nat.zero_add]
    exact hend a w hF hE fun p hp => hG p hp (hall p hp)
  | succ m ih =>
    intro listed a w hm hsz hk hF hE hG hinv
    have hun : ∃ p ∈ X, listed.getD p.1 true = false := by
      cases hf : X.filter fun p => !listed.getD p.1 true with
      | nil => rw [hf] at hm; simp at hm
      | cons p r =>
        have : p ∈ X.filter fun p => !listed.getD p.1 true := by rw [hf]; exact List.mem_cons_self
        rw [List.mem_filter] at this
        exact ⟨p, this.1, by simpa using this.2⟩
    have hin : ∀ i ∈ Region.ready .any ops listed, ∃ p ∈ X, p.1 = i := by
      intro i hi
      obtain ⟨hiu, o, ho, hall⟩ := mem_ready.1 hi
      have hio : i < ops.size := (Array.getElem?_eq_some_iff.1 ho).1
      cases hx : X.any (·.1 == i) with
      | true =>
        obtain ⟨p, hp, hpk⟩ := List.any_eq_true.1 hx
        exact ⟨p, hp, by simpa using hpk⟩
      | false =>
        exfalso
        have h1 := hk i hx
        rcases hrest i (List.mem_range.2 hio) with (h | h) | h
        · rw [h1, h] at hiu; cases hiu
        · rw [hx] at h; cases h
        · obtain ⟨p, hp, hpu⟩ := hun
          have hdir : ∀ q ∈ X, waitsFor ops i q.1 = true → listed.getD q.1 true = true := by
            intro q _ hw
            unfold waitsFor at hw
            have ho' : ops.toList[i]? = some o := by rw [← ho]; simp
            rw [ho'] at hw
            simp only [Option.map_some, Option.getD_some] at hw
            obtain ⟨e, he, hbe⟩ := Array.any_eq_true'.1 hw
            simp only [Bool.and_eq_true, beq_iff_eq] at hbe
            have h2 := hall e he hbe.1
            rw [hbe.2] at h2
            rcases Nat.lt_or_ge q.1 listed.size with h' | h'
            · simp [h'] at h2 ⊢; exact h2
            · simp [Array.getElem?_eq_none h'] at h2
          have hpl : listed.getD p.1 true = true := by
            rcases h p hp with h3 | h3
            · exact hdir p hp h3
            · exact reach_listed hinv _ i hdir p hp h3
          rw [hpl] at hpu; cases hpu
    rw [Nat.succ_add]
    refine ⟨fun h0 => ?_, fun i hi => ?_⟩
    · -- something may come up
      exfalso
      have key : ∀ (n : Nat) (p : Nat × Nat), p ∈ X → listed.getD p.1 true = false → p.1 ≤ n → False := by
        intro n
        induction n using Nat.strongRecOn with
        | ind n ihn =>
          intro p hp hpu hpn
          have hXp := hX p hp
          obtain ⟨⟨⟨h1, h2⟩, h3⟩, h4⟩ := hXp
          obtain ⟨o, ho⟩ : ∃ o, ops.toList[p.1]? = some o := ⟨ops.toList[p.1]'(by simpa using h2), List.getElem?_eq_getElem _⟩
          have ho' : ops[p.1]? = some o := by rw [← ho]; simp
          rw [ho] at h4
          simp only [Option.map_some, Option.getD_some] at h4
          have hr : p.1 ∈ Region.ready .any ops listed := by
            refine mem_ready.2 ⟨hpu, o, ho', fun e he hb => ?_⟩
            have h5 := Array.all_eq_true'.1 h4 e he
            simp only [hb, Bool.not_true, Bool.false_or, Bool.and_eq_true, decide_eq_true_eq, Bool.or_eq_true] at h5
            obtain ⟨h6, h7⟩ := h5
            have hlt : e.on < listed.size := by rw [hsz]; omega
            have hsame : listed.getD e.on false = listed.getD e.on true := by simp [hlt]
            rw [hsame]
            cases hx : X.any (·.1 == e.on) with
            | false =>
              rw [hk _ hx]
              rcases h7 with h7 | h7
              · have : e.on < listed0.size := by rw [hls]; omega
                simp [this] at h7 ⊢; exact h7
              · rw [hx] at h7; cases h7
            | true =>
              obtain ⟨q, hq, hqk⟩ := List.any_eq_true.1 hx
              rw [beq_iff_eq] at hqk
              cases hqu : listed.getD e.on true with
              | true => rfl
              | false => exact (ihn e.on (by omega) q hq (by rw [hqk]; exact hqu) (by omega)).elim
          rw [h0] at hr
          cases hr
      obtain ⟨p, hp, hpu⟩ := hun
      exact key p.1 p hp hpu (Nat.le_refl _)
    · obtain ⟨p, hp, rfl⟩ := hin i hi
      obtain ⟨hiu, o', ho', hall⟩ := mem_ready.1 hi
      obtain ⟨o, ho, hd, hw⟩ := hstep p hp
      have hoo : ops[p.1]? = some o := by rw [← ho]; simp
      obtain rfl : o' = o := Option.some.inj (ho'.symm.trans hoo)
      have hstep' := hw a w hF hE fun q hq hqw => by
        refine hG q hq ?_
        unfold waitsFor at hqw
        rw [ho] at hqw
        simp only [Option.map_some, Option.getD_some] at hqw
        obtain ⟨e, he, hbe⟩ := Array.any_eq_true'.1 hqw
        simp only [Bool.and_eq_true, beq_iff_eq] at hbe
        have h2 := hall e he hbe.1
        rw [hbe.2] at h2
        rcases Nat.lt_or_ge q.1 listed.size with h' | h'
        · simp [h'] at h2 ⊢; exact h2
        · simp [Array.getElem?_eq_none h'] at h2
      refine wpOp_mono (fun a' w' h' => ?_) (wpOp_of_list hoo hstep')
      obtain ⟨v, rfl, hEw, hGv⟩ := h'
      rw [hd]
      obtain ⟨⟨⟨h1, h2⟩, h3⟩, h4⟩ := hX p hp
      have hpl : p.1 < listed.size := by rw [hsz]; exact h2
      refine ih _ _ _ ?_ (by simpa using hsz) (fun k hx => ?_) ⟨by rw [← hF.size]; simp [Act.put], by rw [← hF.defers]; rfl, fun t ht => by rw [getD_put_other (ht p hp)]; exact hF.same t ht⟩ (Ext.trans' hE hEw) (fun q hq hql => ?_) (fun q hq hql q' hq' hw' => ?_)
      · -- one less
        have hf : (X.filter fun q => !(listed.setIfInBounds p.1 true).getD q.1 true) = (X.filter fun q => !listed.getD q.1 true).filter (· != p) := by
          rw [List.filter_filter]
          apply List.filter_congr
          intro q hq
          by_cases hpq : q.1 = p.1
          · have hqp : q = p := Prod.ext hpq ((hpair' q hq p hp).1 hpq)
            subst hqp
            simp [hpl]
          · have h1 : (q != p) = true := by rw [bne_iff_ne]; exact fun e => hpq (by rw [e])
            have h2 : p.1 ≠ q.1 := fun e => hpq e.symm
            rw [h1, Bool.true_and]
            congr 1
            simp [h2]
        rw [hf, ← List.Nodup.erase_eq_filter (hnd.filter _), List.length_erase_of_mem (List.mem_filter.2 ⟨hp, by simpa using hiu⟩), hm]
        rfl
      · have hne' : p.1 ≠ k := fun e => by
          rw [List.any_eq_false] at hx
          exact hx p hp (by simpa using e)
        rw [← hk k hx]
        simp [hne']
      · by_cases hpq : q.1 = p.1
        · have h2' := (hpair' q hq p hp).1 hpq
          rw [h2', hpq, getD_put_same (by rw [hF.size]; exact h1)]
          exact hGv
        · have h2' : p.2 ≠ q.2 := fun e => hpq ((hpair' q hq p hp).2 e.symm)
          rw [getD_put_other h2']
          refine hmono q hq _ _ _ (hG q hq ?_) hEw
          have h5 : p.1 ≠ q.1 := fun e => hpq e.symm
          have h6 : (listed.setIfInBounds p.1 true).getD q.1 true = listed.getD q.1 true := by simp [h5]
          rw [h6] at hql
          exact hql
      · have hset : ∀ k : Nat, listed.getD k true = true → (listed.setIfInBounds p.1 true).getD k true = true := by
          intro k hk'
          by_cases e : p.1 = k
          · subst e; simp [hpl]
          · have : (listed.setIfInBounds p.1 true).getD k true = listed.getD k true := by simp [e]
            rw [this]; exact hk'
        refine hset q'.1 ?_
        by_cases hpq : q.1 = p.1
        · rw [hpq] at hw'
          unfold waitsFor at hw'
          rw [ho] at hw'
          simp only [Option.map_some, Option.getD_some] at hw'
          obtain ⟨e, he, hbe⟩ := Array.any_eq_true'.1 hw'
          simp only [Bool.and_eq_true, beq_iff_eq] at hbe
          have h2 := hall e he hbe.1
          rw [hbe.2] at h2
          rcases Nat.lt_or_ge q'.1 listed.size with h' | h'
          · simp [h'] at h2 ⊢; exact h2
          · simp [Array.getElem?_eq_none h'] at h2
        · have h5 : p.1 ≠ q.1 := fun e => hpq e.symm
          have h6 : (listed.setIfInBounds p.1 true).getD q.1 true = listed.getD q.1 true := by simp [h5]
          rw [h6] at hql
          exact hinv q hq hql q' hq' hw'
/-- The operations X, each shown once, in whatever order; what follows is asked of whatever values they have left. -/
theorem rgFloat (X : List (Nat × Nat)) (G : Nat → Value → World → Prop) (k : Nat) (fuel : Nat) (hk : k = X.length + fuel) (hB : floatB ops listed0 a0.tmps.size X = true)
    (hmono : ∀ p ∈ X, ∀ v w w', G p.1 v w → Ext w w' → G p.1 v w')
    (hstep : ∀ p ∈ X, ∃ o, ops.toList[p.1]? = some o ∧ o.dst = some p.2 ∧ ∀ a w, FrameX a0 X a → Ext w0 w → (∀ q ∈ X, waitsFor ops p.1 q.1 = true → G q.1 (a.tmps.getD q.2 undef) w) →
      wpList P ops (Exit.then (fun a' w' => ∃ v, a' = a.put o.dst v ∧ Ext w w' ∧ G p.1 v w') Q) [o] a w)
    (hend : ∀ a w, FrameX a0 X a → Ext w0 w → (∀ p ∈ X, G p.1 (a.tmps.getD p.2 undef) w) → wpAny P .any ops Q fuel (listX X listed0) a w) :
    wpAny P .any ops Q k listed0 a0 w0 := by
  subst hk
  have hB' := hB
  unfold floatB at hB'
  simp only [Bool.and_eq_true, List.all_eq_true, decide_eq_true_eq, Bool.or_eq_true, Bool.not_eq_true', beq_iff_eq] at hB'
  obtain ⟨⟨⟨⟨_, hls⟩, _⟩, hX⟩, _⟩ := hB'
  have hall : (X.filter fun p => !listed0.getD p.1 true) = X := List.filter_eq_self.2 fun p hp => by
    have := (hX p hp).1.2
    simpa using this
  exact float_go hB hmono hstep fuel hend _ listed0 a0 w0 (by rw [hall]) hls (fun _ _ => rfl) ⟨rfl, rfl, fun _ _ => rfl⟩ (Below.refl _ _) (fun p hp h => by have := (hX p hp).1.2; rw [h] at this; cases this) (fun q hq h => by have := (hX q hq).1.2; rw [h] at this; cases this)
/-- An operation taken first, in whatever world. -/
theorem aTake {fuel : Nat} {listed : Array Bool} {a : Act} {w : World} {i : Nat} {o : Oper} {v : Value} (hi' : ops.toList[i]? = some o) (hm : mayFirst ops listed i = true) (hw : Region.wanted o (yielded ops a.tmps) = true)
    (hQ : ∀ c a w, Q (.panic c) (a.put o.dst v) w → Q (.panic c) a w) (hy : ∀ w, (execOp a.eval o).run P w = .ok (.value v) w)
    (h : wpAny P .any ops Q fuel (listed.setIfInBounds i true) (a.put o.dst v) w) : wpAny P .any ops Q (fuel + 1) listed a w := by
  have hi : ops[i]? = some o := by rw [← hi']; simp
  simp only [mayFirst, Bool.and_eq_true] at hm
  exact wpAny_take hi hm.1.1 hm.1.2 hm.2 hQ (Or.inl ⟨hw, hy⟩) h
theorem aNext {fuel : Nat} {listed : Array Bool} {a : Act} {w : World} {i : Nat} {o : Oper} (hr : Region.ready .any ops listed = [i]) (hi' : ops.toList[i]? = some o)
    (h : wpList P ops (Exit.then (wpAny P .any ops Q fuel (listed.setIfInBounds i true)) Q) [o] a w) : wpAny P .any ops Q (fuel + 1) listed a w := by
  have hi : ops[i]? = some o := by rw [← hi']; simp
  refine wpAny_all hr (by simp) fun j hj => ?_
  rw [List.mem_singleton] at hj
  subst hj
  exact wpOp_of_list hi h
theorem aDone {fuel : Nat} {listed : Array Bool} {a : Act} {w : World} (hr : Region.ready .any ops listed = []) (h : Q .normal a w) : wpAny P .any ops Q fuel listed a w := wpAny_done hr h _
theorem aStart {id : Nat} {a : Act} {w : World} (hm : P.follows .mixedOrders = true) (h : wpAny P .any ops Q ops.size (Array.replicate ops.size false) a w.drew) : (Code.region id ops true).wp P Q a w := wp_region_any hm h
end
/-- '[n]T(s)' of a slice, or of an array's part. -/
theorem saPtr {P : Program} {w : World} {ops : Array Oper} {rest : List Oper} {o : Oper} {a : Act} {Q : Exit → Act → World → Prop} {arr e : TypeId} {n len c : Nat} {A : Option Addr} (x : Operand) (h : P.underlying arr = some (.array n e)) (hgd : Region.wanted o (yielded ops a.tmps) = true)
    (ho : o.op = .sliceToArrayPointer arr x) (hx : a.eval x = .slice A len c) (hn : n ≤ len) (hk : wpList P ops Q rest (a.put o.dst (.pointer A)) w) : wpList P ops Q (o :: rest) a w := by
  refine opVal (v := .pointer A) hgd ?_ hk
  unfold execOp
  simp only [ho, hx, Sem.run_bind, Sem.run_pure, run_arrayAt w h hn, Result.andThen_ok]
/-- '==' on texts. -/
theorem eqStr {P : Program} {w : World} {ops : Array Oper} {rest : List Oper} {o : Oper} {a : Act} {Q : Exit → Act → World → Prop} {t ty : TypeId} (x y : Operand) (xs ys : List UInt8) (b : Bool) (hgd : Region.wanted o (yielded ops a.tmps) = true)
    (ho : o.op = .binOp .eql t x y ty) (hx : a.eval x = .string ⟨xs.toArray⟩) (hy : a.eval y = .string ⟨ys.toArray⟩) (hb : (xs == ys) = b) (hk : wpList P ops Q rest (a.put o.dst (.bool b)) w) : wpList P ops Q (o :: rest) a w := by
  refine opVal (v := .bool b) hgd ?_ hk
  unfold execOp
  simp [ho, hx, hy, eqGuard, binOp_string_eql, hb]
/-- '==' on arrays of bytes. -/
theorem eqBytes {P : Program} {w : World} {ops : Array Oper} {rest : List Oper} {o : Oper} {a : Act} {Q : Exit → Act → World → Prop} {t e ty : TypeId} {n : Nat} (x y : Operand) (xs ys : List UInt8) (b : Bool) (ht : P.underlying t = some (.array n e)) (he : P.underlying e = some (.int .u8)) (hs : (P.info? e).map (·.size) = some 1) (hq : P.eqGuardType P.depth t = false)
    (hgd : Region.wanted o (yielded ops a.tmps) = true) (ho : o.op = .binOp .eql t x y ty) (hxv : a.eval x = .agg (bcs xs).toArray) (hyv : a.eval y = .agg (bcs ys).toArray) (hx : xs.length = n) (hy : ys.length = n) (hb : (xs == ys) = b)
    (hk : wpList P ops Q rest (a.put o.dst (.bool b)) w) : wpList P ops Q (o :: rest) a w := by
  refine opVal (v := .bool b) hgd ?_ hk
  unfold execOp
  have hr := run_eqBytes (P := P) w ht he hs xs ys hx hy
  rw [hb] at hr
  simp [ho, hxv, hyv, eqGuard, hq, run_eql_struct, hr]
/-- Values are put into slots. -/
def putsX (f : Nat → Value) : List (Nat × Nat) → Act → Act
  | [], a => a
  | p :: X, a => putsX f X (a.put (some p.2) (f p.2))
theorem putsX_size (f : Nat → Value) : ∀ (X : List (Nat × Nat)) (a : Act), (putsX f X a).tmps.size = a.tmps.size ∧ (putsX f X a).defers = a.defers
  | [], _ => ⟨rfl, rfl⟩
  | p :: X, a => by rw [putsX]; have := putsX_size f X (a.put (some p.2) (f p.2)); exact ⟨this.1.trans (by simp [Act.put]), this.2⟩
theorem putsX_get (f : Nat → Value) : ∀ (X : List (Nat × Nat)) (a : Act) (t : Nat), t < a.tmps.size → (putsX f X a).tmps.getD t undef = if X.any (·.2 == t) then f t else a.tmps.getD t undef
  | [], a, t, _ => by simp [putsX]
  | p :: X, a, t, ht => by
    rw [putsX, putsX_get f X _ t (by simpa [Act.put] using ht), List.any_cons]
    by_cases h : p.2 = t
    · subst h
      rw [getD_put_same ht]
      simp
    · rw [getD_put_other h]
      have : (p.2 == t) = false := by simpa using h
      rw [this, Bool.false_or]
theorem FrameX.eq {a0 a : Act} {X : List (Nat × Nat)} (h : FrameX a0 X a) : a = putsX (fun t => a.tmps.getD t undef) X a0 := by
  obtain ⟨hs, hd⟩ := putsX_size (fun t => a.tmps.getD t undef) X a0
  have ht : a.tmps = (putsX (fun t => a.tmps.getD t undef) X a0).tmps := by
    apply Array.ext
    · rw [hs, h.size]
    · intro t h1 h2
      have gd : ∀ (xs : Array Value) (h : t < xs.size), xs.getD t undef = xs[t] := fun xs h => by simp [h]
      rw [← gd _ h1, ← gd _ h2, putsX_get _ X a0 t (by rw [← h.size]; exact h1)]
      cases hx : X.any (·.2 == t) with
      | true => rfl
      | false =>
        refine h.same t fun p hp e => ?_
        rw [List.any_eq_false] at hx
        exact hx p hp (by simpa using e)
  cases a with
  | mk tm df =>
    generalize hp : putsX (fun t => (Act.mk tm df).tmps.getD t undef) X a0 = b at *
    cases b with
    | mk tm2 df2 =>
      have e1 : tm = tm2 := ht
      have e2 : df = df2 := h.defers.trans hd.symm
      rw [e1, e2]
/-- Function f has a text of its own. -/
def callable (P : Program) (f : FuncId) : Bool := match P.funcs[f]? with
  | some fn => !(fn.name == "runtime.NumGoroutine") && fn.body.isSome
  | none => false
/-- A call of a Go function. -/
theorem callOp {P : Program} {w : World} {ops : Array Oper} {rest : List Oper} {o : Oper} {a : Act} {Q : Exit → Act → World → Prop} {c : Operand} {args : Array Operand} {argTypes : Array TypeId} (f : FuncId) (vals first caps : List Value)
    (hf : callable P f = true) (hgd : Region.wanted o (yielded ops a.tmps) = true) (ho : o.op = .call { callee := .value c, args, argTypes }) (hc : a.eval c = .func (.func f) first.toArray caps.toArray) (hargs : args.toList.map a.eval = vals)
    (h : Calls P f (first ++ vals ++ caps).toArray w (fun e w' => ∃ v, e = .returned v ∧ wpList P ops Q rest (a.put o.dst v) w')) : wpList P ops Q (o :: rest) a w := by
  unfold callable at hf
  cases hfn : P.funcs[f]? with
  | none => rw [hfn] at hf; cases hf
  | some fn =>
    rw [hfn] at hf
    simp only [Bool.and_eq_true, Bool.not_eq_true', beq_eq_false_iff_ne] at hf
    obtain ⟨h1, h2⟩ := hf
    obtain ⟨b, hb⟩ := Option.isSome_iff_exists.1 h2
    refine wpList_want hgd fun K hK => ?_
    unfold Oper.wp execOp
    have hargs' : args.map a.eval = vals.toArray := by
      apply Array.ext'
      rw [Array.toList_map, hargs]
    have hrun : ∀ vs, (callFunc f vs).run P w = .ok (.enter f vs) w := fun vs => by simp [callFunc, hfn, h1, hb]
    have happ : first.toArray ++ vals.toArray ++ caps.toArray = (first ++ vals ++ caps).toArray := by simp
    simp only [ho, resolve, hc, Deferred.ofValue, invoke, Sem.run_bind, Sem.run_pure, Result.andThen_ok, hargs', hrun, Oper.upon, happ]
    refine h.mono fun e w' ⟨v, he, hw⟩ => ?_
    subst he
    exact hK _ _ hw
end Go.Proofs.YtienlndjhcmemaaDoor
/-
  Plain functions for the wire encoding: what encoding and decoding compute, on integers and lists of bytes. No program in sight.
-/
namespace Go.Proofs.YtienlndjhcmemaaDoor
open Go.RowKit

/-- The number that an integer is encoded as. -/
def zz (n : Int) : Nat := if n < 0 then (2 * (-1 - n) + 1).toNat else (2 * n).toNat
def unzz (z : Nat) : Int := if z % 2 = 1 then -1 - ((z / 2 : Nat) : Int) else ((z / 2 : Nat) : Int)
def encN : Nat → Nat → List UInt8
  | 0, z => [UInt8.ofNat z]
  | k + 1, z => if z < 128 then [UInt8.ofNat z] else UInt8.ofNat (z % 128 + 128) :: encN k (z / 128)
def enc (n : Int) : List UInt8 := encN 9 (zz n)

theorem zz_lt (n : Int) (h1 : -9223372036854775808 ≤ n) (h2 : n ≤ 9223372036854775807) : zz n < 18446744073709551616 := by unfold zz; split <;> omega
theorem unzz_zz (n : Int) : unzz (zz n) = n := by unfold zz unzz; split <;> split <;> omega
theorem zz_unzz (z : Nat) : zz (unzz z) = z := by unfold unzz zz; split <;> split <;> omega
theorem unzz_lo (z : Nat) (h : z < 18446744073709551616) : -9223372036854775808 ≤ unzz z := by unfold unzz; split <;> omega
theorem unzz_hi (z : Nat) (h : z < 18446744073709551616) : unzz z ≤ 9223372036854775807 := by unfold unzz; split <;> omega

theorem encN_pos (k z : Nat) : 0 < (encN k z).length := by
  cases k with
  | zero => simp [encN]
  | succ k => unfold encN; split <;> simp
theorem encN_len (k : Nat) : ∀ z, (encN k z).length ≤ k + 1 := by
  induction k with
  | zero => intro z; simp [encN]
  | succ k ih => intro z; unfold encN; split <;> simp; exact ih _
theorem enc_len (n : Int) : (enc n).length ≤ 10 := encN_len 9 _
theorem enc_pos (n : Int) : 0 < (enc n).length := encN_pos 9 _
/-- The number as the program makes it. -/
theorem zz_bits (n : Int) (h1 : -9223372036854775808 ≤ n) (h2 : n ≤ 9223372036854775807) :
    bits .xor .u64 (IntKind.u64.wrap (IntKind.u64.wrap n * 2)) (IntKind.u64.wrap (n / 9223372036854775808)) = (zz n : Int) := by
  simp only [IntKind.wrap_u64]
  by_cases h : 0 ≤ n
  · have e1 : n % 18446744073709551616 * 2 % 18446744073709551616 = ((2 * n).toNat : Nat) := by omega
    have e2 : n / 9223372036854775808 % 18446744073709551616 = ((0 : Nat) : Int) := by omega
    rw [e1, e2, u64_xor_n _ _ (by omega) (by omega), Nat.xor_zero]
    unfold zz
    rw [if_neg (by omega)]
  · have e1 : n % 18446744073709551616 * 2 % 18446744073709551616 = ((2 * n + 18446744073709551616).toNat : Nat) := by omega
    have e2 : n / 9223372036854775808 % 18446744073709551616 = ((2 ^ 64 - 1 : Nat) : Int) := by omega
    rw [e1, e2, u64_xor_n _ _ (by omega) (by omega), nat_xor_ones 64 _ (by omega)]
    unfold zz
    rw [if_pos (by omega)]
    omega
theorem encN_step (k m : Nat) (h : 128 ≤ m) : encN (k + 1) m = UInt8.ofNat (m % 128 + 128) :: encN k (m / 128) := by rw [encN, if_neg (by omega)]
theorem encN_last (k m : Nat) (h : m < 128) : encN k m = [UInt8.ofNat m] := by
  cases k with
  | zero => rfl
  | succ k => rw [encN, if_pos h]
theorem ofNat_toNat8 (m : Nat) (h : m < 256) : (UInt8.ofNat m).toNat = m := by simp; omega
def encS (s : List UInt8) : List UInt8 := enc s.length ++ s
def encI (l : List Int) : List UInt8 := enc l.length ++ (l.map enc).flatten
def encT (l : List (List UInt8)) : List UInt8 := enc l.length ++ (l.map encS).flatten
def encD (n : Nat) (D : List UInt8) : List UInt8 := enc n ++ D
/-- A text as a value; an int. -/
def sv (s : List UInt8) : Value := .string ⟨s.toArray⟩
def iv (n : Int) : Value := .int .i64 n
def isI64 (n : Int) : Prop := -9223372036854775808 ≤ n ∧ n ≤ 9223372036854775807
theorem flat_take {α : Type} (f : α → List UInt8) (l : List α) (k : Nat) (x : α) (h : l[k]? = some x) : ((l.take (k + 1)).map f).flatten = ((l.take k).map f).flatten ++ f x := by
  have hk : k < l.length := by
    rcases Nat.lt_or_ge k l.length with hh | hh
    · exact hh
    · rw [List.getElem?_eq_none hh] at h; cases h
  have hx : l[k] = x := by rw [List.getElem?_eq_getElem hk] at h; exact Option.some.inj h
  rw [List.take_succ_eq_append_getElem hk, List.map_append, List.flatten_append, hx]
  simp
theorem flat_take_le {α : Type} (f : α → List UInt8) (l : List α) (k : Nat) : ((l.take k).map f).flatten.length ≤ (l.map f).flatten.length := by
  have e : (l.map f).flatten = ((l.take k).map f).flatten ++ ((l.drop k).map f).flatten := by
    rw [← List.flatten_append, ← List.map_append, List.take_append_drop]
  rw [e, List.length_append]; omega
end Go.Proofs.YtienlndjhcmemaaDoor
/-
  wire.Int and the reference's Int return the bytes enc n, in a new row.
-/
namespace Go.Proofs.YtienlndjhcmemaaDoor
open Go.RowKit

theorem Tryd.sl_u8 : SlTy Tryd.prog 43 5 (.int .u8 0) 1 1 := ⟨by kernel_rfl, by kernel_rfl, rfl, by decide⟩

theorem int_rel {n : Int} {pre : List UInt8} {m k : Nat} (hm : 128 ≤ m) (hm2 : m < 128 * 128 ^ k) (he : Hid (pre ++ encN k m = enc n)) :
    ∃ k', k = k' + 1 ∧ m / 128 < 128 * 128 ^ k' ∧ Hid ((pre ++ [UInt8.ofNat (m % 128 + 128)]) ++ encN k' (m / 128) = enc n) := by
  cases k with
  | zero => omega
  | succ k =>
    refine ⟨k, rfl, ?_, ?_⟩
    · rw [Nat.pow_succ] at hm2; omega
    · have h := he.out
      rw [encN_step k m hm] at h
      show _ = _
      rw [← h]; simp
theorem int_bc1 (m : Nat) (h : m < 256) : Value.int .u8 (m : Int) = bc (UInt8.ofNat m) := by unfold bc; rw [ofNat_toNat8 m h]
theorem int_bc2 (m : Nat) : Value.int .u8 (bits .or .u8 ((m : Int) % 256) 128) = bc (UInt8.ofNat (m % 128 + 128)) := by rw [u8_or_128, int_bc1 _ (by omega)]
theorem bcs_snoc (l : List UInt8) (b : UInt8) : bcs l ++ [bc b] = bcs (l ++ [b]) := by simp [bcs]

set_option maxHeartbeats 400000 in
theorem int_any (n : Int) (w : World) (h1 : -9223372036854775808 ≤ n) (h2 : n ≤ 9223372036854775807) :
    Calls Tryd.prog 26 #[.int .i64 n] w (RetRow w 5 1 (enc n).length (bcs (enc n))) := by
  have hz := zz_bits n h1 h2
  have hzl := zz_lt n h1 h2
  go_enter Tryd.func26, Tryd.ntmps26
  go_wp2
  go_loopw [3, 4] (fun z v wr => ∃ (m k : Nat) (pre : List UInt8), m < 18446744073709551616 ∧ z = .int .u64 m ∧ wr.ownsRow w.heap.size 5 1 v pre.length (bcs pre) ∧ pre.length + k = 9 ∧ Hid (pre ++ encN k m = enc n) ∧ Hid (m < 128 * 128 ^ k) ∧ Below w.heap.size w wr)
    (fun z _ _ => (intOf z).toNat)
  case atStart =>
    exact ⟨zz n, 9, [], hzl, by first | rw [hz] | rfl, World.ownsRow_nil _ _ _ _, rfl, rfl, (by show _ < _; omega), Below.refl _ _⟩
  case round =>
    obtain ⟨m, k, pre, hm, rfl, hown, hl, he, hk, hb⟩ := hrel
    go_wp2_with (at_builtin; with_reducible refine app1 _ _ Tryd.sl_u8 (wn rfl) rfl rfl rfl hown hb (Nat.le_refl _) ?_ (by omega) (by omega) ?_)
    · rfl
    · intro v' w' h3 h4 _
      have hgt : 128 ≤ m := by omega
      obtain ⟨k', rfl, r1, r2⟩ := int_rel hgt hk.out he
      rw [int_bc2, bcs_snoc] at h3
      clear he hk hown hb hz
      go_wp2
      go_roundw
      case rel => exact ⟨m / 128, k', _, by omega, by go_num, ownsRow_count h3 (by simp) rfl, by simp; omega, r2, r1, h4⟩
      case measure => simp [intOf]; omega
    · rfl
    · intro v' w' h3 h4 _
      have hlt : m < 128 := by omega
      have he' := he.out
      rw [encN_last k m hlt] at he'
      rw [int_bc1 m (by omega), bcs_snoc, he'] at h3
      have hlen : pre.length + 1 = (enc n).length := by rw [← he']; simp
      have HL := Lib.hid hlen
      clear hlen he he' hk hown hb hz
      go_wp2
      go_ret
      exact ⟨_, rfl, ownsRow_count h3 HL.out rfl, h4⟩
end Go.Proofs.YtienlndjhcmemaaDoor
/-
  The reference's Int returns the bytes enc n, in a new row.
-/
namespace Go.Proofs.YtienlndjhcmemaaDoor
open Go.RowKit

theorem int_z1 {n : Int} (h : n < 0) : Value.int .u64 ((-1 - n) * 2 + 1) = .int .u64 (zz n : Int) := by congr 1; unfold zz; rw [if_pos h]; omega
theorem int_z2 {n : Int} (h : ¬ n < 0) : Value.int .u64 (n * 2) = .int .u64 (zz n : Int) := by congr 1; unfold zz; rw [if_neg h]; omega
theorem int_bc3 (m : Nat) : Value.int .u8 ((m : Int) % 128 + 128) = bc (UInt8.ofNat (m % 128 + 128)) := by rw [← int_bc1 _ (by omega)]; congr 1

set_option maxRecDepth 100000 in
set_option maxHeartbeats 400000 in
theorem refInt_any (n : Int) (w : World) (h1 : -9223372036854775808 ≤ n) (h2 : n ≤ 9223372036854775807) :
    Calls Tryd.prog 24 #[.int .i64 n] w (RetRow w 5 1 (enc n).length (bcs (enc n))) := by
  have hzl := zz_lt n h1 h2
  go_enter Tryd.func24, Tryd.ntmps24
  by_cases hneg : n < 0
  all_goals
    go_wp2
    go_loopw [3, 4] (fun z v wr => ∃ (m k : Nat) (pre : List UInt8), m < 18446744073709551616 ∧ z = .int .u64 m ∧ wr.ownsRow w.heap.size 5 1 v pre.length (bcs pre) ∧ pre.length + k = 9 ∧ Hid (pre ++ encN k m = enc n) ∧ Hid (m < 128 * 128 ^ k) ∧ Below w.heap.size w wr)
      (fun z _ _ => (intOf z).toNat)
    case atStart =>
      exact ⟨zz n, 9, [], hzl, (by first | exact int_z1 hneg | exact int_z2 (by omega)), World.ownsRow_nil _ _ _ _, rfl, rfl, (by show _ < _; omega), Below.refl _ _⟩
    case round =>
      obtain ⟨m, k, pre, hm, rfl, hown, hl, he, hk, hb⟩ := hrel
      clear hneg hzl
      go_wp2_with (at_builtin; with_reducible refine app1 _ _ Tryd.sl_u8 (wn rfl) rfl rfl rfl hown hb (Nat.le_refl _) ?_ (by omega) (by omega) ?_)
      · rfl
      · intro v' w' h3 h4 _
        have hgt : 128 ≤ m := by omega
        obtain ⟨k', rfl, r1, r2⟩ := int_rel hgt hk.out he
        rw [int_bc3, bcs_snoc] at h3
        clear he hk hown hb
        go_wp2
        go_roundw
        case rel => exact ⟨m / 128, k', _, by omega, by go_num, ownsRow_count h3 (by simp) rfl, by simp; omega, r2, r1, h4⟩
        case measure => simp [intOf]; omega
      · rfl
      · intro v' w' h3 h4 _
        have hlt : m < 128 := by omega
        have he' := he.out
        rw [encN_last k m hlt] at he'
        rw [int_bc1 m (by omega), bcs_snoc, he'] at h3
        have hlen : pre.length + 1 = (enc n).length := by rw [← he']; simp
        have HL := Lib.hid hlen
        clear hlen he he' hk hown hb
        go_wp2
        go_ret
        exact ⟨_, rfl, ownsRow_count h3 HL.out rfl, h4⟩
end Go.Proofs.YtienlndjhcmemaaDoor
