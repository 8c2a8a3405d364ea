/-
  OA: several texts in one: Base, Bits, Quiet, Full, Rows5, Arr, Reg, Mid, Float, Arith, Arith2, Bridge, BRow, Last, App, EqInts, WireSpec, Mem, Kit, FloatD. No statement is proved here.
-/
import Derived.WalkKit
import Derived.WalkSpells
import Derived.WalkLawsBesides
import Derived.Lib.Hide
import Derived.Lib.AppendStr
import Derived.Deep.AppendLies
import Derived.Deep.Draws
import Derived.Maps.AppendAt
import Derived.Laws.CopyOwn
import Derived.Great.BuildSlice
import Derived.Laws.BitsAllLaws
import Derived.Deep.QuietTactic
import Derived.BigQuiet
import Derived.Stop.BytesEq
import Derived.OrdersHeld
import Derived.Lib.ConvBytes
import Derived.IntWalk
import Derived.ProofKit
import Derived.OpenShut
import Derived.Deep.Slices
import Derived.SizedLaws
import Derived.Deep.CondSized
import Derived.Laws.StructEq
import Derived.Test.YtkfijpghjjnpkaaRows
import Derived.Laws.OwnMore
import Derived.Laws.EntriesVeiled
set_option linter.unusedVariables false
set_option linter.unusedSimpArgs false
/-
  Plain words and laws for memory, over any program: what a slice reads as (Rd), what a call owns, one-element and string appends. No statement is proved here.
-/
namespace Go.Proofs.Ytkfijpghjjnpkaa
open Go.RowKit

/-- A byte as a cell. -/
def bc (b : UInt8) : Value := .int .u8 (b.toNat : Int)
def bcs (l : List UInt8) : List Value := l.map bc
theorem bcs_length (l : List UInt8) : (bcs l).length = l.length := by simp [bcs]
theorem bcs_append (a b : List UInt8) : bcs (a ++ b) = bcs a ++ bcs b := by simp [bcs]
theorem bcs_one (l : List UInt8) : ∀ u ∈ bcs l, u.oneCell' = true := by
  intro u hu
  simp only [bcs, List.mem_map] at hu
  obtain ⟨b, _, rfl⟩ := hu
  rfl
theorem bcs_str (s : ByteArray) : Lib.strCells s = bcs s.data.toList := rfl

/-- The facts on a slice type t of elements e that take size cells. -/
structure SlTy (P : Program) (t e : TypeId) (z : Value) (size bytes : Nat) : Prop where
  und : P.underlying t = some (.slice e)
  inf : (P.info? e).map (fun i => (i.zero, i.size, i.bytes)) = some (some z, size, bytes)
  zs : z.cells.size = size
  pos : 0 < size

/-- What a slice value of address A, length n and capacity c reads as. -/
structure Rd (w : World) (B size : Nat) (A : Option Addr) (n c : Nat) (xs : List Value) : Prop where
  len : xs.length = n * size
  le : n ≤ c
  cap : c ≤ maxLen
  cells : 0 < n * size → ∃ b off, A = some ⟨b, off, none⟩ ∧ b < B ∧ ∀ j u, xs[j]? = some u → w.cell? ⟨b, off + j, none⟩ = some u

section
variable {w w' : World} {B B' size n c : Nat} {A : Option Addr} {xs : List Value}
theorem Rd.keep (h : Rd w B size A n c xs) (hk : ∀ p : Addr, p.block < B → w'.cell? p = w.cell? p) : Rd w' B size A n c xs :=
  ⟨h.len, h.le, h.cap, fun hn => by
    obtain ⟨b, off, e, hb, hc⟩ := h.cells hn
    exact ⟨b, off, e, hb, fun j u hu => (hk _ hb).trans (hc j u hu)⟩⟩
theorem Rd.below (h : Rd w B size A n c xs) (hb : Below B w w') : Rd w' B size A n c xs := h.keep fun _ hp => hb.cell hp
theorem Rd.more (h : Rd w B size A n c xs) (hB : B ≤ B') : Rd w B' size A n c xs :=
  ⟨h.len, h.le, h.cap, fun hn => by
    obtain ⟨b, off, e, hb, hc⟩ := h.cells hn
    exact ⟨b, off, e, by omega, hc⟩⟩
theorem Rd.drew (h : Rd w B size A n c xs) : Rd w.drew B size A n c xs := ⟨h.len, h.le, h.cap, h.cells⟩
theorem Rd.alloc (h : Rd w B size A n c xs) (hB : B ≤ w.heap.size) (o : Obj) : Rd (w.alloc o) B size A n c xs :=
  h.keep fun p hp => World.cell?_alloc_lt w o p (by omega)
theorem Rd.grown (h : Rd w B size A n c xs) {row : Option Nat} (hg : w.grownBy w' row) (hB : B ≤ w.heap.size) (hr : ∀ g, row = some g → B ≤ g) : Rd w' B size A n c xs :=
  h.keep fun p hp => World.cell?_of_block (hg.block p.block (by omega) (fun e => by have := hr _ e.symm; omega))
theorem Rd.at1 {k : Nat} (h : Rd w B 1 A n c xs) (hk : k < n) : ∃ b off u, A = some ⟨b, off, none⟩ ∧ b < B ∧ xs[k]? = some u ∧ w.cell? ⟨b, off + k, none⟩ = some u := by
  obtain ⟨b, off, e, hb, hc⟩ := h.cells (by omega)
  have hl : k < xs.length := by have := h.len; omega
  exact ⟨b, off, xs[k], e, hb, List.getElem?_eq_getElem hl, hc k _ (List.getElem?_eq_getElem hl)⟩
theorem Rd.nil (w : World) (B size : Nat) : Rd w B size none 0 0 [] := ⟨by simp, Nat.le_refl _, Nat.zero_le _, fun h => absurd h (by omega)⟩
/-- 's[lo:hi]' within the length, as the model makes it. -/
theorem Rd.cut (h : Rd w B size A n c xs) {lo hi m : Nat} (h1 : lo ≤ hi) (h2 : hi ≤ n) (h3 : hi ≤ m) (h4 : m ≤ c) :
    Rd w B size (if m = lo then A else A.map (·.add (lo * size))) (hi - lo) (m - lo) ((xs.drop (lo * size)).take ((hi - lo) * size)) := by
  have hle : hi * size ≤ n * size := Nat.mul_le_mul_right _ h2
  have hlo : lo * size ≤ hi * size := Nat.mul_le_mul_right _ h1
  have hl : xs.length = n * size := h.len
  refine ⟨?_, by omega, by have := h.cap; omega, fun hn => ?_⟩
  · rw [List.length_take, List.length_drop, Nat.sub_mul, hl]; omega
  · have hlt : lo < hi := by
      rcases Nat.lt_or_ge lo hi with hh | hh
      · exact hh
      · rw [show hi - lo = 0 from by omega] at hn; simp at hn
    have hs : 0 < size := Nat.pos_of_mul_pos_left hn
    obtain ⟨b, off, rfl, hb, hc⟩ := h.cells (by have := Nat.mul_le_mul_right size (show 1 ≤ n by omega); omega)
    rw [if_neg (by omega)]
    refine ⟨b, off + lo * size, ?_, hb, fun j u hu => ?_⟩
    · simp only [Option.map_some, Addr.add]
      by_cases hz : lo * size = 0
      · rw [if_pos hz, hz]; rfl
      · rw [if_neg hz]
    · rw [Nat.add_assoc]
      refine hc _ _ ?_
      rw [List.getElem?_take] at hu
      split at hu
      · rw [← hu, List.getElem?_drop]
      · cases hu
theorem Rd.of_own {base : Nat} {e : TypeId} {v : Value} (h : w.ownsRow base e size v n xs) : ∃ A c, v = .slice A n c ∧ Rd w w.heap.size size A n c xs := by
  rcases h.2 with ⟨rfl, rfl⟩ | ⟨g, cap, cur, rfl, hb, hg, hn, hm, _⟩
  · refine ⟨none, 0, rfl, h.1, Nat.le_refl _, Nat.zero_le _, fun hh => absurd hh (by simp)⟩
  · refine ⟨some ⟨g, 0, none⟩, cap, rfl, h.1, hn, hm, fun _ => ⟨g, 0, rfl, ?_, fun j u hu => ?_⟩⟩
    · exact (h.lt g rfl).2
    · have := h.cells (g := g) rfl j u hu
      have hadd : (⟨g, 0, none⟩ : Addr).add j = ⟨g, 0 + j, none⟩ := by unfold Addr.add; split <;> simp_all
      rwa [hadd] at this
end

theorem ownsRow_below {w w' : World} {base B : Nat} {e : TypeId} {size n : Nat} {v : Value} {xs : List Value} (h : w.ownsRow base e size v n xs) (hb : Below B w w') (hs : w.heap.size ≤ B) : w'.ownsRow base e size v n xs := by
  refine h.kept (row := none) ⟨hb.os, hb.tape, hb.output, hb.size, fun k hk _ => hb.block k (by omega)⟩ ?_
  cases hv : v.ownBlock
  · exact Or.inl rfl
  · exact Or.inr (by simp)
theorem ownsRow_base {w : World} {base base' : Nat} {e : TypeId} {size n : Nat} {v : Value} {xs : List Value} (h : w.ownsRow base e size v n xs) (hb : base' ≤ base) : w.ownsRow base' e size v n xs := by
  refine ⟨h.1, ?_⟩
  rcases h.2 with h2 | ⟨g, cap, cur, hv, hg, r⟩
  · exact Or.inl h2
  · exact Or.inr ⟨g, cap, cur, hv, by omega, r⟩
theorem ownsRow_count {w : World} {base n n' : Nat} {e : TypeId} {size : Nat} {v : Value} {xs xs' : List Value} (h : w.ownsRow base e size v n xs) (hn : n = n') (hx : xs = xs') : w.ownsRow base e size v n' xs' := by subst hn; subst hx; exact h

theorem wn {o : Oper} {y : Nat → Option Bool} (h : o.guard = none) : Region.wanted o y = true := by simp [Region.wanted, h]
theorem wpList_want {P : Program} {ops : Array Oper} {Q : Exit → Act → World → Prop} {a : Act} {w : World} {rest : List Oper} {o : Oper} (hw : Region.wanted o (yielded ops a.tmps) = true)
    (h : ∀ K : Act → World → Prop, (∀ a w, wpList P ops Q rest a w → K a w) → o.wp P a w K Q) : wpList P ops Q (o :: rest) a w :=
  wpList_step fun K hK => by rw [if_pos hw]; exact h K hK

section
variable {P : Program} {w w0 : World} {ops : Array Oper} {rest : List Oper} {o : Oper} {a : Act} {Q : Exit → Act → World → Prop}

/-- 'append(v, u)': one element of one cell onto a row of the call's own. -/
theorem app1 {t e : TypeId} {z : Value} {bytes base n : Nat} {v u : Value} {xs : List Value} (s x : Operand) (T : SlTy P t e z 1 bytes) (hgd : Region.wanted o (yielded ops a.tmps) = true)
    (ho : o.op = .call { callee := .builtin .append, args := #[s, x], argTypes := #[t, t] })
    (hs : a.eval s = v) (hx : a.eval x = .slice (some ⟨w.heap.size, 0, none⟩) 1 1)
    (hown : w.ownsRow base e 1 v n xs) (hb : Below base w0 w) (hbase : base ≤ w0.heap.size) (hu : u.oneCell' = true)
    (hn : n + 1 ≤ 70368744177664) (hby : (n + 1) * bytes ≤ 140737488355328)
    (h : ∀ v' w', w'.ownsRow base e 1 v' (n + 1) (xs ++ [u]) → Below base w0 w' → (w.alloc (.cells #[u] e)).grownBy w' v.ownBlock → wpList P ops Q rest (a.put o.dst v') w') :
    wpList P ops Q (o :: rest) a (w.alloc (.cells #[u] e)) := by
  obtain ⟨i, hi, hz0, hz1, hz2⟩ := info_parts T.inf
  have hsz : base ≤ (w.alloc (.cells #[u] e)).heap.size := by have := hb.size; simp; omega
  refine wpList_want hgd fun K hK => wp_append_own _ s x t ho base e i z 1 bytes T.und hi hz0 hz1 hz2 T.zs T.pos v n xs hs (hown.alloc _) ⟨w.heap.size, 0, none⟩ 1 1 [u] hx (by simp) ?_ ?_
    (by unfold maxLen; omega) hby hsz fun v' w' h1 h2 _ => hK _ _ (h v' w' h1 ?_ h2)
  · intro j y hj
    match j, hj with
    | 0, hj => simp at hj; subst hj; simp [Addr.add]
  · intro y hy; simp at hy; subst hy; exact hu
  · refine (hb.alloc (by have := hb.size; omega) _).grown h2 hsz ?_
    intro k hk
    exact ((hown.alloc (.cells #[u] e)).lt k hk).1

/-- 'append(v, text...)' onto bytes of the call's own. -/
theorem appS {t e u : TypeId} {base n : Nat} {v : Value} {xs : List Value} (s x : Operand) (txt : ByteArray) (T : SlTy P t e (.int .u8 0) 1 1) (hu : P.underlying u = some .string) (hgd : Region.wanted o (yielded ops a.tmps) = true)
    (ho : o.op = .call { callee := .builtin .append, args := #[s, x], argTypes := #[t, u] })
    (hs : a.eval s = v) (hx : a.eval x = .string txt)
    (hown : w.ownsRow base e 1 v n xs) (hb : Below base w0 w) (hbase : base ≤ w0.heap.size)
    (hn : n + txt.size ≤ 140737488355328)
    (h : ∀ v' w', w'.ownsRow base e 1 v' (n + txt.size) (xs ++ bcs txt.data.toList) → Below base w0 w' → w.grownBy w' v.ownBlock → wpList P ops Q rest (a.put o.dst v') w') :
    wpList P ops Q (o :: rest) a w := by
  obtain ⟨i, hi, hz0, hz1, hz2⟩ := info_parts T.inf
  have hsz : base ≤ w.heap.size := by have := hb.size; omega
  obtain ⟨v', w', hr, h1, h2, _⟩ := Lib.run_append_own_string (P := P) w base t u o.type e i T.und hu hi hz0 hz1 hz2 v n xs hown txt (by unfold maxLen; omega) hn hsz
  refine wpList_want hgd fun K hK => ?_
  unfold Oper.wp execOp
  simp only [ho, resolve, invoke, builtin, Sem.run_bind, Sem.run_pure, Result.andThen_ok, List.map_toArray, List.map_cons, List.map_nil, hs, hx, hr]
  exact hK _ _ (h v' w' (by rw [← bcs_str]; exact h1) (hb.grown h2 hsz fun k hk => (hown.lt k hk).1) h2)

/-- 'append(v, l...)' of a slice that reads as ys, onto a row of the call's own. -/
theorem appR {t e : TypeId} {z : Value} {size bytes base B n m c : Nat} {v : Value} {A : Option Addr} {xs ys : List Value} (s x : Operand) (T : SlTy P t e z size bytes) (hgd : Region.wanted o (yielded ops a.tmps) = true)
    (ho : o.op = .call { callee := .builtin .append, args := #[s, x], argTypes := #[t, t] })
    (hs : a.eval s = v) (hx : a.eval x = .slice A m c)
    (hown : w.ownsRow base e size v n xs) (hr : Rd w B size A m c ys) (hone : ∀ u ∈ ys, u.oneCell' = true) (hb : Below base w0 w) (hbase : base ≤ w0.heap.size)
    (hn : n + m ≤ 70368744177664) (hby : (n + m) * bytes ≤ 140737488355328)
    (h : ∀ v' w', w'.ownsRow base e size v' (n + m) (xs ++ ys) → Below base w0 w' → w.grownBy w' v.ownBlock → wpList P ops Q rest (a.put o.dst v') w') :
    wpList P ops Q (o :: rest) a w := by
  obtain ⟨i, hi, hz0, hz1, hz2⟩ := info_parts T.inf
  have hsz : base ≤ w.heap.size := by have := hb.size; omega
  have hpos := T.pos
  by_cases hm : m = 0
  · subst hm
    have hy : ys = [] := List.eq_nil_of_length_eq_zero (by have := hr.len; simpa using this)
    subst hy
    have hrun : (Builtin.append_ #[t, t] o.type #[v, .slice A 0 c]).run P w = .ok v w := by
      rcases hown.2 with ⟨rfl, rfl⟩ | ⟨g, cap, cur, rfl, _, _, hnc, _⟩
      · cases A <;> simp [Builtin.append_, run_underlying T.und, sizeOf, typeInfo, hi, Builtin.lenOf, Builtin.firstCells, loadCells, loadCellsFrom]
      · cases A <;> simp [Builtin.append_, run_underlying T.und, sizeOf, typeInfo, hi, Builtin.lenOf, Builtin.firstCells, hnc, storeCells, loadCells, loadCellsFrom]
    refine wpList_want hgd fun K hK => ?_
    unfold Oper.wp execOp
    simp only [ho, resolve, invoke, builtin, Sem.run_bind, Sem.run_pure, Result.andThen_ok, List.map_toArray, List.map_cons, List.map_nil, hs, hx, hrun]
    exact hK _ _ (h v w (by simpa using hown) hb (World.grownBy.refl _ _))
  · have hpm : 0 < m * size := Nat.mul_pos (by omega) hpos
    obtain ⟨b, off, rfl, hlt, hc⟩ := hr.cells hpm
    refine wpList_want hgd fun K hK => wp_append_own _ s x t ho base e i z size bytes T.und hi hz0 hz1 hz2 T.zs T.pos v n xs hs hown ⟨b, off, none⟩ m c ys hx hr.len ?_ hone
      (by unfold maxLen; omega) hby hsz fun v' w' h1 h2 _ => hK _ _ (h v' w' h1 (hb.grown h2 hsz fun k hk => (hown.lt k hk).1) h2)
    intro j u hu
    have := hc j u hu
    have hadd : (⟨b, off, none⟩ : Addr).add j = ⟨b, off + j, none⟩ := by unfold Addr.add; split <;> simp_all
    rwa [hadd]
end

/-- The facts on a struct or array type ty of n cells whose zero value has the cells z. -/
structure AgTy (P : Program) (ty : TypeId) (z : Array Value) (n : Nat) : Prop where
  agg : ((P.underlying ty).map fun d => match d with | .struct _ | .array _ _ => true | _ => false) = some true
  inf : (P.info? ty).map (fun i => (i.zero.map Value.cells, i.size)) = some (some z, n)
  zs : z.size = n

section
variable {P : Program} {w : World} {ops : Array Oper} {rest : List Oper} {o : Oper} {a : Act} {Q : Exit → Act → World → Prop}
theorem run_isAgg {ty : TypeId} {z : Array Value} {n : Nat} (T : AgTy P ty z n) (w : World) : (isAgg ty).run P w = .ok true w := by
  obtain ⟨d, hd, h2⟩ := Option.map_eq_some_iff.1 T.agg
  unfold isAgg
  rw [Sem.run_bind, run_underlying hd w]
  cases d <;> simp_all
theorem AgTy.parts {ty : TypeId} {z : Array Value} {n : Nat} (T : AgTy P ty z n) : ∃ i, P.info? ty = some i ∧ i.zero.map Value.cells = some z ∧ i.size = n := by
  obtain ⟨i, hi, hzz⟩ := Option.map_eq_some_iff.1 T.inf
  simp only [Prod.mk.injEq] at hzz
  exact ⟨i, hi, hzz.1, hzz.2⟩
theorem run_loadAgg {ty : TypeId} {z : Array Value} {n : Nat} (T : AgTy P ty z n) (b off : Nat) (cs : List Value) (hl : cs.length = n) (hc : ∀ j u, cs[j]? = some u → w.cell? ⟨b, off + j, none⟩ = some u) :
    (loadVar ty ⟨b, off, none⟩).run P w = .ok (.agg cs.toArray) w := by
  obtain ⟨i, hi, _, hs⟩ := T.parts
  have hload := run_loadCells_list (P := P) w ⟨b, off, none⟩ cs (fun j v hv => by
    have hadd : (⟨b, off, none⟩ : Addr).add j = ⟨b, off + j, none⟩ := by unfold Addr.add; split <;> simp_all
    rw [hadd]; exact hc j v hv)
  rw [hl] at hload
  simp [loadVar, Sem.run_bind, run_isAgg T, sizeOf, typeInfo, hi, hs, hload]
/-- A struct or an array is loaded whole. -/
theorem ldAgg {ty : TypeId} {z : Array Value} {n b off : Nat} (x : Operand) (cs : List Value) (T : AgTy P ty z n) (hgd : Region.wanted o (yielded ops a.tmps) = true) (ho : o.op = .load ty x)
    (hx : a.eval x = .pointer (some ⟨b, off, none⟩)) (hl : cs.length = n) (hc : ∀ j u, cs[j]? = some u → w.cell? ⟨b, off + j, none⟩ = some u)
    (h : wpList P ops Q rest (a.put o.dst (.agg cs.toArray)) w) : wpList P ops Q (o :: rest) a w := by
  refine wpList_want hgd fun K hK => ?_
  unfold Oper.wp execOp
  simp only [ho, hx, Instr.loadAt, Instr.sureAddr, Sem.run_bind, Sem.run_pure, Result.andThen_ok, run_loadAgg T b off cs hl hc]
  exact hK _ _ h
/-- A new variable of a struct or array type. -/
theorem alAgg {ty : TypeId} {z : Array Value} {n : Nat} (T : AgTy P ty z n) (hgd : Region.wanted o (yielded ops a.tmps) = true) (ho : o.op = .alloc ty)
    (h : wpList P ops Q rest (a.put o.dst (.pointer (some ⟨w.heap.size, 0, none⟩))) (w.alloc (.cells z ty))) : wpList P ops Q (o :: rest) a w := by
  obtain ⟨i, hi, hz, _⟩ := T.parts
  obtain ⟨zv, hzv, hzc⟩ := Option.map_eq_some_iff.1 hz
  refine wpList_want hgd fun K hK => ?_
  unfold Oper.wp execOp
  simp only [ho]
  have hr : (Instr.alloc ty true (.tuple #[])).run P w = .ok (.pointer (some ⟨w.heap.size, 0, none⟩)) (w.alloc (.cells z ty)) := by
    simp [Instr.alloc, zeroValue, typeInfo, hi, hzv, newVar, newRow, hzc]
  simp only [Sem.run_bind, Sem.run_pure, hr, Result.andThen_ok]
  exact hK _ _ h
theorem run_storeAgg {ty : TypeId} {z : Array Value} {n g : Nat} (T : AgTy P ty z n) {cur cs : Array Value} {t : TypeId} (hg : w.heap[g]? = some (.cells cur t (0, 0))) (hs : cur.size = n) (hl : cs.size = n) (h1 : ∀ u ∈ cs, u.oneCell' = true) :
    (storeVar ty ⟨g, 0, none⟩ (.agg cs)).run P w = .ok () (w.setRow g cs) := by
  obtain ⟨i, hi, _, hs'⟩ := T.parts
  have hst := run_storeCells_at P g 0 t cs.toList 0 cur w hg (by simp; omega) (by intro v hv; exact h1 v (by simpa using hv))
  simp only [Nat.zero_add, List.take_zero, List.nil_append, Array.length_toList] at hst
  rw [List.drop_of_length_le (by simp; omega), List.append_nil, Array.toArray_toList] at hst
  simp [storeVar, sizeOf, typeInfo, hi, hs', Value.cells, hl, hst]
theorem setRow_alloc (w : World) (cur cs : Array Value) (t : TypeId) : (w.alloc (.cells cur t)).setRow w.heap.size cs = w.alloc (.cells cs t) := by
  unfold World.setRow World.alloc
  congr 1
  apply Array.ext
  · simp
  · intro i h1 h2
    have hi : i < w.heap.size + 1 := by simpa using h2
    by_cases he : i = w.heap.size
    · subst he; simp [Array.getElem_modify]
    · have hlt : i < w.heap.size := by omega
      have hne : ¬ w.heap.size = i := fun e => he e.symm
      simp [Array.getElem_modify, Array.getElem_push, hlt, hne]
/-- A new variable of a struct or array type is set. -/
theorem stNew {ty : TypeId} {z : Array Value} {n : Nat} (x y : Operand) {cur cs : Array Value} (T : AgTy P ty z n) (hgd : Region.wanted o (yielded ops a.tmps) = true) (ho : o.op = .store ty x y)
    (hx : a.eval x = .pointer (some ⟨w.heap.size, 0, none⟩)) (hy : a.eval y = .agg cs) (hs : cur.size = n) (hl : cs.size = n) (h1 : ∀ u ∈ cs, u.oneCell' = true)
    (h : wpList P ops Q rest (a.put o.dst undef) (w.alloc (.cells cs ty))) : wpList P ops Q (o :: rest) a (w.alloc (.cells cur ty)) := by
  have hg : (w.alloc (.cells cur ty)).heap[w.heap.size]? = some (.cells cur ty (0, 0)) := heap_alloc_new w _
  refine wpList_want hgd fun K hK => ?_
  unfold Oper.wp execOp
  simp only [ho, hx, hy, Instr.storeAt, Instr.sureAddr, Sem.run_bind, Sem.run_pure, Result.andThen_ok, run_storeAgg T hg hs hl h1, setRow_alloc]
  exact hK _ _ h
end

/-- A slice literal of one struct or array. -/
theorem bsAgg1 {P : Program} {w : World} {ops : Array Oper} {rest : List Oper} {o : Oper} {a : Act} {Q : Exit → Act → World → Prop} {t e : TypeId} {z : Value} {size bytes : Nat} {cs : Array Value} (x : Operand)
    (T : SlTy P t e z size bytes) (hgd : Region.wanted o (yielded ops a.tmps) = true) (ho : o.op = .buildSlice t 1 #[(0, x)]) (hx : a.eval x = .agg cs) (hl : cs.size = size) (hs : size ≤ 65536)
    (h : wpList P ops Q rest (a.put o.dst (.slice (some ⟨w.heap.size, 0, none⟩) 1 1)) (w.alloc (.cells cs e))) : wpList P ops Q (o :: rest) a w := by
  obtain ⟨i, hi, hz0, hz1, hz2⟩ := info_parts T.inf
  have hpos := T.pos
  refine wpList_want hgd fun K hK => wp_buildSlice t e 1 _ ho cs i z T.und hi hz0 (by rw [hz1]; omega) (by rw [hz1]; omega) ?_ (hK _ _ h)
  rw [hz1]
  obtain ⟨r, hr, hrs, hrk⟩ := Great.fill_dense hpos [.agg cs] 0 ((Array.range (1 * size)).map (z.cells[· % z.cells.size]!)) (by intro v hv; simp at hv; subst hv; exact hl) (by simp)
  have he : r = cs := by
    apply Array.ext_getElem?
    intro k
    rw [hrk k]
    simp only [Nat.zero_mul, List.length_singleton, Nat.zero_add, Nat.one_mul]
    by_cases hk : k < size
    · rw [if_pos ⟨Nat.zero_le _, hk⟩, Nat.div_eq_of_lt hk, Nat.mod_eq_of_lt hk]
      simp [Value.cells]
    · rw [if_neg (by omega)]
      rw [Array.getElem?_eq_none (by simp; omega), Array.getElem?_eq_none (by omega)]
  rw [he] at hr
  rw [← hr]
  simp [hx]

/-- A result that lies in memory, and two more. -/
theorem res_cell3 {P : Program} {w : World} {fn : Func} {p t u : Tmp} {ty : TypeId} {z : Array Value} {n b off : Nat} (cs : List Value) (h : fn.results = #[.cell p ty, .tmp t, .tmp u]) (T : AgTy P ty z n) (tmps : Array Value)
    (hp : tmps.getD p undef = .pointer (some ⟨b, off, none⟩)) (hl : cs.length = n) (hc : ∀ j u, cs[j]? = some u → w.cell? ⟨b, off + j, none⟩ = some u) :
    (results fn tmps).run P w = .ok (.tuple #[.agg cs.toArray, tmps.getD t undef, tmps.getD u undef]) w := by
  have hr := run_loadAgg (P := P) (w := w) T b off cs hl hc
  have hp' : tmps[p]?.getD undef = .pointer (some ⟨b, off, none⟩) := by simpa using hp
  simp only [results, h]
  simp [Result.andThen, hp', asAddr, hr]
/-- One result that lies in memory. -/
theorem res_cell1 {P : Program} {w : World} {fn : Func} {p : Tmp} {ty : TypeId} {z : Array Value} {n b off : Nat} (cs : List Value) (h : fn.results = #[.cell p ty]) (T : AgTy P ty z n) (tmps : Array Value)
    (hp : tmps.getD p undef = .pointer (some ⟨b, off, none⟩)) (hl : cs.length = n) (hc : ∀ j u, cs[j]? = some u → w.cell? ⟨b, off + j, none⟩ = some u) :
    (results fn tmps).run P w = .ok (.agg cs.toArray) w := by
  have hr := run_loadAgg (P := P) (w := w) T b off cs hl hc
  have hp' : tmps[p]?.getD undef = .pointer (some ⟨b, off, none⟩) := by simpa using hp
  simp only [results, h]
  simp [hp', asAddr, hr]
theorem run_arrayAt {P : Program} (w : World) {arr e : TypeId} {n len c : Nat} {A : Option Addr} (h : P.underlying arr = some (.array n e)) (hn : n ≤ len) : (Instr.arrayAt arr (.slice A len c)).run P w = .ok (.pointer A) w := by
  have hn' : ¬ len < n := by omega
  simp [Instr.arrayAt, run_underlying h, hn']
theorem cells_new (w : World) (cs : List Value) (t : TypeId) : ∀ j u, cs[j]? = some u → (w.alloc (.cells cs.toArray t)).cell? ⟨w.heap.size, 0 + j, none⟩ = some u := by
  intro j u hu
  rw [World.cell?_alloc_at _ t w.heap.size (0 + j) rfl]
  simpa using hu

/-- A call that returns a new row. -/
def RetRow (w : World) (e : TypeId) (size n : Nat) (xs : List Value) (en : Ending) (w' : World) : Prop :=
  ∃ v, en = .returned v ∧ w'.ownsRow w.heap.size e size v n xs ∧ Below w.heap.size w w'
theorem RetRow.open {w : World} {e : TypeId} {size n : Nat} {xs : List Value} {en : Ending} {w' : World} (h : RetRow w e size n xs en w') :
    ∃ A c, en = .returned (.slice A n c) ∧ w'.ownsRow w.heap.size e size (.slice A n c) n xs ∧ Rd w' w'.heap.size size A n c xs ∧ Below w.heap.size w w' := by
  obtain ⟨v, rfl, hown, hb⟩ := h
  obtain ⟨A, c, rfl, hr⟩ := Rd.of_own hown
  exact ⟨A, c, rfl, hown, hr, hb⟩

/-- The conversion of bytes to a string. -/
theorem conv_bs {P : Program} {w : World} {B n c : Nat} {A : Option Addr} {l : List UInt8} {src e dst : TypeId} (hs : P.underlying src = some (.slice e)) (he : P.underlying e = some (.int .u8))
    (hd : P.underlying dst = some .string) (hr : Rd w B 1 A n c (bcs l)) : (convert src dst (.slice A n c)).run P w = .ok (.string ⟨l.toArray⟩) w := by
  have hl : l.length = n := by have := hr.len; simpa [bcs] using this
  by_cases hn : n = 0
  · subst hn
    have : l = [] := List.eq_nil_of_length_eq_zero hl
    subst this
    cases A with
    | none => rw [run_convert_bytes_nil w src e hs he 0 c dst hd]; rfl
    | some p =>
      rw [run_convert_bytes_string w src dst e _ 0 c hs he hd]
      simp [Conv.bytesToString, loadCells, loadCellsFrom]
      rfl
  · obtain ⟨b, off, rfl, _, hc⟩ := hr.cells (by omega)
    have := run_convert_bytes_arg (P := P) w src e hs he b off n c (l.map fun x => (x.toNat : Int)) (by simpa using hl) (fun i hi => by
      have hi' : i < l.length := by omega
      refine hc i _ ?_
      simp [bcs, bc, hi', List.getD]) dst hd
    rw [this]
    congr 2
    unfold strOfNums
    congr 2
    rw [List.map_map]
    congr 1
    refine (List.map_congr_left (g := id) fun x _ => ?_).trans (List.map_id l)
    simp

/-- The same at the operation. -/
theorem convStr {P : Program} {w : World} {ops : Array Oper} {rest : List Oper} {o : Oper} {a : Act} {Q : Exit → Act → World → Prop}
    {B n c : Nat} {A : Option Addr} {src e dst : TypeId} (x : Operand) (l : List UInt8) (hs : P.underlying src = some (.slice e)) (he : P.underlying e = some (.int .u8))
    (hd : P.underlying dst = some .string) (hgd : Region.wanted o (yielded ops a.tmps) = true) (ho : o.op = .convert src dst x) (hx : a.eval x = .slice A n c) (hr : Rd w B 1 A n c (bcs l))
    (h : wpList P ops Q rest (a.put o.dst (.string ⟨l.toArray⟩)) w) : wpList P ops Q (o :: rest) a w := by
  refine wpList_want hgd fun K hK => ?_
  unfold Oper.wp execOp
  simp only [ho, hx, Sem.run_bind, Sem.run_pure, conv_bs hs he hd hr, Result.andThen_ok]
  exact hK _ _ h

section
variable {P : Program} {w : World} {ops : Array Oper} {rest : List Oper} {o : Oper} {a : Act} {Q : Exit → Act → World → Prop}
/-- 's[lo:hi]' of a slice that reads as xs: some slice that reads as the part. -/
theorem slLH {t e : TypeId} {z : Value} {size bytes B n c : Nat} {A : Option Addr} {xs : List Value} {kl kh : IntKind} {L H : Int} (x l h : Operand) (U V : Nat) (T : SlTy P t e z size bytes) (hgd : Region.wanted o (yielded ops a.tmps) = true)
    (ho : o.op = .slice t x (some l) (some h) none) (hx : a.eval x = .slice A n c) (hl : a.eval l = .int kl L) (hh : a.eval h = .int kh H) (hr : Rd w B size A n c xs)
    (hL : L = (U : Int)) (hH : H = (V : Int)) (h1 : U ≤ V) (h2 : V ≤ n)
    (hK : ∀ A', Rd w B size A' (V - U) (c - U) ((xs.drop (U * size)).take ((V - U) * size)) → wpList P ops Q rest (a.put o.dst (.slice A' (V - U) (c - U))) w) : wpList P ops Q (o :: rest) a w := by
  obtain ⟨i, hi, hz0, hz1, hz2⟩ := info_parts T.inf
  subst hL; subst hH
  have hle := hr.le
  have ht : P.underlying t = some (.slice (P.elem t)) := by rw [T.und]; simp [Program.elem, T.und]
  have he : P.elem t = e := by have := T.und; rw [this] at ht; injection ht with ht; injection ht with ht; exact ht.symm
  have hrun := run_slice_lh (P := P) w t A n c ht kl kh (U : Int) (V : Int) (by omega) (by omega) (by omega)
  have hcut := hr.cut (lo := U) (hi := V) (m := c) (by omega) (by omega) (by omega) (by omega)
  refine wpList_want hgd fun K hK' => ?_
  unfold Oper.wp execOp
  simp only [ho, hx, hl, hh, Option.map_some, Option.map_none, Sem.run_bind, Sem.run_pure, run_sliceAt_slice w t _ _ _ _ ht, hrun, he, sizeOf, typeInfo, Int.toNat_natCast, sliced]
  simp [hi, hz1]
  exact hK' _ _ (hK _ (by simpa using hcut))
/-- 's[lo:]'. -/
theorem slL {t e : TypeId} {z : Value} {size bytes B n c : Nat} {A : Option Addr} {xs : List Value} {kl : IntKind} {L : Int} (x l : Operand) (U : Nat) (T : SlTy P t e z size bytes) (hgd : Region.wanted o (yielded ops a.tmps) = true)
    (ho : o.op = .slice t x (some l) none none) (hx : a.eval x = .slice A n c) (hl : a.eval l = .int kl L) (hr : Rd w B size A n c xs)
    (hL : L = (U : Int)) (h1 : U ≤ n)
    (hK : ∀ A', Rd w B size A' (n - U) (c - U) ((xs.drop (U * size)).take ((n - U) * size)) → wpList P ops Q rest (a.put o.dst (.slice A' (n - U) (c - U))) w) : wpList P ops Q (o :: rest) a w := by
  obtain ⟨i, hi, hz0, hz1, hz2⟩ := info_parts T.inf
  subst hL
  have hle := hr.le
  have ht : P.underlying t = some (.slice (P.elem t)) := by rw [T.und]; simp [Program.elem, T.und]
  have he : P.elem t = e := by have := T.und; rw [this] at ht; injection ht with ht; injection ht with ht; exact ht.symm
  have hrun := run_slice_l (P := P) w t A n c ht kl (U : Int) (by omega) (by omega)
  have hcut := hr.cut (lo := U) (hi := n) (m := c) (by omega) (by omega) (by omega) (by omega)
  refine wpList_want hgd fun K hK' => ?_
  unfold Oper.wp execOp
  simp only [ho, hx, hl, Option.map_some, Option.map_none, Sem.run_bind, Sem.run_pure, run_sliceAt_slice w t _ _ _ _ ht, hrun, he, sizeOf, typeInfo, Int.toNat_natCast, sliced]
  simp [hi, hz1]
  exact hK' _ _ (hK _ (by simpa using hcut))
/-- 's[:hi]'. -/
theorem slH {t e : TypeId} {z : Value} {size bytes B n c : Nat} {A : Option Addr} {xs : List Value} {kh : IntKind} {H : Int} (x h : Operand) (V : Nat) (T : SlTy P t e z size bytes) (hgd : Region.wanted o (yielded ops a.tmps) = true)
    (ho : o.op = .slice t x none (some h) none) (hx : a.eval x = .slice A n c) (hh : a.eval h = .int kh H) (hr : Rd w B size A n c xs)
    (hH : H = (V : Int)) (h2 : V ≤ n)
    (hK : ∀ A', Rd w B size A' V c (xs.take (V * size)) → wpList P ops Q rest (a.put o.dst (.slice A' V c)) w) : wpList P ops Q (o :: rest) a w := by
  obtain ⟨i, hi, hz0, hz1, hz2⟩ := info_parts T.inf
  subst hH
  have hle := hr.le
  have ht : P.underlying t = some (.slice (P.elem t)) := by rw [T.und]; simp [Program.elem, T.und]
  have he : P.elem t = e := by have := T.und; rw [this] at ht; injection ht with ht; injection ht with ht; exact ht.symm
  have hrun := run_slice_h (P := P) w t A n c ht kh (V : Int) (by omega) (by omega)
  have hcut := hr.cut (lo := 0) (hi := V) (m := c) (by omega) (by omega) (by omega) (by omega)
  simp only [Nat.sub_zero, Nat.zero_mul, List.drop_zero] at hcut
  refine wpList_want hgd fun K hK' => ?_
  unfold Oper.wp execOp
  simp only [ho, hx, hh, Option.map_some, Option.map_none, Sem.run_bind, Sem.run_pure, run_sliceAt_slice w t _ _ _ _ ht, hrun, he, sizeOf, typeInfo, Int.toNat_natCast, sliced]
  simp [hi, hz1]
  exact hK' _ _ (hK _ (by simpa using hcut))
/-- 's[:hi:max]'. -/
theorem slHM {t e : TypeId} {z : Value} {size bytes B n c : Nat} {A : Option Addr} {xs : List Value} {kh km : IntKind} {H M : Int} (x h m : Operand) (V W : Nat) (T : SlTy P t e z size bytes) (hgd : Region.wanted o (yielded ops a.tmps) = true)
    (ho : o.op = .slice t x none (some h) (some m)) (hx : a.eval x = .slice A n c) (hh : a.eval h = .int kh H) (hm : a.eval m = .int km M) (hr : Rd w B size A n c xs)
    (hH : H = (V : Int)) (hM : M = (W : Int)) (h2 : V ≤ n) (h3 : V ≤ W) (h4 : W ≤ c)
    (hK : ∀ A', Rd w B size A' V W (xs.take (V * size)) → wpList P ops Q rest (a.put o.dst (.slice A' V W)) w) : wpList P ops Q (o :: rest) a w := by
  obtain ⟨i, hi, hz0, hz1, hz2⟩ := info_parts T.inf
  subst hH; subst hM
  have hle := hr.le
  have ht : P.underlying t = some (.slice (P.elem t)) := by rw [T.und]; simp [Program.elem, T.und]
  have he : P.elem t = e := by have := T.und; rw [this] at ht; injection ht with ht; injection ht with ht; exact ht.symm
  have hrun := run_slice_hm (P := P) w t A n c ht kh km (V : Int) (W : Int) (by omega) (by omega) (by omega)
  have hcut := hr.cut (lo := 0) (hi := V) (m := W) (by omega) (by omega) (by omega) (by omega)
  simp only [Nat.sub_zero, Nat.zero_mul, List.drop_zero] at hcut
  refine wpList_want hgd fun K hK' => ?_
  unfold Oper.wp execOp
  simp only [ho, hx, hh, hm, Option.map_some, Option.map_none, Sem.run_bind, Sem.run_pure, run_sliceAt_slice w t _ _ _ _ ht, hrun, he, sizeOf, typeInfo, Int.toNat_natCast, sliced]
  simp [hi, hz1]
  exact hK' _ _ (hK _ (by simpa using hcut))
/-- 's[lo:hi:max]'. -/
theorem slLHM {t e : TypeId} {z : Value} {size bytes B n c : Nat} {A : Option Addr} {xs : List Value} {kl kh km : IntKind} {L H M : Int} (x l h m : Operand) (U V W : Nat) (T : SlTy P t e z size bytes) (hgd : Region.wanted o (yielded ops a.tmps) = true)
    (ho : o.op = .slice t x (some l) (some h) (some m)) (hx : a.eval x = .slice A n c) (hl : a.eval l = .int kl L) (hh : a.eval h = .int kh H) (hm : a.eval m = .int km M) (hr : Rd w B size A n c xs)
    (hL : L = (U : Int)) (hH : H = (V : Int)) (hM : M = (W : Int)) (h1 : U ≤ V) (h2 : V ≤ n) (h3 : V ≤ W) (h4 : W ≤ c)
    (hK : ∀ A', Rd w B size A' (V - U) (W - U) ((xs.drop (U * size)).take ((V - U) * size)) → wpList P ops Q rest (a.put o.dst (.slice A' (V - U) (W - U))) w) : wpList P ops Q (o :: rest) a w := by
  obtain ⟨i, hi, hz0, hz1, hz2⟩ := info_parts T.inf
  subst hL; subst hH; subst hM
  have hle := hr.le
  have ht : P.underlying t = some (.slice (P.elem t)) := by rw [T.und]; simp [Program.elem, T.und]
  have he : P.elem t = e := by have := T.und; rw [this] at ht; injection ht with ht; injection ht with ht; exact ht.symm
  have hrun := run_slice_lhm (P := P) w t A n c ht kl kh km (U : Int) (V : Int) (W : Int) (by omega) (by omega) (by omega) (by omega)
  have hcut := hr.cut (lo := U) (hi := V) (m := W) (by omega) (by omega) (by omega) (by omega)
  refine wpList_want hgd fun K hK' => ?_
  unfold Oper.wp execOp
  simp only [ho, hx, hl, hh, hm, Option.map_some, Sem.run_bind, Sem.run_pure, run_sliceAt_slice w t _ _ _ _ ht, hrun, he, sizeOf, typeInfo, Int.toNat_natCast, sliced]
  simp [hi, hz1]
  exact hK' _ _ (hK _ (by simpa using hcut))
end
end Go.Proofs.Ytkfijpghjjnpkaa
/-
  Plain laws on Go's bit operations: what they are on numbers. No program in sight.
-/
namespace Go.Proofs.Ytkfijpghjjnpkaa
open Go.RowKit

theorem nat_xor_ones (k a : Nat) (h : a < 2 ^ k) : a ^^^ (2 ^ k - 1) = 2 ^ k - 1 - a := by
  have e : (BitVec.ofNat k a ^^^ BitVec.allOnes k) = ~~~ BitVec.ofNat k a := by
    apply BitVec.eq_of_getLsbD_eq
    intro i hi
    simp [hi]
  have := congrArg BitVec.toNat e
  rw [BitVec.toNat_xor, BitVec.toNat_not, BitVec.toNat_allOnes, BitVec.toNat_ofNat, Nat.mod_eq_of_lt h] at this
  exact this
theorem nat_or_shift (a b i : Nat) (h : a < 2 ^ i) : a ||| b * 2 ^ i = a + b * 2 ^ i := by
  rw [Nat.or_comm, ← Nat.shiftLeft_eq, ← Nat.shiftLeft_add_eq_or_of_lt h, Nat.add_comm]
theorem ofInt_i64 (a : Nat) (ha : a < 9223372036854775808) : (BitVec.ofInt 64 (a : Int)).toNat = a := by
  rw [BitVec.ofInt_natCast, BitVec.toNat_ofNat]; exact Nat.mod_eq_of_lt (by omega)
theorem i64_and_n (a b : Nat) (ha : a < 9223372036854775808) (hb : b < 9223372036854775808) : bits .and .i64 (a : Int) (b : Int) = ((a &&& b : Nat) : Int) := by
  have hx : a &&& b < 2 ^ 63 := Nat.and_lt_two_pow _ (by omega)
  show IntKind.i64.wrap ((BitVec.ofInt 64 (a : Int) &&& BitVec.ofInt 64 (b : Int)).toNat : Int) = _
  rw [BitVec.toNat_and, ofInt_i64 a ha, ofInt_i64 b hb, IntKind.wrap_i64]
  omega
theorem i64_or_n (a b : Nat) (ha : a < 9223372036854775808) (hb : b < 9223372036854775808) : bits .or .i64 (a : Int) (b : Int) = ((a ||| b : Nat) : Int) := by
  have hx : a ||| b < 2 ^ 63 := Nat.or_lt_two_pow (by omega) (by omega)
  show IntKind.i64.wrap ((BitVec.ofInt 64 (a : Int) ||| BitVec.ofInt 64 (b : Int)).toNat : Int) = _
  rw [BitVec.toNat_or, ofInt_i64 a ha, ofInt_i64 b hb, IntKind.wrap_i64]
  omega
theorem i64_xor_n (a b : Nat) (ha : a < 9223372036854775808) (hb : b < 9223372036854775808) : bits .xor .i64 (a : Int) (b : Int) = ((a ^^^ b : Nat) : Int) := by
  have hx : a ^^^ b < 2 ^ 63 := Nat.xor_lt_two_pow (by omega) (by omega)
  show IntKind.i64.wrap ((BitVec.ofInt 64 (a : Int) ^^^ BitVec.ofInt 64 (b : Int)).toNat : Int) = _
  rw [BitVec.toNat_xor, ofInt_i64 a ha, ofInt_i64 b hb, IntKind.wrap_i64]
  omega
/-- 'x ^ -1' of an int. -/
theorem i64_xor_m1 (a : Int) (h1 : -9223372036854775808 ≤ a) (h2 : a ≤ 9223372036854775807) : bits .xor .i64 a (-1) = -1 - a := by
  show IntKind.i64.wrap ((BitVec.ofInt 64 a ^^^ BitVec.ofInt 64 (-1)).toNat : Int) = _
  have e : (BitVec.ofInt 64 (-1)) = BitVec.allOnes 64 := by decide
  have e2 : BitVec.ofInt 64 a ^^^ BitVec.allOnes 64 = ~~~ BitVec.ofInt 64 a := BitVec.xor_allOnes
  rw [e, e2, BitVec.toNat_not, BitVec.toNat_ofInt, IntKind.wrap_i64]
  omega
theorem u64_xor_n (a b : Nat) (ha : a < 18446744073709551616) (hb : b < 18446744073709551616) : bits .xor .u64 (a : Int) (b : Int) = ((a ^^^ b : Nat) : Int) := u64_xor_nat a b ha hb
theorem u8_and127 (a : UInt8) : bits .and .u8 (a.toNat : Int) 127 = ((a.toNat % 128 : Nat) : Int) := by
  have h := u8_and_nat a.toNat 127 (by have := a.toNat_lt; omega) (by omega)
  have e : a.toNat &&& 127 = a.toNat % 128 := Nat.and_two_pow_sub_one_eq_mod a.toNat 7
  rw [← e]; exact h
theorem u8_or_128 (m : Nat) : bits .or .u8 ((m : Int) % 256) 128 = ((m % 128 + 128 : Nat) : Int) := by
  have h := u8_or_nat (m % 256) 128 (by omega) (by omega)
  have e : m % 256 ||| 128 = m % 128 + 128 := by
    have h1 : m % 256 = m % 128 + (m / 128 % 2) * 2 ^ 7 := by omega
    rw [h1, ← nat_or_shift (m % 128) (m / 128 % 2) 7 (by omega), Nat.or_assoc]
    have h2 : (m / 128 % 2) * 2 ^ 7 ||| 128 = 128 := by
      rcases Nat.mod_two_eq_zero_or_one (m / 128) with h | h <;> rw [h] <;> decide
    rw [h2]
    exact nat_or_shift (m % 128) 1 7 (by omega)
  rw [← e]
  have c : ((m % 256 : Nat) : Int) = (m : Int) % 256 := by omega
  rw [← c]
  exact h
end Go.Proofs.Ytkfijpghjjnpkaa
/-
  Laws for a region that draws its order and only reads: one operation with a known value; a struct or array loaded whole; byte arrays compared. No statement is proved here.
-/
namespace Go.Proofs.Ytkfijpghjjnpkaa
open Go.RowKit

section
variable {P : Program} {w : World} {ops : Array Oper} {rest : List Oper} {o : Oper} {a : Act} {Q : Act → Prop}
theorem qVal {C : World → Prop} {v : Value} (hg : o.guard = none) (h : ∀ w', C w' → (execOp a.eval o).run P w' = .ok (.value v) w') (hk : wpQuiet P ops C Q rest (a.put o.dst v)) : wpQuiet P ops C Q (o :: rest) a := by
  refine wpQuiet_step fun K hK => ?_
  rw [if_pos (by simp [Region.wanted, hg])]
  refine ⟨v, fun w' hw' => ?_, hK _ hk⟩
  unfold Oper.quietAt
  rw [h w' hw']
  exact ⟨rfl, rfl⟩
theorem qLdAgg {ty : TypeId} {z : Array Value} {n b off : Nat} (x : Operand) (cs : List Value) (T : AgTy P ty z n) (hg : o.guard = none) (ho : o.op = .load ty x)
    (hx : a.eval x = .pointer (some ⟨b, off, none⟩)) (hl : cs.length = n) (hc : ∀ j u, cs[j]? = some u → w.cell? ⟨b, off + j, none⟩ = some u)
    (hk : wpQuiet P ops (fun w' => ∃ n, w' = w.drewN n) Q rest (a.put o.dst (.agg cs.toArray))) : wpQuiet P ops (fun w' => ∃ n, w' = w.drewN n) Q (o :: rest) a := by
  refine qVal hg (fun w' hw' => ?_) hk
  obtain ⟨m, rfl⟩ := hw'
  have hr := run_loadAgg (P := P) (w := w.drewN m) T b off cs hl (fun j u hj => (hc j u hj))
  unfold execOp
  simp only [ho, hx, Instr.loadAt, Instr.sureAddr, Sem.run_bind, Sem.run_pure, Result.andThen_ok, hr]
theorem run_eqBytes {t e : TypeId} {n : Nat} (w : World) (ht : P.underlying t = some (.array n e)) (he : P.underlying e = some (.int .u8)) (hs : (P.info? e).map (·.size) = some 1) (xs ys : List UInt8) (hx : xs.length = n) (hy : ys.length = n) :
    (Op.equalIn 10000 t (.agg (bcs xs).toArray) (.agg (bcs ys).toArray)).run P w = .ok (xs == ys) w := by
  obtain ⟨i, hi, hsz⟩ := Option.map_eq_some_iff.1 hs
  exact run_equalIn_bytes w 9998 t e n ht he (fun w => by simp [sizeOf, typeInfo, hi, hsz]) xs ys hx hy
theorem qNeqBytes {t e : TypeId} {n : Nat} (x y : Operand) (xs ys : List UInt8) (ht : P.underlying t = some (.array n e)) (he : P.underlying e = some (.int .u8)) (hs : (P.info? e).map (·.size) = some 1) (hq : P.eqGuardType P.depth t = false)
    (hg : o.guard = none) (ho : o.op = .binOp .neq t x y t) (hxv : a.eval x = .agg (bcs xs).toArray) (hyv : a.eval y = .agg (bcs ys).toArray) (hx : xs.length = n) (hy : ys.length = n)
    (hk : wpQuiet P ops (fun w' => ∃ n, w' = w.drewN n) Q rest (a.put o.dst (.bool (!(xs == ys))))) : wpQuiet P ops (fun w' => ∃ n, w' = w.drewN n) Q (o :: rest) a := by
  refine qVal hg (fun w' _ => ?_) hk
  have hr := run_eqBytes (P := P) w' ht he hs xs ys hx hy
  unfold execOp
  simp only [ho, hxv, hyv]
  simp [eqGuard, hq, run_neq_struct, hr]
end
end Go.Proofs.Ytkfijpghjjnpkaa
/-
  append onto a slice without spare room: what it reads as afterwards. No statement is proved here.
-/
namespace Go.Proofs.Ytkfijpghjjnpkaa
open Go.RowKit

theorem rd_row (w : World) (cs : Array Value) (t : TypeId) (size n c : Nat) (xs : List Value) (hl : xs.length = n * size) (hn : n ≤ c) (hc : c ≤ maxLen) (hx : ∀ (j : Nat) (u : Value), xs[j]? = some u → cs[j]? = some u) :
    Rd (w.alloc (.cells cs t)) (w.heap.size + 1) size (some ⟨w.heap.size, 0, none⟩) n c xs := by
  refine ⟨hl, hn, hc, fun _ => ⟨w.heap.size, 0, rfl, by omega, fun j u hu => ?_⟩⟩
  rw [World.cell?_alloc_at _ t w.heap.size (0 + j) rfl, Nat.zero_add]
  exact hx j u hu

/-- 'append(s[:n:n], ys...)', n not 0. -/
theorem appFull {P : Program} {w w0 : World} {ops : Array Oper} {rest : List Oper} {o : Oper} {a : Act} {Q : Exit → Act → World → Prop} {t e : TypeId} {z : Value} {size bytes B B' n m c' : Nat} {A A' : Option Addr} {xs ys : List Value} (s x : Operand) (T : SlTy P t e z size bytes)
    (hgd : Region.wanted o (yielded ops a.tmps) = true) (ho : o.op = .call { callee := .builtin .append, args := #[s, x], argTypes := #[t, t] })
    (hs : a.eval s = .slice A n n) (hx : a.eval x = .slice A' m c') (hr : Rd w B size A n n xs) (hr' : Rd w B' size A' m c' ys) (hB : B ≤ w.heap.size) (hb : Below w0.heap.size w0 w)
    (h0 : 0 < n) (hn : n + m ≤ 70368744177664) (hby : (n + m) * bytes ≤ 140737488355328)
    (h : ∀ A3 c3 w', Rd w' w'.heap.size size A3 (n + m) c3 (xs ++ ys) → Below w0.heap.size w0 w' → Below w.heap.size w w' → wpList P ops Q rest (a.put o.dst (.slice A3 (n + m) c3)) w') : wpList P ops Q (o :: rest) a w := by
  obtain ⟨i, hi, hz0, hz1, hz2⟩ := info_parts T.inf
  have hpos := T.pos
  obtain ⟨b, off, rfl, hbB, hc⟩ := hr.cells (Nat.mul_pos h0 hpos)
  by_cases hm : m = 0
  · subst hm
    have hy : ys = [] := List.eq_nil_of_length_eq_zero (by have := hr'.len; simpa using this)
    subst hy
    have hrun : (Builtin.append_ #[t, t] o.type #[.slice (some ⟨b, off, none⟩) n n, .slice A' 0 c']).run P w = .ok (.slice (some ⟨b, off, none⟩) n n) w := by
      cases A' <;> simp [Builtin.append_, run_underlying T.und, sizeOf, typeInfo, hi, Builtin.lenOf, Builtin.firstCells, storeCells, loadCells, loadCellsFrom]
    refine wpList_want hgd fun K hK => ?_
    unfold Oper.wp execOp
    simp only [ho, resolve, invoke, builtin, Sem.run_bind, Sem.run_pure, Result.andThen_ok, List.map_toArray, List.map_cons, List.map_nil, hs, hx, hrun]
    exact hK _ _ (h _ n w (by simpa using hr.more hB) hb (Below.refl _ _))
  · obtain ⟨b', off', rfl, hbB', hc'⟩ := hr'.cells (Nat.mul_pos (by omega) hpos)
    have hadd : ∀ (b off j : Nat), (⟨b, off, none⟩ : Addr).add j = ⟨b, off + j, none⟩ := by intro b off j; unfold Addr.add; split <;> simp_all
    have hrun := run_append_grow (P := P) w t o.type e i z T.und hi hz0 ⟨b, off, none⟩ n n xs (by rw [hz1]; exact hr.len) (fun j v hj => by rw [hadd]; exact hc j v hj)
      ⟨b', off', none⟩ m c' ys (by rw [hz1]; exact hr'.len) (fun j v hj => by rw [hadd]; exact hc' j v hj) (by omega) (by omega) (growslice_fits (by omega) (by rw [hz2]; exact hby))
    refine wpList_want hgd fun K hK => ?_
    unfold Oper.wp execOp
    simp only [ho, resolve, invoke, builtin, Sem.run_bind, Sem.run_pure, Result.andThen_ok, List.map_toArray, List.map_cons, List.map_nil, hs, hx, hrun]
    have hbw : Below w.heap.size w (w.drew.alloc (.cells (xs.toArray ++ ys.toArray ++ Builtin.zeroCells z.cells (grownCap w (n + m) n e - (n + m))) e)) := ((Below.refl _ _).drew).alloc (Nat.le_refl _) _
    refine hK _ _ (h _ _ _ ?_ (hb.trans (hbw.mono hb.size)) hbw)
    have hrr := rd_row w.drew (xs.toArray ++ ys.toArray ++ Builtin.zeroCells z.cells (grownCap w (n + m) n e - (n + m))) e size (n + m) (grownCap w (n + m) n e) (xs ++ ys)
      (by rw [List.length_append, hr.len, hr'.len, Nat.add_mul]) (grownCap_ge w (n + m) n e) (grownCap_le_maxLen w (n + m) n e (by unfold maxLen; omega))
      (fun j u hu => by
        have hj := (List.getElem?_eq_some_iff.1 hu).1
        rw [Array.getElem?_append_left (by simpa using hj), List.append_toArray]
        simpa using hu)
    exact hrr.more (by simp)
end Go.Proofs.Ytkfijpghjjnpkaa
/-
  A slice literal whose elements take one cell each: what it reads as. No statement is proved here.
-/
namespace Go.Proofs.Ytkfijpghjjnpkaa
open Go.RowKit

theorem bsRow {P : Program} {w : World} {ops : Array Oper} {rest : List Oper} {o : Oper} {a : Act} {Q : Exit → Act → World → Prop} {t e : TypeId} {z : Value} {bytes len : Nat} {parts : Array (Nat × Operand)} (vs : List Value)
    (T : SlTy P t e z 1 bytes) (hgd : Region.wanted o (yielded ops a.tmps) = true) (ho : o.op = .buildSlice t len parts) (hev : (parts.map fun (i, x) => (i, a.eval x)).toList = (vs.zipIdx 0).map fun x => (x.2, x.1))
    (hlen : vs.length = len) (h0 : 0 < len) (hs : len ≤ 65536) (hone : ∀ v ∈ vs, v.cells = #[v])
    (h : ∀ A w', Rd w' w'.heap.size 1 A len len vs → Below w.heap.size w w' → wpList P ops Q rest (a.put o.dst (.slice A len len)) w') : wpList P ops Q (o :: rest) a w := by
  obtain ⟨i, hi, hz0, hz1, hz2⟩ := info_parts T.inf
  obtain ⟨r, hr, hrs, hrk⟩ := Great.fill_dense (s := 1) (by omega) vs 0 ((Array.range (len * 1)).map (z.cells[· % z.cells.size]!)) (by intro v hv; rw [hone v hv]; rfl) (by simp; omega)
  have he : r = vs.toArray := by
    apply Array.ext_getElem?
    intro k
    rw [hrk k]
    simp only [Nat.zero_mul, Nat.zero_add, Nat.mul_one, Nat.div_one, Nat.sub_zero, Nat.mod_one, List.getElem?_toArray]
    by_cases hk : k < vs.length
    · rw [if_pos ⟨Nat.zero_le _, hk⟩, List.getElem?_eq_getElem hk]
      have := hone _ (List.getElem_mem hk)
      simp [this]
    · rw [if_neg (by omega), List.getElem?_eq_none (by omega)]
      rw [Array.getElem?_eq_none (by simp; omega)]
  subst he
  refine wpList_want hgd fun K hK => wp_buildSlice t e len parts ho vs.toArray i z T.und hi hz0 (by rw [hz1]; omega) (by rw [hz1]; omega) ?_ (hK _ _ (h _ _ ?_ ((Below.refl _ _).alloc (Nat.le_refl _) _)))
  · rw [hz1, hev]; exact hr
  · exact ⟨by omega, Nat.le_refl _, by unfold maxLen; omega, fun _ => ⟨w.heap.size, 0, rfl, by simp, cells_new w vs e⟩⟩
end Go.Proofs.Ytkfijpghjjnpkaa
/-
  An array variable in memory: a block of its own, with what it holds. No statement is proved here.
-/
namespace Go.Proofs.Ytkfijpghjjnpkaa
open Go.RowKit

/-- Block b holds an array (or what a struct is made of) with the cells cur. -/
def Arr (w : World) (b : Nat) (t : TypeId) (cur : List Value) : Prop := w.heap[b]? = some (.cells cur.toArray t (0, 0))
section
variable {w w' : World} {b b' i : Nat} {t : TypeId} {cur : List Value} {v : Value}
theorem Arr.cell (h : Arr w b t cur) (hi : cur[i]? = some v) : w.cell? ⟨b, i, none⟩ = some v := by
  unfold World.cell?
  rw [show w.heap[(⟨b, i, none⟩ : Addr).block]? = some (.cells cur.toArray t (0, 0)) from h]
  simpa using hi
theorem Arr.thaw (h : Arr w b t cur) (i : Nat) : w.frozen? ⟨b, i, none⟩ = false := by
  unfold World.frozen?
  rw [show w.heap[(⟨b, i, none⟩ : Addr).block]? = some (.cells cur.toArray t (0, 0)) from h]
  simp
theorem Arr.lt (h : Arr w b t cur) : b < w.heap.size := (Array.getElem?_eq_some_iff.1 h).1
theorem Arr.drew (h : Arr w b t cur) : Arr w.drew b t cur := h
theorem Arr.drewN (h : Arr w b t cur) (n : Nat) : Arr (w.drewN n) b t cur := h
theorem Arr.new (w : World) (t : TypeId) (cur : List Value) : Arr (w.alloc (.cells cur.toArray t)) w.heap.size t cur := heap_alloc_new w _
theorem Arr.alloc (h : Arr w b t cur) (o : Obj) : Arr (w.alloc o) b t cur := by
  have hb := h.lt
  unfold Arr at h ⊢
  rw [← h]
  unfold World.alloc
  simp [Array.getElem?_push, Nat.ne_of_lt hb]
theorem Arr.set (h : Arr w b t cur) (i : Nat) (v : Value) : Arr (w.setCell ⟨b, i, none⟩ v) b t (cur.set i v) := by
  unfold Arr at h ⊢
  unfold World.setCell
  simp [Array.getElem?_modify, h]
theorem Arr.other (h : Arr w b t cur) (hne : b' ≠ b) (i : Nat) (v : Value) : Arr (w.setCell ⟨b', i, none⟩ v) b t cur := by
  unfold Arr at h ⊢
  unfold World.setCell
  simp [Array.getElem?_modify, hne, h]
theorem Arr.below {B : Nat} (h : Arr w b t cur) (hb : Below B w w') (hB : b < B) : Arr w' b t cur := by
  unfold Arr at h ⊢
  rw [← h]
  exact hb.block b hB
theorem Arr.setRow (h : Arr w b t cur) (cs : List Value) : Arr (w.setRow b cs.toArray) b t cs := setRow_heap w b _ _ t _ h
theorem Arr.setRow_other (h : Arr w b t cur) (hne : b' ≠ b) (cs : List Value) : Arr (w.setRow b' cs.toArray) b t cur := by
  unfold Arr at h ⊢
  unfold World.setRow
  simp [Array.getElem?_modify, hne, h]
theorem below_setRow {B : Nat} (w : World) (hB : B ≤ b) (cs : Array Value) : Below B w (w.setRow b cs) := by
  refine ⟨rfl, rfl, rfl, by unfold World.setRow; simp, fun k hk => ?_⟩
  unfold World.setRow
  have : b ≠ k := by omega
  simp [Array.getElem?_modify, this]
end
section
variable {P : Program} {w : World} {ops : Array Oper} {rest : List Oper} {o : Oper} {a : Act} {Q : Exit → Act → World → Prop} {ty : TypeId} {n b : Nat}
/-- A new variable of a struct or array type, in a world of which nothing else is told. -/
theorem alArr {z : List Value} (T : AgTy P ty z.toArray n) (hgd : Region.wanted o (yielded ops a.tmps) = true) (ho : o.op = .alloc ty)
    (h : ∀ w', Arr w' w.heap.size ty z → Below w.heap.size w w' → wpList P ops Q rest (a.put o.dst (.pointer (some ⟨w.heap.size, 0, none⟩))) w') : wpList P ops Q (o :: rest) a w :=
  alAgg T hgd ho (h _ (Arr.new w ty z) ((Below.refl _ _).alloc (Nat.le_refl _) _))
theorem ldArr {z : Array Value} {cur : List Value} (x : Operand) (T : AgTy P ty z n) (hgd : Region.wanted o (yielded ops a.tmps) = true) (ho : o.op = .load ty x)
    (hx : a.eval x = .pointer (some ⟨b, 0, none⟩)) (hl : cur.length = n) {t : TypeId} (hA : Arr w b t cur)
    (h : wpList P ops Q rest (a.put o.dst (.agg cur.toArray)) w) : wpList P ops Q (o :: rest) a w :=
  ldAgg x cur T hgd ho hx hl (fun j u hu => by rw [Nat.zero_add]; exact hA.cell hu) h
/-- A variable of a struct or array type is set. -/
theorem stArr {z : Array Value} {cur cs : List Value} (x y : Operand) (T : AgTy P ty z n) (hgd : Region.wanted o (yielded ops a.tmps) = true) (ho : o.op = .store ty x y)
    (hx : a.eval x = .pointer (some ⟨b, 0, none⟩)) (hy : a.eval y = .agg cs.toArray) {t : TypeId} (hA : Arr w b t cur) (hs : cur.length = n) (hl : cs.length = n) (h1 : ∀ u ∈ cs, u.oneCell' = true)
    (h : ∀ w', Arr w' b t cs → (∀ b' t' c', b' ≠ b → Arr w b' t' c' → Arr w' b' t' c') → (∀ B, B ≤ b → Below B w w') → wpList P ops Q rest (a.put o.dst undef) w') : wpList P ops Q (o :: rest) a w := by
  refine wpList_want hgd fun K hK => ?_
  unfold Oper.wp execOp
  simp only [ho, hx, hy, Instr.storeAt, Instr.sureAddr, Sem.run_bind, Sem.run_pure, Result.andThen_ok, run_storeAgg T hA (by rw [List.size_toArray]; exact hs) (by rw [List.size_toArray]; exact hl) (by intro u hu; exact h1 u (by simpa using hu))]
  exact hK _ _ (h _ (hA.setRow cs) (fun b' t' c' hne hA' => hA'.setRow_other (fun e => hne e.symm) cs) (fun B hB => below_setRow w hB _))
/-- A parameter of a struct or array type, boxed. -/
theorem bxArr {cs : List Value} {ty : TypeId} (x : Operand) (hgd : Region.wanted o (yielded ops a.tmps) = true) (ho : o.op = .box ty x) (hx : a.eval x = .agg cs.toArray)
    (h : ∀ w', Arr w' w.heap.size ty cs → Below w.heap.size w w' → wpList P ops Q rest (a.put o.dst (.pointer (some ⟨w.heap.size, 0, none⟩))) w') : wpList P ops Q (o :: rest) a w := by
  refine wpList_want hgd fun K hK => ?_
  unfold Oper.wp execOp
  have hr : (Instr.box ty (.agg cs.toArray)).run P w = .ok (.pointer (some ⟨w.heap.size, 0, none⟩)) (w.alloc (.cells cs.toArray ty)) := by
    simp [Instr.box, newVar, newRow, Value.cells]
  simp only [ho, hx, Sem.run_bind, Sem.run_pure, hr, Result.andThen_ok]
  exact hK _ _ (h _ (Arr.new w ty cs) ((Below.refl _ _).alloc (Nat.le_refl _) _))
/-- A parameter of one cell, boxed. -/
theorem bxOne {v : Value} {ty : TypeId} (x : Operand) (hgd : Region.wanted o (yielded ops a.tmps) = true) (ho : o.op = .box ty x) (hx : a.eval x = v) (hv : v.cells = #[v])
    (h : ∀ w', Arr w' w.heap.size ty [v] → Below w.heap.size w w' → wpList P ops Q rest (a.put o.dst (.pointer (some ⟨w.heap.size, 0, none⟩))) w') : wpList P ops Q (o :: rest) a w := by
  refine wpList_want hgd fun K hK => ?_
  unfold Oper.wp execOp
  have hr : (Instr.box ty v).run P w = .ok (.pointer (some ⟨w.heap.size, 0, none⟩)) (w.alloc (.cells #[v] ty)) := by
    simp [Instr.box, newVar, newRow, hv]
  simp only [ho, hx, Sem.run_bind, Sem.run_pure, hr, Result.andThen_ok]
  exact hK _ _ (h _ (Arr.new w ty [v]) ((Below.refl _ _).alloc (Nat.le_refl _) _))
/-- An array literal whose elements take one cell each. -/
theorem bdArr {ty e : TypeId} {z : Array Value} {parts : Array (Nat × Operand)} (vs : List Value) (T : AgTy P ty z n) (hu : P.underlying ty = some (.array n e)) (he : (P.info? e).map (·.size) = some 1)
    (hgd : Region.wanted o (yielded ops a.tmps) = true) (ho : o.op = .build ty parts) (hev : (parts.map fun (i, x) => (i, a.eval x)).toList = (vs.zipIdx 0).map fun x => (x.2, x.1)) (hlen : vs.length = n) (hone : ∀ v ∈ vs, v.cells = #[v])
    (h : wpList P ops Q rest (a.put o.dst (.agg vs.toArray)) w) : wpList P ops Q (o :: rest) a w := by
  obtain ⟨i, hi, hzz, hsz⟩ := T.parts
  obtain ⟨zv, hzv, hzc⟩ := Option.map_eq_some_iff.1 hzz
  obtain ⟨j, hj, hjs⟩ := Option.map_eq_some_iff.1 he
  obtain ⟨r, hr, hrs, hrk⟩ := Great.fill_dense (s := 1) (by omega) vs 0 z (by intro v hv; rw [hone v hv]; rfl) (by rw [T.zs]; simp; omega)
  have hre : r = vs.toArray := by
    apply Array.ext_getElem?
    intro k
    rw [hrk k]
    simp only [Nat.zero_add, Nat.mul_one, Nat.div_one, Nat.sub_zero, Nat.mod_one, List.getElem?_toArray]
    by_cases hk : k < vs.length
    · rw [if_pos ⟨Nat.zero_le _, hk⟩, List.getElem?_eq_getElem hk]
      have := hone _ (List.getElem_mem hk)
      simp [this]
    · rw [if_neg (by omega), List.getElem?_eq_none (by omega)]
      rw [Array.getElem?_eq_none (by rw [T.zs]; omega)]
  subst hre
  refine wpList_want hgd fun K hK => ?_
  unfold Oper.wp execOp
  have hrun : (Instr.build ty (parts.map fun (i, x) => (i, a.eval x))).run P w = .ok (.agg vs.toArray) w := by
    rw [← hev] at hr
    generalize (parts.map fun (i, x) => (i, a.eval x)) = ps at hr ⊢
    simp only [Nat.mul_one] at hr
    simp [Instr.build, zeroValue, typeInfo, hi, hzv, hzc, run_underlying hu, sizeOf, hj, hjs, hr]
  simp only [ho, Sem.run_bind, Sem.run_pure, hrun, Result.andThen_ok]
  exact hK _ _ h
end
end Go.Proofs.Ytkfijpghjjnpkaa
/-
  Regions that draw their order, taken by hand: an operation taken first, two new arrays in either order, and what is left one by one. No statement is proved here.
-/
namespace Go.Proofs.Ytkfijpghjjnpkaa
open Go.RowKit

/-- Number i may be taken first. -/
def mayFirst (ops : Array Oper) (listed : Array Bool) (i : Nat) : Bool :=
  Region.noSelect ops && Region.free .any ops listed i && (Region.ready .any ops listed).contains i

section
variable {P : Program} {ops : Array Oper} {Q : Exit → Act → World → Prop} {S : World → Prop} {listed : Array Bool} {a : Act} {w : World} {fuel : Nat}
theorem rgStart {id : Nat} (S : World → Prop) (hm : P.follows .mixedOrders = true) (h : wpAnyH P .any ops Q S ops.size (Array.replicate ops.size false) a w.drew) : (Code.region id ops true).wp P Q a w :=
  wp_region_held hm h
theorem wpOp_of_list {i : Nat} {o : Oper} {K : Act → World → Prop} (hi : ops[i]? = some o) (h : wpList P ops (Exit.then K Q) [o] a w) : wpOp P ops Q i K a w := by
  unfold wpOp
  simp only [hi]
  unfold wpList at h
  split
  · rename_i hw
    rw [if_pos hw] at h
    refine h.imp (fun h => ?_) (fun h => ⟨h.1, h.2⟩)
    unfold Oper.wp at h ⊢
    generalize (execOp a.eval o).run P w = r at h ⊢
    cases r with
    | ok n w' =>
      cases n <;> simp only [Oper.upon] at h ⊢
      case value v => exact h
      case skip => exact h
      case defer d => exact h
      case enter f args =>
        refine h.mono fun e w'' he => ?_
        cases e with
        | returned u => exact he
        | panicked c => exact he
        | outgrown => exact he
      case row row args => exact h.mono fun _ _ he => he
    | halt x w' => cases x <;> simp only [Oper.upon] at h ⊢; exact h
  · rename_i hw
    rw [if_neg hw] at h
    exact h
/-- An operation taken first. -/
theorem rgTake {i : Nat} {o : Oper} {v : Value} (hi' : ops.toList[i]? = some o) (hm : mayFirst ops listed i = true) (hw : Region.wanted o (yielded ops a.tmps) = true)
    (hQ : ∀ c a w, Q (.panic c) (a.put o.dst v) w → Q (.panic c) a w) (hy : ∀ w, S w → (execOp a.eval o).run P w = .ok (.value v) w) (hS : S w)
    (h : wpAnyH P .any ops Q S fuel (listed.setIfInBounds i true) (a.put o.dst v) w) : wpAnyH P .any ops Q S (fuel + 1) listed a w := by
  have hi : ops[i]? = some o := by rw [← hi']; simp
  simp only [mayFirst, Bool.and_eq_true] at hm
  exact wpAnyH_take hi hm.1.1 hm.1.2 hm.2 hQ (Or.inl ⟨hw, hy⟩) hS h
/-- A struct or an array is loaded whole, first. -/
theorem rgLoad {i : Nat} {o : Oper} {ty : TypeId} {z : Array Value} {n b off : Nat} (x : Operand) (cs : List Value) (T : AgTy P ty z n) (hi' : ops.toList[i]? = some o) (hm : mayFirst ops listed i = true) (hw : Region.wanted o (yielded ops a.tmps) = true)
    (hQ : ∀ c a w, Q (.panic c) (a.put o.dst (.agg cs.toArray)) w → Q (.panic c) a w) (ho : o.op = .load ty x) (hx : a.eval x = .pointer (some ⟨b, off, none⟩)) (hl : cs.length = n)
    (hc : ∀ w, S w → ∀ j u, cs[j]? = some u → w.cell? ⟨b, off + j, none⟩ = some u) (hS : S w)
    (h : wpAnyH P .any ops Q S fuel (listed.setIfInBounds i true) (a.put o.dst (.agg cs.toArray)) w) : wpAnyH P .any ops Q S (fuel + 1) listed a w := by
  refine rgTake hi' hm hw hQ (fun w hw => ?_) hS h
  unfold execOp
  simp only [ho, hx, Instr.loadAt, Instr.sureAddr, Sem.run_bind, Sem.run_pure, Result.andThen_ok, run_loadAgg T b off cs hl (hc w hw)]
/-- The conversion of bytes to a string, first. -/
theorem rgConvStr {i : Nat} {o : Oper} {B n c : Nat} {A : Option Addr} {src e dst : TypeId} (x : Operand) (l : List UInt8) (hs : P.underlying src = some (.slice e)) (he : P.underlying e = some (.int .u8)) (hd : P.underlying dst = some .string)
    (hi : ops.toList[i]? = some o) (hm : mayFirst ops listed i = true) (hw : Region.wanted o (yielded ops a.tmps) = true) (hQ : ∀ c a w, Q (.panic c) (a.put o.dst (.string ⟨l.toArray⟩)) w → Q (.panic c) a w)
    (ho : o.op = .convert src dst x) (hx : a.eval x = .slice A n c) (hr : ∀ w, S w → Rd w B 1 A n c (bcs l)) (hS : S w)
    (h : wpAnyH P .any ops Q S fuel (listed.setIfInBounds i true) (a.put o.dst (.string ⟨l.toArray⟩)) w) : wpAnyH P .any ops Q S (fuel + 1) listed a w := by
  refine rgTake hi hm hw hQ (fun w hw => ?_) hS h
  unfold execOp
  simp only [ho, hx, Sem.run_bind, Sem.run_pure, conv_bs hs he hd (hr w hw), Result.andThen_ok]
/-- A byte of a text, first. -/
theorem rgIndexStr {i : Nat} {o : Oper} {t : TypeId} {kk : IntKind} {K : Int} (x y : Operand) (l : List UInt8) (k : Nat) (b : UInt8) (ht : P.underlying t = some .string)
    (hi : ops.toList[i]? = some o) (hm : mayFirst ops listed i = true) (hw : Region.wanted o (yielded ops a.tmps) = true) (hQ : ∀ c a w, Q (.panic c) (a.put o.dst (.int .u8 (b.toNat : Int))) w → Q (.panic c) a w)
    (ho : o.op = .index t x y) (hx : a.eval x = .string ⟨l.toArray⟩) (hy : a.eval y = .int kk K) (hK : K = (k : Int)) (hb : l[k]? = some b) (hS : S w)
    (h : wpAnyH P .any ops Q S fuel (listed.setIfInBounds i true) (a.put o.dst (.int .u8 (b.toNat : Int))) w) : wpAnyH P .any ops Q S (fuel + 1) listed a w := by
  subst hK
  refine rgTake hi hm hw hQ (fun w _ => ?_) hS h
  unfold execOp
  have hk := (List.getElem?_eq_some_iff.1 hb).1
  have hg : (⟨l.toArray⟩ : ByteArray)[k]? = some b := by
    rw [← hb]
    simp only [getElem?_def, ByteArray.size, List.size_toArray]
    by_cases h : k < l.length
    · rw [dif_pos h, dif_pos h]; rfl
    · omega
  simp [ho, hx, hy, Instr.index, asIntOf, run_underlying ht, hg]
/-- The one that comes up next. -/
theorem rgNext {i : Nat} {o : Oper} (hr : Region.ready .any ops listed = [i]) (hi' : ops.toList[i]? = some o)
    (h : wpList P ops (Exit.then (fun a' w' => S w' ∧ wpAnyH P .any ops Q S fuel (listed.setIfInBounds i true) a' w') Q) [o] a w) : wpAnyH P .any ops Q S (fuel + 1) listed a w := by
  have hi : ops[i]? = some o := by rw [← hi']; simp
  refine wpAnyH_all hr (by simp) fun j hj => ?_
  rw [List.mem_singleton] at hj
  subst hj
  exact wpOp_of_list hi h
theorem rgBack {K : Act → World → Prop} (hS : S w) (h : K a w) : wpList P ops (Exit.then (fun a' w' => S w' ∧ K a' w') Q) [] a w := ⟨hS, h⟩
theorem rgDone (hr : Region.ready .any ops listed = []) (h : Q .normal a w) : wpAnyH P .any ops Q S fuel listed a w := wpAnyH_done hr h _
/-- Two new variables of struct or array types, in either order. -/
theorem rgAlloc2 {i j : Nat} {oi oj : Oper} {ti tj : TypeId} {zi zj : List Value} {ni nj : Nat} (Ti : AgTy P ti zi.toArray ni) (Tj : AgTy P tj zj.toArray nj)
    (hr : Region.ready .any ops listed = [i, j]) (hi' : ops.toList[i]? = some oi) (hj' : ops.toList[j]? = some oj)
    (hri : Region.ready .any ops (listed.setIfInBounds i true) = [j]) (hrj : Region.ready .any ops (listed.setIfInBounds j true) = [i])
    (hgi : oi.guard = none) (hgj : oj.guard = none) (hoi : oi.op = .alloc ti) (hoj : oj.op = .alloc tj) (hd : oi.dst ≠ oj.dst) (hij : i ≠ j)
    (hS : ∀ w', Below w.heap.size w w' → S w')
    (h : ∀ g1 g2 w', g1 ≠ g2 → w.heap.size ≤ g1 → w.heap.size ≤ g2 → Arr w' g1 ti zi → Arr w' g2 tj zj → Below w.heap.size w w' →
      wpAnyH P .any ops Q S fuel ((listed.setIfInBounds i true).setIfInBounds j true) ((a.put oi.dst (.pointer (some ⟨g1, 0, none⟩))).put oj.dst (.pointer (some ⟨g2, 0, none⟩))) w') :
    wpAnyH P .any ops Q S (fuel + 2) listed a w := by
  have hi : ops[i]? = some oi := by rw [← hi']; simp
  have hj : ops[j]? = some oj := by rw [← hj']; simp
  have key : ∀ (k l : Nat) (ok ol : Oper) (tk tl : TypeId) (zk zl : List Value) (nk nl : Nat), AgTy P tk zk.toArray nk → AgTy P tl zl.toArray nl → ops[k]? = some ok → ops[l]? = some ol →
      Region.ready .any ops (listed.setIfInBounds k true) = [l] → ok.guard = none → ol.guard = none → ok.op = .alloc tk → ol.op = .alloc tl →
      (∀ g1 g2 w', g1 ≠ g2 → w.heap.size ≤ g1 → w.heap.size ≤ g2 → Arr w' g1 tk zk → Arr w' g2 tl zl → Below w.heap.size w w' →
        wpAnyH P .any ops Q S fuel ((listed.setIfInBounds k true).setIfInBounds l true) ((a.put ok.dst (.pointer (some ⟨g1, 0, none⟩))).put ol.dst (.pointer (some ⟨g2, 0, none⟩))) w') →
      wpOp P ops Q k (fun a' w' => S w' ∧ wpAnyH P .any ops Q S (fuel + 1) (listed.setIfInBounds k true) a' w') a w := by
    intro k l ok ol tk tl zk zl nk nl Tk Tl hk hl hrk hgk hgl hok hol H
    refine wpOp_of_list hk (alArr Tk (wn hgk) hok fun w1 hA1 hb1 => ⟨hS _ hb1, wpAnyH_all hrk (by simp) fun m hm => ?_⟩)
    rw [List.mem_singleton] at hm
    subst hm
    refine wpOp_of_list hl (alArr Tl (wn hgl) hol fun w2 hA2 hb2 => ?_)
    have hb := hb1.trans (hb2.mono hb1.size)
    refine ⟨hS _ hb, H _ _ _ ?_ (Nat.le_refl _) hb1.size (hA1.below hb2 hA1.lt) hA2 hb⟩
    have := hA1.lt
    omega
  refine wpAnyH_all hr (by simp) fun k hk => ?_
  rcases List.mem_cons.1 hk with rfl | hk
  · exact key _ _ _ _ _ _ _ _ _ _ Ti Tj hi hj hri hgi hgj hoi hoj h
  · rw [List.mem_singleton] at hk
    subst hk
    refine key _ _ _ _ _ _ _ _ _ _ Tj Ti hj hi hrj hgj hgi hoj hoi fun g1 g2 w' h1 h2 h3 h4 h5 h6 => ?_
    rw [Act.put_comm a _ _ (fun d e1 e2 => hd (e2.trans e1.symm)), Array.setIfInBounds_comm _ _ (Ne.symm hij)]
    exact h g2 g1 w' (Ne.symm h1) h3 h2 h5 h4 h6
end
end Go.Proofs.Ytkfijpghjjnpkaa
/-
  Cells in the middle of a block that is known whole: a struct's field or an array's part is set, bytes of a text are copied there. No statement is proved here.
-/
namespace Go.Proofs.Ytkfijpghjjnpkaa
open Go.RowKit

/-- cur with cs laid from place off on. -/
def spl (cur : List Value) (off : Nat) (cs : List Value) : List Value := cur.take off ++ cs ++ cur.drop (off + cs.length)
theorem spl_len {cur cs : List Value} {off : Nat} (h : off + cs.length ≤ cur.length) : (spl cur off cs).length = cur.length := by unfold spl; simp; omega
theorem spl_mid (p q m cs : List Value) (h : cs.length = m.length) : spl (p ++ m ++ q) p.length cs = p ++ cs ++ q := by
  unfold spl
  rw [h, ← List.length_append, List.drop_left, List.append_assoc p m q, List.take_left]
theorem spl_head (m q cs : List Value) (h : cs.length = m.length) : spl (m ++ q) 0 cs = cs ++ q := by
  have := spl_mid [] q m cs h
  simpa using this
theorem spl_at {cur cs : List Value} {off j : Nat} (h : off + cs.length ≤ cur.length) : (spl cur off cs)[j]? = if j < off then cur[j]? else if j < off + cs.length then cs[j - off]? else cur[j]? := by
  unfold spl
  have hl : (cur.take off).length = off := by rw [List.length_take]; omega
  by_cases h1 : j < off
  · rw [if_pos h1, List.append_assoc, List.getElem?_append_left (by omega), List.getElem?_take, if_pos h1]
  · rw [if_neg h1]
    by_cases h2 : j < off + cs.length
    · rw [if_pos h2, List.append_assoc, List.getElem?_append_right (by omega), hl, List.getElem?_append_left (by omega)]
    · rw [if_neg h2, List.getElem?_append_right (by rw [List.length_append]; omega), List.length_append, hl, List.getElem?_drop]
      congr 1; omega
section
variable {P : Program} {w : World} {ops : Array Oper} {rest : List Oper} {o : Oper} {a : Act} {Q : Exit → Act → World → Prop} {g off : Nat} {t : TypeId} {cur : List Value}
theorem run_storeCells_spl (hA : Arr w g t cur) (cs : List Value) (hfit : off + cs.length ≤ cur.length) (h1 : ∀ u ∈ cs, u.oneCell' = true) :
    (storeCells ⟨g, off, none⟩ cs).run P w = .ok () (w.setRow g (spl cur off cs).toArray) := by
  have hst := run_storeCells_at P g off t cs 0 cur.toArray w hA (by rw [List.size_toArray]; omega) h1
  rw [hst]
  simp [spl]
/-- A part of a block is set. -/
theorem stMid {ty : TypeId} {z : Array Value} {n : Nat} (x y : Operand) (cs : List Value) (T : AgTy P ty z n) (hgd : Region.wanted o (yielded ops a.tmps) = true) (ho : o.op = .store ty x y)
    (hx : a.eval x = .pointer (some ⟨g, off, none⟩)) (hy : a.eval y = .agg cs.toArray) (hA : Arr w g t cur) (hl : cs.length = n) (hfit : off + n ≤ cur.length) (h1 : ∀ u ∈ cs, u.oneCell' = true)
    (h : ∀ w', Arr w' g t (spl cur off cs) → (∀ b' t' c', b' ≠ g → Arr w b' t' c' → Arr w' b' t' c') → (∀ B, B ≤ g → Below B w w') → wpList P ops Q rest (a.put o.dst undef) w') : wpList P ops Q (o :: rest) a w := by
  obtain ⟨i, hi, _, hs'⟩ := T.parts
  have hst := run_storeCells_spl (P := P) hA (off := off) cs (by omega) h1
  have hrun : (storeVar ty ⟨g, off, none⟩ (.agg cs.toArray)).run P w = .ok () (w.setRow g (spl cur off cs).toArray) := by
    simp [storeVar, sizeOf, typeInfo, hi, hs', Value.cells, hl, hst]
  refine wpList_want hgd fun K hK => ?_
  unfold Oper.wp execOp
  simp only [ho, hx, hy, Instr.storeAt, Instr.sureAddr, Sem.run_bind, Sem.run_pure, Result.andThen_ok, hrun]
  exact hK _ _ (h _ (hA.setRow _) (fun b' t' c' hne hA' => hA'.setRow_other (fun e => hne e.symm) _) (fun B hB => below_setRow w hB _))
/-- 'copy(d, text)' into bytes of a block. -/
theorem cpStr {dT sT e : TypeId} {dl dc : Nat} (d s : Operand) (txt : List UInt8) (hu : P.underlying dT = some (.slice e)) (he : (P.info? e).map (·.size) = some 1) (hgd : Region.wanted o (yielded ops a.tmps) = true)
    (ho : o.op = .call { callee := .builtin .copy, args := #[d, s], argTypes := #[dT, sT] }) (hd : a.eval d = .slice (some ⟨g, off, none⟩) dl dc) (hs : a.eval s = .string ⟨txt.toArray⟩) (hA : Arr w g t cur) (hfit : off + dl ≤ cur.length)
    (h : ∀ w', Arr w' g t (spl cur off (bcs (txt.take dl))) → (∀ b' t' c', b' ≠ g → Arr w b' t' c' → Arr w' b' t' c') → (∀ B, B ≤ g → Below B w w') → wpList P ops Q rest (a.put o.dst (.int .i64 ((min txt.length dl : Nat) : Int))) w') : wpList P ops Q (o :: rest) a w := by
  obtain ⟨i, hi, hsz⟩ := Option.map_eq_some_iff.1 he
  have hst := run_storeCells_spl (P := P) hA (off := off) (bcs (txt.take dl)) (by rw [bcs_length, List.length_take]; omega) (bcs_one _)
  have hcells : List.take (min txt.length dl) (List.map (fun b : UInt8 => Value.int .u8 b.toNat) txt) = bcs (txt.take dl) := by
    have hb : List.map (fun b : UInt8 => Value.int .u8 b.toNat) txt = bcs txt := rfl
    rw [hb]
    unfold bcs
    rw [← List.map_take]
    by_cases hle : txt.length ≤ dl
    · rw [Nat.min_eq_left hle, List.take_length, List.take_of_length_le hle]
    · rw [Nat.min_eq_right (by omega)]
  have hrun : (Builtin.copy_ #[dT, sT] o.type #[.slice (some ⟨g, off, none⟩) dl dc, .string ⟨txt.toArray⟩]).run P w = .ok (.int .i64 ((min txt.length dl : Nat) : Int)) (w.setRow g (spl cur off (bcs (txt.take dl))).toArray) := by
    have hmin : Nat.min (⟨txt.toArray⟩ : ByteArray).size dl = min txt.length dl := by simp [ByteArray.size]
    simp only [Builtin.copy_, Builtin.lenOf, Builtin.firstCells, sizeOf, typeInfo]
    simp [run_underlying hu, hi, hmin, hcells, hst, goInt]
  refine wpList_want hgd fun K hK => ?_
  unfold Oper.wp execOp
  simp only [ho, resolve, invoke, builtin, Sem.run_bind, Sem.run_pure, Result.andThen_ok, List.map_toArray, List.map_cons, List.map_nil, hd, hs, hrun]
  exact hK _ _ (h _ (hA.setRow _) (fun b' t' c' hne hA' => hA'.setRow_other (fun e => hne e.symm) _) (fun B hB => below_setRow w hB _))
/-- An operation whose value is known. -/
theorem opVal {v : Value} (hgd : Region.wanted o (yielded ops a.tmps) = true) (hrun : (execOp a.eval o).run P w = .ok (.value v) w) (h : wpList P ops Q rest (a.put o.dst v) w) : wpList P ops Q (o :: rest) a w := by
  refine wpList_want hgd fun K hK => ?_
  unfold Oper.wp
  rw [hrun]
  exact hK _ _ h
/-- A literal whose value is known by a run. -/
theorem bdVal {ty : TypeId} {parts : Array (Nat × Operand)} {ps : Array (Nat × Value)} {v : Value} (hrun : ∀ w, (Instr.build ty ps).run P w = .ok v w) (hgd : Region.wanted o (yielded ops a.tmps) = true) (ho : o.op = .build ty parts)
    (hev : (parts.map fun (i, x) => (i, a.eval x)) = ps) (h : wpList P ops Q rest (a.put o.dst v) w) : wpList P ops Q (o :: rest) a w := by
  refine opVal (v := v) hgd ?_ h
  unfold execOp
  simp only [ho, hev, Sem.run_bind, Sem.run_pure, hrun, Result.andThen_ok]
theorem add_off (b off k : Nat) : (⟨b, off, none⟩ : Addr).add k = ⟨b, off + k, none⟩ := by unfold Addr.add; split <;> simp_all
/-- 'arr[lo:]' of an array variable. -/
theorem slPtrL {t e : TypeId} {n b : Nat} {kl : IntKind} {L : Int} (x l : Operand) (U : Nat) (hu : P.underlying t = some (.array n e)) (he : (P.info? e).map (·.size) = some 1) (hgd : Region.wanted o (yielded ops a.tmps) = true)
    (ho : o.op = .slice t x (some l) none none) (hx : a.eval x = .pointer (some ⟨b, off, none⟩)) (hl : a.eval l = .int kl L) (hL : L = (U : Int)) (h1 : U < n)
    (h : wpList P ops Q rest (a.put o.dst (.slice (some ⟨b, off + U, none⟩) (n - U) (n - U))) w) : wpList P ops Q (o :: rest) a w := by
  obtain ⟨i, hi, hsz⟩ := Option.map_eq_some_iff.1 he
  subst hL
  refine opVal (v := .slice (some ⟨b, off + U, none⟩) (n - U) (n - U)) hgd ?_ h
  unfold execOp
  have hne : ¬ n = U := by omega
  have hle : ((U : Int) ≤ (n : Int)) := by omega
  simp [ho, hx, hl, Instr.sliceAt, Instr.sureAddr, run_underlying hu, Instr.sliceBounds, run_sliceBound, sizeOf, typeInfo, hi, hsz, hne, hle, add_off]
/-- 'arr[:]'. -/
theorem slPtr {t e : TypeId} {n b : Nat} (x : Operand) (hu : P.underlying t = some (.array n e)) (he : (P.info? e).map (·.size) = some 1) (h0 : 0 < n) (hgd : Region.wanted o (yielded ops a.tmps) = true)
    (ho : o.op = .slice t x none none none) (hx : a.eval x = .pointer (some ⟨b, off, none⟩))
    (h : wpList P ops Q rest (a.put o.dst (.slice (some ⟨b, off, none⟩) n n)) w) : wpList P ops Q (o :: rest) a w := by
  obtain ⟨i, hi, hsz⟩ := Option.map_eq_some_iff.1 he
  refine opVal (v := .slice (some ⟨b, off, none⟩) n n) hgd ?_ h
  unfold execOp
  have hne : ¬ n = 0 := by omega
  simp [ho, hx, Instr.sliceAt, Instr.sureAddr, run_underlying hu, Instr.sliceBounds, sizeOf, typeInfo, hi, hsz, hne, add_off]
/-- The conversion of a string to bytes. -/
theorem convBs {src e dst : TypeId} (x : Operand) (l : List UInt8) (hs : P.underlying src = some .string) (hd : P.underlying dst = some (.slice e)) (he : P.underlying e = some (.int .u8)) (hgd : Region.wanted o (yielded ops a.tmps) = true)
    (ho : o.op = .convert src dst x) (hx : a.eval x = .string ⟨l.toArray⟩) (hl : l.length ≤ 70368744177664)
    (h : ∀ A c w', Rd w' w'.heap.size 1 A l.length c (bcs l) → Below w.heap.size w w' → wpList P ops Q rest (a.put o.dst (.slice A l.length c)) w') : wpList P ops Q (o :: rest) a w := by
  have hsz : (⟨l.toArray⟩ : ByteArray).size = l.length := by simp [ByteArray.size]
  have hr := Lib.run_convert_string_bytes (P := P) w src dst e ⟨l.toArray⟩ hs hd he
  rw [hsz] at hr
  refine wpList_want hgd fun K hK => ?_
  unfold Oper.wp execOp
  simp only [ho, hx, Sem.run_bind, Sem.run_pure, hr, Result.andThen_ok]
  refine hK _ _ (h _ _ _ ?_ ?_)
  · refine ⟨by rw [bcs_length, Nat.mul_one], grownCap_ge w l.length 0 e, grownCap_le_maxLen w l.length 0 e (by unfold maxLen; omega), fun hn => ⟨w.heap.size, 0, rfl, by rw [Lib.bytesWorld_size]; omega, fun j u hu => ?_⟩⟩
    have hj : j < l.length := by have := (List.getElem?_eq_some_iff.1 hu).1; rwa [bcs_length] at this
    rw [Nat.zero_add, Lib.bytesWorld_cell w e _ j (by rw [hsz]; exact hj), ← hu]
    unfold bcs
    rw [List.getElem?_map, List.getElem?_eq_getElem hj]
    simp [bc, List.getD, hj]
  · exact ⟨rfl, rfl, rfl, by rw [Lib.bytesWorld_size]; omega, fun k hk => Lib.bytesWorld_at_old w e _ k hk⟩
end
end Go.Proofs.Ytkfijpghjjnpkaa
/-
  A region that draws its order and holds calls and new variables that may come up in any order: each is shown once. No statement is proved here.
-/
namespace Go.Proofs.Ytkfijpghjjnpkaa
open Go.RowKit

/-- What was there is as it was. -/
abbrev Ext (w w' : World) : Prop := Below w.heap.size w w'
theorem Ext.trans' {a b c : World} (h : Ext a b) (k : Ext b c) : Ext a c := Below.trans h (k.mono h.size)

/-- Operation k waits for operation i. -/
def waitsFor (ops : Array Oper) (k i : Nat) : Bool := ((ops.toList[k]?).map fun o => o.after.any fun e => Region.binds .any e && e.on == i).getD false
/-- Operation k waits for operation p, or for one of X that does. -/
def reachX (ops : Array Oper) (X : List (Nat × Nat)) : Nat → Nat → Nat → Bool
  | 0, k, p => waitsFor ops k p
  | f + 1, k, p => waitsFor ops k p || X.any fun q => waitsFor ops k q.1 && reachX ops X f q.1 p
theorem reach_listed {ops : Array Oper} {X : List (Nat × Nat)} {listed : Array Bool} (hinv : ∀ q ∈ X, listed.getD q.1 true = true → ∀ p ∈ X, waitsFor ops q.1 p.1 = true → listed.getD p.1 true = true) :
    ∀ (f k : Nat), (∀ q ∈ X, waitsFor ops k q.1 = true → listed.getD q.1 true = true) → ∀ p ∈ X, reachX ops X f k p.1 = true → listed.getD p.1 true = true
  | 0, _, hk, p, hp, h => hk p hp h
  | f + 1, k, hk, p, hp, h => by
    unfold reachX at h
    rw [Bool.or_eq_true] at h
    rcases h with h | h
    · exact hk p hp h
    · obtain ⟨q, hq, h2⟩ := List.any_eq_true.1 h
      rw [Bool.and_eq_true] at h2
      exact reach_listed hinv f q.1 (fun q' hq' hw' => hinv q hq (hk q hq h2.1) q' hq' hw') p hp h2.2
/-- The operations X (number, slot) may come up in any order that their edges allow, and no other before all of them. -/
def floatB (ops : Array Oper) (listed : Array Bool) (n : Nat) (X : List (Nat × Nat)) : Bool :=
  (X.all fun p => X.all fun q => (p.1 == q.1) == (p.2 == q.2)) && decide (listed.size = ops.size) && decide X.Nodup &&
  (X.all fun p => decide (p.2 < n) && decide (p.1 < ops.size) && !listed.getD p.1 true &&
    ((ops.toList[p.1]?).map fun o => o.after.all fun e => !Region.binds .any e || (decide (e.on < p.1) && (listed.getD e.on false || X.any (·.1 == e.on)))).getD false) &&
  (List.range ops.size).all fun k => listed.getD k true || X.any (·.1 == k) || (X.all fun p => waitsFor ops k p.1 || reachX ops X X.length k p.1)
/-- The frame a, the slots of X aside. -/
structure FrameX (a0 : Act) (X : List (Nat × Nat)) (a : Act) : Prop where
  size : a.tmps.size = a0.tmps.size
  defers : a.defers = a0.defers
  same : ∀ t, (∀ p ∈ X, p.2 ≠ t) → a.tmps.getD t undef = a0.tmps.getD t undef
theorem FrameX.eval {a0 a : Act} {X : List (Nat × Nat)} (h : FrameX a0 X a) (t : Nat) (ht : (X.all fun p => !(p.2 == t)) = true) : a.eval (.tmp t) = a0.eval (.tmp t) := by
  have := h.same t (fun p hp e => by have := List.all_eq_true.1 ht p hp; simp [e] at this)
  simpa [Act.eval] using this
def listX : List (Nat × Nat) → Array Bool → Array Bool
  | [], l => l
  | p :: X, l => listX X (l.setIfInBounds p.1 true)
theorem listX_size : ∀ (X : List (Nat × Nat)) (l : Array Bool), (listX X l).size = l.size
  | [], _ => rfl
  | p :: X, l => by rw [listX, listX_size X]; simp
theorem listX_get : ∀ (X : List (Nat × Nat)) (l : Array Bool) (k : Nat), k < l.size → (listX X l).getD k true = (l.getD k true || X.any (·.1 == k))
  | [], l, k, _ => by simp [listX]
  | p :: X, l, k, hk => by
    rw [listX, listX_get X _ k (by simpa using hk), List.any_cons]
    by_cases h : p.1 = k
    · subst h; simp [hk]
    · have : (p.1 == k) = false := by simpa using h
      rw [this, Bool.false_or]
      congr 1
      simp [h]

section
variable {P : Program} {ops : Array Oper} {Q : Exit → Act → World → Prop} {X : List (Nat × Nat)} {G : Nat → Value → World → Prop} {a0 : Act} {w0 : World} {listed0 : Array Bool}
theorem getD_put_same {a : Act} {d : Nat} {v : Value} (h : d < a.tmps.size) : (a.put (some d) v).tmps.getD d undef = v := by simp [Act.put, h]
theorem getD_put_other {a : Act} {d t : Nat} {v : Value} (h : d ≠ t) : (a.put (some d) v).tmps.getD t undef = a.tmps.getD t undef := by simp [Act.put, h]
theorem float_go (hB : floatB ops listed0 a0.tmps.size X = true)
    (hmono : ∀ p ∈ X, ∀ v w w', G p.1 v w → Ext w w' → G p.1 v w')
    (hstep : ∀ p ∈ X, ∃ o, ops.toList[p.1]? = some o ∧ o.dst = some p.2 ∧ ∀ a w, FrameX a0 X a → Ext w0 w → (∀ q ∈ X, waitsFor ops p.1 q.1 = true → G q.1 (a.tmps.getD q.2 undef) w) →
      wpList P ops (Exit.then (fun a' w' => ∃ v, a' = a.put o.dst v ∧ Ext w w' ∧ G p.1 v w') Q) [o] a w)
    (fuel : Nat) (hend : ∀ a w, FrameX a0 X a → Ext w0 w → (∀ p ∈ X, G p.1 (a.tmps.getD p.2 undef) w) → wpAny P .any ops Q fuel (listX X listed0) a w) :
    ∀ (m : Nat) (listed : Array Bool) (a : Act) (w : World), (X.filter fun p => !listed.getD p.1 true).length = m → listed.size = ops.size →
      (∀ k, X.any (·.1 == k) = false → listed.getD k true = listed0.getD k true) → FrameX a0 X a → Ext w0 w → (∀ p ∈ X, listed.getD p.1 true = true → G p.1 (a.tmps.getD p.2 undef) w) →
      (∀ q ∈ X, listed.getD q.1 true = true → ∀ p ∈ X, waitsFor ops q.1 p.1 = true → listed.getD p.1 true = true) →
      wpAny P .any ops Q (m + fuel) listed a w := by
  unfold floatB at hB
  simp only [Bool.and_eq_true, List.all_eq_true, decide_eq_true_eq, Bool.or_eq_true, Bool.not_eq_true', beq_iff_eq] at hB
  obtain ⟨⟨⟨⟨hpair, hls⟩, hnd⟩, hX⟩, hrest⟩ := hB
  have hpair' : ∀ p ∈ X, ∀ q ∈ X, (p.1 = q.1 ↔ p.2 = q.2) := fun p hp q hq => by
    have := hpair p hp q hq
    rw [Bool.eq_iff_iff] at this
    simpa using this
  intro m
  induction m with
  | zero =>
    intro listed a w hm hsz hk hF hE hG _
    have hall : ∀ p ∈ X, listed.getD p.1 true = true := fun p hp => by
      have := List.length_eq_zero_iff.1 hm
      rw [List.filter_eq_nil_iff] at this
      simpa using this p hp
    have hl : listed = listX X listed0 := by
      apply Array.ext
      · rw [listX_size, hsz, hls]
      · intro k h1 h2
        have e1 : listed.getD k true = listed[k] := by simp [h1]
        have e2 : (listX X listed0).getD k true = (listX X listed0)[k] := by simp [h2]
        rw [← e1, ← e2, listX_get X listed0 k (by rw [hls, ← hsz]; exact h1)]
        cases hx : X.any (·.1 == k) with
        | false => rw [hk k hx, Bool.or_false]
        | true =>
          rw [Bool.or_true]
          obtain ⟨p, hp, hpk⟩ := List.any_eq_true.1 hx
          rw [beq_iff_eq] at hpk
          rw [← hpk]; exact hall p hp
    rw [hl, Nat.zero_add]
    exact hend a w hF hE fun p hp => hG p hp (hall p hp)
  | succ m ih =>
    intro listed a w hm hsz hk hF hE hG hinv
    have hun : ∃ p ∈ X, listed.getD p.1 true = false := by
      cases hf : X.filter fun p => !listed.getD p.1 true with
      | nil => rw [hf] at hm; simp at hm
      | cons p r =>
        have : p ∈ X.filter fun p => !listed.getD p.1 true := by rw [hf]; exact List.mem_cons_self
        rw [List.mem_filter] at this
        exact ⟨p, this.1, by simpa using this.2⟩
    have hin : ∀ i ∈ Region.ready .any ops listed, ∃ p ∈ X, p.1 = i := by
      intro i hi
      obtain ⟨hiu, o, ho, hall⟩ := mem_ready.1 hi
      have hio : i < ops.size := (Array.getElem?_eq_some_iff.1 ho).1
      cases hx : X.any (·.1 == i) with
      | true =>
        obtain ⟨p, hp, hpk⟩ := List.any_eq_true.1 hx
        exact ⟨p, hp, by simpa using hpk⟩
      | false =>
        exfalso
        have h1 := hk i hx
        rcases hrest i (List.mem_range.2 hio) with (h | h) | h
        · rw [h1, h] at hiu; cases hiu
        · rw [hx] at h; cases h
        · obtain ⟨p, hp, hpu⟩ := hun
          have hdir : ∀ q ∈ X, waitsFor ops i q.1 = true → listed.getD q.1 true = true := by
            intro q _ hw
            unfold waitsFor at hw
            have ho' : ops.toList[i]? = some o := by rw [← ho]; simp
            rw [ho'] at hw
            simp only [Option.map_some, Option.getD_some] at hw
            obtain ⟨e, he, hbe⟩ := Array.any_eq_true'.1 hw
            simp only [Bool.and_eq_true, beq_iff_eq] at hbe
            have h2 := hall e he hbe.1
            rw [hbe.2] at h2
            rcases Nat.lt_or_ge q.1 listed.size with h' | h'
            · simp [h'] at h2 ⊢; exact h2
            · simp [Array.getElem?_eq_none h'] at h2
          have hpl : listed.getD p.1 true = true := by
            rcases h p hp with h3 | h3
            · exact hdir p hp h3
            · exact reach_listed hinv _ i hdir p hp h3
          rw [hpl] at hpu; cases hpu
    rw [Nat.succ_add]
    refine ⟨fun h0 => ?_, fun i hi => ?_⟩
    · -- something may come up
      exfalso
      have key : ∀ (n : Nat) (p : Nat × Nat), p ∈ X → listed.getD p.1 true = false → p.1 ≤ n → False := by
        intro n
        induction n using Nat.strongRecOn with
        | ind n ihn =>
          intro p hp hpu hpn
          have hXp := hX p hp
          obtain ⟨⟨⟨h1, h2⟩, h3⟩, h4⟩ := hXp
          obtain ⟨o, ho⟩ : ∃ o, ops.toList[p.1]? = some o := ⟨ops.toList[p.1]'(by simpa using h2), List.getElem?_eq_getElem _⟩
          have ho' : ops[p.1]? = some o := by rw [← ho]; simp
          rw [ho] at h4
          simp only [Option.map_some, Option.getD_some] at h4
          have hr : p.1 ∈ Region.ready .any ops listed := by
            refine mem_ready.2 ⟨hpu, o, ho', fun e he hb => ?_⟩
            have h5 := Array.all_eq_true'.1 h4 e he
            simp only [hb, Bool.not_true, Bool.false_or, Bool.and_eq_true, decide_eq_true_eq, Bool.or_eq_true] at h5
            obtain ⟨h6, h7⟩ := h5
            have hlt : e.on < listed.size := by rw [hsz]; omega
            have hsame : listed.getD e.on false = listed.getD e.on true := by simp [hlt]
            rw [hsame]
            cases hx : X.any (·.1 == e.on) with
            | false =>
              rw [hk _ hx]
              rcases h7 with h7 | h7
              · have : e.on < listed0.size := by rw [hls]; omega
                simp [this] at h7 ⊢; exact h7
              · rw [hx] at h7; cases h7
            | true =>
              obtain ⟨q, hq, hqk⟩ := List.any_eq_true.1 hx
              rw [beq_iff_eq] at hqk
              cases hqu : listed.getD e.on true with
              | true => rfl
              | false => exact (ihn e.on (by omega) q hq (by rw [hqk]; exact hqu) (by omega)).elim
          rw [h0] at hr
          cases hr
      obtain ⟨p, hp, hpu⟩ := hun
      exact key p.1 p hp hpu (Nat.le_refl _)
    · obtain ⟨p, hp, rfl⟩ := hin i hi
      obtain ⟨hiu, o', ho', hall⟩ := mem_ready.1 hi
      obtain ⟨o, ho, hd, hw⟩ := hstep p hp
      have hoo : ops[p.1]? = some o := by rw [← ho]; simp
      obtain rfl : o' = o := Option.some.inj (ho'.symm.trans hoo)
      have hstep' := hw a w hF hE fun q hq hqw => by
        refine hG q hq ?_
        unfold waitsFor at hqw
        rw [ho] at hqw
        simp only [Option.map_some, Option.getD_some] at hqw
        obtain ⟨e, he, hbe⟩ := Array.any_eq_true'.1 hqw
        simp only [Bool.and_eq_true, beq_iff_eq] at hbe
        have h2 := hall e he hbe.1
        rw [hbe.2] at h2
        rcases Nat.lt_or_ge q.1 listed.size with h' | h'
        · simp [h'] at h2 ⊢; exact h2
        · simp [Array.getElem?_eq_none h'] at h2
      refine wpOp_mono (fun a' w' h' => ?_) (wpOp_of_list hoo hstep')
      obtain ⟨v, rfl, hEw, hGv⟩ := h'
      rw [hd]
      obtain ⟨⟨⟨h1, h2⟩, h3⟩, h4⟩ := hX p hp
      have hpl : p.1 < listed.size := by rw [hsz]; exact h2
      refine ih _ _ _ ?_ (by simpa using hsz) (fun k hx => ?_) ⟨by rw [← hF.size]; simp [Act.put], by rw [← hF.defers]; rfl, fun t ht => by rw [getD_put_other (ht p hp)]; exact hF.same t ht⟩ (Ext.trans' hE hEw) (fun q hq hql => ?_) (fun q hq hql q' hq' hw' => ?_)
      · -- one less
        have hf : (X.filter fun q => !(listed.setIfInBounds p.1 true).getD q.1 true) = (X.filter fun q => !listed.getD q.1 true).filter (· != p) := by
          rw [List.filter_filter]
          apply List.filter_congr
          intro q hq
          by_cases hpq : q.1 = p.1
          · have hqp : q = p := Prod.ext hpq ((hpair' q hq p hp).1 hpq)
            subst hqp
            simp [hpl]
          · have h1 : (q != p) = true := by rw [bne_iff_ne]; exact fun e => hpq (by rw [e])
            have h2 : p.1 ≠ q.1 := fun e => hpq e.symm
            rw [h1, Bool.true_and]
            congr 1
            simp [h2]
        rw [hf, ← List.Nodup.erase_eq_filter (hnd.filter _), List.length_erase_of_mem (List.mem_filter.2 ⟨hp, by simpa using hiu⟩), hm]
        rfl
      · have hne' : p.1 ≠ k := fun e => by
          rw [List.any_eq_false] at hx
          exact hx p hp (by simpa using e)
        rw [← hk k hx]
        simp [hne']
      · by_cases hpq : q.1 = p.1
        · have h2' := (hpair' q hq p hp).1 hpq
          rw [h2', hpq, getD_put_same (by rw [hF.size]; exact h1)]
          exact hGv
        · have h2' : p.2 ≠ q.2 := fun e => hpq ((hpair' q hq p hp).2 e.symm)
          rw [getD_put_other h2']
          refine hmono q hq _ _ _ (hG q hq ?_) hEw
          have h5 : p.1 ≠ q.1 := fun e => hpq e.symm
          have h6 : (listed.setIfInBounds p.1 true).getD q.1 true = listed.getD q.1 true := by simp [h5]
          rw [h6] at hql
          exact hql
      · have hset : ∀ k : Nat, listed.getD k true = true → (listed.setIfInBounds p.1 true).getD k true = true := by
          intro k hk'
          by_cases e : p.1 = k
          · subst e; simp [hpl]
          · have : (listed.setIfInBounds p.1 true).getD k true = listed.getD k true := by simp [e]
            rw [this]; exact hk'
        refine hset q'.1 ?_
        by_cases hpq : q.1 = p.1
        · rw [hpq] at hw'
          unfold waitsFor at hw'
          rw [ho] at hw'
          simp only [Option.map_some, Option.getD_some] at hw'
          obtain ⟨e, he, hbe⟩ := Array.any_eq_true'.1 hw'
          simp only [Bool.and_eq_true, beq_iff_eq] at hbe
          have h2 := hall e he hbe.1
          rw [hbe.2] at h2
          rcases Nat.lt_or_ge q'.1 listed.size with h' | h'
          · simp [h'] at h2 ⊢; exact h2
          · simp [Array.getElem?_eq_none h'] at h2
        · have h5 : p.1 ≠ q.1 := fun e => hpq e.symm
          have h6 : (listed.setIfInBounds p.1 true).getD q.1 true = listed.getD q.1 true := by simp [h5]
          rw [h6] at hql
          exact hinv q hq hql q' hq' hw'
/-- The operations X, each shown once, in whatever order; what follows is asked of whatever values they have left. -/
theorem rgFloat (X : List (Nat × Nat)) (G : Nat → Value → World → Prop) (k : Nat) (fuel : Nat) (hk : k = X.length + fuel) (hB : floatB ops listed0 a0.tmps.size X = true)
    (hmono : ∀ p ∈ X, ∀ v w w', G p.1 v w → Ext w w' → G p.1 v w')
    (hstep : ∀ p ∈ X, ∃ o, ops.toList[p.1]? = some o ∧ o.dst = some p.2 ∧ ∀ a w, FrameX a0 X a → Ext w0 w → (∀ q ∈ X, waitsFor ops p.1 q.1 = true → G q.1 (a.tmps.getD q.2 undef) w) →
      wpList P ops (Exit.then (fun a' w' => ∃ v, a' = a.put o.dst v ∧ Ext w w' ∧ G p.1 v w') Q) [o] a w)
    (hend : ∀ a w, FrameX a0 X a → Ext w0 w → (∀ p ∈ X, G p.1 (a.tmps.getD p.2 undef) w) → wpAny P .any ops Q fuel (listX X listed0) a w) :
    wpAny P .any ops Q k listed0 a0 w0 := by
  subst hk
  have hB' := hB
  unfold floatB at hB'
  simp only [Bool.and_eq_true, List.all_eq_true, decide_eq_true_eq, Bool.or_eq_true, Bool.not_eq_true', beq_iff_eq] at hB'
  obtain ⟨⟨⟨⟨_, hls⟩, _⟩, hX⟩, _⟩ := hB'
  have hall : (X.filter fun p => !listed0.getD p.1 true) = X := List.filter_eq_self.2 fun p hp => by
    have := (hX p hp).1.2
    simpa using this
  exact float_go hB hmono hstep fuel hend _ listed0 a0 w0 (by rw [hall]) hls (fun _ _ => rfl) ⟨rfl, rfl, fun _ _ => rfl⟩ (Below.refl _ _) (fun p hp h => by have := (hX p hp).1.2; rw [h] at this; cases this) (fun q hq h => by have := (hX q hq).1.2; rw [h] at this; cases this)
/-- An operation taken first, in whatever world. -/
theorem aTake {fuel : Nat} {listed : Array Bool} {a : Act} {w : World} {i : Nat} {o : Oper} {v : Value} (hi' : ops.toList[i]? = some o) (hm : mayFirst ops listed i = true) (hw : Region.wanted o (yielded ops a.tmps) = true)
    (hQ : ∀ c a w, Q (.panic c) (a.put o.dst v) w → Q (.panic c) a w) (hy : ∀ w, (execOp a.eval o).run P w = .ok (.value v) w)
    (h : wpAny P .any ops Q fuel (listed.setIfInBounds i true) (a.put o.dst v) w) : wpAny P .any ops Q (fuel + 1) listed a w := by
  have hi : ops[i]? = some o := by rw [← hi']; simp
  simp only [mayFirst, Bool.and_eq_true] at hm
  exact wpAny_take hi hm.1.1 hm.1.2 hm.2 hQ (Or.inl ⟨hw, hy⟩) h
theorem aNext {fuel : Nat} {listed : Array Bool} {a : Act} {w : World} {i : Nat} {o : Oper} (hr : Region.ready .any ops listed = [i]) (hi' : ops.toList[i]? = some o)
    (h : wpList P ops (Exit.then (wpAny P .any ops Q fuel (listed.setIfInBounds i true)) Q) [o] a w) : wpAny P .any ops Q (fuel + 1) listed a w := by
  have hi : ops[i]? = some o := by rw [← hi']; simp
  refine wpAny_all hr (by simp) fun j hj => ?_
  rw [List.mem_singleton] at hj
  subst hj
  exact wpOp_of_list hi h
theorem aDone {fuel : Nat} {listed : Array Bool} {a : Act} {w : World} (hr : Region.ready .any ops listed = []) (h : Q .normal a w) : wpAny P .any ops Q fuel listed a w := wpAny_done hr h _
theorem aStart {id : Nat} {a : Act} {w : World} (hm : P.follows .mixedOrders = true) (h : wpAny P .any ops Q ops.size (Array.replicate ops.size false) a w.drew) : (Code.region id ops true).wp P Q a w := wp_region_any hm h
end
/-- '[n]T(s)' of a slice, or of an array's part. -/
theorem saPtr {P : Program} {w : World} {ops : Array Oper} {rest : List Oper} {o : Oper} {a : Act} {Q : Exit → Act → World → Prop} {arr e : TypeId} {n len c : Nat} {A : Option Addr} (x : Operand) (h : P.underlying arr = some (.array n e)) (hgd : Region.wanted o (yielded ops a.tmps) = true)
    (ho : o.op = .sliceToArrayPointer arr x) (hx : a.eval x = .slice A len c) (hn : n ≤ len) (hk : wpList P ops Q rest (a.put o.dst (.pointer A)) w) : wpList P ops Q (o :: rest) a w := by
  refine opVal (v := .pointer A) hgd ?_ hk
  unfold execOp
  simp only [ho, hx, Sem.run_bind, Sem.run_pure, run_arrayAt w h hn, Result.andThen_ok]
/-- '==' on texts. -/
theorem eqStr {P : Program} {w : World} {ops : Array Oper} {rest : List Oper} {o : Oper} {a : Act} {Q : Exit → Act → World → Prop} {t ty : TypeId} (x y : Operand) (xs ys : List UInt8) (b : Bool) (hgd : Region.wanted o (yielded ops a.tmps) = true)
    (ho : o.op = .binOp .eql t x y ty) (hx : a.eval x = .string ⟨xs.toArray⟩) (hy : a.eval y = .string ⟨ys.toArray⟩) (hb : (xs == ys) = b) (hk : wpList P ops Q rest (a.put o.dst (.bool b)) w) : wpList P ops Q (o :: rest) a w := by
  refine opVal (v := .bool b) hgd ?_ hk
  unfold execOp
  simp [ho, hx, hy, eqGuard, binOp_string_eql, hb]
/-- '==' on arrays of bytes. -/
theorem eqBytes {P : Program} {w : World} {ops : Array Oper} {rest : List Oper} {o : Oper} {a : Act} {Q : Exit → Act → World → Prop} {t e ty : TypeId} {n : Nat} (x y : Operand) (xs ys : List UInt8) (b : Bool) (ht : P.underlying t = some (.array n e)) (he : P.underlying e = some (.int .u8)) (hs : (P.info? e).map (·.size) = some 1) (hq : P.eqGuardType P.depth t = false)
    (hgd : Region.wanted o (yielded ops a.tmps) = true) (ho : o.op = .binOp .eql t x y ty) (hxv : a.eval x = .agg (bcs xs).toArray) (hyv : a.eval y = .agg (bcs ys).toArray) (hx : xs.length = n) (hy : ys.length = n) (hb : (xs == ys) = b)
    (hk : wpList P ops Q rest (a.put o.dst (.bool b)) w) : wpList P ops Q (o :: rest) a w := by
  refine opVal (v := .bool b) hgd ?_ hk
  unfold execOp
  have hr := run_eqBytes (P := P) w ht he hs xs ys hx hy
  rw [hb] at hr
  simp [ho, hxv, hyv, eqGuard, hq, run_eql_struct, hr]
/-- Values are put into slots. -/
def putsX (f : Nat → Value) : List (Nat × Nat) → Act → Act
  | [], a => a
  | p :: X, a => putsX f X (a.put (some p.2) (f p.2))
theorem putsX_size (f : Nat → Value) : ∀ (X : List (Nat × Nat)) (a : Act), (putsX f X a).tmps.size = a.tmps.size ∧ (putsX f X a).defers = a.defers
  | [], _ => ⟨rfl, rfl⟩
  | p :: X, a => by rw [putsX]; have := putsX_size f X (a.put (some p.2) (f p.2)); exact ⟨this.1.trans (by simp [Act.put]), this.2⟩
theorem putsX_get (f : Nat → Value) : ∀ (X : List (Nat × Nat)) (a : Act) (t : Nat), t < a.tmps.size → (putsX f X a).tmps.getD t undef = if X.any (·.2 == t) then f t else a.tmps.getD t undef
  | [], a, t, _ => by simp [putsX]
  | p :: X, a, t, ht => by
    rw [putsX, putsX_get f X _ t (by simpa [Act.put] using ht), List.any_cons]
    by_cases h : p.2 = t
    · subst h
      rw [getD_put_same ht]
      simp
    · rw [getD_put_other h]
      have : (p.2 == t) = false := by simpa using h
      rw [this, Bool.false_or]
theorem FrameX.eq {a0 a : Act} {X : List (Nat × Nat)} (h : FrameX a0 X a) : a = putsX (fun t => a.tmps.getD t undef) X a0 := by
  obtain ⟨hs, hd⟩ := putsX_size (fun t => a.tmps.getD t undef) X a0
  have ht : a.tmps = (putsX (fun t => a.tmps.getD t undef) X a0).tmps := by
    apply Array.ext
    · rw [hs, h.size]
    · intro t h1 h2
      have gd : ∀ (xs : Array Value) (h : t < xs.size), xs.getD t undef = xs[t] := fun xs h => by simp [h]
      rw [← gd _ h1, ← gd _ h2, putsX_get _ X a0 t (by rw [← h.size]; exact h1)]
      cases hx : X.any (·.2 == t) with
      | true => rfl
      | false =>
        refine h.same t fun p hp e => ?_
        rw [List.any_eq_false] at hx
        exact hx p hp (by simpa using e)
  cases a with
  | mk tm df =>
    generalize hp : putsX (fun t => (Act.mk tm df).tmps.getD t undef) X a0 = b at *
    cases b with
    | mk tm2 df2 =>
      have e1 : tm = tm2 := ht
      have e2 : df = df2 := h.defers.trans hd.symm
      rw [e1, e2]
/-- Function f has a text of its own. -/
def callable (P : Program) (f : FuncId) : Bool := match P.funcs[f]? with
  | some fn => !(fn.name == "runtime.NumGoroutine") && fn.body.isSome
  | none => false
/-- A call of a Go function. -/
theorem callOp {P : Program} {w : World} {ops : Array Oper} {rest : List Oper} {o : Oper} {a : Act} {Q : Exit → Act → World → Prop} {c : Operand} {args : Array Operand} {argTypes : Array TypeId} (f : FuncId) (vals first caps : List Value)
    (hf : callable P f = true) (hgd : Region.wanted o (yielded ops a.tmps) = true) (ho : o.op = .call { callee := .value c, args, argTypes }) (hc : a.eval c = .func (.func f) first.toArray caps.toArray) (hargs : args.toList.map a.eval = vals)
    (h : Calls P f (first ++ vals ++ caps).toArray w (fun e w' => ∃ v, e = .returned v ∧ wpList P ops Q rest (a.put o.dst v) w')) : wpList P ops Q (o :: rest) a w := by
  unfold callable at hf
  cases hfn : P.funcs[f]? with
  | none => rw [hfn] at hf; cases hf
  | some fn =>
    rw [hfn] at hf
    simp only [Bool.and_eq_true, Bool.not_eq_true', beq_eq_false_iff_ne] at hf
    obtain ⟨h1, h2⟩ := hf
    obtain ⟨b, hb⟩ := Option.isSome_iff_exists.1 h2
    refine wpList_want hgd fun K hK => ?_
    unfold Oper.wp execOp
    have hargs' : args.map a.eval = vals.toArray := by
      apply Array.ext'
      rw [Array.toList_map, hargs]
    have hrun : ∀ vs, (callFunc f vs).run P w = .ok (.enter f vs) w := fun vs => by simp [callFunc, hfn, h1, hb]
    have happ : first.toArray ++ vals.toArray ++ caps.toArray = (first ++ vals ++ caps).toArray := by simp
    simp only [ho, resolve, hc, Deferred.ofValue, invoke, Sem.run_bind, Sem.run_pure, Result.andThen_ok, hargs', hrun, Oper.upon, happ]
    refine h.mono fun e w' ⟨v, he, hw⟩ => ?_
    subst he
    exact hK _ _ hw
end Go.Proofs.Ytkfijpghjjnpkaa
/-
  Arithmetic on int at an operation, for operations taken first. No statement is proved here.
-/
namespace Go.Proofs.Ytkfijpghjjnpkaa
open Go.RowKit

section
variable {P : Program} {w : World} {o : Oper} {a : Act} {t ty : TypeId} {A B C : Int}
theorem addRun (x y : Operand) (ho : o.op = .binOp .add t x y ty) (hx : a.eval x = .int .i64 A) (hy : a.eval y = .int .i64 B) (hC : A + B = C) (h : -9223372036854775808 ≤ C ∧ C ≤ 9223372036854775807) : (execOp a.eval o).run P w = .ok (.value (.int .i64 C)) w := by
  have hw := IntWalk.i64_in C h
  unfold execOp
  simp [ho, hx, hy, eqGuard, binOp_add, Op.intArith, hC, hw]
theorem subRun (x y : Operand) (ho : o.op = .binOp .sub t x y ty) (hx : a.eval x = .int .i64 A) (hy : a.eval y = .int .i64 B) (hC : A - B = C) (h : -9223372036854775808 ≤ C ∧ C ≤ 9223372036854775807) : (execOp a.eval o).run P w = .ok (.value (.int .i64 C)) w := by
  have hw := IntWalk.i64_in C h
  unfold execOp
  simp [ho, hx, hy, eqGuard, binOp_sub, Op.intArith, hC, hw]
theorem mulRun (x y : Operand) (ho : o.op = .binOp .mul t x y ty) (hx : a.eval x = .int .i64 A) (hy : a.eval y = .int .i64 B) (hC : A * B = C) (h : -9223372036854775808 ≤ C ∧ C ≤ 9223372036854775807) : (execOp a.eval o).run P w = .ok (.value (.int .i64 C)) w := by
  have hw := IntWalk.i64_in C h
  unfold execOp
  simp [ho, hx, hy, eqGuard, binOp_mul, Op.intArith, hC, hw]
theorem shrRun {n : Nat} (x y : Operand) (ho : o.op = .binOp .shr t x y ty) (hx : a.eval x = .int .i64 A) (hy : a.eval y = .int .i64 (n : Int)) (_hn : n ≤ 64) : (execOp a.eval o).run P w = .ok (.value (.int .i64 (A / 2 ^ n))) w := by
  unfold execOp
  simp [ho, hx, hy, eqGuard, binOp_shr]
theorem shrNat {m n : Nat} (x y : Operand) (ho : o.op = .binOp .shr t x y ty) (hx : a.eval x = .int .i64 (m : Int)) (hy : a.eval y = .int .i64 (n : Int)) (hn : n ≤ 64) : (execOp a.eval o).run P w = .ok (.value (.int .i64 ((m / 2 ^ n : Nat) : Int))) w := by
  rw [shrRun x y ho hx hy hn]
  have : ((m / 2 ^ n : Nat) : Int) = (m : Int) / 2 ^ n := by simp
  rw [this]
theorem xorRun {m n : Nat} (x y : Operand) (ho : o.op = .binOp .xor t x y ty) (hx : a.eval x = .int .i64 (m : Int)) (hy : a.eval y = .int .i64 (n : Int)) (hm : m < 9223372036854775808) (hn : n < 9223372036854775808) : (execOp a.eval o).run P w = .ok (.value (.int .i64 ((m ^^^ n : Nat) : Int))) w := by
  have hx2 : m ^^^ n < 2 ^ 63 := Nat.xor_lt_two_pow (by omega) (by omega)
  unfold execOp
  simp [ho, hx, hy, eqGuard, binOp_xor, Op.intBits]
  rw [show IntKind.i64.bits = 64 from rfl, Nat.mod_eq_of_lt (by omega), Nat.mod_eq_of_lt (by omega)]
  exact IntWalk.i64_in _ (by omega)
end
end Go.Proofs.Ytkfijpghjjnpkaa
/-
  More arithmetic, conversions and texts at an operation, for operations taken first. No statement is proved here.
-/
namespace Go.Proofs.Ytkfijpghjjnpkaa
open Go.RowKit

section
variable {P : Program} {w : World} {o : Oper} {a : Act} {t ty src dst : TypeId} {A B C : Int} {k : IntKind}
/-- 'int(x)'. -/
theorem convIntRun (x : Operand) (hs : (P.underlying src).isSome = true) (hd : P.underlying dst = some (.int .i64)) (ho : o.op = .convert src dst x) (hx : a.eval x = .int k A) (h : -9223372036854775808 ≤ A ∧ A ≤ 9223372036854775807) : (execOp a.eval o).run P w = .ok (.value (.int .i64 A)) w := by
  have hw := IntWalk.i64_in A h
  have hk : P.intKind dst = .i64 := by simp [Program.intKind, hd]
  have hr := run_convert_int (P := P) w src dst k A hs (by rw [hk]; exact hd)
  rw [hk, hw] at hr
  unfold execOp
  simp only [ho, hx, Sem.run_bind, Sem.run_pure, hr, Result.andThen_ok]
/-- '%' of two numbers not below 0. -/
theorem remRun (x y : Operand) (ho : o.op = .binOp .rem t x y ty) (hx : a.eval x = .int .i64 A) (hy : a.eval y = .int .i64 B) (hA : 0 ≤ A) (hB : 1 ≤ B) (hC : A % B = C) : (execOp a.eval o).run P w = .ok (.value (.int .i64 C)) w := by
  have h0 : ¬ B = 0 := by omega
  have h1 : A.tmod B = C := by rw [Int.tmod_eq_emod_of_nonneg hA, hC]
  unfold execOp
  simp [ho, hx, hy, eqGuard, binOp_rem, Op.intDiv, h0, h1]
/-- len of a text. -/
theorem lenStrRun (x : Operand) (l : List UInt8) (ht : P.underlying t = some .string) (ho : o.op = .call { callee := .builtin .len, args := #[x], argTypes := #[t] }) (hx : a.eval x = .string ⟨l.toArray⟩) : (execOp a.eval o).run P w = .ok (.value (.int .i64 (l.length : Int))) w := by
  unfold execOp
  have hs : (⟨l.toArray⟩ : ByteArray).size = l.length := by simp [ByteArray.size]
  simp [ho, hx, resolve, invoke, builtin, Builtin.len_, run_underlying ht, goInt, hs]
end
end Go.Proofs.Ytkfijpghjjnpkaa
/-
  From an argument as a claim reads it to the words of the walks: what a slice reads as, element by element. No statement is proved here.
-/
namespace Go.Proofs.Ytkfijpghjjnpkaa
open Go.RowKit Go.ChangeShapes Go.WideShapes

section
variable {H : Type} {enc : TypeId × Value → H} {P : Program} {w : World} {base : Nat} {held : Bool}

theorem chunk_get {α : Type} (f : Nat → List α) (n s : Nat) (hs : 0 < s) (hl : ∀ i, i < n → (f i).length = s) (j : Nat) (u : α) (h : ((List.range n).flatMap f)[j]? = some u) :
    j / s < n ∧ (f (j / s))[j % s]? = some u := by
  induction n generalizing j with
  | zero => simp at h
  | succ n ih =>
    rw [List.range_succ, List.flatMap_append] at h
    have hlen : ((List.range n).flatMap f).length = n * s := by
      clear h ih
      induction n with
      | zero => simp
      | succ n ih2 =>
        rw [List.range_succ, List.flatMap_append, List.length_append, ih2 (fun i hi => hl i (by omega))]
        simp [hl n (by omega), Nat.add_mul]
    rcases Nat.lt_or_ge j (n * s) with hj | hj
    · rw [List.getElem?_append_left (by omega)] at h
      obtain ⟨h1, h2⟩ := ih (fun i hi => hl i (by omega)) j h
      exact ⟨by omega, h2⟩
    · rw [List.getElem?_append_right (by omega), hlen] at h
      simp only [List.flatMap_cons, List.flatMap_nil, List.append_nil] at h
      have hlt : j - n * s < s := by
        have := (List.getElem?_eq_some_iff.1 h).1
        rw [hl n (by omega)] at this; exact this
      have hd : j / s = n := by
        rw [show j = (j - n * s) + n * s from by omega, Nat.add_mul_div_right _ _ hs, Nat.div_eq_of_lt hlt, Nat.zero_add]
      have hm : j % s = j - n * s := by
        rw [show j = (j - n * s) + n * s from by omega, Nat.add_mul_mod_self_right, Nat.mod_eq_of_lt hlt]; omega
      rw [hd, hm]
      exact ⟨by omega, h⟩

/-- A slice that came in, its elements of one type, each of s cells. -/
theorem br_slice {α : Type} {t e : TypeId} {s : Nat} (f : α → List Value) (R : α → DataW H → Prop) (ht : P.underlying t = some (.slice e)) (hs : P.cellsOf e = s) (hpos : 0 < s)
    (el : ∀ fuel cs' d pl, cs'.length = s → DataW.trod enc P w base (fun _ => true) held fuel e cs' = some (d, pl) → ∃ x : α, cs' = f x ∧ R x d)
    {fuel : Nat} {cs : List Value} {x : DataW H × List MemPlace} (h : DataW.trod enc P w base (fun _ => true) held fuel t cs = some x) :
    ∃ (A : Option Addr) (n c : Nat) (xs : List α) (D sp : List (DataW H)), cs = [.slice A n c] ∧ xs.length = n ∧ Rd w w.heap.size s A n c (xs.flatMap f) ∧
      (∀ y ∈ xs, (f y).length = s) ∧ (x.1 = .slice D sp ∨ x.1 = .nil ∧ n = 0) ∧ D.length = n ∧ (∀ (i : Nat) (y : α), xs[i]? = some y → ∃ d, D[i]? = some d ∧ R y d) := by
  rcases Deep.open_slice ht h with ⟨rfl, rfl⟩ | ⟨a, len, cap, m, k, D, Pl, rfl, hb, hl, hm, hmc, rfl, hel⟩
  · exact ⟨none, 0, 0, [], [], [], rfl, rfl, Rd.nil _ _ _, by simp, Or.inr ⟨rfl, rfl⟩, rfl, by simp⟩
  · simp only [if_true] at hmc
    subst hmc
    by_cases h0 : len = 0
    · subst h0
      exact ⟨some a, 0, m, [], [], _, rfl, rfl, ⟨by simp, Nat.zero_le _, hm, fun hh => absurd hh (by omega)⟩, by simp, Or.inl rfl, rfl, by simp⟩
    have each : ∀ i, i < len → ∃ y : α, w.cells? base (a.add (i * s)) s = some (f y) ∧ (f y).length = s ∧ R y (D i) := by
      intro i hi
      obtain ⟨cs', hc, ht'⟩ := hel i (by omega)
      rw [hs] at hc
      have hcl := (World.cells?_some hc).2.1
      obtain ⟨y, rfl, hR⟩ := el k cs' _ _ hcl ht'
      exact ⟨y, hc, hcl, hR⟩
    obtain ⟨y0, _⟩ := each 0 (by omega)
    have : Inhabited α := ⟨y0⟩
    obtain ⟨F, hF⟩ := Deep.choose_lt each
    obtain ⟨hc0, hl0, _⟩ := hF 0 (by omega)
    have hget : ∀ i, i < len → ∀ j u, (f (F i))[j]? = some u → w.cell? (a.add (i * s + j)) = some u := by
      intro i hi j u hj
      have hjl := (List.getElem?_eq_some_iff.1 hj).1
      rw [(hF i hi).2.1] at hjl
      have := (World.cells?_some (hF i hi).1).2.2 j hjl
      rw [hj, Deep.add_add] at this
      exact this
    have hspot : a = ⟨a.block, a.off, none⟩ := by
      obtain ⟨u, hu⟩ : ∃ u, (f (F 0))[0]? = some u := ⟨(f (F 0))[0]'(by omega), List.getElem?_eq_getElem (by omega)⟩
      have hc := hget 0 (by omega) 0 u hu
      rw [Nat.zero_mul, Nat.zero_add] at hc
      cases a with
      | mk b o spo =>
        cases spo with
        | none => rfl
        | some q =>
          exfalso
          simp only [Addr.add, if_true] at hc
          unfold World.cell? at hc
          split at hc <;> simp at hc
    have hadd : ∀ j, a.add j = ⟨a.block, a.off + j, none⟩ := by
      intro j
      unfold Addr.add
      split
      · rename_i hj; subst hj; exact hspot
      · rfl
    refine ⟨some a, len, m, (List.range len).map F, (List.range len).map D, _, rfl, by simp, ?_, ?_, Or.inl rfl, by simp, ?_⟩
    · have hfl : ((List.range len).map F).flatMap f = (List.range len).flatMap fun i => f (F i) := by rw [List.flatMap_map]
      rw [hfl]
      refine ⟨?_, hl, hm, fun _ => ⟨a.block, a.off, congrArg some hspot, ?_, fun j u hj => ?_⟩⟩
      · rw [List.length_flatMap]
        have e : (List.range len).map (fun i => (f (F i)).length) = (List.range len).map fun _ => s := List.map_congr_left fun i hi => (hF i (List.mem_range.1 hi)).2.1
        rw [e, List.map_const', List.length_range]; simp [List.sum_replicate_nat]
      · obtain ⟨u, hu⟩ : ∃ u, (f (F 0))[0]? = some u := ⟨(f (F 0))[0]'(by omega), List.getElem?_eq_getElem (by omega)⟩
        have hc := hget 0 (by omega) 0 u hu
        rw [hadd] at hc
        exact World.block_lt_of_cell? w ⟨a.block, _, none⟩ hc
      · obtain ⟨h1, h2⟩ := chunk_get (fun i => f (F i)) len s hpos (fun i hi => (hF i hi).2.1) j u hj
        have := hget _ h1 _ _ h2
        rw [hadd] at this
        rw [show j = j / s * s + j % s from (Nat.div_add_mod' j s).symm]
        exact this
    · intro y hy
      obtain ⟨i, hi, rfl⟩ := List.mem_map.1 hy
      exact (hF i (List.mem_range.1 hi)).2.1
    · intro i y hy
      rw [List.getElem?_map] at hy
      obtain ⟨i', hi', rfl⟩ := Option.map_eq_some_iff.1 hy
      have hlt : i < len := by
        have := (List.getElem?_eq_some_iff.1 hi').1
        simpa using this
      have : i' = i := by
        have h := List.getElem?_range hlt
        rw [h] at hi'; exact (Option.some.inj hi').symm
      subst this
      exact ⟨D i', by rw [List.getElem?_map, hi']; rfl, (hF i' hlt).2.2⟩

/-- An array of integers by value, or among cells. -/
theorem br_arr {t e : TypeId} {n : Nat} {k : IntKind} (ht : P.underlying t = some (.array n e)) (he : P.underlying e = some (.int k)) (hc : P.cellsOf e = 1) (hct : P.cellsOf t = n)
    {fuel : Nat} {cs : List Value} {x : DataW H × List MemPlace} {spare : Nat → Bool} (h : DataW.trod enc P w base spare held fuel t cs = some x) :
    ∃ zs : List Int, cs = zs.map (Value.int k) ∧ zs.length = n ∧ (∀ z ∈ zs, (Lit.int k z).wf = true) ∧ x = (.agg (zs.map fun z => .lit (.int k z)), []) := by
  obtain ⟨xs, m, _, rfl, hl, hxn, hel⟩ := DataW.trod_array ht h
  rw [hct] at hl
  have each : ∀ i, i < n → ∃ z, cs[i]? = some (.int k z) ∧ (Lit.int k z).wf = true ∧ xs[i]? = some (.lit (.int k z), []) := by
    intro i hi
    have h1 := hel i hi
    rw [hc, Nat.mul_one] at h1
    have hi' : i < cs.length := by omega
    have h2 : (cs.drop i).take 1 = [cs[i]] := by rw [List.drop_eq_getElem_cons hi']; rfl
    rw [h2] at h1
    have hi2 : i < xs.length := by omega
    rw [List.getElem?_eq_getElem hi2] at h1
    obtain ⟨z, hz1, hz2, hz3⟩ := DataW.trod_int he h1
    injection hz1 with hz1 _
    exact ⟨z, by rw [List.getElem?_eq_getElem hi', hz1], hz3, by rw [List.getElem?_eq_getElem hi2, hz2]⟩
  obtain ⟨F, hF⟩ := Deep.choose_lt each
  refine ⟨(List.range n).map F, ?_, by simp, ?_, ?_⟩
  · apply List.ext_getElem?
    intro i
    by_cases hi : i < n
    · rw [(hF i hi).1]; simp [hi]
    · rw [List.getElem?_eq_none (by omega), List.getElem?_eq_none (by simp; omega)]
  · intro z hz
    obtain ⟨i, hi, rfl⟩ := List.mem_map.1 hz
    exact (hF i (List.mem_range.1 hi)).2.1
  · have e : xs = (List.range n).map fun i => ((.lit (.int k (F i)), []) : DataW H × List MemPlace) := by
      apply List.ext_getElem?
      intro i
      by_cases hi : i < n
      · rw [(hF i hi).2.2]; simp [hi]
      · rw [List.getElem?_eq_none (by omega), List.getElem?_eq_none (by simp; omega)]
    rw [e]
    simp [Function.comp_def]

theorem flat_one {α β : Type} (f : α → β) : ∀ l : List α, l.map f = l.flatMap fun x => [f x]
  | [] => rfl
  | x :: l => by rw [List.map_cons, List.flatMap_cons, flat_one f l]; rfl
/-- A slice of integers that came in. -/
theorem br_ints {t e : TypeId} {k : IntKind} (ht : P.underlying t = some (.slice e)) (he : P.underlying e = some (.int k)) (hc : P.cellsOf e = 1) {a0 : Option Addr} {n0 c0 : Nat} {d : DataW H} {pl : List MemPlace}
    (h : DataW.Trod enc P w base (fun _ => true) held t (.slice a0 n0 c0) d pl) :
    ∃ (zs : List Int) (D sp : List (DataW H)), Rd w w.heap.size 1 a0 n0 c0 (zs.map (Value.int k)) ∧ (∀ z ∈ zs, (Lit.int k z).wf = true) ∧
      (d = .slice D sp ∨ d = .nil ∧ n0 = 0) ∧ D.length = n0 := by
  obtain ⟨fuel, hf⟩ := h
  obtain ⟨A, n, c, xs, D, sp, hcs, hn, hr, _, hd, hD, hR⟩ := br_slice (fun z => [Value.int k z]) (fun z (_ : DataW H) => (Lit.int k z).wf = true) ht hc (by decide)
    (fun fuel cs' d pl _ hh => by obtain ⟨z, rfl, _, hz⟩ := DataW.trod_int he hh; exact ⟨z, rfl, hz⟩) hf
  simp only [Value.cells, List.cons.injEq, Value.slice.injEq, and_true] at hcs
  obtain ⟨rfl, rfl, rfl⟩ := hcs
  refine ⟨xs, D, sp, ?_, ?_, hd, hD⟩
  · rw [show xs.map (Value.int k) = xs.flatMap fun z => [Value.int k z] from by rw [flat_one]]; exact hr
  · intro z hz
    obtain ⟨i, hi⟩ := List.getElem?_of_mem hz
    obtain ⟨_, _, h⟩ := hR i z hi
    exact h
theorem u8_list (zs : List Int) (h : ∀ z ∈ zs, (Lit.int .u8 z).wf = true) : zs.map (Value.int .u8) = bcs (zs.map fun z => UInt8.ofNat z.toNat) := by
  rw [bcs, List.map_map]
  refine List.map_congr_left fun z hz => ?_
  have hb := h z hz
  have hb' : 0 ≤ z ∧ z ≤ 255 := by simpa [Lit.wf, IntKind.min, IntKind.max, IntKind.signed, IntKind.bits] using hb
  simp only [Function.comp_def, bc]
  congr 1
  simp
  omega
/-- A slice of bytes that came in. -/
theorem br_bytes {t e : TypeId} (ht : P.underlying t = some (.slice e)) (he : P.underlying e = some (.int .u8)) (hc : P.cellsOf e = 1) {a0 : Option Addr} {n0 c0 : Nat} {d : DataW H} {pl : List MemPlace}
    (h : DataW.Trod enc P w base (fun _ => true) held t (.slice a0 n0 c0) d pl) :
    ∃ (l : List UInt8) (D sp : List (DataW H)), Rd w w.heap.size 1 a0 n0 c0 (bcs l) ∧ (d = .slice D sp ∨ d = .nil ∧ n0 = 0) ∧ D.length = n0 := by
  obtain ⟨zs, D, sp, hr, hz, hd, hD⟩ := br_ints ht he hc h
  exact ⟨_, D, sp, by rw [← u8_list zs hz]; exact hr, hd, hD⟩
/-- A slice of texts that came in. -/
theorem br_texts {t e : TypeId} (ht : P.underlying t = some (.slice e)) (he : P.underlying e = some .string) (hc : P.cellsOf e = 1) {a0 : Option Addr} {n0 c0 : Nat} {d : DataW H} {pl : List MemPlace}
    (h : DataW.Trod enc P w base (fun _ => true) held t (.slice a0 n0 c0) d pl) :
    ∃ (l : List (List UInt8)) (D sp : List (DataW H)), Rd w w.heap.size 1 a0 n0 c0 (l.map fun s => Value.string ⟨s.toArray⟩) ∧
      (d = .slice D sp ∨ d = .nil ∧ n0 = 0) ∧ D.length = n0 ∧ (∀ (i : Nat) (s : List UInt8), l[i]? = some s → D[i]? = some (.lit (.string s))) := by
  obtain ⟨fuel, hf⟩ := h
  obtain ⟨A, n, c, xs, D, sp, hcs, hn, hr, _, hd, hD, hR⟩ := br_slice (fun s : List UInt8 => [Value.string ⟨s.toArray⟩]) (fun s (d : DataW H) => d = .lit (.string s)) ht hc (by decide)
    (fun fuel cs' d pl _ hh => by
      obtain ⟨s, rfl, hx, _⟩ := DataW.trod_string he hh
      refine ⟨s.data.toList, by simp, ?_⟩
      injection hx) hf
  simp only [Value.cells, List.cons.injEq, Value.slice.injEq, and_true] at hcs
  obtain ⟨rfl, rfl, rfl⟩ := hcs
  refine ⟨xs, D, sp, ?_, hd, hD, ?_⟩
  · rw [show (xs.map fun s => Value.string ⟨s.toArray⟩) = xs.flatMap fun s => [Value.string ⟨s.toArray⟩] from by rw [flat_one]]; exact hr
  · intro i s hi
    obtain ⟨d', h1, rfl⟩ := hR i s hi
    exact h1
theorem bcs_flat (xs : List (List UInt8)) : xs.flatMap bcs = bcs xs.flatten := by
  rw [bcs, List.map_flatten, List.flatMap_def]; rfl
/-- A slice of digests that came in: its bytes, one digest behind the other. -/
theorem br_digs {t e b : TypeId} {s : Nat} (ht : P.underlying t = some (.slice e)) (he : P.underlying e = some (.array s b)) (hb : P.underlying b = some (.int .u8)) (hcb : P.cellsOf b = 1) (hc : P.cellsOf e = s) (hpos : 0 < s)
    {a0 : Option Addr} {n0 c0 : Nat} {d : DataW H} {pl : List MemPlace} (h : DataW.Trod enc P w base (fun _ => true) held t (.slice a0 n0 c0) d pl) :
    ∃ (l : List UInt8) (D sp : List (DataW H)), Rd w w.heap.size s a0 n0 c0 (bcs l) ∧ (d = .slice D sp ∨ d = .nil ∧ n0 = 0) ∧ D.length = n0 := by
  obtain ⟨fuel, hf⟩ := h
  obtain ⟨A, n, c, xs, D, sp, hcs, hn, hr, _, hd, hD, hR⟩ := br_slice bcs (fun _ (_ : DataW H) => True) ht hc hpos
    (fun fuel cs' d pl _ hh => by
      obtain ⟨zs, rfl, _, hz, _⟩ := br_arr he hb hcb hc hh
      exact ⟨_, u8_list zs hz, trivial⟩) hf
  simp only [Value.cells, List.cons.injEq, Value.slice.injEq, and_true] at hcs
  obtain ⟨rfl, rfl, rfl⟩ := hcs
  exact ⟨xs.flatten, D, sp, by rw [← bcs_flat]; exact hr, hd, hD⟩
/-- An array of bytes that came in by value. -/
theorem br_dig {t b : TypeId} {n : Nat} (ht : P.underlying t = some (.array n b)) (hb : P.underlying b = some (.int .u8)) (hcb : P.cellsOf b = 1) (hct : P.cellsOf t = n) {W : World} {r : Reach} {b0 : Nat} {v : Value} {d : DataW H} {pl : List MemPlace}
    (hval : Value.okWide P W r b0 t v) (h : DataW.Trod enc P w base (fun _ => true) held t v d pl) : ∃ l : List UInt8, v = .agg (bcs l).toArray ∧ l.length = n := by
  simp only [Value.okWide, ht] at hval
  obtain ⟨cs, rfl, _, _⟩ := hval
  obtain ⟨fuel, hf⟩ := h
  obtain ⟨zs, hcs, hl, hz, _⟩ := br_arr ht hb hcb hct hf
  refine ⟨zs.map fun z => UInt8.ofNat z.toNat, ?_, by rw [List.length_map]; exact hl⟩
  have h2 : cs.toList = zs.map (Value.int .u8) := hcs
  rw [← u8_list zs hz, ← h2]
/-- An array of integers that came in by value. -/
theorem br_arrI {t b : TypeId} {n : Nat} {k : IntKind} (ht : P.underlying t = some (.array n b)) (hb : P.underlying b = some (.int k)) (hcb : P.cellsOf b = 1) (hct : P.cellsOf t = n) {W : World} {r : Reach} {b0 : Nat} {v : Value} {d : DataW H} {pl : List MemPlace}
    (hval : Value.okWide P W r b0 t v) (h : DataW.Trod enc P w base (fun _ => true) held t v d pl) : ∃ l : List Int, v = .agg (l.map (Value.int k)).toArray ∧ l.length = n ∧ ∀ z ∈ l, (Lit.int k z).wf = true := by
  simp only [Value.okWide, ht] at hval
  obtain ⟨cs, rfl, _, _⟩ := hval
  obtain ⟨fuel, hf⟩ := h
  obtain ⟨zs, hcs, hl, hz, _⟩ := br_arr ht hb hcb hct hf
  have h2 : cs.toList = zs.map (Value.int k) := hcs
  exact ⟨zs, by rw [← h2], hl, hz⟩
end
end Go.Proofs.Ytkfijpghjjnpkaa
/-
  Bytes that a text was converted to: a block whose cells can be set. No statement is proved here.
-/
namespace Go.Proofs.Ytkfijpghjjnpkaa
open Go.RowKit

/-- Block g holds the bytes l from its head on, and none of them is frozen. -/
def BRow (w : World) (g : Nat) (l : List UInt8) : Prop :=
  ∃ (cur : Array Value) (t : TypeId) (fr : Nat × Nat), w.heap[g]? = some (.cells cur t fr) ∧ l.length ≤ fr.1 ∧ ∀ (j : Nat) (u : Value), (bcs l)[j]? = some u → cur[j]? = some u
section
variable {w w' : World} {g B : Nat} {l : List UInt8}
theorem BRow.lt (h : BRow w g l) : g < w.heap.size := by
  obtain ⟨cur, t, fr, h1, _⟩ := h
  exact (Array.getElem?_eq_some_iff.1 h1).1
theorem BRow.below (h : BRow w g l) (hb : Below B w w') (hB : g < B) : BRow w' g l := by
  obtain ⟨cur, t, fr, h1, h2⟩ := h
  exact ⟨cur, t, fr, (hb.block g hB).trans h1, h2⟩
theorem BRow.drew (h : BRow w g l) : BRow w.drew g l := h
theorem BRow.cell (h : BRow w g l) {j : Nat} {u : Value} (hj : (bcs l)[j]? = some u) : w.cell? ⟨g, j, none⟩ = some u := by
  obtain ⟨cur, t, fr, h1, _, h3⟩ := h
  unfold World.cell?
  rw [show w.heap[(⟨g, j, none⟩ : Addr).block]? = some (.cells cur t fr) from h1]
  simpa using h3 j u hj
theorem BRow.thaw (h : BRow w g l) {j : Nat} (hj : j < l.length) : w.frozen? ⟨g, j, none⟩ = false := by
  obtain ⟨cur, t, fr, h1, h2, _⟩ := h
  unfold World.frozen?
  rw [show w.heap[(⟨g, j, none⟩ : Addr).block]? = some (.cells cur t fr) from h1]
  simp
  omega
theorem BRow.set (h : BRow w g l) {j : Nat} (hj : j < l.length) (x : UInt8) : BRow (w.setCell ⟨g, j, none⟩ (bc x)) g (l.set j x) := by
  obtain ⟨cur, t, fr, h1, h2, h3⟩ := h
  refine ⟨cur.setIfInBounds j (bc x), t, fr, ?_, by rw [List.length_set]; exact h2, fun i u hu => ?_⟩
  · unfold World.setCell
    simp [Array.getElem?_modify, h1]
  · have hlen : j < cur.size := by
      obtain ⟨u0, hu0⟩ : ∃ u0, (bcs l)[j]? = some u0 := ⟨_, List.getElem?_eq_getElem (by rw [bcs_length]; exact hj)⟩
      exact (Array.getElem?_eq_some_iff.1 (h3 j u0 hu0)).1
    have e : bcs (l.set j x) = (bcs l).set j (bc x) := by unfold bcs; rw [List.map_set]
    rw [e, List.getElem?_set] at hu
    rw [Array.getElem?_setIfInBounds]
    by_cases hij : j = i
    · subst hij
      rw [if_pos rfl] at hu ⊢
      rw [if_pos hlen]
      rw [if_pos (by rw [bcs_length]; exact hj)] at hu
      exact hu
    · rw [if_neg hij] at hu ⊢
      exact h3 i u hu
theorem BRow.rd (h : BRow w g l) {c : Nat} (hc : l.length ≤ c) (hm : c ≤ maxLen) (hB : g < B) : Rd w B 1 (some ⟨g, 0, none⟩) l.length c (bcs l) :=
  ⟨by rw [bcs_length, Nat.mul_one], hc, hm, fun _ => ⟨g, 0, rfl, hB, fun j u hu => by rw [Nat.zero_add]; exact h.cell hu⟩⟩
end
/-- '[]byte(s)': bytes that can be set. -/
theorem convBsW {P : Program} {w : World} {ops : Array Oper} {rest : List Oper} {o : Oper} {a : Act} {Q : Exit → Act → World → Prop} {src e dst : TypeId} (x : Operand) (l : List UInt8) (hs : P.underlying src = some .string) (hd : P.underlying dst = some (.slice e)) (he : P.underlying e = some (.int .u8)) (hgd : Region.wanted o (yielded ops a.tmps) = true)
    (ho : o.op = .convert src dst x) (hx : a.eval x = .string ⟨l.toArray⟩) (hl : l.length ≤ 70368744177664)
    (h : ∀ c w', BRow w' w.heap.size l → l.length ≤ c → c ≤ maxLen → Below w.heap.size w w' → wpList P ops Q rest (a.put o.dst (.slice (some ⟨w.heap.size, 0, none⟩) l.length c)) w') : wpList P ops Q (o :: rest) a w := by
  have hsz : (⟨l.toArray⟩ : ByteArray).size = l.length := by simp [ByteArray.size]
  have hr := Lib.run_convert_string_bytes (P := P) w src dst e ⟨l.toArray⟩ hs hd he
  rw [hsz] at hr
  refine wpList_want hgd fun K hK => ?_
  unfold Oper.wp execOp
  simp only [ho, hx, Sem.run_bind, Sem.run_pure, hr, Result.andThen_ok]
  refine hK _ _ (h _ _ ?_ (grownCap_ge w l.length 0 e) (grownCap_le_maxLen w l.length 0 e (by unfold maxLen; omega)) ?_)
  · refine ⟨_, e, _, Lib.bytesWorld_at_new w e ⟨l.toArray⟩, ?_, fun j u hu => ?_⟩
    · unfold Lib.bytesCells
      simp
    · unfold bcs at hu
      rw [List.getElem?_map] at hu
      obtain ⟨b, hb, rfl⟩ := Option.map_eq_some_iff.1 hu
      have hj := (List.getElem?_eq_some_iff.1 hb).1
      unfold Lib.bytesCells
      rw [Array.getElem?_append_left (by simpa using hj)]
      simp [hb, bc]
  · exact ⟨rfl, rfl, rfl, by rw [Lib.bytesWorld_size]; omega, fun k hk => Lib.bytesWorld_at_old w e _ k hk⟩
end Go.Proofs.Ytkfijpghjjnpkaa
/-
  Regions that draw their order, taken by hand: as XReg, but the condition on the world is wanted only until operation c is listed, where c waits for all operations that are taken first: what comes behind it (the call turns the world, its result is stored) is free. No statement is proved here.
-/
namespace Go.Proofs.Ytkfijpghjjnpkaa
open Go.RowKit

/-- Operation k waits for operation p, or for one of D that does. -/
def reachD (ops : Array Oper) (D : List Nat) : Nat → Nat → Nat → Bool
  | 0, k, p => waitsFor ops k p
  | f + 1, k, p => waitsFor ops k p || D.any fun q => waitsFor ops k q && reachD ops D f q p
def closedD (ops : Array Oper) (D : List Nat) (listed : Array Bool) : Bool := D.all fun q => !listed.getD q true || D.all fun p => !waitsFor ops q p || listed.getD p true
theorem closedD_spec {ops : Array Oper} {D : List Nat} {listed : Array Bool} (h : closedD ops D listed = true) {q p : Nat} (hq : q ∈ D) (hp : p ∈ D) (hl : listed.getD q true = true) (hw : waitsFor ops q p = true) : listed.getD p true = true := by
  have h1 := List.all_eq_true.1 h q hq
  rw [hl] at h1
  have h2 := List.all_eq_true.1 (by simpa using h1 : (D.all fun p => !waitsFor ops q p || listed.getD p true) = true) p hp
  rw [hw] at h2
  simpa using h2
theorem reachD_listed {ops : Array Oper} {D : List Nat} {listed : Array Bool} (hc : closedD ops D listed = true) {p : Nat} (hp : p ∈ D) :
    ∀ (f k : Nat), (∀ q ∈ D, waitsFor ops k q = true → listed.getD q true = true) → reachD ops D f k p = true → listed.getD p true = true
  | 0, _, hk, h => hk p hp h
  | f + 1, k, hk, h => by
    unfold reachD at h
    rw [Bool.or_eq_true] at h
    rcases h with h | h
    · exact hk p hp h
    · obtain ⟨q, hq, h2⟩ := List.any_eq_true.1 h
      rw [Bool.and_eq_true] at h2
      exact reachD_listed hc hp f q (fun r hr hw => closedD_spec hc hq hr (hk q hq h2.1) hw) h2.2
theorem waits_ready {ops : Array Oper} {listed : Array Bool} {j q : Nat} (hj : j ∈ Region.ready .any ops listed) (hw : waitsFor ops j q = true) : listed.getD q true = true := by
  obtain ⟨_, oj, hoj, hall⟩ := mem_ready.1 hj
  unfold waitsFor at hw
  rw [show ops.toList[j]? = some oj by rw [← hoj]; simp] at hw
  simp only [Option.map_some, Option.getD_some] at hw
  obtain ⟨e, he, hb⟩ := Array.any_eq_true'.1 hw
  simp only [Bool.and_eq_true, beq_iff_eq] at hb
  have h1 := hall e he hb.1
  rw [hb.2] at h1
  rcases Nat.lt_or_ge q listed.size with h' | h'
  · simp [h'] at h1 ⊢
    exact h1
  · simp [h']
theorem closedD_set {ops : Array Oper} {D : List Nat} {listed : Array Bool} {j : Nat} (hc : closedD ops D listed = true) (hj : j ∈ Region.ready .any ops listed) : closedD ops D (listed.setIfInBounds j true) = true := by
  refine List.all_eq_true.2 fun q hq => ?_
  cases hl : (listed.setIfInBounds j true).getD q true with
  | false => rfl
  | true =>
    simp only [Bool.not_true, Bool.false_or]
    refine List.all_eq_true.2 fun p hp => ?_
    cases hw : waitsFor ops q p with
    | false => rfl
    | true =>
      simp only [Bool.not_true, Bool.false_or]
      by_cases hpj : p = j
      · subst hpj
        by_cases hlt : p < listed.size
        · simp [hlt]
        · simp [hlt]
      · rw [getD_set_ne true (Ne.symm hpj)]
        by_cases hqj : q = j
        · subst hqj; exact waits_ready hj hw
        · rw [getD_set_ne true (Ne.symm hqj)] at hl
          exact closedD_spec hc hq hp hl hw
section
variable {P : Program} {ops : Array Oper} {Q : Exit → Act → World → Prop} {S : World → Prop} {c : Nat} {D : List Nat} {listed : Array Bool} {a : Act} {w : World} {fuel : Nat}
/-- Whatever order is picked, and S holds as long as operation c is not listed. -/
def wpAnyL (P : Program) (ops : Array Oper) (Q : Exit → Act → World → Prop) (S : World → Prop) (c : Nat) : Nat → Array Bool → Act → World → Prop
  | 0, listed, a, w => Region.ready .any ops listed = [] ∧ Q .normal a w
  | fuel + 1, listed, a, w =>
    (Region.ready .any ops listed = [] → Q .normal a w) ∧
    ∀ i ∈ Region.ready .any ops listed, wpOp P ops Q i (fun a' w' => ((listed.setIfInBounds i true).getD c true = false → S w') ∧ wpAnyL P ops Q S c fuel (listed.setIfInBounds i true) a' w') a w
theorem wpAny_of_L : ∀ (fuel : Nat) (listed : Array Bool) (a : Act) (w : World), wpAnyL P ops Q S c fuel listed a w → wpAny P .any ops Q fuel listed a w
  | 0, _, _, _, h => h
  | fuel + 1, _, _, _, h => ⟨h.1, fun i hi => wpOp_mono (fun a' w' h' => wpAny_of_L fuel _ a' w' h'.2) (h.2 i hi)⟩
theorem wpAnyL_first {i f : Nat} {oi : Oper} {v : Value} (hi : ops[i]? = some oi) (hsel : ∀ (j : Nat) (o : Oper) cs b, ops[j]? = some o → o.op ≠ .select cs b)
    (hQ : ∀ c a w, Q (.panic c) (a.put oi.dst v) w → Q (.panic c) a w) (hD : i ∈ D) (hcr : reachD ops D f c i = true) (hne : i ≠ c) :
    ∀ (fuel : Nat) (listed : Array Bool) (a : Act) (w : World), listed.getD c true = false → closedD ops D listed = true →
      (∀ j oj, ops[j]? = some oj → j ≠ i → listed.getD j true = false → (∀ e ∈ oj.after, Region.binds .any e = true → e.on ≠ i) → oi.apart ops oj = true) →
      i ∈ Region.ready .any ops listed → YieldsIf P ops S oi v a → S w →
      wpAnyL P ops Q S c fuel (listed.setIfInBounds i true) (a.put oi.dst v) w → wpAnyL P ops Q S c (fuel + 1) listed a w := by
  intro fuel
  induction fuel with
  | zero =>
    intro listed a w _ _ _ hr hy hS H
    refine ⟨fun h => (by rw [h] at hr; cases hr), fun j hj => ?_⟩
    by_cases hji : j = i
    · subst hji; exact hy.wpOp hi hS ⟨fun _ => hS, H⟩
    · have := ready_mono hj hji
      rw [H.1] at this
      cases this
  | succ fuel ih =>
    intro listed a w hc hcl hfree hr hy hS H
    refine ⟨fun h => (by rw [h] at hr; cases hr), fun j hj => ?_⟩
    by_cases hji : j = i
    · subst hji; exact hy.wpOp hi hS ⟨fun _ => hS, H⟩
    · have h1 := H.2 j (ready_mono hj hji)
      obtain ⟨hjun, oj, hoj, hall⟩ := mem_ready.1 hj
      have hnot : ∀ e ∈ oj.after, Region.binds .any e = true → e.on ≠ i := fun e he hb heq => by
        have h1 := hall e he hb
        have h0 := (mem_ready.1 hr).1
        rw [heq] at h1
        rcases Nat.lt_or_ge i listed.size with h' | h'
        · simp [h'] at h0 h1; rw [h0] at h1; cases h1
        · simp [Array.getElem?_eq_none h'] at h1
      have hjc : j ≠ c := fun e => by
        subst e
        have h2 := reachD_listed hcl hD f j (fun q _ hw => waits_ready hj hw) hcr
        have h0 := (mem_ready.1 hr).1
        rw [h0] at h2
        cases h2
      have hcj : (listed.setIfInBounds j true).getD c true = false := by rw [getD_set_ne true hjc]; exact hc
      have h2 := wpOp_putIf hoj (hfree j oj hoj hji hjun hnot) (fun cs b => hsel i oi cs b hi) (fun cs b => hsel j oj cs b hoj) hQ hy h1
      have hfree' : ∀ k ok, ops[k]? = some ok → k ≠ i → (listed.setIfInBounds j true).getD k true = false →
          (∀ e ∈ ok.after, Region.binds .any e = true → e.on ≠ i) → oi.apart ops ok = true := fun k ok hk hki hun hno => by
        refine hfree k ok hk hki ?_ hno
        by_cases hjk : j = k
        · subst hjk; exact hjun
        · rw [getD_set_ne true hjk] at hun; exact hun
      refine wpOp_mono (fun a' w' h3 => ?_) h2
      have hS' : S w' := h3.2.1 (by rw [getD_set_ne true hjc, getD_set_ne true hne]; exact hc)
      refine ⟨fun _ => hS', ih (listed.setIfInBounds j true) a' w' hcj (closedD_set hcl hj) hfree' (ready_mono hr (Ne.symm hji)) h3.1 hS' ?_⟩
      rw [Array.setIfInBounds_comm _ _ hji]
      exact h3.2.2
theorem lgStart {id : Nat} (S : World → Prop) (c : Nat) (hm : P.follows .mixedOrders = true) (h : wpAnyL P ops Q S c ops.size (Array.replicate ops.size false) a w.drew) : (Code.region id ops true).wp P Q a w :=
  wp_region_any hm (wpAny_of_L _ _ _ _ h)
/-- An operation taken first, that operation c waits for. -/
theorem lgTake (D : List Nat) {i : Nat} {o : Oper} {v : Value} (hi' : ops.toList[i]? = some o) (hm : (mayFirst ops listed i && D.contains i && reachD ops D 8 c i && closedD ops D listed && !(i == c) && !listed.getD c true) = true) (hw : Region.wanted o (yielded ops a.tmps) = true)
    (hQ : ∀ c a w, Q (.panic c) (a.put o.dst v) w → Q (.panic c) a w) (hy : ∀ w, S w → (execOp a.eval o).run P w = .ok (.value v) w) (hS : S w)
    (h : wpAnyL P ops Q S c fuel (listed.setIfInBounds i true) (a.put o.dst v) w) : wpAnyL P ops Q S c (fuel + 1) listed a w := by
  have hi : ops[i]? = some o := by rw [← hi']; simp
  simp only [Bool.and_eq_true, Bool.not_eq_true', beq_eq_false_iff_ne, ne_eq] at hm
  obtain ⟨⟨⟨⟨⟨hm, hD⟩, hr⟩, hcl⟩, hne⟩, hc⟩ := hm
  simp only [mayFirst, Bool.and_eq_true] at hm
  exact wpAnyL_first (D := D) hi (Region.noSelect_spec hm.1.1) hQ (by simpa using hD) hr hne fuel listed a w hc hcl (Region.free_spec hi hm.1.2) (by simpa using hm.2) (Or.inl ⟨hw, hy⟩) hS h
/-- A struct or an array is loaded whole, first. -/
theorem lgLoad (D : List Nat) {i : Nat} {o : Oper} {ty : TypeId} {z : Array Value} {n b : Nat} {t : TypeId} (x : Operand) (cs : List Value) (T : AgTy P ty z n) (hi' : ops.toList[i]? = some o) (hm : (mayFirst ops listed i && D.contains i && reachD ops D 8 c i && closedD ops D listed && !(i == c) && !listed.getD c true) = true) (hw : Region.wanted o (yielded ops a.tmps) = true)
    (hQ : ∀ c a w, Q (.panic c) (a.put o.dst (.agg cs.toArray)) w → Q (.panic c) a w) (ho : o.op = .load ty x) (hx : a.eval x = .pointer (some ⟨b, 0, none⟩)) (hl : cs.length = n)
    (hc : ∀ w, S w → Arr w b t cs) (hS : S w)
    (h : wpAnyL P ops Q S c fuel (listed.setIfInBounds i true) (a.put o.dst (.agg cs.toArray)) w) : wpAnyL P ops Q S c (fuel + 1) listed a w := by
  refine lgTake D hi' hm hw hQ (fun w hw => ?_) hS h
  unfold execOp
  simp only [ho, hx, Instr.loadAt, Instr.sureAddr, Sem.run_bind, Sem.run_pure, Result.andThen_ok, run_loadAgg T b 0 cs hl (fun j u hu => by rw [Nat.zero_add]; exact (hc w hw).cell hu)]
/-- The one that comes up next is c, or comes behind it. -/
theorem lgNext {i : Nat} {o : Oper} (hr : Region.ready .any ops listed = [i]) (hi' : ops.toList[i]? = some o) (hc : (listed.setIfInBounds i true).getD c true = true)
    (h : wpList P ops (Exit.then (wpAnyL P ops Q S c fuel (listed.setIfInBounds i true)) Q) [o] a w) : wpAnyL P ops Q S c (fuel + 1) listed a w := by
  have hi : ops[i]? = some o := by rw [← hi']; simp
  refine ⟨fun h0 => (by rw [hr] at h0; cases h0), ?_⟩
  rw [hr]
  intro j hj
  rw [List.mem_singleton] at hj
  subst hj
  exact wpOp_mono (fun a' w' h' => ⟨fun h0 => (by rw [hc] at h0; cases h0), h'⟩) (wpOp_of_list hi h)
/-- The one that comes up next, ahead of c: the condition is shown anew. -/
theorem lgNextS {i : Nat} {o : Oper} (hr : Region.ready .any ops listed = [i]) (hi' : ops.toList[i]? = some o)
    (h : wpList P ops (Exit.then (fun a' w' => S w' ∧ wpAnyL P ops Q S c fuel (listed.setIfInBounds i true) a' w') Q) [o] a w) : wpAnyL P ops Q S c (fuel + 1) listed a w := by
  have hi : ops[i]? = some o := by rw [← hi']; simp
  refine ⟨fun h0 => (by rw [hr] at h0; cases h0), ?_⟩
  rw [hr]
  intro j hj
  rw [List.mem_singleton] at hj
  subst hj
  exact wpOp_mono (fun a' w' h' => ⟨fun _ => h'.1, h'.2⟩) (wpOp_of_list hi h)
theorem lgDone (hr : Region.ready .any ops listed = []) (h : Q .normal a w) : wpAnyL P ops Q S c fuel listed a w := by
  cases fuel with
  | zero => exact ⟨hr, h⟩
  | succ n => exact ⟨fun _ => h, by rw [hr]; simp⟩
end
end Go.Proofs.Ytkfijpghjjnpkaa
/-
  append of one cell onto a row of the call's own, with what is known of the new row's block: it is the old one, or a new one. No statement is proved here.
-/
namespace Go.Proofs.Ytkfijpghjjnpkaa
open Go.RowKit

/-- The block of v' is that of v, or lies at N or behind. -/
def SameOrNew (v v' : Value) (N : Nat) : Prop := v'.ownBlock = v.ownBlock ∨ ∃ g, v'.ownBlock = some g ∧ N ≤ g
section
variable {P : Program} {w w0 : World} {ops : Array Oper} {rest : List Oper} {o : Oper} {a : Act} {Q : Exit → Act → World → Prop}
/-- 'append(v, u)': one element of one cell onto a row of the call's own; the block of the new row. -/
theorem app1B {t e : TypeId} {z : Value} {bytes base n : Nat} {v u : Value} {xs : List Value} (s x : Operand) (T : SlTy P t e z 1 bytes) (hgd : Region.wanted o (yielded ops a.tmps) = true)
    (ho : o.op = .call { callee := .builtin .append, args := #[s, x], argTypes := #[t, t] })
    (hs : a.eval s = v) (hx : a.eval x = .slice (some ⟨w.heap.size, 0, none⟩) 1 1)
    (hown : w.ownsRow base e 1 v n xs) (hb : Below base w0 w) (hbase : base ≤ w0.heap.size) (hu : u.oneCell' = true)
    (hn : n + 1 ≤ 70368744177664) (hby : (n + 1) * bytes ≤ 140737488355328)
    (h : ∀ v' w', w'.ownsRow base e 1 v' (n + 1) (xs ++ [u]) → Below base w0 w' → (w.alloc (.cells #[u] e)).grownBy w' v.ownBlock → SameOrNew v v' w.heap.size → wpList P ops Q rest (a.put o.dst v') w') :
    wpList P ops Q (o :: rest) a (w.alloc (.cells #[u] e)) := by
  obtain ⟨i, hi, hz0, hz1, hz2⟩ := info_parts T.inf
  have hsz : base ≤ (w.alloc (.cells #[u] e)).heap.size := by have := hb.size; simp; omega
  have hown' := hown.alloc (.cells #[u] e)
  have hnews : ∀ j y, [u][j]? = some y → (w.alloc (.cells #[u] e)).cell? ((⟨w.heap.size, 0, none⟩ : Addr).add j) = some y := by
    intro j y hj
    match j, hj with
    | 0, hj => simp at hj; subst hj; simp [Addr.add]
  have h1 : ∀ y ∈ [u], y.oneCell' = true := by intro y hy; simp at hy; subst hy; exact hu
  have hbl : ∀ k, v.ownBlock = some k → base ≤ k := fun k hk => (hown'.lt k hk).1
  have hb' : Below base w0 (w.alloc (.cells #[u] e)) := hb.alloc (by have := hb.size; omega) _
  have hws : w.heap.size ≤ (w.alloc (.cells #[u] e)).heap.size := by simp
  generalize w.heap.size = N at *
  generalize w.alloc (.cells #[u] e) = W at *
  obtain ⟨v', w', hr, h2, h3, _⟩ := run_append_own (P := P) W base t o.type e i z 1 bytes T.und hi hz0 hz1 hz2 T.zs T.pos v n xs hown' ⟨N, 0, none⟩ 1 1 [u] (by simp) hnews h1 (by unfold maxLen; omega) hby hsz
  have hS : SameOrNew v v' N := by
    rcases hown'.2 with ⟨rfl, rfl⟩ | ⟨g, cap, cur, rfl, hbg, hg, hnc, hcm, hcs, htake⟩
    · have hr2 := run_append_nil (P := P) W t o.type e i z T.und hi hz0 ⟨N, 0, none⟩ 1 1 [u] (by simp [hz1]) hnews (by omega) (by omega) (by have hb := hby; simp only [Nat.zero_add] at hb; rw [hz2]; omega)
      rw [hr2] at hr
      injection hr with e1 e2
      subst e1
      exact Or.inr ⟨_, rfl, hws⟩
    · by_cases hroom : n + 1 ≤ cap
      · have hr2 := run_append_room (P := P) W t o.type e i T.und hi g n cap cur hg ⟨N, 0, none⟩ 1 1 [u] (by simp [hz1]) hnews h1 hroom (by rw [hz1, hcs]; simp; omega)
        rw [hr2] at hr
        injection hr with e1 e2
        subst e1
        exact Or.inl rfl
      · have hr2 := run_append_grow (P := P) W t o.type e i z T.und hi hz0 ⟨g, 0, none⟩ n cap xs (by rw [hz1]; exact hown'.1) (hown'.cells (g := g) rfl) ⟨N, 0, none⟩ 1 1 [u] (by simp [hz1]) hnews (by omega) (by omega) (growslice_fits (by omega) (by rw [hz2]; exact hby))
        rw [hr2] at hr
        injection hr with e1 e2
        subst e1
        exact Or.inr ⟨_, rfl, hws⟩
  refine wpList_want hgd fun K hK => ?_
  unfold Oper.wp execOp
  simp only [ho, resolve, invoke, builtin, Sem.run_bind, Sem.run_pure, Result.andThen_ok, List.map_toArray, List.map_cons, List.map_nil, hs, hx, hr]
  exact hK _ _ (h v' w' h2 (hb'.grown h3 hsz hbl) h3 hS)
end
end Go.Proofs.Ytkfijpghjjnpkaa
/-
  '==' on arrays of integers. No statement is proved here.
-/
namespace Go.Proofs.Ytkfijpghjjnpkaa
open Go.RowKit

theorem all_range_eqI : ∀ (xs ys : List Int), xs.length = ys.length → ((List.range xs.length).all fun i => xs.getD i 0 == ys.getD i 0) = (xs == ys)
  | [], [], _ => rfl
  | x :: xs, y :: ys, h => by
    have ih := all_range_eqI xs ys (by simpa using h)
    rw [List.length_cons, List.range_succ_eq_map, List.all_cons, List.all_map]
    simp only [List.getD_cons_zero, Function.comp_def, List.getD_cons_succ, ih]
    simp [List.cons_beq_cons]
  | [], _ :: _, h => by simp at h
  | _ :: _, [], h => by simp at h
theorem run_equalIn_ints {P : Program} (w : World) (d : Nat) (t e : TypeId) (n : Nat) (k : IntKind) (ht : P.underlying t = some (.array n e)) (he : P.underlying e = some (.int k)) (hsz : ∀ w, (sizeOf e).run P w = .ok 1 w)
    (xs ys : List Int) (hx : xs.length = n) (hy : ys.length = n) :
    (Op.equalIn (d + 2) t (.agg (xs.map (Value.int k)).toArray) (.agg (ys.map (Value.int k)).toArray)).run P w = .ok (xs == ys) w := by
  rw [← all_range_eqI xs ys (hx.trans hy.symm), hx, List.range_eq_range', Op.equalIn]
  simp only [Sem.run_bind, run_underlying ht, Result.andThen_ok, hsz, Std.Legacy.Range.forIn_eq_forIn_range', Std.Legacy.Range.size, Nat.sub_zero, Nat.add_sub_cancel, Nat.div_one]
  have hl : ∀ i ∈ List.range' 0 n 1, i < n := fun i hi => by simpa using (List.mem_range'_1.1 hi).2
  generalize List.range' 0 n 1 = l at hl ⊢
  induction l with
  | nil => simp
  | cons i l ih =>
    have hi : i < n := hl i (by simp)
    have px : (Go.part e (xs.map (Value.int k)).toArray (i * 1)).run P w = .ok (.int k (xs.getD i 0)) w := by
      simp [Go.part, isAgg, run_underlying he, List.getD, List.getElem?_eq_getElem (show i < xs.length by omega)]
    have py : (Go.part e (ys.map (Value.int k)).toArray (i * 1)).run P w = .ok (.int k (ys.getD i 0)) w := by
      simp [Go.part, isAgg, run_underlying he, List.getD, List.getElem?_eq_getElem (show i < ys.length by omega)]
    have pe : (Op.equalIn (d + 1) e (.int k (xs.getD i 0)) (.int k (ys.getD i 0))).run P w = .ok (xs.getD i 0 == ys.getD i 0) w := by
      rw [run_equalIn_int w d e k k _ _ he]
    simp only [List.forIn_cons, Sem.run_bind, px, py, pe, Result.andThen_ok, List.all_cons]
    cases hb : (xs.getD i 0 == ys.getD i 0)
    · simp
    · simp only [Bool.not_true, Bool.false_eq_true, if_false, Sem.run_pure, Result.andThen_ok, Bool.true_and]
      exact ih fun j hj => hl j (by simp [hj])
/-- '==' on arrays of ints, at the operation. -/
theorem eqInts {P : Program} {w : World} {ops : Array Oper} {rest : List Oper} {o : Oper} {a : Act} {Q : Exit → Act → World → Prop} {t e ty : TypeId} {n : Nat} {k : IntKind} (x y : Operand) (xs ys : List Int) (b : Bool) (ht : P.underlying t = some (.array n e)) (he : P.underlying e = some (.int k)) (hs : (P.info? e).map (·.size) = some 1) (hq : P.eqGuardType P.depth t = false)
    (hgd : Region.wanted o (yielded ops a.tmps) = true) (ho : o.op = .binOp .eql t x y ty) (hxv : a.eval x = .agg (xs.map (Value.int k)).toArray) (hyv : a.eval y = .agg (ys.map (Value.int k)).toArray) (hx : xs.length = n) (hy : ys.length = n) (hb : (xs == ys) = b)
    (hk : wpList P ops Q rest (a.put o.dst (.bool b)) w) : wpList P ops Q (o :: rest) a w := by
  refine opVal (v := .bool b) hgd ?_ hk
  obtain ⟨i, hi, hsz⟩ := Option.map_eq_some_iff.1 hs
  have hr := run_equalIn_ints w 9998 t e n k ht he (fun w => by simp [sizeOf, typeInfo, hi, hsz]) xs ys hx hy
  rw [hb] at hr
  unfold execOp
  simp only [ho, hxv, hyv]
  simp [eqGuard, hq, run_eql_struct, hr]
end Go.Proofs.Ytkfijpghjjnpkaa
/-
  Plain functions for the wire encoding: what encoding and decoding compute, on integers and lists of bytes. No program in sight.
-/
namespace Go.Proofs.Ytkfijpghjjnpkaa
open Go.RowKit

/-- The number that an integer is encoded as. -/
def zz (n : Int) : Nat := if n < 0 then (2 * (-1 - n) + 1).toNat else (2 * n).toNat
def unzz (z : Nat) : Int := if z % 2 = 1 then -1 - ((z / 2 : Nat) : Int) else ((z / 2 : Nat) : Int)
def encN : Nat → Nat → List UInt8
  | 0, z => [UInt8.ofNat z]
  | k + 1, z => if z < 128 then [UInt8.ofNat z] else UInt8.ofNat (z % 128 + 128) :: encN k (z / 128)
def enc (n : Int) : List UInt8 := encN 9 (zz n)

theorem zz_lt (n : Int) (h1 : -9223372036854775808 ≤ n) (h2 : n ≤ 9223372036854775807) : zz n < 18446744073709551616 := by unfold zz; split <;> omega
theorem unzz_zz (n : Int) : unzz (zz n) = n := by unfold zz unzz; split <;> split <;> omega
theorem zz_unzz (z : Nat) : zz (unzz z) = z := by unfold unzz zz; split <;> split <;> omega
theorem unzz_lo (z : Nat) (h : z < 18446744073709551616) : -9223372036854775808 ≤ unzz z := by unfold unzz; split <;> omega
theorem unzz_hi (z : Nat) (h : z < 18446744073709551616) : unzz z ≤ 9223372036854775807 := by unfold unzz; split <;> omega

theorem encN_pos (k z : Nat) : 0 < (encN k z).length := by
  cases k with
  | zero => simp [encN]
  | succ k => unfold encN; split <;> simp
theorem encN_len (k : Nat) : ∀ z, (encN k z).length ≤ k + 1 := by
  induction k with
  | zero => intro z; simp [encN]
  | succ k ih => intro z; unfold encN; split <;> simp; exact ih _
theorem enc_len (n : Int) : (enc n).length ≤ 10 := encN_len 9 _
theorem enc_pos (n : Int) : 0 < (enc n).length := encN_pos 9 _
/-- The number as the program makes it. -/
theorem zz_bits (n : Int) (h1 : -9223372036854775808 ≤ n) (h2 : n ≤ 9223372036854775807) :
    bits .xor .u64 (IntKind.u64.wrap (IntKind.u64.wrap n * 2)) (IntKind.u64.wrap (n / 9223372036854775808)) = (zz n : Int) := by
  simp only [IntKind.wrap_u64]
  by_cases h : 0 ≤ n
  · have e1 : n % 18446744073709551616 * 2 % 18446744073709551616 = ((2 * n).toNat : Nat) := by omega
    have e2 : n / 9223372036854775808 % 18446744073709551616 = ((0 : Nat) : Int) := by omega
    rw [e1, e2, u64_xor_n _ _ (by omega) (by omega), Nat.xor_zero]
    unfold zz
    rw [if_neg (by omega)]
  · have e1 : n % 18446744073709551616 * 2 % 18446744073709551616 = ((2 * n + 18446744073709551616).toNat : Nat) := by omega
    have e2 : n / 9223372036854775808 % 18446744073709551616 = ((2 ^ 64 - 1 : Nat) : Int) := by omega
    rw [e1, e2, u64_xor_n _ _ (by omega) (by omega), nat_xor_ones 64 _ (by omega)]
    unfold zz
    rw [if_pos (by omega)]
    omega
theorem encN_step (k m : Nat) (h : 128 ≤ m) : encN (k + 1) m = UInt8.ofNat (m % 128 + 128) :: encN k (m / 128) := by rw [encN, if_neg (by omega)]
theorem encN_last (k m : Nat) (h : m < 128) : encN k m = [UInt8.ofNat m] := by
  cases k with
  | zero => rfl
  | succ k => rw [encN, if_pos h]
theorem ofNat_toNat8 (m : Nat) (h : m < 256) : (UInt8.ofNat m).toNat = m := by simp; omega
def encS (s : List UInt8) : List UInt8 := enc s.length ++ s
def encI (l : List Int) : List UInt8 := enc l.length ++ (l.map enc).flatten
def encT (l : List (List UInt8)) : List UInt8 := enc l.length ++ (l.map encS).flatten
def encD (n : Nat) (D : List UInt8) : List UInt8 := enc n ++ D
/-- A text as a value; an int. -/
def sv (s : List UInt8) : Value := .string ⟨s.toArray⟩
def iv (n : Int) : Value := .int .i64 n
def isI64 (n : Int) : Prop := -9223372036854775808 ≤ n ∧ n ≤ 9223372036854775807
theorem flat_take {α : Type} (f : α → List UInt8) (l : List α) (k : Nat) (x : α) (h : l[k]? = some x) : ((l.take (k + 1)).map f).flatten = ((l.take k).map f).flatten ++ f x := by
  have hk : k < l.length := by
    rcases Nat.lt_or_ge k l.length with hh | hh
    · exact hh
    · rw [List.getElem?_eq_none hh] at h; cases h
  have hx : l[k] = x := by rw [List.getElem?_eq_getElem hk] at h; exact Option.some.inj h
  rw [List.take_succ_eq_append_getElem hk, List.map_append, List.flatten_append, hx]
  simp
theorem flat_take_le {α : Type} (f : α → List UInt8) (l : List α) (k : Nat) : ((l.take k).map f).flatten.length ≤ (l.map f).flatten.length := by
  have e : (l.map f).flatten = ((l.take k).map f).flatten ++ ((l.drop k).map f).flatten := by
    rw [← List.flatten_append, ← List.map_append, List.take_append_drop]
  rw [e, List.length_append]; omega
end Go.Proofs.Ytkfijpghjjnpkaa
/-
  More operations by hand: a cell is loaded, the address of an element, rows of different types. No statement is proved here.
-/
namespace Go.Proofs.Ytkfijpghjjnpkaa
open Go.RowKit

section
variable {P : Program} {w : World} {ops : Array Oper} {rest : List Oper} {o : Oper} {a : Act} {Q : Exit → Act → World → Prop}
/-- One cell is loaded. -/
theorem ldOne {ty : TypeId} {p : Addr} {v : Value} (x : Operand) (hu : ((P.underlying ty).map fun d => match d with | .struct _ | .array _ _ => true | _ => false) = some false) (hgd : Region.wanted o (yielded ops a.tmps) = true)
    (ho : o.op = .load ty x) (hx : a.eval x = .pointer (some p)) (hc : w.cell? p = some v) (hk : wpList P ops Q rest (a.put o.dst v) w) : wpList P ops Q (o :: rest) a w := by
  refine opVal (v := v) hgd ?_ hk
  obtain ⟨d, hd, h2⟩ := Option.map_eq_some_iff.1 hu
  have ha : (isAgg ty).run P w = .ok false w := by
    unfold isAgg
    rw [Sem.run_bind, run_underlying hd w]
    cases d <;> simp_all
  have hl : (Instr.loadAt ty (.pointer (some p))).run P w = .ok v w := by
    simp [Instr.loadAt, Instr.sureAddr, loadVar, ha, hc]
  unfold execOp
  simp only [ho, hx, Sem.run_bind, Sem.run_pure, hl, Result.andThen_ok]
/-- The address of an element of a slice. -/
theorem iaRow {t e : TypeId} {z : Value} {size bytes b off n c : Nat} {kk : IntKind} {K : Int} (x y : Operand) (k : Nat) (T : SlTy P t e z size bytes) (hgd : Region.wanted o (yielded ops a.tmps) = true)
    (ho : o.op = .indexAddr t x y) (hx : a.eval x = .slice (some ⟨b, off, none⟩) n c) (hy : a.eval y = .int kk K) (hK : K = (k : Int)) (hk : k < n)
    (h : wpList P ops Q rest (a.put o.dst (.pointer (some ⟨b, off + k * size, none⟩))) w) : wpList P ops Q (o :: rest) a w := by
  subst hK
  obtain ⟨i, hi, hz0, hz1, hz2⟩ := info_parts T.inf
  refine opVal (v := .pointer (some ⟨b, off + k * size, none⟩)) hgd ?_ h
  have ht : P.underlying t = some (.slice (P.elem t)) := by rw [T.und]; simp [Program.elem, T.und]
  have he : P.elem t = e := by have := T.und; rw [this] at ht; injection ht with ht; injection ht with ht; exact ht.symm
  have hr := run_indexAt_slice (P := P) w t ⟨b, off, none⟩ n c kk (k : Int) ht
  rw [if_pos ⟨by omega, by omega⟩, he, Int.toNat_natCast] at hr
  unfold execOp
  simp only [ho, hx, hy, Sem.run_bind, Sem.run_pure]
  rw [hr]
  simp [sizeOf, typeInfo, hi, hz1, add_off]
theorem iaRun {w : World} {o : Oper} {a : Act} {t e : TypeId} {b off n s : Nat} {kk : IntKind} {K : Int} (x y : Operand) (k : Nat) (hu : P.underlying t = some (.array n e)) (he : (P.info? e).map (·.size) = some s)
    (ho : o.op = .indexAddr t x y) (hx : a.eval x = .pointer (some ⟨b, off, none⟩)) (hy : a.eval y = .int kk K) (hK : K = (k : Int)) (hk : k < n) : (execOp a.eval o).run P w = .ok (.value (.pointer (some ⟨b, off + k * s, none⟩))) w := by
  subst hK
  obtain ⟨j, hj, hs⟩ := Option.map_eq_some_iff.1 he
  have hl : P.arrayLen t = n := by simp [Program.arrayLen, hu]
  have hel : P.elem t = e := by simp [Program.elem, hu]
  have ht : P.underlying t = some (.array (P.arrayLen t) (P.elem t)) := by rw [hl, hel]; exact hu
  have hr := run_indexAt_array (P := P) w t ⟨b, off, none⟩ kk (k : Int) ht
  rw [hl, if_pos ⟨by omega, by omega⟩, hel, Int.toNat_natCast] at hr
  unfold execOp
  simp only [ho, hx, hy, Sem.run_bind, Sem.run_pure]
  rw [hr]
  simp [sizeOf, typeInfo, hj, hs, add_off]
/-- The address of an element of an array variable. -/
theorem iaArr {t e : TypeId} {b off n s : Nat} {kk : IntKind} {K : Int} (x y : Operand) (k : Nat) (hu : P.underlying t = some (.array n e)) (he : (P.info? e).map (·.size) = some s) (hgd : Region.wanted o (yielded ops a.tmps) = true)
    (ho : o.op = .indexAddr t x y) (hx : a.eval x = .pointer (some ⟨b, off, none⟩)) (hy : a.eval y = .int kk K) (hK : K = (k : Int)) (hk : k < n)
    (h : wpList P ops Q rest (a.put o.dst (.pointer (some ⟨b, off + k * s, none⟩))) w) : wpList P ops Q (o :: rest) a w := by
  subst hK
  obtain ⟨j, hj, hs⟩ := Option.map_eq_some_iff.1 he
  refine opVal (v := .pointer (some ⟨b, off + k * s, none⟩)) hgd ?_ h
  have hl : P.arrayLen t = n := by simp [Program.arrayLen, hu]
  have hel : P.elem t = e := by simp [Program.elem, hu]
  have ht : P.underlying t = some (.array (P.arrayLen t) (P.elem t)) := by rw [hl, hel]; exact hu
  have hr := run_indexAt_array (P := P) w t ⟨b, off, none⟩ kk (k : Int) ht
  rw [hl, if_pos ⟨by omega, by omega⟩, hel, Int.toNat_natCast] at hr
  unfold execOp
  simp only [ho, hx, hy, Sem.run_bind, Sem.run_pure]
  rw [hr]
  simp [sizeOf, typeInfo, hj, hs, add_off]
end
theorem iaRowRun {P : Program} {w : World} {o : Oper} {a : Act} {t e : TypeId} {z : Value} {size bytes b off n c : Nat} {kk : IntKind} {K : Int} (x y : Operand) (k : Nat) (T : SlTy P t e z size bytes)
    (ho : o.op = .indexAddr t x y) (hx : a.eval x = .slice (some ⟨b, off, none⟩) n c) (hy : a.eval y = .int kk K) (hK : K = (k : Int)) (hk : k < n) : (execOp a.eval o).run P w = .ok (.value (.pointer (some ⟨b, off + k * size, none⟩))) w := by
  subst hK
  obtain ⟨i, hi, hz0, hz1, hz2⟩ := info_parts T.inf
  have ht : P.underlying t = some (.slice (P.elem t)) := by rw [T.und]; simp [Program.elem, T.und]
  have he : P.elem t = e := by have := T.und; rw [this] at ht; injection ht with ht; injection ht with ht; exact ht.symm
  have hr := run_indexAt_slice (P := P) w t ⟨b, off, none⟩ n c kk (k : Int) ht
  rw [if_pos ⟨by omega, by omega⟩, he, Int.toNat_natCast] at hr
  unfold execOp
  simp only [ho, hx, hy, Sem.run_bind, Sem.run_pure]
  rw [hr]
  simp [sizeOf, typeInfo, hi, hz1, add_off]
theorem rd_elem {w : World} {B b off n c k : Nat} {L : List UInt8} (h : Rd w B 16 (some ⟨b, off, none⟩) n c (bcs L)) (hk : k < n) : ∀ j u, (bcs ((L.drop (k * 16)).take 16))[j]? = some u → w.cell? ⟨b, off + k * 16 + j, none⟩ = some u := by
  obtain ⟨b', off', e1, _, hc⟩ := h.cells (by omega)
  injection e1 with e1
  injection e1 with e1 e2
  subst e1; subst e2
  intro j u hu
  have hl := h.len
  rw [bcs_length] at hl
  have hj := (List.getElem?_eq_some_iff.1 hu).1
  rw [bcs_length, List.length_take, List.length_drop] at hj
  rw [Nat.add_assoc]
  refine hc (k * 16 + j) u ?_
  rw [← hu]
  unfold bcs
  rw [List.getElem?_map, List.getElem?_map, List.getElem?_take, List.getElem?_drop, if_pos (by omega)]
theorem own_of_arr {w : World} {b n size base : Nat} {t : TypeId} {cur : List Value} (h : Arr w b t cur) (hl : cur.length = n * size) (hb : base ≤ b) (hn : n ≤ maxLen) : w.ownsRow base t size (.slice (some ⟨b, 0, none⟩) n n) n cur :=
  ⟨hl, Or.inr ⟨b, n, cur.toArray, rfl, hb, h, Nat.le_refl _, hn, by simpa using hl, by simp; exact List.take_of_length_le (by omega)⟩⟩
/-- Rows of different types lie in different blocks. -/
theorem own_ne {w : World} {base base' size size' n n' : Nat} {e e' : TypeId} {v v' : Value} {xs xs' : List Value} (h : w.ownsRow base e size v n xs) (h' : w.ownsRow base' e' size' v' n' xs') (hne : e ≠ e') : v.ownBlock = none ∨ v.ownBlock ≠ v'.ownBlock := by
  rcases h.2 with ⟨rfl, _⟩ | ⟨g, cap, cur, rfl, _, hh, _⟩
  · exact Or.inl rfl
  · right
    rcases h'.2 with ⟨rfl, _⟩ | ⟨g', cap', cur', rfl, _, hh', _⟩
    · simp [Value.ownBlock]
    · intro he
      have : g = g' := by simpa [Value.ownBlock] using he
      subst this
      rw [hh] at hh'
      injection hh' with hh'
      injection hh' with _ ht
      exact hne ht
theorem own_arr_ne {w : World} {base size n b : Nat} {e t : TypeId} {v : Value} {xs cur : List Value} (h : w.ownsRow base e size v n xs) (h' : Arr w b t cur) (hne : e ≠ t) : ∀ g, v.ownBlock = some g → g ≠ b := by
  rcases h.2 with ⟨rfl, _⟩ | ⟨g', cap, cur', rfl, _, hh, _⟩
  · intro g hg; simp [Value.ownBlock] at hg
  · intro g hg he
    have : g' = g := by simpa [Value.ownBlock] using hg
    subst this
    subst he
    unfold Arr at h'
    rw [hh] at h'
    injection h' with h'
    injection h' with _ ht
    exact hne ht
theorem own_setCell {w : World} {base size n b i : Nat} {e t : TypeId} {v u : Value} {xs cur : List Value} (h : w.ownsRow base e size v n xs) (h' : Arr w b t cur) (hne : e ≠ t) : (w.setCell ⟨b, i, none⟩ u).ownsRow base e size v n xs := by
  have hn := own_arr_ne h h' hne
  refine h.kept (row := some b) ⟨rfl, rfl, rfl, by simp [World.setCell], fun k hk hne' => ?_⟩ ?_
  · exact Below.heap_setCell w ⟨b, i, none⟩ u k (by
      intro e2
      apply hne'
      first | exact congrArg some e2 | exact congrArg some e2.symm)
  · cases hv : v.ownBlock with
    | none => exact Or.inl rfl
    | some g => exact Or.inr (fun e2 => hn g hv (by injection e2))
theorem own_row {w w' : World} {base size n b : Nat} {e t : TypeId} {v : Value} {xs cur : List Value} (h : w.ownsRow base e size v n xs) (h' : Arr w b t cur) (hne : e ≠ t) (hg : w.grownBy w' (some b)) : w'.ownsRow base e size v n xs := by
  have hn := own_arr_ne h h' hne
  refine h.kept hg ?_
  cases hv : v.ownBlock with
  | none => exact Or.inl rfl
  | some g => exact Or.inr (fun e2 => hn g hv (by injection e2))
theorem own_lt_below {w w' : World} {base size n B : Nat} {e : TypeId} {v : Value} {xs : List Value} (h : w.ownsRow base e size v n xs) (hb : Below B w w') (hlt : ∀ k, v.ownBlock = some k → k < B) : w'.ownsRow base e size v n xs := by
  refine ⟨h.1, ?_⟩
  rcases h.2 with h2 | ⟨g, cap, cur, rfl, h3, h4, h5⟩
  · exact Or.inl h2
  · exact Or.inr ⟨g, cap, cur, rfl, h3, (hb.block g (hlt g rfl)).trans h4, h5⟩
theorem Try.und_int : Try.prog.underlying 3 = some (.int .i64) := by kernel_rfl
theorem Try.one_int : (Try.prog.info? 3).map (·.size) = some 1 := by kernel_rfl
theorem spl_one (cur : List Value) (i : Nat) (u : Value) (h : i < cur.length) : spl cur i [u] = cur.set i u := by
  unfold spl
  apply List.ext_getElem?
  intro j
  rw [List.getElem?_set]
  have hl : (cur.take i).length = i := by rw [List.length_take]; omega
  by_cases h1 : j < i
  · rw [List.append_assoc, List.getElem?_append_left (by omega), List.getElem?_take, if_pos h1, if_neg (by omega)]
  · by_cases h2 : j = i
    · subst h2
      rw [List.append_assoc, List.getElem?_append_right (by omega), hl, Nat.sub_self, if_pos rfl, if_pos h]
      rfl
    · rw [List.getElem?_append_right (by rw [List.length_append]; simp; omega), if_neg (by omega), List.length_append, hl, List.getElem?_drop]
      congr 1
      simp
      omega
/-- One cell of a block is set. -/
theorem stOne {P : Program} {w : World} {ops : Array Oper} {rest : List Oper} {o : Oper} {a : Act} {Q : Exit → Act → World → Prop} {g i : Nat} {t ty : TypeId} {cur : List Value} {u : Value} (x y : Operand) (he : (P.info? ty).map (·.size) = some 1) (hgd : Region.wanted o (yielded ops a.tmps) = true) (ho : o.op = .store ty x y)
    (hx : a.eval x = .pointer (some ⟨g, i, none⟩)) (hy : a.eval y = u) (hu : u.cells = #[u]) (h1 : u.oneCell' = true) (hA : Arr w g t cur) (hi : i < cur.length)
    (h : ∀ w', Arr w' g t (cur.set i u) → (∀ b' t' c', b' ≠ g → Arr w b' t' c' → Arr w' b' t' c') → (∀ B, B ≤ g → Below B w w') → w.grownBy w' (some g) → wpList P ops Q rest (a.put o.dst undef) w') : wpList P ops Q (o :: rest) a w := by
  obtain ⟨j, hj, hs⟩ := Option.map_eq_some_iff.1 he
  have hst := run_storeCells_spl (P := P) hA (off := i) [u] (by simp; omega) (by intro v hv; simp at hv; subst hv; exact h1)
  rw [spl_one cur i u hi] at hst
  have hrun : (storeVar ty ⟨g, i, none⟩ u).run P w = .ok () (w.setRow g (cur.set i u).toArray) := by
    simp only [storeVar, sizeOf, typeInfo]
    simp [hj, hs, hu]
    simpa using hst
  refine wpList_want hgd fun K hK => ?_
  unfold Oper.wp execOp
  simp only [ho, hx, hy, Instr.storeAt, Instr.sureAddr, Sem.run_bind, Sem.run_pure, Result.andThen_ok, hrun]
  refine hK _ _ (h _ (hA.setRow _) (fun b' t' c' hne hA' => hA'.setRow_other (fun e => hne e.symm) _) (fun B hB => below_setRow w hB _) ⟨rfl, rfl, rfl, by simp [World.setRow], fun k hk hne => ?_⟩)
  unfold World.setRow
  have : g ≠ k := fun e => hne (by rw [e])
  simp [Array.getElem?_modify, this]
/-- A variable of a struct or array type is set; nothing else turns. -/
theorem stArrG {P : Program} {w : World} {ops : Array Oper} {rest : List Oper} {o : Oper} {a : Act} {Q : Exit → Act → World → Prop} {ty : TypeId} {n b : Nat} {z : Array Value} {cur cs : List Value} (x y : Operand) (T : AgTy P ty z n) (hgd : Region.wanted o (yielded ops a.tmps) = true) (ho : o.op = .store ty x y)
    (hx : a.eval x = .pointer (some ⟨b, 0, none⟩)) (hy : a.eval y = .agg cs.toArray) {t : TypeId} (hA : Arr w b t cur) (hs : cur.length = n) (hl : cs.length = n) (h1 : ∀ u ∈ cs, u.oneCell' = true)
    (h : ∀ w', Arr w' b t cs → w.grownBy w' (some b) → wpList P ops Q rest (a.put o.dst undef) w') : wpList P ops Q (o :: rest) a w := by
  refine wpList_want hgd fun K hK => ?_
  unfold Oper.wp execOp
  simp only [ho, hx, hy, Instr.storeAt, Instr.sureAddr, Sem.run_bind, Sem.run_pure, Result.andThen_ok, run_storeAgg T hA (by rw [List.size_toArray]; exact hs) (by rw [List.size_toArray]; exact hl) (by intro u hu; exact h1 u (by simpa using hu))]
  refine hK _ _ (h _ (hA.setRow cs) ⟨rfl, rfl, rfl, by simp [World.setRow], fun k hk hne => ?_⟩)
  unfold World.setRow
  have : b ≠ k := fun e => hne (by rw [e])
  simp [Array.getElem?_modify, this]
end Go.Proofs.Ytkfijpghjjnpkaa
/-
  General lemmas, gathered by mk_kit.py out of earlier texts. No statement is proved here.
-/
namespace Go.Proofs.Ytkfijpghjjnpkaa
open Go.RowKit
set_option linter.unusedVariables false

theorem grown_set (w : World) (g i : Nat) (v : Value) : w.grownBy (w.setCell ⟨g, i, none⟩ v).drew (some g) :=
  ⟨rfl, rfl, rfl, by simp [World.drew, World.setCell], fun k hk hne => Below.heap_setCell w ⟨g, i, none⟩ v k (by
    intro e2
    apply hne
    first | exact congrArg some e2 | exact congrArg some e2.symm)⟩
theorem grown_trans {w w1 w2 : World} {r : Option Nat} (h1 : w.grownBy w1 r) (h2 : w1.grownBy w2 r) : w.grownBy w2 r :=
  ⟨h2.os.trans h1.os, h2.tape.trans h1.tape, h2.output.trans h1.output, Nat.le_trans h1.size h2.size, fun k hk hne => (h2.block k (Nat.lt_of_lt_of_le hk h1.size) hne).trans (h1.block k hk hne)⟩
theorem Arr.grown {w w' : World} {b : Nat} {t : TypeId} {cur : List Value} {r : Option Nat} (h : Arr w b t cur) (hg : w.grownBy w' r) (hne : some b ≠ r) : Arr w' b t cur := (hg.block b h.lt hne).trans h
theorem grown_drew (w : World) : w.grownBy w.drew none := ⟨rfl, rfl, rfl, Nat.le_refl _, fun _ _ _ => rfl⟩
section
variable {P : Program} {w : World} {o : Oper} {a : Act} {t ty src dst : TypeId}
theorem ldRun {p : Addr} {v : Value} (x : Operand) (hu : ((P.underlying ty).map fun d => match d with | .struct _ | .array _ _ => true | _ => false) = some false)
    (ho : o.op = .load ty x) (hx : a.eval x = .pointer (some p)) (hc : w.cell? p = some v) : (execOp a.eval o).run P w = .ok (.value v) w := by
  obtain ⟨d, hd, h2⟩ := Option.map_eq_some_iff.1 hu
  have ha : (isAgg ty).run P w = .ok false w := by
    unfold isAgg
    rw [Sem.run_bind, run_underlying hd w]
    cases d <;> simp_all
  have hl : (Instr.loadAt ty (.pointer (some p))).run P w = .ok v w := by
    simp [Instr.loadAt, Instr.sureAddr, loadVar, ha, hc]
  unfold execOp
  simp only [ho, hx, Sem.run_bind, Sem.run_pure, hl, Result.andThen_ok]
end
section
variable {P : Program} {w : World} {o : Oper} {a : Act} {t ty src dst : TypeId}
theorem convU8Run {A : Nat} {b : UInt8} (x : Operand) (hs : (P.underlying src).isSome = true) (hd : P.underlying dst = some (.int .u8)) (ho : o.op = .convert src dst x) (hx : a.eval x = .int .i64 (A : Int)) (h : A % 256 = b.toNat) : (execOp a.eval o).run P w = .ok (.value (.int .u8 (b.toNat : Int))) w := by
  have hk : P.intKind dst = .u8 := by simp [Program.intKind, hd]
  have hr := run_convert_int (P := P) w src dst .i64 (A : Int) hs (by rw [hk]; exact hd)
  rw [hk] at hr
  have hw : IntKind.u8.wrap (A : Int) = (b.toNat : Int) := by
    rw [← h]
    simp [IntKind.wrap, IntKind.bits, IntKind.signed]
  rw [hw] at hr
  unfold execOp
  simp only [ho, hx, Sem.run_bind, Sem.run_pure, hr, Result.andThen_ok]
end
theorem grown_to {w w' : World} (r : Option Nat) (h : w.grownBy w' none) : w.grownBy w' r := ⟨h.os, h.tape, h.output, h.size, fun k hk _ => h.block k hk (by simp)⟩
theorem grown_set1 (w : World) (g i : Nat) (v : Value) : w.grownBy (w.setCell ⟨g, i, none⟩ v) (some g) :=
  ⟨rfl, rfl, rfl, by simp [World.setCell], fun k hk hne => Below.heap_setCell w ⟨g, i, none⟩ v k (by
    intro e2
    apply hne
    first | exact congrArg some e2 | exact congrArg some e2.symm)⟩
/-- Arrays of other types than rows of bytes lie as they lay. -/
def ArrsKept (w w' : World) : Prop := ∀ (b : Nat) (t : TypeId) (cur : List Value), t ≠ 5 → Arr w b t cur → Arr w' b t cur
theorem ArrsKept.refl (w : World) : ArrsKept w w := fun _ _ _ _ h => h
theorem ArrsKept.trans {a b c : World} (h : ArrsKept a b) (k : ArrsKept b c) : ArrsKept a c := fun i t cur ht hA => k i t cur ht (h i t cur ht hA)
theorem ArrsKept.below {w w' : World} (h : Below w.heap.size w w') : ArrsKept w w' := fun _ _ _ _ hA => hA.below h hA.lt
theorem ArrsKept.row {w w' : World} {base n : Nat} {v : Value} {xs : List Value} (h : w.ownsRow base 5 1 v n xs) (hg : w.grownBy w' v.ownBlock) : ArrsKept w w' := fun b t cur ht hA =>
  hA.grown hg (fun e => own_arr_ne h hA (fun e => ht e.symm) b e.symm rfl)
/-- Blocks that stood stay, but for a row's own block. -/
def RowKept (w w' : World) (v : Value) : Prop := ∀ b, b < w.heap.size → some b ≠ v.ownBlock → w'.heap[b]? = w.heap[b]?
theorem RowKept.set {w w' : World} {v : Value} (h : RowKept w w' v) {g i : Nat} (hg : w.heap.size ≤ g) (u : Value) : RowKept w (w'.setCell ⟨g, i, none⟩ u) v := fun b hb hne =>
  (Below.heap_setCell w' ⟨g, i, none⟩ u b (by show b ≠ g; omega)).trans (h b hb hne)
theorem RowKept.grown {w w' w'' : World} {v : Value} (h : RowKept w w' v) (hs : w.heap.size ≤ w'.heap.size) {g : Nat} (hg : w.heap.size ≤ g) (hgr : w'.grownBy w'' (some g)) : RowKept w w'' v := fun b hb hne =>
  (hgr.block b (by omega) (fun e => by injection e with e; omega)).trans (h b hb hne)
theorem RowKept.app {w w' wa w'' : World} {v vu : Value} (h : RowKept w w' v) (hs : w.heap.size ≤ w'.heap.size) (hS : SameOrNew v vu w.heap.size) (ha : ∀ b, b < w'.heap.size → wa.heap[b]? = w'.heap[b]?) (hsa : w'.heap.size ≤ wa.heap.size) (hgr : wa.grownBy w'' vu.ownBlock) : RowKept w w'' v := fun b hb hne => by
  refine (hgr.block b (by omega) (fun e => ?_)).trans ((ha b (by omega)).trans (h b hb hne))
  rcases hS with e2 | ⟨g, e2, h3⟩
  · exact hne (e.trans e2)
  · rw [e2] at e
    injection e with e
    omega
theorem SameOrNew.app {v vu v' : Value} {N M : Nat} (h : SameOrNew v vu N) (k : SameOrNew vu v' M) (hNM : N ≤ M) : SameOrNew v v' N := by
  rcases k with k | ⟨g, k, hg⟩
  · rcases h with h | ⟨g, h, hg⟩
    · exact Or.inl (k.trans h)
    · exact Or.inr ⟨g, k.trans h, hg⟩
  · exact Or.inr ⟨g, k, by omega⟩
section
variable {P : Program} {w : World} {o : Oper} {a : Act} {t ty src dst : TypeId}
theorem lenSlRun {e : TypeId} {A : Option Addr} {n c : Nat} (x : Operand) (ht : P.underlying t = some (.slice e)) (ho : o.op = .call { callee := .builtin .len, args := #[x], argTypes := #[t] }) (hx : a.eval x = .slice A n c) : (execOp a.eval o).run P w = .ok (.value (.int .i64 (n : Int))) w := by
  unfold execOp
  simp [ho, hx, resolve, invoke, builtin, Builtin.len_, run_underlying ht, goInt]
end
section
variable {P : Program} {w : World} {o : Oper} {a : Act} {t ty src dst : TypeId}
theorem leqRun {A B : Int} (x y : Operand) (ho : o.op = .binOp .leq t x y ty) (hx : a.eval x = .int .i64 A) (hy : a.eval y = .int .i64 B) : (execOp a.eval o).run P w = .ok (.value (.bool (decide (A ≤ B)))) w := by
  unfold execOp
  simp [ho, hx, hy, eqGuard, binOp_leq]
end
theorem sep_after {w : World} {n0 n N : Nat} {ro vo vo' : Value} {xs : List Value} {e : TypeId} (h : w.ownsRow n0 e 1 ro n xs) (hN : w.heap.size ≤ N) (hsep : ro.ownBlock = none ∨ ro.ownBlock ≠ vo.ownBlock) (hS : SameOrNew vo vo' N) : ro.ownBlock = none ∨ ro.ownBlock ≠ vo'.ownBlock := by
  rcases hsep with h1 | h1
  · exact Or.inl h1
  · rcases hS with h2 | ⟨g, h2, h3⟩
    · exact Or.inr (fun e => h1 (e.trans h2))
    · refine Or.inr (fun e => ?_)
      have := (h.lt g (e.trans h2)).2
      omega
theorem row_kept {w w' : World} {n0 n : Nat} {ro vo : Value} {xs : List Value} {e : TypeId} (h : w.ownsRow n0 e 1 ro n xs) (hsep : ro.ownBlock = none ∨ ro.ownBlock ≠ vo.ownBlock) (hk : RowKept w w' vo) : w'.ownsRow n0 e 1 ro n xs := by
  refine ⟨h.1, ?_⟩
  rcases h.2 with h2 | ⟨g, cap, cur, rfl, h3, h4, h5⟩
  · exact Or.inl h2
  · refine Or.inr ⟨g, cap, cur, rfl, h3, (hk g (Array.getElem?_eq_some_iff.1 h4).1 (fun e => ?_)).trans h4, h5⟩
    rcases hsep with h6 | h6
    · cases h6
    · exact h6 e
theorem sep_app {w : World} {n0 n : Nat} {ro vo v4 : Value} {xs : List Value} {e : TypeId} (h : w.ownsRow n0 e 1 vo n xs) (hsep : ro.ownBlock = none ∨ ro.ownBlock ≠ vo.ownBlock) (hS : SameOrNew ro v4 w.heap.size) : v4.ownBlock = none ∨ v4.ownBlock ≠ vo.ownBlock := by
  rcases hS with h2 | ⟨g, h2, h3⟩
  · rw [h2]; exact hsep
  · refine Or.inr (fun e => ?_)
    have := (h.lt g (e.symm.trans h2)).2
    omega
theorem sep_symm {ro vo : Value} (h : ro.ownBlock = none ∨ ro.ownBlock ≠ vo.ownBlock) : vo.ownBlock = none ∨ vo.ownBlock ≠ ro.ownBlock := by
  rcases h with h | h
  · cases hv : vo.ownBlock with
    | none => exact Or.inl rfl
    | some g => exact Or.inr (by rw [h]; simp)
  · exact Or.inr (Ne.symm h)
/-- 'make([]T, n)' of one-cell elements. -/
theorem mkRow {P : Program} {w : World} {ops : Array Oper} {rest : List Oper} {o : Oper} {a : Act} {Q : Exit → Act → World → Prop} {t e : TypeId} {z : Value} {bytes : Nat} (x y : Operand) (n : Nat) (T : SlTy P t e z 1 bytes) (hz : z.cells = #[z]) (hgd : Region.wanted o (yielded ops a.tmps) = true)
    (ho : o.op = .makeSlice t x y) (hx : a.eval x = .int .i64 (n : Int)) (hy : a.eval y = .int .i64 (n : Int)) (hn : n ≤ 16777216) (hb : bytes ≤ 1000)
    (h : ∀ w', Arr w' w.heap.size e (List.replicate n z) → Below w.heap.size w w' → wpList P ops Q rest (a.put o.dst (.slice (some ⟨w.heap.size, 0, none⟩) n n)) w') : wpList P ops Q (o :: rest) a w := by
  obtain ⟨i, hi, hz0, hz1, hz2⟩ := info_parts T.inf
  have hr := run_makeSlice (P := P) (w := w) t e i z T.und hi hz0 .i64 .i64 (n : Int) (n : Int) (by omega) (by omega) (by rw [hz1]; simp; omega) (by
    have h1 := Nat.mul_le_mul hb hn
    have h2 : ((bytes : Int) * (n : Int)) = ((bytes * n : Nat) : Int) := by simp
    rw [hz2, h2]
    omega) (by omega)
  rw [hz1, hz, Int.toNat_natCast, Nat.mul_one] at hr
  refine wpList_want hgd fun K hK => ?_
  unfold Oper.wp execOp
  simp only [ho, hx, hy, Sem.run_bind, Sem.run_pure, Result.andThen_ok, hr]
  refine hK _ _ (h _ ?_ ((Below.refl _ _).alloc (Nat.le_refl _) _))
  have hA := Arr.new w e (madeCells #[z] n).toList
  rw [Array.toArray_toList] at hA
  rw [← toList_madeCells_one]
  exact hA
/-- What keeps all blocks but two. -/
structure Kp2 (g1 g2 : Nat) (A B : World) : Prop where
  os : B.os = A.os
  tape : B.tape = A.tape
  output : B.output = A.output
  size : A.heap.size ≤ B.heap.size
  block : ∀ k, k < A.heap.size → k ≠ g1 → k ≠ g2 → B.heap[k]? = A.heap[k]?
theorem Kp2.trans {g1 g2 : Nat} {A B C : World} (h : Kp2 g1 g2 A B) (k : Kp2 g1 g2 B C) : Kp2 g1 g2 A C :=
  ⟨k.os.trans h.os, k.tape.trans h.tape, k.output.trans h.output, Nat.le_trans h.size k.size, fun b hb h1 h2 => (k.block b (Nat.lt_of_lt_of_le hb h.size) h1 h2).trans (h.block b hb h1 h2)⟩
theorem Kp2.left {g1 g2 : Nat} {A B : World} (h : A.grownBy B (some g1)) : Kp2 g1 g2 A B := ⟨h.os, h.tape, h.output, h.size, fun k hk h1 _ => h.block k hk (fun e => h1 (by injection e))⟩
theorem Kp2.right {g1 g2 : Nat} {A B : World} (h : A.grownBy B (some g2)) : Kp2 g1 g2 A B := ⟨h.os, h.tape, h.output, h.size, fun k hk _ h2 => h.block k hk (fun e => h2 (by injection e))⟩
theorem Kp2.arr {g1 g2 : Nat} {A B : World} (h : Kp2 g1 g2 A B) {b : Nat} {t : TypeId} {cur : List Value} (hA : Arr A b t cur) (h1 : b ≠ g1) (h2 : b ≠ g2) : Arr B b t cur := (h.block b hA.lt h1 h2).trans hA
theorem Kp2.below {g1 g2 n0 : Nat} {W A B : World} (h : Kp2 g1 g2 A B) (hb : Below n0 W A) (hn : n0 ≤ A.heap.size) (h1 : n0 ≤ g1) (h2 : n0 ≤ g2) : Below n0 W B :=
  hb.trans ⟨h.os, h.tape, h.output, h.size, fun k hk => h.block k (by omega) (by omega) (by omega)⟩
/-- '[]byte(s)', as what it reads as. -/
theorem convBsR {P : Program} {w : World} {ops : Array Oper} {rest : List Oper} {o : Oper} {a : Act} {Q : Exit → Act → World → Prop} {src e dst : TypeId} (x : Operand) (l : List UInt8) (hs : P.underlying src = some .string) (hd : P.underlying dst = some (.slice e)) (he : P.underlying e = some (.int .u8)) (hl : l.length ≤ maxLen) (hgd : Region.wanted o (yielded ops a.tmps) = true)
    (ho : o.op = .convert src dst x) (hx : a.eval x = .string ⟨l.toArray⟩)
    (h : ∀ c w', Rd w' (w.heap.size + 1) 1 (some ⟨w.heap.size, 0, none⟩) l.length c (bcs l) → w.heap.size + 1 ≤ w'.heap.size → Below w.heap.size w w' → wpList P ops Q rest (a.put o.dst (.slice (some ⟨w.heap.size, 0, none⟩) l.length c)) w') : wpList P ops Q (o :: rest) a w := by
  have hsz : (⟨l.toArray⟩ : ByteArray).size = l.length := by simp [ByteArray.size]
  have hr := Lib.run_convert_string_bytes (P := P) w src dst e ⟨l.toArray⟩ hs hd he
  rw [hsz] at hr
  refine wpList_want hgd fun K hK => ?_
  unfold Oper.wp execOp
  simp only [ho, hx, Sem.run_bind, Sem.run_pure, hr, Result.andThen_ok]
  refine hK _ _ (h _ _ ⟨by rw [bcs_length, Nat.mul_one], grownCap_ge w l.length 0 e, grownCap_le_maxLen w l.length 0 e hl, fun _ => ⟨_, _, rfl, by omega, fun j u hu => ?_⟩⟩ (by rw [Lib.bytesWorld_size]; omega) ?_)
  · unfold World.cell?
    rw [show (Lib.bytesWorld w e ⟨l.toArray⟩).heap[(⟨w.heap.size, 0 + j, none⟩ : Addr).block]? = _ from Lib.bytesWorld_at_new w e ⟨l.toArray⟩]
    unfold bcs at hu
    rw [List.getElem?_map] at hu
    obtain ⟨b, hb, rfl⟩ := Option.map_eq_some_iff.1 hu
    have hj := (List.getElem?_eq_some_iff.1 hb).1
    unfold Lib.bytesCells
    simp only [Nat.zero_add]
    rw [Array.getElem?_append_left (by simpa using hj)]
    simp [hb, bc]
  · exact ⟨rfl, rfl, rfl, by rw [Lib.bytesWorld_size]; omega, fun k hk => Lib.bytesWorld_at_old w e _ k hk⟩
/-- An element of an array of integers by value. -/
theorem ixArr {P : Program} {w : World} {ops : Array Oper} {rest : List Oper} {o : Oper} {a : Act} {Q : Exit → Act → World → Prop} {t e : TypeId} {n : Nat} {k2 : IntKind} {cs : List Value} {kk : IntKind} {K : Int} (x y : Operand) (i : Nat) (v : Value)
    (hu : P.underlying t = some (.array n e)) (hue : P.underlying e = some (.int k2)) (he : (P.info? e).map (·.size) = some 1) (hgd : Region.wanted o (yielded ops a.tmps) = true)
    (ho : o.op = .index t x y) (hx : a.eval x = .agg cs.toArray) (hy : a.eval y = .int kk K) (hK : K = (i : Int)) (hv : cs[i]? = some v) (hl : cs.length = n)
    (h : wpList P ops Q rest (a.put o.dst v) w) : wpList P ops Q (o :: rest) a w := by
  subst hK
  obtain ⟨j, hj, hs⟩ := Option.map_eq_some_iff.1 he
  have hlt : i < n := by rw [← hl]; exact (List.getElem?_eq_some_iff.1 hv).1
  refine opVal (v := v) hgd ?_ h
  unfold execOp
  have hp : (Go.part e cs.toArray i).run P w = .ok v w := by
    unfold Go.part
    have ha : (isAgg e).run P w = .ok false w := by
      unfold isAgg
      rw [Sem.run_bind, run_underlying hue w]
      rfl
    simp [ha, hv]
  simp [ho, hx, hy, Instr.index, asIntOf, run_underlying hu, sizeOf, typeInfo, hj, hs, hlt, hp]
theorem rd_one (w : World) (b : UInt8) (t : TypeId) : Rd (w.alloc (Obj.cells #[bc b] t)) (w.heap.size + 1) 1 (some ⟨w.heap.size, 0, none⟩) 1 1 (bcs [b]) := by
  refine ⟨rfl, Nat.le_refl _, by decide, fun _ => ⟨w.heap.size, 0, rfl, by omega, fun j u hu => ?_⟩⟩
  rw [Nat.zero_add]
  exact (Arr.new w t [bc b]).cell hu
theorem cat_two (a b : List UInt8) : (⟨a.toArray⟩ : ByteArray) ++ ⟨b.toArray⟩ = ⟨(a ++ b).toArray⟩ := by
  apply ByteArray.ext
  simp
theorem eqIntsRun {P : Program} {w : World} {o : Oper} {a : Act} {t e ty : TypeId} {n : Nat} {k : IntKind} (x y : Operand) (xs ys : List Int) (b : Bool) (ht : P.underlying t = some (.array n e)) (he : P.underlying e = some (.int k)) (hs : (P.info? e).map (·.size) = some 1)
    (hq : P.eqGuardType P.depth t = false) (ho : o.op = .binOp .eql t x y ty) (hxv : a.eval x = .agg (xs.map (Value.int k)).toArray) (hyv : a.eval y = .agg (ys.map (Value.int k)).toArray) (hx : xs.length = n) (hy : ys.length = n) (hb : (xs == ys) = b) :
    (execOp a.eval o).run P w = .ok (.value (.bool b)) w := by
  obtain ⟨i, hi, hsz⟩ := Option.map_eq_some_iff.1 hs
  have hr := run_equalIn_ints w 9998 t e n k ht he (fun w => by simp [sizeOf, typeInfo, hi, hsz]) xs ys hx hy
  rw [hb] at hr
  unfold execOp
  simp only [ho, hxv, hyv]
  simp [eqGuard, hq, run_eql_struct, hr]
theorem catRun {P : Program} {w : World} {o : Oper} {a : Act} {t ty : TypeId} (x y : Operand) (s u : List UInt8) (ho : o.op = .binOp .add t x y ty) (hx : a.eval x = .string ⟨s.toArray⟩) (hy : a.eval y = .string ⟨u.toArray⟩) (h : s.length + u.length ≤ 9223372036854775807) :
    (execOp a.eval o).run P w = .ok (.value (.string ⟨(s ++ u).toArray⟩)) w := by
  have h1 : (⟨s.toArray⟩ : ByteArray).size = s.length := by simp [ByteArray.size]
  have h2 : (⟨u.toArray⟩ : ByteArray).size = u.length := by simp [ByteArray.size]
  unfold execOp
  simp [ho, hx, hy, eqGuard, binOp_string_add, Op.stringOp, h1, h2]
  rw [if_neg (by omega), cat_two]
def ics (l : List Int) : List Value := l.map fun n => Value.int .i64 n
theorem ics_length (l : List Int) : (ics l).length = l.length := by unfold ics; rw [List.length_map]
theorem ics_get {l : List Int} {c : Nat} (h : c < l.length) : (ics l)[c]? = some (.int .i64 (l.getD c 0)) := by
  unfold ics
  rw [List.getElem?_map, List.getElem?_eq_getElem h, List.getD_eq_getElem?_getD, List.getElem?_eq_getElem h]
  rfl
end Go.Proofs.Ytkfijpghjjnpkaa
/-
  As rgFloat (XFloat), with a relation between any two of the values that are left: two new variables that may come up in any order are not the same. No statement is proved here.
-/
namespace Go.Proofs.Ytkfijpghjjnpkaa
open Go.RowKit

section
variable {P : Program} {ops : Array Oper} {Q : Exit → Act → World → Prop} {X : List (Nat × Nat)} {G : Nat → Value → World → Prop} {D : Nat → Nat → Value → Value → Prop} {a0 : Act} {w0 : World} {listed0 : Array Bool}
theorem float_goD (hsym : ∀ i j v u, D i j v u → D j i u v) (hB : floatB ops listed0 a0.tmps.size X = true)
    (hmono : ∀ p ∈ X, ∀ v w w', G p.1 v w → Ext w w' → G p.1 v w')
    (hstep : ∀ p ∈ X, ∃ o, ops.toList[p.1]? = some o ∧ o.dst = some p.2 ∧ ∀ a w, FrameX a0 X a → Ext w0 w → (∀ q ∈ X, waitsFor ops p.1 q.1 = true → G q.1 (a.tmps.getD q.2 undef) w) →
      wpList P ops (Exit.then (fun a' w' => ∃ v, a' = a.put o.dst v ∧ Ext w w' ∧ G p.1 v w' ∧ ∀ q ∈ X, q.1 ≠ p.1 → ∀ u, G q.1 u w → D p.1 q.1 v u) Q) [o] a w)
    (fuel : Nat) (hend : ∀ a w, FrameX a0 X a → Ext w0 w → (∀ p ∈ X, G p.1 (a.tmps.getD p.2 undef) w) → (∀ p ∈ X, ∀ q ∈ X, p.1 ≠ q.1 → D p.1 q.1 (a.tmps.getD p.2 undef) (a.tmps.getD q.2 undef)) → wpAny P .any ops Q fuel (listX X listed0) a w) :
    ∀ (m : Nat) (listed : Array Bool) (a : Act) (w : World), (X.filter fun p => !listed.getD p.1 true).length = m → listed.size = ops.size →
      (∀ k, X.any (·.1 == k) = false → listed.getD k true = listed0.getD k true) → FrameX a0 X a → Ext w0 w → (∀ p ∈ X, listed.getD p.1 true = true → G p.1 (a.tmps.getD p.2 undef) w) →
      (∀ p ∈ X, ∀ q ∈ X, p.1 ≠ q.1 → listed.getD p.1 true = true → listed.getD q.1 true = true → D p.1 q.1 (a.tmps.getD p.2 undef) (a.tmps.getD q.2 undef)) →
      (∀ q ∈ X, listed.getD q.1 true = true → ∀ p ∈ X, waitsFor ops q.1 p.1 = true → listed.getD p.1 true = true) →
      wpAny P .any ops Q (m + fuel) listed a w := by
  unfold floatB at hB
  simp only [Bool.and_eq_true, List.all_eq_true, decide_eq_true_eq, Bool.or_eq_true, Bool.not_eq_true', beq_iff_eq] at hB
  obtain ⟨⟨⟨⟨hpair, hls⟩, hnd⟩, hX⟩, hrest⟩ := hB
  have hpair' : ∀ p ∈ X, ∀ q ∈ X, (p.1 = q.1 ↔ p.2 = q.2) := fun p hp q hq => by
    have := hpair p hp q hq
    rw [Bool.eq_iff_iff] at this
    simpa using this
  intro m
  induction m with
  | zero =>
    intro listed a w hm hsz hk hF hE hG hDD _
    have hall : ∀ p ∈ X, listed.getD p.1 true = true := fun p hp => by
      have := List.length_eq_zero_iff.1 hm
      rw [List.filter_eq_nil_iff] at this
      simpa using this p hp
    have hl : listed = listX X listed0 := by
      apply Array.ext
      · rw [listX_size, hsz, hls]
      · intro k h1 h2
        have e1 : listed.getD k true = listed[k] := by simp [h1]
        have e2 : (listX X listed0).getD k true = (listX X listed0)[k] := by simp [h2]
        rw [← e1, ← e2, listX_get X listed0 k (by rw [hls, ← hsz]; exact h1)]
        cases hx : X.any (·.1 == k) with
        | false => rw [hk k hx, Bool.or_false]
        | true =>
          rw [Bool.or_true]
          obtain ⟨p, hp, hpk⟩ := List.any_eq_true.1 hx
          rw [beq_iff_eq] at hpk
          rw [← hpk]; exact hall p hp
    rw [hl, Nat.zero_add]
    exact hend a w hF hE (fun p hp => hG p hp (hall p hp)) (fun p hp q hq hne => hDD p hp q hq hne (hall p hp) (hall q hq))
  | succ m ih =>
    intro listed a w hm hsz hk hF hE hG hDD hinv
    have hun : ∃ p ∈ X, listed.getD p.1 true = false := by
      cases hf : X.filter fun p => !listed.getD p.1 true with
      | nil => rw [hf] at hm; simp at hm
      | cons p r =>
        have : p ∈ X.filter fun p => !listed.getD p.1 true := by rw [hf]; exact List.mem_cons_self
        rw [List.mem_filter] at this
        exact ⟨p, this.1, by simpa using this.2⟩
    have hin : ∀ i ∈ Region.ready .any ops listed, ∃ p ∈ X, p.1 = i := by
      intro i hi
      obtain ⟨hiu, o, ho, hall⟩ := mem_ready.1 hi
      have hio : i < ops.size := (Array.getElem?_eq_some_iff.1 ho).1
      cases hx : X.any (·.1 == i) with
      | true =>
        obtain ⟨p, hp, hpk⟩ := List.any_eq_true.1 hx
        exact ⟨p, hp, by simpa using hpk⟩
      | false =>
        exfalso
        have h1 := hk i hx
        rcases hrest i (List.mem_range.2 hio) with (h | h) | h
        · rw [h1, h] at hiu; cases hiu
        · rw [hx] at h; cases h
        · obtain ⟨p, hp, hpu⟩ := hun
          have hdir : ∀ q ∈ X, waitsFor ops i q.1 = true → listed.getD q.1 true = true := by
            intro q _ hw
            unfold waitsFor at hw
            have ho' : ops.toList[i]? = some o := by rw [← ho]; simp
            rw [ho'] at hw
            simp only [Option.map_some, Option.getD_some] at hw
            obtain ⟨e, he, hbe⟩ := Array.any_eq_true'.1 hw
            simp only [Bool.and_eq_true, beq_iff_eq] at hbe
            have h2 := hall e he hbe.1
            rw [hbe.2] at h2
            rcases Nat.lt_or_ge q.1 listed.size with h' | h'
            · simp [h'] at h2 ⊢; exact h2
            · simp [Array.getElem?_eq_none h'] at h2
          have hpl : listed.getD p.1 true = true := by
            rcases h p hp with h3 | h3
            · exact hdir p hp h3
            · exact reach_listed hinv _ i hdir p hp h3
          rw [hpl] at hpu; cases hpu
    rw [Nat.succ_add]
    refine ⟨fun h0 => ?_, fun i hi => ?_⟩
    · -- something may come up
      exfalso
      have key : ∀ (n : Nat) (p : Nat × Nat), p ∈ X → listed.getD p.1 true = false → p.1 ≤ n → False := by
        intro n
        induction n using Nat.strongRecOn with
        | ind n ihn =>
          intro p hp hpu hpn
          have hXp := hX p hp
          obtain ⟨⟨⟨h1, h2⟩, h3⟩, h4⟩ := hXp
          obtain ⟨o, ho⟩ : ∃ o, ops.toList[p.1]? = some o := ⟨ops.toList[p.1]'(by simpa using h2), List.getElem?_eq_getElem _⟩
          have ho' : ops[p.1]? = some o := by rw [← ho]; simp
          rw [ho] at h4
          simp only [Option.map_some, Option.getD_some] at h4
          have hr : p.1 ∈ Region.ready .any ops listed := by
            refine mem_ready.2 ⟨hpu, o, ho', fun e he hb => ?_⟩
            have h5 := Array.all_eq_true'.1 h4 e he
            simp only [hb, Bool.not_true, Bool.false_or, Bool.and_eq_true, decide_eq_true_eq, Bool.or_eq_true] at h5
            obtain ⟨h6, h7⟩ := h5
            have hlt : e.on < listed.size := by rw [hsz]; omega
            have hsame : listed.getD e.on false = listed.getD e.on true := by simp [hlt]
            rw [hsame]
            cases hx : X.any (·.1 == e.on) with
            | false =>
              rw [hk _ hx]
              rcases h7 with h7 | h7
              · have : e.on < listed0.size := by rw [hls]; omega
                simp [this] at h7 ⊢; exact h7
              · rw [hx] at h7; cases h7
            | true =>
              obtain ⟨q, hq, hqk⟩ := List.any_eq_true.1 hx
              rw [beq_iff_eq] at hqk
              cases hqu : listed.getD e.on true with
              | true => rfl
              | false => exact (ihn e.on (by omega) q hq (by rw [hqk]; exact hqu) (by omega)).elim
          rw [h0] at hr
          cases hr
      obtain ⟨p, hp, hpu⟩ := hun
      exact key p.1 p hp hpu (Nat.le_refl _)
    · obtain ⟨p, hp, rfl⟩ := hin i hi
      obtain ⟨hiu, o', ho', hall⟩ := mem_ready.1 hi
      obtain ⟨o, ho, hd, hw⟩ := hstep p hp
      have hoo : ops[p.1]? = some o := by rw [← ho]; simp
      obtain rfl : o' = o := Option.some.inj (ho'.symm.trans hoo)
      have hstep' := hw a w hF hE fun q hq hqw => by
        refine hG q hq ?_
        unfold waitsFor at hqw
        rw [ho] at hqw
        simp only [Option.map_some, Option.getD_some] at hqw
        obtain ⟨e, he, hbe⟩ := Array.any_eq_true'.1 hqw
        simp only [Bool.and_eq_true, beq_iff_eq] at hbe
        have h2 := hall e he hbe.1
        rw [hbe.2] at h2
        rcases Nat.lt_or_ge q.1 listed.size with h' | h'
        · simp [h'] at h2 ⊢; exact h2
        · simp [Array.getElem?_eq_none h'] at h2
      refine wpOp_mono (fun a' w' h' => ?_) (wpOp_of_list hoo hstep')
      obtain ⟨v, rfl, hEw, hGv, hDv⟩ := h'
      rw [hd]
      obtain ⟨⟨⟨h1, h2⟩, h3⟩, h4⟩ := hX p hp
      have hpl : p.1 < listed.size := by rw [hsz]; exact h2
      refine ih _ _ _ ?_ (by simpa using hsz) (fun k hx => ?_) ⟨by rw [← hF.size]; simp [Act.put], by rw [← hF.defers]; rfl, fun t ht => by rw [getD_put_other (ht p hp)]; exact hF.same t ht⟩ (Ext.trans' hE hEw) (fun q hq hql => ?_) (fun q hq q' hq' hne hql hql' => ?_) (fun q hq hql q' hq' hw' => ?_)
      · -- one less
        have hf : (X.filter fun q => !(listed.setIfInBounds p.1 true).getD q.1 true) = (X.filter fun q => !listed.getD q.1 true).filter (· != p) := by
          rw [List.filter_filter]
          apply List.filter_congr
          intro q hq
          by_cases hpq : q.1 = p.1
          · have hqp : q = p := Prod.ext hpq ((hpair' q hq p hp).1 hpq)
            subst hqp
            simp [hpl]
          · have h1 : (q != p) = true := by rw [bne_iff_ne]; exact fun e => hpq (by rw [e])
            have h2 : p.1 ≠ q.1 := fun e => hpq e.symm
            rw [h1, Bool.true_and]
            congr 1
            simp [h2]
        rw [hf, ← List.Nodup.erase_eq_filter (hnd.filter _), List.length_erase_of_mem (List.mem_filter.2 ⟨hp, by simpa using hiu⟩), hm]
        rfl
      · have hne' : p.1 ≠ k := fun e => by
          rw [List.any_eq_false] at hx
          exact hx p hp (by simpa using e)
        rw [← hk k hx]
        simp [hne']
      · by_cases hpq : q.1 = p.1
        · have h2' := (hpair' q hq p hp).1 hpq
          rw [h2', hpq, getD_put_same (by rw [hF.size]; exact h1)]
          exact hGv
        · have h2' : p.2 ≠ q.2 := fun e => hpq ((hpair' q hq p hp).2 e.symm)
          rw [getD_put_other h2']
          refine hmono q hq _ _ _ (hG q hq ?_) hEw
          have h5 : p.1 ≠ q.1 := fun e => hpq e.symm
          have h6 : (listed.setIfInBounds p.1 true).getD q.1 true = listed.getD q.1 true := by simp [h5]
          rw [h6] at hql
          exact hql
      · have hlist : ∀ r : Nat × Nat, p.1 ≠ r.1 → (listed.setIfInBounds p.1 true).getD r.1 true = listed.getD r.1 true := fun r h => by simp [h]
        by_cases hpq : q.1 = p.1
        · have h2' := (hpair' q hq p hp).1 hpq
          have h5 : p.1 ≠ q'.1 := fun e => hne (hpq.trans e)
          have h2'' : p.2 ≠ q'.2 := fun e => h5 ((hpair' p hp q' hq').2 e)
          rw [h2', hpq, getD_put_same (by rw [hF.size]; exact h1), getD_put_other h2'']
          rw [hlist q' h5] at hql'
          exact hDv q' hq' (fun e => h5 e.symm) _ (hG q' hq' hql')
        · have h3 : p.1 ≠ q.1 := fun e => hpq e.symm
          have h4' : p.2 ≠ q.2 := fun e => h3 ((hpair' p hp q hq).2 e)
          rw [hlist q h3] at hql
          by_cases hpq' : q'.1 = p.1
          · have h2' := (hpair' q' hq' p hp).1 hpq'
            rw [h2', hpq', getD_put_same (by rw [hF.size]; exact h1), getD_put_other h4']
            exact hsym _ _ _ _ (hDv q hq hpq _ (hG q hq hql))
          · have h5 : p.1 ≠ q'.1 := fun e => hpq' e.symm
            have h6 : p.2 ≠ q'.2 := fun e => h5 ((hpair' p hp q' hq').2 e)
            rw [getD_put_other h4', getD_put_other h6]
            rw [hlist q' h5] at hql'
            exact hDD q hq q' hq' hne hql hql'
      · have hset : ∀ k : Nat, listed.getD k true = true → (listed.setIfInBounds p.1 true).getD k true = true := by
          intro k hk'
          by_cases e : p.1 = k
          · subst e; simp [hpl]
          · have : (listed.setIfInBounds p.1 true).getD k true = listed.getD k true := by simp [e]
            rw [this]; exact hk'
        refine hset q'.1 ?_
        by_cases hpq : q.1 = p.1
        · rw [hpq] at hw'
          unfold waitsFor at hw'
          rw [ho] at hw'
          simp only [Option.map_some, Option.getD_some] at hw'
          obtain ⟨e, he, hbe⟩ := Array.any_eq_true'.1 hw'
          simp only [Bool.and_eq_true, beq_iff_eq] at hbe
          have h2 := hall e he hbe.1
          rw [hbe.2] at h2
          rcases Nat.lt_or_ge q'.1 listed.size with h' | h'
          · simp [h'] at h2 ⊢; exact h2
          · simp [Array.getElem?_eq_none h'] at h2
        · have h5 : p.1 ≠ q.1 := fun e => hpq e.symm
          have h6 : (listed.setIfInBounds p.1 true).getD q.1 true = listed.getD q.1 true := by simp [h5]
          rw [h6] at hql
          exact hinv q hq hql q' hq' hw'
/-- The operations X, each shown once, in whatever order; what follows is asked of whatever values they have left. -/
theorem rgFloatD (X : List (Nat × Nat)) (G : Nat → Value → World → Prop) (D : Nat → Nat → Value → Value → Prop) (k : Nat) (fuel : Nat) (hk : k = X.length + fuel) (hsym : ∀ i j v u, D i j v u → D j i u v) (hB : floatB ops listed0 a0.tmps.size X = true)
    (hmono : ∀ p ∈ X, ∀ v w w', G p.1 v w → Ext w w' → G p.1 v w')
    (hstep : ∀ p ∈ X, ∃ o, ops.toList[p.1]? = some o ∧ o.dst = some p.2 ∧ ∀ a w, FrameX a0 X a → Ext w0 w → (∀ q ∈ X, waitsFor ops p.1 q.1 = true → G q.1 (a.tmps.getD q.2 undef) w) →
      wpList P ops (Exit.then (fun a' w' => ∃ v, a' = a.put o.dst v ∧ Ext w w' ∧ G p.1 v w' ∧ ∀ q ∈ X, q.1 ≠ p.1 → ∀ u, G q.1 u w → D p.1 q.1 v u) Q) [o] a w)
    (hend : ∀ a w, FrameX a0 X a → Ext w0 w → (∀ p ∈ X, G p.1 (a.tmps.getD p.2 undef) w) → (∀ p ∈ X, ∀ q ∈ X, p.1 ≠ q.1 → D p.1 q.1 (a.tmps.getD p.2 undef) (a.tmps.getD q.2 undef)) → wpAny P .any ops Q fuel (listX X listed0) a w) :
    wpAny P .any ops Q k listed0 a0 w0 := by
  subst hk
  have hB' := hB
  unfold floatB at hB'
  simp only [Bool.and_eq_true, List.all_eq_true, decide_eq_true_eq, Bool.or_eq_true, Bool.not_eq_true', beq_iff_eq] at hB'
  obtain ⟨⟨⟨⟨_, hls⟩, _⟩, hX⟩, _⟩ := hB'
  have hall : (X.filter fun p => !listed0.getD p.1 true) = X := List.filter_eq_self.2 fun p hp => by
    have := (hX p hp).1.2
    simpa using this
  exact float_goD hsym hB hmono hstep fuel hend _ listed0 a0 w0 (by rw [hall]) hls (fun _ _ => rfl) ⟨rfl, rfl, fun _ _ => rfl⟩ (Below.refl _ _) (fun p hp h => by have := (hX p hp).1.2; rw [h] at this; cases this) (fun p hp q hq hne h => by have := (hX p hp).1.2; rw [h] at this; cases this) (fun q hq h => by have := (hX q hq).1.2; rw [h] at this; cases this)
end
end Go.Proofs.Ytkfijpghjjnpkaa
