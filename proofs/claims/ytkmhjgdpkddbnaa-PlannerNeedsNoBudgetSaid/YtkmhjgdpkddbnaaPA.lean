/-
  PA: several texts in one. No statement is proved here.
-/
import Derived.WalkKit
import Derived.WalkSpells
import Derived.WalkLawsBesides
import Derived.Lib.Hide
import Derived.Lib.AppendStr
import Derived.Deep.AppendLies
import Derived.Deep.Draws
import Derived.Maps.AppendAt
import Derived.Laws.CopyOwn
import Derived.Great.BuildSlice
import Derived.Laws.BitsAllLaws
import Derived.Deep.QuietTactic
import Derived.BigQuiet
import Derived.Stop.BytesEq
import Derived.OrdersHeld
import Derived.Lib.ConvBytes
import Derived.IntWalk
import Derived.ProofKit
import Derived.OpenShut
import Derived.Deep.Slices
import Derived.SizedLaws
import Derived.Deep.CondSized
import Derived.Laws.StructEq
import Derived.Test.YtkmhjgdpkddbnaaRows
import Derived.Laws.OwnMore
import Derived.Laws.EntriesVeiled
set_option linter.unusedVariables false
set_option linter.unusedSimpArgs false
namespace Go.Proofs.Ytkmhjgdpkddbnaa
open Go.RowKit
/-- A byte as a cell. -/
def bc (b : UInt8) : Value := .int .u8 (b.toNat : Int)
def bcs (l : List UInt8) : List Value := l.map bc
theorem bcs_length (l : List UInt8) : (bcs l).length = l.length := by simp [bcs]
/-- The facts on a slice type t of elements e that take size cells. -/
structure SlTy (P : Program) (t e : TypeId) (z : Value) (size bytes : Nat) : Prop where
  und : P.underlying t = some (.slice e)
  inf : (P.info? e).map (fun i => (i.zero, i.size, i.bytes)) = some (some z, size, bytes)
  zs : z.cells.size = size
  pos : 0 < size
/-- What a slice value of address A, length n and capacity c reads as. -/
structure Rd (w : World) (B size : Nat) (A : Option Addr) (n c : Nat) (xs : List Value) : Prop where
  len : xs.length = n * size
  le : n ≤ c
  cap : c ≤ maxLen
  cells : 0 < n * size → ∃ b off, A = some ⟨b, off, none⟩ ∧ b < B ∧ ∀ j u, xs[j]? = some u → w.cell? ⟨b, off + j, none⟩ = some u
section
variable {w w' : World} {B B' size n c : Nat} {A : Option Addr} {xs : List Value}
theorem Rd.keep (h : Rd w B size A n c xs) (hk : ∀ p : Addr, p.block < B → w'.cell? p = w.cell? p) : Rd w' B size A n c xs :=
  ⟨h.len, h.le, h.cap, fun hn => by
    obtain ⟨b, off, e, hb, hc⟩ := h.cells hn
    exact ⟨b, off, e, hb, fun j u hu => (hk _ hb).trans (hc j u hu)⟩⟩
theorem Rd.below (h : Rd w B size A n c xs) (hb : Below B w w') : Rd w' B size A n c xs := h.keep fun _ hp => hb.cell hp
theorem Rd.more (h : Rd w B size A n c xs) (hB : B ≤ B') : Rd w B' size A n c xs :=
  ⟨h.len, h.le, h.cap, fun hn => by
    obtain ⟨b, off, e, hb, hc⟩ := h.cells hn
    exact ⟨b, off, e, by omega, hc⟩⟩
theorem Rd.drew (h : Rd w B size A n c xs) : Rd w.drew B size A n c xs := ⟨h.len, h.le, h.cap, h.cells⟩
theorem Rd.alloc (h : Rd w B size A n c xs) (hB : B ≤ w.heap.size) (o : Obj) : Rd (w.alloc o) B size A n c xs :=
  h.keep fun p hp => World.cell?_alloc_lt w o p (by omega)
theorem Rd.grown (h : Rd w B size A n c xs) {row : Option Nat} (hg : w.grownBy w' row) (hB : B ≤ w.heap.size) (hr : ∀ g, row = some g → B ≤ g) : Rd w' B size A n c xs :=
  h.keep fun p hp => World.cell?_of_block (hg.block p.block (by omega) (fun e => by have := hr _ e.symm; omega))
theorem Rd.nil (w : World) (B size : Nat) : Rd w B size none 0 0 [] := ⟨by simp, Nat.le_refl _, Nat.zero_le _, fun h => absurd h (by omega)⟩
/-- 's[lo:hi]' within the length, as the model makes it. -/
theorem Rd.cut (h : Rd w B size A n c xs) {lo hi m : Nat} (h1 : lo ≤ hi) (h2 : hi ≤ n) (h3 : hi ≤ m) (h4 : m ≤ c) :
    Rd w B size (if m = lo then A else A.map (·.add (lo * size))) (hi - lo) (m - lo) ((xs.drop (lo * size)).take ((hi - lo) * size)) := by
  have hle : hi * size ≤ n * size := Nat.mul_le_mul_right _ h2
  have hlo : lo * size ≤ hi * size := Nat.mul_le_mul_right _ h1
  have hl : xs.length = n * size := h.len
  refine ⟨?_, by omega, by have := h.cap; omega, fun hn => ?_⟩
  · rw [List.length_take, List.length_drop, Nat.sub_mul, hl]; omega
  · have hlt : lo < hi := by
      rcases Nat.lt_or_ge lo hi with hh | hh
      · exact hh
      · rw [show hi - lo = 0 from by omega] at hn; simp at hn
    have hs : 0 < size := Nat.pos_of_mul_pos_left hn
    obtain ⟨b, off, rfl, hb, hc⟩ := h.cells (by have := Nat.mul_le_mul_right size (show 1 ≤ n by omega); omega)
    rw [if_neg (by omega)]
    refine ⟨b, off + lo * size, ?_, hb, fun j u hu => ?_⟩
    · simp only [Option.map_some, Addr.add]
      by_cases hz : lo * size = 0
      · rw [if_pos hz, hz]; rfl
      · rw [if_neg hz]
    · rw [Nat.add_assoc]
      refine hc _ _ ?_
      rw [List.getElem?_take] at hu
      split at hu
      · rw [← hu, List.getElem?_drop]
      · cases hu
theorem Rd.of_own {base : Nat} {e : TypeId} {v : Value} (h : w.ownsRow base e size v n xs) : ∃ A c, v = .slice A n c ∧ Rd w w.heap.size size A n c xs := by
  rcases h.2 with ⟨rfl, rfl⟩ | ⟨g, cap, cur, rfl, hb, hg, hn, hm, _⟩
  · refine ⟨none, 0, rfl, h.1, Nat.le_refl _, Nat.zero_le _, fun hh => absurd hh (by simp)⟩
  · refine ⟨some ⟨g, 0, none⟩, cap, rfl, h.1, hn, hm, fun _ => ⟨g, 0, rfl, ?_, fun j u hu => ?_⟩⟩
    · exact (h.lt g rfl).2
    · have := h.cells (g := g) rfl j u hu
      have hadd : (⟨g, 0, none⟩ : Addr).add j = ⟨g, 0 + j, none⟩ := by unfold Addr.add; split <;> simp_all
      rwa [hadd] at this
end
theorem ownsRow_below {w w' : World} {base B : Nat} {e : TypeId} {size n : Nat} {v : Value} {xs : List Value} (h : w.ownsRow base e size v n xs) (hb : Below B w w') (hs : w.heap.size ≤ B) : w'.ownsRow base e size v n xs := by
  refine h.kept (row := none) ⟨hb.os, hb.tape, hb.output, hb.size, fun k hk _ => hb.block k (by omega)⟩ ?_
  cases hv : v.ownBlock
  · exact Or.inl rfl
  · exact Or.inr (by simp)
theorem ownsRow_base {w : World} {base base' : Nat} {e : TypeId} {size n : Nat} {v : Value} {xs : List Value} (h : w.ownsRow base e size v n xs) (hb : base' ≤ base) : w.ownsRow base' e size v n xs := by
  refine ⟨h.1, ?_⟩
  rcases h.2 with h2 | ⟨g, cap, cur, hv, hg, r⟩
  · exact Or.inl h2
  · exact Or.inr ⟨g, cap, cur, hv, by omega, r⟩
theorem wn {o : Oper} {y : Nat → Option Bool} (h : o.guard = none) : Region.wanted o y = true := by simp [Region.wanted, h]
theorem wpList_want {P : Program} {ops : Array Oper} {Q : Exit → Act → World → Prop} {a : Act} {w : World} {rest : List Oper} {o : Oper} (hw : Region.wanted o (yielded ops a.tmps) = true)
    (h : ∀ K : Act → World → Prop, (∀ a w, wpList P ops Q rest a w → K a w) → o.wp P a w K Q) : wpList P ops Q (o :: rest) a w :=
  wpList_step fun K hK => by rw [if_pos hw]; exact h K hK
section
variable {P : Program} {w w0 : World} {ops : Array Oper} {rest : List Oper} {o : Oper} {a : Act} {Q : Exit → Act → World → Prop}
end
/-- The facts on a struct or array type ty of n cells whose zero value has the cells z. -/
structure AgTy (P : Program) (ty : TypeId) (z : Array Value) (n : Nat) : Prop where
  agg : ((P.underlying ty).map fun d => match d with | .struct _ | .array _ _ => true | _ => false) = some true
  inf : (P.info? ty).map (fun i => (i.zero.map Value.cells, i.size)) = some (some z, n)
  zs : z.size = n
section
variable {P : Program} {w : World} {ops : Array Oper} {rest : List Oper} {o : Oper} {a : Act} {Q : Exit → Act → World → Prop}
theorem run_isAgg {ty : TypeId} {z : Array Value} {n : Nat} (T : AgTy P ty z n) (w : World) : (isAgg ty).run P w = .ok true w := by
  obtain ⟨d, hd, h2⟩ := Option.map_eq_some_iff.1 T.agg
  unfold isAgg
  rw [Sem.run_bind, run_underlying hd w]
  cases d <;> simp_all
theorem AgTy.parts {ty : TypeId} {z : Array Value} {n : Nat} (T : AgTy P ty z n) : ∃ i, P.info? ty = some i ∧ i.zero.map Value.cells = some z ∧ i.size = n := by
  obtain ⟨i, hi, hzz⟩ := Option.map_eq_some_iff.1 T.inf
  simp only [Prod.mk.injEq] at hzz
  exact ⟨i, hi, hzz.1, hzz.2⟩
theorem run_loadAgg {ty : TypeId} {z : Array Value} {n : Nat} (T : AgTy P ty z n) (b off : Nat) (cs : List Value) (hl : cs.length = n) (hc : ∀ j u, cs[j]? = some u → w.cell? ⟨b, off + j, none⟩ = some u) :
    (loadVar ty ⟨b, off, none⟩).run P w = .ok (.agg cs.toArray) w := by
  obtain ⟨i, hi, _, hs⟩ := T.parts
  have hload := run_loadCells_list (P := P) w ⟨b, off, none⟩ cs (fun j v hv => by
    have hadd : (⟨b, off, none⟩ : Addr).add j = ⟨b, off + j, none⟩ := by unfold Addr.add; split <;> simp_all
    rw [hadd]; exact hc j v hv)
  rw [hl] at hload
  simp [loadVar, Sem.run_bind, run_isAgg T, sizeOf, typeInfo, hi, hs, hload]
/-- A struct or an array is loaded whole. -/
theorem ldAgg {ty : TypeId} {z : Array Value} {n b off : Nat} (x : Operand) (cs : List Value) (T : AgTy P ty z n) (hgd : Region.wanted o (yielded ops a.tmps) = true) (ho : o.op = .load ty x)
    (hx : a.eval x = .pointer (some ⟨b, off, none⟩)) (hl : cs.length = n) (hc : ∀ j u, cs[j]? = some u → w.cell? ⟨b, off + j, none⟩ = some u)
    (h : wpList P ops Q rest (a.put o.dst (.agg cs.toArray)) w) : wpList P ops Q (o :: rest) a w := by
  refine wpList_want hgd fun K hK => ?_
  unfold Oper.wp execOp
  simp only [ho, hx, Instr.loadAt, Instr.sureAddr, Sem.run_bind, Sem.run_pure, Result.andThen_ok, run_loadAgg T b off cs hl hc]
  exact hK _ _ h
/-- A new variable of a struct or array type. -/
theorem alAgg {ty : TypeId} {z : Array Value} {n : Nat} (T : AgTy P ty z n) (hgd : Region.wanted o (yielded ops a.tmps) = true) (ho : o.op = .alloc ty)
    (h : wpList P ops Q rest (a.put o.dst (.pointer (some ⟨w.heap.size, 0, none⟩))) (w.alloc (.cells z ty))) : wpList P ops Q (o :: rest) a w := by
  obtain ⟨i, hi, hz, _⟩ := T.parts
  obtain ⟨zv, hzv, hzc⟩ := Option.map_eq_some_iff.1 hz
  refine wpList_want hgd fun K hK => ?_
  unfold Oper.wp execOp
  simp only [ho]
  have hr : (Instr.alloc ty true (.tuple #[])).run P w = .ok (.pointer (some ⟨w.heap.size, 0, none⟩)) (w.alloc (.cells z ty)) := by
    simp [Instr.alloc, zeroValue, typeInfo, hi, hzv, newVar, newRow, hzc]
  simp only [Sem.run_bind, Sem.run_pure, hr, Result.andThen_ok]
  exact hK _ _ h
theorem run_storeAgg {ty : TypeId} {z : Array Value} {n g : Nat} (T : AgTy P ty z n) {cur cs : Array Value} {t : TypeId} (hg : w.heap[g]? = some (.cells cur t (0, 0))) (hs : cur.size = n) (hl : cs.size = n) (h1 : ∀ u ∈ cs, u.oneCell' = true) :
    (storeVar ty ⟨g, 0, none⟩ (.agg cs)).run P w = .ok () (w.setRow g cs) := by
  obtain ⟨i, hi, _, hs'⟩ := T.parts
  have hst := run_storeCells_at P g 0 t cs.toList 0 cur w hg (by simp; omega) (by intro v hv; exact h1 v (by simpa using hv))
  simp only [Nat.zero_add, List.take_zero, List.nil_append, Array.length_toList] at hst
  rw [List.drop_of_length_le (by simp; omega), List.append_nil, Array.toArray_toList] at hst
  simp [storeVar, sizeOf, typeInfo, hi, hs', Value.cells, hl, hst]
end
/-- One result that lies in memory. -/
theorem res_cell1 {P : Program} {w : World} {fn : Func} {p : Tmp} {ty : TypeId} {z : Array Value} {n b off : Nat} (cs : List Value) (h : fn.results = #[.cell p ty]) (T : AgTy P ty z n) (tmps : Array Value)
    (hp : tmps.getD p undef = .pointer (some ⟨b, off, none⟩)) (hl : cs.length = n) (hc : ∀ j u, cs[j]? = some u → w.cell? ⟨b, off + j, none⟩ = some u) :
    (results fn tmps).run P w = .ok (.agg cs.toArray) w := by
  have hr := run_loadAgg (P := P) (w := w) T b off cs hl hc
  have hp' : tmps[p]?.getD undef = .pointer (some ⟨b, off, none⟩) := by simpa using hp
  simp only [results, h]
  simp [hp', asAddr, hr]
/-- A call that returns a new row. -/
def RetRow (w : World) (e : TypeId) (size n : Nat) (xs : List Value) (en : Ending) (w' : World) : Prop :=
  ∃ v, en = .returned v ∧ w'.ownsRow w.heap.size e size v n xs ∧ Below w.heap.size w w'
theorem RetRow.open {w : World} {e : TypeId} {size n : Nat} {xs : List Value} {en : Ending} {w' : World} (h : RetRow w e size n xs en w') :
    ∃ A c, en = .returned (.slice A n c) ∧ w'.ownsRow w.heap.size e size (.slice A n c) n xs ∧ Rd w' w'.heap.size size A n c xs ∧ Below w.heap.size w w' := by
  obtain ⟨v, rfl, hown, hb⟩ := h
  obtain ⟨A, c, rfl, hr⟩ := Rd.of_own hown
  exact ⟨A, c, rfl, hown, hr, hb⟩
section
variable {P : Program} {w : World} {ops : Array Oper} {rest : List Oper} {o : Oper} {a : Act} {Q : Exit → Act → World → Prop}
end
end Go.Proofs.Ytkmhjgdpkddbnaa
namespace Go.Proofs.Ytkmhjgdpkddbnaa
open Go.RowKit
theorem ofInt_i64 (a : Nat) (ha : a < 9223372036854775808) : (BitVec.ofInt 64 (a : Int)).toNat = a := by
  rw [BitVec.ofInt_natCast, BitVec.toNat_ofNat]; exact Nat.mod_eq_of_lt (by omega)
theorem i64_and_n (a b : Nat) (ha : a < 9223372036854775808) (hb : b < 9223372036854775808) : bits .and .i64 (a : Int) (b : Int) = ((a &&& b : Nat) : Int) := by
  have hx : a &&& b < 2 ^ 63 := Nat.and_lt_two_pow _ (by omega)
  show IntKind.i64.wrap ((BitVec.ofInt 64 (a : Int) &&& BitVec.ofInt 64 (b : Int)).toNat : Int) = _
  rw [BitVec.toNat_and, ofInt_i64 a ha, ofInt_i64 b hb, IntKind.wrap_i64]
  omega
theorem i64_or_n (a b : Nat) (ha : a < 9223372036854775808) (hb : b < 9223372036854775808) : bits .or .i64 (a : Int) (b : Int) = ((a ||| b : Nat) : Int) := by
  have hx : a ||| b < 2 ^ 63 := Nat.or_lt_two_pow (by omega) (by omega)
  show IntKind.i64.wrap ((BitVec.ofInt 64 (a : Int) ||| BitVec.ofInt 64 (b : Int)).toNat : Int) = _
  rw [BitVec.toNat_or, ofInt_i64 a ha, ofInt_i64 b hb, IntKind.wrap_i64]
  omega
end Go.Proofs.Ytkmhjgdpkddbnaa
namespace Go.Proofs.Ytkmhjgdpkddbnaa
open Go.RowKit
section
variable {P : Program} {w : World} {ops : Array Oper} {rest : List Oper} {o : Oper} {a : Act} {Q : Act → Prop}
end
end Go.Proofs.Ytkmhjgdpkddbnaa
namespace Go.Proofs.Ytkmhjgdpkddbnaa
open Go.RowKit
end Go.Proofs.Ytkmhjgdpkddbnaa
namespace Go.Proofs.Ytkmhjgdpkddbnaa
open Go.RowKit
end Go.Proofs.Ytkmhjgdpkddbnaa
namespace Go.Proofs.Ytkmhjgdpkddbnaa
open Go.RowKit
/-- Block b holds an array (or what a struct is made of) with the cells cur. -/
def Arr (w : World) (b : Nat) (t : TypeId) (cur : List Value) : Prop := w.heap[b]? = some (.cells cur.toArray t (0, 0))
section
variable {w w' : World} {b b' i : Nat} {t : TypeId} {cur : List Value} {v : Value}
theorem Arr.cell (h : Arr w b t cur) (hi : cur[i]? = some v) : w.cell? ⟨b, i, none⟩ = some v := by
  unfold World.cell?
  rw [show w.heap[(⟨b, i, none⟩ : Addr).block]? = some (.cells cur.toArray t (0, 0)) from h]
  simpa using hi
theorem Arr.thaw (h : Arr w b t cur) (i : Nat) : w.frozen? ⟨b, i, none⟩ = false := by
  unfold World.frozen?
  rw [show w.heap[(⟨b, i, none⟩ : Addr).block]? = some (.cells cur.toArray t (0, 0)) from h]
  simp
theorem Arr.lt (h : Arr w b t cur) : b < w.heap.size := (Array.getElem?_eq_some_iff.1 h).1
theorem Arr.drew (h : Arr w b t cur) : Arr w.drew b t cur := h
theorem Arr.new (w : World) (t : TypeId) (cur : List Value) : Arr (w.alloc (.cells cur.toArray t)) w.heap.size t cur := heap_alloc_new w _
theorem Arr.alloc (h : Arr w b t cur) (o : Obj) : Arr (w.alloc o) b t cur := by
  have hb := h.lt
  unfold Arr at h ⊢
  rw [← h]
  unfold World.alloc
  simp [Array.getElem?_push, Nat.ne_of_lt hb]
theorem Arr.set (h : Arr w b t cur) (i : Nat) (v : Value) : Arr (w.setCell ⟨b, i, none⟩ v) b t (cur.set i v) := by
  unfold Arr at h ⊢
  unfold World.setCell
  simp [Array.getElem?_modify, h]
theorem Arr.other (h : Arr w b t cur) (hne : b' ≠ b) (i : Nat) (v : Value) : Arr (w.setCell ⟨b', i, none⟩ v) b t cur := by
  unfold Arr at h ⊢
  unfold World.setCell
  simp [Array.getElem?_modify, hne, h]
theorem Arr.below {B : Nat} (h : Arr w b t cur) (hb : Below B w w') (hB : b < B) : Arr w' b t cur := by
  unfold Arr at h ⊢
  rw [← h]
  exact hb.block b hB
theorem Arr.setRow (h : Arr w b t cur) (cs : List Value) : Arr (w.setRow b cs.toArray) b t cs := setRow_heap w b _ _ t _ h
end
section
variable {P : Program} {w : World} {ops : Array Oper} {rest : List Oper} {o : Oper} {a : Act} {Q : Exit → Act → World → Prop} {ty : TypeId} {n b : Nat}
/-- A new variable of a struct or array type, in a world of which nothing else is told. -/
theorem alArr {z : List Value} (T : AgTy P ty z.toArray n) (hgd : Region.wanted o (yielded ops a.tmps) = true) (ho : o.op = .alloc ty)
    (h : ∀ w', Arr w' w.heap.size ty z → Below w.heap.size w w' → wpList P ops Q rest (a.put o.dst (.pointer (some ⟨w.heap.size, 0, none⟩))) w') : wpList P ops Q (o :: rest) a w :=
  alAgg T hgd ho (h _ (Arr.new w ty z) ((Below.refl _ _).alloc (Nat.le_refl _) _))
theorem ldArr {z : Array Value} {cur : List Value} (x : Operand) (T : AgTy P ty z n) (hgd : Region.wanted o (yielded ops a.tmps) = true) (ho : o.op = .load ty x)
    (hx : a.eval x = .pointer (some ⟨b, 0, none⟩)) (hl : cur.length = n) {t : TypeId} (hA : Arr w b t cur)
    (h : wpList P ops Q rest (a.put o.dst (.agg cur.toArray)) w) : wpList P ops Q (o :: rest) a w :=
  ldAgg x cur T hgd ho hx hl (fun j u hu => by rw [Nat.zero_add]; exact hA.cell hu) h
/-- A parameter of a struct or array type, boxed. -/
theorem bxArr {cs : List Value} {ty : TypeId} (x : Operand) (hgd : Region.wanted o (yielded ops a.tmps) = true) (ho : o.op = .box ty x) (hx : a.eval x = .agg cs.toArray)
    (h : ∀ w', Arr w' w.heap.size ty cs → Below w.heap.size w w' → wpList P ops Q rest (a.put o.dst (.pointer (some ⟨w.heap.size, 0, none⟩))) w') : wpList P ops Q (o :: rest) a w := by
  refine wpList_want hgd fun K hK => ?_
  unfold Oper.wp execOp
  have hr : (Instr.box ty (.agg cs.toArray)).run P w = .ok (.pointer (some ⟨w.heap.size, 0, none⟩)) (w.alloc (.cells cs.toArray ty)) := by
    simp [Instr.box, newVar, newRow, Value.cells]
  simp only [ho, hx, Sem.run_bind, Sem.run_pure, hr, Result.andThen_ok]
  exact hK _ _ (h _ (Arr.new w ty cs) ((Below.refl _ _).alloc (Nat.le_refl _) _))
end
end Go.Proofs.Ytkmhjgdpkddbnaa
namespace Go.Proofs.Ytkmhjgdpkddbnaa
open Go.RowKit
/-- Number i may be taken first. -/
def mayFirst (ops : Array Oper) (listed : Array Bool) (i : Nat) : Bool :=
  Region.noSelect ops && Region.free .any ops listed i && (Region.ready .any ops listed).contains i
section
variable {P : Program} {ops : Array Oper} {Q : Exit → Act → World → Prop} {S : World → Prop} {listed : Array Bool} {a : Act} {w : World} {fuel : Nat}
theorem rgStart {id : Nat} (S : World → Prop) (hm : P.follows .mixedOrders = true) (h : wpAnyH P .any ops Q S ops.size (Array.replicate ops.size false) a w.drew) : (Code.region id ops true).wp P Q a w :=
  wp_region_held hm h
theorem wpOp_of_list {i : Nat} {o : Oper} {K : Act → World → Prop} (hi : ops[i]? = some o) (h : wpList P ops (Exit.then K Q) [o] a w) : wpOp P ops Q i K a w := by
  unfold wpOp
  simp only [hi]
  unfold wpList at h
  split
  · rename_i hw
    rw [if_pos hw] at h
    refine h.imp (fun h => ?_) (fun h => ⟨h.1, h.2⟩)
    unfold Oper.wp at h ⊢
    generalize (execOp a.eval o).run P w = r at h ⊢
    cases r with
    | ok n w' =>
      cases n <;> simp only [Oper.upon] at h ⊢
      case value v => exact h
      case skip => exact h
      case defer d => exact h
      case enter f args =>
        refine h.mono fun e w'' he => ?_
        cases e with
        | returned u => exact he
        | panicked c => exact he
        | outgrown => exact he
      case row row args => exact h.mono fun _ _ he => he
    | halt x w' => cases x <;> simp only [Oper.upon] at h ⊢; exact h
  · rename_i hw
    rw [if_neg hw] at h
    exact h
/-- An operation taken first. -/
theorem rgTake {i : Nat} {o : Oper} {v : Value} (hi' : ops.toList[i]? = some o) (hm : mayFirst ops listed i = true) (hw : Region.wanted o (yielded ops a.tmps) = true)
    (hQ : ∀ c a w, Q (.panic c) (a.put o.dst v) w → Q (.panic c) a w) (hy : ∀ w, S w → (execOp a.eval o).run P w = .ok (.value v) w) (hS : S w)
    (h : wpAnyH P .any ops Q S fuel (listed.setIfInBounds i true) (a.put o.dst v) w) : wpAnyH P .any ops Q S (fuel + 1) listed a w := by
  have hi : ops[i]? = some o := by rw [← hi']; simp
  simp only [mayFirst, Bool.and_eq_true] at hm
  exact wpAnyH_take hi hm.1.1 hm.1.2 hm.2 hQ (Or.inl ⟨hw, hy⟩) hS h
/-- The one that comes up next. -/
theorem rgNext {i : Nat} {o : Oper} (hr : Region.ready .any ops listed = [i]) (hi' : ops.toList[i]? = some o)
    (h : wpList P ops (Exit.then (fun a' w' => S w' ∧ wpAnyH P .any ops Q S fuel (listed.setIfInBounds i true) a' w') Q) [o] a w) : wpAnyH P .any ops Q S (fuel + 1) listed a w := by
  have hi : ops[i]? = some o := by rw [← hi']; simp
  refine wpAnyH_all hr (by simp) fun j hj => ?_
  rw [List.mem_singleton] at hj
  subst hj
  exact wpOp_of_list hi h
theorem rgDone (hr : Region.ready .any ops listed = []) (h : Q .normal a w) : wpAnyH P .any ops Q S fuel listed a w := wpAnyH_done hr h _
end
end Go.Proofs.Ytkmhjgdpkddbnaa
namespace Go.Proofs.Ytkmhjgdpkddbnaa
open Go.RowKit
/-- cur with cs laid from place off on. -/
def spl (cur : List Value) (off : Nat) (cs : List Value) : List Value := cur.take off ++ cs ++ cur.drop (off + cs.length)
theorem spl_at {cur cs : List Value} {off j : Nat} (h : off + cs.length ≤ cur.length) : (spl cur off cs)[j]? = if j < off then cur[j]? else if j < off + cs.length then cs[j - off]? else cur[j]? := by
  unfold spl
  have hl : (cur.take off).length = off := by rw [List.length_take]; omega
  by_cases h1 : j < off
  · rw [if_pos h1, List.append_assoc, List.getElem?_append_left (by omega), List.getElem?_take, if_pos h1]
  · rw [if_neg h1]
    by_cases h2 : j < off + cs.length
    · rw [if_pos h2, List.append_assoc, List.getElem?_append_right (by omega), hl, List.getElem?_append_left (by omega)]
    · rw [if_neg h2, List.getElem?_append_right (by rw [List.length_append]; omega), List.length_append, hl, List.getElem?_drop]
      congr 1; omega
section
variable {P : Program} {w : World} {ops : Array Oper} {rest : List Oper} {o : Oper} {a : Act} {Q : Exit → Act → World → Prop} {g off : Nat} {t : TypeId} {cur : List Value}
theorem run_storeCells_spl (hA : Arr w g t cur) (cs : List Value) (hfit : off + cs.length ≤ cur.length) (h1 : ∀ u ∈ cs, u.oneCell' = true) :
    (storeCells ⟨g, off, none⟩ cs).run P w = .ok () (w.setRow g (spl cur off cs).toArray) := by
  have hst := run_storeCells_at P g off t cs 0 cur.toArray w hA (by rw [List.size_toArray]; omega) h1
  rw [hst]
  simp [spl]
/-- An operation whose value is known. -/
theorem opVal {v : Value} (hgd : Region.wanted o (yielded ops a.tmps) = true) (hrun : (execOp a.eval o).run P w = .ok (.value v) w) (h : wpList P ops Q rest (a.put o.dst v) w) : wpList P ops Q (o :: rest) a w := by
  refine wpList_want hgd fun K hK => ?_
  unfold Oper.wp
  rw [hrun]
  exact hK _ _ h
theorem add_off (b off k : Nat) : (⟨b, off, none⟩ : Addr).add k = ⟨b, off + k, none⟩ := by unfold Addr.add; split <;> simp_all
end
end Go.Proofs.Ytkmhjgdpkddbnaa
namespace Go.Proofs.Ytkmhjgdpkddbnaa
open Go.RowKit
/-- Operation k waits for operation i. -/
def waitsFor (ops : Array Oper) (k i : Nat) : Bool := ((ops.toList[k]?).map fun o => o.after.any fun e => Region.binds .any e && e.on == i).getD false
/-- The frame a, the slots of X aside. -/
structure FrameX (a0 : Act) (X : List (Nat × Nat)) (a : Act) : Prop where
  size : a.tmps.size = a0.tmps.size
  defers : a.defers = a0.defers
  same : ∀ t, (∀ p ∈ X, p.2 ≠ t) → a.tmps.getD t undef = a0.tmps.getD t undef
theorem FrameX.eval {a0 a : Act} {X : List (Nat × Nat)} (h : FrameX a0 X a) (t : Nat) (ht : (X.all fun p => !(p.2 == t)) = true) : a.eval (.tmp t) = a0.eval (.tmp t) := by
  have := h.same t (fun p hp e => by have := List.all_eq_true.1 ht p hp; simp [e] at this)
  simpa [Act.eval] using this
section
variable {P : Program} {ops : Array Oper} {Q : Exit → Act → World → Prop} {X : List (Nat × Nat)} {G : Nat → Value → World → Prop} {a0 : Act} {w0 : World} {listed0 : Array Bool}
theorem getD_put_same {a : Act} {d : Nat} {v : Value} (h : d < a.tmps.size) : (a.put (some d) v).tmps.getD d undef = v := by simp [Act.put, h]
theorem getD_put_other {a : Act} {d t : Nat} {v : Value} (h : d ≠ t) : (a.put (some d) v).tmps.getD t undef = a.tmps.getD t undef := by simp [Act.put, h]
end
/-- Function f has a text of its own. -/
def callable (P : Program) (f : FuncId) : Bool := match P.funcs[f]? with
  | some fn => !(fn.name == "runtime.NumGoroutine") && fn.body.isSome
  | none => false
/-- A call of a Go function. -/
theorem callOp {P : Program} {w : World} {ops : Array Oper} {rest : List Oper} {o : Oper} {a : Act} {Q : Exit → Act → World → Prop} {c : Operand} {args : Array Operand} {argTypes : Array TypeId} (f : FuncId) (vals first caps : List Value)
    (hf : callable P f = true) (hgd : Region.wanted o (yielded ops a.tmps) = true) (ho : o.op = .call { callee := .value c, args, argTypes }) (hc : a.eval c = .func (.func f) first.toArray caps.toArray) (hargs : args.toList.map a.eval = vals)
    (h : Calls P f (first ++ vals ++ caps).toArray w (fun e w' => ∃ v, e = .returned v ∧ wpList P ops Q rest (a.put o.dst v) w')) : wpList P ops Q (o :: rest) a w := by
  unfold callable at hf
  cases hfn : P.funcs[f]? with
  | none => rw [hfn] at hf; cases hf
  | some fn =>
    rw [hfn] at hf
    simp only [Bool.and_eq_true, Bool.not_eq_true', beq_eq_false_iff_ne] at hf
    obtain ⟨h1, h2⟩ := hf
    obtain ⟨b, hb⟩ := Option.isSome_iff_exists.1 h2
    refine wpList_want hgd fun K hK => ?_
    unfold Oper.wp execOp
    have hargs' : args.map a.eval = vals.toArray := by
      apply Array.ext'
      rw [Array.toList_map, hargs]
    have hrun : ∀ vs, (callFunc f vs).run P w = .ok (.enter f vs) w := fun vs => by simp [callFunc, hfn, h1, hb]
    have happ : first.toArray ++ vals.toArray ++ caps.toArray = (first ++ vals ++ caps).toArray := by simp
    simp only [ho, resolve, hc, Deferred.ofValue, invoke, Sem.run_bind, Sem.run_pure, Result.andThen_ok, hargs', hrun, Oper.upon, happ]
    refine h.mono fun e w' ⟨v, he, hw⟩ => ?_
    subst he
    exact hK _ _ hw
end Go.Proofs.Ytkmhjgdpkddbnaa
namespace Go.Proofs.Ytkmhjgdpkddbnaa
open Go.RowKit
section
variable {P : Program} {w : World} {o : Oper} {a : Act} {t ty : TypeId} {A B C : Int}
theorem addRun (x y : Operand) (ho : o.op = .binOp .add t x y ty) (hx : a.eval x = .int .i64 A) (hy : a.eval y = .int .i64 B) (hC : A + B = C) (h : -9223372036854775808 ≤ C ∧ C ≤ 9223372036854775807) : (execOp a.eval o).run P w = .ok (.value (.int .i64 C)) w := by
  have hw := IntWalk.i64_in C h
  unfold execOp
  simp [ho, hx, hy, eqGuard, binOp_add, Op.intArith, hC, hw]
theorem subRun (x y : Operand) (ho : o.op = .binOp .sub t x y ty) (hx : a.eval x = .int .i64 A) (hy : a.eval y = .int .i64 B) (hC : A - B = C) (h : -9223372036854775808 ≤ C ∧ C ≤ 9223372036854775807) : (execOp a.eval o).run P w = .ok (.value (.int .i64 C)) w := by
  have hw := IntWalk.i64_in C h
  unfold execOp
  simp [ho, hx, hy, eqGuard, binOp_sub, Op.intArith, hC, hw]
theorem mulRun (x y : Operand) (ho : o.op = .binOp .mul t x y ty) (hx : a.eval x = .int .i64 A) (hy : a.eval y = .int .i64 B) (hC : A * B = C) (h : -9223372036854775808 ≤ C ∧ C ≤ 9223372036854775807) : (execOp a.eval o).run P w = .ok (.value (.int .i64 C)) w := by
  have hw := IntWalk.i64_in C h
  unfold execOp
  simp [ho, hx, hy, eqGuard, binOp_mul, Op.intArith, hC, hw]
end
end Go.Proofs.Ytkmhjgdpkddbnaa
namespace Go.Proofs.Ytkmhjgdpkddbnaa
open Go.RowKit
section
variable {P : Program} {w : World} {o : Oper} {a : Act} {t ty src dst : TypeId} {A B C : Int} {k : IntKind}
/-- 'int(x)'. -/
theorem convIntRun (x : Operand) (hs : (P.underlying src).isSome = true) (hd : P.underlying dst = some (.int .i64)) (ho : o.op = .convert src dst x) (hx : a.eval x = .int k A) (h : -9223372036854775808 ≤ A ∧ A ≤ 9223372036854775807) : (execOp a.eval o).run P w = .ok (.value (.int .i64 A)) w := by
  have hw := IntWalk.i64_in A h
  have hk : P.intKind dst = .i64 := by simp [Program.intKind, hd]
  have hr := run_convert_int (P := P) w src dst k A hs (by rw [hk]; exact hd)
  rw [hk, hw] at hr
  unfold execOp
  simp only [ho, hx, Sem.run_bind, Sem.run_pure, hr, Result.andThen_ok]
end
end Go.Proofs.Ytkmhjgdpkddbnaa
namespace Go.Proofs.Ytkmhjgdpkddbnaa
open Go.RowKit Go.ChangeShapes Go.WideShapes
section
variable {H : Type} {enc : TypeId × Value → H} {P : Program} {w : World} {base : Nat} {held : Bool}
end
end Go.Proofs.Ytkmhjgdpkddbnaa
namespace Go.Proofs.Ytkmhjgdpkddbnaa
open Go.RowKit
/-- Block g holds the bytes l from its head on, and none of them is frozen. -/
def BRow (w : World) (g : Nat) (l : List UInt8) : Prop :=
  ∃ (cur : Array Value) (t : TypeId) (fr : Nat × Nat), w.heap[g]? = some (.cells cur t fr) ∧ l.length ≤ fr.1 ∧ ∀ (j : Nat) (u : Value), (bcs l)[j]? = some u → cur[j]? = some u
section
variable {w w' : World} {g B : Nat} {l : List UInt8}
theorem BRow.lt (h : BRow w g l) : g < w.heap.size := by
  obtain ⟨cur, t, fr, h1, _⟩ := h
  exact (Array.getElem?_eq_some_iff.1 h1).1
theorem BRow.below (h : BRow w g l) (hb : Below B w w') (hB : g < B) : BRow w' g l := by
  obtain ⟨cur, t, fr, h1, h2⟩ := h
  exact ⟨cur, t, fr, (hb.block g hB).trans h1, h2⟩
theorem BRow.drew (h : BRow w g l) : BRow w.drew g l := h
theorem BRow.cell (h : BRow w g l) {j : Nat} {u : Value} (hj : (bcs l)[j]? = some u) : w.cell? ⟨g, j, none⟩ = some u := by
  obtain ⟨cur, t, fr, h1, _, h3⟩ := h
  unfold World.cell?
  rw [show w.heap[(⟨g, j, none⟩ : Addr).block]? = some (.cells cur t fr) from h1]
  simpa using h3 j u hj
theorem BRow.thaw (h : BRow w g l) {j : Nat} (hj : j < l.length) : w.frozen? ⟨g, j, none⟩ = false := by
  obtain ⟨cur, t, fr, h1, h2, _⟩ := h
  unfold World.frozen?
  rw [show w.heap[(⟨g, j, none⟩ : Addr).block]? = some (.cells cur t fr) from h1]
  simp
  omega
theorem BRow.set (h : BRow w g l) {j : Nat} (hj : j < l.length) (x : UInt8) : BRow (w.setCell ⟨g, j, none⟩ (bc x)) g (l.set j x) := by
  obtain ⟨cur, t, fr, h1, h2, h3⟩ := h
  refine ⟨cur.setIfInBounds j (bc x), t, fr, ?_, by rw [List.length_set]; exact h2, fun i u hu => ?_⟩
  · unfold World.setCell
    simp [Array.getElem?_modify, h1]
  · have hlen : j < cur.size := by
      obtain ⟨u0, hu0⟩ : ∃ u0, (bcs l)[j]? = some u0 := ⟨_, List.getElem?_eq_getElem (by rw [bcs_length]; exact hj)⟩
      exact (Array.getElem?_eq_some_iff.1 (h3 j u0 hu0)).1
    have e : bcs (l.set j x) = (bcs l).set j (bc x) := by unfold bcs; rw [List.map_set]
    rw [e, List.getElem?_set] at hu
    rw [Array.getElem?_setIfInBounds]
    by_cases hij : j = i
    · subst hij
      rw [if_pos rfl] at hu ⊢
      rw [if_pos hlen]
      rw [if_pos (by rw [bcs_length]; exact hj)] at hu
      exact hu
    · rw [if_neg hij] at hu ⊢
      exact h3 i u hu
theorem BRow.rd (h : BRow w g l) {c : Nat} (hc : l.length ≤ c) (hm : c ≤ maxLen) (hB : g < B) : Rd w B 1 (some ⟨g, 0, none⟩) l.length c (bcs l) :=
  ⟨by rw [bcs_length, Nat.mul_one], hc, hm, fun _ => ⟨g, 0, rfl, hB, fun j u hu => by rw [Nat.zero_add]; exact h.cell hu⟩⟩
end
end Go.Proofs.Ytkmhjgdpkddbnaa
namespace Go.Proofs.Ytkmhjgdpkddbnaa
open Go.RowKit
/-- Operation k waits for operation p, or for one of D that does. -/
def reachD (ops : Array Oper) (D : List Nat) : Nat → Nat → Nat → Bool
  | 0, k, p => waitsFor ops k p
  | f + 1, k, p => waitsFor ops k p || D.any fun q => waitsFor ops k q && reachD ops D f q p
def closedD (ops : Array Oper) (D : List Nat) (listed : Array Bool) : Bool := D.all fun q => !listed.getD q true || D.all fun p => !waitsFor ops q p || listed.getD p true
theorem closedD_spec {ops : Array Oper} {D : List Nat} {listed : Array Bool} (h : closedD ops D listed = true) {q p : Nat} (hq : q ∈ D) (hp : p ∈ D) (hl : listed.getD q true = true) (hw : waitsFor ops q p = true) : listed.getD p true = true := by
  have h1 := List.all_eq_true.1 h q hq
  rw [hl] at h1
  have h2 := List.all_eq_true.1 (by simpa using h1 : (D.all fun p => !waitsFor ops q p || listed.getD p true) = true) p hp
  rw [hw] at h2
  simpa using h2
theorem reachD_listed {ops : Array Oper} {D : List Nat} {listed : Array Bool} (hc : closedD ops D listed = true) {p : Nat} (hp : p ∈ D) :
    ∀ (f k : Nat), (∀ q ∈ D, waitsFor ops k q = true → listed.getD q true = true) → reachD ops D f k p = true → listed.getD p true = true
  | 0, _, hk, h => hk p hp h
  | f + 1, k, hk, h => by
    unfold reachD at h
    rw [Bool.or_eq_true] at h
    rcases h with h | h
    · exact hk p hp h
    · obtain ⟨q, hq, h2⟩ := List.any_eq_true.1 h
      rw [Bool.and_eq_true] at h2
      exact reachD_listed hc hp f q (fun r hr hw => closedD_spec hc hq hr (hk q hq h2.1) hw) h2.2
theorem waits_ready {ops : Array Oper} {listed : Array Bool} {j q : Nat} (hj : j ∈ Region.ready .any ops listed) (hw : waitsFor ops j q = true) : listed.getD q true = true := by
  obtain ⟨_, oj, hoj, hall⟩ := mem_ready.1 hj
  unfold waitsFor at hw
  rw [show ops.toList[j]? = some oj by rw [← hoj]; simp] at hw
  simp only [Option.map_some, Option.getD_some] at hw
  obtain ⟨e, he, hb⟩ := Array.any_eq_true'.1 hw
  simp only [Bool.and_eq_true, beq_iff_eq] at hb
  have h1 := hall e he hb.1
  rw [hb.2] at h1
  rcases Nat.lt_or_ge q listed.size with h' | h'
  · simp [h'] at h1 ⊢
    exact h1
  · simp [h']
theorem closedD_set {ops : Array Oper} {D : List Nat} {listed : Array Bool} {j : Nat} (hc : closedD ops D listed = true) (hj : j ∈ Region.ready .any ops listed) : closedD ops D (listed.setIfInBounds j true) = true := by
  refine List.all_eq_true.2 fun q hq => ?_
  cases hl : (listed.setIfInBounds j true).getD q true with
  | false => rfl
  | true =>
    simp only [Bool.not_true, Bool.false_or]
    refine List.all_eq_true.2 fun p hp => ?_
    cases hw : waitsFor ops q p with
    | false => rfl
    | true =>
      simp only [Bool.not_true, Bool.false_or]
      by_cases hpj : p = j
      · subst hpj
        by_cases hlt : p < listed.size
        · simp [hlt]
        · simp [hlt]
      · rw [getD_set_ne true (Ne.symm hpj)]
        by_cases hqj : q = j
        · subst hqj; exact waits_ready hj hw
        · rw [getD_set_ne true (Ne.symm hqj)] at hl
          exact closedD_spec hc hq hp hl hw
section
variable {P : Program} {ops : Array Oper} {Q : Exit → Act → World → Prop} {S : World → Prop} {c : Nat} {D : List Nat} {listed : Array Bool} {a : Act} {w : World} {fuel : Nat}
/-- Whatever order is picked, and S holds as long as operation c is not listed. -/
def wpAnyL (P : Program) (ops : Array Oper) (Q : Exit → Act → World → Prop) (S : World → Prop) (c : Nat) : Nat → Array Bool → Act → World → Prop
  | 0, listed, a, w => Region.ready .any ops listed = [] ∧ Q .normal a w
  | fuel + 1, listed, a, w =>
    (Region.ready .any ops listed = [] → Q .normal a w) ∧
    ∀ i ∈ Region.ready .any ops listed, wpOp P ops Q i (fun a' w' => ((listed.setIfInBounds i true).getD c true = false → S w') ∧ wpAnyL P ops Q S c fuel (listed.setIfInBounds i true) a' w') a w
theorem wpAny_of_L : ∀ (fuel : Nat) (listed : Array Bool) (a : Act) (w : World), wpAnyL P ops Q S c fuel listed a w → wpAny P .any ops Q fuel listed a w
  | 0, _, _, _, h => h
  | fuel + 1, _, _, _, h => ⟨h.1, fun i hi => wpOp_mono (fun a' w' h' => wpAny_of_L fuel _ a' w' h'.2) (h.2 i hi)⟩
theorem wpAnyL_first {i f : Nat} {oi : Oper} {v : Value} (hi : ops[i]? = some oi) (hsel : ∀ (j : Nat) (o : Oper) cs b, ops[j]? = some o → o.op ≠ .select cs b)
    (hQ : ∀ c a w, Q (.panic c) (a.put oi.dst v) w → Q (.panic c) a w) (hD : i ∈ D) (hcr : reachD ops D f c i = true) (hne : i ≠ c) :
    ∀ (fuel : Nat) (listed : Array Bool) (a : Act) (w : World), listed.getD c true = false → closedD ops D listed = true →
      (∀ j oj, ops[j]? = some oj → j ≠ i → listed.getD j true = false → (∀ e ∈ oj.after, Region.binds .any e = true → e.on ≠ i) → oi.apart ops oj = true) →
      i ∈ Region.ready .any ops listed → YieldsIf P ops S oi v a → S w →
      wpAnyL P ops Q S c fuel (listed.setIfInBounds i true) (a.put oi.dst v) w → wpAnyL P ops Q S c (fuel + 1) listed a w := by
  intro fuel
  induction fuel with
  | zero =>
    intro listed a w _ _ _ hr hy hS H
    refine ⟨fun h => (by rw [h] at hr; cases hr), fun j hj => ?_⟩
    by_cases hji : j = i
    · subst hji; exact hy.wpOp hi hS ⟨fun _ => hS, H⟩
    · have := ready_mono hj hji
      rw [H.1] at this
      cases this
  | succ fuel ih =>
    intro listed a w hc hcl hfree hr hy hS H
    refine ⟨fun h => (by rw [h] at hr; cases hr), fun j hj => ?_⟩
    by_cases hji : j = i
    · subst hji; exact hy.wpOp hi hS ⟨fun _ => hS, H⟩
    · have h1 := H.2 j (ready_mono hj hji)
      obtain ⟨hjun, oj, hoj, hall⟩ := mem_ready.1 hj
      have hnot : ∀ e ∈ oj.after, Region.binds .any e = true → e.on ≠ i := fun e he hb heq => by
        have h1 := hall e he hb
        have h0 := (mem_ready.1 hr).1
        rw [heq] at h1
        rcases Nat.lt_or_ge i listed.size with h' | h'
        · simp [h'] at h0 h1; rw [h0] at h1; cases h1
        · simp [Array.getElem?_eq_none h'] at h1
      have hjc : j ≠ c := fun e => by
        subst e
        have h2 := reachD_listed hcl hD f j (fun q _ hw => waits_ready hj hw) hcr
        have h0 := (mem_ready.1 hr).1
        rw [h0] at h2
        cases h2
      have hcj : (listed.setIfInBounds j true).getD c true = false := by rw [getD_set_ne true hjc]; exact hc
      have h2 := wpOp_putIf hoj (hfree j oj hoj hji hjun hnot) (fun cs b => hsel i oi cs b hi) (fun cs b => hsel j oj cs b hoj) hQ hy h1
      have hfree' : ∀ k ok, ops[k]? = some ok → k ≠ i → (listed.setIfInBounds j true).getD k true = false →
          (∀ e ∈ ok.after, Region.binds .any e = true → e.on ≠ i) → oi.apart ops ok = true := fun k ok hk hki hun hno => by
        refine hfree k ok hk hki ?_ hno
        by_cases hjk : j = k
        · subst hjk; exact hjun
        · rw [getD_set_ne true hjk] at hun; exact hun
      refine wpOp_mono (fun a' w' h3 => ?_) h2
      have hS' : S w' := h3.2.1 (by rw [getD_set_ne true hjc, getD_set_ne true hne]; exact hc)
      refine ⟨fun _ => hS', ih (listed.setIfInBounds j true) a' w' hcj (closedD_set hcl hj) hfree' (ready_mono hr (Ne.symm hji)) h3.1 hS' ?_⟩
      rw [Array.setIfInBounds_comm _ _ hji]
      exact h3.2.2
theorem lgStart {id : Nat} (S : World → Prop) (c : Nat) (hm : P.follows .mixedOrders = true) (h : wpAnyL P ops Q S c ops.size (Array.replicate ops.size false) a w.drew) : (Code.region id ops true).wp P Q a w :=
  wp_region_any hm (wpAny_of_L _ _ _ _ h)
/-- An operation taken first, that operation c waits for. -/
theorem lgTake (D : List Nat) {i : Nat} {o : Oper} {v : Value} (hi' : ops.toList[i]? = some o) (hm : (mayFirst ops listed i && D.contains i && reachD ops D 8 c i && closedD ops D listed && !(i == c) && !listed.getD c true) = true) (hw : Region.wanted o (yielded ops a.tmps) = true)
    (hQ : ∀ c a w, Q (.panic c) (a.put o.dst v) w → Q (.panic c) a w) (hy : ∀ w, S w → (execOp a.eval o).run P w = .ok (.value v) w) (hS : S w)
    (h : wpAnyL P ops Q S c fuel (listed.setIfInBounds i true) (a.put o.dst v) w) : wpAnyL P ops Q S c (fuel + 1) listed a w := by
  have hi : ops[i]? = some o := by rw [← hi']; simp
  simp only [Bool.and_eq_true, Bool.not_eq_true', beq_eq_false_iff_ne, ne_eq] at hm
  obtain ⟨⟨⟨⟨⟨hm, hD⟩, hr⟩, hcl⟩, hne⟩, hc⟩ := hm
  simp only [mayFirst, Bool.and_eq_true] at hm
  exact wpAnyL_first (D := D) hi (Region.noSelect_spec hm.1.1) hQ (by simpa using hD) hr hne fuel listed a w hc hcl (Region.free_spec hi hm.1.2) (by simpa using hm.2) (Or.inl ⟨hw, hy⟩) hS h
/-- The one that comes up next is c, or comes behind it. -/
theorem lgNext {i : Nat} {o : Oper} (hr : Region.ready .any ops listed = [i]) (hi' : ops.toList[i]? = some o) (hc : (listed.setIfInBounds i true).getD c true = true)
    (h : wpList P ops (Exit.then (wpAnyL P ops Q S c fuel (listed.setIfInBounds i true)) Q) [o] a w) : wpAnyL P ops Q S c (fuel + 1) listed a w := by
  have hi : ops[i]? = some o := by rw [← hi']; simp
  refine ⟨fun h0 => (by rw [hr] at h0; cases h0), ?_⟩
  rw [hr]
  intro j hj
  rw [List.mem_singleton] at hj
  subst hj
  exact wpOp_mono (fun a' w' h' => ⟨fun h0 => (by rw [hc] at h0; cases h0), h'⟩) (wpOp_of_list hi h)
/-- The one that comes up next, ahead of c: the condition is shown anew. -/
theorem lgNextS {i : Nat} {o : Oper} (hr : Region.ready .any ops listed = [i]) (hi' : ops.toList[i]? = some o)
    (h : wpList P ops (Exit.then (fun a' w' => S w' ∧ wpAnyL P ops Q S c fuel (listed.setIfInBounds i true) a' w') Q) [o] a w) : wpAnyL P ops Q S c (fuel + 1) listed a w := by
  have hi : ops[i]? = some o := by rw [← hi']; simp
  refine ⟨fun h0 => (by rw [hr] at h0; cases h0), ?_⟩
  rw [hr]
  intro j hj
  rw [List.mem_singleton] at hj
  subst hj
  exact wpOp_mono (fun a' w' h' => ⟨fun _ => h'.1, h'.2⟩) (wpOp_of_list hi h)
theorem lgDone (hr : Region.ready .any ops listed = []) (h : Q .normal a w) : wpAnyL P ops Q S c fuel listed a w := by
  cases fuel with
  | zero => exact ⟨hr, h⟩
  | succ n => exact ⟨fun _ => h, by rw [hr]; simp⟩
end
end Go.Proofs.Ytkmhjgdpkddbnaa
namespace Go.Proofs.Ytkmhjgdpkddbnaa
open Go.RowKit
/-- The block of v' is that of v, or lies at N or behind. -/
def SameOrNew (v v' : Value) (N : Nat) : Prop := v'.ownBlock = v.ownBlock ∨ ∃ g, v'.ownBlock = some g ∧ N ≤ g
section
variable {P : Program} {w w0 : World} {ops : Array Oper} {rest : List Oper} {o : Oper} {a : Act} {Q : Exit → Act → World → Prop}
end
end Go.Proofs.Ytkmhjgdpkddbnaa
namespace Go.Proofs.Ytkmhjgdpkddbnaa
open Go.RowKit
end Go.Proofs.Ytkmhjgdpkddbnaa
namespace Go.Proofs.Ytkmhjgdpkddbnaa
open Go.RowKit
/-- The number that an integer is encoded as. -/
def zz (n : Int) : Nat := if n < 0 then (2 * (-1 - n) + 1).toNat else (2 * n).toNat
def encN : Nat → Nat → List UInt8
  | 0, z => [UInt8.ofNat z]
  | k + 1, z => if z < 128 then [UInt8.ofNat z] else UInt8.ofNat (z % 128 + 128) :: encN k (z / 128)
def enc (n : Int) : List UInt8 := encN 9 (zz n)
end Go.Proofs.Ytkmhjgdpkddbnaa
namespace Go.Proofs.Ytkmhjgdpkddbnaa
open Go.RowKit
section
variable {P : Program} {w : World} {ops : Array Oper} {rest : List Oper} {o : Oper} {a : Act} {Q : Exit → Act → World → Prop}
theorem iaRun {w : World} {o : Oper} {a : Act} {t e : TypeId} {b off n s : Nat} {kk : IntKind} {K : Int} (x y : Operand) (k : Nat) (hu : P.underlying t = some (.array n e)) (he : (P.info? e).map (·.size) = some s)
    (ho : o.op = .indexAddr t x y) (hx : a.eval x = .pointer (some ⟨b, off, none⟩)) (hy : a.eval y = .int kk K) (hK : K = (k : Int)) (hk : k < n) : (execOp a.eval o).run P w = .ok (.value (.pointer (some ⟨b, off + k * s, none⟩))) w := by
  subst hK
  obtain ⟨j, hj, hs⟩ := Option.map_eq_some_iff.1 he
  have hl : P.arrayLen t = n := by simp [Program.arrayLen, hu]
  have hel : P.elem t = e := by simp [Program.elem, hu]
  have ht : P.underlying t = some (.array (P.arrayLen t) (P.elem t)) := by rw [hl, hel]; exact hu
  have hr := run_indexAt_array (P := P) w t ⟨b, off, none⟩ kk (k : Int) ht
  rw [hl, if_pos ⟨by omega, by omega⟩, hel, Int.toNat_natCast] at hr
  unfold execOp
  simp only [ho, hx, hy, Sem.run_bind, Sem.run_pure]
  rw [hr]
  simp [sizeOf, typeInfo, hj, hs, add_off]
end
theorem iaRowRun {P : Program} {w : World} {o : Oper} {a : Act} {t e : TypeId} {z : Value} {size bytes b off n c : Nat} {kk : IntKind} {K : Int} (x y : Operand) (k : Nat) (T : SlTy P t e z size bytes)
    (ho : o.op = .indexAddr t x y) (hx : a.eval x = .slice (some ⟨b, off, none⟩) n c) (hy : a.eval y = .int kk K) (hK : K = (k : Int)) (hk : k < n) : (execOp a.eval o).run P w = .ok (.value (.pointer (some ⟨b, off + k * size, none⟩))) w := by
  subst hK
  obtain ⟨i, hi, hz0, hz1, hz2⟩ := info_parts T.inf
  have ht : P.underlying t = some (.slice (P.elem t)) := by rw [T.und]; simp [Program.elem, T.und]
  have he : P.elem t = e := by have := T.und; rw [this] at ht; injection ht with ht; injection ht with ht; exact ht.symm
  have hr := run_indexAt_slice (P := P) w t ⟨b, off, none⟩ n c kk (k : Int) ht
  rw [if_pos ⟨by omega, by omega⟩, he, Int.toNat_natCast] at hr
  unfold execOp
  simp only [ho, hx, hy, Sem.run_bind, Sem.run_pure]
  rw [hr]
  simp [sizeOf, typeInfo, hi, hz1, add_off]
theorem own_of_arr {w : World} {b n size base : Nat} {t : TypeId} {cur : List Value} (h : Arr w b t cur) (hl : cur.length = n * size) (hb : base ≤ b) (hn : n ≤ maxLen) : w.ownsRow base t size (.slice (some ⟨b, 0, none⟩) n n) n cur :=
  ⟨hl, Or.inr ⟨b, n, cur.toArray, rfl, hb, h, Nat.le_refl _, hn, by simpa using hl, by simp; exact List.take_of_length_le (by omega)⟩⟩
theorem own_arr_ne {w : World} {base size n b : Nat} {e t : TypeId} {v : Value} {xs cur : List Value} (h : w.ownsRow base e size v n xs) (h' : Arr w b t cur) (hne : e ≠ t) : ∀ g, v.ownBlock = some g → g ≠ b := by
  rcases h.2 with ⟨rfl, _⟩ | ⟨g', cap, cur', rfl, _, hh, _⟩
  · intro g hg; simp [Value.ownBlock] at hg
  · intro g hg he
    have : g' = g := by simpa [Value.ownBlock] using hg
    subst this
    subst he
    unfold Arr at h'
    rw [hh] at h'
    injection h' with h'
    injection h' with _ ht
    exact hne ht
theorem Try.und_int : Try.prog.underlying 3 = some (.int .i64) := by kernel_rfl
theorem Try.one_int : (Try.prog.info? 3).map (·.size) = some 1 := by kernel_rfl
/-- A variable of a struct or array type is set; nothing else turns. -/
theorem stArrG {P : Program} {w : World} {ops : Array Oper} {rest : List Oper} {o : Oper} {a : Act} {Q : Exit → Act → World → Prop} {ty : TypeId} {n b : Nat} {z : Array Value} {cur cs : List Value} (x y : Operand) (T : AgTy P ty z n) (hgd : Region.wanted o (yielded ops a.tmps) = true) (ho : o.op = .store ty x y)
    (hx : a.eval x = .pointer (some ⟨b, 0, none⟩)) (hy : a.eval y = .agg cs.toArray) {t : TypeId} (hA : Arr w b t cur) (hs : cur.length = n) (hl : cs.length = n) (h1 : ∀ u ∈ cs, u.oneCell' = true)
    (h : ∀ w', Arr w' b t cs → w.grownBy w' (some b) → wpList P ops Q rest (a.put o.dst undef) w') : wpList P ops Q (o :: rest) a w := by
  refine wpList_want hgd fun K hK => ?_
  unfold Oper.wp execOp
  simp only [ho, hx, hy, Instr.storeAt, Instr.sureAddr, Sem.run_bind, Sem.run_pure, Result.andThen_ok, run_storeAgg T hA (by rw [List.size_toArray]; exact hs) (by rw [List.size_toArray]; exact hl) (by intro u hu; exact h1 u (by simpa using hu))]
  refine hK _ _ (h _ (hA.setRow cs) ⟨rfl, rfl, rfl, by simp [World.setRow], fun k hk hne => ?_⟩)
  unfold World.setRow
  have : b ≠ k := fun e => hne (by rw [e])
  simp [Array.getElem?_modify, this]
end Go.Proofs.Ytkmhjgdpkddbnaa
namespace Go.Proofs.Ytkmhjgdpkddbnaa
open Go.RowKit
set_option linter.unusedVariables false
theorem Arr.grown {w w' : World} {b : Nat} {t : TypeId} {cur : List Value} {r : Option Nat} (h : Arr w b t cur) (hg : w.grownBy w' r) (hne : some b ≠ r) : Arr w' b t cur := (hg.block b h.lt hne).trans h
section
variable {P : Program} {w : World} {o : Oper} {a : Act} {t ty src dst : TypeId}
theorem ldRun {p : Addr} {v : Value} (x : Operand) (hu : ((P.underlying ty).map fun d => match d with | .struct _ | .array _ _ => true | _ => false) = some false)
    (ho : o.op = .load ty x) (hx : a.eval x = .pointer (some p)) (hc : w.cell? p = some v) : (execOp a.eval o).run P w = .ok (.value v) w := by
  obtain ⟨d, hd, h2⟩ := Option.map_eq_some_iff.1 hu
  have ha : (isAgg ty).run P w = .ok false w := by
    unfold isAgg
    rw [Sem.run_bind, run_underlying hd w]
    cases d <;> simp_all
  have hl : (Instr.loadAt ty (.pointer (some p))).run P w = .ok v w := by
    simp [Instr.loadAt, Instr.sureAddr, loadVar, ha, hc]
  unfold execOp
  simp only [ho, hx, Sem.run_bind, Sem.run_pure, hl, Result.andThen_ok]
end
section
variable {P : Program} {w : World} {o : Oper} {a : Act} {t ty src dst : TypeId}
end
/-- Arrays of other types than rows of bytes lie as they lay. -/
def ArrsKept (w w' : World) : Prop := ∀ (b : Nat) (t : TypeId) (cur : List Value), t ≠ 5 → Arr w b t cur → Arr w' b t cur
theorem ArrsKept.refl (w : World) : ArrsKept w w := fun _ _ _ _ h => h
theorem ArrsKept.trans {a b c : World} (h : ArrsKept a b) (k : ArrsKept b c) : ArrsKept a c := fun i t cur ht hA => k i t cur ht (h i t cur ht hA)
theorem ArrsKept.below {w w' : World} (h : Below w.heap.size w w') : ArrsKept w w' := fun _ _ _ _ hA => hA.below h hA.lt
theorem ArrsKept.row {w w' : World} {base n : Nat} {v : Value} {xs : List Value} (h : w.ownsRow base 5 1 v n xs) (hg : w.grownBy w' v.ownBlock) : ArrsKept w w' := fun b t cur ht hA =>
  hA.grown hg (fun e => own_arr_ne h hA (fun e => ht e.symm) b e.symm rfl)
/-- Blocks that stood stay, but for a row's own block. -/
def RowKept (w w' : World) (v : Value) : Prop := ∀ b, b < w.heap.size → some b ≠ v.ownBlock → w'.heap[b]? = w.heap[b]?
theorem RowKept.set {w w' : World} {v : Value} (h : RowKept w w' v) {g i : Nat} (hg : w.heap.size ≤ g) (u : Value) : RowKept w (w'.setCell ⟨g, i, none⟩ u) v := fun b hb hne =>
  (Below.heap_setCell w' ⟨g, i, none⟩ u b (by show b ≠ g; omega)).trans (h b hb hne)
theorem RowKept.grown {w w' w'' : World} {v : Value} (h : RowKept w w' v) (hs : w.heap.size ≤ w'.heap.size) {g : Nat} (hg : w.heap.size ≤ g) (hgr : w'.grownBy w'' (some g)) : RowKept w w'' v := fun b hb hne =>
  (hgr.block b (by omega) (fun e => by injection e with e; omega)).trans (h b hb hne)
theorem RowKept.app {w w' wa w'' : World} {v vu : Value} (h : RowKept w w' v) (hs : w.heap.size ≤ w'.heap.size) (hS : SameOrNew v vu w.heap.size) (ha : ∀ b, b < w'.heap.size → wa.heap[b]? = w'.heap[b]?) (hsa : w'.heap.size ≤ wa.heap.size) (hgr : wa.grownBy w'' vu.ownBlock) : RowKept w w'' v := fun b hb hne => by
  refine (hgr.block b (by omega) (fun e => ?_)).trans ((ha b (by omega)).trans (h b hb hne))
  rcases hS with e2 | ⟨g, e2, h3⟩
  · exact hne (e.trans e2)
  · rw [e2] at e
    injection e with e
    omega
theorem SameOrNew.app {v vu v' : Value} {N M : Nat} (h : SameOrNew v vu N) (k : SameOrNew vu v' M) (hNM : N ≤ M) : SameOrNew v v' N := by
  rcases k with k | ⟨g, k, hg⟩
  · rcases h with h | ⟨g, h, hg⟩
    · exact Or.inl (k.trans h)
    · exact Or.inr ⟨g, k.trans h, hg⟩
  · exact Or.inr ⟨g, k, by omega⟩
section
variable {P : Program} {w : World} {o : Oper} {a : Act} {t ty src dst : TypeId}
theorem lenSlRun {e : TypeId} {A : Option Addr} {n c : Nat} (x : Operand) (ht : P.underlying t = some (.slice e)) (ho : o.op = .call { callee := .builtin .len, args := #[x], argTypes := #[t] }) (hx : a.eval x = .slice A n c) : (execOp a.eval o).run P w = .ok (.value (.int .i64 (n : Int))) w := by
  unfold execOp
  simp [ho, hx, resolve, invoke, builtin, Builtin.len_, run_underlying ht, goInt]
end
section
variable {P : Program} {w : World} {o : Oper} {a : Act} {t ty src dst : TypeId}
theorem leqRun {A B : Int} (x y : Operand) (ho : o.op = .binOp .leq t x y ty) (hx : a.eval x = .int .i64 A) (hy : a.eval y = .int .i64 B) : (execOp a.eval o).run P w = .ok (.value (.bool (decide (A ≤ B)))) w := by
  unfold execOp
  simp [ho, hx, hy, eqGuard, binOp_leq]
end
/-- What keeps all blocks but two. -/
structure Kp2 (g1 g2 : Nat) (A B : World) : Prop where
  os : B.os = A.os
  tape : B.tape = A.tape
  output : B.output = A.output
  size : A.heap.size ≤ B.heap.size
  block : ∀ k, k < A.heap.size → k ≠ g1 → k ≠ g2 → B.heap[k]? = A.heap[k]?
theorem Kp2.trans {g1 g2 : Nat} {A B C : World} (h : Kp2 g1 g2 A B) (k : Kp2 g1 g2 B C) : Kp2 g1 g2 A C :=
  ⟨k.os.trans h.os, k.tape.trans h.tape, k.output.trans h.output, Nat.le_trans h.size k.size, fun b hb h1 h2 => (k.block b (Nat.lt_of_lt_of_le hb h.size) h1 h2).trans (h.block b hb h1 h2)⟩
theorem Kp2.left {g1 g2 : Nat} {A B : World} (h : A.grownBy B (some g1)) : Kp2 g1 g2 A B := ⟨h.os, h.tape, h.output, h.size, fun k hk h1 _ => h.block k hk (fun e => h1 (by injection e))⟩
theorem Kp2.right {g1 g2 : Nat} {A B : World} (h : A.grownBy B (some g2)) : Kp2 g1 g2 A B := ⟨h.os, h.tape, h.output, h.size, fun k hk _ h2 => h.block k hk (fun e => h2 (by injection e))⟩
theorem Kp2.arr {g1 g2 : Nat} {A B : World} (h : Kp2 g1 g2 A B) {b : Nat} {t : TypeId} {cur : List Value} (hA : Arr A b t cur) (h1 : b ≠ g1) (h2 : b ≠ g2) : Arr B b t cur := (h.block b hA.lt h1 h2).trans hA
theorem Kp2.below {g1 g2 n0 : Nat} {W A B : World} (h : Kp2 g1 g2 A B) (hb : Below n0 W A) (hn : n0 ≤ A.heap.size) (h1 : n0 ≤ g1) (h2 : n0 ≤ g2) : Below n0 W B :=
  hb.trans ⟨h.os, h.tape, h.output, h.size, fun k hk => h.block k (by omega) (by omega) (by omega)⟩
/-- An element of an array of integers by value. -/
theorem ixArr {P : Program} {w : World} {ops : Array Oper} {rest : List Oper} {o : Oper} {a : Act} {Q : Exit → Act → World → Prop} {t e : TypeId} {n : Nat} {k2 : IntKind} {cs : List Value} {kk : IntKind} {K : Int} (x y : Operand) (i : Nat) (v : Value)
    (hu : P.underlying t = some (.array n e)) (hue : P.underlying e = some (.int k2)) (he : (P.info? e).map (·.size) = some 1) (hgd : Region.wanted o (yielded ops a.tmps) = true)
    (ho : o.op = .index t x y) (hx : a.eval x = .agg cs.toArray) (hy : a.eval y = .int kk K) (hK : K = (i : Int)) (hv : cs[i]? = some v) (hl : cs.length = n)
    (h : wpList P ops Q rest (a.put o.dst v) w) : wpList P ops Q (o :: rest) a w := by
  subst hK
  obtain ⟨j, hj, hs⟩ := Option.map_eq_some_iff.1 he
  have hlt : i < n := by rw [← hl]; exact (List.getElem?_eq_some_iff.1 hv).1
  refine opVal (v := v) hgd ?_ h
  unfold execOp
  have hp : (Go.part e cs.toArray i).run P w = .ok v w := by
    unfold Go.part
    have ha : (isAgg e).run P w = .ok false w := by
      unfold isAgg
      rw [Sem.run_bind, run_underlying hue w]
      rfl
    simp [ha, hv]
  simp [ho, hx, hy, Instr.index, asIntOf, run_underlying hu, sizeOf, typeInfo, hj, hs, hlt, hp]
end Go.Proofs.Ytkmhjgdpkddbnaa
namespace Go.Proofs.Ytkmhjgdpkddbnaa
open Go.RowKit
section
variable {P : Program} {ops : Array Oper} {Q : Exit → Act → World → Prop} {X : List (Nat × Nat)} {G : Nat → Value → World → Prop} {D : Nat → Nat → Value → Value → Prop} {a0 : Act} {w0 : World} {listed0 : Array Bool}
end
end Go.Proofs.Ytkmhjgdpkddbnaa
