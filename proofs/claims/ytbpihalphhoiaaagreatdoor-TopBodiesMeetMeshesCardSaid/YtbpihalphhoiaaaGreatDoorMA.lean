/-
 MA: several texts in one. No statement is proved here.
-/
import Derived.WalkKit
import Derived.WalkSpells
import Derived.WalkLawsBesides
import Derived.Lib.Hide
import Derived.Lib.AppendStr
import Derived.Deep.AppendLies
import Derived.Deep.Draws
import Derived.Maps.AppendAt
import Derived.Laws.CopyOwn
import Derived.Great.BuildSlice
import Derived.Laws.BitsAllLaws
import Derived.Deep.QuietTactic
import Derived.BigQuiet
import Derived.Stop.BytesEq
import Derived.OrdersHeld
import Derived.Lib.ConvBytes
import Derived.IntWalk
import Derived.ProofKit
import Derived.OpenShut
import Derived.Deep.Slices
import Derived.SizedLaws
import Derived.Deep.CondSized
import Derived.Laws.StructEq
import Derived.Test.YtbpihalphhoiaaaGreatDoorRows
import Derived.Laws.OwnMore
import Derived.Laws.EntriesVeiled
set_option maxRecDepth 100000
set_option maxHeartbeats 4000000
set_option linter.unusedVariables false
set_option linter.unusedSimpArgs false
namespace Go.Proofs.YtbpihalphhoiaaaGreatDoor
theorem kr_ {p : Prop} (h : p := by kernel_rfl) : p := h
open Go.RowKit
structure SlTy (P : Program) (t e : TypeId) (z : Value) (size bytes : Nat) : Prop where
 und : P.underlying t = some (.slice e)
 inf : (P.info? e).map (fun i => (i.zero, i.size, i.bytes)) = some (some z, size, bytes)
 zs : z.cells.size = size
 pos : 0 < size
structure Rd (w : World) (B size : Nat) (A : Option Addr) (n c : Nat) (xs : List Value) : Prop where
 len : xs.length = n * size
 le : n ≤ c
 cap : c ≤ maxLen
 cells : 0 < n * size → ∃ b off, A = some ⟨b, off, none⟩ ∧ b < B ∧ ∀ j u, xs[j]? = some u → w.cell? ⟨b, off + j, none⟩ = some u
section
variable {w w' : World} {B B' size n c : Nat} {A : Option Addr} {xs : List Value}
theorem Rd.keep (h : Rd w B size A n c xs) (hk : ∀ p : Addr, p.block < B → w'.cell? p = w.cell? p) : Rd w' B size A n c xs :=
 ⟨h.len, h.le, h.cap, fun hn => by
  obtain ⟨b, off, e, hb, hc⟩ := h.cells hn
  exact ⟨b, off, e, hb, fun j u hu => (hk _ hb).trans (hc j u hu)⟩⟩
theorem Rd.below (h : Rd w B size A n c xs) (hb : Below B w w') : Rd w' B size A n c xs := h.keep fun _ hp => hb.cell hp
theorem Rd.more (h : Rd w B size A n c xs) (hB : B ≤ B') : Rd w B' size A n c xs :=
 ⟨h.len, h.le, h.cap, fun hn => by
  obtain ⟨b, off, e, hb, hc⟩ := h.cells hn
  exact ⟨b, off, e, by omega, hc⟩⟩
theorem Rd.nil (w : World) (B size : Nat) : Rd w B size none 0 0 [] := ⟨by simp, Nat.le_refl _, Nat.zero_le _, fun h => absurd h (by omega)⟩
theorem Rd.of_own {base : Nat} {e : TypeId} {v : Value} (h : w.ownsRow base e size v n xs) : ∃ A c, v = .slice A n c ∧ Rd w w.heap.size size A n c xs := by
 rcases h.2 with ⟨rfl, rfl⟩ | ⟨g, cap, cur, rfl, hb, hg, hn, hm, _⟩
 ·refine ⟨none, 0, rfl, h.1, Nat.le_refl _, Nat.zero_le _, fun hh => absurd hh (by simp)⟩
 ·refine ⟨some ⟨g, 0, none⟩, cap, rfl, h.1, hn, hm, fun _ => ⟨g, 0, rfl, ?_, fun j u hu => ?_⟩⟩
  ·exact (h.lt g rfl).2
  ·have := h.cells (g := g) rfl j u hu
   have hadd : (⟨g, 0, none⟩ : Addr).add j = ⟨g, 0 + j, none⟩ := by unfold Addr.add; split <;> simp_all
   rwa [hadd] at this
end
theorem ownsRow_below {w w' : World} {base B : Nat} {e : TypeId} {size n : Nat} {v : Value} {xs : List Value} (h : w.ownsRow base e size v n xs) (hb : Below B w w') (hs : w.heap.size ≤ B) : w'.ownsRow base e size v n xs := by
 refine h.kept (row := none) ⟨hb.os, hb.tape, hb.output, hb.size, fun k hk _ => hb.block k (by omega)⟩ ?_
 cases hv : v.ownBlock
 ·exact Or.inl rfl
 ·exact Or.inr (by simp)
theorem ownsRow_base {w : World} {base base' : Nat} {e : TypeId} {size n : Nat} {v : Value} {xs : List Value} (h : w.ownsRow base e size v n xs) (hb : base' ≤ base) : w.ownsRow base' e size v n xs := by
 refine ⟨h.1, ?_⟩
 rcases h.2 with h2 | ⟨g, cap, cur, hv, hg, r⟩
 ·exact Or.inl h2
 ·exact Or.inr ⟨g, cap, cur, hv, by omega, r⟩
theorem wn {o : Oper} {y : Nat → Option Bool} (h : o.guard = none) : Region.wanted o y = true := by simp [Region.wanted, h]
theorem wpList_want {P : Program} {ops : Array Oper} {Q : Exit → Act → World → Prop} {a : Act} {w : World} {rest : List Oper} {o : Oper} (hw : Region.wanted o (yielded ops a.tmps) = true)
 (h : ∀ K : Act → World → Prop, (∀ a w, wpList P ops Q rest a w → K a w) → o.wp P a w K Q) : wpList P ops Q (o :: rest) a w :=
 wpList_step fun K hK => by rw [if_pos hw]; exact h K hK
section
variable {P : Program} {w w0 : World} {ops : Array Oper} {rest : List Oper} {o : Oper} {a : Act} {Q : Exit → Act → World → Prop}
end
structure AgTy (P : Program) (ty : TypeId) (z : Array Value) (n : Nat) : Prop where
 agg : ((P.underlying ty).map fun d => match d with | .struct _ | .array _ _ => true | _ => false) = some true
 inf : (P.info? ty).map (fun i => (i.zero.map Value.cells, i.size)) = some (some z, n)
 zs : z.size = n
section
variable {P : Program} {w : World} {ops : Array Oper} {rest : List Oper} {o : Oper} {a : Act} {Q : Exit → Act → World → Prop}
theorem run_isAgg {ty : TypeId} {z : Array Value} {n : Nat} (T : AgTy P ty z n) (w : World) : (isAgg ty).run P w = .ok true w := by
 obtain ⟨d, hd, h2⟩ := Option.map_eq_some_iff.1 T.agg
 unfold isAgg
 rw [Sem.run_bind, run_underlying hd w]
 cases d <;> simp_all
theorem AgTy.parts {ty : TypeId} {z : Array Value} {n : Nat} (T : AgTy P ty z n) : ∃ i, P.info? ty = some i ∧ i.zero.map Value.cells = some z ∧ i.size = n := by
 obtain ⟨i, hi, hzz⟩ := Option.map_eq_some_iff.1 T.inf
 simp only [Prod.mk.injEq] at hzz
 exact ⟨i, hi, hzz.1, hzz.2⟩
theorem run_loadAgg {ty : TypeId} {z : Array Value} {n : Nat} (T : AgTy P ty z n) (b off : Nat) (cs : List Value) (hl : cs.length = n) (hc : ∀ j u, cs[j]? = some u → w.cell? ⟨b, off + j, none⟩ = some u) :
 (loadVar ty ⟨b, off, none⟩).run P w = .ok (.agg cs.toArray) w := by
 obtain ⟨i, hi, _, hs⟩ := T.parts
 have hload := run_loadCells_list (P := P) w ⟨b, off, none⟩ cs (fun j v hv => by
  have hadd : (⟨b, off, none⟩ : Addr).add j = ⟨b, off + j, none⟩ := by unfold Addr.add; split <;> simp_all
  rw [hadd]; exact hc j v hv)
 rw [hl] at hload
 simp [loadVar, Sem.run_bind, run_isAgg T, sizeOf, typeInfo, hi, hs, hload]
theorem ldAgg {ty : TypeId} {z : Array Value} {n b off : Nat} (x : Operand) (cs : List Value) (T : AgTy P ty z n) (hgd : Region.wanted o (yielded ops a.tmps) = true) (ho : o.op = .load ty x)
 (hx : a.eval x = .pointer (some ⟨b, off, none⟩)) (hl : cs.length = n) (hc : ∀ j u, cs[j]? = some u → w.cell? ⟨b, off + j, none⟩ = some u)
 (h : wpList P ops Q rest (a.put o.dst (.agg cs.toArray)) w) : wpList P ops Q (o :: rest) a w := by
 refine wpList_want hgd fun K hK => ?_
 unfold Oper.wp execOp
 simp only [ho, hx, Instr.loadAt, Instr.sureAddr, Sem.run_bind, Sem.run_pure, Result.andThen_ok, run_loadAgg T b off cs hl hc]
 exact hK _ _ h
theorem alAgg {ty : TypeId} {z : Array Value} {n : Nat} (T : AgTy P ty z n) (hgd : Region.wanted o (yielded ops a.tmps) = true) (ho : o.op = .alloc ty)
 (h : wpList P ops Q rest (a.put o.dst (.pointer (some ⟨w.heap.size, 0, none⟩))) (w.alloc (.cells z ty))) : wpList P ops Q (o :: rest) a w := by
 obtain ⟨i, hi, hz, _⟩ := T.parts
 obtain ⟨zv, hzv, hzc⟩ := Option.map_eq_some_iff.1 hz
 refine wpList_want hgd fun K hK => ?_
 unfold Oper.wp execOp
 simp only [ho]
 have hr : (Instr.alloc ty true (.tuple #[])).run P w = .ok (.pointer (some ⟨w.heap.size, 0, none⟩)) (w.alloc (.cells z ty)) := by
  simp [Instr.alloc, zeroValue, typeInfo, hi, hzv, newVar, newRow, hzc]
 simp only [Sem.run_bind, Sem.run_pure, hr, Result.andThen_ok]
 exact hK _ _ h
theorem run_storeAgg {ty : TypeId} {z : Array Value} {n g : Nat} (T : AgTy P ty z n) {cur cs : Array Value} {t : TypeId} (hg : w.heap[g]? = some (.cells cur t (0, 0))) (hs : cur.size = n) (hl : cs.size = n) (h1 : ∀ u ∈ cs, u.oneCell' = true) :
 (storeVar ty ⟨g, 0, none⟩ (.agg cs)).run P w = .ok () (w.setRow g cs) := by
 obtain ⟨i, hi, _, hs'⟩ := T.parts
 have hst := run_storeCells_at P g 0 t cs.toList 0 cur w hg (by simp; omega) (by intro v hv; exact h1 v (by simpa using hv))
 simp only [Nat.zero_add, List.take_zero, List.nil_append, Array.length_toList] at hst
 rw [List.drop_of_length_le (by simp; omega), List.append_nil, Array.toArray_toList] at hst
 simp [storeVar, sizeOf, typeInfo, hi, hs', Value.cells, hl, hst]
end
theorem res_cell1 {P : Program} {w : World} {fn : Func} {p : Tmp} {ty : TypeId} {z : Array Value} {n b off : Nat} (cs : List Value) (h : fn.results = #[.cell p ty]) (T : AgTy P ty z n) (tmps : Array Value)
 (hp : tmps.getD p undef = .pointer (some ⟨b, off, none⟩)) (hl : cs.length = n) (hc : ∀ j u, cs[j]? = some u → w.cell? ⟨b, off + j, none⟩ = some u) :
 (results fn tmps).run P w = .ok (.agg cs.toArray) w := by
 have hr := run_loadAgg (P := P) (w := w) T b off cs hl hc
 have hp' : tmps[p]?.getD undef = .pointer (some ⟨b, off, none⟩) := by simpa using hp
 simp only [results, h]
 simp [hp', asAddr, hr]
section
variable {P : Program} {w : World} {ops : Array Oper} {rest : List Oper} {o : Oper} {a : Act} {Q : Exit → Act → World → Prop}
end
end Go.Proofs.YtbpihalphhoiaaaGreatDoor
namespace Go.Proofs.YtbpihalphhoiaaaGreatDoor
open Go.RowKit
theorem ofInt_i64 (a : Nat) (ha : a < 9223372036854775808) : (BitVec.ofInt 64 (a : Int)).toNat = a := by
 rw [BitVec.ofInt_natCast, BitVec.toNat_ofNat]; exact Nat.mod_eq_of_lt (by omega)
theorem i64_and_n (a b : Nat) (ha : a < 9223372036854775808) (hb : b < 9223372036854775808) : bits .and .i64 (a : Int) (b : Int) = ((a &&& b : Nat) : Int) := by
 have hx : a &&& b < 2 ^ 63 := Nat.and_lt_two_pow _ (by omega)
 show IntKind.i64.wrap ((BitVec.ofInt 64 (a : Int) &&& BitVec.ofInt 64 (b : Int)).toNat : Int) = _
 rw [BitVec.toNat_and, ofInt_i64 a ha, ofInt_i64 b hb, IntKind.wrap_i64]
 omega
theorem i64_or_n (a b : Nat) (ha : a < 9223372036854775808) (hb : b < 9223372036854775808) : bits .or .i64 (a : Int) (b : Int) = ((a ||| b : Nat) : Int) := by
 have hx : a ||| b < 2 ^ 63 := Nat.or_lt_two_pow (by omega) (by omega)
 show IntKind.i64.wrap ((BitVec.ofInt 64 (a : Int) ||| BitVec.ofInt 64 (b : Int)).toNat : Int) = _
 rw [BitVec.toNat_or, ofInt_i64 a ha, ofInt_i64 b hb, IntKind.wrap_i64]
 omega
section
variable {P : Program} {w : World} {ops : Array Oper} {rest : List Oper} {o : Oper} {a : Act} {Q : Act → Prop}
end
def Arr (w : World) (b : Nat) (t : TypeId) (cur : List Value) : Prop := w.heap[b]? = some (.cells cur.toArray t (0, 0))
section
variable {w w' : World} {b b' i : Nat} {t : TypeId} {cur : List Value} {v : Value}
theorem Arr.cell (h : Arr w b t cur) (hi : cur[i]? = some v) : w.cell? ⟨b, i, none⟩ = some v := by
 unfold World.cell?
 rw [show w.heap[(⟨b, i, none⟩ : Addr).block]? = some (.cells cur.toArray t (0, 0)) from h]
 simpa using hi
theorem Arr.thaw (h : Arr w b t cur) (i : Nat) : w.frozen? ⟨b, i, none⟩ = false := by
 unfold World.frozen?
 rw [show w.heap[(⟨b, i, none⟩ : Addr).block]? = some (.cells cur.toArray t (0, 0)) from h]
 simp
theorem Arr.lt (h : Arr w b t cur) : b < w.heap.size := (Array.getElem?_eq_some_iff.1 h).1
theorem Arr.drew (h : Arr w b t cur) : Arr w.drew b t cur := h
theorem Arr.new (w : World) (t : TypeId) (cur : List Value) : Arr (w.alloc (.cells cur.toArray t)) w.heap.size t cur := heap_alloc_new w _
theorem Arr.set (h : Arr w b t cur) (i : Nat) (v : Value) : Arr (w.setCell ⟨b, i, none⟩ v) b t (cur.set i v) := by
 unfold Arr at h ⊢
 unfold World.setCell
 simp [Array.getElem?_modify, h]
theorem Arr.other (h : Arr w b t cur) (hne : b' ≠ b) (i : Nat) (v : Value) : Arr (w.setCell ⟨b', i, none⟩ v) b t cur := by
 unfold Arr at h ⊢
 unfold World.setCell
 simp [Array.getElem?_modify, hne, h]
theorem Arr.below {B : Nat} (h : Arr w b t cur) (hb : Below B w w') (hB : b < B) : Arr w' b t cur := by
 unfold Arr at h ⊢
 rw [← h]
 exact hb.block b hB
theorem Arr.setRow (h : Arr w b t cur) (cs : List Value) : Arr (w.setRow b cs.toArray) b t cs := setRow_heap w b _ _ t _ h
end
section
variable {P : Program} {w : World} {ops : Array Oper} {rest : List Oper} {o : Oper} {a : Act} {Q : Exit → Act → World → Prop} {ty : TypeId} {n b : Nat}
theorem alArr {z : List Value} (T : AgTy P ty z.toArray n) (hgd : Region.wanted o (yielded ops a.tmps) = true) (ho : o.op = .alloc ty)
 (h : ∀ w', Arr w' w.heap.size ty z → Below w.heap.size w w' → wpList P ops Q rest (a.put o.dst (.pointer (some ⟨w.heap.size, 0, none⟩))) w') : wpList P ops Q (o :: rest) a w :=
 alAgg T hgd ho (h _ (Arr.new w ty z) ((Below.refl _ _).alloc (Nat.le_refl _) _))
theorem ldArr {z : Array Value} {cur : List Value} (x : Operand) (T : AgTy P ty z n) (hgd : Region.wanted o (yielded ops a.tmps) = true) (ho : o.op = .load ty x)
 (hx : a.eval x = .pointer (some ⟨b, 0, none⟩)) (hl : cur.length = n) {t : TypeId} (hA : Arr w b t cur)
 (h : wpList P ops Q rest (a.put o.dst (.agg cur.toArray)) w) : wpList P ops Q (o :: rest) a w :=
 ldAgg x cur T hgd ho hx hl (fun j u hu => by rw [Nat.zero_add]; exact hA.cell hu) h
theorem bxArr {cs : List Value} {ty : TypeId} (x : Operand) (hgd : Region.wanted o (yielded ops a.tmps) = true) (ho : o.op = .box ty x) (hx : a.eval x = .agg cs.toArray)
 (h : ∀ w', Arr w' w.heap.size ty cs → Below w.heap.size w w' → wpList P ops Q rest (a.put o.dst (.pointer (some ⟨w.heap.size, 0, none⟩))) w') : wpList P ops Q (o :: rest) a w := by
 refine wpList_want hgd fun K hK => ?_
 unfold Oper.wp execOp
 have hr : (Instr.box ty (.agg cs.toArray)).run P w = .ok (.pointer (some ⟨w.heap.size, 0, none⟩)) (w.alloc (.cells cs.toArray ty)) := by
  simp [Instr.box, newVar, newRow, Value.cells]
 simp only [ho, hx, Sem.run_bind, Sem.run_pure, hr, Result.andThen_ok]
 exact hK _ _ (h _ (Arr.new w ty cs) ((Below.refl _ _).alloc (Nat.le_refl _) _))
theorem bxOne {v : Value} {ty : TypeId} (x : Operand) (hgd : Region.wanted o (yielded ops a.tmps) = true) (ho : o.op = .box ty x) (hx : a.eval x = v) (hv : v.cells = #[v])
 (h : ∀ w', Arr w' w.heap.size ty [v] → Below w.heap.size w w' → wpList P ops Q rest (a.put o.dst (.pointer (some ⟨w.heap.size, 0, none⟩))) w') : wpList P ops Q (o :: rest) a w := by
 refine wpList_want hgd fun K hK => ?_
 unfold Oper.wp execOp
 have hr : (Instr.box ty v).run P w = .ok (.pointer (some ⟨w.heap.size, 0, none⟩)) (w.alloc (.cells #[v] ty)) := by
  simp [Instr.box, newVar, newRow, hv]
 simp only [ho, hx, Sem.run_bind, Sem.run_pure, hr, Result.andThen_ok]
 exact hK _ _ (h _ (Arr.new w ty [v]) ((Below.refl _ _).alloc (Nat.le_refl _) _))
end
def mayFirst (ops : Array Oper) (listed : Array Bool) (i : Nat) : Bool :=
 Region.noSelect ops && Region.free .any ops listed i && (Region.ready .any ops listed).contains i
section
variable {P : Program} {ops : Array Oper} {Q : Exit → Act → World → Prop} {S : World → Prop} {listed : Array Bool} {a : Act} {w : World} {fuel : Nat}
theorem rgStart {id : Nat} (S : World → Prop) (hm : P.follows .mixedOrders = true) (h : wpAnyH P .any ops Q S ops.size (Array.replicate ops.size false) a w.drew) : (Code.region id ops true).wp P Q a w :=
 wp_region_held hm h
theorem wpOp_of_list {i : Nat} {o : Oper} {K : Act → World → Prop} (hi : ops[i]? = some o) (h : wpList P ops (Exit.then K Q) [o] a w) : wpOp P ops Q i K a w := by
 unfold wpOp
 simp only [hi]
 unfold wpList at h
 split
 ·rename_i hw
  rw [if_pos hw] at h
  refine h.imp (fun h => ?_) (fun h => ⟨h.1, h.2⟩)
  unfold Oper.wp at h ⊢
  generalize (execOp a.eval o).run P w = r at h ⊢
  cases r with
  | ok n w' =>
   cases n <;> simp only [Oper.upon] at h ⊢
   case value v => exact h
   case skip => exact h
   case defer d => exact h
   case enter f args =>
    refine h.mono fun e w'' he => ?_
    cases e with
    | returned u => exact he
    | panicked c => exact he
    | outgrown => exact he
   case row row args => exact h.mono fun _ _ he => he
  | halt x w' => cases x <;> simp only [Oper.upon] at h ⊢; exact h
 ·rename_i hw
  rw [if_neg hw] at h
  exact h
theorem rgTake {i : Nat} {o : Oper} {v : Value} (hi' : ops.toList[i]? = some o) (hm : mayFirst ops listed i = true) (hw : Region.wanted o (yielded ops a.tmps) = true)
 (hQ : ∀ c a w, Q (.panic c) (a.put o.dst v) w → Q (.panic c) a w) (hy : ∀ w, S w → (execOp a.eval o).run P w = .ok (.value v) w) (hS : S w)
 (h : wpAnyH P .any ops Q S fuel (listed.setIfInBounds i true) (a.put o.dst v) w) : wpAnyH P .any ops Q S (fuel + 1) listed a w := by
 have hi : ops[i]? = some o := by rw [← hi']; simp
 simp only [mayFirst, Bool.and_eq_true] at hm
 exact wpAnyH_take hi hm.1.1 hm.1.2 hm.2 hQ (Or.inl ⟨hw, hy⟩) hS h
theorem rgNext {i : Nat} {o : Oper} (hr : Region.ready .any ops listed = [i]) (hi' : ops.toList[i]? = some o)
 (h : wpList P ops (Exit.then (fun a' w' => S w' ∧ wpAnyH P .any ops Q S fuel (listed.setIfInBounds i true) a' w') Q) [o] a w) : wpAnyH P .any ops Q S (fuel + 1) listed a w := by
 have hi : ops[i]? = some o := by rw [← hi']; simp
 refine wpAnyH_all hr (by simp) fun j hj => ?_
 rw [List.mem_singleton] at hj
 subst hj
 exact wpOp_of_list hi h
theorem rgDone (hr : Region.ready .any ops listed = []) (h : Q .normal a w) : wpAnyH P .any ops Q S fuel listed a w := wpAnyH_done hr h _
end
def spl (cur : List Value) (off : Nat) (cs : List Value) : List Value := cur.take off ++ cs ++ cur.drop (off + cs.length)
theorem spl_at {cur cs : List Value} {off j : Nat} (h : off + cs.length ≤ cur.length) : (spl cur off cs)[j]? = if j < off then cur[j]? else if j < off + cs.length then cs[j - off]? else cur[j]? := by
 unfold spl
 have hl : (cur.take off).length = off := by rw [List.length_take]; omega
 by_cases h1 : j < off
 ·rw [if_pos h1, List.append_assoc, List.getElem?_append_left (by omega), List.getElem?_take, if_pos h1]
 ·rw [if_neg h1]
  by_cases h2 : j < off + cs.length
  ·rw [if_pos h2, List.append_assoc, List.getElem?_append_right (by omega), hl, List.getElem?_append_left (by omega)]
  ·rw [if_neg h2, List.getElem?_append_right (by rw [List.length_append]; omega), List.length_append, hl, List.getElem?_drop]
   congr 1; omega
section
variable {P : Program} {w : World} {ops : Array Oper} {rest : List Oper} {o : Oper} {a : Act} {Q : Exit → Act → World → Prop} {g off : Nat} {t : TypeId} {cur : List Value}
theorem run_storeCells_spl (hA : Arr w g t cur) (cs : List Value) (hfit : off + cs.length ≤ cur.length) (h1 : ∀ u ∈ cs, u.oneCell' = true) :
 (storeCells ⟨g, off, none⟩ cs).run P w = .ok () (w.setRow g (spl cur off cs).toArray) := by
 have hst := run_storeCells_at P g off t cs 0 cur.toArray w hA (by rw [List.size_toArray]; omega) h1
 rw [hst]
 simp [spl]
theorem opVal {v : Value} (hgd : Region.wanted o (yielded ops a.tmps) = true) (hrun : (execOp a.eval o).run P w = .ok (.value v) w) (h : wpList P ops Q rest (a.put o.dst v) w) : wpList P ops Q (o :: rest) a w := by
 refine wpList_want hgd fun K hK => ?_
 unfold Oper.wp
 rw [hrun]
 exact hK _ _ h
theorem add_off (b off k : Nat) : (⟨b, off, none⟩ : Addr).add k = ⟨b, off + k, none⟩ := by unfold Addr.add; split <;> simp_all
end
def waitsFor (ops : Array Oper) (k i : Nat) : Bool := ((ops.toList[k]?).map fun o => o.after.any fun e => Region.binds .any e && e.on == i).getD false
section
variable {P : Program} {ops : Array Oper} {Q : Exit → Act → World → Prop} {X : List (Nat × Nat)} {G : Nat → Value → World → Prop} {a0 : Act} {w0 : World} {listed0 : Array Bool}
theorem getD_put_same {a : Act} {d : Nat} {v : Value} (h : d < a.tmps.size) : (a.put (some d) v).tmps.getD d undef = v := by simp [Act.put, h]
theorem getD_put_other {a : Act} {d t : Nat} {v : Value} (h : d ≠ t) : (a.put (some d) v).tmps.getD t undef = a.tmps.getD t undef := by simp [Act.put, h]
end
def callable (P : Program) (f : FuncId) : Bool := match P.funcs[f]? with
 | some fn => !(fn.name == "runtime.NumGoroutine") && fn.body.isSome
 | none => false
theorem callOp {P : Program} {w : World} {ops : Array Oper} {rest : List Oper} {o : Oper} {a : Act} {Q : Exit → Act → World → Prop} {c : Operand} {args : Array Operand} {argTypes : Array TypeId} (f : FuncId) (vals first caps : List Value)
 (hf : callable P f = true) (hgd : Region.wanted o (yielded ops a.tmps) = true) (ho : o.op = .call { callee := .value c, args, argTypes }) (hc : a.eval c = .func (.func f) first.toArray caps.toArray) (hargs : args.toList.map a.eval = vals)
 (h : Calls P f (first ++ vals ++ caps).toArray w (fun e w' => ∃ v, e = .returned v ∧ wpList P ops Q rest (a.put o.dst v) w')) : wpList P ops Q (o :: rest) a w := by
 unfold callable at hf
 cases hfn : P.funcs[f]? with
 | none => rw [hfn] at hf; cases hf
 | some fn =>
  rw [hfn] at hf
  simp only [Bool.and_eq_true, Bool.not_eq_true', beq_eq_false_iff_ne] at hf
  obtain ⟨h1, h2⟩ := hf
  obtain ⟨b, hb⟩ := Option.isSome_iff_exists.1 h2
  refine wpList_want hgd fun K hK => ?_
  unfold Oper.wp execOp
  have hargs' : args.map a.eval = vals.toArray := by
   apply Array.ext'
   rw [Array.toList_map, hargs]
  have hrun : ∀ vs, (callFunc f vs).run P w = .ok (.enter f vs) w := fun vs => by simp [callFunc, hfn, h1, hb]
  have happ : first.toArray ++ vals.toArray ++ caps.toArray = (first ++ vals ++ caps).toArray := by simp
  simp only [ho, resolve, hc, Deferred.ofValue, invoke, Sem.run_bind, Sem.run_pure, Result.andThen_ok, hargs', hrun, Oper.upon, happ]
  refine h.mono fun e w' ⟨v, he, hw⟩ => ?_
  subst he
  exact hK _ _ hw
section
variable {P : Program} {w : World} {o : Oper} {a : Act} {t ty : TypeId} {A B C : Int}
theorem addRun (x y : Operand) (ho : o.op = .binOp .add t x y ty) (hx : a.eval x = .int .i64 A) (hy : a.eval y = .int .i64 B) (hC : A + B = C) (h : -9223372036854775808 ≤ C ∧ C ≤ 9223372036854775807) : (execOp a.eval o).run P w = .ok (.value (.int .i64 C)) w := by
 have hw := IntWalk.i64_in C h
 unfold execOp
 simp [ho, hx, hy, eqGuard, binOp_add, Op.intArith, hC, hw]
theorem subRun (x y : Operand) (ho : o.op = .binOp .sub t x y ty) (hx : a.eval x = .int .i64 A) (hy : a.eval y = .int .i64 B) (hC : A - B = C) (h : -9223372036854775808 ≤ C ∧ C ≤ 9223372036854775807) : (execOp a.eval o).run P w = .ok (.value (.int .i64 C)) w := by
 have hw := IntWalk.i64_in C h
 unfold execOp
 simp [ho, hx, hy, eqGuard, binOp_sub, Op.intArith, hC, hw]
theorem mulRun (x y : Operand) (ho : o.op = .binOp .mul t x y ty) (hx : a.eval x = .int .i64 A) (hy : a.eval y = .int .i64 B) (hC : A * B = C) (h : -9223372036854775808 ≤ C ∧ C ≤ 9223372036854775807) : (execOp a.eval o).run P w = .ok (.value (.int .i64 C)) w := by
 have hw := IntWalk.i64_in C h
 unfold execOp
 simp [ho, hx, hy, eqGuard, binOp_mul, Op.intArith, hC, hw]
theorem shrRun {n : Nat} (x y : Operand) (ho : o.op = .binOp .shr t x y ty) (hx : a.eval x = .int .i64 A) (hy : a.eval y = .int .i64 (n : Int)) (_hn : n ≤ 64) : (execOp a.eval o).run P w = .ok (.value (.int .i64 (A / 2 ^ n))) w := by
 unfold execOp
 simp [ho, hx, hy, eqGuard, binOp_shr]
end
section
variable {P : Program} {w : World} {o : Oper} {a : Act} {t ty src dst : TypeId} {A B C : Int} {k : IntKind}
theorem remRun (x y : Operand) (ho : o.op = .binOp .rem t x y ty) (hx : a.eval x = .int .i64 A) (hy : a.eval y = .int .i64 B) (hA : 0 ≤ A) (hB : 1 ≤ B) (hC : A % B = C) : (execOp a.eval o).run P w = .ok (.value (.int .i64 C)) w := by
 have h0 : ¬ B = 0 := by omega
 have h1 : A.tmod B = C := by rw [Int.tmod_eq_emod_of_nonneg hA, hC]
 unfold execOp
 simp [ho, hx, hy, eqGuard, binOp_rem, Op.intDiv, h0, h1]
end
end Go.Proofs.YtbpihalphhoiaaaGreatDoor
namespace Go.Proofs.YtbpihalphhoiaaaGreatDoor
open Go.RowKit Go.ChangeShapes Go.WideShapes
section
variable {H : Type} {enc : TypeId × Value → H} {P : Program} {w : World} {base : Nat} {held : Bool}
theorem chunk_get {α : Type} (f : Nat → List α) (n s : Nat) (hs : 0 < s) (hl : ∀ i, i < n → (f i).length = s) (j : Nat) (u : α) (h : ((List.range n).flatMap f)[j]? = some u) :
 j / s < n ∧ (f (j / s))[j % s]? = some u := by
 induction n generalizing j with
 | zero => simp at h
 | succ n ih =>
  rw [List.range_succ, List.flatMap_append] at h
  have hlen : ((List.range n).flatMap f).length = n * s := by
   clear h ih
   induction n with
   | zero => simp
   | succ n ih2 =>
    rw [List.range_succ, List.flatMap_append, List.length_append, ih2 (fun i hi => hl i (by omega))]
    simp [hl n (by omega), Nat.add_mul]
  rcases Nat.lt_or_ge j (n * s) with hj | hj
  ·rw [List.getElem?_append_left (by omega)] at h
   obtain ⟨h1, h2⟩ := ih (fun i hi => hl i (by omega)) j h
   exact ⟨by omega, h2⟩
  ·rw [List.getElem?_append_right (by omega), hlen] at h
   simp only [List.flatMap_cons, List.flatMap_nil, List.append_nil] at h
   have hlt : j - n * s < s := by
    have := (List.getElem?_eq_some_iff.1 h).1
    rw [hl n (by omega)] at this; exact this
   have hd : j / s = n := by
    rw [show j = (j - n * s) + n * s from by omega, Nat.add_mul_div_right _ _ hs, Nat.div_eq_of_lt hlt, Nat.zero_add]
   have hm : j % s = j - n * s := by
    rw [show j = (j - n * s) + n * s from by omega, Nat.add_mul_mod_self_right, Nat.mod_eq_of_lt hlt]; omega
   rw [hd, hm]
   exact ⟨by omega, h⟩
theorem br_slice {α : Type} {t e : TypeId} {s : Nat} (f : α → List Value) (R : α → DataW H → Prop) (ht : P.underlying t = some (.slice e)) (hs : P.cellsOf e = s) (hpos : 0 < s)
 (el : ∀ fuel cs' d pl, cs'.length = s → DataW.trod enc P w base (fun _ => true) held fuel e cs' = some (d, pl) → ∃ x : α, cs' = f x ∧ R x d)
 {fuel : Nat} {cs : List Value} {x : DataW H × List MemPlace} (h : DataW.trod enc P w base (fun _ => true) held fuel t cs = some x) :
 ∃ (A : Option Addr) (n c : Nat) (xs : List α) (D sp : List (DataW H)), cs = [.slice A n c] ∧ xs.length = n ∧ Rd w w.heap.size s A n c (xs.flatMap f) ∧
  (∀ y ∈ xs, (f y).length = s) ∧ (x.1 = .slice D sp ∨ x.1 = .nil ∧ n = 0) ∧ D.length = n ∧ (∀ (i : Nat) (y : α), xs[i]? = some y → ∃ d, D[i]? = some d ∧ R y d) := by
 rcases Deep.open_slice ht h with ⟨rfl, rfl⟩ | ⟨a, len, cap, m, k, D, Pl, rfl, hb, hl, hm, hmc, rfl, hel⟩
 ·exact ⟨none, 0, 0, [], [], [], rfl, rfl, Rd.nil _ _ _, by simp, Or.inr ⟨rfl, rfl⟩, rfl, by simp⟩
 ·simp only [if_true] at hmc
  subst hmc
  by_cases h0 : len = 0
  ·subst h0
   exact ⟨some a, 0, m, [], [], _, rfl, rfl, ⟨by simp, Nat.zero_le _, hm, fun hh => absurd hh (by omega)⟩, by simp, Or.inl rfl, rfl, by simp⟩
  have each : ∀ i, i < len → ∃ y : α, w.cells? base (a.add (i * s)) s = some (f y) ∧ (f y).length = s ∧ R y (D i) := by
   intro i hi
   obtain ⟨cs', hc, ht'⟩ := hel i (by omega)
   rw [hs] at hc
   have hcl := (World.cells?_some hc).2.1
   obtain ⟨y, rfl, hR⟩ := el k cs' _ _ hcl ht'
   exact ⟨y, hc, hcl, hR⟩
  obtain ⟨y0, _⟩ := each 0 (by omega)
  have : Inhabited α := ⟨y0⟩
  obtain ⟨F, hF⟩ := Deep.choose_lt each
  obtain ⟨hc0, hl0, _⟩ := hF 0 (by omega)
  have hget : ∀ i, i < len → ∀ j u, (f (F i))[j]? = some u → w.cell? (a.add (i * s + j)) = some u := by
   intro i hi j u hj
   have hjl := (List.getElem?_eq_some_iff.1 hj).1
   rw [(hF i hi).2.1] at hjl
   have := (World.cells?_some (hF i hi).1).2.2 j hjl
   rw [hj, Deep.add_add] at this
   exact this
  have hspot : a = ⟨a.block, a.off, none⟩ := by
   obtain ⟨u, hu⟩ : ∃ u, (f (F 0))[0]? = some u := ⟨(f (F 0))[0]'(by omega), List.getElem?_eq_getElem (by omega)⟩
   have hc := hget 0 (by omega) 0 u hu
   rw [Nat.zero_mul, Nat.zero_add] at hc
   cases a with
   | mk b o spo =>
    cases spo with
    | none => rfl
    | some q =>
     exfalso
     simp only [Addr.add, if_true] at hc
     unfold World.cell? at hc
     split at hc <;> simp at hc
  have hadd : ∀ j, a.add j = ⟨a.block, a.off + j, none⟩ := by
   intro j
   unfold Addr.add
   split
   ·rename_i hj; subst hj; exact hspot
   ·rfl
  refine ⟨some a, len, m, (List.range len).map F, (List.range len).map D, _, rfl, by simp, ?_, ?_, Or.inl rfl, by simp, ?_⟩
  ·have hfl : ((List.range len).map F).flatMap f = (List.range len).flatMap fun i => f (F i) := by rw [List.flatMap_map]
   rw [hfl]
   refine ⟨?_, hl, hm, fun _ => ⟨a.block, a.off, congrArg some hspot, ?_, fun j u hj => ?_⟩⟩
   ·rw [List.length_flatMap]
    have e : (List.range len).map (fun i => (f (F i)).length) = (List.range len).map fun _ => s := List.map_congr_left fun i hi => (hF i (List.mem_range.1 hi)).2.1
    rw [e, List.map_const', List.length_range]; simp [List.sum_replicate_nat]
   ·obtain ⟨u, hu⟩ : ∃ u, (f (F 0))[0]? = some u := ⟨(f (F 0))[0]'(by omega), List.getElem?_eq_getElem (by omega)⟩
    have hc := hget 0 (by omega) 0 u hu
    rw [hadd] at hc
    exact World.block_lt_of_cell? w ⟨a.block, _, none⟩ hc
   ·obtain ⟨h1, h2⟩ := chunk_get (fun i => f (F i)) len s hpos (fun i hi => (hF i hi).2.1) j u hj
    have := hget _ h1 _ _ h2
    rw [hadd] at this
    rw [show j = j / s * s + j % s from (Nat.div_add_mod' j s).symm]
    exact this
  ·intro y hy
   obtain ⟨i, hi, rfl⟩ := List.mem_map.1 hy
   exact (hF i (List.mem_range.1 hi)).2.1
  ·intro i y hy
   rw [List.getElem?_map] at hy
   obtain ⟨i', hi', rfl⟩ := Option.map_eq_some_iff.1 hy
   have hlt : i < len := by
    have := (List.getElem?_eq_some_iff.1 hi').1
    simpa using this
   have : i' = i := by
    have h := List.getElem?_range hlt
    rw [h] at hi'; exact (Option.some.inj hi').symm
   subst this
   exact ⟨D i', by rw [List.getElem?_map, hi']; rfl, (hF i' hlt).2.2⟩
theorem flat_one {α β : Type} (f : α → β) : ∀ l : List α, l.map f = l.flatMap fun x => [f x]
 | [] => rfl
 | x :: l => by rw [List.map_cons, List.flatMap_cons, flat_one f l]; rfl
end
end Go.Proofs.YtbpihalphhoiaaaGreatDoor
namespace Go.Proofs.YtbpihalphhoiaaaGreatDoor
open Go.RowKit
section
variable {w w' : World} {g B : Nat} {l : List UInt8}
end
def reachD (ops : Array Oper) (D : List Nat) : Nat → Nat → Nat → Bool
 | 0, k, p => waitsFor ops k p
 | f + 1, k, p => waitsFor ops k p || D.any fun q => waitsFor ops k q && reachD ops D f q p
def closedD (ops : Array Oper) (D : List Nat) (listed : Array Bool) : Bool := D.all fun q => !listed.getD q true || D.all fun p => !waitsFor ops q p || listed.getD p true
theorem closedD_spec {ops : Array Oper} {D : List Nat} {listed : Array Bool} (h : closedD ops D listed = true) {q p : Nat} (hq : q ∈ D) (hp : p ∈ D) (hl : listed.getD q true = true) (hw : waitsFor ops q p = true) : listed.getD p true = true := by
 have h1 := List.all_eq_true.1 h q hq
 rw [hl] at h1
 have h2 := List.all_eq_true.1 (by simpa using h1 : (D.all fun p => !waitsFor ops q p || listed.getD p true) = true) p hp
 rw [hw] at h2
 simpa using h2
theorem reachD_listed {ops : Array Oper} {D : List Nat} {listed : Array Bool} (hc : closedD ops D listed = true) {p : Nat} (hp : p ∈ D) :
 ∀ (f k : Nat), (∀ q ∈ D, waitsFor ops k q = true → listed.getD q true = true) → reachD ops D f k p = true → listed.getD p true = true
 | 0, _, hk, h => hk p hp h
 | f + 1, k, hk, h => by
  unfold reachD at h
  rw [Bool.or_eq_true] at h
  rcases h with h | h
  ·exact hk p hp h
  ·obtain ⟨q, hq, h2⟩ := List.any_eq_true.1 h
   rw [Bool.and_eq_true] at h2
   exact reachD_listed hc hp f q (fun r hr hw => closedD_spec hc hq hr (hk q hq h2.1) hw) h2.2
theorem waits_ready {ops : Array Oper} {listed : Array Bool} {j q : Nat} (hj : j ∈ Region.ready .any ops listed) (hw : waitsFor ops j q = true) : listed.getD q true = true := by
 obtain ⟨_, oj, hoj, hall⟩ := mem_ready.1 hj
 unfold waitsFor at hw
 rw [show ops.toList[j]? = some oj by rw [← hoj]; simp] at hw
 simp only [Option.map_some, Option.getD_some] at hw
 obtain ⟨e, he, hb⟩ := Array.any_eq_true'.1 hw
 simp only [Bool.and_eq_true, beq_iff_eq] at hb
 have h1 := hall e he hb.1
 rw [hb.2] at h1
 rcases Nat.lt_or_ge q listed.size with h' | h'
 ·simp [h'] at h1 ⊢
  exact h1
 ·simp [h']
theorem closedD_set {ops : Array Oper} {D : List Nat} {listed : Array Bool} {j : Nat} (hc : closedD ops D listed = true) (hj : j ∈ Region.ready .any ops listed) : closedD ops D (listed.setIfInBounds j true) = true := by
 refine List.all_eq_true.2 fun q hq => ?_
 cases hl : (listed.setIfInBounds j true).getD q true with
 | false => rfl
 | true =>
  simp only [Bool.not_true, Bool.false_or]
  refine List.all_eq_true.2 fun p hp => ?_
  cases hw : waitsFor ops q p with
  | false => rfl
  | true =>
   simp only [Bool.not_true, Bool.false_or]
   by_cases hpj : p = j
   ·subst hpj
    by_cases hlt : p < listed.size
    ·simp [hlt]
    ·simp [hlt]
   ·rw [getD_set_ne true (Ne.symm hpj)]
    by_cases hqj : q = j
    ·subst hqj; exact waits_ready hj hw
    ·rw [getD_set_ne true (Ne.symm hqj)] at hl
     exact closedD_spec hc hq hp hl hw
section
variable {P : Program} {ops : Array Oper} {Q : Exit → Act → World → Prop} {S : World → Prop} {c : Nat} {D : List Nat} {listed : Array Bool} {a : Act} {w : World} {fuel : Nat}
def wpAnyL (P : Program) (ops : Array Oper) (Q : Exit → Act → World → Prop) (S : World → Prop) (c : Nat) : Nat → Array Bool → Act → World → Prop
 | 0, listed, a, w => Region.ready .any ops listed = [] ∧ Q .normal a w
 | fuel + 1, listed, a, w =>
  (Region.ready .any ops listed = [] → Q .normal a w) ∧
  ∀ i ∈ Region.ready .any ops listed, wpOp P ops Q i (fun a' w' => ((listed.setIfInBounds i true).getD c true = false → S w') ∧ wpAnyL P ops Q S c fuel (listed.setIfInBounds i true) a' w') a w
theorem wpAny_of_L : ∀ (fuel : Nat) (listed : Array Bool) (a : Act) (w : World), wpAnyL P ops Q S c fuel listed a w → wpAny P .any ops Q fuel listed a w
 | 0, _, _, _, h => h
 | fuel + 1, _, _, _, h => ⟨h.1, fun i hi => wpOp_mono (fun a' w' h' => wpAny_of_L fuel _ a' w' h'.2) (h.2 i hi)⟩
theorem wpAnyL_first {i f : Nat} {oi : Oper} {v : Value} (hi : ops[i]? = some oi) (hsel : ∀ (j : Nat) (o : Oper) cs b, ops[j]? = some o → o.op ≠ .select cs b)
 (hQ : ∀ c a w, Q (.panic c) (a.put oi.dst v) w → Q (.panic c) a w) (hD : i ∈ D) (hcr : reachD ops D f c i = true) (hne : i ≠ c) :
 ∀ (fuel : Nat) (listed : Array Bool) (a : Act) (w : World), listed.getD c true = false → closedD ops D listed = true →
  (∀ j oj, ops[j]? = some oj → j ≠ i → listed.getD j true = false → (∀ e ∈ oj.after, Region.binds .any e = true → e.on ≠ i) → oi.apart ops oj = true) →
  i ∈ Region.ready .any ops listed → YieldsIf P ops S oi v a → S w →
  wpAnyL P ops Q S c fuel (listed.setIfInBounds i true) (a.put oi.dst v) w → wpAnyL P ops Q S c (fuel + 1) listed a w := by
 intro fuel
 induction fuel with
 | zero =>
  intro listed a w _ _ _ hr hy hS H
  refine ⟨fun h => (by rw [h] at hr; cases hr), fun j hj => ?_⟩
  by_cases hji : j = i
  ·subst hji; exact hy.wpOp hi hS ⟨fun _ => hS, H⟩
  ·have := ready_mono hj hji
   rw [H.1] at this
   cases this
 | succ fuel ih =>
  intro listed a w hc hcl hfree hr hy hS H
  refine ⟨fun h => (by rw [h] at hr; cases hr), fun j hj => ?_⟩
  by_cases hji : j = i
  ·subst hji; exact hy.wpOp hi hS ⟨fun _ => hS, H⟩
  ·have h1 := H.2 j (ready_mono hj hji)
   obtain ⟨hjun, oj, hoj, hall⟩ := mem_ready.1 hj
   have hnot : ∀ e ∈ oj.after, Region.binds .any e = true → e.on ≠ i := fun e he hb heq => by
    have h1 := hall e he hb
    have h0 := (mem_ready.1 hr).1
    rw [heq] at h1
    rcases Nat.lt_or_ge i listed.size with h' | h'
    ·simp [h'] at h0 h1; rw [h0] at h1; cases h1
    ·simp [Array.getElem?_eq_none h'] at h1
   have hjc : j ≠ c := fun e => by
    subst e
    have h2 := reachD_listed hcl hD f j (fun q _ hw => waits_ready hj hw) hcr
    have h0 := (mem_ready.1 hr).1
    rw [h0] at h2
    cases h2
   have hcj : (listed.setIfInBounds j true).getD c true = false := by rw [getD_set_ne true hjc]; exact hc
   have h2 := wpOp_putIf hoj (hfree j oj hoj hji hjun hnot) (fun cs b => hsel i oi cs b hi) (fun cs b => hsel j oj cs b hoj) hQ hy h1
   have hfree' : ∀ k ok, ops[k]? = some ok → k ≠ i → (listed.setIfInBounds j true).getD k true = false →
    (∀ e ∈ ok.after, Region.binds .any e = true → e.on ≠ i) → oi.apart ops ok = true := fun k ok hk hki hun hno => by
    refine hfree k ok hk hki ?_ hno
    by_cases hjk : j = k
    ·subst hjk; exact hjun
    ·rw [getD_set_ne true hjk] at hun; exact hun
   refine wpOp_mono (fun a' w' h3 => ?_) h2
   have hS' : S w' := h3.2.1 (by rw [getD_set_ne true hjc, getD_set_ne true hne]; exact hc)
   refine ⟨fun _ => hS', ih (listed.setIfInBounds j true) a' w' hcj (closedD_set hcl hj) hfree' (ready_mono hr (Ne.symm hji)) h3.1 hS' ?_⟩
   rw [Array.setIfInBounds_comm _ _ hji]
   exact h3.2.2
theorem lgStart {id : Nat} (S : World → Prop) (c : Nat) (hm : P.follows .mixedOrders = true) (h : wpAnyL P ops Q S c ops.size (Array.replicate ops.size false) a w.drew) : (Code.region id ops true).wp P Q a w :=
 wp_region_any hm (wpAny_of_L _ _ _ _ h)
theorem lgTake (D : List Nat) {i : Nat} {o : Oper} {v : Value} (hi' : ops.toList[i]? = some o) (hm : (mayFirst ops listed i && D.contains i && reachD ops D 8 c i && closedD ops D listed && !(i == c) && !listed.getD c true) = true) (hw : Region.wanted o (yielded ops a.tmps) = true)
 (hQ : ∀ c a w, Q (.panic c) (a.put o.dst v) w → Q (.panic c) a w) (hy : ∀ w, S w → (execOp a.eval o).run P w = .ok (.value v) w) (hS : S w)
 (h : wpAnyL P ops Q S c fuel (listed.setIfInBounds i true) (a.put o.dst v) w) : wpAnyL P ops Q S c (fuel + 1) listed a w := by
 have hi : ops[i]? = some o := by rw [← hi']; simp
 simp only [Bool.and_eq_true, Bool.not_eq_true', beq_eq_false_iff_ne, ne_eq] at hm
 obtain ⟨⟨⟨⟨⟨hm, hD⟩, hr⟩, hcl⟩, hne⟩, hc⟩ := hm
 simp only [mayFirst, Bool.and_eq_true] at hm
 exact wpAnyL_first (D := D) hi (Region.noSelect_spec hm.1.1) hQ (by simpa using hD) hr hne fuel listed a w hc hcl (Region.free_spec hi hm.1.2) (by simpa using hm.2) (Or.inl ⟨hw, hy⟩) hS h
theorem lgNext {i : Nat} {o : Oper} (hr : Region.ready .any ops listed = [i]) (hi' : ops.toList[i]? = some o) (hc : (listed.setIfInBounds i true).getD c true = true)
 (h : wpList P ops (Exit.then (wpAnyL P ops Q S c fuel (listed.setIfInBounds i true)) Q) [o] a w) : wpAnyL P ops Q S c (fuel + 1) listed a w := by
 have hi : ops[i]? = some o := by rw [← hi']; simp
 refine ⟨fun h0 => (by rw [hr] at h0; cases h0), ?_⟩
 rw [hr]
 intro j hj
 rw [List.mem_singleton] at hj
 subst hj
 exact wpOp_mono (fun a' w' h' => ⟨fun h0 => (by rw [hc] at h0; cases h0), h'⟩) (wpOp_of_list hi h)
theorem lgNextS {i : Nat} {o : Oper} (hr : Region.ready .any ops listed = [i]) (hi' : ops.toList[i]? = some o)
 (h : wpList P ops (Exit.then (fun a' w' => S w' ∧ wpAnyL P ops Q S c fuel (listed.setIfInBounds i true) a' w') Q) [o] a w) : wpAnyL P ops Q S c (fuel + 1) listed a w := by
 have hi : ops[i]? = some o := by rw [← hi']; simp
 refine ⟨fun h0 => (by rw [hr] at h0; cases h0), ?_⟩
 rw [hr]
 intro j hj
 rw [List.mem_singleton] at hj
 subst hj
 exact wpOp_mono (fun a' w' h' => ⟨fun _ => h'.1, h'.2⟩) (wpOp_of_list hi h)
theorem lgDone (hr : Region.ready .any ops listed = []) (h : Q .normal a w) : wpAnyL P ops Q S c fuel listed a w := by
 cases fuel with
 | zero => exact ⟨hr, h⟩
 | succ n => exact ⟨fun _ => h, by rw [hr]; simp⟩
end
def SameOrNew (v v' : Value) (N : Nat) : Prop := v'.ownBlock = v.ownBlock ∨ ∃ g, v'.ownBlock = some g ∧ N ≤ g
section
variable {P : Program} {w w0 : World} {ops : Array Oper} {rest : List Oper} {o : Oper} {a : Act} {Q : Exit → Act → World → Prop}
end
section
variable {P : Program} {w : World} {ops : Array Oper} {rest : List Oper} {o : Oper} {a : Act} {Q : Exit → Act → World → Prop}
theorem iaRow {t e : TypeId} {z : Value} {size bytes b off n c : Nat} {kk : IntKind} {K : Int} (x y : Operand) (k : Nat) (T : SlTy P t e z size bytes) (hgd : Region.wanted o (yielded ops a.tmps) = true)
 (ho : o.op = .indexAddr t x y) (hx : a.eval x = .slice (some ⟨b, off, none⟩) n c) (hy : a.eval y = .int kk K) (hK : K = (k : Int)) (hk : k < n)
 (h : wpList P ops Q rest (a.put o.dst (.pointer (some ⟨b, off + k * size, none⟩))) w) : wpList P ops Q (o :: rest) a w := by
 subst hK
 obtain ⟨i, hi, hz0, hz1, hz2⟩ := info_parts T.inf
 refine opVal (v := .pointer (some ⟨b, off + k * size, none⟩)) hgd ?_ h
 have ht : P.underlying t = some (.slice (P.elem t)) := by rw [T.und]; simp [Program.elem, T.und]
 have he : P.elem t = e := by have := T.und; rw [this] at ht; injection ht with ht; injection ht with ht; exact ht.symm
 have hr := run_indexAt_slice (P := P) w t ⟨b, off, none⟩ n c kk (k : Int) ht
 rw [if_pos ⟨by omega, by omega⟩, he, Int.toNat_natCast] at hr
 unfold execOp
 simp only [ho, hx, hy, Sem.run_bind, Sem.run_pure]
 rw [hr]
 simp [sizeOf, typeInfo, hi, hz1, add_off]
theorem iaRun {w : World} {o : Oper} {a : Act} {t e : TypeId} {b off n s : Nat} {kk : IntKind} {K : Int} (x y : Operand) (k : Nat) (hu : P.underlying t = some (.array n e)) (he : (P.info? e).map (·.size) = some s)
 (ho : o.op = .indexAddr t x y) (hx : a.eval x = .pointer (some ⟨b, off, none⟩)) (hy : a.eval y = .int kk K) (hK : K = (k : Int)) (hk : k < n) : (execOp a.eval o).run P w = .ok (.value (.pointer (some ⟨b, off + k * s, none⟩))) w := by
 subst hK
 obtain ⟨j, hj, hs⟩ := Option.map_eq_some_iff.1 he
 have hl : P.arrayLen t = n := by simp [Program.arrayLen, hu]
 have hel : P.elem t = e := by simp [Program.elem, hu]
 have ht : P.underlying t = some (.array (P.arrayLen t) (P.elem t)) := by rw [hl, hel]; exact hu
 have hr := run_indexAt_array (P := P) w t ⟨b, off, none⟩ kk (k : Int) ht
 rw [hl, if_pos ⟨by omega, by omega⟩, hel, Int.toNat_natCast] at hr
 unfold execOp
 simp only [ho, hx, hy, Sem.run_bind, Sem.run_pure]
 rw [hr]
 simp [sizeOf, typeInfo, hj, hs, add_off]
end
theorem iaRowRun {P : Program} {w : World} {o : Oper} {a : Act} {t e : TypeId} {z : Value} {size bytes b off n c : Nat} {kk : IntKind} {K : Int} (x y : Operand) (k : Nat) (T : SlTy P t e z size bytes)
 (ho : o.op = .indexAddr t x y) (hx : a.eval x = .slice (some ⟨b, off, none⟩) n c) (hy : a.eval y = .int kk K) (hK : K = (k : Int)) (hk : k < n) : (execOp a.eval o).run P w = .ok (.value (.pointer (some ⟨b, off + k * size, none⟩))) w := by
 subst hK
 obtain ⟨i, hi, hz0, hz1, hz2⟩ := info_parts T.inf
 have ht : P.underlying t = some (.slice (P.elem t)) := by rw [T.und]; simp [Program.elem, T.und]
 have he : P.elem t = e := by have := T.und; rw [this] at ht; injection ht with ht; injection ht with ht; exact ht.symm
 have hr := run_indexAt_slice (P := P) w t ⟨b, off, none⟩ n c kk (k : Int) ht
 rw [if_pos ⟨by omega, by omega⟩, he, Int.toNat_natCast] at hr
 unfold execOp
 simp only [ho, hx, hy, Sem.run_bind, Sem.run_pure]
 rw [hr]
 simp [sizeOf, typeInfo, hi, hz1, add_off]
theorem own_of_arr {w : World} {b n size base : Nat} {t : TypeId} {cur : List Value} (h : Arr w b t cur) (hl : cur.length = n * size) (hb : base ≤ b) (hn : n ≤ maxLen) : w.ownsRow base t size (.slice (some ⟨b, 0, none⟩) n n) n cur :=
 ⟨hl, Or.inr ⟨b, n, cur.toArray, rfl, hb, h, Nat.le_refl _, hn, by simpa using hl, by simp; exact List.take_of_length_le (by omega)⟩⟩
theorem Tryz.und_int : Tryz.prog.underlying 3 = some (.int .i64) := by kernel_rfl
theorem Tryz.one_int : (Tryz.prog.info? 3).map (·.size) = some 1 := by kernel_rfl
theorem stArrG {P : Program} {w : World} {ops : Array Oper} {rest : List Oper} {o : Oper} {a : Act} {Q : Exit → Act → World → Prop} {ty : TypeId} {n b : Nat} {z : Array Value} {cur cs : List Value} (x y : Operand) (T : AgTy P ty z n) (hgd : Region.wanted o (yielded ops a.tmps) = true) (ho : o.op = .store ty x y)
 (hx : a.eval x = .pointer (some ⟨b, 0, none⟩)) (hy : a.eval y = .agg cs.toArray) {t : TypeId} (hA : Arr w b t cur) (hs : cur.length = n) (hl : cs.length = n) (h1 : ∀ u ∈ cs, u.oneCell' = true)
 (h : ∀ w', Arr w' b t cs → w.grownBy w' (some b) → wpList P ops Q rest (a.put o.dst undef) w') : wpList P ops Q (o :: rest) a w := by
 refine wpList_want hgd fun K hK => ?_
 unfold Oper.wp execOp
 simp only [ho, hx, hy, Instr.storeAt, Instr.sureAddr, Sem.run_bind, Sem.run_pure, Result.andThen_ok, run_storeAgg T hA (by rw [List.size_toArray]; exact hs) (by rw [List.size_toArray]; exact hl) (by intro u hu; exact h1 u (by simpa using hu))]
 refine hK _ _ (h _ (hA.setRow cs) ⟨rfl, rfl, rfl, by simp [World.setRow], fun k hk hne => ?_⟩)
 unfold World.setRow
 have : b ≠ k := fun e => hne (by rw [e])
 simp [Array.getElem?_modify, this]
theorem Arr.grown {w w' : World} {b : Nat} {t : TypeId} {cur : List Value} {r : Option Nat} (h : Arr w b t cur) (hg : w.grownBy w' r) (hne : some b ≠ r) : Arr w' b t cur := (hg.block b h.lt hne).trans h
section
variable {P : Program} {w : World} {o : Oper} {a : Act} {t ty src dst : TypeId}
theorem ldRun {p : Addr} {v : Value} (x : Operand) (hu : ((P.underlying ty).map fun d => match d with | .struct _ | .array _ _ => true | _ => false) = some false)
 (ho : o.op = .load ty x) (hx : a.eval x = .pointer (some p)) (hc : w.cell? p = some v) : (execOp a.eval o).run P w = .ok (.value v) w := by
 obtain ⟨d, hd, h2⟩ := Option.map_eq_some_iff.1 hu
 have ha : (isAgg ty).run P w = .ok false w := by
  unfold isAgg
  rw [Sem.run_bind, run_underlying hd w]
  cases d <;> simp_all
 have hl : (Instr.loadAt ty (.pointer (some p))).run P w = .ok v w := by
  simp [Instr.loadAt, Instr.sureAddr, loadVar, ha, hc]
 unfold execOp
 simp only [ho, hx, Sem.run_bind, Sem.run_pure, hl, Result.andThen_ok]
end
section
variable {P : Program} {w : World} {o : Oper} {a : Act} {t ty src dst : TypeId}
end
section
variable {P : Program} {w : World} {o : Oper} {a : Act} {t ty src dst : TypeId}
theorem lenSlRun {e : TypeId} {A : Option Addr} {n c : Nat} (x : Operand) (ht : P.underlying t = some (.slice e)) (ho : o.op = .call { callee := .builtin .len, args := #[x], argTypes := #[t] }) (hx : a.eval x = .slice A n c) : (execOp a.eval o).run P w = .ok (.value (.int .i64 (n : Int))) w := by
 unfold execOp
 simp [ho, hx, resolve, invoke, builtin, Builtin.len_, run_underlying ht, goInt]
end
section
variable {P : Program} {w : World} {o : Oper} {a : Act} {t ty src dst : TypeId}
theorem leqRun {A B : Int} (x y : Operand) (ho : o.op = .binOp .leq t x y ty) (hx : a.eval x = .int .i64 A) (hy : a.eval y = .int .i64 B) : (execOp a.eval o).run P w = .ok (.value (.bool (decide (A ≤ B)))) w := by
 unfold execOp
 simp [ho, hx, hy, eqGuard, binOp_leq]
end
theorem ixArr {P : Program} {w : World} {ops : Array Oper} {rest : List Oper} {o : Oper} {a : Act} {Q : Exit → Act → World → Prop} {t e : TypeId} {n : Nat} {k2 : IntKind} {cs : List Value} {kk : IntKind} {K : Int} (x y : Operand) (i : Nat) (v : Value)
 (hu : P.underlying t = some (.array n e)) (hue : P.underlying e = some (.int k2)) (he : (P.info? e).map (·.size) = some 1) (hgd : Region.wanted o (yielded ops a.tmps) = true)
 (ho : o.op = .index t x y) (hx : a.eval x = .agg cs.toArray) (hy : a.eval y = .int kk K) (hK : K = (i : Int)) (hv : cs[i]? = some v) (hl : cs.length = n)
 (h : wpList P ops Q rest (a.put o.dst v) w) : wpList P ops Q (o :: rest) a w := by
 subst hK
 obtain ⟨j, hj, hs⟩ := Option.map_eq_some_iff.1 he
 have hlt : i < n := by rw [← hl]; exact (List.getElem?_eq_some_iff.1 hv).1
 refine opVal (v := v) hgd ?_ h
 unfold execOp
 have hp : (Go.part e cs.toArray i).run P w = .ok v w := by
  unfold Go.part
  have ha : (isAgg e).run P w = .ok false w := by
   unfold isAgg
   rw [Sem.run_bind, run_underlying hue w]
   rfl
  simp [ha, hv]
 simp [ho, hx, hy, Instr.index, asIntOf, run_underlying hu, sizeOf, typeInfo, hj, hs, hlt, hp]
def ics (l : List Int) : List Value := l.map fun n => Value.int .i64 n
section
variable {P : Program} {ops : Array Oper} {Q : Exit → Act → World → Prop} {X : List (Nat × Nat)} {G : Nat → Value → World → Prop} {D : Nat → Nat → Value → Value → Prop} {a0 : Act} {w0 : World} {listed0 : Array Bool}
end
section
variable {P : Program} {ops : Array Oper} {rest : List Oper} {o : Oper} {a : Act} {Q : Exit → Act → World → Prop} {w : World}
theorem spl_set1 (cur : List Value) (i : Nat) (v : Value) (h : i < cur.length) : spl cur i [v] = cur.set i v := by
 apply List.ext_getElem?
 intro j
 rw [spl_at (by show i + 1 ≤ _; omega)]
 by_cases h1 : j < i
 ·rw [if_pos h1, List.getElem?_set_ne (by omega)]
 ·rw [if_neg h1]
  by_cases h2 : j < i + [v].length
  ·rw [if_pos h2]
   simp only [List.length_cons, List.length_nil] at h2
   obtain rfl : j = i := by omega
   rw [Nat.sub_self, List.getElem?_set_self h]
   rfl
  ·rw [if_neg h2]
   simp only [List.length_cons, List.length_nil] at h2
   rw [List.getElem?_set_ne (by omega)]
theorem stCellG {ty t : TypeId} {b i : Nat} {cur : List Value} {v v0 : Value} (x y : Operand) (hsz : (P.info? ty).map (·.size) = some 1) (hgd : Region.wanted o (yielded ops a.tmps) = true) (ho : o.op = .store ty x y)
 (hx : a.eval x = .pointer (some ⟨b, i, none⟩)) (hy : a.eval y = v) (hA : Arr w b t cur) (hi : cur[i]? = some v0) (hv : v.cells = #[v]) (h1 : v.oneCell' = true)
 (h : ∀ w', Arr w' b t (cur.set i v) → w.grownBy w' (some b) → wpList P ops Q rest (a.put o.dst undef) w') : wpList P ops Q (o :: rest) a w := by
 obtain ⟨d, hd, hs'⟩ := Option.map_eq_some_iff.1 hsz
 have hl := (List.getElem?_eq_some_iff.1 hi).1
 have hst := run_storeCells_spl (P := P) hA (off := i) [v] (by show i + 1 ≤ _; omega) (by intro u hu; rw [List.mem_singleton] at hu; rw [hu]; exact h1)
 rw [spl_set1 cur i v hl] at hst
 have hrun : (storeVar ty ⟨b, i, none⟩ v).run P w = .ok () (w.setRow b (cur.set i v).toArray) := by
  simp [storeVar, sizeOf, typeInfo, hd, hs', hv, hst]
 refine wpList_want hgd fun K hK => ?_
 unfold Oper.wp execOp
 simp only [ho, hx, hy, Instr.storeAt, Instr.sureAddr, Sem.run_bind, Sem.run_pure, Result.andThen_ok, hrun]
 refine hK _ _ (h _ (hA.setRow _) ⟨rfl, rfl, rfl, by simp [World.setRow], fun k hk hne => ?_⟩)
 unfold World.setRow
 have : b ≠ k := fun e => hne (by rw [e])
 simp [Array.getElem?_modify, this]
end
section
variable {P : Program} {w w0 : World} {ops : Array Oper} {rest : List Oper} {o : Oper} {a : Act} {Q : Exit → Act → World → Prop}
theorem alScG {ty : TypeId} {v : Value} (hz : (P.info? ty).map (fun i => i.zero.map Value.cells) = some (some #[v])) (hgd : Region.wanted o (yielded ops a.tmps) = true) (ho : o.op = .alloc ty)
 (h : ∀ w', Arr w' w.heap.size ty [v] → Below w.heap.size w w' → wpList P ops Q rest (a.put o.dst (.pointer (some ⟨w.heap.size, 0, none⟩))) w') : wpList P ops Q (o :: rest) a w := by
 obtain ⟨i, hi, hz⟩ := Option.map_eq_some_iff.1 hz
 obtain ⟨zv, hzv, hzc⟩ := Option.map_eq_some_iff.1 hz
 refine wpList_want hgd fun K hK => ?_
 unfold Oper.wp execOp
 simp only [ho]
 have hr : (Instr.alloc ty true (.tuple #[])).run P w = .ok (.pointer (some ⟨w.heap.size, 0, none⟩)) (w.alloc (.cells #[v] ty)) := by
  simp [Instr.alloc, zeroValue, typeInfo, hi, hzv, newVar, newRow, hzc]
 simp only [Sem.run_bind, Sem.run_pure, hr, Result.andThen_ok]
 exact hK _ _ (h _ (Arr.new w ty [v]) ((Below.refl _ _).alloc (Nat.le_refl _) _))
theorem appNB {t e : TypeId} {z : Value} {size bytes base n g : Nat} {v : Value} {xs ys : List Value} (s x : Operand) (T : SlTy P t e z size bytes) (hgd : Region.wanted o (yielded ops a.tmps) = true)
 (ho : o.op = .call { callee := .builtin .append, args := #[s, x], argTypes := #[t, t] })
 (hs : a.eval s = v) (hx : a.eval x = .slice (some ⟨g, 0, none⟩) 1 1)
 (hown : w.ownsRow base e size v n xs) (hA : Arr w g e ys) (hl : ys.length = size) (hb : Below base w0 w) (hbase : base ≤ w0.heap.size) (hu : ∀ u ∈ ys, u.oneCell' = true)
 (hn : n + 1 ≤ 70368744177664) (hby : (n + 1) * bytes ≤ 140737488355328)
 (h : ∀ v' w', w'.ownsRow base e size v' (n + 1) (xs ++ ys) → Below base w0 w' → w.grownBy w' v.ownBlock → SameOrNew v v' w.heap.size → wpList P ops Q rest (a.put o.dst v') w') :
 wpList P ops Q (o :: rest) a w := by
 obtain ⟨i, hi, hz0, hz1, hz2⟩ := info_parts T.inf
 have hsz : base ≤ w.heap.size := by have := hb.size; omega
 have hnews : ∀ j y, ys[j]? = some y → w.cell? ((⟨g, 0, none⟩ : Addr).add j) = some y := by
  intro j y hj
  rw [show (⟨g, 0, none⟩ : Addr).add j = ⟨g, j, none⟩ by unfold Addr.add; split <;> simp_all]
  exact hA.cell hj
 have hbl : ∀ k, v.ownBlock = some k → base ≤ k := fun k hk => (hown.lt k hk).1
 have hly : ys.length = 1 * size := by omega
 obtain ⟨v', w', hr, h2, h3, _⟩ := run_append_own (P := P) w base t o.type e i z size bytes T.und hi hz0 hz1 hz2 T.zs T.pos v n xs hown ⟨g, 0, none⟩ 1 1 ys hly hnews hu (by unfold maxLen; omega) hby hsz
 have hS : SameOrNew v v' w.heap.size := by
  rcases hown.2 with ⟨rfl, rfl⟩ | ⟨k, cap, cur, rfl, hbg, hg, hnc, hcm, hcs, htake⟩
  ·have hr2 := run_append_nil (P := P) w t o.type e i z T.und hi hz0 ⟨g, 0, none⟩ 1 1 ys (by rw [hz1]; exact hly) hnews (by omega) (by omega) (by have hb := hby; simp only [Nat.zero_add] at hb; rw [hz2]; omega)
   rw [hr2] at hr
   injection hr with e1 e2
   subst e1
   exact Or.inr ⟨_, rfl, Nat.le_refl _⟩
  ·by_cases hroom : n + 1 ≤ cap
   ·have hr2 := run_append_room (P := P) w t o.type e i T.und hi k n cap cur hg ⟨g, 0, none⟩ 1 1 ys (by rw [hz1]; exact hly) hnews hu hroom (by rw [hz1, hcs]; have := Nat.mul_le_mul_right size hroom; rw [Nat.add_mul] at this; omega)
    rw [hr2] at hr
    injection hr with e1 e2
    subst e1
    exact Or.inl rfl
   ·have hr2 := run_append_grow (P := P) w t o.type e i z T.und hi hz0 ⟨k, 0, none⟩ n cap xs (by rw [hz1]; exact hown.1) (hown.cells (g := k) rfl) ⟨g, 0, none⟩ 1 1 ys (by rw [hz1]; exact hly) hnews (by omega) (by omega) (growslice_fits (by omega) (by rw [hz2]; exact hby))
    rw [hr2] at hr
    injection hr with e1 e2
    subst e1
    exact Or.inr ⟨_, rfl, Nat.le_refl _⟩
 refine wpList_want hgd fun K hK => ?_
 unfold Oper.wp execOp
 simp only [ho, resolve, invoke, builtin, Sem.run_bind, Sem.run_pure, Result.andThen_ok, List.map_toArray, List.map_cons, List.map_nil, hs, hx, hr]
 exact hK _ _ (h v' w' h2 (hb.grown h3 hsz hbl) h3 hS)
end
section
variable {P : Program} {w : World} {ops : Array Oper} {a : Act} {Q : Exit → Act → World → Prop} {S : World → Prop} {listed : Array Bool} {fuel : Nat}
theorem rgSkip {i : Nat} {o : Oper} (hi' : ops.toList[i]? = some o) (hm : mayFirst ops listed i = true) (hw : Region.wanted o (yielded ops a.tmps) = false)
 (hQ : ∀ c a w, Q (.panic c) (a.put o.dst undef) w → Q (.panic c) a w) (hS : S w)
 (h : wpAnyH P .any ops Q S fuel (listed.setIfInBounds i true) (a.put o.dst undef) w) : wpAnyH P .any ops Q S (fuel + 1) listed a w := by
 have hi : ops[i]? = some o := by rw [← hi']; simp
 simp only [mayFirst, Bool.and_eq_true] at hm
 exact wpAnyH_take hi hm.1.1 hm.1.2 hm.2 hQ (Or.inr ⟨hw, rfl⟩) hS h
end
section
variable {P : Program} {w : World} {o : Oper} {a : Act} {t ty : TypeId}
theorem gtrRun {A B : Int} (x y : Operand) (ho : o.op = .binOp .gtr t x y ty) (hx : a.eval x = .int .i64 A) (hy : a.eval y = .int .i64 B) : (execOp a.eval o).run P w = .ok (.value (.bool (decide (B < A)))) w := by
 unfold execOp
 simp [ho, hx, hy, eqGuard, binOp_gtr]
theorem eqlRun {A B : Int} (x y : Operand) (ho : o.op = .binOp .eql t x y ty) (hx : a.eval x = .int .i64 A) (hy : a.eval y = .int .i64 B) : (execOp a.eval o).run P w = .ok (.value (.bool (decide (A = B)))) w := by
 unfold execOp
 simp [ho, hx, hy, eqGuard, binOp_eql]
 by_cases h : A = B <;> simp [h]
end
inductive Res where
 | arr (g : Nat) (t : TypeId) (cs : List Value)
 | row (v : Value) (e : TypeId) (size n : Nat) (xs : List Value)
 | rd (A : Option Addr) (size n c : Nat) (xs : List Value)
 /-- a block of its own of which I holds, and depends on this block alone -/
 | any (g : Nat) (I : World → Prop)
def Res.At (B : Nat) (w : World) : Res → Prop
 | .arr g t cs => B ≤ g ∧ Arr w g t cs
 | .row v e size n xs => w.ownsRow B e size v n xs
 | .rd A size n c xs => Rd w w.heap.size size A n c xs
 | .any g I => B ≤ g ∧ g < w.heap.size ∧ I w ∧ ∀ u u' : World, I u → u'.heap[g]? = u.heap[g]? → I u'
def Res.blk : Res → Option Nat
 | .arr g _ _ => some g
 | .row v _ _ _ _ => v.ownBlock
 | .rd A size n _ _ => if n * size = 0 then none else A.map (·.block)
 | .any g _ => some g
def Res.mut : Res → Bool
 | .rd .. => false
 | _ => true
def ResApart (r s : Res) : Prop := (r.mut = false ∧ s.mut = false) ∨ r.blk = none ∨ r.blk ≠ s.blk
theorem ResApart.symm {r s : Res} (h : ResApart r s) : ResApart s r := by
 rcases h with h | h | h
 ·exact Or.inl ⟨h.2, h.1⟩
 ·by_cases h2 : s.blk = none
  ·exact Or.inr (Or.inl h2)
  ·exact Or.inr (Or.inr (fun e => h2 (e.trans h)))
 ·exact Or.inr (Or.inr (Ne.symm h))
theorem Res.At.below {B : Nat} {w w' : World} {r : Res} (h : r.At B w) (b : Below w.heap.size w w') : r.At B w' := by
 cases r with
 | arr g t cs => exact ⟨h.1, h.2.below b h.2.lt⟩
 | row v e size n xs => exact ownsRow_below h b (Nat.le_refl _)
 | rd A size n c xs => exact (Rd.below h b).more b.size
 | any g I => exact ⟨h.1, Nat.lt_of_lt_of_le h.2.1 b.size, h.2.2.2 w w' h.2.2.1 (b.block g h.2.1), h.2.2.2⟩
theorem Res.At.lt {B : Nat} {w : World} {r : Res} (h : r.At B w) {g : Nat} (hg : r.blk = some g) : g < w.heap.size := by
 cases r with
 | arr g' t cs =>
  simp only [Res.blk, Option.some.injEq] at hg
  subst hg
  exact h.2.lt
 | row v e size n xs => exact (World.ownsRow.lt h g hg).2
 | rd A size n c xs =>
  simp only [Res.blk] at hg
  split at hg
  ·cases hg
  ·rename_i hne
   obtain ⟨b, off, e, hb, _⟩ := Rd.cells h (by omega)
   rw [e] at hg
   simp only [Option.map_some, Option.some.injEq] at hg
   omega
 | any g' I =>
  simp only [Res.blk, Option.some.injEq] at hg
  subst hg
  exact h.2.1
theorem Res.At.grown {B : Nat} {w w' : World} {row : Option Nat} {r : Res} (h : r.At B w) (k : w.grownBy w' row) (hne : r.blk = none ∨ r.blk ≠ row) : r.At B w' := by
 cases r with
 | arr g t cs =>
  refine ⟨h.1, h.2.grown k ?_⟩
  rcases hne with h1 | h1
  ·cases h1
  ·exact h1
 | row v e size n xs => exact World.ownsRow.kept h k hne
 | rd A size n c xs =>
  refine ⟨Rd.len h, Rd.le h, Rd.cap h, fun hn => ?_⟩
  obtain ⟨b, off, e, hb, hc⟩ := Rd.cells h hn
  refine ⟨b, off, e, Nat.lt_of_lt_of_le hb k.size, fun j u hu => ?_⟩
  rw [← hc j u hu]
  refine World.cell?_of_block (k.block b hb fun e2 => ?_)
  have hbl : (Res.rd A size n c xs).blk = some b := by
   simp only [Res.blk]
   rw [if_neg (by omega), e]
   rfl
  rcases hne with h1 | h1
  ·rw [hbl] at h1; cases h1
  ·rw [hbl] at h1; exact h1 e2
 | any g I =>
  refine ⟨h.1, Nat.lt_of_lt_of_le h.2.1 k.size, h.2.2.2 w w' h.2.2.1 (k.block g h.2.1 ?_), h.2.2.2⟩
  rcases hne with h1 | h1
  ·cases h1
  ·exact h1
structure Mem (w0 w : World) (L : List Res) : Prop where
 bel : Below w0.heap.size w0 w
 each : ∀ r ∈ L, r.At w0.heap.size w
 apart : L.Pairwise ResApart
section
variable {w0 w w' : World} {L : List Res} {t e : TypeId} {cs : List Value}
theorem Mem.nil (w : World) : Mem w w [] := ⟨Below.refl _ _, fun _ h => (by cases h), List.Pairwise.nil⟩
theorem Mem.below (h : Mem w0 w L) (b : Below w.heap.size w w') : Mem w0 w' L :=
 ⟨h.bel.trans (b.mono h.bel.size), fun r hr => (h.each r hr).below b, h.apart⟩
theorem Mem.drew (h : Mem w0 w L) : Mem w0 w.drew L := h.below (Below.refl _ _).drew
theorem Mem.arr (h : Mem w0 w L) (i : Nat) {g : Nat} (hi : L[i]? = some (.arr g t cs)) : Arr w g t cs := (h.each _ (List.mem_of_getElem? hi)).2
theorem Mem.arrGe (h : Mem w0 w L) (i : Nat) {g : Nat} (hi : L[i]? = some (.arr g t cs)) : w0.heap.size ≤ g := (h.each _ (List.mem_of_getElem? hi)).1
theorem Mem.row (h : Mem w0 w L) (i : Nat) {v : Value} {size n : Nat} {xs : List Value} (hi : L[i]? = some (.row v e size n xs)) : w.ownsRow w0.heap.size e size v n xs := h.each _ (List.mem_of_getElem? hi)
theorem Mem.rd (h : Mem w0 w L) (i : Nat) {A : Option Addr} {size n c : Nat} {xs : List Value} (hi : L[i]? = some (.rd A size n c xs)) : Rd w w.heap.size size A n c xs := h.each _ (List.mem_of_getElem? hi)
theorem Mem.push {r : Res} (h : Mem w0 w L) (b : Below w.heap.size w w') (hr : r.At w0.heap.size w') (hb : ∀ g, r.blk = some g → w.heap.size ≤ g) : Mem w0 w' (L ++ [r]) := by
 refine ⟨h.bel.trans (b.mono h.bel.size), fun s hs => ?_, ?_⟩
 ·rcases List.mem_append.1 hs with hs | hs
  ·exact (h.each s hs).below b
  ·rw [List.mem_singleton] at hs; subst hs; exact hr
 ·refine List.pairwise_append.2 ⟨h.apart, List.pairwise_singleton _ _, fun s hs t ht => ?_⟩
  rw [List.mem_singleton] at ht
  subst ht
  cases hsb : s.blk with
  | none => exact Or.inr (Or.inl hsb)
  | some g =>
   refine Or.inr (Or.inr fun e => ?_)
   have h1 := (h.each s hs).lt hsb
   have h2 := hb g (e ▸ hsb)
   omega
theorem Mem.new (h : Mem w0 w L) (b : Below w.heap.size w w') (hA : Arr w' w.heap.size t cs) : Mem w0 w' (L ++ [.arr w.heap.size t cs]) :=
 h.push b ⟨h.bel.size, hA⟩ (fun g hg => by simp only [Res.blk, Option.some.injEq] at hg; omega)
theorem Mem.newRow (h : Mem w0 w L) (b : Below w.heap.size w w') {v : Value} {size n : Nat} {xs : List Value} (hA : w'.ownsRow w.heap.size e size v n xs) : Mem w0 w' (L ++ [.row v e size n xs]) :=
 h.push b (ownsRow_base hA h.bel.size) (fun g hg => (World.ownsRow.lt hA g hg).1)
theorem resMem_set_ne {L : List Res} {i : Nat} {r s : Res} (h : s ∈ L.set i r) : s = r ∨ ∃ j, j ≠ i ∧ L[j]? = some s := by
 obtain ⟨j, hj, e⟩ := List.getElem_of_mem h
 by_cases hij : i = j
 ·subst hij; left; rw [← e]; simp
 ·right
  refine ⟨j, Ne.symm hij, ?_⟩
  rw [List.getElem_set_ne hij] at e
  rw [← e]
  exact List.getElem?_eq_getElem _
theorem resApart_at {L : List Res} (h : L.Pairwise ResApart) {i j : Nat} (hij : i ≠ j) {r s : Res} (hi : L[i]? = some r) (hj : L[j]? = some s) : ResApart r s := by
 obtain ⟨hi', rfl⟩ := List.getElem?_eq_some_iff.1 hi
 obtain ⟨hj', rfl⟩ := List.getElem?_eq_some_iff.1 hj
 rcases Nat.lt_or_gt_of_ne hij with hlt | hlt
 ·exact List.pairwise_iff_getElem.1 h i j hi' hj' hlt
 ·exact (List.pairwise_iff_getElem.1 h j i hj' hi' hlt).symm
theorem resApart_set {L : List Res} (h : L.Pairwise ResApart) {i : Nat} {r : Res} (hr : ∀ j s, j ≠ i → L[j]? = some s → ResApart r s) : (L.set i r).Pairwise ResApart := by
 refine List.pairwise_iff_getElem.2 fun a b ha hb hab => ?_
 simp only [List.length_set] at ha hb
 by_cases hia : i = a
 ·subst hia
  rw [List.getElem_set_self, List.getElem_set_ne (by omega)]
  exact hr b _ (by omega) (List.getElem?_eq_getElem hb)
 ·by_cases hib : i = b
  ·subst hib
   rw [List.getElem_set_self, List.getElem_set_ne hia]
   exact (hr a _ (by omega) (List.getElem?_eq_getElem ha)).symm
  ·rw [List.getElem_set_ne hia, List.getElem_set_ne hib]
   exact List.pairwise_iff_getElem.1 h a b ha hb hab
theorem Mem.set (h : Mem w0 w L) (i : Nat) {g : Nat} {cs' : List Value} (hi : L[i]? = some (.arr g t cs)) (hA : Arr w' g t cs') (k : w.grownBy w' (some g)) : Mem w0 w' (L.set i (.arr g t cs')) := by
 have hge := h.arrGe i hi
 refine ⟨h.bel.grown k h.bel.size (fun k' hk' => by cases hk'; exact hge), fun s hs => ?_, resApart_set h.apart fun j s hji hj => ?_⟩
 ·rcases resMem_set_ne hs with rfl | ⟨j, hji, hj⟩
  ·exact ⟨hge, hA⟩
  ·refine (h.each s (List.mem_of_getElem? hj)).grown k ?_
   rcases resApart_at h.apart hji hj hi with ⟨_, h2⟩ | h2 | h2
   ·cases h2
   ·exact Or.inl h2
   ·exact Or.inr h2
 ·have h1 := resApart_at h.apart (Ne.symm hji) hi hj
  exact h1
theorem Mem.app (h : Mem w0 w L) (i : Nat) {v v' : Value} {size n n' : Nat} {xs xs' : List Value} (hi : L[i]? = some (.row v e size n xs)) (hA : w'.ownsRow w0.heap.size e size v' n' xs') (k : w.grownBy w' v.ownBlock) (hS : SameOrNew v v' w.heap.size) : Mem w0 w' (L.set i (.row v' e size n' xs')) := by
 have hrow := h.row i hi
 refine ⟨h.bel.grown k h.bel.size (fun k' hk' => (World.ownsRow.lt hrow k' hk').1), fun s hs => ?_, resApart_set h.apart fun j s hji hj => ?_⟩
 ·rcases resMem_set_ne hs with rfl | ⟨j, hji, hj⟩
  ·exact hA
  ·refine (h.each s (List.mem_of_getElem? hj)).grown k ?_
   rcases resApart_at h.apart hji hj hi with ⟨_, h2⟩ | h2 | h2
   ·cases h2
   ·exact Or.inl h2
   ·exact Or.inr h2
 ·have h1 := resApart_at h.apart (Ne.symm hji) hi hj
  rcases hS with hS | ⟨g, hg, hge⟩
  ·rcases h1 with ⟨h2, _⟩ | h2 | h2
   ·cases h2
   ·exact Or.inr (Or.inl (hS.trans h2))
   ·exact Or.inr (Or.inr (fun e => h2 (hS.symm.trans e)))
  ·refine Or.inr (Or.inr fun e => ?_)
   have h2 := (h.each s (List.mem_of_getElem? hj)).lt (g := g) (e ▸ hg)
   omega
theorem Mem.sub {L' : List Res} (h : Mem w0 w L) (hs : L'.Sublist L) : Mem w0 w L' := ⟨h.bel, fun r hr => h.each r (hs.subset hr), h.apart.sublist hs⟩
theorem Rd.of_arr {g size n : Nat} (h : Arr w g t cs) (hl : cs.length = n * size) (hn : n ≤ maxLen) : Rd w w.heap.size size (some ⟨g, 0, none⟩) n n cs :=
 ⟨hl, Nat.le_refl _, hn, fun _ => ⟨g, 0, rfl, h.lt, fun j u hu => by rw [Nat.zero_add]; exact h.cell hu⟩⟩
theorem Mem.rdRow (h : Mem w0 w L) (i : Nat) {A : Option Addr} {size n c : Nat} {xs : List Value} (hi : L[i]? = some (.row (.slice A n c) e size n xs)) : Rd w w.heap.size size A n c xs := by
 obtain ⟨A', c', e1, hr⟩ := Rd.of_own (h.row i hi)
 injection e1 with e2 e3 e4
 rw [e2, e4]
 exact hr
theorem Mem.nilRow (h : Mem w0 w L) (e : TypeId) (size : Nat) : Mem w0 w (L ++ [.row (.slice none 0 0) e size 0 []]) :=
 h.push (Below.refl _ _) ⟨by simp, Or.inl ⟨rfl, rfl⟩⟩ (fun g hg => by cases hg)
theorem Mem.rowBlk (h : Mem w0 w L) (i : Nat) {A : Option Addr} {size n c : Nat} {xs : List Value} (hi : L[i]? = some (.row (.slice A n c) e size n xs)) (hn : 0 < n) : ∃ b, A = some ⟨b, 0, none⟩ := by
 rcases (h.row i hi).2 with ⟨_, h0⟩ | ⟨g, cap, cur, hv, _⟩
 ·omega
 ·injection hv with h1
  exact ⟨g, h1⟩
theorem Mem.any (h : Mem w0 w L) (i : Nat) {g : Nat} {I : World → Prop} (hi : L[i]? = some (.any g I)) : I w := (h.each _ (List.mem_of_getElem? hi)).2.2.1
theorem Mem.anyLt (h : Mem w0 w L) (i : Nat) {g : Nat} {I : World → Prop} (hi : L[i]? = some (.any g I)) : w0.heap.size ≤ g ∧ g < w.heap.size := ⟨(h.each _ (List.mem_of_getElem? hi)).1, (h.each _ (List.mem_of_getElem? hi)).2.1⟩
theorem Mem.setAny (h : Mem w0 w L) (i : Nat) {g : Nat} {I I' : World → Prop} (hi : L[i]? = some (.any g I)) (hI : I' w') (hs : ∀ u u' : World, I' u → u'.heap[g]? = u.heap[g]? → I' u') (k : w.grownBy w' (some g)) : Mem w0 w' (L.set i (.any g I')) := by
 have hlt := h.anyLt i hi
 refine ⟨h.bel.grown k h.bel.size (fun k' hk' => by cases hk'; exact hlt.1), fun s hs' => ?_, resApart_set h.apart fun j s hji hj => ?_⟩
 ·rcases resMem_set_ne hs' with rfl | ⟨j, hji, hj⟩
  ·exact ⟨hlt.1, Nat.lt_of_lt_of_le hlt.2 k.size, hI, hs⟩
  ·refine (h.each s (List.mem_of_getElem? hj)).grown k ?_
   rcases resApart_at h.apart hji hj hi with ⟨_, h2⟩ | h2 | h2
   ·cases h2
   ·exact Or.inl h2
   ·exact Or.inr h2
 ·have h1 := resApart_at h.apart (Ne.symm hji) hi hj
  exact h1
theorem Mem.newAny (h : Mem w0 w L) (b : Below w.heap.size w w') {g : Nat} {I : World → Prop} (hg : w.heap.size ≤ g) (hlt : g < w'.heap.size) (hI : I w') (hs : ∀ u u' : World, I u → u'.heap[g]? = u.heap[g]? → I u') : Mem w0 w' (L ++ [.any g I]) :=
 h.push b ⟨Nat.le_trans h.bel.size hg, hlt, hI, hs⟩ (fun g' hg' => by simp only [Res.blk, Option.some.injEq] at hg'; omega)
end
section
variable {P : Program} {ops : Array Oper} {Q : Exit → Act → World → Prop} {a : Act} {w w0 : World} {o : Oper} {L : List Res} {i : Nat}
structure PL (P : Program) (ops : Array Oper) (Q : Exit → Act → World → Prop) (i : Nat) (a : Act) (w : World) : Prop where
 out : wpList P ops Q (ops.toList.drop i) a w
theorem plStart {id : Nat} (h : PL P ops Q 0 a w) : (Code.region id ops false).wp P Q a w := by
 refine wp_region ?_
 have h1 := wpOps_eq_wpList (P := P) (ops := ops) (Q := Q) ops.toList 0 (fun j => by simp)
 rw [List.range_eq_range', show ops.size = ops.toList.length by simp, h1]
 exact h.out
theorem plOf (hi : ops.toList[i]? = some o) (h : wpList P ops Q (o :: ops.toList.drop (i + 1)) a w) : PL P ops Q i a w := by
 refine ⟨?_⟩
 obtain ⟨hl, rfl⟩ := List.getElem?_eq_some_iff.1 hi
 rw [List.drop_eq_getElem_cons hl]
 exact h
theorem plVal {v : Value} (hi : ops.toList[i]? = some o) (hw : Region.wanted o (yielded ops a.tmps) = true) (hr : (execOp a.eval o).run P w = .ok (.value v) w) (h : PL P ops Q (i + 1) (a.put o.dst v) w) : PL P ops Q i a w :=
 plOf hi (opVal hw hr h.out)
theorem plSkip (hi : ops.toList[i]? = some o) (hw : Region.wanted o (yielded ops a.tmps) = false) (h : PL P ops Q (i + 1) (a.put o.dst undef) w) : PL P ops Q i a w := by
 refine plOf hi ?_
 unfold wpList
 rw [hw]
 exact h.out
theorem plDone (hi : ops.toList.length ≤ i) (h : Q .normal a w) : PL P ops Q i a w := by
 refine ⟨?_⟩
 rw [List.drop_eq_nil_of_le hi]
 exact h
theorem plCall {c : Operand} {args : Array Operand} {argTypes : Array TypeId} {R : Ending → World → Prop} (f : FuncId) (vals first caps : List Value)
 (hi : ops.toList[i]? = some o) (hf : callable P f = true) (hw : Region.wanted o (yielded ops a.tmps) = true) (ho : o.op = .call { callee := .value c, args, argTypes }) (hc : a.eval c = .func (.func f) first.toArray caps.toArray) (hargs : args.toList.map a.eval = vals)
 (hC : Calls P f (first ++ vals ++ caps).toArray w R) (h : ∀ e w', R e w' → ∃ v, e = .returned v ∧ PL P ops Q (i + 1) (a.put o.dst v) w') : PL P ops Q i a w :=
 plOf hi (callOp f vals first caps hf hw ho hc hargs (hC.mono fun e w' he => by
  obtain ⟨v, h1, h2⟩ := h e w' he
  exact ⟨v, h1, h2.out⟩))
theorem plBox {x : Operand} {ty : TypeId} {cs : List Value} (hm : Mem w0 w L) (hi : ops.toList[i]? = some o) (hw : Region.wanted o (yielded ops a.tmps) = true) (ho : o.op = .box ty x) (hx : a.eval x = .agg cs.toArray)
 (h : ∀ g w', Mem w0 w' (L ++ [.arr g ty cs]) → PL P ops Q (i + 1) (a.put o.dst (.pointer (some ⟨g, 0, none⟩))) w') : PL P ops Q i a w :=
 plOf hi (bxArr x hw ho hx fun w' hA hb => (h _ w' (hm.new hb hA)).out)
theorem plBox1 {x : Operand} {ty : TypeId} {v : Value} (hm : Mem w0 w L) (hi : ops.toList[i]? = some o) (hw : Region.wanted o (yielded ops a.tmps) = true) (ho : o.op = .box ty x) (hx : a.eval x = v) (hv : v.cells = #[v])
 (h : ∀ g w', Mem w0 w' (L ++ [.arr g ty [v]]) → PL P ops Q (i + 1) (a.put o.dst (.pointer (some ⟨g, 0, none⟩))) w') : PL P ops Q i a w :=
 plOf hi (bxOne x hw ho hx hv fun w' hA hb => (h _ w' (hm.new hb hA)).out)
theorem plAlloc {z : List Value} {ty : TypeId} {n : Nat} (T : AgTy P ty z.toArray n) (hm : Mem w0 w L) (hi : ops.toList[i]? = some o) (hw : Region.wanted o (yielded ops a.tmps) = true) (ho : o.op = .alloc ty)
 (h : ∀ g w', Mem w0 w' (L ++ [.arr g ty z]) → PL P ops Q (i + 1) (a.put o.dst (.pointer (some ⟨g, 0, none⟩))) w') : PL P ops Q i a w :=
 plOf hi (alArr T hw ho fun w' hA hb => (h _ w' (hm.new hb hA)).out)
theorem plAlloc1 {v : Value} {ty : TypeId} (hz : (P.info? ty).map (fun i => i.zero.map Value.cells) = some (some #[v])) (hm : Mem w0 w L) (hi : ops.toList[i]? = some o) (hw : Region.wanted o (yielded ops a.tmps) = true) (ho : o.op = .alloc ty)
 (h : ∀ g w', Mem w0 w' (L ++ [.arr g ty [v]]) → PL P ops Q (i + 1) (a.put o.dst (.pointer (some ⟨g, 0, none⟩))) w') : PL P ops Q i a w :=
 plOf hi (alScG hz hw ho fun w' hA hb => (h _ w' (hm.new hb hA)).out)
theorem plStore {x y : Operand} {ty : TypeId} {n g : Nat} {z : Array Value} {cur cs : List Value} {t : TypeId} (j : Nat) (T : AgTy P ty z n) (hm : Mem w0 w L) (hj : L[j]? = some (.arr g t cur)) (hi : ops.toList[i]? = some o) (hw : Region.wanted o (yielded ops a.tmps) = true) (ho : o.op = .store ty x y)
 (hx : a.eval x = .pointer (some ⟨g, 0, none⟩)) (hy : a.eval y = .agg cs.toArray) (hs : cur.length = n) (hl : cs.length = n) (h1 : (cs.all fun u => u.oneCell') = true)
 (h : ∀ w', Mem w0 w' (L.set j (.arr g t cs)) → PL P ops Q (i + 1) (a.put o.dst undef) w') : PL P ops Q i a w :=
 plOf hi (stArrG x y T hw ho hx hy (hm.arr j hj) hs hl (fun u hu => List.all_eq_true.1 h1 u hu) fun w' hA hk => (h w' (hm.set j hj hA hk)).out)
theorem plStore1 {x y : Operand} {ty : TypeId} {g k : Nat} {cur : List Value} {v v0 : Value} {t : TypeId} (j : Nat) (hsz : (P.info? ty).map (·.size) = some 1) (hm : Mem w0 w L) (hj : L[j]? = some (.arr g t cur)) (hi : ops.toList[i]? = some o) (hw : Region.wanted o (yielded ops a.tmps) = true) (ho : o.op = .store ty x y)
 (hx : a.eval x = .pointer (some ⟨g, k, none⟩)) (hy : a.eval y = v) (hk : cur[k]? = some v0) (hv : v.cells = #[v]) (h1 : v.oneCell' = true)
 (h : ∀ w', Mem w0 w' (L.set j (.arr g t (cur.set k v))) → PL P ops Q (i + 1) (a.put o.dst undef) w') : PL P ops Q i a w :=
 plOf hi (stCellG x y hsz hw ho hx hy (hm.arr j hj) hk hv h1 fun w' hA hg => (h w' (hm.set j hj hA hg)).out)
theorem plLit {t e : TypeId} {z : Value} {size bytes n : Nat} {parts : Array (Nat × Operand)} {cs : List Value} (T : SlTy P t e z size bytes) (hm : Mem w0 w L) (hi : ops.toList[i]? = some o) (hw : Region.wanted o (yielded ops a.tmps) = true) (ho : o.op = .buildSlice t n parts) (hn : n * size ≤ 65536) (hn0 : ¬ n * size = 0)
 (hf : Instr.fill (fun i => some (i * size, size)) ((Array.range (n * size)).map (z.cells[· % z.cells.size]!)) (parts.map fun (i, x) => (i, a.eval x)).toList = some cs.toArray)
 (h : ∀ g w', Mem w0 w' (L ++ [.arr g e cs]) → PL P ops Q (i + 1) (a.put o.dst (.slice (some ⟨g, 0, none⟩) n n)) w') : PL P ops Q i a w := by
 obtain ⟨ti, hti, hz0, hz1, hz2⟩ := info_parts T.inf
 refine plOf hi (wpList_want hw fun K hK => wp_buildSlice t e n _ ho cs.toArray ti z T.und hti hz0 (by rw [hz1]; omega) (by rw [hz1]; exact hn0) (by rw [hz1]; exact hf) (hK _ _ (h _ _ (hm.new ((Below.refl _ _).alloc (Nat.le_refl _) _) (Arr.new w e cs))).out))
theorem plApp1 {s x : Operand} {t e : TypeId} {z : Value} {size bytes n g : Nat} {v : Value} {xs ys : List Value} (j j2 : Nat) (T : SlTy P t e z size bytes) (hm : Mem w0 w L) (hj : L[j]? = some (.row v e size n xs)) (hj2 : L[j2]? = some (.arr g e ys)) (hi : ops.toList[i]? = some o) (hw : Region.wanted o (yielded ops a.tmps) = true)
 (ho : o.op = .call { callee := .builtin .append, args := #[s, x], argTypes := #[t, t] }) (hs : a.eval s = v) (hx : a.eval x = .slice (some ⟨g, 0, none⟩) 1 1) (hl : ys.length = size) (hu : (ys.all fun u => u.oneCell') = true)
 (hn : n + 1 ≤ 70368744177664) (hby : (n + 1) * bytes ≤ 140737488355328)
 (h : ∀ v' w', Mem w0 w' (L.set j (.row v' e size (n + 1) (xs ++ ys))) → PL P ops Q (i + 1) (a.put o.dst v') w') : PL P ops Q i a w :=
 plOf hi (appNB s x T hw ho hs hx (hm.row j hj) (hm.arr j2 hj2) hl hm.bel (Nat.le_refl _) (fun u h => List.all_eq_true.1 hu u h) hn hby fun v' w' h1 _ h3 h4 => (h v' w' (hm.app j hj h1 h3 h4)).out)
end
section
variable {P : Program} {w : World} {o : Oper} {a : Act} {t ty : TypeId} {A B C : Int}
theorem boolTo {b c : Bool} (h : b = c) (hr : (execOp a.eval o).run P w = .ok (.value (.bool b)) w) : (execOp a.eval o).run P w = .ok (.value (.bool c)) w := h ▸ hr
theorem valTo {b c : Value} (h : b = c) (hr : (execOp a.eval o).run P w = .ok (.value b) w) : (execOp a.eval o).run P w = .ok (.value c) w := h ▸ hr
theorem lssRun {A B : Int} (x y : Operand) (ho : o.op = .binOp .lss t x y ty) (hx : a.eval x = .int .i64 A) (hy : a.eval y = .int .i64 B) : (execOp a.eval o).run P w = .ok (.value (.bool (decide (A < B)))) w := by
 unfold execOp
 simp [ho, hx, hy, eqGuard, binOp_lss]
theorem neqRun {A B : Int} (x y : Operand) (ho : o.op = .binOp .neq t x y ty) (hx : a.eval x = .int .i64 A) (hy : a.eval y = .int .i64 B) : (execOp a.eval o).run P w = .ok (.value (.bool (!decide (A = B)))) w := by
 unfold execOp
 simp [ho, hx, hy, eqGuard, binOp_neq]
 by_cases h : A = B <;> simp [h]
end
section
variable {P : Program} {Q : Exit → Act → World → Prop} {K : Act → World → Prop} {a : Act} {w : World} {id id' : Nat}
theorem then_normal (h : K a w) : Exit.then K Q .normal a w := h
theorem then_exit (h : Q (.exit id) a w) : Exit.then K Q (.exit id) a w := h
theorem then_ret (h : Q .ret a w) : Exit.then K Q .ret a w := h
theorem inBlock_normal (h : Q .normal a w) : Exit.inBlock id Q .normal a w := h
theorem inBlock_ret (h : Q .ret a w) : Exit.inBlock id Q .ret a w := h
theorem inBlock_exit (h : Q .normal a w) : Exit.inBlock id Q (.exit id) a w := by simp only [Exit.inBlock, if_true]; exact h
theorem inBlock_other (hne : id' ≠ id) (h : Q (.exit id') a w) : Exit.inBlock id Q (.exit id') a w := by simp only [Exit.inBlock, if_neg hne]; exact h
theorem exists_least {p : Nat → Prop} (h : ∃ n, p n) : ∃ n, p n ∧ ∀ m, p m → n ≤ m := by
 obtain ⟨n, hn⟩ := h
 induction n using Nat.strongRecOn with
 | ind n ih =>
  by_cases h2 : ∃ m, m < n ∧ p m
  ·obtain ⟨m, hm, hp⟩ := h2
   exact ih m hm hp
  ·exact ⟨n, hn, fun m hm => Nat.le_of_not_lt fun hlt => h2 ⟨m, hlt, hm⟩⟩
open Classical in
theorem gwLoop {c : Code} (I : Nat → Act → World → Prop) (n : Nat) (h0 : I n a w)
 (h : ∀ n a w, I n a w → c.wp P (Exit.then (fun a' w' => ∃ m, m < n ∧ I m a' w') Q) a w) : (Code.loop c).wp P Q a w := by
 refine wp_loop (fun a w => ∃ n, I n a w) (fun a w => if h : ∃ n, I n a w then Classical.choose (exists_least h) else 0) ⟨n, h0⟩ fun a w hI => ?_
 have hs := Classical.choose_spec (exists_least hI)
 refine wp_mono (h _ a w hs.1) fun e a' w' he => ?_
 cases e with
 | normal =>
  obtain ⟨m, hm, hI'⟩ := he
  refine ⟨⟨m, hI'⟩, ?_⟩
  rw [dif_pos hI, dif_pos ⟨m, hI'⟩]
  exact Nat.lt_of_le_of_lt ((Classical.choose_spec (exists_least ⟨m, hI'⟩)).2 m hI') hm
 | _ => exact he
theorem gwCut {x y : Code} (J : Act → World → Prop) (h1 : x.wp P (Exit.then J Q) a w) (h2 : ∀ a w, J a w → y.wp P Q a w) : (Code.seq x y).wp P Q a w := by
 refine wp_seq (wp_mono h1 fun e a' w' he => ?_)
 cases e with
 | normal => exact h2 _ _ he
 | _ => exact he
end
section
variable {P : Program} {ops : Array Oper} {Q : Exit → Act → World → Prop} {listed : Array Bool} {a : Act} {w w0 : World} {fuel : Nat} {L : List Res} {i : Nat} {o : Oper}
structure MG (P : Program) (ops : Array Oper) (Q : Exit → Act → World → Prop) (w0 : World) (L : List Res) (fuel : Nat) (listed : Array Bool) (a : Act) (w : World) : Prop where
 out : wpAnyH P .any ops Q (fun w' => Mem w0 w' L) fuel listed a w
theorem mgStart {id : Nat} (hm : Mem w0 w L) (hmode : P.follows .mixedOrders = true) (h : ∀ w', Mem w0 w' L → MG P ops Q w0 L ops.size (Array.replicate ops.size false) a w') : (Code.region id ops true).wp P Q a w :=
 rgStart _ hmode (h _ hm.drew).out
theorem mgTake {v : Value} (hi : ops.toList[i]? = some o) (hf : mayFirst ops listed i = true) (hw : Region.wanted o (yielded ops a.tmps) = true)
 (hQ : ∀ c a w, Q (.panic c) (a.put o.dst v) w → Q (.panic c) a w) (hm : Mem w0 w L) (hy : ∀ w, Mem w0 w L → (execOp a.eval o).run P w = .ok (.value v) w)
 (h : MG P ops Q w0 L fuel (listed.setIfInBounds i true) (a.put o.dst v) w) : MG P ops Q w0 L (fuel + 1) listed a w :=
 ⟨rgTake hi hf hw hQ hy hm h.out⟩
theorem mgSkip (hi : ops.toList[i]? = some o) (hf : mayFirst ops listed i = true) (hw : Region.wanted o (yielded ops a.tmps) = false)
 (hQ : ∀ c a w, Q (.panic c) (a.put o.dst undef) w → Q (.panic c) a w) (hm : Mem w0 w L)
 (h : MG P ops Q w0 L fuel (listed.setIfInBounds i true) (a.put o.dst undef) w) : MG P ops Q w0 L (fuel + 1) listed a w :=
 ⟨rgSkip (S := fun w' => Mem w0 w' L) hi hf hw hQ hm h.out⟩
theorem mgCall {c : Operand} {args : Array Operand} {argTypes : Array TypeId} {R : Ending → World → Prop} (f : FuncId) (vals first caps : List Value) (hr : Region.ready .any ops listed = [i])
 (hi : ops.toList[i]? = some o) (hf : callable P f = true) (hw : Region.wanted o (yielded ops a.tmps) = true) (ho : o.op = .call { callee := .value c, args, argTypes }) (hc : a.eval c = .func (.func f) first.toArray caps.toArray) (hargs : args.toList.map a.eval = vals)
 (hC : Calls P f (first ++ vals ++ caps).toArray w R) (h : ∀ e w', R e w' → ∃ v, e = .returned v ∧ Mem w0 w' L ∧ MG P ops Q w0 L fuel (listed.setIfInBounds i true) (a.put o.dst v) w') : MG P ops Q w0 L (fuel + 1) listed a w :=
 ⟨rgNext hr hi (callOp f vals first caps hf hw ho hc hargs (hC.mono fun e w' he => by
  obtain ⟨v, h1, h2, h3⟩ := h e w' he
  exact ⟨v, h1, h2, h3.out⟩))⟩
theorem mgDone (hr : Region.ready .any ops listed = []) (h : Q .normal a w) : MG P ops Q w0 L fuel listed a w := ⟨rgDone hr h⟩
end
theorem tn_ {A K : Act → World → Prop} {Q : Exit → Act → World → Prop} {a : Act} {w : World} (hK : ∀ a w, A a w → K a w) (h : A a w) : Exit.then K Q .normal a w := hK _ _ h
theorem lc1_ {α : Type} {a : α} {l m : List α} : a :: l ++ m = a :: (l ++ m) := rfl
theorem lc2_ {α : Type} {l : List α} : [] ++ l = l := rfl
theorem lc3_ {α : Type} {a b : α} {l : List α} {n : Nat} : (a :: l).set (n + 1) b = a :: l.set n b := rfl
theorem lc4_ {α : Type} {a b : α} {l : List α} : (a :: l).set 0 b = b :: l := rfl
section
variable {P : Program} {w w0 : World} {o : Oper} {a : Act} {t ty : TypeId} {L : List Res}
theorem gLoad {g k : Nat} {cs : List Value} {v : Value} {tb : TypeId} (j : Nat) (hm : Mem w0 w L) (hj : L[j]? = some (.arr g tb cs)) (hv : cs[k]? = some v) (x : Operand) (hu : ((P.underlying ty).map fun d => match d with | .struct _ | .array _ _ => true | _ => false) = some false)
 (ho : o.op = .load ty x) (hx : a.eval x = .pointer (some ⟨g, k, none⟩)) : (execOp a.eval o).run P w = .ok (.value v) w :=
 ldRun x hu ho hx ((hm.arr j hj).cell hv)
theorem gLoadAg {g k n : Nat} {cs vs : List Value} {tb : TypeId} {z : Array Value} (j : Nat) (hm : Mem w0 w L) (hj : L[j]? = some (.arr g tb cs)) (hv : (cs.drop k).take n = vs) (hl : vs.length = n) (x : Operand) (T : AgTy P ty z n)
 (ho : o.op = .load ty x) (hx : a.eval x = .pointer (some ⟨g, k, none⟩)) : (execOp a.eval o).run P w = .ok (.value (.agg vs.toArray)) w := by
 have hc : ∀ i u, vs[i]? = some u → w.cell? ⟨g, k + i, none⟩ = some u := fun i u hu => by
  refine (hm.arr j hj).cell ?_
  rw [← hv, List.getElem?_take] at hu
  split at hu
  ·rw [← hu, List.getElem?_drop]
  ·cases hu
 unfold execOp
 simp only [ho, hx, Instr.loadAt, Instr.sureAddr, Sem.run_bind, Sem.run_pure, Result.andThen_ok, run_loadAgg T g k vs hl hc]
theorem gLoadRd {B size n c m off b : Nat} {A : Option Addr} {xs : List Value} {v : Value} (hr : Rd w B size A n c xs) (hA : A = some ⟨b, off, none⟩) (hv : xs[m]? = some v) (hpos : 0 < n * size) (x : Operand) (hu : ((P.underlying ty).map fun d => match d with | .struct _ | .array _ _ => true | _ => false) = some false)
 (ho : o.op = .load ty x) (hx : a.eval x = .pointer (some ⟨b, off + m, none⟩)) : (execOp a.eval o).run P w = .ok (.value v) w := by
 obtain ⟨b', off', e, _, hc⟩ := hr.cells hpos
 rw [hA] at e
 injection e with e
 injection e with e1 e2
 subst e1
 subst e2
 exact ldRun x hu ho hx (hc m v hv)
theorem gLoadAgRd {B size n c m k off b : Nat} {A : Option Addr} {xs vs : List Value} {z : Array Value} (hr : Rd w B size A n c xs) (hA : A = some ⟨b, off, none⟩) (hv : ∀ (i : Nat) (u : Value), vs[i]? = some u → xs[m + i]? = some u) (hl : vs.length = k) (hpos : 0 < n * size) (x : Operand) (T : AgTy P ty z k)
 (ho : o.op = .load ty x) (hx : a.eval x = .pointer (some ⟨b, off + m, none⟩)) : (execOp a.eval o).run P w = .ok (.value (.agg vs.toArray)) w := by
 obtain ⟨b', off', e, _, hc0⟩ := hr.cells hpos
 rw [hA] at e
 injection e with e
 injection e with e1 e2
 subst e1
 subst e2
 have hc : ∀ i u, vs[i]? = some u → w.cell? ⟨b, off + m + i, none⟩ = some u := fun i u hu => by
  rw [Nat.add_assoc]
  exact hc0 (m + i) u (hv i u hu)
 unfold execOp
 simp only [ho, hx, Instr.loadAt, Instr.sureAddr, Sem.run_bind, Sem.run_pure, Result.andThen_ok, run_loadAgg T b (off + m) vs hl hc]
theorem gIaSl {e : TypeId} {z : Value} {size bytes b off n c : Nat} {kk : IntKind} {K : Int} (x y : Operand) (k : Nat) (T : SlTy P t e z size bytes)
 (ho : o.op = .indexAddr t x y) (hx : a.eval x = .slice (some ⟨b, off, none⟩) n c) (hy : a.eval y = .int kk K) (hK : K = (k : Int)) (hk : k < n) : (execOp a.eval o).run P w = .ok (.value (.pointer (some ⟨b, off + k * size, none⟩))) w :=
 iaRowRun x y k T ho hx hy hK hk
theorem gMin {A B : Int} (x y : Operand) (ho : o.op = .call { callee := .builtin .min, args := #[x, y], argTypes := #[t, t] }) (hx : a.eval x = .int .i64 A) (hy : a.eval y = .int .i64 B) : (execOp a.eval o).run P w = .ok (.value (.int .i64 (min A B))) w := by
 unfold execOp
 simp [ho, hx, hy, resolve, invoke, builtin, Builtin.min_, Builtin.min2]
 by_cases h : B < A
 ·rw [if_pos h, Int.min_eq_right (by omega)]
 ·rw [if_neg h, Int.min_eq_left (by omega)]
theorem gMax {A B : Int} (x y : Operand) (ho : o.op = .call { callee := .builtin .max, args := #[x, y], argTypes := #[t, t] }) (hx : a.eval x = .int .i64 A) (hy : a.eval y = .int .i64 B) : (execOp a.eval o).run P w = .ok (.value (.int .i64 (max A B))) w := by
 unfold execOp
 simp [ho, hx, hy, resolve, invoke, builtin, Builtin.max_, Builtin.max2]
 by_cases h : A < B
 ·rw [if_pos h, Int.max_eq_right (by omega)]
 ·rw [if_neg h, Int.max_eq_left (by omega)]
theorem gGeq {A B : Int} (x y : Operand) (ho : o.op = .binOp .geq t x y ty) (hx : a.eval x = .int .i64 A) (hy : a.eval y = .int .i64 B) : (execOp a.eval o).run P w = .ok (.value (.bool (decide (B ≤ A)))) w := by
 unfold execOp
 simp [ho, hx, hy, eqGuard, binOp_geq]
end
section
variable {P : Program} {w w0 : World} {tmps : Array Value} {L : List Res}
theorem bool_or (b : Bool) : b = false ∨ b = true := by cases b <;> simp
def FrIs (a : Act) : List (Nat × Value) → Prop
 | [] => True
 | p :: l => a.tmps.getD p.1 undef = p.2 ∧ FrIs a l
structure Fr (a : Act) (N : Nat) (l : List (Nat × Value)) : Prop where
 size : a.tmps.size = N
 defers : a.defers = []
 known : FrIs a l
def slotOf (l : List (Nat × Value)) (i : Nat) (x : Value) : Value := match l with
 | [] => x
 | p :: l => if p.1 = i then p.2 else slotOf l i x
theorem slotOf_eq {a : Act} {i : Nat} : ∀ {l : List (Nat × Value)}, FrIs a l → slotOf l i (a.tmps.getD i undef) = a.tmps.getD i undef
 | [], _ => rfl
 | p :: l, h => by
  unfold slotOf
  split
  ·rename_i e; rw [← e]; exact h.1.symm
  ·exact slotOf_eq h.2
theorem Fr.lit {a : Act} {N : Nat} {l : List (Nat × Value)} (h : Fr a N l) : ∃ X : Nat → Value, a = { tmps := ((List.range N).map fun i => slotOf l i (X i)).toArray, defers := [] } := by
 refine ⟨fun i => a.tmps.getD i undef, ?_⟩
 obtain ⟨tmps, defers⟩ := a
 have hd : defers = [] := h.defers
 have hs : tmps.size = N := h.size
 subst hd
 congr 1
 apply Array.ext
 ·simp [hs]
 ·intro i h1 h2
  have e := slotOf_eq (i := i) h.known
  simp only [List.getElem_toArray, List.getElem_map, List.getElem_range]
  rw [e]
  simp [h1]
def ResIs (P : Program) (w : World) (tmps : Array Value) : ResultVar → Value → Prop
 | .tmp t, v => tmps.getD t undef = v
 | .cell a t, v => ∃ p, tmps.getD a undef = .pointer (some p) ∧ (loadVar t p).run P w = .ok v w
def resRun (tmps : Array Value) : ResultVar → Sem Value
 | .tmp t => pure (tmps.getD t undef)
 | .cell a t => do loadVar t (← asAddr (tmps.getD a undef))
theorem ResIs.run {r : ResultVar} {v : Value} (h : ResIs P w tmps r v) : (resRun tmps r).run P w = .ok v w := by
 cases r with
 | tmp t =>
  have h : tmps.getD t undef = v := h
  show (pure (tmps.getD t undef) : Sem Value).run P w = _
  rw [h, Sem.run_pure]
 | cell a t =>
  obtain ⟨p, h1, h2⟩ := h
  unfold resRun
  simp only [h1, asAddr, Sem.run_bind, Sem.run_pure, Result.andThen_ok, h2]
theorem results_resRun (fn : Func) : results fn tmps = (do let vs ← fn.results.mapM (resRun tmps); pure (if h : vs.size = 1 then vs[0] else .tuple vs)) := by
 unfold results
 congr 1
theorem gRes1 {fn : Func} {r1 : ResultVar} {v1 : Value} (h : fn.results = #[r1]) (h1 : ResIs P w tmps r1 v1) : (results fn tmps).run P w = .ok v1 w := by
 rw [results_resRun, h]
 simp [h1.run]
theorem gRes2 {fn : Func} {r1 r2 : ResultVar} {v1 v2 : Value} (h : fn.results = #[r1, r2]) (h1 : ResIs P w tmps r1 v1) (h2 : ResIs P w tmps r2 v2) : (results fn tmps).run P w = .ok (.tuple #[v1, v2]) w := by
 rw [results_resRun, h]
 simp [h1.run, h2.run]
theorem gRes3 {fn : Func} {r1 r2 r3 : ResultVar} {v1 v2 v3 : Value} (h : fn.results = #[r1, r2, r3]) (h1 : ResIs P w tmps r1 v1) (h2 : ResIs P w tmps r2 v2) (h3 : ResIs P w tmps r3 v3) : (results fn tmps).run P w = .ok (.tuple #[v1, v2, v3]) w := by
 rw [results_resRun, h]
 simp [h1.run, h2.run, h3.run]
theorem gResTmp {t : Tmp} {v : Value} (h : tmps.getD t undef = v) : ResIs P w tmps (.tmp t) v := h
theorem gRes0 {fn : Func} (h : fn.results = #[]) : (results fn tmps).run P w = .ok (.tuple #[]) w := by simp [results, h]
theorem gResAg {p : Tmp} {ty tb : TypeId} {g n : Nat} {cs : List Value} {z : Array Value} (j : Nat) (hm : Mem w0 w L) (hj : L[j]? = some (.arr g tb cs)) (T : AgTy P ty z n) (hl : cs.length = n) (hp : tmps.getD p undef = .pointer (some ⟨g, 0, none⟩)) : ResIs P w tmps (.cell p ty) (.agg cs.toArray) :=
 ⟨_, hp, run_loadAgg T g 0 cs hl fun i u hu => by rw [Nat.zero_add]; exact (hm.arr j hj).cell hu⟩
theorem gResCell {p : Tmp} {ty tb : TypeId} {g : Nat} {cs : List Value} {v : Value} (j : Nat) (hm : Mem w0 w L) (hj : L[j]? = some (.arr g tb cs)) (hv : cs[0]? = some v) (hu : ((P.underlying ty).map fun d => match d with | .struct _ | .array _ _ => true | _ => false) = some false) (hp : tmps.getD p undef = .pointer (some ⟨g, 0, none⟩)) : ResIs P w tmps (.cell p ty) v := by
 refine ⟨_, hp, ?_⟩
 obtain ⟨d, hd, h2⟩ := Option.map_eq_some_iff.1 hu
 have ha : (isAgg ty).run P w = .ok false w := by
  unfold isAgg
  rw [Sem.run_bind, run_underlying hd w]
  cases d <;> simp_all
 have hc := (hm.arr j hj).cell hv
 simp [loadVar, Sem.run_bind, ha, hc]
end
def lit (N : Nat) (X : Nat → Value) (l : List (Nat × Value)) : Act := { tmps := ((List.range N).map fun i => slotOf l i (X i)).toArray, defers := [] }
def litEval (N : Nat) (X : Nat → Value) (l : List (Nat × Value)) : Operand → Value
 | .tmp k => if k < N then slotOf l k (X k) else undef
 | .const v => v
 | .global g => .pointer (some ⟨g, 0, none⟩)
 | .func f => .func (.func f) #[] #[]
section
variable {N : Nat} {X : Nat → Value} {l : List (Nat × Value)} {P : Program} {w w0 : World} {o : Oper} {ops : Array Oper} {Q : Exit → Act → World → Prop} {i : Nat}
theorem lit_get? (k : Nat) : (lit N X l).tmps[k]? = if k < N then some (slotOf l k (X k)) else none := by
 unfold lit
 simp only [List.getElem?_toArray, List.getElem?_map]
 by_cases h : k < N
 ·rw [List.getElem?_range h, if_pos h]; rfl
 ·rw [List.getElem?_eq_none (by simp; omega), if_neg h]; rfl
theorem lit_getD (k : Nat) : (lit N X l).tmps.getD k undef = if k < N then slotOf l k (X k) else undef := by
 rw [Array.getD_eq_getD_getElem?, lit_get?]
 split <;> rfl
theorem lit_eval : (lit N X l).eval = litEval N X l := by
 funext x
 cases x with
 | tmp k => exact lit_getD k
 | _ => rfl
theorem lit_put {d : Nat} {v : Value} (_h : d < N) : (lit N X l).put (some d) v = lit N X ((d, v) :: l) := by
 unfold Act.put lit
 simp only
 congr 1
 apply Array.ext
 ·simp
 ·intro k h1 h2
  simp only [Array.size_setIfInBounds, List.size_toArray, List.length_map, List.length_range] at h1
  by_cases hk : d = k
  ·subst hk
   simp [slotOf]
  ·simp [hk, slotOf]
theorem litEv {x : Operand} {v : Value} (h : litEval N X l x = v) : (lit N X l).eval x = v := by rw [lit_eval]; exact h
theorem litRun {r : Result Next} (h : (execOp (litEval N X l) o).run P w = r) : (execOp (lit N X l).eval o).run P w = r := by rw [lit_eval]; exact h
theorem litArgs {args : List Operand} {vals : List Value} (h : args.map (litEval N X l) = vals) : args.map (lit N X l).eval = vals := by rw [lit_eval]; exact h
theorem litGet {k : Nat} {v : Value} (h : litEval N X l (.tmp k) = v) : (lit N X l).tmps.getD k undef = v := litEv h
theorem le_ {N : Nat} {X : Nat → Value} {l : List (Nat × Value)} {x : Operand} {v : Value} (h : litEval N X l x = v := by kernel_rfl) : (lit N X l).eval x = v := litEv h
theorem lg_ {N : Nat} {X : Nat → Value} {l : List (Nat × Value)} {k : Nat} {v : Value} (h : litEval N X l (.tmp k) = v := by kernel_rfl) : (lit N X l).tmps.getD k undef = v := litGet h
theorem wgY {j dj : Nat} {b : Bool} {oj : Oper} (hg : o.guard = some (j, b)) (hj : ops.toList[j]? = some oj) (hd : oj.dst = some dj) (hN : (decide (dj < N)) = true) (hv : litEval N X l (.tmp dj) = .bool b) : Region.wanted o (yielded ops (lit N X l).tmps) = true := by
 have hj' : ops[j]? = some oj := by rw [← hj]; simp
 have hN' := of_decide_eq_true hN
 have hs : (lit N X l).tmps[dj]? = some (.bool b) := by
  rw [lit_get?, if_pos hN']
  have : litEval N X l (.tmp dj) = slotOf l dj (X dj) := if_pos hN'
  rw [← this, hv]
 simp [Region.wanted, hg, yielded, hj', hd, hs]
theorem wgN {j dj : Nat} {b : Bool} {oj : Oper} (hg : o.guard = some (j, b)) (hj : ops.toList[j]? = some oj) (hd : oj.dst = some dj) (hN : (decide (dj < N)) = true) (hv : litEval N X l (.tmp dj) = .bool !b) : Region.wanted o (yielded ops (lit N X l).tmps) = false := by
 have hj' : ops[j]? = some oj := by rw [← hj]; simp
 have hN' := of_decide_eq_true hN
 have hs : (lit N X l).tmps[dj]? = some (.bool !b) := by
  rw [lit_get?, if_pos hN']
  have : litEval N X l (.tmp dj) = slotOf l dj (X dj) := if_pos hN'
  rw [← this, hv]
 simp [Region.wanted, hg, yielded, hj', hd, hs]
theorem wgU {j dj : Nat} {b : Bool} {oj : Oper} (hg : o.guard = some (j, b)) (hj : ops.toList[j]? = some oj) (hd : oj.dst = some dj) (hN : (decide (dj < N)) = true) (hv : litEval N X l (.tmp dj) = undef) : Region.wanted o (yielded ops (lit N X l).tmps) = false := by
 have hj' : ops[j]? = some oj := by rw [← hj]; simp
 have hN' := of_decide_eq_true hN
 have hs : (lit N X l).tmps[dj]? = some undef := by
  rw [lit_get?, if_pos hN']
  have : litEval N X l (.tmp dj) = slotOf l dj (X dj) := if_pos hN'
  rw [← this, hv]
 simp [Region.wanted, hg, yielded, hj', hd, hs, undef]
theorem qPut {d : Nat} {v : Value} {dst : Option Tmp} (hd : dst = some d) (hN : (decide (d < N)) = true) (h : PL P ops Q i (lit N X ((d, v) :: l)) w) : PL P ops Q i ((lit N X l).put dst v) w := by
 rw [hd, lit_put (of_decide_eq_true hN)]; exact h
theorem qNone {v : Value} {dst : Option Tmp} (hd : dst = none) (h : PL P ops Q i (lit N X l) w) : PL P ops Q i ((lit N X l).put dst v) w := by
 rw [hd]; exact h
theorem mPut {L : List Res} {fuel : Nat} {listed : Array Bool} {d : Nat} {v : Value} {dst : Option Tmp} (hd : dst = some d) (hN : (decide (d < N)) = true) (h : MG P ops Q w0 L fuel listed (lit N X ((d, v) :: l)) w) : MG P ops Q w0 L fuel listed ((lit N X l).put dst v) w := by
 rw [hd, lit_put (of_decide_eq_true hN)]; exact h
theorem mNone {L : List Res} {fuel : Nat} {listed : Array Bool} {v : Value} {dst : Option Tmp} (hd : dst = none) (h : MG P ops Q w0 L fuel listed (lit N X l) w) : MG P ops Q w0 L fuel listed ((lit N X l).put dst v) w := by
 rw [hd]; exact h
theorem litStart {c : Code} {a : Act} (N : Nat) (l : List (Nat × Value)) (h : a = lit N (fun _ => undef) l) (k : ∀ X, c.wp P Q (lit N X l) w) : c.wp P Q a w := by
 rw [h]; exact k _
theorem frLit {a : Act} (h : Fr a N l) : ∃ X : Nat → Value, a = lit N X l := Fr.lit h
theorem litSize : (lit N X l).tmps.size = N := by simp [lit]
theorem wpPrune {c : Code} (l' : List (Nat × Value)) (h : FrIs (lit N X l) l') (k : ∀ X', c.wp P Q (lit N X' l') w) : c.wp P Q (lit N X l) w := by
 obtain ⟨X', e⟩ := frLit (⟨litSize, rfl, h⟩ : Fr (lit N X l) N l')
 rw [e]
 exact k X'
theorem litVal {v : Value} {d : Nat} (hi : ops.toList[i]? = some o) (hw : Region.wanted o (yielded ops (lit N X l).tmps) = true) (hr : (execOp (lit N X l).eval o).run P w = .ok (.value v) w) (hd : o.dst = some d) (hN : (decide (d < N)) = true) (h : PL P ops Q (i + 1) (lit N X ((d, v) :: l)) w) : PL P ops Q i (lit N X l) w :=
 plVal hi hw hr (qPut hd hN h)
theorem lk {v : Value} {d : Nat} (hi : ops.toList[i]? = some o) (hg : o.guard = none) (hd : o.dst = some d) (h : PL P ops Q (i + 1) (lit N X ((d, v) :: l)) w) (hr : (execOp (litEval N X l) o).run P w = .ok (.value v) w := by kernel_rfl) (hN : (decide (d < N)) = true := by decide) : PL P ops Q i (lit N X l) w :=
 litVal hi (wn hg) (litRun hr) hd hN h
theorem mk_ {L : List Res} {fuel : Nat} {listed : Array Bool} {v : Value} {d : Nat} (hi : ops.toList[i]? = some o) (hg : o.guard = none) (hQ : ∀ c a w, Q (.panic c) (a.put o.dst v) w → Q (.panic c) a w) (hm : Mem w0 w L) (hd : o.dst = some d)
 (h : MG P ops Q w0 L fuel (listed.setIfInBounds i true) (lit N X ((d, v) :: l)) w) (hf : mayFirst ops listed i = true := by kernel_rfl) (hr : ∀ w, (execOp (litEval N X l) o).run P w = .ok (.value v) w := by intro _; kernel_rfl) (hN : (decide (d < N)) = true := by decide) : MG P ops Q w0 L (fuel + 1) listed (lit N X l) w :=
 mgTake hi hf (wn hg) hQ hm (fun w _ => litRun (hr w)) (mPut hd hN h)
theorem plD {a : Act} (h : Q .normal a w) (hi : ops.toList.length ≤ i := by decide) : PL P ops Q i a w := plDone hi h
theorem qP {d : Nat} {v : Value} {dst : Option Tmp} (hd : dst = some d) (h : PL P ops Q i (lit N X ((d, v) :: l)) w) (hN : (decide (d < N)) = true := by decide) : PL P ops Q i ((lit N X l).put dst v) w := qPut hd hN h
theorem mP {L : List Res} {fuel : Nat} {listed : Array Bool} {d : Nat} {v : Value} {dst : Option Tmp} (hd : dst = some d) (h : MG P ops Q w0 L fuel listed (lit N X ((d, v) :: l)) w) (hN : (decide (d < N)) = true := by decide) : MG P ops Q w0 L fuel listed ((lit N X l).put dst v) w := mPut hd hN h
theorem ps_ {j dj d : Nat} {b : Bool} {oj : Oper} (h : PL P ops Q (i + 1) (lit N X ((d, undef) :: l)) w) (hi : ops.toList[i]? = some o := by exact rfl) (hg : o.guard = some (j, b) := by exact rfl) (hj : ops.toList[j]? = some oj := by exact rfl) (hd : oj.dst = some dj := by exact rfl) (hN : (decide (dj < N)) = true := by decide) (hv : litEval N X l (.tmp dj) = .bool !b := by kernel_rfl) (hd' : o.dst = some d := by exact rfl) (hN' : (decide (d < N)) = true := by decide) : PL P ops Q i (lit N X l) w := plSkip hi (wgN hg hj hd hN hv) (qPut hd' hN' h)
theorem lk_ {d : Nat} (v : Value) (h : PL P ops Q (i + 1) (lit N X ((d, v) :: l)) w) (hi : ops.toList[i]? = some o := by exact rfl) (hg : o.guard = none := by exact rfl) (hd : o.dst = some d := by exact rfl) (hr : (execOp (litEval N X l) o).run P w = .ok (.value v) w := by kernel_rfl) (hN : (decide (d < N)) = true := by decide) : PL P ops Q i (lit N X l) w := litVal hi (wn hg) (litRun hr) hd hN h
end
end Go.Proofs.YtbpihalphhoiaaaGreatDoor
namespace Go.Proofs.YtbpihalphhoiaaaGreatDoor
open Go.RowKit Go.ChangeShapes Go.WideShapes
def joinAll {α β : Type} (f : α → Option (List β)) : List α → Option (List β)
 | [] => some []
 | a :: l => match f a, joinAll f l with
  | some x, some y => some (x ++ y)
  | _, _ => none
theorem joinAll_mem {α β : Type} {f : α → Option (List β)} {p : β} : ∀ {l : List α} {r : List β}, joinAll f l = some r → p ∈ r → ∃ (i : Nat) (a : α) (s : List β), l[i]? = some a ∧ f a = some s ∧ p ∈ s
 | [], r, h, hp => by
  simp only [joinAll, Option.some.injEq] at h
  subst h
  cases hp
 | a :: l, r, h, hp => by
  unfold joinAll at h
  split at h
  ·rename_i x y hx hy
   injection h with h
   subst h
   rcases List.mem_append.1 hp with hp | hp
   ·exact ⟨0, a, x, rfl, hx, hp⟩
   ·obtain ⟨i, b, s, h1, h2, h3⟩ := joinAll_mem hy hp
    exact ⟨i + 1, b, s, h1, h2, h3⟩
  ·cases h
def leaves (P : Program) : Nat → TypeId → Option (List (Nat × TypeId))
 | 0, _ => none
 | m + 1, t => match P.underlying t with
  | some (.struct fs) => joinAll (fun f => match leaves P m f.type with
   | some s => if (decide (f.offset + P.cellsOf f.type ≤ P.cellsOf t) && s.all fun p => decide (p.1 + P.cellsOf p.2 ≤ P.cellsOf f.type)) = true then some (s.map fun p => (f.offset + p.1, p.2)) else none
   | none => none) fs.toList
  | some (.array n e) => match leaves P m e with
   | some s => if (decide (n * P.cellsOf e ≤ P.cellsOf t) && s.all fun p => decide (p.1 + P.cellsOf p.2 ≤ P.cellsOf e)) = true then some ((List.range n).flatMap fun i => s.map fun p => (i * P.cellsOf e + p.1, p.2)) else none
   | none => none
  | _ => some [(0, t)]
section
variable {H : Type} {enc : TypeId × Value → H} {P : Program} {w : World} {base : Nat} {held : Bool} {spare : Nat → Bool}
theorem drop_take_drop_take {α : Type} (l : List α) (a b c d : Nat) (h : c + d ≤ b) : (((l.drop a).take b).drop c).take d = (l.drop (a + c)).take d := by
 rw [List.drop_take, List.take_take, List.drop_drop, Nat.min_eq_left (by omega)]
theorem br_leaves : ∀ (m : Nat) (t : TypeId) (ls : List (Nat × TypeId)), leaves P m t = some ls → ∀ (fuel : Nat) (cs : List Value) (x : DataW H × List MemPlace), cs.length = P.cellsOf t → DataW.trod enc P w base spare held fuel t cs = some x →
 ∀ p ∈ ls, ∃ fuel' y, DataW.trod enc P w base spare held fuel' p.2 ((cs.drop p.1).take (P.cellsOf p.2)) = some y
 | 0, _, _, h => by simp [leaves] at h
 | m + 1, t, ls, h => by
  intro fuel cs x hl hx p hp
  unfold leaves at h
  split at h
  ·rename_i fs hu
   obtain ⟨xs, n, rfl, _, _, hlen, hf⟩ := DataW.trod_struct hu hx
   obtain ⟨i, f, s, h1, h2, h3⟩ := joinAll_mem h hp
   split at h2
   ·rename_i s' hs'
    split at h2
    ·rename_i hall
     injection h2 with h2
     subst h2
     rw [Bool.and_eq_true, decide_eq_true_eq] at hall
     obtain ⟨q, hq, rfl⟩ := List.mem_map.1 h3
     have hle := of_decide_eq_true (List.all_eq_true.1 hall.2 q hq)
     have hfx := hf i f (by rw [← h1]; simp)
     have hix : i < xs.length := by
      have := (List.getElem?_eq_some_iff.1 h1).1
      rw [hlen]; simpa using this
     rw [List.getElem?_eq_getElem hix] at hfx
     obtain ⟨f', y, hy⟩ := br_leaves m _ s' hs' _ _ _ (by rw [List.length_take, List.length_drop]; omega) hfx q hq
     rw [drop_take_drop_take _ _ _ _ _ hle] at hy
     exact ⟨f', y, hy⟩
    ·cases h2
   ·cases h2
  ·rename_i n e hu
   obtain ⟨xs, m', rfl, _, _, hlen, hf⟩ := DataW.trod_array hu hx
   split at h
   ·rename_i s' hs'
    split at h
    ·rename_i hall
     injection h with h
     subst h
     rw [Bool.and_eq_true, decide_eq_true_eq] at hall
     obtain ⟨i, hi, h3⟩ := List.mem_flatMap.1 hp
     obtain ⟨q, hq, rfl⟩ := List.mem_map.1 h3
     rw [List.mem_range] at hi
     have hle := of_decide_eq_true (List.all_eq_true.1 hall.2 q hq)
     have hfx := hf i hi
     have hix : i < xs.length := by omega
     rw [List.getElem?_eq_getElem hix] at hfx
     have hmul : (i + 1) * P.cellsOf e ≤ n * P.cellsOf e := Nat.mul_le_mul_right _ hi
     rw [Nat.add_mul, Nat.one_mul] at hmul
     obtain ⟨f', y, hy⟩ := br_leaves m _ s' hs' _ _ _ (by rw [List.length_take, List.length_drop]; omega) hfx q hq
     rw [drop_take_drop_take _ _ _ _ _ hle] at hy
     exact ⟨f', y, hy⟩
    ·cases h
   ·cases h
  ·injection h with h
   subst h
   rw [List.mem_singleton] at hp
   subst hp
   exact ⟨fuel, x, by rw [List.drop_zero, ← hl, List.take_length]; exact hx⟩
theorem br_flat {t : TypeId} {m n : Nat} {ls : List (Nat × TypeId)} (hls : leaves P m t = some ls) (hct : P.cellsOf t = n) (hu : ((P.underlying t).map fun d => match d with | .struct _ | .array _ _ => true | _ => false) = some true)
 {W : World} {r : Reach} {b0 : Nat} {v : Value} {d : DataW H} {pl : List MemPlace}
 (hval : Value.okWide P W r b0 t v) (h : DataW.Trod enc P w base (fun _ => true) held t v d pl) : ∃ cs : List Value, v = .agg cs.toArray ∧ cs.length = n ∧ ∀ p ∈ ls, ∃ fuel' y, DataW.trod enc P w base (fun _ => true) held fuel' p.2 ((cs.drop p.1).take (P.cellsOf p.2)) = some y := by
 obtain ⟨ud, hud, h2⟩ := Option.map_eq_some_iff.1 hu
 have hcs : (∃ fs, ud = .struct fs) ∨ ∃ n e, ud = .array n e := by cases ud <;> simp_all
 obtain ⟨cs, rfl⟩ : ∃ cs : Array Value, v = .agg cs := by
  rcases hcs with ⟨fs, rfl⟩ | ⟨n', e, rfl⟩
  ·simp only [Value.okWide, hud] at hval
   obtain ⟨cs, rfl, _⟩ := hval
   exact ⟨cs, rfl⟩
  ·simp only [Value.okWide, hud] at hval
   obtain ⟨cs, rfl, _⟩ := hval
   exact ⟨cs, rfl⟩
 obtain ⟨fuel, hf⟩ := h
 have hf : DataW.trod enc P w base (fun _ => true) held fuel t cs.toList = some (d, pl) := hf
 have hl : cs.toList.length = P.cellsOf t := by
  rcases hcs with ⟨fs, rfl⟩ | ⟨n', e, rfl⟩
  ·obtain ⟨_, _, _, _, h5, _⟩ := DataW.trod_struct hud hf
   exact h5
  ·obtain ⟨_, _, _, _, h5, _⟩ := DataW.trod_array hud hf
   exact h5
 exact ⟨cs.toList, by simp, by rw [hl, hct], br_leaves m t ls hls fuel cs.toList _ hl hf⟩
theorem leaf_int {cs : List Value} {ls : List (Nat × TypeId)} (h : ∀ p ∈ ls, ∃ fuel' y, DataW.trod enc P w base spare held fuel' p.2 ((cs.drop p.1).take (P.cellsOf p.2)) = some y) {o : Nat} {t : TypeId} {k : IntKind} (hp : ls.contains (o, t) = true) (ht : P.underlying t = some (.int k)) (hc : P.cellsOf t = 1) :
 ∃ z, cs[o]? = some (.int k z) ∧ (Lit.int k z).wf = true := by
 obtain ⟨f, y, hy⟩ := h (o, t) (by simpa using hp)
 simp only [hc] at hy
 obtain ⟨z, hz, _, hw⟩ := DataW.trod_int ht hy
 refine ⟨z, ?_, hw⟩
 have h2 : ((cs.drop o).take 1)[0]? = some (.int k z) := by rw [hz]; rfl
 rw [List.getElem?_take, if_pos (by omega), List.getElem?_drop, Nat.add_zero] at h2
 exact h2
end
theorem eq3 {cs : List Value} {a b c : Value} (hl : cs.length = 3) (h0 : cs[0]? = some a) (h1 : cs[1]? = some b) (h2 : cs[2]? = some c) : cs = [a, b, c] := by
 match cs, hl with
 | [x, y, z], _ => simp_all
end Go.Proofs.YtbpihalphhoiaaaGreatDoor
namespace Go.Proofs.YtbpihalphhoiaaaGreatDoor
open Go.RowKit
def fieldsFit (P : Program) (f : TypeId → Bool) : Nat → Nat → List Field → Bool
 | o, e, [] => o == e
 | o, e, x :: l => x.name != "_" && x.offset == o && f x.type && fieldsFit P f (o + P.cellsOf x.type) e l
def flatInts (P : Program) : Nat → TypeId → Bool
 | 0, _ => false
 | m + 1, t => match P.underlying t with
  | some (.int _) => P.cellsOf t == 1
  | some (.struct fs) => !P.stoodInHeld t && fieldsFit P (flatInts P m) 0 (P.cellsOf t) fs.toList
  | _ => false
def SameKinds (cs ds : List Value) : Prop := ∀ i, i < cs.length → ∃ k a b, cs[i]? = some (.int k a) ∧ ds[i]? = some (.int k b)
def valOf (P : Program) (t : TypeId) (cs : List Value) : Value := match P.underlying t with
 | some (.struct _) => .agg cs.toArray
 | _ => cs.headD undef
section
variable {P : Program} {w : World}
theorem SameKinds.sub {cs ds : List Value} (h : SameKinds cs ds) (o n : Nat) (hc : o + n ≤ cs.length) : SameKinds ((cs.drop o).take n) ((ds.drop o).take n) := by
 intro i hi
 rw [List.length_take, List.length_drop] at hi
 obtain ⟨k, a, b, h1, h2⟩ := h (o + i) (by omega)
 refine ⟨k, a, b, ?_, ?_⟩
 ·rw [List.getElem?_take, if_pos (by omega), List.getElem?_drop]; exact h1
 ·rw [List.getElem?_take, if_pos (by omega), List.getElem?_drop]; exact h2
theorem flat_cases {m : Nat} {t : TypeId} (h : flatInts P (m + 1) t = true) : (∃ k, P.underlying t = some (.int k) ∧ P.cellsOf t = 1) ∨ (∃ fs, P.underlying t = some (.struct fs) ∧ P.stoodInHeld t = false ∧ fieldsFit P (flatInts P m) 0 (P.cellsOf t) fs.toList = true) := by
 unfold flatInts at h
 split at h
 ·rename_i k hk
  exact Or.inl ⟨k, hk, by simpa using h⟩
 ·rename_i fs hfs
  rw [Bool.and_eq_true] at h
  exact Or.inr ⟨fs, hfs, by simpa using h.1, h.2⟩
 ·cases h
theorem sizeOf_cells {t : TypeId} {d : TypeDesc} (hu : P.underlying t = some d) : (sizeOf t).run P w = .ok (P.cellsOf t) w := by
 unfold Program.cellsOf
 cases hi : P.info? t with
 | none => simp [Program.underlying, hi] at hu
 | some i => simp [sizeOf, typeInfo, hi]
theorem part_val {m : Nat} {t : TypeId} {cs : List Value} {o : Nat} (hf : flatInts P (m + 1) t = true) (hc : o + P.cellsOf t ≤ cs.length) : (Go.part t cs.toArray o).run P w = .ok (valOf P t ((cs.drop o).take (P.cellsOf t))) w := by
 unfold Go.part valOf
 rcases flat_cases hf with ⟨k, hk, hc1⟩ | ⟨fs, hfs, _, _⟩
 ·have ha : (isAgg t).run P w = .ok false w := by
   unfold isAgg
   rw [Sem.run_bind, run_underlying hk w]
   rfl
  rw [hc1] at hc ⊢
  have hlt : o < cs.length := by omega
  have hg : cs[o]? = some cs[o] := List.getElem?_eq_getElem hlt
  have ht : (cs.drop o).take 1 = [cs[o]] := by rw [List.drop_eq_getElem_cons hlt]; rfl
  rw [ht, hk]
  simp [ha, hg]
 ·have ha : (isAgg t).run P w = .ok true w := by
   unfold isAgg
   rw [Sem.run_bind, run_underlying hfs w]
   rfl
  have hs := sizeOf_cells (w := w) hfs
  rw [hfs]
  simp [ha, hs]
theorem take_split {α : Type} (l : List α) (o a b : Nat) : (l.drop o).take (a + b) = (l.drop o).take a ++ (l.drop (o + a)).take b := by
 rw [List.take_add, List.drop_drop]
theorem fit_le {f : TypeId → Bool} : ∀ {fs : List Field} {o e : Nat}, fieldsFit P f o e fs = true → o ≤ e
 | [], o, e, h => by
  simp only [fieldsFit, beq_iff_eq] at h
  omega
 | x :: l, o, e, h => by
  simp only [fieldsFit, Bool.and_eq_true] at h
  have := fit_le h.2
  omega
theorem eqFields_flat {m d : Nat} (ih : ∀ t, flatInts P (m + 1) t = true → ∀ cs ds : List Value, cs.length = P.cellsOf t → ds.length = P.cellsOf t → SameKinds cs ds → ∃ b, (Op.equalIn d t (valOf P t cs) (valOf P t ds)).run P w = .ok b w ∧ (b = true ↔ cs = ds)) :
 ∀ (fs : List Field) (o e : Nat) (cs ds : List Value), fieldsFit P (flatInts P (m + 1)) o e fs = true → e ≤ cs.length → e ≤ ds.length → SameKinds cs ds →
  ∃ b, (Op.eqFields d cs.toArray ds.toArray fs).run P w = .ok b w ∧ (b = true ↔ (cs.drop o).take (e - o) = (ds.drop o).take (e - o))
 | [], o, e, cs, ds, h, _, _, _ => by
  simp only [fieldsFit, beq_iff_eq] at h
  subst h
  exact ⟨true, by simp [Op.eqFields], by simp⟩
 | x :: l, o, e, cs, ds, h, hc, hd, hk => by
  simp only [fieldsFit, Bool.and_eq_true, bne_iff_ne, ne_eq, beq_iff_eq] at h
  obtain ⟨⟨⟨hn, ho⟩, hf⟩, hl⟩ := h
  have hle := fit_le hl
  have pc := part_val (P := P) (w := w) (cs := cs) (o := o) hf (by omega)
  have pd := part_val (P := P) (w := w) (cs := ds) (o := o) hf (by omega)
  obtain ⟨b1, hb1, hi1⟩ := ih x.type hf ((cs.drop o).take (P.cellsOf x.type)) ((ds.drop o).take (P.cellsOf x.type)) (by rw [List.length_take, List.length_drop]; omega) (by rw [List.length_take, List.length_drop]; omega) (hk.sub o _ (by omega))
  obtain ⟨b2, hb2, hi2⟩ := eqFields_flat ih l (o + P.cellsOf x.type) e cs ds hl hc hd hk
  have e1 : e - o = P.cellsOf x.type + (e - (o + P.cellsOf x.type)) := by omega
  have hlen : ((cs.drop o).take (P.cellsOf x.type)).length = ((ds.drop o).take (P.cellsOf x.type)).length := by rw [List.length_take, List.length_drop, List.length_take, List.length_drop]; omega
  rw [e1, take_split, take_split]
  cases b1 with
  | false =>
   refine ⟨false, ?_, ?_⟩
   ·simp [Op.eqFields, hn, ho, pc, pd, hb1]
   ·constructor
    ·intro h; cases h
    ·intro h
     have := hi1.2 (List.append_inj_left h hlen)
     cases this
  | true =>
   refine ⟨b2, ?_, ?_⟩
   ·simp [Op.eqFields, hn, ho, pc, pd, hb1, hb2]
   ·rw [hi2]
    constructor
    ·intro h; rw [hi1.1 rfl, h]
    ·intro h; exact List.append_inj_right h hlen
theorem flat_eq : ∀ (m : Nat) (t : TypeId), flatInts P (m + 1) t = true → ∀ (d : Nat), m < d → ∀ (cs ds : List Value), cs.length = P.cellsOf t → ds.length = P.cellsOf t → SameKinds cs ds →
 ∃ b, (Op.equalIn d t (valOf P t cs) (valOf P t ds)).run P w = .ok b w ∧ (b = true ↔ cs = ds)
 | m, t, h, 0, hd, cs, ds, hc, hdl, hk => absurd hd (Nat.not_lt_zero _)
 | m, t, h, d + 1, hd, cs, ds, hc, hdl, hk => by
  rcases flat_cases h with ⟨k, hu, h1⟩ | ⟨fs, hu, hs, hfit⟩
  ·obtain ⟨k', a, b, ha, hb⟩ := hk 0 (by omega)
   have ec : cs = [.int k' a] := by
    match cs, hc, ha with
    | [x], _, ha => simp at ha; rw [ha]
    | [], hc, _ => simp [h1] at hc
    | _ :: _ :: _, hc, _ => simp [h1] at hc
   have ed : ds = [.int k' b] := by
    match ds, hdl, hb with
    | [x], _, hb => simp at hb; rw [hb]
    | [], hc, _ => simp [h1] at hc
    | _ :: _ :: _, hc, _ => simp [h1] at hc
   subst ec
   subst ed
   unfold valOf
   rw [hu]
   refine ⟨a == b, run_equalIn_int w d t k' k a b hu, ?_⟩
   simp
  ·have hff : P.fieldsOf t = fs := by unfold Program.fieldsOf; rw [hu]
   unfold valOf
   rw [hu]
   simp only
   rw [run_equalIn_struct w d t _ _ (by rw [hff]; exact hu) hs, hff]
   cases m with
   | zero =>
    cases hfs : fs.toList with
    | nil =>
     rw [hfs] at hfit
     simp only [fieldsFit, beq_iff_eq] at hfit
     have e1 : cs = [] := List.eq_nil_of_length_eq_zero (by omega)
     have e2 : ds = [] := List.eq_nil_of_length_eq_zero (by omega)
     subst e1
     subst e2
     exact ⟨true, by simp [Op.eqFields], by simp⟩
    | cons x l =>
     rw [hfs] at hfit
     simp [fieldsFit, flatInts] at hfit
   | succ m =>
    have key := eqFields_flat (w := w) (m := m) (d := d) (fun t ht cs ds h1 h2 h3 => flat_eq m t ht d (by omega) cs ds h1 h2 h3) fs.toList 0 (P.cellsOf t) cs ds hfit (by omega) (by omega) hk
    obtain ⟨b, hb, hi⟩ := key
    refine ⟨b, hb, ?_⟩
    rw [hi, List.drop_zero, List.drop_zero, Nat.sub_zero, List.take_of_length_le (by omega), List.take_of_length_le (by omega)]
end
def kindsOk : List Value → List Value → Bool
 | [], [] => true
 | .int k _ :: cs, .int k' _ :: ds => decide (k = k') && kindsOk cs ds
 | _, _ => false
theorem SameKinds.of : ∀ {cs ds : List Value}, kindsOk cs ds = true → SameKinds cs ds ∧ ds.length = cs.length
 | [], [], _ => ⟨fun i hi => absurd hi (Nat.not_lt_zero _), rfl⟩
 | .int k a :: cs, .int k' b :: ds, h => by
  simp only [kindsOk, Bool.and_eq_true, decide_eq_true_eq] at h
  obtain ⟨rfl, h⟩ := h
  obtain ⟨h1, h2⟩ := SameKinds.of h
  refine ⟨fun i hi => ?_, by simp [h2]⟩
  cases i with
  | zero => exact ⟨k, a, b, rfl, rfl⟩
  | succ i =>
   obtain ⟨k2, a2, b2, e1, e2⟩ := h1 i (by simpa using hi)
   exact ⟨k2, a2, b2, by simpa using e1, by simpa using e2⟩
section
variable {P : Program} {w : World} {o : Oper} {a : Act} {t ty : TypeId} {cs ds : List Value} {m : Nat}
theorem eqAgg_run (m : Nat) (hf : flatInts P (m + 1) t = true) (hm : decide (m < 10000) = true) (hu : ((P.underlying t).map fun d => match d with | .struct _ => true | _ => false) = some true) (hl : cs.length = P.cellsOf t) (hk : kindsOk cs ds = true) {b : Bool} (hb : b = true ↔ cs = ds) :
 (Op.equalIn 10000 t (.agg cs.toArray) (.agg ds.toArray)).run P w = .ok b w := by
 obtain ⟨d, hd, h2⟩ := Option.map_eq_some_iff.1 hu
 obtain ⟨h3, h4⟩ := SameKinds.of hk
 obtain ⟨b', h5, h6⟩ := flat_eq (P := P) (w := w) m t hf 10000 (of_decide_eq_true hm) cs ds hl (by rw [h4, hl]) h3
 have hv : ∀ es : List Value, valOf P t es = .agg es.toArray := fun es => by
  unfold valOf
  rw [hd]
  cases d <;> simp_all
 rw [hv, hv] at h5
 rw [h5]
 congr 1
 rw [Bool.eq_iff_iff, h6, hb]
theorem eqlAgRun (m : Nat) (x y : Operand) (cs ds : List Value) (b : Bool) (hb : b = true ↔ cs = ds) (hf : flatInts P (m + 1) t = true) (hm : decide (m < 10000) = true) (hu : ((P.underlying t).map fun d => match d with | .struct _ => true | _ => false) = some true) (hg : P.eqGuardType P.depth t = false) (hl : cs.length = P.cellsOf t) (hk : kindsOk cs ds = true)
 (ho : o.op = .binOp .eql t x y ty) (hx : a.eval x = .agg cs.toArray) (hy : a.eval y = .agg ds.toArray) : (execOp a.eval o).run P w = .ok (.value (.bool b)) w := by
 have hr := eqAgg_run (w := w) m hf hm hu hl hk hb
 unfold execOp
 simp only [ho, hx, hy]
 simp [eqGuard, hg, run_eql_struct, hr]
theorem neqAgRun (m : Nat) (x y : Operand) (cs ds : List Value) (b : Bool) (hb : b = true ↔ cs = ds) (hf : flatInts P (m + 1) t = true) (hm : decide (m < 10000) = true) (hu : ((P.underlying t).map fun d => match d with | .struct _ => true | _ => false) = some true) (hg : P.eqGuardType P.depth t = false) (hl : cs.length = P.cellsOf t) (hk : kindsOk cs ds = true)
 (ho : o.op = .binOp .neq t x y ty) (hx : a.eval x = .agg cs.toArray) (hy : a.eval y = .agg ds.toArray) : (execOp a.eval o).run P w = .ok (.value (.bool !b)) w := by
 have hr := eqAgg_run (w := w) m hf hm hu hl hk hb
 unfold execOp
 simp only [ho, hx, hy]
 simp [eqGuard, hg, run_neq_struct, hr]
end
theorem Ty.ag_voxel_api_Point : AgTy Tryz.prog 23 [.int .i64 0, .int .i64 0, .int .i64 0].toArray 3 := ⟨by kernel_rfl, by kernel_rfl, by kernel_rfl⟩
theorem Ty.ag_voxel_api_Box : AgTy Tryz.prog 25 [.int .i64 0, .int .i64 0, .int .i64 0, .int .i64 0, .int .i64 0, .int .i64 0].toArray 6 := ⟨by kernel_rfl, by kernel_rfl, by kernel_rfl⟩
theorem Ty.ag_voxel_api_Grid : AgTy Tryz.prog 28 [.int .i64 0, .int .i64 0, .int .i64 0, .int .i64 0, .int .i64 0, .int .i64 0, .slice none 0 0].toArray 7 := ⟨by kernel_rfl, by kernel_rfl, by kernel_rfl⟩
theorem Ty.ag_voxel_api_Mesh : AgTy Tryz.prog 41 [.slice none 0 0, .slice none 0 0].toArray 2 := ⟨by kernel_rfl, by kernel_rfl, by kernel_rfl⟩
theorem Ty.ag_voxel_api_Quad : AgTy Tryz.prog 45 [.int .i64 0, .int .i64 0, .int .i64 0, .int .i64 0, .bool false, .int .i64 0].toArray 6 := ⟨by kernel_rfl, by kernel_rfl, by kernel_rfl⟩
theorem Ty.ag_voxel_api_Tile : AgTy Tryz.prog 63 [.int .i64 0, .int .i64 0, .int .i64 0, .int .i64 0].toArray 4 := ⟨by kernel_rfl, by kernel_rfl, by kernel_rfl⟩
theorem Ty.ag_2_int : AgTy Tryz.prog 83 [.int .i64 0, .int .i64 0].toArray 2 := ⟨by kernel_rfl, by kernel_rfl, by kernel_rfl⟩
theorem Ty.ag_voxel_collide_extent : AgTy Tryz.prog 85 [.int .i64 0, .int .i64 0, .int .i64 0, .int .i64 0, .int .i64 0, .int .i64 0].toArray 6 := ⟨by kernel_rfl, by kernel_rfl, by kernel_rfl⟩
theorem Ty.ag_voxel_mesh_span : AgTy Tryz.prog 92 [.int .i64 0, .int .i64 0, .int .i64 0, .int .i64 0, .int .i64 0, .int .i64 0].toArray 6 := ⟨by kernel_rfl, by kernel_rfl, by kernel_rfl⟩
theorem Ty.ag_voxel_api_Half : AgTy Tryz.prog 94 [.int .i64 0, .int .i64 0, .int .i64 0, .int .i64 0, .int .i64 0, .int .i64 0].toArray 6 := ⟨by kernel_rfl, by kernel_rfl, by kernel_rfl⟩
theorem Ty.ag_voxel_api_Chosen : AgTy Tryz.prog 108 [.int .i64 0, .int .i64 0, .int .i64 0, .int .i64 0, .int .i64 0].toArray 5 := ⟨by kernel_rfl, by kernel_rfl, by kernel_rfl⟩
theorem Ty.ag_voxel_faces_direction : AgTy Tryz.prog 111 [.int .i64 0, .bool false, .int .i64 0, .int .i64 0, .int .i64 0].toArray 5 := ⟨by kernel_rfl, by kernel_rfl, by kernel_rfl⟩
theorem Ty.ag_6_faces_direction : AgTy Tryz.prog 112 [.int .i64 0, .bool false, .int .i64 0, .int .i64 0, .int .i64 0, .int .i64 0, .bool false, .int .i64 0, .int .i64 0, .int .i64 0, .int .i64 0, .bool false, .int .i64 0, .int .i64 0, .int .i64 0, .int .i64 0, .bool false, .int .i64 0, .int .i64 0, .int .i64 0, .int .i64 0, .bool false, .int .i64 0, .int .i64 0, .int .i64 0, .int .i64 0, .bool false, .int .i64 0, .int .i64 0, .int .i64 0].toArray 30 := ⟨by kernel_rfl, by kernel_rfl, by kernel_rfl⟩
theorem Ty.ag_3_int : AgTy Tryz.prog 120 [.int .i64 0, .int .i64 0, .int .i64 0].toArray 3 := ⟨by kernel_rfl, by kernel_rfl, by kernel_rfl⟩
theorem Ty.ag_voxel_api_Material : AgTy Tryz.prog 122 [.string ⟨([]).toArray⟩, .bool false, .bool false, .bool false, .int .i64 0, .int .i64 0, .int .i64 0, .int .i64 0].toArray 8 := ⟨by kernel_rfl, by kernel_rfl, by kernel_rfl⟩
theorem Ty.ag_voxel_seam_segment : AgTy Tryz.prog 140 [.int .i64 0, .int .i64 0, .int .i64 0, .int .i64 0].toArray 4 := ⟨by kernel_rfl, by kernel_rfl, by kernel_rfl⟩
theorem Ty.ag_voxel_seam_vector : AgTy Tryz.prog 142 [.int .i64 0, .int .i64 0, .int .i64 0].toArray 3 := ⟨by kernel_rfl, by kernel_rfl, by kernel_rfl⟩
theorem Ty.ag_3_bool : AgTy Tryz.prog 144 [.bool false, .bool false, .bool false].toArray 3 := ⟨by kernel_rfl, by kernel_rfl, by kernel_rfl⟩
theorem Ty.sl_L_int : SlTy Tryz.prog 26 3 (.int .i64 0) 1 8 := ⟨by kernel_rfl, by kernel_rfl, by rfl, by decide⟩
theorem Ty.sl_L_api_Material : SlTy Tryz.prog 29 122 (.agg ([.string ⟨([]).toArray⟩, .bool false, .bool false, .bool false, .int .i64 0, .int .i64 0, .int .i64 0, .int .i64 0]).toArray) 8 56 := ⟨by kernel_rfl, by kernel_rfl, by rfl, by decide⟩
theorem Ty.sl_L_api_Tile : SlTy Tryz.prog 31 63 (.agg ([.int .i64 0, .int .i64 0, .int .i64 0, .int .i64 0]).toArray) 4 32 := ⟨by kernel_rfl, by kernel_rfl, by rfl, by decide⟩
theorem Ty.sl_L_L_int : SlTy Tryz.prog 32 26 (.slice none 0 0) 1 24 := ⟨by kernel_rfl, by kernel_rfl, by rfl, by decide⟩
theorem Ty.sl_L_api_Box : SlTy Tryz.prog 36 25 (.agg ([.int .i64 0, .int .i64 0, .int .i64 0, .int .i64 0, .int .i64 0, .int .i64 0]).toArray) 6 48 := ⟨by kernel_rfl, by kernel_rfl, by rfl, by decide⟩
theorem Ty.sl_L_api_Quad : SlTy Tryz.prog 38 45 (.agg ([.int .i64 0, .int .i64 0, .int .i64 0, .int .i64 0, .bool false, .int .i64 0]).toArray) 6 48 := ⟨by kernel_rfl, by kernel_rfl, by rfl, by decide⟩
theorem Ty.sl_L_api_Half : SlTy Tryz.prog 39 94 (.agg ([.int .i64 0, .int .i64 0, .int .i64 0, .int .i64 0, .int .i64 0, .int .i64 0]).toArray) 6 48 := ⟨by kernel_rfl, by kernel_rfl, by rfl, by decide⟩
theorem Ty.sl_L_bool : SlTy Tryz.prog 73 4 (.bool false) 1 1 := ⟨by kernel_rfl, by kernel_rfl, by rfl, by decide⟩
theorem Ty.sl_L_api_Point : SlTy Tryz.prog 89 23 (.agg ([.int .i64 0, .int .i64 0, .int .i64 0]).toArray) 3 24 := ⟨by kernel_rfl, by kernel_rfl, by rfl, by decide⟩
theorem Ty.und_L_int : Tryz.prog.underlying 26 = some (.slice 3) := by kernel_rfl
theorem Ty.und_L_api_Material : Tryz.prog.underlying 29 = some (.slice 122) := by kernel_rfl
theorem Ty.und_L_api_Tile : Tryz.prog.underlying 31 = some (.slice 63) := by kernel_rfl
theorem Ty.und_L_L_int : Tryz.prog.underlying 32 = some (.slice 26) := by kernel_rfl
theorem Ty.und_L_api_Box : Tryz.prog.underlying 36 = some (.slice 25) := by kernel_rfl
theorem Ty.und_L_api_Quad : Tryz.prog.underlying 38 = some (.slice 45) := by kernel_rfl
theorem Ty.und_L_api_Half : Tryz.prog.underlying 39 = some (.slice 94) := by kernel_rfl
theorem Ty.und_2_int : Tryz.prog.underlying 83 = some (.array 2 3) := by kernel_rfl
theorem Ty.und_voxel_collide_extent : Tryz.prog.underlying 85 = some (.array 3 83) := by kernel_rfl
theorem Ty.und_L_api_Point : Tryz.prog.underlying 89 = some (.slice 23) := by kernel_rfl
theorem Ty.und_3_int : Tryz.prog.underlying 120 = some (.array 3 3) := by kernel_rfl
theorem Ty.und_voxel_seam_vector : Tryz.prog.underlying 142 = some (.array 3 3) := by kernel_rfl
theorem Ty.und_3_bool : Tryz.prog.underlying 144 = some (.array 3 4) := by kernel_rfl
end Go.Proofs.YtbpihalphhoiaaaGreatDoor
