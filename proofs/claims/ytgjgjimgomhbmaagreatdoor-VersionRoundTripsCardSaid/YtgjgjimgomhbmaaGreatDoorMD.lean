/-
 MD: several texts in one. No statement is proved here.
-/
import Derived.Test.YtgjgjimgomhbmaaGreatDoorMC
import Derived.Lib.AppendZeros
import Derived.Test.YtgjgjimgomhbmaaGreatDoorMB
set_option maxRecDepth 100000
set_option maxHeartbeats 4000000
set_option linter.unusedVariables false
set_option linter.unusedSimpArgs false
namespace Go.Proofs.YtgjgjimgomhbmaaGreatDoor
open Go.RowKit
section
variable {P : Program} {ops : Array Oper} {Q : Exit → Act → World → Prop} {a : Act} {w w0 : World} {o : Oper} {L : List Res} {i : Nat} {fuel : Nat} {listed : Array Bool}
theorem mgLit {t e : TypeId} {z : Value} {size bytes n : Nat} {parts : Array (Nat × Operand)} {cs : List Value} (T : SlTy P t e z size bytes) (hm : Mem w0 w L) (hr : Region.ready .any ops listed = [i]) (hi : ops.toList[i]? = some o) (hw : Region.wanted o (yielded ops a.tmps) = true) (ho : o.op = .buildSlice t n parts) (hn : n * size ≤ 65536) (hn0 : ¬ n * size = 0)
 (hf : Instr.fill (fun i => some (i * size, size)) ((Array.range (n * size)).map (z.cells[· % z.cells.size]!)) (parts.map fun (i, x) => (i, a.eval x)).toList = some cs.toArray)
 (h : ∀ g w', Mem w0 w' (L ++ [.arr g e cs]) → MG P ops Q w0 (L ++ [.arr g e cs]) fuel (listed.setIfInBounds i true) (a.put o.dst (.slice (some ⟨g, 0, none⟩) n n)) w') : MG P ops Q w0 L (fuel + 1) listed a w := by
 obtain ⟨ti, hti, hz0, hz1, hz2⟩ := info_parts T.inf
 refine ⟨rgNext hr hi (wpList_want hw fun K hK => wp_buildSlice t e n _ ho cs.toArray ti z T.und hti hz0 (by rw [hz1]; omega) (by rw [hz1]; exact hn0) (by rw [hz1]; exact hf) (hK _ _ ?_))⟩
 have hmn := hm.new ((Below.refl w.heap.size w).alloc (Nat.le_refl _) _) (Arr.new w e cs)
 exact ⟨hmn.sub (List.sublist_append_left _ _), (mgMore (fun w hw => hw.sub (List.sublist_append_left _ _)) (h _ _ hmn)).out⟩
theorem gCap {t e : TypeId} {A : Option Addr} {n c : Nat} (x : Operand) (ht : P.underlying t = some (.slice e)) (ho : o.op = .call { callee := .builtin .cap, args := #[x], argTypes := #[t] }) (hx : a.eval x = .slice A n c) : (execOp a.eval o).run P w = .ok (.value (.int .i64 (c : Int))) w := by
 unfold execOp
 simp [ho, hx, resolve, invoke, builtin, Builtin.cap_, run_underlying ht, goInt]
theorem sliceNil {t e : TypeId} {z : Value} {size bytes : Nat} (x y : Operand) (T : SlTy P t e z size bytes) (ho : o.op = .slice t x none (some y) none) (hx : a.eval x = .slice none 0 0) (hy : a.eval y = .int .i64 0) : (execOp a.eval o).run P w = .ok (.value (.slice none 0 0)) w := by
 obtain ⟨i, hi, hz0, hz1, hz2⟩ := info_parts T.inf
 have ht : P.underlying t = some (.slice (P.elem t)) := by rw [T.und]; simp [Program.elem, T.und]
 have he : P.elem t = e := by have := T.und; rw [this] at ht; injection ht with ht; injection ht with ht; exact ht.symm
 have hrun := fun w' => run_slice_h (P := P) w' t none 0 0 ht .i64 0 (by omega) (by omega)
 unfold execOp
 simp only [ho, hx, hy, Option.map_some, Option.map_none, Sem.run_bind, Sem.run_pure, run_sliceAt_slice w t _ _ _ _ ht, hrun w, he, sizeOf, typeInfo]
 simp [hi, sliced]
theorem sliceRow0 {t e : TypeId} {z : Value} {size bytes g n c : Nat} (x y : Operand) (T : SlTy P t e z size bytes) (ho : o.op = .slice t x none (some y) none) (hx : a.eval x = .slice (some ⟨g, 0, none⟩) n c) (hy : a.eval y = .int .i64 0) : (execOp a.eval o).run P w = .ok (.value (.slice (some ⟨g, 0, none⟩) 0 c)) w := by
 obtain ⟨i, hi, hz0, hz1, hz2⟩ := info_parts T.inf
 have ht : P.underlying t = some (.slice (P.elem t)) := by rw [T.und]; simp [Program.elem, T.und]
 have he : P.elem t = e := by have := T.und; rw [this] at ht; injection ht with ht; injection ht with ht; exact ht.symm
 have hrun := fun w' => run_slice_h (P := P) w' t (some ⟨g, 0, none⟩) n c ht .i64 0 (by omega) (by omega)
 unfold execOp
 simp only [ho, hx, hy, Option.map_some, Option.map_none, Sem.run_bind, Sem.run_pure, run_sliceAt_slice w t _ _ _ _ ht, hrun w, he, sizeOf, typeInfo]
 by_cases hc : c = 0 <;> simp [hi, sliced, Addr.add, hc]
theorem Mem.row0 {e : TypeId} {size n c g : Nat} {xs : List Value} (j : Nat) (h : Mem w0 w L) (hj : L[j]? = some (.row (.slice (some ⟨g, 0, none⟩) n c) e size n xs)) : Mem w0 w (L.set j (.row (.slice (some ⟨g, 0, none⟩) 0 c) e size 0 [])) := by
 refine ⟨h.bel, fun s hs => ?_, resApart_set h.apart fun k s hk hs => ?_⟩
 ·rcases resMem_set_ne hs with rfl | ⟨k, _, hk⟩
  ·obtain ⟨_, h2⟩ := h.row j hj
   rcases h2 with ⟨h3, _⟩ | ⟨g', cap, cur, hv, hb, hg, hn, hc, hs, _⟩
   ·cases h3
   ·injection hv with h4 h5 h6
    cases h4
    subst h6
    exact ⟨by simp, Or.inr ⟨g, c, cur, rfl, hb, hg, Nat.zero_le _, hc, hs, by simp⟩⟩
  ·exact h.each s (List.mem_of_getElem? hk)
 ·have h1 := resApart_at h.apart (Ne.symm hk) hj hs
  exact h1
theorem plAppZ {s x : Operand} {t tn e : TypeId} {z : Value} {size bytes n : Nat} (T : SlTy P t e z size bytes) (htn : P.underlying tn = some (.int .i64)) (hm : Mem w0 w L) (hi : ops.toList[i]? = some o) (hw : Region.wanted o (yielded ops a.tmps) = true)
 (ho : o.op = .call { callee := .builtin .append, args := #[s, x], argTypes := #[t, tn] }) (hs : a.eval s = .slice none 0 0) (hx : a.eval x = .int .i64 (n : Int)) (hn0 : 0 < n) (hn : n ≤ 70368744177664) (hby : n * bytes ≤ 140737488355328)
 (h : ∀ g c xs w', Mem w0 w' (L ++ [.row (.slice (some ⟨g, 0, none⟩) n c) e size n xs]) → PL P ops Q (i + 1) (a.put o.dst (.slice (some ⟨g, 0, none⟩) n c)) w') : PL P ops Q i a w := by
 obtain ⟨ti, hti, hz0, hz1, hz2⟩ := info_parts T.inf
 have hr := Lib.run_append_nil_zeros (P := P) w t tn o.type e ti z .i64 .i64 T.und htn hti hz0 n hn0 (by rw [hz1]; exact T.pos) (by omega) (by rw [hz2]; omega)
 refine plOf hi (wpList_want hw fun K hK => Lib.wp_append_run w s x t tn ho _ _ hs hx _ _ hr (hK _ _ ?_))
 refine (h w.heap.size _ ((Builtin.zeroCells z.cells n ++ Builtin.zeroCells z.cells (grownCap w n 0 e - n)).toList.take (n * size)) _ (hm.newRow ?_ ?_)).out
 ·exact ((Below.refl w.heap.size w).drew).alloc (Nat.le_refl _) _
 ·have hge : n ≤ grownCap w n 0 e := grownCap_ge w _ _ _
  have hle : grownCap w n 0 e ≤ maxLen := grownCap_le_maxLen w _ _ _ (by unfold maxLen; omega)
  have hzl : ∀ k, (Builtin.zeroCells z.cells k).size = k * size := fun k => by simp [Builtin.zeroCells, T.zs]
  have hsz : (Builtin.zeroCells z.cells n ++ Builtin.zeroCells z.cells (grownCap w n 0 e - n)).size = grownCap w n 0 e * size := by
   rw [Array.size_append, hzl, hzl, ← Nat.add_mul]; congr 1; omega
  refine ⟨?_, Or.inr ⟨w.heap.size, grownCap w n 0 e, _, rfl, Nat.le_refl _, (MapKept.heap_alloc w.drew _).1, hge, hle, hsz, rfl⟩⟩
  rw [List.length_take, Array.length_toList, hsz, Nat.min_eq_left (Nat.mul_le_mul_right _ hge)]
end
section
variable {P : Program} {ops : Array Oper} {Q : Exit → Act → World → Prop} {a : Act} {w w0 : World} {o : Oper} {L M : List Res} {i c fuel : Nat} {listed : Array Bool}
structure MGL (P : Program) (ops : Array Oper) (Q : Exit → Act → World → Prop) (w0 : World) (M : List Res) (c fuel : Nat) (listed : Array Bool) (a : Act) (w : World) : Prop where
 out : wpAnyL P ops Q (fun w' => Mem w0 w' M) c fuel listed a w
theorem glStart {id : Nat} (c : Nat) (M : List Res) (hm : Mem w0 w L) (hmode : P.follows .mixedOrders = true) (h : ∀ w', Mem w0 w' L → MGL P ops Q w0 M c ops.size (Array.replicate ops.size false) a w') : (Code.region id ops true).wp P Q a w :=
 lgStart _ c hmode (h _ hm.drew).out
theorem glTake {v : Value} (hi : ops.toList[i]? = some o) (hf : (mayFirst ops listed i && (List.range c).contains i && reachD ops (List.range c) 8 c i && closedD ops (List.range c) listed && !(i == c) && !listed.getD c true) = true) (hw : Region.wanted o (yielded ops a.tmps) = true)
 (hQ : ∀ c a w, Q (.panic c) (a.put o.dst v) w → Q (.panic c) a w) (hm : Mem w0 w M) (hy : ∀ w, Mem w0 w M → (execOp a.eval o).run P w = .ok (.value v) w)
 (h : MGL P ops Q w0 M c fuel (listed.setIfInBounds i true) (a.put o.dst v) w) : MGL P ops Q w0 M c (fuel + 1) listed a w :=
 ⟨lgTake _ hi hf hw hQ hy hm h.out⟩
theorem glCall {x : Operand} {args : Array Operand} {argTypes : Array TypeId} {R : Ending → World → Prop} (f : FuncId) (vals first caps : List Value) (hr : Region.ready .any ops listed = [i])
 (hi : ops.toList[i]? = some o) (hf : callable P f = true) (hw : Region.wanted o (yielded ops a.tmps) = true) (ho : o.op = .call { callee := .value x, args, argTypes }) (hc : a.eval x = .func (.func f) first.toArray caps.toArray) (hargs : args.toList.map a.eval = vals)
 (hC : Calls P f (first ++ vals ++ caps).toArray w R) (h : ∀ e w', R e w' → ∃ v, e = .returned v ∧ Mem w0 w' M ∧ MGL P ops Q w0 M c fuel (listed.setIfInBounds i true) (a.put o.dst v) w') : MGL P ops Q w0 M c (fuel + 1) listed a w :=
 ⟨lgNextS hr hi (callOp f vals first caps hf hw ho hc hargs (hC.mono fun e w' he => by
  obtain ⟨v, h1, h2, h3⟩ := h e w' he
  exact ⟨v, h1, h2, h3.out⟩))⟩
theorem glStore1 {x y : Operand} {ty : TypeId} {g k : Nat} {cur : List Value} {v v0 : Value} {t : TypeId} (j : Nat) (hsz : (P.info? ty).map (·.size) = some 1) (hm : Mem w0 w L) (hj : L[j]? = some (.arr g t cur)) (hr : Region.ready .any ops listed = [i]) (hi : ops.toList[i]? = some o) (hc : (listed.setIfInBounds i true).getD c true = true) (hw : Region.wanted o (yielded ops a.tmps) = true) (ho : o.op = .store ty x y)
 (hx : a.eval x = .pointer (some ⟨g, k, none⟩)) (hy : a.eval y = v) (hk : cur[k]? = some v0) (hv : v.cells = #[v]) (h1 : v.oneCell' = true)
 (h : ∀ w', Mem w0 w' (L.set j (.arr g t (cur.set k v))) → MGL P ops Q w0 M c fuel (listed.setIfInBounds i true) (a.put o.dst undef) w') : MGL P ops Q w0 M c (fuel + 1) listed a w :=
 ⟨lgNext hr hi hc (stCellG x y hsz hw ho hx hy (hm.arr j hj) hk hv h1 fun w' hA hg => (h w' (hm.set j hj hA hg)).out)⟩
theorem glDone (hr : Region.ready .any ops listed = []) (h : Q .normal a w) : MGL P ops Q w0 M c fuel listed a w := ⟨lgDone hr h⟩
theorem mgStartM {id : Nat} (M : List Res) (hm : Mem w0 w L) (hmode : P.follows .mixedOrders = true) (h : ∀ w', Mem w0 w' L → MG P ops Q w0 M ops.size (Array.replicate ops.size false) a w') : (Code.region id ops true).wp P Q a w :=
 rgStart _ hmode (h _ hm.drew).out
variable {N : Nat} {X : Nat → Value} {l : List (Nat × Value)}
theorem glNone {v : Value} {dst : Option Tmp} (hd : dst = none) (h : MGL P ops Q w0 M c fuel listed (lit N X l) w) : MGL P ops Q w0 M c fuel listed ((lit N X l).put dst v) w := by
 rw [hd]; exact h
theorem glP {d : Nat} {v : Value} {dst : Option Tmp} (hd : dst = some d) (h : MGL P ops Q w0 M c fuel listed (lit N X ((d, v) :: l)) w) (hN : (decide (d < N)) = true := by decide) : MGL P ops Q w0 M c fuel listed ((lit N X l).put dst v) w := by
 rw [hd, lit_put (of_decide_eq_true hN)]; exact h
theorem glk {v : Value} {d : Nat} (hi : ops.toList[i]? = some o) (hg : o.guard = none) (hQ : ∀ c a w, Q (.panic c) (a.put o.dst v) w → Q (.panic c) a w) (hm : Mem w0 w M) (hd : o.dst = some d)
 (h : MGL P ops Q w0 M c fuel (listed.setIfInBounds i true) (lit N X ((d, v) :: l)) w) (hf : (mayFirst ops listed i && (List.range c).contains i && reachD ops (List.range c) 8 c i && closedD ops (List.range c) listed && !(i == c) && !listed.getD c true) = true := by kernel_rfl) (hr : ∀ w, (execOp (litEval N X l) o).run P w = .ok (.value v) w := by intro _; kernel_rfl) (hN : (decide (d < N)) = true := by decide) : MGL P ops Q w0 M c (fuel + 1) listed (lit N X l) w :=
 glTake hi hf (wn hg) hQ hm (fun w _ => litRun (hr w)) (glP hd h hN)
end
section
variable {w w0 : World} {L : List Res} {g : Nat}
end
theorem many_i64 (l : List UInt8) : ∀ (n at_ : Nat) (acc : List Int), (∀ x ∈ acc, isI64 x) → ∀ x ∈ (many dec l n at_ acc).1, isI64 x
 | 0, _, _, h => h
 | n + 1, at_, acc, h => by
  rw [many]
  split
  ·intro x hx; simp at hx
  ·refine many_i64 l n _ _ ?_
   intro x hx
   rcases List.mem_append.1 hx with hx | hx
   ·exact h x hx
   ·rw [List.mem_singleton] at hx
    subst hx
    rcases dec_facts (l := l.drop at_) (n := (dec (l.drop at_)).1) (u := (dec (l.drop at_)).2.1) (e := (dec (l.drop at_)).2.2) rfl with ⟨_, _, _, _, h⟩ | ⟨h, _⟩
    ·exact h
    ·rw [h]; exact ⟨by decide, by decide⟩
theorem decI_i64 {l : List UInt8} {r : List Int} {u e : Int} (h : decI l = (r, u, e)) : ∀ x ∈ r, isI64 x := by
 have hr : r = (decI l).1 := by rw [h]
 subst hr
 unfold decI decList
 split
 ·intro x hx; simp at hx
 ·exact many_i64 l _ _ _ (by intro x hx; simp at hx)
end Go.Proofs.YtgjgjimgomhbmaaGreatDoor
namespace Go.Proofs.YtgjgjimgomhbmaaGreatDoor
structure Hd where
 tick : Int
 counts : List Int
 depth : Int
 rn : Nat
 D : List UInt8
deriving DecidableEq
def hd0 : Hd := ⟨0, [], 0, 0, []⟩
def okN (n : Int) : Prop := 0 ≤ n ∧ n ≤ 1000
instance (n : Int) : Decidable (okN n) := by unfold okN; infer_instance
def Hd.Good (h : Hd) : Prop := (∀ n ∈ h.counts, okN n) ∧ (0 ≤ h.tick ∧ h.tick ≤ 4000) ∧ (h.counts.length : Int) = 8 ∧ 2 ≤ h.depth ∧ h.depth ≤ 14 ∧ (h.rn : Int) = h.depth - 1
instance (h : Hd) : Decidable h.Good := by unfold Hd.Good; infer_instance
def ckH (h : Hd) : Int := if h.Good then 0 else 1
theorem ckH_good {h : Hd} : ckH h = 0 ↔ h.Good := by
 unfold ckH
 split
 ·simp [*]
 ·simp [*]
def encH (h : Hd) : List UInt8 := encI [h.tick, h.depth] ++ encI h.counts ++ encD h.rn h.D
def covN : List Int → List Int → Prop
 | a :: l, b :: m => b ≤ a ∧ covN l m
 | _, _ => True
instance : ∀ l m : List Int, Decidable (covN l m)
 | a :: l, b :: m => by
  have := instDecidableCovN l m
  unfold covN; infer_instance
 | [], _ => by unfold covN; infer_instance
 | _ :: _, [] => by unfold covN; infer_instance
def covers (a b : Hd) : Prop := covN a.counts b.counts ∧ b.tick ≤ a.tick
instance (a b : Hd) : Decidable (covers a b) := by unfold covers; infer_instance
theorem covN_drop {x y : Int} {l m : List Int} {k : Nat} (hx : l[k]? = some x) (hy : m[k]? = some y) : covN (l.drop k) (m.drop k) ↔ y ≤ x ∧ covN (l.drop (k + 1)) (m.drop (k + 1)) := by
 obtain ⟨h1, e1⟩ := List.getElem?_eq_some_iff.1 hx
 obtain ⟨h2, e2⟩ := List.getElem?_eq_some_iff.1 hy
 rw [List.drop_eq_getElem_cons h1, List.drop_eq_getElem_cons h2, e1, e2, covN]
theorem covN_end {l m : List Int} {k : Nat} (h : l.length ≤ k) : covN (l.drop k) m := by
 rw [List.drop_of_length_le h]; cases m <;> trivial
def dgAt (D : List UInt8) (k : Nat) : List UInt8 := (D.drop (k * 16)).take 16
theorem dgAt_len {D : List UInt8} {n k : Nat} (h : D.length = n * 16) (hk : k < n) : (dgAt D k).length = 16 := by
 unfold dgAt; rw [List.length_take, List.length_drop]; omega
theorem dg_take {D : List UInt8} {k : Nat} : D.take ((k + 1) * 16) = D.take (k * 16) ++ dgAt D k := by
 unfold dgAt
 rw [show (k + 1) * 16 = k * 16 + 16 by omega, List.take_add]
end Go.Proofs.YtgjgjimgomhbmaaGreatDoor
namespace Go.Proofs.YtgjgjimgomhbmaaGreatDoor
open Go.RowKit
def RetV (w : World) (v : Value) (e : Ending) (w' : World) : Prop := e = .returned v ∧ Below w.heap.size w w'
def hcs (h : Hd) (A : Option Addr) (c : Nat) (B : Option Addr) (d : Nat) : List Value := [.int .i64 h.tick, .slice A h.counts.length c, .int .i64 h.depth, .slice B h.rn d]
theorem ics_at {l : List Int} {k : Nat} {x : Int} (h : l[k]? = some x) : (ics l)[k * 1]? = some (.int .i64 x) := by
 unfold ics; rw [Nat.mul_one, List.getElem?_map, h]; rfl
theorem dg_get {D : List UInt8} {k i : Nat} {u : Value} (h : (bcs (dgAt D k))[i]? = some u) : (bcs D)[k * 16 + i]? = some u := by
 unfold bcs dgAt at *
 rw [List.getElem?_map] at *
 rw [List.getElem?_take, List.getElem?_drop] at h
 split at h
 ·exact h
 ·simp at h
section
variable {P : Program} {w : World} {o : Oper} {a : Act} {t ty e : TypeId}
theorem neqDgRun (x y : Operand) (p q : List UInt8) (hp : p.length = 16) (hq : q.length = 16) (ht : P.underlying t = some (.array 16 e)) (he : P.underlying e = some (.int .u8)) (hs : (P.info? e).map (·.size) = some 1) (hg : P.eqGuardType P.depth t = false)
 (ho : o.op = .binOp .neq t x y ty) (hx : a.eval x = .agg (bcs p).toArray) (hy : a.eval y = .agg (bcs q).toArray) : (execOp a.eval o).run P w = .ok (.value (.bool !decide (p = q))) w := by
 obtain ⟨i, hi, hsz⟩ := Option.map_eq_some_iff.1 hs
 have e1 : ∀ l : List UInt8, bcs l = (l.map fun u => (u.toNat : Int)).map (Value.int .u8) := fun l => by unfold bcs bc; rw [List.map_map]; rfl
 have hr := run_equalIn_ints w 9998 t e 16 .u8 ht he (fun w => by simp [sizeOf, typeInfo, hi, hsz]) (p.map fun u => (u.toNat : Int)) (q.map fun u => (u.toNat : Int)) (by simpa using hp) (by simpa using hq)
 have hb : ((p.map fun u => (u.toNat : Int)) == (q.map fun u => (u.toNat : Int))) = decide (p = q) := by
  rw [Bool.eq_iff_iff, beq_iff_eq, decide_eq_true_iff]
  constructor
  ·intro h
   exact (List.map_inj_right (fun a b hab => UInt8.toNat_inj.1 (Int.ofNat.inj hab))).1 h
  ·intro h; rw [h]
 rw [hb] at hr
 unfold execOp
 rw [e1] at hx hy
 generalize (p.map fun u => (u.toNat : Int)) = xs at hr hx
 generalize (q.map fun u => (u.toNat : Int)) = ys at hr hy
 simp only [ho, hx, hy]
 simp [eqGuard, hg, run_neq_struct, hr]
end
theorem within_any (n m : Int) (w : World) : Calls Tryz.prog 50 #[.int .i64 n, .int .i64 m] w (RetV w (.bool (decide (0 ≤ n ∧ n ≤ m)))) := by
 have hm0 := Mem.nil w
 go_enter Tryz.func50, Tryz.ntmps50
 refine litStart 12 [(0, .int .i64 n), (1, .int .i64 m)] kr_ (fun X0 => ?_)
 refine wp_seq_k fun K1 hK1 => ?_
 refine plStart ?_
 refine lk_ (.bool false) ?_
 refine plD ?_
 refine tn_ hK1 ?_
 refine wp_seq_k fun K2 hK2 => ?_
 refine plStart ?_
 refine lk_ (.int .i64 n) ?_
 by_cases h3 : 0 ≤ n
 ·refine litVal (v := .bool true) rfl (wn rfl) (boolTo (decide_eq_true h3) (gGeq (A := n) (B := 0) (.tmp 5) (.const (.int .i64 0)) rfl le_ le_)) rfl (by decide) ?_
  refine lk_ (.bool true) ?_
  refine litVal (v := .int .i64 n) rfl (wgY rfl rfl rfl (by decide) kr_) (litRun kr_) rfl (by decide) ?_
  refine litVal (v := .int .i64 m) rfl (wgY rfl rfl rfl (by decide) kr_) (litRun kr_) rfl (by decide) ?_
  by_cases h4 : n ≤ m
  ·refine litVal (v := .bool true) rfl (wgY rfl rfl rfl (by decide) kr_) (boolTo (decide_eq_true h4) (leqRun (A := n) (B := m) (.tmp 8) (.tmp 9) rfl le_ le_)) rfl (by decide) ?_
   refine lk_ (.bool true) ?_
   refine lk_ (.bool true) ?_
   refine plD ?_
   refine tn_ hK2 ?_
   refine wp_ret ?_
   refine bodyPost_ret (v := .bool true) (gRes1 rfl (gResTmp (t := 4) (v := .bool true) (lg_))) rfl ?_
   exact ⟨congrArg (fun b_ => Ending.returned (.bool b_)) (decide_eq_true (by omega)).symm, hm0.bel⟩
  refine litVal (v := .bool false) rfl (wgY rfl rfl rfl (by decide) kr_) (boolTo (decide_eq_false h4) (leqRun (A := n) (B := m) (.tmp 8) (.tmp 9) rfl le_ le_)) rfl (by decide) ?_
  refine lk_ (.bool false) ?_
  refine lk_ (.bool false) ?_
  refine plD ?_
  refine tn_ hK2 ?_
  refine wp_ret ?_
  refine bodyPost_ret (v := .bool false) (gRes1 rfl (gResTmp (t := 4) (v := .bool false) (lg_))) rfl ?_
  exact ⟨congrArg (fun b_ => Ending.returned (.bool b_)) (decide_eq_false (by omega)).symm, hm0.bel⟩
 refine litVal (v := .bool false) rfl (wn rfl) (boolTo (decide_eq_false h3) (gGeq (A := n) (B := 0) (.tmp 5) (.const (.int .i64 0)) rfl le_ le_)) rfl (by decide) ?_
 refine lk_ (.bool false) ?_
 refine ps_ (i := 3) ?_
 refine ps_ (i := 4) ?_
 refine ps_ (i := 5) ?_
 refine lk_ (.bool false) ?_
 refine lk_ (.bool false) ?_
 refine plD ?_
 refine tn_ hK2 ?_
 refine wp_ret ?_
 refine bodyPost_ret (v := .bool false) (gRes1 rfl (gResTmp (t := 4) (v := .bool false) (lg_))) rfl ?_
 exact ⟨congrArg (fun b_ => Ending.returned (.bool b_)) (decide_eq_false (by omega)).symm, hm0.bel⟩
theorem check1_any (n : Int) (w : World) : Calls Tryz.prog 49 #[.int .i64 n] w (RetV w (.bool (decide (¬ okN n)))) := by
 have hm0 := Mem.nil w
 go_enter Tryz.func49, Tryz.ntmps49
 refine litStart 6 [(0, .int .i64 n)] kr_ (fun X0 => ?_)
 refine wp_seq_k fun K1 hK1 => ?_
 refine plStart ?_
 refine lk_ (.bool false) ?_
 refine plD ?_
 refine tn_ hK1 ?_
 refine wp_seq_k fun K2 hK2 => ?_
 refine plStart ?_
 refine lk_ (.int .i64 n) ?_
 refine plCall (i := 1) 50 [.int .i64 n, .int .i64 1000] [] [] rfl kr_ (wn rfl) rfl le_ (litArgs kr_) (within_any n 1000 _) ?_
 rintro e w3 ⟨rfl, hbz⟩
 have hm4 := hm0.below hbz
 clear hbz hm0
 refine ⟨_, rfl, ?_⟩
 refine qP rfl ?_
 rcases bool_or (decide (0 ≤ n ∧ n ≤ 1000)) with h5 | h5
 ·rw [h5]
  refine lk_ (.bool true) ?_
  refine lk_ (.bool true) ?_
  refine plD ?_
  refine tn_ hK2 ?_
  refine wp_ret ?_
  refine bodyPost_ret (v := .bool true) (gRes1 rfl (gResTmp (t := 2) (v := .bool true) (lg_))) rfl ?_
  exact ⟨congrArg (fun b_ => Ending.returned (.bool b_)) (decide_eq_true (p := ¬ okN n) (fun h_ => of_decide_eq_false h5 h_)).symm, hm4.bel⟩
 rw [h5]
 refine lk_ (.bool false) ?_
 refine lk_ (.bool false) ?_
 refine plD ?_
 refine tn_ hK2 ?_
 refine wp_ret ?_
 refine bodyPost_ret (v := .bool false) (gRes1 rfl (gResTmp (t := 2) (v := .bool false) (lg_))) rfl ?_
 exact ⟨congrArg (fun b_ => Ending.returned (.bool b_)) (decide_eq_false (p := ¬ okN n) (fun h_ => h_ (of_decide_eq_true h5))).symm, hm4.bel⟩
theorem ok_take {l : List Int} {k : Nat} {x : Int} (hx : l[k]? = some x) (h : ∀ n ∈ l.take k, okN n) (hn : okN x) : ∀ n ∈ l.take (k + 1), okN n := by
 rw [List.take_add_one, hx]
 intro n hm
 rcases List.mem_append.1 hm with hm | hm
 ·exact h n hm
 ·simp at hm; rw [hm]; exact hn
theorem idxOk_any (l : List Int) (A : Option Addr) (c : Nat) (w : World) (hA : Rd w w.heap.size 1 A l.length c (ics l)) (hl : l.length ≤ 1099511627776) : Calls Tryz.prog 99 #[.slice A l.length c, .func (.func 49) #[] #[]] w (fun e w' => ∃ r : Int, e = .returned (.int .i64 r) ∧ (0 ≤ r ↔ ¬ ∀ n ∈ l, okN n) ∧ Below w.heap.size w w') := by
 have hm0 := Mem.nil w
 go_enter Tryz.func99, Tryz.ntmps99
 refine litStart 19 [(0, .slice A l.length c), (1, .func (.func 49) #[] #[])] kr_ (fun X0 => ?_)
 refine wp_seq_k fun K1 hK1 => ?_
 refine plStart ?_
 refine lk_ (.int .i64 0) ?_
 refine plD ?_
 refine tn_ hK1 ?_
 refine wp_seq_k fun K2 hK2 => ?_
 refine wp_seq_k fun K3 hK3 => ?_
 refine plStart ?_
 refine lk_ (.slice A l.length c) ?_
 refine litVal (v := .int .i64 (l.length : Int)) rfl (wn rfl) (lenSlRun (A := A) (n := l.length) (c := c) (.tmp 6) Ty.und_L_int rfl le_) rfl (by decide) ?_
 refine lk_ (.int .i64 0) ?_
 refine plD ?_
 refine tn_ hK3 ?_
 refine wp_block ?_
 refine gwLoop (fun n_ a_ w_ => ∃ (k : Nat), n_ = l.length - k ∧ (k ≤ l.length) ∧ (∀ n ∈ l.take k, okN n) ∧ Fr a_ 19 [(0, .slice A l.length c), (1, .func (.func 49) #[] #[]), (7, .int .i64 (l.length : Int)), (8, .int .i64 (k : Int))] ∧ Mem w w_ []) (l.length - 0) ⟨0, rfl, (Nat.zero_le _), (by simp), ⟨litSize, rfl, ⟨lg_, ⟨lg_, ⟨lg_, ⟨lg_, trivial⟩⟩⟩⟩⟩, (hm0.sub .slnil)⟩ ?_
 clear hm0
 intro n_ a6 w4 hI_
 obtain ⟨k, rfl, hk, hg, hF_, hm5⟩ := hI_
 obtain ⟨X7, rfl⟩ := frLit hF_
 clear hF_
 refine wp_seq_k fun K8 hK8 => ?_
 refine plStart ?_
 by_cases h9 : (k : Int) < (l.length : Int)
 ·obtain ⟨x, hx⟩ : ∃ x, l[k]? = some x := ⟨_, List.getElem?_eq_getElem (by omega)⟩
  obtain ⟨b_, o_, rfl, _, _⟩ := hA.cells (by omega)
  refine litVal (v := .bool true) rfl (wn rfl) (boolTo (decide_eq_true h9) (lssRun (A := (k : Int)) (B := (l.length : Int)) (.tmp 8) (.tmp 7) rfl le_ le_)) rfl (by decide) ?_
  refine plD ?_
  refine tn_ hK8 ?_
  refine wp_seq_k fun K10 hK10 => ?_
  refine wp_cond_true le_ ?_
  refine wp_skip ?_
  refine tn_ hK10 ?_
  refine wp_seq_k fun K11 hK11 => ?_
  refine wp_block ?_
  refine wp_seq_k fun K12 hK12 => ?_
  refine plStart ?_
  refine lk_ (.int .i64 (k : Int)) ?_
  refine lk_ (.int .i64 (k : Int)) ?_
  refine plD ?_
  refine tn_ hK12 ?_
  refine wp_seq_k fun K13 hK13 => ?_
  refine plStart ?_
  refine lk_ (.func (.func 49) #[] #[]) ?_
  refine lk_ (.slice (some ⟨b_, o_, none⟩) l.length c) ?_
  refine lk_ (.int .i64 (k : Int)) ?_
  refine litVal (v := .pointer (some ⟨b_, o_ + k * 1, none⟩)) rfl (wn rfl) (gIaSl (b := b_) (off := o_) (n := l.length) (c := c) (kk := .i64) (K := (k : Int)) (.tmp 12) (.tmp 13) k Ty.sl_L_int rfl le_ le_ (rfl) (by omega)) rfl (by decide) ?_
  refine litVal (v := .int .i64 x) rfl (wn rfl) (gLoadRd (v := .int .i64 x) (m := k * 1) ((Rd.below hA hm5.bel).more hm5.bel.size) rfl (ics_at hx) (by omega) (.tmp 14) kr_ rfl le_) rfl (by decide) ?_
  refine plCall (i := 5) 49 [.int .i64 x] [] [] rfl kr_ (wn rfl) rfl le_ (litArgs kr_) (check1_any x _) ?_
  rintro e w14 ⟨rfl, hbz⟩
  have hm15 := hm5.below hbz
  clear hbz hm5
  refine ⟨_, rfl, ?_⟩
  refine qP rfl ?_
  rcases bool_or (decide (¬ okN x)) with h16 | h16
  ·rw [h16]
   refine plD ?_
   refine tn_ hK13 ?_
   refine wp_cond_false le_ ?_
   refine wp_skip ?_
   refine inBlock_normal ?_
   refine tn_ hK11 ?_
   refine plStart ?_
   refine litVal (v := .int .i64 ((k : Int) + 1)) rfl (wn rfl) (addRun (A := (k : Int)) (B := 1) (C := (k : Int) + 1) (.tmp 8) (.const (.int .i64 1)) rfl le_ le_ rfl (by omega)) rfl (by decide) ?_
   refine lk_ (.int .i64 ((k : Int) + 1)) ?_
   refine plD ?_
   refine then_normal ?_
   exact ⟨_, by omega, (k + 1), rfl, (by omega), (ok_take hx hg (Decidable.not_not.1 (of_decide_eq_false h16))), ⟨litSize, rfl, ⟨lg_, ⟨lg_, ⟨lg_, ⟨lg_, trivial⟩⟩⟩⟩⟩, (hm15.sub .slnil)⟩
  rw [h16]
  refine plD ?_
  refine tn_ hK13 ?_
  refine wp_cond_true le_ ?_
  refine wp_seq_k fun K17 hK17 => ?_
  refine plStart ?_
  refine lk_ (.int .i64 (k : Int)) ?_
  refine lk_ (.int .i64 (k : Int)) ?_
  refine plD ?_
  refine tn_ hK17 ?_
  refine wp_ret ?_
  refine inBlock_ret ?_
  refine then_ret ?_
  refine then_ret ?_
  refine inBlock_ret ?_
  refine then_ret ?_
  refine bodyPost_ret (v := .int .i64 (k : Int)) (gRes1 rfl (gResTmp (t := 4) (v := .int .i64 (k : Int)) (lg_))) rfl ?_
  exact ⟨_, rfl, ⟨fun _ h_ => of_decide_eq_true h16 (h_ x (List.mem_of_getElem? hx)), fun _ => by omega⟩, hm15.bel⟩
 refine litVal (v := .bool false) rfl (wn rfl) (boolTo (decide_eq_false h9) (lssRun (A := (k : Int)) (B := (l.length : Int)) (.tmp 8) (.tmp 7) rfl le_ le_)) rfl (by decide) ?_
 refine plD ?_
 refine tn_ hK8 ?_
 refine wp_seq_k fun K18 hK18 => ?_
 refine wp_cond_false le_ ?_
 refine wp_exit ?_
 refine then_exit ?_
 refine then_exit ?_
 refine inBlock_exit ?_
 refine tn_ hK2 ?_
 refine wp_seq_k fun K19 hK19 => ?_
 refine plStart ?_
 refine lk_ (.int .i64 (-1)) ?_
 refine plD ?_
 refine tn_ hK19 ?_
 refine wp_ret ?_
 refine bodyPost_ret (v := .int .i64 (-1)) (gRes1 rfl (gResTmp (t := 4) (v := .int .i64 (-1)) (lg_))) rfl ?_
 rw [List.take_of_length_le (by omega)] at hg
 exact ⟨_, rfl, ⟨fun h_ => absurd h_ (by decide), fun h_ => absurd hg h_⟩, hm5.bel⟩
theorem hasBad_any (l : List Int) (A : Option Addr) (c : Nat) (w : World) (hA : Rd w w.heap.size 1 A l.length c (ics l)) (hl : l.length ≤ 1099511627776) : Calls Tryz.prog 48 #[.slice A l.length c, .func (.func 49) #[] #[]] w (RetV w (.bool (decide (¬ ∀ n ∈ l, okN n)))) := by
 have hm0 := Mem.nil w
 go_enter Tryz.func48, Tryz.ntmps48
 refine litStart 9 [(0, .slice A l.length c), (1, .func (.func 49) #[] #[])] kr_ (fun X0 => ?_)
 refine wp_seq_k fun K1 hK1 => ?_
 refine plStart ?_
 refine lk_ (.bool false) ?_
 refine plD ?_
 refine tn_ hK1 ?_
 refine wp_seq_k fun K2 hK2 => ?_
 refine plStart ?_
 refine lk_ (.slice A l.length c) ?_
 refine lk_ (.func (.func 49) #[] #[]) ?_
 refine plCall (i := 2) 99 [.slice A l.length c, .func (.func 49) #[] #[]] [] [] rfl kr_ (wn rfl) rfl le_ (litArgs kr_) (idxOk_any l A c _ ((Rd.below hA hm0.bel).more hm0.bel.size) hl) ?_
 rintro e w3 ⟨r, rfl, hr_, hbz⟩
 have hm4 := hm0.below hbz
 clear hbz hm0
 refine ⟨_, rfl, ?_⟩
 refine qP rfl ?_
 by_cases h5 : 0 ≤ r
 ·refine litVal (v := .bool true) rfl (wn rfl) (boolTo (decide_eq_true h5) (gGeq (A := r) (B := 0) (.tmp 7) (.const (.int .i64 0)) rfl le_ le_)) rfl (by decide) ?_
  refine lk_ (.bool true) ?_
  refine plD ?_
  refine tn_ hK2 ?_
  refine wp_ret ?_
  refine bodyPost_ret (v := .bool true) (gRes1 rfl (gResTmp (t := 4) (v := .bool true) (lg_))) rfl ?_
  exact ⟨congrArg (fun b_ => Ending.returned (.bool b_)) (decide_eq_true (hr_.1 h5)).symm, hm4.bel⟩
 refine litVal (v := .bool false) rfl (wn rfl) (boolTo (decide_eq_false h5) (gGeq (A := r) (B := 0) (.tmp 7) (.const (.int .i64 0)) rfl le_ le_)) rfl (by decide) ?_
 refine lk_ (.bool false) ?_
 refine plD ?_
 refine tn_ hK2 ?_
 refine wp_ret ?_
 refine bodyPost_ret (v := .bool false) (gRes1 rfl (gResTmp (t := 4) (v := .bool false) (lg_))) rfl ?_
 exact ⟨congrArg (fun b_ => Ending.returned (.bool b_)) (decide_eq_false (fun h_ => h5 (hr_.2 h_))).symm, hm4.bel⟩
theorem check_any (h : Hd) (A : Option Addr) (c : Nat) (B : Option Addr) (d : Nat) (w : World) (hA : Rd w w.heap.size 1 A h.counts.length c (ics h.counts)) (hB : Rd w w.heap.size 16 B h.rn d (bcs h.D)) (hl : h.counts.length ≤ 1099511627776) (hl2 : h.rn ≤ 1099511627776) (hdp : -9223372036854775808 ≤ h.depth ∧ h.depth ≤ 9223372036854775807) : Calls Tryz.prog 14 #[.agg (hcs h A c B d).toArray] w (RetV w (.int .i64 (ckH h))) := by
 have hm0 := Mem.nil w
 go_enter Tryz.func14, Tryz.ntmps14
 refine litStart 39 [(0, .agg (hcs h A c B d).toArray)] kr_ (fun X0 => ?_)
 refine wp_seq_k fun K1 hK1 => ?_
 refine plStart ?_
 refine plBox hm0 (cs := hcs h A c B d) (i := 0) rfl (wn rfl) rfl le_ ?_
 intro g2 w4 hm3
 clear hm0
 try simp only [lc1_, lc2_, lc3_, lc4_] at hm3
 refine qP rfl ?_
 refine lk_ (.int .i64 0) ?_
 refine plD ?_
 refine tn_ hK1 ?_
 refine wp_seq_k fun K5 hK5 => ?_
 refine plStart ?_
 refine lk_ (.pointer (some ⟨g2, 1, none⟩)) ?_
 refine litVal (v := .slice A h.counts.length c) rfl (wn rfl) (gLoad (v := .slice A h.counts.length c) (k := 1) 0 hm3 rfl kr_ (.tmp 4) kr_ rfl le_) rfl (by decide) ?_
 refine plCall (i := 2) 48 [.slice A h.counts.length c, .func (.func 49) #[] #[]] [] [] rfl kr_ (wn rfl) rfl le_ (litArgs kr_) (hasBad_any h.counts A c _ ((Rd.below hA hm3.bel).more hm3.bel.size) hl) ?_
 rintro e w6 ⟨rfl, hbz⟩
 have hm7 := hm3.below hbz
 clear hbz hm3
 refine ⟨_, rfl, ?_⟩
 refine qP rfl ?_
 rcases bool_or (decide (¬ ∀ n ∈ h.counts, okN n)) with h8 | h8
 ·rw [h8]
  refine lk_ (.bool false) ?_
  refine plD ?_
  refine tn_ hK5 ?_
  refine wp_seq_k fun K9 hK9 => ?_
  refine wp_seq_k fun K10 hK10 => ?_
  refine plStart ?_
  refine lk_ (.bool false) ?_
  refine lk_ (.bool false) ?_
  refine litVal (v := .pointer (some ⟨g2, 0, none⟩)) rfl (wgY rfl rfl rfl (by decide) kr_) (litRun kr_) rfl (by decide) ?_
  refine litVal (v := .int .i64 h.tick) rfl (wgY rfl rfl rfl (by decide) kr_) (gLoad (v := .int .i64 h.tick) (k := 0) 0 hm7 rfl kr_ (.tmp 9) kr_ rfl le_) rfl (by decide) ?_
  refine plCall (i := 4) 50 [.int .i64 h.tick, .int .i64 4000] [] [] rfl kr_ (wgY rfl rfl rfl (by decide) kr_) rfl le_ (litArgs kr_) (within_any h.tick 4000 _) ?_
  rintro e w11 ⟨rfl, hbz⟩
  have hm12 := hm7.below hbz
  clear hbz hm7
  refine ⟨_, rfl, ?_⟩
  refine qP rfl ?_
  rcases bool_or (decide (0 ≤ h.tick ∧ h.tick ≤ 4000)) with h13 | h13
  ·rw [h13]
   refine litVal (v := .bool true) rfl (wgY rfl rfl rfl (by decide) kr_) (litRun kr_) rfl (by decide) ?_
   refine lk_ (.bool true) ?_
   refine lk_ (.bool true) ?_
   refine ps_ (i := 8) ?_
   refine ps_ (i := 9) ?_
   refine ps_ (i := 10) ?_
   refine ps_ (i := 11) ?_
   refine lk_ (.bool true) ?_
   refine lk_ (.bool true) ?_
   refine ps_ (i := 14) ?_
   refine ps_ (i := 15) ?_
   refine ps_ (i := 16) ?_
   refine lk_ (.bool true) ?_
   refine lk_ (.bool true) ?_
   refine ps_ (i := 19) ?_
   refine ps_ (i := 20) ?_
   refine ps_ (i := 21) ?_
   refine lk_ (.bool true) ?_
   refine lk_ (.bool true) ?_
   refine ps_ (i := 24) ?_
   refine ps_ (i := 25) ?_
   refine ps_ (i := 26) ?_
   refine ps_ (i := 27) ?_
   refine ps_ (i := 28) ?_
   refine ps_ (i := 29) ?_
   refine ps_ (i := 30) ?_
   refine lk_ (.bool true) ?_
   refine plD ?_
   refine tn_ hK10 ?_
   refine wpPrune [(2, .int .i64 0), (38, .bool true)] ⟨lg_, ⟨lg_, trivial⟩⟩ (fun X14 => ?_)
   refine wp_cond_true le_ ?_
   refine wp_seq_k fun K15 hK15 => ?_
   refine plStart ?_
   refine lk_ (.int .i64 1) ?_
   refine plD ?_
   refine tn_ hK15 ?_
   refine wp_ret ?_
   refine then_ret ?_
   refine bodyPost_ret (v := .int .i64 1) (gRes1 rfl (gResTmp (t := 2) (v := .int .i64 1) (lg_))) rfl ?_
   exact ⟨congrArg (fun n_ => Ending.returned (.int .i64 n_)) (show (1 : Int) = ckH h by unfold ckH; rw [if_neg (fun h_ => by obtain ⟨a1_, a2_, a3_, a4_, a5_, a6_⟩ := h_; have q_ := of_decide_eq_false h13; omega)]), hm12.bel⟩
  rw [h13]
  refine litVal (v := .bool false) rfl (wgY rfl rfl rfl (by decide) kr_) (litRun kr_) rfl (by decide) ?_
  refine lk_ (.bool false) ?_
  refine lk_ (.bool false) ?_
  refine litVal (v := .pointer (some ⟨g2, 1, none⟩)) rfl (wgY rfl rfl rfl (by decide) kr_) (litRun kr_) rfl (by decide) ?_
  refine litVal (v := .slice A h.counts.length c) rfl (wgY rfl rfl rfl (by decide) kr_) (gLoad (v := .slice A h.counts.length c) (k := 1) 0 hm12 rfl kr_ (.tmp 15) kr_ rfl le_) rfl (by decide) ?_
  refine litVal (v := .int .i64 (h.counts.length : Int)) rfl (wgY rfl rfl rfl (by decide) kr_) (lenSlRun (A := A) (n := h.counts.length) (c := c) (.tmp 16) Ty.und_L_int rfl le_) rfl (by decide) ?_
  by_cases h16 : (h.counts.length : Int) = 8
  ·refine litVal (v := .bool false) rfl (wgY rfl rfl rfl (by decide) kr_) (boolTo (by rw [decide_eq_true h16]; rfl) (neqRun (A := (h.counts.length : Int)) (B := 8) (.tmp 17) (.const (.int .i64 8)) rfl le_ le_)) rfl (by decide) ?_
   refine lk_ (.bool false) ?_
   refine lk_ (.bool false) ?_
   refine litVal (v := .pointer (some ⟨g2, 2, none⟩)) rfl (wgY rfl rfl rfl (by decide) kr_) (litRun kr_) rfl (by decide) ?_
   refine litVal (v := .int .i64 h.depth) rfl (wgY rfl rfl rfl (by decide) kr_) (gLoad (v := .int .i64 h.depth) (k := 2) 0 hm12 rfl kr_ (.tmp 21) kr_ rfl le_) rfl (by decide) ?_
   by_cases h17 : h.depth < 2
   ·refine litVal (v := .bool true) rfl (wgY rfl rfl rfl (by decide) kr_) (boolTo (decide_eq_true h17) (lssRun (A := h.depth) (B := 2) (.tmp 22) (.const (.int .i64 2)) rfl le_ le_)) rfl (by decide) ?_
    refine lk_ (.bool true) ?_
    refine lk_ (.bool true) ?_
    refine ps_ (i := 19) ?_
    refine ps_ (i := 20) ?_
    refine ps_ (i := 21) ?_
    refine lk_ (.bool true) ?_
    refine lk_ (.bool true) ?_
    refine ps_ (i := 24) ?_
    refine ps_ (i := 25) ?_
    refine ps_ (i := 26) ?_
    refine ps_ (i := 27) ?_
    refine ps_ (i := 28) ?_
    refine ps_ (i := 29) ?_
    refine ps_ (i := 30) ?_
    refine lk_ (.bool true) ?_
    refine plD ?_
    refine tn_ hK10 ?_
    refine wpPrune [(2, .int .i64 0), (38, .bool true)] ⟨lg_, ⟨lg_, trivial⟩⟩ (fun X18 => ?_)
    refine wp_cond_true le_ ?_
    refine wp_seq_k fun K19 hK19 => ?_
    refine plStart ?_
    refine lk_ (.int .i64 1) ?_
    refine plD ?_
    refine tn_ hK19 ?_
    refine wp_ret ?_
    refine then_ret ?_
    refine bodyPost_ret (v := .int .i64 1) (gRes1 rfl (gResTmp (t := 2) (v := .int .i64 1) (lg_))) rfl ?_
    exact ⟨congrArg (fun n_ => Ending.returned (.int .i64 n_)) (show (1 : Int) = ckH h by unfold ckH; rw [if_neg (fun h_ => by obtain ⟨a1_, a2_, a3_, a4_, a5_, a6_⟩ := h_; have q_ := h17; omega)]), hm12.bel⟩
   refine litVal (v := .bool false) rfl (wgY rfl rfl rfl (by decide) kr_) (boolTo (decide_eq_false h17) (lssRun (A := h.depth) (B := 2) (.tmp 22) (.const (.int .i64 2)) rfl le_ le_)) rfl (by decide) ?_
   refine lk_ (.bool false) ?_
   refine lk_ (.bool false) ?_
   refine litVal (v := .pointer (some ⟨g2, 2, none⟩)) rfl (wgY rfl rfl rfl (by decide) kr_) (litRun kr_) rfl (by decide) ?_
   refine litVal (v := .int .i64 h.depth) rfl (wgY rfl rfl rfl (by decide) kr_) (gLoad (v := .int .i64 h.depth) (k := 2) 0 hm12 rfl kr_ (.tmp 26) kr_ rfl le_) rfl (by decide) ?_
   by_cases h20 : 14 < h.depth
   ·refine litVal (v := .bool true) rfl (wgY rfl rfl rfl (by decide) kr_) (boolTo (decide_eq_true h20) (gtrRun (A := h.depth) (B := 14) (.tmp 27) (.const (.int .i64 14)) rfl le_ le_)) rfl (by decide) ?_
    refine lk_ (.bool true) ?_
    refine lk_ (.bool true) ?_
    refine ps_ (i := 24) ?_
    refine ps_ (i := 25) ?_
    refine ps_ (i := 26) ?_
    refine ps_ (i := 27) ?_
    refine ps_ (i := 28) ?_
    refine ps_ (i := 29) ?_
    refine ps_ (i := 30) ?_
    refine lk_ (.bool true) ?_
    refine plD ?_
    refine tn_ hK10 ?_
    refine wpPrune [(2, .int .i64 0), (38, .bool true)] ⟨lg_, ⟨lg_, trivial⟩⟩ (fun X21 => ?_)
    refine wp_cond_true le_ ?_
    refine wp_seq_k fun K22 hK22 => ?_
    refine plStart ?_
    refine lk_ (.int .i64 1) ?_
    refine plD ?_
    refine tn_ hK22 ?_
    refine wp_ret ?_
    refine then_ret ?_
    refine bodyPost_ret (v := .int .i64 1) (gRes1 rfl (gResTmp (t := 2) (v := .int .i64 1) (lg_))) rfl ?_
    exact ⟨congrArg (fun n_ => Ending.returned (.int .i64 n_)) (show (1 : Int) = ckH h by unfold ckH; rw [if_neg (fun h_ => by obtain ⟨a1_, a2_, a3_, a4_, a5_, a6_⟩ := h_; have q_ := h20; omega)]), hm12.bel⟩
   refine litVal (v := .bool false) rfl (wgY rfl rfl rfl (by decide) kr_) (boolTo (decide_eq_false h20) (gtrRun (A := h.depth) (B := 14) (.tmp 27) (.const (.int .i64 14)) rfl le_ le_)) rfl (by decide) ?_
   refine lk_ (.bool false) ?_
   refine lk_ (.bool false) ?_
   refine litVal (v := .pointer (some ⟨g2, 3, none⟩)) rfl (wgY rfl rfl rfl (by decide) kr_) (litRun kr_) rfl (by decide) ?_
   refine litVal (v := .slice B h.rn d) rfl (wgY rfl rfl rfl (by decide) kr_) (gLoad (v := .slice B h.rn d) (k := 3) 0 hm12 rfl kr_ (.tmp 31) kr_ rfl le_) rfl (by decide) ?_
   refine litVal (v := .int .i64 (h.rn : Int)) rfl (wgY rfl rfl rfl (by decide) kr_) (lenSlRun (A := B) (n := h.rn) (c := d) (.tmp 32) Ty.und_L_api_Digest rfl le_) rfl (by decide) ?_
   refine litVal (v := .pointer (some ⟨g2, 2, none⟩)) rfl (wgY rfl rfl rfl (by decide) kr_) (litRun kr_) rfl (by decide) ?_
   refine litVal (v := .int .i64 h.depth) rfl (wgY rfl rfl rfl (by decide) kr_) (gLoad (v := .int .i64 h.depth) (k := 2) 0 hm12 rfl kr_ (.tmp 34) kr_ rfl le_) rfl (by decide) ?_
   refine litVal (v := .int .i64 (h.depth - 1)) rfl (wgY rfl rfl rfl (by decide) kr_) (subRun (A := h.depth) (B := 1) (C := h.depth - 1) (.tmp 35) (.const (.int .i64 1)) rfl le_ le_ rfl (by omega)) rfl (by decide) ?_
   by_cases h23 : (h.rn : Int) = (h.depth - 1)
   ·refine litVal (v := .bool false) rfl (wgY rfl rfl rfl (by decide) kr_) (boolTo (by rw [decide_eq_true h23]; rfl) (neqRun (A := (h.rn : Int)) (B := (h.depth - 1)) (.tmp 33) (.tmp 36) rfl le_ le_)) rfl (by decide) ?_
    refine lk_ (.bool false) ?_
    refine plD ?_
    refine tn_ hK10 ?_
    refine wpPrune [(2, .int .i64 0), (38, .bool false)] ⟨lg_, ⟨lg_, trivial⟩⟩ (fun X24 => ?_)
    refine wp_cond_false le_ ?_
    refine wp_skip ?_
    refine tn_ hK9 ?_
    refine wp_seq_k fun K25 hK25 => ?_
    refine plStart ?_
    refine lk_ (.int .i64 0) ?_
    refine plD ?_
    refine tn_ hK25 ?_
    refine wp_ret ?_
    refine bodyPost_ret (v := .int .i64 0) (gRes1 rfl (gResTmp (t := 2) (v := .int .i64 0) (lg_))) rfl ?_
    have hgood_ : h.Good := ⟨Decidable.not_not.1 (of_decide_eq_false h8), of_decide_eq_true h13, by omega, by omega, by omega, by omega⟩
    exact ⟨congrArg (fun n_ => Ending.returned (.int .i64 n_)) (show (0 : Int) = ckH h by unfold ckH; rw [if_pos hgood_]), hm12.bel⟩
   refine litVal (v := .bool true) rfl (wgY rfl rfl rfl (by decide) kr_) (boolTo (by rw [decide_eq_false h23]; rfl) (neqRun (A := (h.rn : Int)) (B := (h.depth - 1)) (.tmp 33) (.tmp 36) rfl le_ le_)) rfl (by decide) ?_
   refine lk_ (.bool true) ?_
   refine plD ?_
   refine tn_ hK10 ?_
   refine wpPrune [(2, .int .i64 0), (38, .bool true)] ⟨lg_, ⟨lg_, trivial⟩⟩ (fun X26 => ?_)
   refine wp_cond_true le_ ?_
   refine wp_seq_k fun K27 hK27 => ?_
   refine plStart ?_
   refine lk_ (.int .i64 1) ?_
   refine plD ?_
   refine tn_ hK27 ?_
   refine wp_ret ?_
   refine then_ret ?_
   refine bodyPost_ret (v := .int .i64 1) (gRes1 rfl (gResTmp (t := 2) (v := .int .i64 1) (lg_))) rfl ?_
   exact ⟨congrArg (fun n_ => Ending.returned (.int .i64 n_)) (show (1 : Int) = ckH h by unfold ckH; rw [if_neg (fun h_ => by obtain ⟨a1_, a2_, a3_, a4_, a5_, a6_⟩ := h_; have q_ := h23; omega)]), hm12.bel⟩
  refine litVal (v := .bool true) rfl (wgY rfl rfl rfl (by decide) kr_) (boolTo (by rw [decide_eq_false h16]; rfl) (neqRun (A := (h.counts.length : Int)) (B := 8) (.tmp 17) (.const (.int .i64 8)) rfl le_ le_)) rfl (by decide) ?_
  refine lk_ (.bool true) ?_
  refine lk_ (.bool true) ?_
  refine ps_ (i := 14) ?_
  refine ps_ (i := 15) ?_
  refine ps_ (i := 16) ?_
  refine lk_ (.bool true) ?_
  refine lk_ (.bool true) ?_
  refine ps_ (i := 19) ?_
  refine ps_ (i := 20) ?_
  refine ps_ (i := 21) ?_
  refine lk_ (.bool true) ?_
  refine lk_ (.bool true) ?_
  refine ps_ (i := 24) ?_
  refine ps_ (i := 25) ?_
  refine ps_ (i := 26) ?_
  refine ps_ (i := 27) ?_
  refine ps_ (i := 28) ?_
  refine ps_ (i := 29) ?_
  refine ps_ (i := 30) ?_
  refine lk_ (.bool true) ?_
  refine plD ?_
  refine tn_ hK10 ?_
  refine wpPrune [(2, .int .i64 0), (38, .bool true)] ⟨lg_, ⟨lg_, trivial⟩⟩ (fun X28 => ?_)
  refine wp_cond_true le_ ?_
  refine wp_seq_k fun K29 hK29 => ?_
  refine plStart ?_
  refine lk_ (.int .i64 1) ?_
  refine plD ?_
  refine tn_ hK29 ?_
  refine wp_ret ?_
  refine then_ret ?_
  refine bodyPost_ret (v := .int .i64 1) (gRes1 rfl (gResTmp (t := 2) (v := .int .i64 1) (lg_))) rfl ?_
  exact ⟨congrArg (fun n_ => Ending.returned (.int .i64 n_)) (show (1 : Int) = ckH h by unfold ckH; rw [if_neg (fun h_ => by obtain ⟨a1_, a2_, a3_, a4_, a5_, a6_⟩ := h_; have q_ := h16; omega)]), hm12.bel⟩
 rw [h8]
 refine lk_ (.bool true) ?_
 refine plD ?_
 refine tn_ hK5 ?_
 refine wp_seq_k fun K30 hK30 => ?_
 refine wp_seq_k fun K31 hK31 => ?_
 refine plStart ?_
 refine lk_ (.bool true) ?_
 refine lk_ (.bool true) ?_
 refine ps_ (i := 2) ?_
 refine ps_ (i := 3) ?_
 refine ps_ (i := 4) ?_
 refine ps_ (i := 5) ?_
 refine lk_ (.bool true) ?_
 refine lk_ (.bool true) ?_
 refine ps_ (i := 8) ?_
 refine ps_ (i := 9) ?_
 refine ps_ (i := 10) ?_
 refine ps_ (i := 11) ?_
 refine lk_ (.bool true) ?_
 refine lk_ (.bool true) ?_
 refine ps_ (i := 14) ?_
 refine ps_ (i := 15) ?_
 refine ps_ (i := 16) ?_
 refine lk_ (.bool true) ?_
 refine lk_ (.bool true) ?_
 refine ps_ (i := 19) ?_
 refine ps_ (i := 20) ?_
 refine ps_ (i := 21) ?_
 refine lk_ (.bool true) ?_
 refine lk_ (.bool true) ?_
 refine ps_ (i := 24) ?_
 refine ps_ (i := 25) ?_
 refine ps_ (i := 26) ?_
 refine ps_ (i := 27) ?_
 refine ps_ (i := 28) ?_
 refine ps_ (i := 29) ?_
 refine ps_ (i := 30) ?_
 refine lk_ (.bool true) ?_
 refine plD ?_
 refine tn_ hK31 ?_
 refine wpPrune [(2, .int .i64 0), (38, .bool true)] ⟨lg_, ⟨lg_, trivial⟩⟩ (fun X32 => ?_)
 refine wp_cond_true le_ ?_
 refine wp_seq_k fun K33 hK33 => ?_
 refine plStart ?_
 refine lk_ (.int .i64 1) ?_
 refine plD ?_
 refine tn_ hK33 ?_
 refine wp_ret ?_
 refine then_ret ?_
 refine bodyPost_ret (v := .int .i64 1) (gRes1 rfl (gResTmp (t := 2) (v := .int .i64 1) (lg_))) rfl ?_
 exact ⟨congrArg (fun n_ => Ending.returned (.int .i64 n_)) (show (1 : Int) = ckH h by unfold ckH; rw [if_neg (fun h_ => (of_decide_eq_true h8) h_.1)]), hm7.bel⟩
theorem rcheck_any (h : Hd) (A : Option Addr) (c : Nat) (B : Option Addr) (d : Nat) (w : World) (hA : Rd w w.heap.size 1 A h.counts.length c (ics h.counts)) (hB : Rd w w.heap.size 16 B h.rn d (bcs h.D)) (hl : h.counts.length ≤ 1099511627776) (hl2 : h.rn ≤ 1099511627776) (hdp : -9223372036854775808 ≤ h.depth ∧ h.depth ≤ 9223372036854775807) : Calls Tryz.prog 30 #[.agg (hcs h A c B d).toArray] w (RetV w (.int .i64 (ckH h))) := by
 have hm0 := Mem.nil w
 go_enter Tryz.func30, Tryz.ntmps30
 refine litStart 55 [(0, .agg (hcs h A c B d).toArray)] kr_ (fun X0 => ?_)
 refine wp_seq_k fun K1 hK1 => ?_
 refine plStart ?_
 refine plBox hm0 (cs := hcs h A c B d) (i := 0) rfl (wn rfl) rfl le_ ?_
 intro g2 w4 hm3
 clear hm0
 try simp only [lc1_, lc2_, lc3_, lc4_] at hm3
 refine qP rfl ?_
 refine lk_ (.int .i64 0) ?_
 refine plD ?_
 refine tn_ hK1 ?_
 refine wp_seq_k fun K5 hK5 => ?_
 refine wp_seq_k fun K6 hK6 => ?_
 refine plStart ?_
 refine lk_ (.pointer (some ⟨g2, 0, none⟩)) ?_
 refine litVal (v := .int .i64 h.tick) rfl (wn rfl) (gLoad (v := .int .i64 h.tick) (k := 0) 0 hm3 rfl kr_ (.tmp 4) kr_ rfl le_) rfl (by decide) ?_
 by_cases h7 : h.tick < 0
 ·refine litVal (v := .bool true) rfl (wn rfl) (boolTo (decide_eq_true h7) (lssRun (A := h.tick) (B := 0) (.tmp 5) (.const (.int .i64 0)) rfl le_ le_)) rfl (by decide) ?_
  refine lk_ (.bool true) ?_
  refine ps_ (i := 4) ?_
  refine ps_ (i := 5) ?_
  refine ps_ (i := 6) ?_
  refine lk_ (.bool true) ?_
  refine lk_ (.bool true) ?_
  refine ps_ (i := 9) ?_
  refine ps_ (i := 10) ?_
  refine ps_ (i := 11) ?_
  refine ps_ (i := 12) ?_
  refine lk_ (.bool true) ?_
  refine lk_ (.bool true) ?_
  refine ps_ (i := 15) ?_
  refine ps_ (i := 16) ?_
  refine ps_ (i := 17) ?_
  refine lk_ (.bool true) ?_
  refine lk_ (.bool true) ?_
  refine ps_ (i := 20) ?_
  refine ps_ (i := 21) ?_
  refine ps_ (i := 22) ?_
  refine lk_ (.bool true) ?_
  refine lk_ (.bool true) ?_
  refine ps_ (i := 25) ?_
  refine ps_ (i := 26) ?_
  refine ps_ (i := 27) ?_
  refine ps_ (i := 28) ?_
  refine ps_ (i := 29) ?_
  refine ps_ (i := 30) ?_
  refine ps_ (i := 31) ?_
  refine lk_ (.bool true) ?_
  refine plD ?_
  refine tn_ hK6 ?_
  refine wpPrune [(1, .pointer (some ⟨g2, 0, none⟩)), (2, .int .i64 0), (36, .bool true)] ⟨lg_, ⟨lg_, ⟨lg_, trivial⟩⟩⟩ (fun X8 => ?_)
  refine wp_cond_true le_ ?_
  refine wp_seq_k fun K9 hK9 => ?_
  refine plStart ?_
  refine lk_ (.int .i64 1) ?_
  refine plD ?_
  refine tn_ hK9 ?_
  refine wp_ret ?_
  refine then_ret ?_
  refine bodyPost_ret (v := .int .i64 1) (gRes1 rfl (gResTmp (t := 2) (v := .int .i64 1) (lg_))) rfl ?_
  exact ⟨congrArg (fun n_ => Ending.returned (.int .i64 n_)) (show (1 : Int) = ckH h by unfold ckH; rw [if_neg (fun h_ => by obtain ⟨a1_, a2_, a3_, a4_, a5_, a6_⟩ := h_; omega)]), hm3.bel⟩
 refine litVal (v := .bool false) rfl (wn rfl) (boolTo (decide_eq_false h7) (lssRun (A := h.tick) (B := 0) (.tmp 5) (.const (.int .i64 0)) rfl le_ le_)) rfl (by decide) ?_
 refine lk_ (.bool false) ?_
 refine litVal (v := .pointer (some ⟨g2, 0, none⟩)) rfl (wgY rfl rfl rfl (by decide) kr_) (litRun kr_) rfl (by decide) ?_
 refine litVal (v := .int .i64 h.tick) rfl (wgY rfl rfl rfl (by decide) kr_) (gLoad (v := .int .i64 h.tick) (k := 0) 0 hm3 rfl kr_ (.tmp 8) kr_ rfl le_) rfl (by decide) ?_
 by_cases h10 : 4000 < h.tick
 ·refine litVal (v := .bool true) rfl (wgY rfl rfl rfl (by decide) kr_) (boolTo (decide_eq_true h10) (gtrRun (A := h.tick) (B := 4000) (.tmp 9) (.const (.int .i64 4000)) rfl le_ le_)) rfl (by decide) ?_
  refine lk_ (.bool true) ?_
  refine lk_ (.bool true) ?_
  refine ps_ (i := 9) ?_
  refine ps_ (i := 10) ?_
  refine ps_ (i := 11) ?_
  refine ps_ (i := 12) ?_
  refine lk_ (.bool true) ?_
  refine lk_ (.bool true) ?_
  refine ps_ (i := 15) ?_
  refine ps_ (i := 16) ?_
  refine ps_ (i := 17) ?_
  refine lk_ (.bool true) ?_
  refine lk_ (.bool true) ?_
  refine ps_ (i := 20) ?_
  refine ps_ (i := 21) ?_
  refine ps_ (i := 22) ?_
  refine lk_ (.bool true) ?_
  refine lk_ (.bool true) ?_
  refine ps_ (i := 25) ?_
  refine ps_ (i := 26) ?_
  refine ps_ (i := 27) ?_
  refine ps_ (i := 28) ?_
  refine ps_ (i := 29) ?_
  refine ps_ (i := 30) ?_
  refine ps_ (i := 31) ?_
  refine lk_ (.bool true) ?_
  refine plD ?_
  refine tn_ hK6 ?_
  refine wpPrune [(1, .pointer (some ⟨g2, 0, none⟩)), (2, .int .i64 0), (36, .bool true)] ⟨lg_, ⟨lg_, ⟨lg_, trivial⟩⟩⟩ (fun X11 => ?_)
  refine wp_cond_true le_ ?_
  refine wp_seq_k fun K12 hK12 => ?_
  refine plStart ?_
  refine lk_ (.int .i64 1) ?_
  refine plD ?_
  refine tn_ hK12 ?_
  refine wp_ret ?_
  refine then_ret ?_
  refine bodyPost_ret (v := .int .i64 1) (gRes1 rfl (gResTmp (t := 2) (v := .int .i64 1) (lg_))) rfl ?_
  exact ⟨congrArg (fun n_ => Ending.returned (.int .i64 n_)) (show (1 : Int) = ckH h by unfold ckH; rw [if_neg (fun h_ => by obtain ⟨a1_, a2_, a3_, a4_, a5_, a6_⟩ := h_; omega)]), hm3.bel⟩
 refine litVal (v := .bool false) rfl (wgY rfl rfl rfl (by decide) kr_) (boolTo (decide_eq_false h10) (gtrRun (A := h.tick) (B := 4000) (.tmp 9) (.const (.int .i64 4000)) rfl le_ le_)) rfl (by decide) ?_
 refine lk_ (.bool false) ?_
 refine lk_ (.bool false) ?_
 refine litVal (v := .pointer (some ⟨g2, 1, none⟩)) rfl (wgY rfl rfl rfl (by decide) kr_) (litRun kr_) rfl (by decide) ?_
 refine litVal (v := .slice A h.counts.length c) rfl (wgY rfl rfl rfl (by decide) kr_) (gLoad (v := .slice A h.counts.length c) (k := 1) 0 hm3 rfl kr_ (.tmp 13) kr_ rfl le_) rfl (by decide) ?_
 refine litVal (v := .int .i64 (h.counts.length : Int)) rfl (wgY rfl rfl rfl (by decide) kr_) (lenSlRun (A := A) (n := h.counts.length) (c := c) (.tmp 14) Ty.und_L_int rfl le_) rfl (by decide) ?_
 by_cases h13 : (h.counts.length : Int) = 8
 ·refine litVal (v := .bool false) rfl (wgY rfl rfl rfl (by decide) kr_) (boolTo (by rw [decide_eq_true h13]; rfl) (neqRun (A := (h.counts.length : Int)) (B := 8) (.tmp 15) (.const (.int .i64 8)) rfl le_ le_)) rfl (by decide) ?_
  refine lk_ (.bool false) ?_
  refine lk_ (.bool false) ?_
  refine litVal (v := .pointer (some ⟨g2, 2, none⟩)) rfl (wgY rfl rfl rfl (by decide) kr_) (litRun kr_) rfl (by decide) ?_
  refine litVal (v := .int .i64 h.depth) rfl (wgY rfl rfl rfl (by decide) kr_) (gLoad (v := .int .i64 h.depth) (k := 2) 0 hm3 rfl kr_ (.tmp 19) kr_ rfl le_) rfl (by decide) ?_
  by_cases h14 : h.depth < 2
  ·refine litVal (v := .bool true) rfl (wgY rfl rfl rfl (by decide) kr_) (boolTo (decide_eq_true h14) (lssRun (A := h.depth) (B := 2) (.tmp 20) (.const (.int .i64 2)) rfl le_ le_)) rfl (by decide) ?_
   refine lk_ (.bool true) ?_
   refine lk_ (.bool true) ?_
   refine ps_ (i := 20) ?_
   refine ps_ (i := 21) ?_
   refine ps_ (i := 22) ?_
   refine lk_ (.bool true) ?_
   refine lk_ (.bool true) ?_
   refine ps_ (i := 25) ?_
   refine ps_ (i := 26) ?_
   refine ps_ (i := 27) ?_
   refine ps_ (i := 28) ?_
   refine ps_ (i := 29) ?_
   refine ps_ (i := 30) ?_
   refine ps_ (i := 31) ?_
   refine lk_ (.bool true) ?_
   refine plD ?_
   refine tn_ hK6 ?_
   refine wpPrune [(1, .pointer (some ⟨g2, 0, none⟩)), (2, .int .i64 0), (36, .bool true)] ⟨lg_, ⟨lg_, ⟨lg_, trivial⟩⟩⟩ (fun X15 => ?_)
   refine wp_cond_true le_ ?_
   refine wp_seq_k fun K16 hK16 => ?_
   refine plStart ?_
   refine lk_ (.int .i64 1) ?_
   refine plD ?_
   refine tn_ hK16 ?_
   refine wp_ret ?_
   refine then_ret ?_
   refine bodyPost_ret (v := .int .i64 1) (gRes1 rfl (gResTmp (t := 2) (v := .int .i64 1) (lg_))) rfl ?_
   exact ⟨congrArg (fun n_ => Ending.returned (.int .i64 n_)) (show (1 : Int) = ckH h by unfold ckH; rw [if_neg (fun h_ => by obtain ⟨a1_, a2_, a3_, a4_, a5_, a6_⟩ := h_; omega)]), hm3.bel⟩
  refine litVal (v := .bool false) rfl (wgY rfl rfl rfl (by decide) kr_) (boolTo (decide_eq_false h14) (lssRun (A := h.depth) (B := 2) (.tmp 20) (.const (.int .i64 2)) rfl le_ le_)) rfl (by decide) ?_
  refine lk_ (.bool false) ?_
  refine lk_ (.bool false) ?_
  refine litVal (v := .pointer (some ⟨g2, 2, none⟩)) rfl (wgY rfl rfl rfl (by decide) kr_) (litRun kr_) rfl (by decide) ?_
  refine litVal (v := .int .i64 h.depth) rfl (wgY rfl rfl rfl (by decide) kr_) (gLoad (v := .int .i64 h.depth) (k := 2) 0 hm3 rfl kr_ (.tmp 24) kr_ rfl le_) rfl (by decide) ?_
  by_cases h17 : 14 < h.depth
  ·refine litVal (v := .bool true) rfl (wgY rfl rfl rfl (by decide) kr_) (boolTo (decide_eq_true h17) (gtrRun (A := h.depth) (B := 14) (.tmp 25) (.const (.int .i64 14)) rfl le_ le_)) rfl (by decide) ?_
   refine lk_ (.bool true) ?_
   refine lk_ (.bool true) ?_
   refine ps_ (i := 25) ?_
   refine ps_ (i := 26) ?_
   refine ps_ (i := 27) ?_
   refine ps_ (i := 28) ?_
   refine ps_ (i := 29) ?_
   refine ps_ (i := 30) ?_
   refine ps_ (i := 31) ?_
   refine lk_ (.bool true) ?_
   refine plD ?_
   refine tn_ hK6 ?_
   refine wpPrune [(1, .pointer (some ⟨g2, 0, none⟩)), (2, .int .i64 0), (36, .bool true)] ⟨lg_, ⟨lg_, ⟨lg_, trivial⟩⟩⟩ (fun X18 => ?_)
   refine wp_cond_true le_ ?_
   refine wp_seq_k fun K19 hK19 => ?_
   refine plStart ?_
   refine lk_ (.int .i64 1) ?_
   refine plD ?_
   refine tn_ hK19 ?_
   refine wp_ret ?_
   refine then_ret ?_
   refine bodyPost_ret (v := .int .i64 1) (gRes1 rfl (gResTmp (t := 2) (v := .int .i64 1) (lg_))) rfl ?_
   exact ⟨congrArg (fun n_ => Ending.returned (.int .i64 n_)) (show (1 : Int) = ckH h by unfold ckH; rw [if_neg (fun h_ => by obtain ⟨a1_, a2_, a3_, a4_, a5_, a6_⟩ := h_; omega)]), hm3.bel⟩
  refine litVal (v := .bool false) rfl (wgY rfl rfl rfl (by decide) kr_) (boolTo (decide_eq_false h17) (gtrRun (A := h.depth) (B := 14) (.tmp 25) (.const (.int .i64 14)) rfl le_ le_)) rfl (by decide) ?_
  refine lk_ (.bool false) ?_
  refine lk_ (.bool false) ?_
  refine litVal (v := .pointer (some ⟨g2, 3, none⟩)) rfl (wgY rfl rfl rfl (by decide) kr_) (litRun kr_) rfl (by decide) ?_
  refine litVal (v := .slice B h.rn d) rfl (wgY rfl rfl rfl (by decide) kr_) (gLoad (v := .slice B h.rn d) (k := 3) 0 hm3 rfl kr_ (.tmp 29) kr_ rfl le_) rfl (by decide) ?_
  refine litVal (v := .int .i64 (h.rn : Int)) rfl (wgY rfl rfl rfl (by decide) kr_) (lenSlRun (A := B) (n := h.rn) (c := d) (.tmp 30) Ty.und_L_api_Digest rfl le_) rfl (by decide) ?_
  refine litVal (v := .pointer (some ⟨g2, 2, none⟩)) rfl (wgY rfl rfl rfl (by decide) kr_) (litRun kr_) rfl (by decide) ?_
  refine litVal (v := .int .i64 h.depth) rfl (wgY rfl rfl rfl (by decide) kr_) (gLoad (v := .int .i64 h.depth) (k := 2) 0 hm3 rfl kr_ (.tmp 32) kr_ rfl le_) rfl (by decide) ?_
  refine litVal (v := .int .i64 (h.depth - 1)) rfl (wgY rfl rfl rfl (by decide) kr_) (subRun (A := h.depth) (B := 1) (C := h.depth - 1) (.tmp 33) (.const (.int .i64 1)) rfl le_ le_ rfl (by omega)) rfl (by decide) ?_
  by_cases h20 : (h.rn : Int) = (h.depth - 1)
  ·refine litVal (v := .bool false) rfl (wgY rfl rfl rfl (by decide) kr_) (boolTo (by rw [decide_eq_true h20]; rfl) (neqRun (A := (h.rn : Int)) (B := (h.depth - 1)) (.tmp 31) (.tmp 34) rfl le_ le_)) rfl (by decide) ?_
   refine lk_ (.bool false) ?_
   refine plD ?_
   refine tn_ hK6 ?_
   refine wpPrune [(1, .pointer (some ⟨g2, 0, none⟩)), (2, .int .i64 0), (36, .bool false)] ⟨lg_, ⟨lg_, ⟨lg_, trivial⟩⟩⟩ (fun X21 => ?_)
   refine wp_cond_false le_ ?_
   refine wp_skip ?_
   refine tn_ hK5 ?_
   refine wp_seq_k fun K22 hK22 => ?_
   refine wp_seq_k fun K23 hK23 => ?_
   refine plStart ?_
   refine lk_ (.int .i64 0) ?_
   refine plD ?_
   refine tn_ hK23 ?_
   refine wp_block ?_
   refine gwLoop (fun n_ a_ w_ => ∃ (k : Nat), n_ = 8 - k ∧ (k ≤ 8) ∧ (∀ n ∈ h.counts.take k, okN n) ∧ Fr a_ 55 [(1, .pointer (some ⟨g2, 0, none⟩)), (3, .int .i64 (k : Int))] ∧ Mem w w_ [.arr g2 25 (hcs h A c B d)]) (8 - 0) ⟨0, rfl, (Nat.zero_le _), (by simp), ⟨litSize, rfl, ⟨lg_, ⟨lg_, trivial⟩⟩⟩, (hm3.sub (.cons_cons _ .slnil))⟩ ?_
   clear hm3
   intro n_ a26 w24 hI_
   obtain ⟨k, rfl, hk, hg, hF_, hm25⟩ := hI_
   obtain ⟨X27, rfl⟩ := frLit hF_
   clear hF_
   refine wp_seq_k fun K28 hK28 => ?_
   refine wp_seq_k fun K29 hK29 => ?_
   refine plStart ?_
   refine lk_ (.int .i64 (k : Int)) ?_
   by_cases h30 : (k : Int) < 8
   ·obtain ⟨x, hx⟩ : ∃ x, h.counts[k]? = some x := ⟨_, List.getElem?_eq_getElem (by omega)⟩
    obtain ⟨b_, o_, rfl, _, _⟩ := hA.cells (by omega)
    refine litVal (v := .bool true) rfl (wn rfl) (boolTo (decide_eq_true h30) (lssRun (A := (k : Int)) (B := 8) (.tmp 37) (.const (.int .i64 8)) rfl le_ le_)) rfl (by decide) ?_
    refine plD ?_
    refine tn_ hK29 ?_
    refine wp_cond_true le_ ?_
    refine wp_skip ?_
    refine tn_ hK28 ?_
    refine wp_seq_k fun K31 hK31 => ?_
    refine wp_block ?_
    refine wp_seq_k fun K32 hK32 => ?_
    refine plStart ?_
    refine lk_ (.pointer (some ⟨g2, 1, none⟩)) ?_
    refine litVal (v := .slice (some ⟨b_, o_, none⟩) h.counts.length c) rfl (wn rfl) (gLoad (v := .slice (some ⟨b_, o_, none⟩) h.counts.length c) (k := 1) 0 hm25 rfl kr_ (.tmp 41) kr_ rfl le_) rfl (by decide) ?_
    refine lk_ (.int .i64 (k : Int)) ?_
    refine litVal (v := .pointer (some ⟨b_, o_ + k * 1, none⟩)) rfl (wn rfl) (gIaSl (b := b_) (off := o_) (n := h.counts.length) (c := c) (kk := .i64) (K := (k : Int)) (.tmp 42) (.tmp 43) k Ty.sl_L_int rfl le_ le_ (rfl) (by omega)) rfl (by decide) ?_
    refine litVal (v := .int .i64 x) rfl (wn rfl) (gLoadRd (v := .int .i64 x) (m := k * 1) ((Rd.below hA hm25.bel).more hm25.bel.size) rfl (ics_at hx) (by omega) (.tmp 44) kr_ rfl le_) rfl (by decide) ?_
    by_cases h33 : x < 0
    ·refine litVal (v := .bool true) rfl (wn rfl) (boolTo (decide_eq_true h33) (lssRun (A := x) (B := 0) (.tmp 45) (.const (.int .i64 0)) rfl le_ le_)) rfl (by decide) ?_
     refine lk_ (.bool true) ?_
     refine ps_ (i := 7) ?_
     refine ps_ (i := 8) ?_
     refine ps_ (i := 9) ?_
     refine ps_ (i := 10) ?_
     refine ps_ (i := 11) ?_
     refine ps_ (i := 12) ?_
     refine lk_ (.bool true) ?_
     refine plD ?_
     refine tn_ hK32 ?_
     refine wp_cond_true le_ ?_
     refine wp_seq_k fun K34 hK34 => ?_
     refine plStart ?_
     refine lk_ (.int .i64 1) ?_
     refine plD ?_
     refine tn_ hK34 ?_
     refine wp_ret ?_
     refine inBlock_ret ?_
     refine then_ret ?_
     refine then_ret ?_
     refine inBlock_ret ?_
     refine then_ret ?_
     refine bodyPost_ret (v := .int .i64 1) (gRes1 rfl (gResTmp (t := 2) (v := .int .i64 1) (lg_))) rfl ?_
     exact ⟨congrArg (fun n_ => Ending.returned (.int .i64 n_)) (show (1 : Int) = ckH h by unfold ckH; rw [if_neg (fun h_ => by have q_ := h_.1 x (List.mem_of_getElem? hx); unfold okN at q_; omega)]), hm25.bel⟩
    refine litVal (v := .bool false) rfl (wn rfl) (boolTo (decide_eq_false h33) (lssRun (A := x) (B := 0) (.tmp 45) (.const (.int .i64 0)) rfl le_ le_)) rfl (by decide) ?_
    refine lk_ (.bool false) ?_
    refine litVal (v := .pointer (some ⟨g2, 1, none⟩)) rfl (wgY rfl rfl rfl (by decide) kr_) (litRun kr_) rfl (by decide) ?_
    refine litVal (v := .slice (some ⟨b_, o_, none⟩) h.counts.length c) rfl (wgY rfl rfl rfl (by decide) kr_) (gLoad (v := .slice (some ⟨b_, o_, none⟩) h.counts.length c) (k := 1) 0 hm25 rfl kr_ (.tmp 48) kr_ rfl le_) rfl (by decide) ?_
    refine litVal (v := .int .i64 (k : Int)) rfl (wgY rfl rfl rfl (by decide) kr_) (litRun kr_) rfl (by decide) ?_
    refine litVal (v := .pointer (some ⟨b_, o_ + k * 1, none⟩)) rfl (wgY rfl rfl rfl (by decide) kr_) (gIaSl (b := b_) (off := o_) (n := h.counts.length) (c := c) (kk := .i64) (K := (k : Int)) (.tmp 49) (.tmp 50) k Ty.sl_L_int rfl le_ le_ (rfl) (by omega)) rfl (by decide) ?_
    refine litVal (v := .int .i64 x) rfl (wgY rfl rfl rfl (by decide) kr_) (gLoadRd (v := .int .i64 x) (m := k * 1) ((Rd.below hA hm25.bel).more hm25.bel.size) rfl (ics_at hx) (by omega) (.tmp 51) kr_ rfl le_) rfl (by decide) ?_
    by_cases h35 : 1000 < x
    ·refine litVal (v := .bool true) rfl (wgY rfl rfl rfl (by decide) kr_) (boolTo (decide_eq_true h35) (gtrRun (A := x) (B := 1000) (.tmp 52) (.const (.int .i64 1000)) rfl le_ le_)) rfl (by decide) ?_
     refine lk_ (.bool true) ?_
     refine plD ?_
     refine tn_ hK32 ?_
     refine wp_cond_true le_ ?_
     refine wp_seq_k fun K36 hK36 => ?_
     refine plStart ?_
     refine lk_ (.int .i64 1) ?_
     refine plD ?_
     refine tn_ hK36 ?_
     refine wp_ret ?_
     refine inBlock_ret ?_
     refine then_ret ?_
     refine then_ret ?_
     refine inBlock_ret ?_
     refine then_ret ?_
     refine bodyPost_ret (v := .int .i64 1) (gRes1 rfl (gResTmp (t := 2) (v := .int .i64 1) (lg_))) rfl ?_
     exact ⟨congrArg (fun n_ => Ending.returned (.int .i64 n_)) (show (1 : Int) = ckH h by unfold ckH; rw [if_neg (fun h_ => by have q_ := h_.1 x (List.mem_of_getElem? hx); unfold okN at q_; omega)]), hm25.bel⟩
    refine litVal (v := .bool false) rfl (wgY rfl rfl rfl (by decide) kr_) (boolTo (decide_eq_false h35) (gtrRun (A := x) (B := 1000) (.tmp 52) (.const (.int .i64 1000)) rfl le_ le_)) rfl (by decide) ?_
    refine lk_ (.bool false) ?_
    refine plD ?_
    refine tn_ hK32 ?_
    refine wp_cond_false le_ ?_
    refine wp_skip ?_
    refine inBlock_normal ?_
    refine tn_ hK31 ?_
    refine plStart ?_
    refine lk_ (.int .i64 (k : Int)) ?_
    refine litVal (v := .int .i64 ((k : Int) + 1)) rfl (wn rfl) (addRun (A := (k : Int)) (B := 1) (C := (k : Int) + 1) (.tmp 39) (.const (.int .i64 1)) rfl le_ le_ rfl (by omega)) rfl (by decide) ?_
    refine lk_ (.int .i64 ((k : Int) + 1)) ?_
    refine plD ?_
    refine then_normal ?_
    exact ⟨_, by omega, (k + 1), rfl, (by omega), (ok_take hx hg (by unfold okN; omega)), ⟨litSize, rfl, ⟨lg_, ⟨lg_, trivial⟩⟩⟩, (hm25.sub (.cons_cons _ .slnil))⟩
   refine litVal (v := .bool false) rfl (wn rfl) (boolTo (decide_eq_false h30) (lssRun (A := (k : Int)) (B := 8) (.tmp 37) (.const (.int .i64 8)) rfl le_ le_)) rfl (by decide) ?_
   refine plD ?_
   refine tn_ hK29 ?_
   refine wp_cond_false le_ ?_
   refine wp_exit ?_
   refine then_exit ?_
   refine then_exit ?_
   refine inBlock_exit ?_
   refine tn_ hK22 ?_
   refine wp_seq_k fun K37 hK37 => ?_
   refine plStart ?_
   refine lk_ (.int .i64 0) ?_
   refine plD ?_
   refine tn_ hK37 ?_
   refine wp_ret ?_
   refine bodyPost_ret (v := .int .i64 0) (gRes1 rfl (gResTmp (t := 2) (v := .int .i64 0) (lg_))) rfl ?_
   rw [List.take_of_length_le (by omega)] at hg
   have hgood_ : h.Good := ⟨hg, by omega, by omega, by omega, by omega, by omega⟩
   exact ⟨congrArg (fun n_ => Ending.returned (.int .i64 n_)) (show (0 : Int) = ckH h by unfold ckH; rw [if_pos hgood_]), hm25.bel⟩
  refine litVal (v := .bool true) rfl (wgY rfl rfl rfl (by decide) kr_) (boolTo (by rw [decide_eq_false h20]; rfl) (neqRun (A := (h.rn : Int)) (B := (h.depth - 1)) (.tmp 31) (.tmp 34) rfl le_ le_)) rfl (by decide) ?_
  refine lk_ (.bool true) ?_
  refine plD ?_
  refine tn_ hK6 ?_
  refine wpPrune [(1, .pointer (some ⟨g2, 0, none⟩)), (2, .int .i64 0), (36, .bool true)] ⟨lg_, ⟨lg_, ⟨lg_, trivial⟩⟩⟩ (fun X38 => ?_)
  refine wp_cond_true le_ ?_
  refine wp_seq_k fun K39 hK39 => ?_
  refine plStart ?_
  refine lk_ (.int .i64 1) ?_
  refine plD ?_
  refine tn_ hK39 ?_
  refine wp_ret ?_
  refine then_ret ?_
  refine bodyPost_ret (v := .int .i64 1) (gRes1 rfl (gResTmp (t := 2) (v := .int .i64 1) (lg_))) rfl ?_
  exact ⟨congrArg (fun n_ => Ending.returned (.int .i64 n_)) (show (1 : Int) = ckH h by unfold ckH; rw [if_neg (fun h_ => by obtain ⟨a1_, a2_, a3_, a4_, a5_, a6_⟩ := h_; omega)]), hm3.bel⟩
 refine litVal (v := .bool true) rfl (wgY rfl rfl rfl (by decide) kr_) (boolTo (by rw [decide_eq_false h13]; rfl) (neqRun (A := (h.counts.length : Int)) (B := 8) (.tmp 15) (.const (.int .i64 8)) rfl le_ le_)) rfl (by decide) ?_
 refine lk_ (.bool true) ?_
 refine lk_ (.bool true) ?_
 refine ps_ (i := 15) ?_
 refine ps_ (i := 16) ?_
 refine ps_ (i := 17) ?_
 refine lk_ (.bool true) ?_
 refine lk_ (.bool true) ?_
 refine ps_ (i := 20) ?_
 refine ps_ (i := 21) ?_
 refine ps_ (i := 22) ?_
 refine lk_ (.bool true) ?_
 refine lk_ (.bool true) ?_
 refine ps_ (i := 25) ?_
 refine ps_ (i := 26) ?_
 refine ps_ (i := 27) ?_
 refine ps_ (i := 28) ?_
 refine ps_ (i := 29) ?_
 refine ps_ (i := 30) ?_
 refine ps_ (i := 31) ?_
 refine lk_ (.bool true) ?_
 refine plD ?_
 refine tn_ hK6 ?_
 refine wpPrune [(1, .pointer (some ⟨g2, 0, none⟩)), (2, .int .i64 0), (36, .bool true)] ⟨lg_, ⟨lg_, ⟨lg_, trivial⟩⟩⟩ (fun X40 => ?_)
 refine wp_cond_true le_ ?_
 refine wp_seq_k fun K41 hK41 => ?_
 refine plStart ?_
 refine lk_ (.int .i64 1) ?_
 refine plD ?_
 refine tn_ hK41 ?_
 refine wp_ret ?_
 refine then_ret ?_
 refine bodyPost_ret (v := .int .i64 1) (gRes1 rfl (gResTmp (t := 2) (v := .int .i64 1) (lg_))) rfl ?_
 exact ⟨congrArg (fun n_ => Ending.returned (.int .i64 n_)) (show (1 : Int) = ckH h by unfold ckH; rw [if_neg (fun h_ => by obtain ⟨a1_, a2_, a3_, a4_, a5_, a6_⟩ := h_; omega)]), hm3.bel⟩
theorem eqI_any (l e_ : List Int) (A B : Option Addr) (c d : Nat) (w : World) (hA : Rd w w.heap.size 1 A l.length c (ics l)) (hB : Rd w w.heap.size 1 B e_.length d (ics e_)) (hl : l.length ≤ 1099511627776) : Calls Tryz.prog 51 #[.slice A l.length c, .slice B e_.length d] w (RetV w (.bool (decide (l = e_)))) := by
 have hm0 := Mem.nil w
 go_enter Tryz.func51, Tryz.ntmps51
 refine litStart 26 [(0, .slice A l.length c), (1, .slice B e_.length d)] kr_ (fun X0 => ?_)
 refine wp_seq_k fun K1 hK1 => ?_
 refine plStart ?_
 refine lk_ (.bool false) ?_
 refine plD ?_
 refine tn_ hK1 ?_
 refine wp_seq_k fun K2 hK2 => ?_
 refine wp_seq_k fun K3 hK3 => ?_
 refine plStart ?_
 refine lk_ (.slice A l.length c) ?_
 refine litVal (v := .int .i64 (l.length : Int)) rfl (wn rfl) (lenSlRun (A := A) (n := l.length) (c := c) (.tmp 6) Ty.und_L_int rfl le_) rfl (by decide) ?_
 refine lk_ (.slice B e_.length d) ?_
 refine litVal (v := .int .i64 (e_.length : Int)) rfl (wn rfl) (lenSlRun (A := B) (n := e_.length) (c := d) (.tmp 8) Ty.und_L_int rfl le_) rfl (by decide) ?_
 by_cases h4 : (l.length : Int) = (e_.length : Int)
 ·refine litVal (v := .bool false) rfl (wn rfl) (boolTo (by rw [decide_eq_true h4]; rfl) (neqRun (A := (l.length : Int)) (B := (e_.length : Int)) (.tmp 7) (.tmp 9) rfl le_ le_)) rfl (by decide) ?_
  refine plD ?_
  refine tn_ hK3 ?_
  refine wp_cond_false le_ ?_
  refine wp_skip ?_
  refine tn_ hK2 ?_
  refine wp_seq_k fun K5 hK5 => ?_
  refine wp_seq_k fun K6 hK6 => ?_
  refine plStart ?_
  refine lk_ (.slice A l.length c) ?_
  refine litVal (v := .int .i64 (l.length : Int)) rfl (wn rfl) (lenSlRun (A := A) (n := l.length) (c := c) (.tmp 11) Ty.und_L_int rfl le_) rfl (by decide) ?_
  refine lk_ (.int .i64 0) ?_
  refine plD ?_
  refine tn_ hK6 ?_
  refine wp_block ?_
  refine gwLoop (fun n_ a_ w_ => ∃ (k : Nat), n_ = l.length - k ∧ (k ≤ l.length) ∧ (l.take k = e_.take k) ∧ Fr a_ 26 [(0, .slice A l.length c), (1, .slice B e_.length d), (12, .int .i64 (l.length : Int)), (13, .int .i64 (k : Int))] ∧ Mem w w_ []) (l.length - 0) ⟨0, rfl, (Nat.zero_le _), (by simp), ⟨litSize, rfl, ⟨lg_, ⟨lg_, ⟨lg_, ⟨lg_, trivial⟩⟩⟩⟩⟩, (hm0.sub .slnil)⟩ ?_
  clear hm0
  intro n_ a9 w7 hI_
  obtain ⟨k, rfl, hk, hq, hF_, hm8⟩ := hI_
  obtain ⟨X10, rfl⟩ := frLit hF_
  clear hF_
  refine wp_seq_k fun K11 hK11 => ?_
  refine plStart ?_
  by_cases h12 : (k : Int) < (l.length : Int)
  ·obtain ⟨x, hx⟩ : ∃ x, l[k]? = some x := ⟨_, List.getElem?_eq_getElem (by omega)⟩
   obtain ⟨y, hy⟩ : ∃ y, e_[k]? = some y := ⟨_, List.getElem?_eq_getElem (by omega)⟩
   obtain ⟨b1_, o1_, rfl, _, _⟩ := hA.cells (by omega)
   obtain ⟨b2_, o2_, rfl, _, _⟩ := hB.cells (by omega)
   refine litVal (v := .bool true) rfl (wn rfl) (boolTo (decide_eq_true h12) (lssRun (A := (k : Int)) (B := (l.length : Int)) (.tmp 13) (.tmp 12) rfl le_ le_)) rfl (by decide) ?_
   refine plD ?_
   refine tn_ hK11 ?_
   refine wp_seq_k fun K13 hK13 => ?_
   refine wp_cond_true le_ ?_
   refine wp_skip ?_
   refine tn_ hK13 ?_
   refine wp_seq_k fun K14 hK14 => ?_
   refine wp_block ?_
   refine wp_seq_k fun K15 hK15 => ?_
   refine plStart ?_
   refine lk_ (.int .i64 (k : Int)) ?_
   refine lk_ (.int .i64 (k : Int)) ?_
   refine plD ?_
   refine tn_ hK15 ?_
   refine wp_seq_k fun K16 hK16 => ?_
   refine mgStart hm8 kr_ ?_
   intro w18 hm17
   clear hm8
   refine mk_ (i := 0) (v := .slice (some ⟨b1_, o1_, none⟩) l.length c) rfl rfl (fun _ _ _ h => h) hm17 rfl ?_
   refine mk_ (i := 1) (v := .int .i64 (k : Int)) rfl rfl (fun _ _ _ h => h) hm17 rfl ?_
   refine mgTake (i := 2) (v := .pointer (some ⟨b1_, o1_ + k * 1, none⟩)) rfl kr_ (wn rfl) (fun _ _ _ h => h) hm17 (fun w_ h_ => gIaSl (b := b1_) (off := o1_) (n := l.length) (c := c) (kk := .i64) (K := (k : Int)) (.tmp 16) (.tmp 17) k Ty.sl_L_int rfl le_ le_ (rfl) (by omega)) ?_
   refine mP rfl ?_
   refine mgTake (i := 3) (v := .int .i64 x) rfl kr_ (wn rfl) (fun _ _ _ h => h) hm17 (fun w_ h_ => gLoadRd (v := .int .i64 x) (m := k * 1) ((Rd.below hA h_.bel).more h_.bel.size) rfl (ics_at hx) (by omega) (.tmp 18) kr_ rfl le_) ?_
   refine mP rfl ?_
   refine mk_ (i := 4) (v := .slice (some ⟨b2_, o2_, none⟩) e_.length d) rfl rfl (fun _ _ _ h => h) hm17 rfl ?_
   refine mk_ (i := 5) (v := .int .i64 (k : Int)) rfl rfl (fun _ _ _ h => h) hm17 rfl ?_
   refine mgTake (i := 6) (v := .pointer (some ⟨b2_, o2_ + k * 1, none⟩)) rfl kr_ (wn rfl) (fun _ _ _ h => h) hm17 (fun w_ h_ => gIaSl (b := b2_) (off := o2_) (n := e_.length) (c := d) (kk := .i64) (K := (k : Int)) (.tmp 20) (.tmp 21) k Ty.sl_L_int rfl le_ le_ (rfl) (by omega)) ?_
   refine mP rfl ?_
   refine mgTake (i := 7) (v := .int .i64 y) rfl kr_ (wn rfl) (fun _ _ _ h => h) hm17 (fun w_ h_ => gLoadRd (v := .int .i64 y) (m := k * 1) ((Rd.below hB h_.bel).more h_.bel.size) rfl (ics_at hy) (by omega) (.tmp 22) kr_ rfl le_) ?_
   refine mP rfl ?_
   by_cases h19 : x = y
   ·refine mgTake (i := 8) (v := .bool false) rfl kr_ (wn rfl) (fun _ _ _ h => h) hm17 (fun w_ h_ => boolTo (by rw [decide_eq_true h19]; rfl) (neqRun (A := x) (B := y) (.tmp 19) (.tmp 23) rfl le_ le_)) ?_
    refine mP rfl ?_
    refine mgDone kr_ ?_
    refine tn_ hK16 ?_
    refine wp_cond_false le_ ?_
    refine wp_skip ?_
    refine inBlock_normal ?_
    refine tn_ hK14 ?_
    refine plStart ?_
    refine litVal (v := .int .i64 ((k : Int) + 1)) rfl (wn rfl) (addRun (A := (k : Int)) (B := 1) (C := (k : Int) + 1) (.tmp 13) (.const (.int .i64 1)) rfl le_ le_ rfl (by omega)) rfl (by decide) ?_
    refine lk_ (.int .i64 ((k : Int) + 1)) ?_
    refine plD ?_
    refine then_normal ?_
    exact ⟨_, by omega, (k + 1), rfl, (by omega), (by rw [List.take_add_one, List.take_add_one, hq, hx, hy, h19]), ⟨litSize, rfl, ⟨lg_, ⟨lg_, ⟨lg_, ⟨lg_, trivial⟩⟩⟩⟩⟩, (hm17.sub .slnil)⟩
   refine mgTake (i := 8) (v := .bool true) rfl kr_ (wn rfl) (fun _ _ _ h => h) hm17 (fun w_ h_ => boolTo (by rw [decide_eq_false h19]; rfl) (neqRun (A := x) (B := y) (.tmp 19) (.tmp 23) rfl le_ le_)) ?_
   refine mP rfl ?_
   refine mgDone kr_ ?_
   refine tn_ hK16 ?_
   refine wp_cond_true le_ ?_
   refine wp_seq_k fun K20 hK20 => ?_
   refine plStart ?_
   refine lk_ (.bool false) ?_
   refine plD ?_
   refine tn_ hK20 ?_
   refine wp_ret ?_
   refine inBlock_ret ?_
   refine then_ret ?_
   refine then_ret ?_
   refine inBlock_ret ?_
   refine then_ret ?_
   refine bodyPost_ret (v := .bool false) (gRes1 rfl (gResTmp (t := 4) (v := .bool false) (lg_))) rfl ?_
   exact ⟨congrArg (fun b_ => Ending.returned (.bool b_)) (decide_eq_false (fun q_ => h19 (by rw [q_] at hx; exact Option.some.inj (hx.symm.trans hy)))).symm, hm17.bel⟩
  refine litVal (v := .bool false) rfl (wn rfl) (boolTo (decide_eq_false h12) (lssRun (A := (k : Int)) (B := (l.length : Int)) (.tmp 13) (.tmp 12) rfl le_ le_)) rfl (by decide) ?_
  refine plD ?_
  refine tn_ hK11 ?_
  refine wp_seq_k fun K21 hK21 => ?_
  refine wp_cond_false le_ ?_
  refine wp_exit ?_
  refine then_exit ?_
  refine then_exit ?_
  refine inBlock_exit ?_
  refine tn_ hK5 ?_
  refine wp_seq_k fun K22 hK22 => ?_
  refine plStart ?_
  refine lk_ (.bool true) ?_
  refine plD ?_
  refine tn_ hK22 ?_
  refine wp_ret ?_
  refine bodyPost_ret (v := .bool true) (gRes1 rfl (gResTmp (t := 4) (v := .bool true) (lg_))) rfl ?_
  exact ⟨congrArg (fun b_ => Ending.returned (.bool b_)) (decide_eq_true (by rw [List.take_of_length_le (by omega), List.take_of_length_le (by omega)] at hq; exact hq)).symm, hm8.bel⟩
 refine litVal (v := .bool true) rfl (wn rfl) (boolTo (by rw [decide_eq_false h4]; rfl) (neqRun (A := (l.length : Int)) (B := (e_.length : Int)) (.tmp 7) (.tmp 9) rfl le_ le_)) rfl (by decide) ?_
 refine plD ?_
 refine tn_ hK3 ?_
 refine wp_cond_true le_ ?_
 refine wp_seq_k fun K23 hK23 => ?_
 refine plStart ?_
 refine lk_ (.bool false) ?_
 refine plD ?_
 refine tn_ hK23 ?_
 refine wp_ret ?_
 refine then_ret ?_
 refine bodyPost_ret (v := .bool false) (gRes1 rfl (gResTmp (t := 4) (v := .bool false) (lg_))) rfl ?_
 exact ⟨congrArg (fun b_ => Ending.returned (.bool b_)) (decide_eq_false (fun q_ => h4 (by rw [q_]))).symm, hm0.bel⟩
theorem eqD_any (l e_ : List UInt8) (n m : Nat) (A B : Option Addr) (c d : Nat) (w : World) (hA : Rd w w.heap.size 16 A n c (bcs l)) (hB : Rd w w.heap.size 16 B m d (bcs e_)) (hl : n ≤ 1099511627776) : Calls Tryz.prog 52 #[.slice A n c, .slice B m d] w (RetV w (.bool (decide (n = m ∧ l = e_)))) := by
 have hla_ := hA.len
 have hlb_ := hB.len
 rw [bcs_length] at hla_ hlb_
 have hm0 := Mem.nil w
 go_enter Tryz.func52, Tryz.ntmps52
 refine litStart 26 [(0, .slice A n c), (1, .slice B m d)] kr_ (fun X0 => ?_)
 refine wp_seq_k fun K1 hK1 => ?_
 refine plStart ?_
 refine lk_ (.bool false) ?_
 refine plD ?_
 refine tn_ hK1 ?_
 refine wp_seq_k fun K2 hK2 => ?_
 refine wp_seq_k fun K3 hK3 => ?_
 refine plStart ?_
 refine lk_ (.slice A n c) ?_
 refine litVal (v := .int .i64 (n : Int)) rfl (wn rfl) (lenSlRun (A := A) (n := n) (c := c) (.tmp 6) Ty.und_L_api_Digest rfl le_) rfl (by decide) ?_
 refine lk_ (.slice B m d) ?_
 refine litVal (v := .int .i64 (m : Int)) rfl (wn rfl) (lenSlRun (A := B) (n := m) (c := d) (.tmp 8) Ty.und_L_api_Digest rfl le_) rfl (by decide) ?_
 by_cases h4 : (n : Int) = (m : Int)
 ·refine litVal (v := .bool false) rfl (wn rfl) (boolTo (by rw [decide_eq_true h4]; rfl) (neqRun (A := (n : Int)) (B := (m : Int)) (.tmp 7) (.tmp 9) rfl le_ le_)) rfl (by decide) ?_
  refine plD ?_
  refine tn_ hK3 ?_
  refine wp_cond_false le_ ?_
  refine wp_skip ?_
  refine tn_ hK2 ?_
  refine wp_seq_k fun K5 hK5 => ?_
  refine wp_seq_k fun K6 hK6 => ?_
  refine plStart ?_
  refine lk_ (.slice A n c) ?_
  refine litVal (v := .int .i64 (n : Int)) rfl (wn rfl) (lenSlRun (A := A) (n := n) (c := c) (.tmp 11) Ty.und_L_api_Digest rfl le_) rfl (by decide) ?_
  refine lk_ (.int .i64 0) ?_
  refine plD ?_
  refine tn_ hK6 ?_
  refine wp_block ?_
  refine gwLoop (fun n_ a_ w_ => ∃ (k : Nat), n_ = n - k ∧ (k ≤ n) ∧ (l.take (k * 16) = e_.take (k * 16)) ∧ Fr a_ 26 [(0, .slice A n c), (1, .slice B m d), (12, .int .i64 (n : Int)), (13, .int .i64 (k : Int))] ∧ Mem w w_ []) (n - 0) ⟨0, rfl, (Nat.zero_le _), (by simp), ⟨litSize, rfl, ⟨lg_, ⟨lg_, ⟨lg_, ⟨lg_, trivial⟩⟩⟩⟩⟩, (hm0.sub .slnil)⟩ ?_
  clear hm0
  intro n_ a9 w7 hI_
  obtain ⟨k, rfl, hk, hq, hF_, hm8⟩ := hI_
  obtain ⟨X10, rfl⟩ := frLit hF_
  clear hF_
  refine wp_seq_k fun K11 hK11 => ?_
  refine plStart ?_
  by_cases h12 : (k : Int) < (n : Int)
  ·obtain ⟨b1_, o1_, rfl, _, _⟩ := hA.cells (by omega)
   obtain ⟨b2_, o2_, rfl, _, _⟩ := hB.cells (by omega)
   refine litVal (v := .bool true) rfl (wn rfl) (boolTo (decide_eq_true h12) (lssRun (A := (k : Int)) (B := (n : Int)) (.tmp 13) (.tmp 12) rfl le_ le_)) rfl (by decide) ?_
   refine plD ?_
   refine tn_ hK11 ?_
   refine wp_seq_k fun K13 hK13 => ?_
   refine wp_cond_true le_ ?_
   refine wp_skip ?_
   refine tn_ hK13 ?_
   refine wp_seq_k fun K14 hK14 => ?_
   refine wp_block ?_
   refine wp_seq_k fun K15 hK15 => ?_
   refine plStart ?_
   refine lk_ (.int .i64 (k : Int)) ?_
   refine lk_ (.int .i64 (k : Int)) ?_
   refine plD ?_
   refine tn_ hK15 ?_
   refine wp_seq_k fun K16 hK16 => ?_
   refine mgStart hm8 kr_ ?_
   intro w18 hm17
   clear hm8
   refine mk_ (i := 0) (v := .slice (some ⟨b1_, o1_, none⟩) n c) rfl rfl (fun _ _ _ h => h) hm17 rfl ?_
   refine mk_ (i := 1) (v := .int .i64 (k : Int)) rfl rfl (fun _ _ _ h => h) hm17 rfl ?_
   refine mgTake (i := 2) (v := .pointer (some ⟨b1_, o1_ + k * 16, none⟩)) rfl kr_ (wn rfl) (fun _ _ _ h => h) hm17 (fun w_ h_ => gIaSl (b := b1_) (off := o1_) (n := n) (c := c) (kk := .i64) (K := (k : Int)) (.tmp 16) (.tmp 17) k Ty.sl_L_api_Digest rfl le_ le_ (rfl) (by omega)) ?_
   refine mP rfl ?_
   refine mgTake (i := 3) (v := .agg (bcs (dgAt l k)).toArray) rfl kr_ (wn rfl) (fun _ _ _ h => h) hm17 (fun w_ h_ => gLoadAgRd (vs := bcs (dgAt l k)) (m := k * 16) ((Rd.below hA h_.bel).more h_.bel.size) rfl (fun i_ u_ hu_ => dg_get hu_) (by rw [bcs_length]; exact dgAt_len hla_ (by omega)) (by omega) (.tmp 18) Ty.ag_voxel_api_Digest rfl le_) ?_
   refine mP rfl ?_
   refine mk_ (i := 4) (v := .slice (some ⟨b2_, o2_, none⟩) m d) rfl rfl (fun _ _ _ h => h) hm17 rfl ?_
   refine mk_ (i := 5) (v := .int .i64 (k : Int)) rfl rfl (fun _ _ _ h => h) hm17 rfl ?_
   refine mgTake (i := 6) (v := .pointer (some ⟨b2_, o2_ + k * 16, none⟩)) rfl kr_ (wn rfl) (fun _ _ _ h => h) hm17 (fun w_ h_ => gIaSl (b := b2_) (off := o2_) (n := m) (c := d) (kk := .i64) (K := (k : Int)) (.tmp 20) (.tmp 21) k Ty.sl_L_api_Digest rfl le_ le_ (rfl) (by omega)) ?_
   refine mP rfl ?_
   refine mgTake (i := 7) (v := .agg (bcs (dgAt e_ k)).toArray) rfl kr_ (wn rfl) (fun _ _ _ h => h) hm17 (fun w_ h_ => gLoadAgRd (vs := bcs (dgAt e_ k)) (m := k * 16) ((Rd.below hB h_.bel).more h_.bel.size) rfl (fun i_ u_ hu_ => dg_get hu_) (by rw [bcs_length]; exact dgAt_len hlb_ (by omega)) (by omega) (.tmp 22) Ty.ag_voxel_api_Digest rfl le_) ?_
   refine mP rfl ?_
   by_cases h19 : dgAt l k = dgAt e_ k
   ·refine mgTake (i := 8) (v := .bool false) rfl kr_ (wn rfl) (fun _ _ _ h => h) hm17 (fun w_ h_ => boolTo (by rw [decide_eq_true h19]; rfl) (neqDgRun (.tmp 19) (.tmp 23) (dgAt l k) (dgAt e_ k) (dgAt_len hla_ (by omega)) (dgAt_len hlb_ (by omega)) kr_ (e := 5) kr_ kr_ kr_ rfl le_ le_)) ?_
    refine mP rfl ?_
    refine mgDone kr_ ?_
    refine tn_ hK16 ?_
    refine wp_cond_false le_ ?_
    refine wp_skip ?_
    refine inBlock_normal ?_
    refine tn_ hK14 ?_
    refine plStart ?_
    refine litVal (v := .int .i64 ((k : Int) + 1)) rfl (wn rfl) (addRun (A := (k : Int)) (B := 1) (C := (k : Int) + 1) (.tmp 13) (.const (.int .i64 1)) rfl le_ le_ rfl (by omega)) rfl (by decide) ?_
    refine lk_ (.int .i64 ((k : Int) + 1)) ?_
    refine plD ?_
    refine then_normal ?_
    exact ⟨_, by omega, (k + 1), rfl, (by omega), (by rw [dg_take, dg_take, hq, h19]), ⟨litSize, rfl, ⟨lg_, ⟨lg_, ⟨lg_, ⟨lg_, trivial⟩⟩⟩⟩⟩, (hm17.sub .slnil)⟩
   refine mgTake (i := 8) (v := .bool true) rfl kr_ (wn rfl) (fun _ _ _ h => h) hm17 (fun w_ h_ => boolTo (by rw [decide_eq_false h19]; rfl) (neqDgRun (.tmp 19) (.tmp 23) (dgAt l k) (dgAt e_ k) (dgAt_len hla_ (by omega)) (dgAt_len hlb_ (by omega)) kr_ (e := 5) kr_ kr_ kr_ rfl le_ le_)) ?_
   refine mP rfl ?_
   refine mgDone kr_ ?_
   refine tn_ hK16 ?_
   refine wp_cond_true le_ ?_
   refine wp_seq_k fun K20 hK20 => ?_
   refine plStart ?_
   refine lk_ (.bool false) ?_
   refine plD ?_
   refine tn_ hK20 ?_
   refine wp_ret ?_
   refine inBlock_ret ?_
   refine then_ret ?_
   refine then_ret ?_
   refine inBlock_ret ?_
   refine then_ret ?_
   refine bodyPost_ret (v := .bool false) (gRes1 rfl (gResTmp (t := 4) (v := .bool false) (lg_))) rfl ?_
   exact ⟨congrArg (fun b_ => Ending.returned (.bool b_)) (decide_eq_false (fun q_ => h19 (by rw [q_.2]))).symm, hm17.bel⟩
  refine litVal (v := .bool false) rfl (wn rfl) (boolTo (decide_eq_false h12) (lssRun (A := (k : Int)) (B := (n : Int)) (.tmp 13) (.tmp 12) rfl le_ le_)) rfl (by decide) ?_
  refine plD ?_
  refine tn_ hK11 ?_
  refine wp_seq_k fun K21 hK21 => ?_
  refine wp_cond_false le_ ?_
  refine wp_exit ?_
  refine then_exit ?_
  refine then_exit ?_
  refine inBlock_exit ?_
  refine tn_ hK5 ?_
  refine wp_seq_k fun K22 hK22 => ?_
  refine plStart ?_
  refine lk_ (.bool true) ?_
  refine plD ?_
  refine tn_ hK22 ?_
  refine wp_ret ?_
  refine bodyPost_ret (v := .bool true) (gRes1 rfl (gResTmp (t := 4) (v := .bool true) (lg_))) rfl ?_
  exact ⟨congrArg (fun b_ => Ending.returned (.bool b_)) (decide_eq_true ⟨by omega, by rw [List.take_of_length_le (by omega), List.take_of_length_le (by omega)] at hq; exact hq⟩).symm, hm8.bel⟩
 refine litVal (v := .bool true) rfl (wn rfl) (boolTo (by rw [decide_eq_false h4]; rfl) (neqRun (A := (n : Int)) (B := (m : Int)) (.tmp 7) (.tmp 9) rfl le_ le_)) rfl (by decide) ?_
 refine plD ?_
 refine tn_ hK3 ?_
 refine wp_cond_true le_ ?_
 refine wp_seq_k fun K23 hK23 => ?_
 refine plStart ?_
 refine lk_ (.bool false) ?_
 refine plD ?_
 refine tn_ hK23 ?_
 refine wp_ret ?_
 refine then_ret ?_
 refine bodyPost_ret (v := .bool false) (gRes1 rfl (gResTmp (t := 4) (v := .bool false) (lg_))) rfl ?_
 exact ⟨congrArg (fun b_ => Ending.returned (.bool b_)) (decide_eq_false (fun q_ => h4 (by rw [q_.1]))).symm, hm0.bel⟩
theorem reqI_any (l e_ : List Int) (A B : Option Addr) (c d : Nat) (w : World) (hA : Rd w w.heap.size 1 A l.length c (ics l)) (hB : Rd w w.heap.size 1 B e_.length d (ics e_)) (hl : l.length ≤ 1099511627776) : Calls Tryz.prog 39 #[.slice A l.length c, .slice B e_.length d] w (RetV w (.bool (decide (l = e_)))) := by
 have hm0 := Mem.nil w
 go_enter Tryz.func39, Tryz.ntmps39
 refine litStart 26 [(0, .slice A l.length c), (1, .slice B e_.length d)] kr_ (fun X0 => ?_)
 refine wp_seq_k fun K1 hK1 => ?_
 refine plStart ?_
 refine lk_ (.bool false) ?_
 refine plD ?_
 refine tn_ hK1 ?_
 refine wp_seq_k fun K2 hK2 => ?_
 refine wp_seq_k fun K3 hK3 => ?_
 refine plStart ?_
 refine lk_ (.slice A l.length c) ?_
 refine litVal (v := .int .i64 (l.length : Int)) rfl (wn rfl) (lenSlRun (A := A) (n := l.length) (c := c) (.tmp 6) Ty.und_L_int rfl le_) rfl (by decide) ?_
 refine lk_ (.slice B e_.length d) ?_
 refine litVal (v := .int .i64 (e_.length : Int)) rfl (wn rfl) (lenSlRun (A := B) (n := e_.length) (c := d) (.tmp 8) Ty.und_L_int rfl le_) rfl (by decide) ?_
 by_cases h4 : (l.length : Int) = (e_.length : Int)
 ·refine litVal (v := .bool false) rfl (wn rfl) (boolTo (by rw [decide_eq_true h4]; rfl) (neqRun (A := (l.length : Int)) (B := (e_.length : Int)) (.tmp 7) (.tmp 9) rfl le_ le_)) rfl (by decide) ?_
  refine plD ?_
  refine tn_ hK3 ?_
  refine wp_cond_false le_ ?_
  refine wp_skip ?_
  refine tn_ hK2 ?_
  refine wp_seq_k fun K5 hK5 => ?_
  refine wp_seq_k fun K6 hK6 => ?_
  refine plStart ?_
  refine lk_ (.int .i64 0) ?_
  refine plD ?_
  refine tn_ hK6 ?_
  refine wp_block ?_
  refine gwLoop (fun n_ a_ w_ => ∃ (k : Nat), n_ = l.length - k ∧ (k ≤ l.length) ∧ (l.take k = e_.take k) ∧ Fr a_ 26 [(0, .slice A l.length c), (1, .slice B e_.length d), (5, .int .i64 (k : Int))] ∧ Mem w w_ []) (l.length - 0) ⟨0, rfl, (Nat.zero_le _), (by simp), ⟨litSize, rfl, ⟨lg_, ⟨lg_, ⟨lg_, trivial⟩⟩⟩⟩, (hm0.sub .slnil)⟩ ?_
  clear hm0
  intro n_ a9 w7 hI_
  obtain ⟨k, rfl, hk, hq, hF_, hm8⟩ := hI_
  obtain ⟨X10, rfl⟩ := frLit hF_
  clear hF_
  refine wp_seq_k fun K11 hK11 => ?_
  refine wp_seq_k fun K12 hK12 => ?_
  refine plStart ?_
  refine lk_ (.int .i64 (k : Int)) ?_
  refine lk_ (.slice A l.length c) ?_
  refine litVal (v := .int .i64 (l.length : Int)) rfl (wn rfl) (lenSlRun (A := A) (n := l.length) (c := c) (.tmp 12) Ty.und_L_int rfl le_) rfl (by decide) ?_
  by_cases h13 : (k : Int) < (l.length : Int)
  ·obtain ⟨x, hx⟩ : ∃ x, l[k]? = some x := ⟨_, List.getElem?_eq_getElem (by omega)⟩
   obtain ⟨y, hy⟩ : ∃ y, e_[k]? = some y := ⟨_, List.getElem?_eq_getElem (by omega)⟩
   obtain ⟨b1_, o1_, rfl, _, _⟩ := hA.cells (by omega)
   obtain ⟨b2_, o2_, rfl, _, _⟩ := hB.cells (by omega)
   refine litVal (v := .bool true) rfl (wn rfl) (boolTo (decide_eq_true h13) (lssRun (A := (k : Int)) (B := (l.length : Int)) (.tmp 11) (.tmp 13) rfl le_ le_)) rfl (by decide) ?_
   refine plD ?_
   refine tn_ hK12 ?_
   refine wp_cond_true le_ ?_
   refine wp_skip ?_
   refine tn_ hK11 ?_
   refine wp_seq_k fun K14 hK14 => ?_
   refine wp_block ?_
   refine wp_seq_k fun K15 hK15 => ?_
   refine mgStart hm8 kr_ ?_
   intro w17 hm16
   clear hm8
   refine mk_ (i := 0) (v := .slice (some ⟨b1_, o1_, none⟩) l.length c) rfl rfl (fun _ _ _ h => h) hm16 rfl ?_
   refine mk_ (i := 1) (v := .int .i64 (k : Int)) rfl rfl (fun _ _ _ h => h) hm16 rfl ?_
   refine mgTake (i := 2) (v := .pointer (some ⟨b1_, o1_ + k * 1, none⟩)) rfl kr_ (wn rfl) (fun _ _ _ h => h) hm16 (fun w_ h_ => gIaSl (b := b1_) (off := o1_) (n := l.length) (c := c) (kk := .i64) (K := (k : Int)) (.tmp 17) (.tmp 18) k Ty.sl_L_int rfl le_ le_ (rfl) (by omega)) ?_
   refine mP rfl ?_
   refine mgTake (i := 3) (v := .int .i64 x) rfl kr_ (wn rfl) (fun _ _ _ h => h) hm16 (fun w_ h_ => gLoadRd (v := .int .i64 x) (m := k * 1) ((Rd.below hA h_.bel).more h_.bel.size) rfl (ics_at hx) (by omega) (.tmp 19) kr_ rfl le_) ?_
   refine mP rfl ?_
   refine mk_ (i := 4) (v := .slice (some ⟨b2_, o2_, none⟩) e_.length d) rfl rfl (fun _ _ _ h => h) hm16 rfl ?_
   refine mk_ (i := 5) (v := .int .i64 (k : Int)) rfl rfl (fun _ _ _ h => h) hm16 rfl ?_
   refine mgTake (i := 6) (v := .pointer (some ⟨b2_, o2_ + k * 1, none⟩)) rfl kr_ (wn rfl) (fun _ _ _ h => h) hm16 (fun w_ h_ => gIaSl (b := b2_) (off := o2_) (n := e_.length) (c := d) (kk := .i64) (K := (k : Int)) (.tmp 21) (.tmp 22) k Ty.sl_L_int rfl le_ le_ (rfl) (by omega)) ?_
   refine mP rfl ?_
   refine mgTake (i := 7) (v := .int .i64 y) rfl kr_ (wn rfl) (fun _ _ _ h => h) hm16 (fun w_ h_ => gLoadRd (v := .int .i64 y) (m := k * 1) ((Rd.below hB h_.bel).more h_.bel.size) rfl (ics_at hy) (by omega) (.tmp 23) kr_ rfl le_) ?_
   refine mP rfl ?_
   by_cases h18 : x = y
   ·refine mgTake (i := 8) (v := .bool false) rfl kr_ (wn rfl) (fun _ _ _ h => h) hm16 (fun w_ h_ => boolTo (by rw [decide_eq_true h18]; rfl) (neqRun (A := x) (B := y) (.tmp 20) (.tmp 24) rfl le_ le_)) ?_
    refine mP rfl ?_
    refine mgDone kr_ ?_
    refine tn_ hK15 ?_
    refine wp_cond_false le_ ?_
    refine wp_skip ?_
    refine inBlock_normal ?_
    refine tn_ hK14 ?_
    refine plStart ?_
    refine lk_ (.int .i64 (k : Int)) ?_
    refine litVal (v := .int .i64 ((k : Int) + 1)) rfl (wn rfl) (addRun (A := (k : Int)) (B := 1) (C := (k : Int) + 1) (.tmp 15) (.const (.int .i64 1)) rfl le_ le_ rfl (by omega)) rfl (by decide) ?_
    refine lk_ (.int .i64 ((k : Int) + 1)) ?_
    refine plD ?_
    refine then_normal ?_
    exact ⟨_, by omega, (k + 1), rfl, (by omega), (by rw [List.take_add_one, List.take_add_one, hq, hx, hy, h18]), ⟨litSize, rfl, ⟨lg_, ⟨lg_, ⟨lg_, trivial⟩⟩⟩⟩, (hm16.sub .slnil)⟩
   refine mgTake (i := 8) (v := .bool true) rfl kr_ (wn rfl) (fun _ _ _ h => h) hm16 (fun w_ h_ => boolTo (by rw [decide_eq_false h18]; rfl) (neqRun (A := x) (B := y) (.tmp 20) (.tmp 24) rfl le_ le_)) ?_
   refine mP rfl ?_
   refine mgDone kr_ ?_
   refine tn_ hK15 ?_
   refine wp_cond_true le_ ?_
   refine wp_seq_k fun K19 hK19 => ?_
   refine plStart ?_
   refine lk_ (.bool false) ?_
   refine plD ?_
   refine tn_ hK19 ?_
   refine wp_ret ?_
   refine inBlock_ret ?_
   refine then_ret ?_
   refine then_ret ?_
   refine inBlock_ret ?_
   refine then_ret ?_
   refine bodyPost_ret (v := .bool false) (gRes1 rfl (gResTmp (t := 4) (v := .bool false) (lg_))) rfl ?_
   exact ⟨congrArg (fun b_ => Ending.returned (.bool b_)) (decide_eq_false (fun q_ => h18 (by rw [q_] at hx; exact Option.some.inj (hx.symm.trans hy)))).symm, hm16.bel⟩
  refine litVal (v := .bool false) rfl (wn rfl) (boolTo (decide_eq_false h13) (lssRun (A := (k : Int)) (B := (l.length : Int)) (.tmp 11) (.tmp 13) rfl le_ le_)) rfl (by decide) ?_
  refine plD ?_
  refine tn_ hK12 ?_
  refine wp_cond_false le_ ?_
  refine wp_exit ?_
  refine then_exit ?_
  refine then_exit ?_
  refine inBlock_exit ?_
  refine tn_ hK5 ?_
  refine wp_seq_k fun K20 hK20 => ?_
  refine plStart ?_
  refine lk_ (.bool true) ?_
  refine plD ?_
  refine tn_ hK20 ?_
  refine wp_ret ?_
  refine bodyPost_ret (v := .bool true) (gRes1 rfl (gResTmp (t := 4) (v := .bool true) (lg_))) rfl ?_
  exact ⟨congrArg (fun b_ => Ending.returned (.bool b_)) (decide_eq_true (by rw [List.take_of_length_le (by omega), List.take_of_length_le (by omega)] at hq; exact hq)).symm, hm8.bel⟩
 refine litVal (v := .bool true) rfl (wn rfl) (boolTo (by rw [decide_eq_false h4]; rfl) (neqRun (A := (l.length : Int)) (B := (e_.length : Int)) (.tmp 7) (.tmp 9) rfl le_ le_)) rfl (by decide) ?_
 refine plD ?_
 refine tn_ hK3 ?_
 refine wp_cond_true le_ ?_
 refine wp_seq_k fun K21 hK21 => ?_
 refine plStart ?_
 refine lk_ (.bool false) ?_
 refine plD ?_
 refine tn_ hK21 ?_
 refine wp_ret ?_
 refine then_ret ?_
 refine bodyPost_ret (v := .bool false) (gRes1 rfl (gResTmp (t := 4) (v := .bool false) (lg_))) rfl ?_
 exact ⟨congrArg (fun b_ => Ending.returned (.bool b_)) (decide_eq_false (fun q_ => h4 (by rw [q_]))).symm, hm0.bel⟩
theorem reqD_any (l e_ : List UInt8) (n m : Nat) (A B : Option Addr) (c d : Nat) (w : World) (hA : Rd w w.heap.size 16 A n c (bcs l)) (hB : Rd w w.heap.size 16 B m d (bcs e_)) (hl : n ≤ 1099511627776) : Calls Tryz.prog 40 #[.slice A n c, .slice B m d] w (RetV w (.bool (decide (n = m ∧ l = e_)))) := by
 have hla_ := hA.len
 have hlb_ := hB.len
 rw [bcs_length] at hla_ hlb_
 have hm0 := Mem.nil w
 go_enter Tryz.func40, Tryz.ntmps40
 refine litStart 26 [(0, .slice A n c), (1, .slice B m d)] kr_ (fun X0 => ?_)
 refine wp_seq_k fun K1 hK1 => ?_
 refine plStart ?_
 refine lk_ (.bool false) ?_
 refine plD ?_
 refine tn_ hK1 ?_
 refine wp_seq_k fun K2 hK2 => ?_
 refine wp_seq_k fun K3 hK3 => ?_
 refine plStart ?_
 refine lk_ (.slice A n c) ?_
 refine litVal (v := .int .i64 (n : Int)) rfl (wn rfl) (lenSlRun (A := A) (n := n) (c := c) (.tmp 6) Ty.und_L_api_Digest rfl le_) rfl (by decide) ?_
 refine lk_ (.slice B m d) ?_
 refine litVal (v := .int .i64 (m : Int)) rfl (wn rfl) (lenSlRun (A := B) (n := m) (c := d) (.tmp 8) Ty.und_L_api_Digest rfl le_) rfl (by decide) ?_
 by_cases h4 : (n : Int) = (m : Int)
 ·refine litVal (v := .bool false) rfl (wn rfl) (boolTo (by rw [decide_eq_true h4]; rfl) (neqRun (A := (n : Int)) (B := (m : Int)) (.tmp 7) (.tmp 9) rfl le_ le_)) rfl (by decide) ?_
  refine plD ?_
  refine tn_ hK3 ?_
  refine wp_cond_false le_ ?_
  refine wp_skip ?_
  refine tn_ hK2 ?_
  refine wp_seq_k fun K5 hK5 => ?_
  refine wp_seq_k fun K6 hK6 => ?_
  refine plStart ?_
  refine lk_ (.int .i64 0) ?_
  refine plD ?_
  refine tn_ hK6 ?_
  refine wp_block ?_
  refine gwLoop (fun n_ a_ w_ => ∃ (k : Nat), n_ = n - k ∧ (k ≤ n) ∧ (l.take (k * 16) = e_.take (k * 16)) ∧ Fr a_ 26 [(0, .slice A n c), (1, .slice B m d), (5, .int .i64 (k : Int))] ∧ Mem w w_ []) (n - 0) ⟨0, rfl, (Nat.zero_le _), (by simp), ⟨litSize, rfl, ⟨lg_, ⟨lg_, ⟨lg_, trivial⟩⟩⟩⟩, (hm0.sub .slnil)⟩ ?_
  clear hm0
  intro n_ a9 w7 hI_
  obtain ⟨k, rfl, hk, hq, hF_, hm8⟩ := hI_
  obtain ⟨X10, rfl⟩ := frLit hF_
  clear hF_
  refine wp_seq_k fun K11 hK11 => ?_
  refine wp_seq_k fun K12 hK12 => ?_
  refine plStart ?_
  refine lk_ (.int .i64 (k : Int)) ?_
  refine lk_ (.slice A n c) ?_
  refine litVal (v := .int .i64 (n : Int)) rfl (wn rfl) (lenSlRun (A := A) (n := n) (c := c) (.tmp 12) Ty.und_L_api_Digest rfl le_) rfl (by decide) ?_
  by_cases h13 : (k : Int) < (n : Int)
  ·obtain ⟨b1_, o1_, rfl, _, _⟩ := hA.cells (by omega)
   obtain ⟨b2_, o2_, rfl, _, _⟩ := hB.cells (by omega)
   refine litVal (v := .bool true) rfl (wn rfl) (boolTo (decide_eq_true h13) (lssRun (A := (k : Int)) (B := (n : Int)) (.tmp 11) (.tmp 13) rfl le_ le_)) rfl (by decide) ?_
   refine plD ?_
   refine tn_ hK12 ?_
   refine wp_cond_true le_ ?_
   refine wp_skip ?_
   refine tn_ hK11 ?_
   refine wp_seq_k fun K14 hK14 => ?_
   refine wp_block ?_
   refine wp_seq_k fun K15 hK15 => ?_
   refine mgStart hm8 kr_ ?_
   intro w17 hm16
   clear hm8
   refine mk_ (i := 0) (v := .slice (some ⟨b1_, o1_, none⟩) n c) rfl rfl (fun _ _ _ h => h) hm16 rfl ?_
   refine mk_ (i := 1) (v := .int .i64 (k : Int)) rfl rfl (fun _ _ _ h => h) hm16 rfl ?_
   refine mgTake (i := 2) (v := .pointer (some ⟨b1_, o1_ + k * 16, none⟩)) rfl kr_ (wn rfl) (fun _ _ _ h => h) hm16 (fun w_ h_ => gIaSl (b := b1_) (off := o1_) (n := n) (c := c) (kk := .i64) (K := (k : Int)) (.tmp 17) (.tmp 18) k Ty.sl_L_api_Digest rfl le_ le_ (rfl) (by omega)) ?_
   refine mP rfl ?_
   refine mgTake (i := 3) (v := .agg (bcs (dgAt l k)).toArray) rfl kr_ (wn rfl) (fun _ _ _ h => h) hm16 (fun w_ h_ => gLoadAgRd (vs := bcs (dgAt l k)) (m := k * 16) ((Rd.below hA h_.bel).more h_.bel.size) rfl (fun i_ u_ hu_ => dg_get hu_) (by rw [bcs_length]; exact dgAt_len hla_ (by omega)) (by omega) (.tmp 19) Ty.ag_voxel_api_Digest rfl le_) ?_
   refine mP rfl ?_
   refine mk_ (i := 4) (v := .slice (some ⟨b2_, o2_, none⟩) m d) rfl rfl (fun _ _ _ h => h) hm16 rfl ?_
   refine mk_ (i := 5) (v := .int .i64 (k : Int)) rfl rfl (fun _ _ _ h => h) hm16 rfl ?_
   refine mgTake (i := 6) (v := .pointer (some ⟨b2_, o2_ + k * 16, none⟩)) rfl kr_ (wn rfl) (fun _ _ _ h => h) hm16 (fun w_ h_ => gIaSl (b := b2_) (off := o2_) (n := m) (c := d) (kk := .i64) (K := (k : Int)) (.tmp 21) (.tmp 22) k Ty.sl_L_api_Digest rfl le_ le_ (rfl) (by omega)) ?_
   refine mP rfl ?_
   refine mgTake (i := 7) (v := .agg (bcs (dgAt e_ k)).toArray) rfl kr_ (wn rfl) (fun _ _ _ h => h) hm16 (fun w_ h_ => gLoadAgRd (vs := bcs (dgAt e_ k)) (m := k * 16) ((Rd.below hB h_.bel).more h_.bel.size) rfl (fun i_ u_ hu_ => dg_get hu_) (by rw [bcs_length]; exact dgAt_len hlb_ (by omega)) (by omega) (.tmp 23) Ty.ag_voxel_api_Digest rfl le_) ?_
   refine mP rfl ?_
   by_cases h18 : dgAt l k = dgAt e_ k
   ·refine mgTake (i := 8) (v := .bool false) rfl kr_ (wn rfl) (fun _ _ _ h => h) hm16 (fun w_ h_ => boolTo (by rw [decide_eq_true h18]; rfl) (neqDgRun (.tmp 20) (.tmp 24) (dgAt l k) (dgAt e_ k) (dgAt_len hla_ (by omega)) (dgAt_len hlb_ (by omega)) kr_ (e := 5) kr_ kr_ kr_ rfl le_ le_)) ?_
    refine mP rfl ?_
    refine mgDone kr_ ?_
    refine tn_ hK15 ?_
    refine wp_cond_false le_ ?_
    refine wp_skip ?_
    refine inBlock_normal ?_
    refine tn_ hK14 ?_
    refine plStart ?_
    refine lk_ (.int .i64 (k : Int)) ?_
    refine litVal (v := .int .i64 ((k : Int) + 1)) rfl (wn rfl) (addRun (A := (k : Int)) (B := 1) (C := (k : Int) + 1) (.tmp 15) (.const (.int .i64 1)) rfl le_ le_ rfl (by omega)) rfl (by decide) ?_
    refine lk_ (.int .i64 ((k : Int) + 1)) ?_
    refine plD ?_
    refine then_normal ?_
    exact ⟨_, by omega, (k + 1), rfl, (by omega), (by rw [dg_take, dg_take, hq, h18]), ⟨litSize, rfl, ⟨lg_, ⟨lg_, ⟨lg_, trivial⟩⟩⟩⟩, (hm16.sub .slnil)⟩
   refine mgTake (i := 8) (v := .bool true) rfl kr_ (wn rfl) (fun _ _ _ h => h) hm16 (fun w_ h_ => boolTo (by rw [decide_eq_false h18]; rfl) (neqDgRun (.tmp 20) (.tmp 24) (dgAt l k) (dgAt e_ k) (dgAt_len hla_ (by omega)) (dgAt_len hlb_ (by omega)) kr_ (e := 5) kr_ kr_ kr_ rfl le_ le_)) ?_
   refine mP rfl ?_
   refine mgDone kr_ ?_
   refine tn_ hK15 ?_
   refine wp_cond_true le_ ?_
   refine wp_seq_k fun K19 hK19 => ?_
   refine plStart ?_
   refine lk_ (.bool false) ?_
   refine plD ?_
   refine tn_ hK19 ?_
   refine wp_ret ?_
   refine inBlock_ret ?_
   refine then_ret ?_
   refine then_ret ?_
   refine inBlock_ret ?_
   refine then_ret ?_
   refine bodyPost_ret (v := .bool false) (gRes1 rfl (gResTmp (t := 4) (v := .bool false) (lg_))) rfl ?_
   exact ⟨congrArg (fun b_ => Ending.returned (.bool b_)) (decide_eq_false (fun q_ => h18 (by rw [q_.2]))).symm, hm16.bel⟩
  refine litVal (v := .bool false) rfl (wn rfl) (boolTo (decide_eq_false h13) (lssRun (A := (k : Int)) (B := (n : Int)) (.tmp 11) (.tmp 13) rfl le_ le_)) rfl (by decide) ?_
  refine plD ?_
  refine tn_ hK12 ?_
  refine wp_cond_false le_ ?_
  refine wp_exit ?_
  refine then_exit ?_
  refine then_exit ?_
  refine inBlock_exit ?_
  refine tn_ hK5 ?_
  refine wp_seq_k fun K20 hK20 => ?_
  refine plStart ?_
  refine lk_ (.bool true) ?_
  refine plD ?_
  refine tn_ hK20 ?_
  refine wp_ret ?_
  refine bodyPost_ret (v := .bool true) (gRes1 rfl (gResTmp (t := 4) (v := .bool true) (lg_))) rfl ?_
  exact ⟨congrArg (fun b_ => Ending.returned (.bool b_)) (decide_eq_true ⟨by omega, by rw [List.take_of_length_le (by omega), List.take_of_length_le (by omega)] at hq; exact hq⟩).symm, hm8.bel⟩
 refine litVal (v := .bool true) rfl (wn rfl) (boolTo (by rw [decide_eq_false h4]; rfl) (neqRun (A := (n : Int)) (B := (m : Int)) (.tmp 7) (.tmp 9) rfl le_ le_)) rfl (by decide) ?_
 refine plD ?_
 refine tn_ hK3 ?_
 refine wp_cond_true le_ ?_
 refine wp_seq_k fun K21 hK21 => ?_
 refine plStart ?_
 refine lk_ (.bool false) ?_
 refine plD ?_
 refine tn_ hK21 ?_
 refine wp_ret ?_
 refine then_ret ?_
 refine bodyPost_ret (v := .bool false) (gRes1 rfl (gResTmp (t := 4) (v := .bool false) (lg_))) rfl ?_
 exact ⟨congrArg (fun b_ => Ending.returned (.bool b_)) (decide_eq_false (fun q_ => h4 (by rw [q_.1]))).symm, hm0.bel⟩
theorem hd_eq {a b : Hd} (h1 : a.tick = b.tick) (h2 : a.counts = b.counts) (h3 : a.depth = b.depth) (h4 : a.rn = b.rn ∧ a.D = b.D) : a = b := by
 cases a; cases b; simp_all
theorem same_any (h : Hd) (A : Option Addr) (c : Nat) (B : Option Addr) (d : Nat) (g : Hd) (A2 : Option Addr) (c2 : Nat) (B2 : Option Addr) (d2 : Nat) (w : World) (hA : Rd w w.heap.size 1 A h.counts.length c (ics h.counts)) (hB : Rd w w.heap.size 16 B h.rn d (bcs h.D)) (hA2 : Rd w w.heap.size 1 A2 g.counts.length c2 (ics g.counts)) (hB2 : Rd w w.heap.size 16 B2 g.rn d2 (bcs g.D)) (hl : h.counts.length ≤ 1099511627776) (hl2 : h.rn ≤ 1099511627776) : Calls Tryz.prog 15 #[.agg (hcs h A c B d).toArray, .agg (hcs g A2 c2 B2 d2).toArray] w (RetV w (.bool (decide (h = g)))) := by
 have hm0 := Mem.nil w
 go_enter Tryz.func15, Tryz.ntmps15
 refine litStart 31 [(0, .agg (hcs h A c B d).toArray), (1, .agg (hcs g A2 c2 B2 d2).toArray)] kr_ (fun X0 => ?_)
 refine wp_seq_k fun K1 hK1 => ?_
 refine plStart ?_
 refine plBox hm0 (cs := hcs h A c B d) (i := 0) rfl (wn rfl) rfl le_ ?_
 intro g2 w4 hm3
 clear hm0
 try simp only [lc1_, lc2_, lc3_, lc4_] at hm3
 refine qP rfl ?_
 refine plBox hm3 (cs := hcs g A2 c2 B2 d2) (i := 1) rfl (wn rfl) rfl le_ ?_
 intro g5 w7 hm6
 clear hm3
 try simp only [lc1_, lc2_, lc3_, lc4_] at hm6
 refine qP rfl ?_
 refine lk_ (.bool false) ?_
 refine plD ?_
 refine tn_ hK1 ?_
 refine wp_seq_k fun K8 hK8 => ?_
 refine plStart ?_
 refine lk_ (.pointer (some ⟨g2, 0, none⟩)) ?_
 refine litVal (v := .int .i64 h.tick) rfl (wn rfl) (gLoad (v := .int .i64 h.tick) (k := 0) 0 hm6 rfl kr_ (.tmp 5) kr_ rfl le_) rfl (by decide) ?_
 refine lk_ (.pointer (some ⟨g5, 0, none⟩)) ?_
 refine litVal (v := .int .i64 g.tick) rfl (wn rfl) (gLoad (v := .int .i64 g.tick) (k := 0) 1 hm6 rfl kr_ (.tmp 7) kr_ rfl le_) rfl (by decide) ?_
 by_cases h9 : h.tick = g.tick
 ·refine litVal (v := .bool true) rfl (wn rfl) (boolTo (decide_eq_true h9) (eqlRun (A := h.tick) (B := g.tick) (.tmp 6) (.tmp 8) rfl le_ le_)) rfl (by decide) ?_
  refine lk_ (.bool true) ?_
  refine litVal (v := .pointer (some ⟨g2, 2, none⟩)) rfl (wgY rfl rfl rfl (by decide) kr_) (litRun kr_) rfl (by decide) ?_
  refine litVal (v := .int .i64 h.depth) rfl (wgY rfl rfl rfl (by decide) kr_) (gLoad (v := .int .i64 h.depth) (k := 2) 0 hm6 rfl kr_ (.tmp 11) kr_ rfl le_) rfl (by decide) ?_
  refine litVal (v := .pointer (some ⟨g5, 2, none⟩)) rfl (wgY rfl rfl rfl (by decide) kr_) (litRun kr_) rfl (by decide) ?_
  refine litVal (v := .int .i64 g.depth) rfl (wgY rfl rfl rfl (by decide) kr_) (gLoad (v := .int .i64 g.depth) (k := 2) 1 hm6 rfl kr_ (.tmp 13) kr_ rfl le_) rfl (by decide) ?_
  by_cases h10 : h.depth = g.depth
  ·refine litVal (v := .bool true) rfl (wgY rfl rfl rfl (by decide) kr_) (boolTo (decide_eq_true h10) (eqlRun (A := h.depth) (B := g.depth) (.tmp 12) (.tmp 14) rfl le_ le_)) rfl (by decide) ?_
   refine lk_ (.bool true) ?_
   refine lk_ (.bool true) ?_
   refine litVal (v := .pointer (some ⟨g2, 1, none⟩)) rfl (wgY rfl rfl rfl (by decide) kr_) (litRun kr_) rfl (by decide) ?_
   refine litVal (v := .slice A h.counts.length c) rfl (wgY rfl rfl rfl (by decide) kr_) (gLoad (v := .slice A h.counts.length c) (k := 1) 0 hm6 rfl kr_ (.tmp 18) kr_ rfl le_) rfl (by decide) ?_
   refine litVal (v := .pointer (some ⟨g5, 1, none⟩)) rfl (wgY rfl rfl rfl (by decide) kr_) (litRun kr_) rfl (by decide) ?_
   refine litVal (v := .slice A2 g.counts.length c2) rfl (wgY rfl rfl rfl (by decide) kr_) (gLoad (v := .slice A2 g.counts.length c2) (k := 1) 1 hm6 rfl kr_ (.tmp 20) kr_ rfl le_) rfl (by decide) ?_
   refine plCall (i := 17) 51 [.slice A h.counts.length c, .slice A2 g.counts.length c2] [] [] rfl kr_ (wgY rfl rfl rfl (by decide) kr_) rfl le_ (litArgs kr_) (eqI_any h.counts g.counts A A2 c c2 _ ((Rd.below hA hm6.bel).more hm6.bel.size) ((Rd.below hA2 hm6.bel).more hm6.bel.size) hl) ?_
   rintro e w11 ⟨rfl, hbz⟩
   have hm12 := hm6.below hbz
   clear hbz hm6
   refine ⟨_, rfl, ?_⟩
   refine qP rfl ?_
   rcases bool_or (decide (h.counts = g.counts)) with h13 | h13
   ·rw [h13]
    refine lk_ (.bool false) ?_
    refine lk_ (.bool false) ?_
    refine ps_ (i := 20) ?_
    refine ps_ (i := 21) ?_
    refine ps_ (i := 22) ?_
    refine ps_ (i := 23) ?_
    refine ps_ (i := 24) ?_
    refine lk_ (.bool false) ?_
    refine lk_ (.bool false) ?_
    refine plD ?_
    refine tn_ hK8 ?_
    refine wpPrune [(4, .bool false)] ⟨lg_, trivial⟩ (fun X14 => ?_)
    refine wp_ret ?_
    refine bodyPost_ret (v := .bool false) (gRes1 rfl (gResTmp (t := 4) (v := .bool false) (lg_))) rfl ?_
    exact ⟨congrArg (fun b_ => Ending.returned (.bool b_)) (decide_eq_false (fun q_ => (of_decide_eq_false h13) (by subst q_; first | rfl | exact ⟨rfl, rfl⟩))).symm, hm12.bel⟩
   rw [h13]
   refine lk_ (.bool true) ?_
   refine lk_ (.bool true) ?_
   refine litVal (v := .pointer (some ⟨g2, 3, none⟩)) rfl (wgY rfl rfl rfl (by decide) kr_) (litRun kr_) rfl (by decide) ?_
   refine litVal (v := .slice B h.rn d) rfl (wgY rfl rfl rfl (by decide) kr_) (gLoad (v := .slice B h.rn d) (k := 3) 0 hm12 rfl kr_ (.tmp 25) kr_ rfl le_) rfl (by decide) ?_
   refine litVal (v := .pointer (some ⟨g5, 3, none⟩)) rfl (wgY rfl rfl rfl (by decide) kr_) (litRun kr_) rfl (by decide) ?_
   refine litVal (v := .slice B2 g.rn d2) rfl (wgY rfl rfl rfl (by decide) kr_) (gLoad (v := .slice B2 g.rn d2) (k := 3) 1 hm12 rfl kr_ (.tmp 27) kr_ rfl le_) rfl (by decide) ?_
   refine plCall (i := 24) 52 [.slice B h.rn d, .slice B2 g.rn d2] [] [] rfl kr_ (wgY rfl rfl rfl (by decide) kr_) rfl le_ (litArgs kr_) (eqD_any h.D g.D h.rn g.rn B B2 d d2 _ ((Rd.below hB hm12.bel).more hm12.bel.size) ((Rd.below hB2 hm12.bel).more hm12.bel.size) hl2) ?_
   rintro e w15 ⟨rfl, hbz⟩
   have hm16 := hm12.below hbz
   clear hbz hm12
   refine ⟨_, rfl, ?_⟩
   refine qP rfl ?_
   rcases bool_or (decide (h.rn = g.rn ∧ h.D = g.D)) with h17 | h17
   ·rw [h17]
    refine lk_ (.bool false) ?_
    refine lk_ (.bool false) ?_
    refine plD ?_
    refine tn_ hK8 ?_
    refine wpPrune [(4, .bool false)] ⟨lg_, trivial⟩ (fun X18 => ?_)
    refine wp_ret ?_
    refine bodyPost_ret (v := .bool false) (gRes1 rfl (gResTmp (t := 4) (v := .bool false) (lg_))) rfl ?_
    exact ⟨congrArg (fun b_ => Ending.returned (.bool b_)) (decide_eq_false (fun q_ => (of_decide_eq_false h17) (by subst q_; first | rfl | exact ⟨rfl, rfl⟩))).symm, hm16.bel⟩
   rw [h17]
   refine lk_ (.bool true) ?_
   refine lk_ (.bool true) ?_
   refine plD ?_
   refine tn_ hK8 ?_
   refine wpPrune [(4, .bool true)] ⟨lg_, trivial⟩ (fun X19 => ?_)
   refine wp_ret ?_
   refine bodyPost_ret (v := .bool true) (gRes1 rfl (gResTmp (t := 4) (v := .bool true) (lg_))) rfl ?_
   exact ⟨congrArg (fun b_ => Ending.returned (.bool b_)) (decide_eq_true (hd_eq h9 (of_decide_eq_true h13) h10 (of_decide_eq_true h17))).symm, hm16.bel⟩
  refine litVal (v := .bool false) rfl (wgY rfl rfl rfl (by decide) kr_) (boolTo (decide_eq_false h10) (eqlRun (A := h.depth) (B := g.depth) (.tmp 12) (.tmp 14) rfl le_ le_)) rfl (by decide) ?_
  refine lk_ (.bool false) ?_
  refine lk_ (.bool false) ?_
  refine ps_ (i := 13) ?_
  refine ps_ (i := 14) ?_
  refine ps_ (i := 15) ?_
  refine ps_ (i := 16) ?_
  refine ps_ (i := 17) ?_
  refine lk_ (.bool false) ?_
  refine lk_ (.bool false) ?_
  refine ps_ (i := 20) ?_
  refine ps_ (i := 21) ?_
  refine ps_ (i := 22) ?_
  refine ps_ (i := 23) ?_
  refine ps_ (i := 24) ?_
  refine lk_ (.bool false) ?_
  refine lk_ (.bool false) ?_
  refine plD ?_
  refine tn_ hK8 ?_
  refine wpPrune [(4, .bool false)] ⟨lg_, trivial⟩ (fun X20 => ?_)
  refine wp_ret ?_
  refine bodyPost_ret (v := .bool false) (gRes1 rfl (gResTmp (t := 4) (v := .bool false) (lg_))) rfl ?_
  exact ⟨congrArg (fun b_ => Ending.returned (.bool b_)) (decide_eq_false (fun q_ => h10 (by subst q_; first | rfl | exact ⟨rfl, rfl⟩))).symm, hm6.bel⟩
 refine litVal (v := .bool false) rfl (wn rfl) (boolTo (decide_eq_false h9) (eqlRun (A := h.tick) (B := g.tick) (.tmp 6) (.tmp 8) rfl le_ le_)) rfl (by decide) ?_
 refine lk_ (.bool false) ?_
 refine ps_ (i := 6) ?_
 refine ps_ (i := 7) ?_
 refine ps_ (i := 8) ?_
 refine ps_ (i := 9) ?_
 refine ps_ (i := 10) ?_
 refine lk_ (.bool false) ?_
 refine lk_ (.bool false) ?_
 refine ps_ (i := 13) ?_
 refine ps_ (i := 14) ?_
 refine ps_ (i := 15) ?_
 refine ps_ (i := 16) ?_
 refine ps_ (i := 17) ?_
 refine lk_ (.bool false) ?_
 refine lk_ (.bool false) ?_
 refine ps_ (i := 20) ?_
 refine ps_ (i := 21) ?_
 refine ps_ (i := 22) ?_
 refine ps_ (i := 23) ?_
 refine ps_ (i := 24) ?_
 refine lk_ (.bool false) ?_
 refine lk_ (.bool false) ?_
 refine plD ?_
 refine tn_ hK8 ?_
 refine wpPrune [(4, .bool false)] ⟨lg_, trivial⟩ (fun X21 => ?_)
 refine wp_ret ?_
 refine bodyPost_ret (v := .bool false) (gRes1 rfl (gResTmp (t := 4) (v := .bool false) (lg_))) rfl ?_
 exact ⟨congrArg (fun b_ => Ending.returned (.bool b_)) (decide_eq_false (fun q_ => h9 (by subst q_; first | rfl | exact ⟨rfl, rfl⟩))).symm, hm6.bel⟩
theorem rsame_any (h : Hd) (A : Option Addr) (c : Nat) (B : Option Addr) (d : Nat) (g : Hd) (A2 : Option Addr) (c2 : Nat) (B2 : Option Addr) (d2 : Nat) (w : World) (hA : Rd w w.heap.size 1 A h.counts.length c (ics h.counts)) (hB : Rd w w.heap.size 16 B h.rn d (bcs h.D)) (hA2 : Rd w w.heap.size 1 A2 g.counts.length c2 (ics g.counts)) (hB2 : Rd w w.heap.size 16 B2 g.rn d2 (bcs g.D)) (hl : h.counts.length ≤ 1099511627776) (hl2 : h.rn ≤ 1099511627776) : Calls Tryz.prog 11 #[.agg (hcs h A c B d).toArray, .agg (hcs g A2 c2 B2 d2).toArray] w (RetV w (.bool (decide (h = g)))) := by
 have hm0 := Mem.nil w
 go_enter Tryz.func11, Tryz.ntmps11
 refine litStart 35 [(0, .agg (hcs h A c B d).toArray), (1, .agg (hcs g A2 c2 B2 d2).toArray)] kr_ (fun X0 => ?_)
 refine wp_seq_k fun K1 hK1 => ?_
 refine plStart ?_
 refine plBox hm0 (cs := hcs h A c B d) (i := 0) rfl (wn rfl) rfl le_ ?_
 intro g2 w4 hm3
 clear hm0
 try simp only [lc1_, lc2_, lc3_, lc4_] at hm3
 refine qP rfl ?_
 refine plBox hm3 (cs := hcs g A2 c2 B2 d2) (i := 1) rfl (wn rfl) rfl le_ ?_
 intro g5 w7 hm6
 clear hm3
 try simp only [lc1_, lc2_, lc3_, lc4_] at hm6
 refine qP rfl ?_
 refine lk_ (.bool false) ?_
 refine plD ?_
 refine tn_ hK1 ?_
 refine wp_seq_k fun K8 hK8 => ?_
 refine plStart ?_
 refine lk_ (.pointer (some ⟨g2, 1, none⟩)) ?_
 refine litVal (v := .slice A h.counts.length c) rfl (wn rfl) (gLoad (v := .slice A h.counts.length c) (k := 1) 0 hm6 rfl kr_ (.tmp 7) kr_ rfl le_) rfl (by decide) ?_
 refine lk_ (.pointer (some ⟨g5, 1, none⟩)) ?_
 refine litVal (v := .slice A2 g.counts.length c2) rfl (wn rfl) (gLoad (v := .slice A2 g.counts.length c2) (k := 1) 1 hm6 rfl kr_ (.tmp 9) kr_ rfl le_) rfl (by decide) ?_
 refine plCall (i := 4) 39 [.slice A h.counts.length c, .slice A2 g.counts.length c2] [] [] rfl kr_ (wn rfl) rfl le_ (litArgs kr_) (reqI_any h.counts g.counts A A2 c c2 _ ((Rd.below hA hm6.bel).more hm6.bel.size) ((Rd.below hA2 hm6.bel).more hm6.bel.size) hl) ?_
 rintro e w9 ⟨rfl, hbz⟩
 have hm10 := hm6.below hbz
 clear hbz hm6
 refine ⟨_, rfl, ?_⟩
 refine qP rfl ?_
 rcases bool_or (decide (h.counts = g.counts)) with h11 | h11
 ·rw [h11]
  refine lk_ (.bool false) ?_
  refine plD ?_
  refine tn_ hK8 ?_
  refine wp_seq_k fun K12 hK12 => ?_
  refine plStart ?_
  refine lk_ (.pointer (some ⟨g2, 3, none⟩)) ?_
  refine litVal (v := .slice B h.rn d) rfl (wn rfl) (gLoad (v := .slice B h.rn d) (k := 3) 0 hm10 rfl kr_ (.tmp 12) kr_ rfl le_) rfl (by decide) ?_
  refine lk_ (.pointer (some ⟨g5, 3, none⟩)) ?_
  refine litVal (v := .slice B2 g.rn d2) rfl (wn rfl) (gLoad (v := .slice B2 g.rn d2) (k := 3) 1 hm10 rfl kr_ (.tmp 14) kr_ rfl le_) rfl (by decide) ?_
  refine plCall (i := 4) 40 [.slice B h.rn d, .slice B2 g.rn d2] [] [] rfl kr_ (wn rfl) rfl le_ (litArgs kr_) (reqD_any h.D g.D h.rn g.rn B B2 d d2 _ ((Rd.below hB hm10.bel).more hm10.bel.size) ((Rd.below hB2 hm10.bel).more hm10.bel.size) hl2) ?_
  rintro e w13 ⟨rfl, hbz⟩
  have hm14 := hm10.below hbz
  clear hbz hm10
  refine ⟨_, rfl, ?_⟩
  refine qP rfl ?_
  rcases bool_or (decide (h.rn = g.rn ∧ h.D = g.D)) with h15 | h15
  ·rw [h15]
   refine lk_ (.bool false) ?_
   refine plD ?_
   refine tn_ hK12 ?_
   refine wp_seq_k fun K16 hK16 => ?_
   refine plStart ?_
   refine lk_ (.pointer (some ⟨g2, 0, none⟩)) ?_
   refine litVal (v := .int .i64 h.tick) rfl (wn rfl) (gLoad (v := .int .i64 h.tick) (k := 0) 0 hm14 rfl kr_ (.tmp 17) kr_ rfl le_) rfl (by decide) ?_
   refine lk_ (.pointer (some ⟨g5, 0, none⟩)) ?_
   refine litVal (v := .int .i64 g.tick) rfl (wn rfl) (gLoad (v := .int .i64 g.tick) (k := 0) 1 hm14 rfl kr_ (.tmp 19) kr_ rfl le_) rfl (by decide) ?_
   by_cases h17 : h.tick = g.tick
   ·refine litVal (v := .bool true) rfl (wn rfl) (boolTo (decide_eq_true h17) (eqlRun (A := h.tick) (B := g.tick) (.tmp 18) (.tmp 20) rfl le_ le_)) rfl (by decide) ?_
    refine lk_ (.bool true) ?_
    refine litVal (v := .pointer (some ⟨g2, 2, none⟩)) rfl (wgY rfl rfl rfl (by decide) kr_) (litRun kr_) rfl (by decide) ?_
    refine litVal (v := .int .i64 h.depth) rfl (wgY rfl rfl rfl (by decide) kr_) (gLoad (v := .int .i64 h.depth) (k := 2) 0 hm14 rfl kr_ (.tmp 23) kr_ rfl le_) rfl (by decide) ?_
    refine litVal (v := .pointer (some ⟨g5, 2, none⟩)) rfl (wgY rfl rfl rfl (by decide) kr_) (litRun kr_) rfl (by decide) ?_
    refine litVal (v := .int .i64 g.depth) rfl (wgY rfl rfl rfl (by decide) kr_) (gLoad (v := .int .i64 g.depth) (k := 2) 1 hm14 rfl kr_ (.tmp 25) kr_ rfl le_) rfl (by decide) ?_
    by_cases h18 : h.depth = g.depth
    ·refine litVal (v := .bool true) rfl (wgY rfl rfl rfl (by decide) kr_) (boolTo (decide_eq_true h18) (eqlRun (A := h.depth) (B := g.depth) (.tmp 24) (.tmp 26) rfl le_ le_)) rfl (by decide) ?_
     refine lk_ (.bool true) ?_
     refine lk_ (.bool true) ?_
     refine litVal (v := .bool false) rfl (wgY rfl rfl rfl (by decide) kr_) (litRun kr_) rfl (by decide) ?_
     refine lk_ (.bool false) ?_
     refine lk_ (.bool false) ?_
     refine ps_ (i := 16) ?_
     refine lk_ (.bool false) ?_
     refine lk_ (.bool false) ?_
     refine plD ?_
     refine tn_ hK16 ?_
     refine wpPrune [(4, .bool false)] ⟨lg_, trivial⟩ (fun X19 => ?_)
     refine wp_ret ?_
     refine bodyPost_ret (v := .bool false) (gRes1 rfl (gResTmp (t := 4) (v := .bool false) (lg_))) rfl ?_
     exact ⟨congrArg (fun b_ => Ending.returned (.bool b_)) (decide_eq_false (fun q_ => (of_decide_eq_false h11) (by subst q_; first | rfl | exact ⟨rfl, rfl⟩))).symm, hm14.bel⟩
    refine litVal (v := .bool false) rfl (wgY rfl rfl rfl (by decide) kr_) (boolTo (decide_eq_false h18) (eqlRun (A := h.depth) (B := g.depth) (.tmp 24) (.tmp 26) rfl le_ le_)) rfl (by decide) ?_
    refine lk_ (.bool false) ?_
    refine lk_ (.bool false) ?_
    refine ps_ (i := 13) ?_
    refine lk_ (.bool false) ?_
    refine lk_ (.bool false) ?_
    refine ps_ (i := 16) ?_
    refine lk_ (.bool false) ?_
    refine lk_ (.bool false) ?_
    refine plD ?_
    refine tn_ hK16 ?_
    refine wpPrune [(4, .bool false)] ⟨lg_, trivial⟩ (fun X20 => ?_)
    refine wp_ret ?_
    refine bodyPost_ret (v := .bool false) (gRes1 rfl (gResTmp (t := 4) (v := .bool false) (lg_))) rfl ?_
    exact ⟨congrArg (fun b_ => Ending.returned (.bool b_)) (decide_eq_false (fun q_ => (of_decide_eq_false h11) (by subst q_; first | rfl | exact ⟨rfl, rfl⟩))).symm, hm14.bel⟩
   refine litVal (v := .bool false) rfl (wn rfl) (boolTo (decide_eq_false h17) (eqlRun (A := h.tick) (B := g.tick) (.tmp 18) (.tmp 20) rfl le_ le_)) rfl (by decide) ?_
   refine lk_ (.bool false) ?_
   refine ps_ (i := 6) ?_
   refine ps_ (i := 7) ?_
   refine ps_ (i := 8) ?_
   refine ps_ (i := 9) ?_
   refine ps_ (i := 10) ?_
   refine lk_ (.bool false) ?_
   refine lk_ (.bool false) ?_
   refine ps_ (i := 13) ?_
   refine lk_ (.bool false) ?_
   refine lk_ (.bool false) ?_
   refine ps_ (i := 16) ?_
   refine lk_ (.bool false) ?_
   refine lk_ (.bool false) ?_
   refine plD ?_
   refine tn_ hK16 ?_
   refine wpPrune [(4, .bool false)] ⟨lg_, trivial⟩ (fun X21 => ?_)
   refine wp_ret ?_
   refine bodyPost_ret (v := .bool false) (gRes1 rfl (gResTmp (t := 4) (v := .bool false) (lg_))) rfl ?_
   exact ⟨congrArg (fun b_ => Ending.returned (.bool b_)) (decide_eq_false (fun q_ => (of_decide_eq_false h11) (by subst q_; first | rfl | exact ⟨rfl, rfl⟩))).symm, hm14.bel⟩
  rw [h15]
  refine lk_ (.bool true) ?_
  refine plD ?_
  refine tn_ hK12 ?_
  refine wp_seq_k fun K22 hK22 => ?_
  refine plStart ?_
  refine lk_ (.pointer (some ⟨g2, 0, none⟩)) ?_
  refine litVal (v := .int .i64 h.tick) rfl (wn rfl) (gLoad (v := .int .i64 h.tick) (k := 0) 0 hm14 rfl kr_ (.tmp 17) kr_ rfl le_) rfl (by decide) ?_
  refine lk_ (.pointer (some ⟨g5, 0, none⟩)) ?_
  refine litVal (v := .int .i64 g.tick) rfl (wn rfl) (gLoad (v := .int .i64 g.tick) (k := 0) 1 hm14 rfl kr_ (.tmp 19) kr_ rfl le_) rfl (by decide) ?_
  by_cases h23 : h.tick = g.tick
  ·refine litVal (v := .bool true) rfl (wn rfl) (boolTo (decide_eq_true h23) (eqlRun (A := h.tick) (B := g.tick) (.tmp 18) (.tmp 20) rfl le_ le_)) rfl (by decide) ?_
   refine lk_ (.bool true) ?_
   refine litVal (v := .pointer (some ⟨g2, 2, none⟩)) rfl (wgY rfl rfl rfl (by decide) kr_) (litRun kr_) rfl (by decide) ?_
   refine litVal (v := .int .i64 h.depth) rfl (wgY rfl rfl rfl (by decide) kr_) (gLoad (v := .int .i64 h.depth) (k := 2) 0 hm14 rfl kr_ (.tmp 23) kr_ rfl le_) rfl (by decide) ?_
   refine litVal (v := .pointer (some ⟨g5, 2, none⟩)) rfl (wgY rfl rfl rfl (by decide) kr_) (litRun kr_) rfl (by decide) ?_
   refine litVal (v := .int .i64 g.depth) rfl (wgY rfl rfl rfl (by decide) kr_) (gLoad (v := .int .i64 g.depth) (k := 2) 1 hm14 rfl kr_ (.tmp 25) kr_ rfl le_) rfl (by decide) ?_
   by_cases h24 : h.depth = g.depth
   ·refine litVal (v := .bool true) rfl (wgY rfl rfl rfl (by decide) kr_) (boolTo (decide_eq_true h24) (eqlRun (A := h.depth) (B := g.depth) (.tmp 24) (.tmp 26) rfl le_ le_)) rfl (by decide) ?_
    refine lk_ (.bool true) ?_
    refine lk_ (.bool true) ?_
    refine litVal (v := .bool false) rfl (wgY rfl rfl rfl (by decide) kr_) (litRun kr_) rfl (by decide) ?_
    refine lk_ (.bool false) ?_
    refine lk_ (.bool false) ?_
    refine ps_ (i := 16) ?_
    refine lk_ (.bool false) ?_
    refine lk_ (.bool false) ?_
    refine plD ?_
    refine tn_ hK22 ?_
    refine wpPrune [(4, .bool false)] ⟨lg_, trivial⟩ (fun X25 => ?_)
    refine wp_ret ?_
    refine bodyPost_ret (v := .bool false) (gRes1 rfl (gResTmp (t := 4) (v := .bool false) (lg_))) rfl ?_
    exact ⟨congrArg (fun b_ => Ending.returned (.bool b_)) (decide_eq_false (fun q_ => (of_decide_eq_false h11) (by subst q_; first | rfl | exact ⟨rfl, rfl⟩))).symm, hm14.bel⟩
   refine litVal (v := .bool false) rfl (wgY rfl rfl rfl (by decide) kr_) (boolTo (decide_eq_false h24) (eqlRun (A := h.depth) (B := g.depth) (.tmp 24) (.tmp 26) rfl le_ le_)) rfl (by decide) ?_
   refine lk_ (.bool false) ?_
   refine lk_ (.bool false) ?_
   refine ps_ (i := 13) ?_
   refine lk_ (.bool false) ?_
   refine lk_ (.bool false) ?_
   refine ps_ (i := 16) ?_
   refine lk_ (.bool false) ?_
   refine lk_ (.bool false) ?_
   refine plD ?_
   refine tn_ hK22 ?_
   refine wpPrune [(4, .bool false)] ⟨lg_, trivial⟩ (fun X26 => ?_)
   refine wp_ret ?_
   refine bodyPost_ret (v := .bool false) (gRes1 rfl (gResTmp (t := 4) (v := .bool false) (lg_))) rfl ?_
   exact ⟨congrArg (fun b_ => Ending.returned (.bool b_)) (decide_eq_false (fun q_ => (of_decide_eq_false h11) (by subst q_; first | rfl | exact ⟨rfl, rfl⟩))).symm, hm14.bel⟩
  refine litVal (v := .bool false) rfl (wn rfl) (boolTo (decide_eq_false h23) (eqlRun (A := h.tick) (B := g.tick) (.tmp 18) (.tmp 20) rfl le_ le_)) rfl (by decide) ?_
  refine lk_ (.bool false) ?_
  refine ps_ (i := 6) ?_
  refine ps_ (i := 7) ?_
  refine ps_ (i := 8) ?_
  refine ps_ (i := 9) ?_
  refine ps_ (i := 10) ?_
  refine lk_ (.bool false) ?_
  refine lk_ (.bool false) ?_
  refine ps_ (i := 13) ?_
  refine lk_ (.bool false) ?_
  refine lk_ (.bool false) ?_
  refine ps_ (i := 16) ?_
  refine lk_ (.bool false) ?_
  refine lk_ (.bool false) ?_
  refine plD ?_
  refine tn_ hK22 ?_
  refine wpPrune [(4, .bool false)] ⟨lg_, trivial⟩ (fun X27 => ?_)
  refine wp_ret ?_
  refine bodyPost_ret (v := .bool false) (gRes1 rfl (gResTmp (t := 4) (v := .bool false) (lg_))) rfl ?_
  exact ⟨congrArg (fun b_ => Ending.returned (.bool b_)) (decide_eq_false (fun q_ => (of_decide_eq_false h11) (by subst q_; first | rfl | exact ⟨rfl, rfl⟩))).symm, hm14.bel⟩
 rw [h11]
 refine lk_ (.bool true) ?_
 refine plD ?_
 refine tn_ hK8 ?_
 refine wp_seq_k fun K28 hK28 => ?_
 refine plStart ?_
 refine lk_ (.pointer (some ⟨g2, 3, none⟩)) ?_
 refine litVal (v := .slice B h.rn d) rfl (wn rfl) (gLoad (v := .slice B h.rn d) (k := 3) 0 hm10 rfl kr_ (.tmp 12) kr_ rfl le_) rfl (by decide) ?_
 refine lk_ (.pointer (some ⟨g5, 3, none⟩)) ?_
 refine litVal (v := .slice B2 g.rn d2) rfl (wn rfl) (gLoad (v := .slice B2 g.rn d2) (k := 3) 1 hm10 rfl kr_ (.tmp 14) kr_ rfl le_) rfl (by decide) ?_
 refine plCall (i := 4) 40 [.slice B h.rn d, .slice B2 g.rn d2] [] [] rfl kr_ (wn rfl) rfl le_ (litArgs kr_) (reqD_any h.D g.D h.rn g.rn B B2 d d2 _ ((Rd.below hB hm10.bel).more hm10.bel.size) ((Rd.below hB2 hm10.bel).more hm10.bel.size) hl2) ?_
 rintro e w29 ⟨rfl, hbz⟩
 have hm30 := hm10.below hbz
 clear hbz hm10
 refine ⟨_, rfl, ?_⟩
 refine qP rfl ?_
 rcases bool_or (decide (h.rn = g.rn ∧ h.D = g.D)) with h31 | h31
 ·rw [h31]
  refine lk_ (.bool false) ?_
  refine plD ?_
  refine tn_ hK28 ?_
  refine wp_seq_k fun K32 hK32 => ?_
  refine plStart ?_
  refine lk_ (.pointer (some ⟨g2, 0, none⟩)) ?_
  refine litVal (v := .int .i64 h.tick) rfl (wn rfl) (gLoad (v := .int .i64 h.tick) (k := 0) 0 hm30 rfl kr_ (.tmp 17) kr_ rfl le_) rfl (by decide) ?_
  refine lk_ (.pointer (some ⟨g5, 0, none⟩)) ?_
  refine litVal (v := .int .i64 g.tick) rfl (wn rfl) (gLoad (v := .int .i64 g.tick) (k := 0) 1 hm30 rfl kr_ (.tmp 19) kr_ rfl le_) rfl (by decide) ?_
  by_cases h33 : h.tick = g.tick
  ·refine litVal (v := .bool true) rfl (wn rfl) (boolTo (decide_eq_true h33) (eqlRun (A := h.tick) (B := g.tick) (.tmp 18) (.tmp 20) rfl le_ le_)) rfl (by decide) ?_
   refine lk_ (.bool true) ?_
   refine litVal (v := .pointer (some ⟨g2, 2, none⟩)) rfl (wgY rfl rfl rfl (by decide) kr_) (litRun kr_) rfl (by decide) ?_
   refine litVal (v := .int .i64 h.depth) rfl (wgY rfl rfl rfl (by decide) kr_) (gLoad (v := .int .i64 h.depth) (k := 2) 0 hm30 rfl kr_ (.tmp 23) kr_ rfl le_) rfl (by decide) ?_
   refine litVal (v := .pointer (some ⟨g5, 2, none⟩)) rfl (wgY rfl rfl rfl (by decide) kr_) (litRun kr_) rfl (by decide) ?_
   refine litVal (v := .int .i64 g.depth) rfl (wgY rfl rfl rfl (by decide) kr_) (gLoad (v := .int .i64 g.depth) (k := 2) 1 hm30 rfl kr_ (.tmp 25) kr_ rfl le_) rfl (by decide) ?_
   by_cases h34 : h.depth = g.depth
   ·refine litVal (v := .bool true) rfl (wgY rfl rfl rfl (by decide) kr_) (boolTo (decide_eq_true h34) (eqlRun (A := h.depth) (B := g.depth) (.tmp 24) (.tmp 26) rfl le_ le_)) rfl (by decide) ?_
    refine lk_ (.bool true) ?_
    refine lk_ (.bool true) ?_
    refine litVal (v := .bool true) rfl (wgY rfl rfl rfl (by decide) kr_) (litRun kr_) rfl (by decide) ?_
    refine lk_ (.bool true) ?_
    refine lk_ (.bool true) ?_
    refine litVal (v := .bool false) rfl (wgY rfl rfl rfl (by decide) kr_) (litRun kr_) rfl (by decide) ?_
    refine lk_ (.bool false) ?_
    refine lk_ (.bool false) ?_
    refine plD ?_
    refine tn_ hK32 ?_
    refine wpPrune [(4, .bool false)] ⟨lg_, trivial⟩ (fun X35 => ?_)
    refine wp_ret ?_
    refine bodyPost_ret (v := .bool false) (gRes1 rfl (gResTmp (t := 4) (v := .bool false) (lg_))) rfl ?_
    exact ⟨congrArg (fun b_ => Ending.returned (.bool b_)) (decide_eq_false (fun q_ => (of_decide_eq_false h31) (by subst q_; first | rfl | exact ⟨rfl, rfl⟩))).symm, hm30.bel⟩
   refine litVal (v := .bool false) rfl (wgY rfl rfl rfl (by decide) kr_) (boolTo (decide_eq_false h34) (eqlRun (A := h.depth) (B := g.depth) (.tmp 24) (.tmp 26) rfl le_ le_)) rfl (by decide) ?_
   refine lk_ (.bool false) ?_
   refine lk_ (.bool false) ?_
   refine ps_ (i := 13) ?_
   refine lk_ (.bool false) ?_
   refine lk_ (.bool false) ?_
   refine ps_ (i := 16) ?_
   refine lk_ (.bool false) ?_
   refine lk_ (.bool false) ?_
   refine plD ?_
   refine tn_ hK32 ?_
   refine wpPrune [(4, .bool false)] ⟨lg_, trivial⟩ (fun X36 => ?_)
   refine wp_ret ?_
   refine bodyPost_ret (v := .bool false) (gRes1 rfl (gResTmp (t := 4) (v := .bool false) (lg_))) rfl ?_
   exact ⟨congrArg (fun b_ => Ending.returned (.bool b_)) (decide_eq_false (fun q_ => (of_decide_eq_false h31) (by subst q_; first | rfl | exact ⟨rfl, rfl⟩))).symm, hm30.bel⟩
  refine litVal (v := .bool false) rfl (wn rfl) (boolTo (decide_eq_false h33) (eqlRun (A := h.tick) (B := g.tick) (.tmp 18) (.tmp 20) rfl le_ le_)) rfl (by decide) ?_
  refine lk_ (.bool false) ?_
  refine ps_ (i := 6) ?_
  refine ps_ (i := 7) ?_
  refine ps_ (i := 8) ?_
  refine ps_ (i := 9) ?_
  refine ps_ (i := 10) ?_
  refine lk_ (.bool false) ?_
  refine lk_ (.bool false) ?_
  refine ps_ (i := 13) ?_
  refine lk_ (.bool false) ?_
  refine lk_ (.bool false) ?_
  refine ps_ (i := 16) ?_
  refine lk_ (.bool false) ?_
  refine lk_ (.bool false) ?_
  refine plD ?_
  refine tn_ hK32 ?_
  refine wpPrune [(4, .bool false)] ⟨lg_, trivial⟩ (fun X37 => ?_)
  refine wp_ret ?_
  refine bodyPost_ret (v := .bool false) (gRes1 rfl (gResTmp (t := 4) (v := .bool false) (lg_))) rfl ?_
  exact ⟨congrArg (fun b_ => Ending.returned (.bool b_)) (decide_eq_false (fun q_ => (of_decide_eq_false h31) (by subst q_; first | rfl | exact ⟨rfl, rfl⟩))).symm, hm30.bel⟩
 rw [h31]
 refine lk_ (.bool true) ?_
 refine plD ?_
 refine tn_ hK28 ?_
 refine wp_seq_k fun K38 hK38 => ?_
 refine plStart ?_
 refine lk_ (.pointer (some ⟨g2, 0, none⟩)) ?_
 refine litVal (v := .int .i64 h.tick) rfl (wn rfl) (gLoad (v := .int .i64 h.tick) (k := 0) 0 hm30 rfl kr_ (.tmp 17) kr_ rfl le_) rfl (by decide) ?_
 refine lk_ (.pointer (some ⟨g5, 0, none⟩)) ?_
 refine litVal (v := .int .i64 g.tick) rfl (wn rfl) (gLoad (v := .int .i64 g.tick) (k := 0) 1 hm30 rfl kr_ (.tmp 19) kr_ rfl le_) rfl (by decide) ?_
 by_cases h39 : h.tick = g.tick
 ·refine litVal (v := .bool true) rfl (wn rfl) (boolTo (decide_eq_true h39) (eqlRun (A := h.tick) (B := g.tick) (.tmp 18) (.tmp 20) rfl le_ le_)) rfl (by decide) ?_
  refine lk_ (.bool true) ?_
  refine litVal (v := .pointer (some ⟨g2, 2, none⟩)) rfl (wgY rfl rfl rfl (by decide) kr_) (litRun kr_) rfl (by decide) ?_
  refine litVal (v := .int .i64 h.depth) rfl (wgY rfl rfl rfl (by decide) kr_) (gLoad (v := .int .i64 h.depth) (k := 2) 0 hm30 rfl kr_ (.tmp 23) kr_ rfl le_) rfl (by decide) ?_
  refine litVal (v := .pointer (some ⟨g5, 2, none⟩)) rfl (wgY rfl rfl rfl (by decide) kr_) (litRun kr_) rfl (by decide) ?_
  refine litVal (v := .int .i64 g.depth) rfl (wgY rfl rfl rfl (by decide) kr_) (gLoad (v := .int .i64 g.depth) (k := 2) 1 hm30 rfl kr_ (.tmp 25) kr_ rfl le_) rfl (by decide) ?_
  by_cases h40 : h.depth = g.depth
  ·refine litVal (v := .bool true) rfl (wgY rfl rfl rfl (by decide) kr_) (boolTo (decide_eq_true h40) (eqlRun (A := h.depth) (B := g.depth) (.tmp 24) (.tmp 26) rfl le_ le_)) rfl (by decide) ?_
   refine lk_ (.bool true) ?_
   refine lk_ (.bool true) ?_
   refine litVal (v := .bool true) rfl (wgY rfl rfl rfl (by decide) kr_) (litRun kr_) rfl (by decide) ?_
   refine lk_ (.bool true) ?_
   refine lk_ (.bool true) ?_
   refine litVal (v := .bool true) rfl (wgY rfl rfl rfl (by decide) kr_) (litRun kr_) rfl (by decide) ?_
   refine lk_ (.bool true) ?_
   refine lk_ (.bool true) ?_
   refine plD ?_
   refine tn_ hK38 ?_
   refine wpPrune [(4, .bool true)] ⟨lg_, trivial⟩ (fun X41 => ?_)
   refine wp_ret ?_
   refine bodyPost_ret (v := .bool true) (gRes1 rfl (gResTmp (t := 4) (v := .bool true) (lg_))) rfl ?_
   exact ⟨congrArg (fun b_ => Ending.returned (.bool b_)) (decide_eq_true (hd_eq h39 (of_decide_eq_true h11) h40 (of_decide_eq_true h31))).symm, hm30.bel⟩
  refine litVal (v := .bool false) rfl (wgY rfl rfl rfl (by decide) kr_) (boolTo (decide_eq_false h40) (eqlRun (A := h.depth) (B := g.depth) (.tmp 24) (.tmp 26) rfl le_ le_)) rfl (by decide) ?_
  refine lk_ (.bool false) ?_
  refine lk_ (.bool false) ?_
  refine ps_ (i := 13) ?_
  refine lk_ (.bool false) ?_
  refine lk_ (.bool false) ?_
  refine ps_ (i := 16) ?_
  refine lk_ (.bool false) ?_
  refine lk_ (.bool false) ?_
  refine plD ?_
  refine tn_ hK38 ?_
  refine wpPrune [(4, .bool false)] ⟨lg_, trivial⟩ (fun X42 => ?_)
  refine wp_ret ?_
  refine bodyPost_ret (v := .bool false) (gRes1 rfl (gResTmp (t := 4) (v := .bool false) (lg_))) rfl ?_
  exact ⟨congrArg (fun b_ => Ending.returned (.bool b_)) (decide_eq_false (fun q_ => h40 (by subst q_; first | rfl | exact ⟨rfl, rfl⟩))).symm, hm30.bel⟩
 refine litVal (v := .bool false) rfl (wn rfl) (boolTo (decide_eq_false h39) (eqlRun (A := h.tick) (B := g.tick) (.tmp 18) (.tmp 20) rfl le_ le_)) rfl (by decide) ?_
 refine lk_ (.bool false) ?_
 refine ps_ (i := 6) ?_
 refine ps_ (i := 7) ?_
 refine ps_ (i := 8) ?_
 refine ps_ (i := 9) ?_
 refine ps_ (i := 10) ?_
 refine lk_ (.bool false) ?_
 refine lk_ (.bool false) ?_
 refine ps_ (i := 13) ?_
 refine lk_ (.bool false) ?_
 refine lk_ (.bool false) ?_
 refine ps_ (i := 16) ?_
 refine lk_ (.bool false) ?_
 refine lk_ (.bool false) ?_
 refine plD ?_
 refine tn_ hK38 ?_
 refine wpPrune [(4, .bool false)] ⟨lg_, trivial⟩ (fun X43 => ?_)
 refine wp_ret ?_
 refine bodyPost_ret (v := .bool false) (gRes1 rfl (gResTmp (t := 4) (v := .bool false) (lg_))) rfl ?_
 exact ⟨congrArg (fun b_ => Ending.returned (.bool b_)) (decide_eq_false (fun q_ => h39 (by subst q_; first | rfl | exact ⟨rfl, rfl⟩))).symm, hm30.bel⟩
theorem covers_any (h : Hd) (A : Option Addr) (c : Nat) (B : Option Addr) (d : Nat) (g : Hd) (A2 : Option Addr) (c2 : Nat) (B2 : Option Addr) (d2 : Nat) (w : World) (hA : Rd w w.heap.size 1 A h.counts.length c (ics h.counts)) (hB : Rd w w.heap.size 16 B h.rn d (bcs h.D)) (hA2 : Rd w w.heap.size 1 A2 g.counts.length c2 (ics g.counts)) (hB2 : Rd w w.heap.size 16 B2 g.rn d2 (bcs g.D)) (hl : h.counts.length ≤ 1099511627776) (hl2 : h.rn ≤ 1099511627776) (h8 : h.counts.length = 8) (g8 : g.counts.length = 8) : Calls Tryz.prog 25 #[.agg (hcs h A c B d).toArray, .agg (hcs g A2 c2 B2 d2).toArray] w (RetV w (.bool (decide (covers h g)))) := by
 have hm0 := Mem.nil w
 go_enter Tryz.func25, Tryz.ntmps25
 refine litStart 28 [(0, .agg (hcs h A c B d).toArray), (1, .agg (hcs g A2 c2 B2 d2).toArray)] kr_ (fun X0 => ?_)
 refine wp_seq_k fun K1 hK1 => ?_
 refine plStart ?_
 refine plBox hm0 (cs := hcs h A c B d) (i := 0) rfl (wn rfl) rfl le_ ?_
 intro g2 w4 hm3
 clear hm0
 try simp only [lc1_, lc2_, lc3_, lc4_] at hm3
 refine qP rfl ?_
 refine plBox hm3 (cs := hcs g A2 c2 B2 d2) (i := 1) rfl (wn rfl) rfl le_ ?_
 intro g5 w7 hm6
 clear hm3
 try simp only [lc1_, lc2_, lc3_, lc4_] at hm6
 refine qP rfl ?_
 refine lk_ (.bool false) ?_
 refine plD ?_
 refine tn_ hK1 ?_
 refine wp_seq_k fun K8 hK8 => ?_
 refine wp_seq_k fun K9 hK9 => ?_
 refine plStart ?_
 refine lk_ (.pointer (some ⟨g2, 1, none⟩)) ?_
 refine litVal (v := .slice A h.counts.length c) rfl (wn rfl) (gLoad (v := .slice A h.counts.length c) (k := 1) 0 hm6 rfl kr_ (.tmp 7) kr_ rfl le_) rfl (by decide) ?_
 refine litVal (v := .int .i64 (h.counts.length : Int)) rfl (wn rfl) (lenSlRun (A := A) (n := h.counts.length) (c := c) (.tmp 8) Ty.und_L_int rfl le_) rfl (by decide) ?_
 refine lk_ (.int .i64 0) ?_
 refine plD ?_
 refine tn_ hK9 ?_
 refine wp_block ?_
 refine gwLoop (fun n_ a_ w_ => ∃ (k : Nat), n_ = h.counts.length - k ∧ (k ≤ h.counts.length) ∧ (covN h.counts g.counts ↔ covN (h.counts.drop k) (g.counts.drop k)) ∧ Fr a_ 28 [(2, .pointer (some ⟨g2, 0, none⟩)), (3, .pointer (some ⟨g5, 0, none⟩)), (8, .slice A h.counts.length c), (9, .int .i64 (h.counts.length : Int)), (10, .int .i64 (k : Int))] ∧ Mem w w_ [.arr g2 25 (hcs h A c B d), .arr g5 25 (hcs g A2 c2 B2 d2)]) (h.counts.length - 0) ⟨0, rfl, (Nat.zero_le _), (by simp), ⟨litSize, rfl, ⟨lg_, ⟨lg_, ⟨lg_, ⟨lg_, ⟨lg_, trivial⟩⟩⟩⟩⟩⟩, (hm6.sub (.cons_cons _ (.cons_cons _ .slnil)))⟩ ?_
 clear hm6
 intro n_ a12 w10 hI_
 obtain ⟨k, rfl, hk, hq, hF_, hm11⟩ := hI_
 obtain ⟨X13, rfl⟩ := frLit hF_
 clear hF_
 refine wp_seq_k fun K14 hK14 => ?_
 refine plStart ?_
 by_cases h15 : (k : Int) < (h.counts.length : Int)
 ·obtain ⟨x, hx⟩ : ∃ x, h.counts[k]? = some x := ⟨_, List.getElem?_eq_getElem (by omega)⟩
  obtain ⟨y, hy⟩ : ∃ y, g.counts[k]? = some y := ⟨_, List.getElem?_eq_getElem (by omega)⟩
  obtain ⟨b1_, o1_, rfl, _, _⟩ := hA.cells (by omega)
  obtain ⟨b2_, o2_, rfl, _, _⟩ := hA2.cells (by omega)
  refine litVal (v := .bool true) rfl (wn rfl) (boolTo (decide_eq_true h15) (lssRun (A := (k : Int)) (B := (h.counts.length : Int)) (.tmp 10) (.tmp 9) rfl le_ le_)) rfl (by decide) ?_
  refine plD ?_
  refine tn_ hK14 ?_
  refine wp_seq_k fun K16 hK16 => ?_
  refine wp_cond_true le_ ?_
  refine wp_skip ?_
  refine tn_ hK16 ?_
  refine wp_seq_k fun K17 hK17 => ?_
  refine wp_block ?_
  refine wp_seq_k fun K18 hK18 => ?_
  refine plStart ?_
  refine lk_ (.int .i64 (k : Int)) ?_
  refine litVal (v := .pointer (some ⟨b1_, o1_ + k * 1, none⟩)) rfl (wn rfl) (gIaSl (b := b1_) (off := o1_) (n := h.counts.length) (c := c) (kk := .i64) (K := (k : Int)) (.tmp 8) (.tmp 10) k Ty.sl_L_int rfl le_ le_ (rfl) (by omega)) rfl (by decide) ?_
  refine litVal (v := .int .i64 x) rfl (wn rfl) (gLoadRd (v := .int .i64 x) (m := k * 1) ((Rd.below hA hm11.bel).more hm11.bel.size) rfl (ics_at hx) (by omega) (.tmp 13) kr_ rfl le_) rfl (by decide) ?_
  refine lk_ (.int .i64 (k : Int)) ?_
  refine lk_ (.int .i64 x) ?_
  refine plD ?_
  refine tn_ hK18 ?_
  refine wp_seq_k fun K19 hK19 => ?_
  refine plStart ?_
  refine lk_ (.int .i64 x) ?_
  refine lk_ (.pointer (some ⟨g5, 1, none⟩)) ?_
  refine litVal (v := .slice (some ⟨b2_, o2_, none⟩) g.counts.length c2) rfl (wn rfl) (gLoad (v := .slice (some ⟨b2_, o2_, none⟩) g.counts.length c2) (k := 1) 1 hm11 rfl kr_ (.tmp 16) kr_ rfl le_) rfl (by decide) ?_
  refine lk_ (.int .i64 (k : Int)) ?_
  refine litVal (v := .pointer (some ⟨b2_, o2_ + k * 1, none⟩)) rfl (wn rfl) (gIaSl (b := b2_) (off := o2_) (n := g.counts.length) (c := c2) (kk := .i64) (K := (k : Int)) (.tmp 17) (.tmp 18) k Ty.sl_L_int rfl le_ le_ (rfl) (by omega)) rfl (by decide) ?_
  refine litVal (v := .int .i64 y) rfl (wn rfl) (gLoadRd (v := .int .i64 y) (m := k * 1) ((Rd.below hA2 hm11.bel).more hm11.bel.size) rfl (ics_at hy) (by omega) (.tmp 19) kr_ rfl le_) rfl (by decide) ?_
  by_cases h20 : x < y
  ·refine litVal (v := .bool true) rfl (wn rfl) (boolTo (decide_eq_true h20) (lssRun (A := x) (B := y) (.tmp 15) (.tmp 20) rfl le_ le_)) rfl (by decide) ?_
   refine plD ?_
   refine tn_ hK19 ?_
   refine wp_cond_true le_ ?_
   refine wp_seq_k fun K21 hK21 => ?_
   refine plStart ?_
   refine lk_ (.bool false) ?_
   refine plD ?_
   refine tn_ hK21 ?_
   refine wp_ret ?_
   refine inBlock_ret ?_
   refine then_ret ?_
   refine then_ret ?_
   refine inBlock_ret ?_
   refine then_ret ?_
   refine bodyPost_ret (v := .bool false) (gRes1 rfl (gResTmp (t := 4) (v := .bool false) (lg_))) rfl ?_
   exact ⟨congrArg (fun b_ => Ending.returned (.bool b_)) (decide_eq_false (fun q_ => by have h2_ := ((covN_drop hx hy).1 (hq.1 q_.1)).1; omega)).symm, hm11.bel⟩
  refine litVal (v := .bool false) rfl (wn rfl) (boolTo (decide_eq_false h20) (lssRun (A := x) (B := y) (.tmp 15) (.tmp 20) rfl le_ le_)) rfl (by decide) ?_
  refine plD ?_
  refine tn_ hK19 ?_
  refine wp_cond_false le_ ?_
  refine wp_skip ?_
  refine inBlock_normal ?_
  refine tn_ hK17 ?_
  refine plStart ?_
  refine litVal (v := .int .i64 ((k : Int) + 1)) rfl (wn rfl) (addRun (A := (k : Int)) (B := 1) (C := (k : Int) + 1) (.tmp 10) (.const (.int .i64 1)) rfl le_ le_ rfl (by omega)) rfl (by decide) ?_
  refine lk_ (.int .i64 ((k : Int) + 1)) ?_
  refine plD ?_
  refine then_normal ?_
  exact ⟨_, by omega, (k + 1), rfl, (by omega), (by rw [hq, covN_drop hx hy]; exact ⟨fun q_ => q_.2, fun q_ => ⟨by omega, q_⟩⟩), ⟨litSize, rfl, ⟨lg_, ⟨lg_, ⟨lg_, ⟨lg_, ⟨lg_, trivial⟩⟩⟩⟩⟩⟩, (hm11.sub (.cons_cons _ (.cons_cons _ .slnil)))⟩
 refine litVal (v := .bool false) rfl (wn rfl) (boolTo (decide_eq_false h15) (lssRun (A := (k : Int)) (B := (h.counts.length : Int)) (.tmp 10) (.tmp 9) rfl le_ le_)) rfl (by decide) ?_
 refine plD ?_
 refine tn_ hK14 ?_
 refine wp_seq_k fun K22 hK22 => ?_
 refine wp_cond_false le_ ?_
 refine wp_exit ?_
 refine then_exit ?_
 refine then_exit ?_
 refine inBlock_exit ?_
 refine tn_ hK8 ?_
 refine wp_seq_k fun K23 hK23 => ?_
 refine plStart ?_
 refine lk_ (.pointer (some ⟨g2, 0, none⟩)) ?_
 refine litVal (v := .int .i64 h.tick) rfl (wn rfl) (gLoad (v := .int .i64 h.tick) (k := 0) 0 hm11 rfl kr_ (.tmp 23) kr_ rfl le_) rfl (by decide) ?_
 refine lk_ (.pointer (some ⟨g5, 0, none⟩)) ?_
 refine litVal (v := .int .i64 g.tick) rfl (wn rfl) (gLoad (v := .int .i64 g.tick) (k := 0) 1 hm11 rfl kr_ (.tmp 25) kr_ rfl le_) rfl (by decide) ?_
 by_cases h24 : g.tick ≤ h.tick
 ·refine litVal (v := .bool true) rfl (wn rfl) (boolTo (decide_eq_true h24) (gGeq (A := h.tick) (B := g.tick) (.tmp 24) (.tmp 26) rfl le_ le_)) rfl (by decide) ?_
  refine lk_ (.bool true) ?_
  refine plD ?_
  refine tn_ hK23 ?_
  refine wp_ret ?_
  refine bodyPost_ret (v := .bool true) (gRes1 rfl (gResTmp (t := 4) (v := .bool true) (lg_))) rfl ?_
  exact ⟨congrArg (fun b_ => Ending.returned (.bool b_)) (decide_eq_true ⟨hq.2 (covN_end (by omega)), by omega⟩).symm, hm11.bel⟩
 refine litVal (v := .bool false) rfl (wn rfl) (boolTo (decide_eq_false h24) (gGeq (A := h.tick) (B := g.tick) (.tmp 24) (.tmp 26) rfl le_ le_)) rfl (by decide) ?_
 refine lk_ (.bool false) ?_
 refine plD ?_
 refine tn_ hK23 ?_
 refine wp_ret ?_
 refine bodyPost_ret (v := .bool false) (gRes1 rfl (gResTmp (t := 4) (v := .bool false) (lg_))) rfl ?_
 exact ⟨congrArg (fun b_ => Ending.returned (.bool b_)) (decide_eq_false (fun q_ => by have h2_ := q_.2; omega)).symm, hm11.bel⟩
end Go.Proofs.YtgjgjimgomhbmaaGreatDoor
