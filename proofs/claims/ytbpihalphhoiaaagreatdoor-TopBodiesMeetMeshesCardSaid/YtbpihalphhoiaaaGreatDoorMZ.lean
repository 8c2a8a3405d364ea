/-
 MZ: several texts in one. No statement is proved here.
-/
import Derived.Test.YtbpihalphhoiaaaGreatDoorMB
set_option maxRecDepth 100000
set_option maxHeartbeats 4000000
set_option linter.unusedVariables false
set_option linter.unusedSimpArgs false
namespace Go.Proofs.YtbpihalphhoiaaaGreatDoor
open Go.RowKit
section
variable {P : Program} {a : Act} {w w0 : World} {o : Oper} {L : List Res} {t ty : TypeId} {A B : Int} {x y : Operand}
theorem lsT_ (h : A < B) (ho : o.op = .binOp .lss t x y ty := by exact rfl) (hx : a.eval x = .int .i64 A := by first | exact litEv kr_ | exact LD.litEv kr_) (hy : a.eval y = .int .i64 B := by first | exact litEv kr_ | exact LD.litEv kr_) : (execOp a.eval o).run P w = .ok (.value (.bool true)) w := boolTo (decide_eq_true h) (lssRun x y ho hx hy)
theorem lsF_ (h : ¬ A < B) (ho : o.op = .binOp .lss t x y ty := by exact rfl) (hx : a.eval x = .int .i64 A := by first | exact litEv kr_ | exact LD.litEv kr_) (hy : a.eval y = .int .i64 B := by first | exact litEv kr_ | exact LD.litEv kr_) : (execOp a.eval o).run P w = .ok (.value (.bool false)) w := boolTo (decide_eq_false h) (lssRun x y ho hx hy)
theorem leT_ (h : A ≤ B) (ho : o.op = .binOp .leq t x y ty := by exact rfl) (hx : a.eval x = .int .i64 A := by first | exact litEv kr_ | exact LD.litEv kr_) (hy : a.eval y = .int .i64 B := by first | exact litEv kr_ | exact LD.litEv kr_) : (execOp a.eval o).run P w = .ok (.value (.bool true)) w := boolTo (decide_eq_true h) (leqRun x y ho hx hy)
theorem leF_ (h : ¬ A ≤ B) (ho : o.op = .binOp .leq t x y ty := by exact rfl) (hx : a.eval x = .int .i64 A := by first | exact litEv kr_ | exact LD.litEv kr_) (hy : a.eval y = .int .i64 B := by first | exact litEv kr_ | exact LD.litEv kr_) : (execOp a.eval o).run P w = .ok (.value (.bool false)) w := boolTo (decide_eq_false h) (leqRun x y ho hx hy)
theorem gtT_ (h : B < A) (ho : o.op = .binOp .gtr t x y ty := by exact rfl) (hx : a.eval x = .int .i64 A := by first | exact litEv kr_ | exact LD.litEv kr_) (hy : a.eval y = .int .i64 B := by first | exact litEv kr_ | exact LD.litEv kr_) : (execOp a.eval o).run P w = .ok (.value (.bool true)) w := boolTo (decide_eq_true h) (gtrRun x y ho hx hy)
theorem gtF_ (h : ¬ B < A) (ho : o.op = .binOp .gtr t x y ty := by exact rfl) (hx : a.eval x = .int .i64 A := by first | exact litEv kr_ | exact LD.litEv kr_) (hy : a.eval y = .int .i64 B := by first | exact litEv kr_ | exact LD.litEv kr_) : (execOp a.eval o).run P w = .ok (.value (.bool false)) w := boolTo (decide_eq_false h) (gtrRun x y ho hx hy)
theorem geT_ (h : B ≤ A) (ho : o.op = .binOp .geq t x y ty := by exact rfl) (hx : a.eval x = .int .i64 A := by first | exact litEv kr_ | exact LD.litEv kr_) (hy : a.eval y = .int .i64 B := by first | exact litEv kr_ | exact LD.litEv kr_) : (execOp a.eval o).run P w = .ok (.value (.bool true)) w := boolTo (decide_eq_true h) (gGeq x y ho hx hy)
theorem geF_ (h : ¬ B ≤ A) (ho : o.op = .binOp .geq t x y ty := by exact rfl) (hx : a.eval x = .int .i64 A := by first | exact litEv kr_ | exact LD.litEv kr_) (hy : a.eval y = .int .i64 B := by first | exact litEv kr_ | exact LD.litEv kr_) : (execOp a.eval o).run P w = .ok (.value (.bool false)) w := boolTo (decide_eq_false h) (gGeq x y ho hx hy)
theorem eqT_ (h : A = B) (ho : o.op = .binOp .eql t x y ty := by exact rfl) (hx : a.eval x = .int .i64 A := by first | exact litEv kr_ | exact LD.litEv kr_) (hy : a.eval y = .int .i64 B := by first | exact litEv kr_ | exact LD.litEv kr_) : (execOp a.eval o).run P w = .ok (.value (.bool true)) w := boolTo (decide_eq_true h) (eqlRun x y ho hx hy)
theorem eqF_ (h : ¬ A = B) (ho : o.op = .binOp .eql t x y ty := by exact rfl) (hx : a.eval x = .int .i64 A := by first | exact litEv kr_ | exact LD.litEv kr_) (hy : a.eval y = .int .i64 B := by first | exact litEv kr_ | exact LD.litEv kr_) : (execOp a.eval o).run P w = .ok (.value (.bool false)) w := boolTo (decide_eq_false h) (eqlRun x y ho hx hy)
theorem neT_ (h : A = B) (ho : o.op = .binOp .neq t x y ty := by exact rfl) (hx : a.eval x = .int .i64 A := by first | exact litEv kr_ | exact LD.litEv kr_) (hy : a.eval y = .int .i64 B := by first | exact litEv kr_ | exact LD.litEv kr_) : (execOp a.eval o).run P w = .ok (.value (.bool false)) w := boolTo (by rw [decide_eq_true h]; rfl) (neqRun x y ho hx hy)
theorem neF_ (h : ¬ A = B) (ho : o.op = .binOp .neq t x y ty := by exact rfl) (hx : a.eval x = .int .i64 A := by first | exact litEv kr_ | exact LD.litEv kr_) (hy : a.eval y = .int .i64 B := by first | exact litEv kr_ | exact LD.litEv kr_) : (execOp a.eval o).run P w = .ok (.value (.bool true)) w := boolTo (by rw [decide_eq_false h]; rfl) (neqRun x y ho hx hy)
theorem ld_ {g : Nat} {cs : List Value} {v : Value} {tb : TypeId} (k j : Nat) (hm : Mem w0 w L) (hj : L[j]? = some (.arr g tb cs) := by exact rfl) (hv : cs[k]? = some v := by kernel_rfl) (ho : o.op = .load ty x := by exact rfl) (hu : ((P.underlying ty).map fun d => match d with | .struct _ | .array _ _ => true | _ => false) = some false := by kernel_rfl) (hx : a.eval x = .pointer (some ⟨g, k, none⟩) := by first | exact litEv kr_ | exact LD.litEv kr_) : (execOp a.eval o).run P w = .ok (.value v) w := gLoad j hm hj hv x hu ho hx
theorem la_ {g n : Nat} {cs vs : List Value} {tb : TypeId} {z : Array Value} (k j : Nat) (hm : Mem w0 w L) (T : AgTy P ty z n) (hj : L[j]? = some (.arr g tb cs) := by exact rfl) (hv : (cs.drop k).take n = vs := by kernel_rfl) (hl : vs.length = n := by kernel_rfl) (ho : o.op = .load ty x := by exact rfl) (hx : a.eval x = .pointer (some ⟨g, k, none⟩) := by first | exact litEv kr_ | exact LD.litEv kr_) : (execOp a.eval o).run P w = .ok (.value (.agg vs.toArray)) w := gLoadAg j hm hj hv hl x T ho hx
theorem lr_ {B size n c m off b : Nat} {A : Option Addr} {xs : List Value} {v : Value} (hr : Rd w B size A n c xs) (hv : xs[m]? = some v) (hpos : 0 < n * size) (hA : A = some ⟨b, off, none⟩ := by exact rfl) (ho : o.op = .load ty x := by exact rfl) (hu : ((P.underlying ty).map fun d => match d with | .struct _ | .array _ _ => true | _ => false) = some false := by kernel_rfl) (hx : a.eval x = .pointer (some ⟨b, off + m, none⟩) := by first | exact litEv kr_ | exact LD.litEv kr_) : (execOp a.eval o).run P w = .ok (.value v) w := gLoadRd hr hA hv hpos x hu ho hx
theorem lar_ {B size n c m k off b : Nat} {A : Option Addr} {xs vs : List Value} {z : Array Value} (hr : Rd w B size A n c xs) (hv : ∀ (i : Nat) (u : Value), vs[i]? = some u → xs[m + i]? = some u) (hpos : 0 < n * size) (T : AgTy P ty z k) (hl : vs.length = k := by kernel_rfl) (hA : A = some ⟨b, off, none⟩ := by exact rfl) (ho : o.op = .load ty x := by exact rfl) (hx : a.eval x = .pointer (some ⟨b, off + m, none⟩) := by first | exact litEv kr_ | exact LD.litEv kr_) : (execOp a.eval o).run P w = .ok (.value (.agg vs.toArray)) w := gLoadAgRd hr hA hv hl hpos x T ho hx
theorem ad_ (A B : Int) (ho : o.op = .binOp .add t x y ty := by exact rfl) (hx : a.eval x = .int .i64 A := by first | exact litEv kr_ | exact LD.litEv kr_) (hy : a.eval y = .int .i64 B := by first | exact litEv kr_ | exact LD.litEv kr_) (h : -9223372036854775808 ≤ A + B ∧ A + B ≤ 9223372036854775807 := by omega) : (execOp a.eval o).run P w = .ok (.value (.int .i64 (A + B))) w := addRun x y ho hx hy rfl h
theorem sb_ (A B : Int) (ho : o.op = .binOp .sub t x y ty := by exact rfl) (hx : a.eval x = .int .i64 A := by first | exact litEv kr_ | exact LD.litEv kr_) (hy : a.eval y = .int .i64 B := by first | exact litEv kr_ | exact LD.litEv kr_) (h : -9223372036854775808 ≤ A - B ∧ A - B ≤ 9223372036854775807 := by omega) : (execOp a.eval o).run P w = .ok (.value (.int .i64 (A - B))) w := subRun x y ho hx hy rfl h
theorem ln_ {e : TypeId} (A : Option Addr) (n c : Nat) (ht : P.underlying t = some (.slice e)) (ho : o.op = .call { callee := .builtin .len, args := #[x], argTypes := #[t] } := by exact rfl) (hx : a.eval x = .slice A n c := by first | exact litEv kr_ | exact LD.litEv kr_) : (execOp a.eval o).run P w = .ok (.value (.int .i64 (n : Int))) w := lenSlRun x ht ho hx
theorem ia_ {e : TypeId} {z : Value} {size bytes b off n : Nat} {K : Int} (c k : Nat) (T : SlTy P t e z size bytes) (hK : K = (k : Int)) (hk : k < n) (ho : o.op = .indexAddr t x y := by exact rfl) (hx : a.eval x = .slice (some ⟨b, off, none⟩) n c := by first | exact litEv kr_ | exact LD.litEv kr_) (hy : a.eval y = .int .i64 K := by first | exact litEv kr_ | exact LD.litEv kr_) : (execOp a.eval o).run P w = .ok (.value (.pointer (some ⟨b, off + k * size, none⟩))) w := gIaSl x y k T ho hx hy hK hk
end
theorem lc_ : (∀ {α : Type} {a : α} {l m : List α}, a :: l ++ m = a :: (l ++ m)) ∧ (∀ {α : Type} {l : List α}, [] ++ l = l) ∧ (∀ {α : Type} {a b : α} {l : List α} {n : Nat}, (a :: l).set (n + 1) b = a :: l.set n b) ∧ ∀ {α : Type} {a b : α} {l : List α}, (a :: l).set 0 b = b :: l := ⟨rfl, rfl, rfl, rfl⟩
section
variable {N : Nat} {X : Nat → Value} {l : List (Nat × Value)} {P : Program} {w w0 : World} {o : Oper} {ops : Array Oper} {Q : Exit → Act → World → Prop} {i : Nat}
theorem lv_ {d : Nat} (hi : ops.toList[i]? = some o) (v : Value) (hr : (execOp (lit N X l).eval o).run P w = .ok (.value v) w) (h : PL P ops Q (i + 1) (lit N X ((d, v) :: l)) w) (hg : o.guard = none := by exact rfl) (hd : o.dst = some d := by exact rfl) (hN : (decide (d < N)) = true := by decide) : PL P ops Q i (lit N X l) w := litVal hi (wn hg) hr hd hN h
theorem lw_ {d j dj : Nat} {b : Bool} {oj : Oper} (hi : ops.toList[i]? = some o) (v : Value) (hr : (execOp (lit N X l).eval o).run P w = .ok (.value v) w) (h : PL P ops Q (i + 1) (lit N X ((d, v) :: l)) w) (hg : o.guard = some (j, b) := by exact rfl) (hj : ops.toList[j]? = some oj := by exact rfl) (hdj : oj.dst = some dj := by exact rfl) (hNj : (decide (dj < N)) = true := by decide) (hv : litEval N X l (.tmp dj) = .bool b := by kernel_rfl) (hd : o.dst = some d := by exact rfl) (hN : (decide (d < N)) = true := by decide) : PL P ops Q i (lit N X l) w := litVal hi (wgY hg hj hdj hNj hv) hr hd hN h
theorem mt_ {L : List Res} {fuel : Nat} {listed : Array Bool} {d : Nat} (i : Nat) (hi : ops.toList[i]? = some o) (v : Value) (hm : Mem w0 w L) (hy : ∀ w, Mem w0 w L → (execOp (lit N X l).eval o).run P w = .ok (.value v) w) (h : MG P ops Q w0 L fuel (listed.setIfInBounds i true) (lit N X ((d, v) :: l)) w) (hg : o.guard = none := by exact rfl) (hf : mayFirst ops listed i = true := by kernel_rfl) (hQ : ∀ c a w, Q (.panic c) (a.put o.dst v) w → Q (.panic c) a w := by exact fun _ _ _ h => h) (hd : o.dst = some d := by exact rfl) (hN : (decide (d < N)) = true := by decide) : MG P ops Q w0 L (fuel + 1) listed (lit N X l) w := mgTake hi hf (wn hg) hQ hm hy (mPut hd hN h)
theorem fo_ {ls : List (Nat × Value)} (h : ls.map (fun p => litEval N X l (.tmp p.1)) = ls.map (·.2) := by kernel_rfl) : FrIs (lit N X l) ls := by
 induction ls with
 | nil => exact trivial
 | cons p ls ih =>
  simp only [List.map_cons, List.cons.injEq] at h
  exact ⟨litGet h.1, ih h.2⟩
end
section
variable {N : Nat} {X : Nat → Value} {l : List (Nat × Value)} {P : Program} {w w0 : World} {o : Oper} {ops : Array Oper} {Q : Exit → Act → World → Prop} {A K : Act → World → Prop} {i : Nat} {a : Act} {y : Code}
theorem li_ {d : Nat} (x : Int) (h : PL P ops Q (i + 1) (lit N X ((d, .int .i64 x) :: l)) w) (hi : ops.toList[i]? = some o := by exact rfl) (hg : o.guard = none := by exact rfl) (hd : o.dst = some d := by exact rfl) (hr : (execOp (litEval N X l) o).run P w = .ok (.value (.int .i64 x)) w := by kernel_rfl) (hN : (decide (d < N)) = true := by decide) : PL P ops Q i (lit N X l) w := litVal hi (wn hg) (litRun hr) hd hN h
theorem lp_ {d : Nat} (g k : Nat) (h : PL P ops Q (i + 1) (lit N X ((d, .pointer (some ⟨g, k, none⟩)) :: l)) w) (hi : ops.toList[i]? = some o := by exact rfl) (hg : o.guard = none := by exact rfl) (hd : o.dst = some d := by exact rfl) (hr : (execOp (litEval N X l) o).run P w = .ok (.value (.pointer (some ⟨g, k, none⟩))) w := by kernel_rfl) (hN : (decide (d < N)) = true := by decide) : PL P ops Q i (lit N X l) w := litVal hi (wn hg) (litRun hr) hd hN h
theorem lT_ {d : Nat}  (h : PL P ops Q (i + 1) (lit N X ((d, .bool true) :: l)) w) (hi : ops.toList[i]? = some o := by exact rfl) (hg : o.guard = none := by exact rfl) (hd : o.dst = some d := by exact rfl) (hr : (execOp (litEval N X l) o).run P w = .ok (.value (.bool true)) w := by kernel_rfl) (hN : (decide (d < N)) = true := by decide) : PL P ops Q i (lit N X l) w := litVal hi (wn hg) (litRun hr) hd hN h
theorem lF_ {d : Nat}  (h : PL P ops Q (i + 1) (lit N X ((d, .bool false) :: l)) w) (hi : ops.toList[i]? = some o := by exact rfl) (hg : o.guard = none := by exact rfl) (hd : o.dst = some d := by exact rfl) (hr : (execOp (litEval N X l) o).run P w = .ok (.value (.bool false)) w := by kernel_rfl) (hN : (decide (d < N)) = true := by decide) : PL P ops Q i (lit N X l) w := litVal hi (wn hg) (litRun hr) hd hN h
theorem br_ {fn : Func} {R : Ending → World → Prop} (t : Tmp) (v : Value) (hR : R (.returned v) w) (hv : litEval N X l (.tmp t) = v := by kernel_rfl) (h : fn.results = #[.tmp t] := by exact rfl) : bodyPost P fn R .ret (lit N X l) w := bodyPost_ret (gRes1 h (gResTmp (litGet hv))) rfl hR
theorem sk_ {x : Code} (h : ∀ K : Act → World → Prop, (∀ a w, y.wp P Q a w → K a w) → x.wp P (Exit.then K Q) a w) : (Code.seq x y).wp P Q a w := wp_seq_k h
theorem sp_ {id : Nat} (h : ∀ K : Act → World → Prop, (∀ a w, y.wp P Q a w → K a w) → PL P ops (Exit.then K Q) 0 a w) : (Code.seq (.region id ops false) y).wp P Q a w := wp_seq_k fun K hK => plStart (h K hK)
theorem pt_ (hK : ∀ a w, A a w → K a w) (h : A a w) (hi : ops.toList.length ≤ i := by decide) : PL P ops (Exit.then K Q) i a w := plDone hi (then_normal (hK _ _ h))
theorem AoFin.o_ {val : Nat → List Nat → Value} {adr : Nat → List Nat} {g : Nat → Nat} (hF : AoFin ops (lit N X l) N val adr g a) (k : Nat) {v : Value} (h1 : aoNo ops k = true := by kernel_rfl) (h2 : litEval N X l (.tmp k) = v := by kernel_rfl) : a.tmps.getD k undef = v := (hF.out k h1).trans (litGet h2)
theorem AoFin.i_ {a0 : Act} {val : Nat → List Nat → Value} {adr : Nat → List Nat} {g : Nat → Nat} {d : Nat} {v : Value} (hF : AoFin ops a0 N val adr g a) (j : Nat) (hi : ops.toList[j]? = some o := by exact rfl) (hd : o.dst = some d := by exact rfl) (h : val j ((adr j).map g) = v := by kernel_rfl) : a.tmps.getD d undef = v := (hF.inn j o d hi hd).trans h
end
section
variable {w w0 : World} {L T : List Res} {r r0 r1 r2 r3 r4 r5 r6 r7 r8 r9 r10 r11 r12 r13 : Res}
theorem Mem.i0 (h : Mem w0 w ((L ++ [r]))) : Mem w0 w (r :: L) := h.perm List.perm_append_comm
theorem Mem.f1 (h : Mem w0 w (r0 :: r :: L)) : Mem w0 w (r :: r0 :: L) := h.front 1 rfl
theorem Mem.i1 (h : Mem w0 w (r0 :: (L ++ [r]))) : Mem w0 w (r0 :: r :: L) := h.perm (List.Perm.cons _ List.perm_append_comm)
theorem Mem.f2 (h : Mem w0 w (r0 :: r1 :: r :: L)) : Mem w0 w (r :: r0 :: r1 :: L) := h.front 2 rfl
theorem Mem.i2 (h : Mem w0 w (r0 :: r1 :: (L ++ [r]))) : Mem w0 w (r0 :: r1 :: r :: L) := h.perm (List.Perm.cons _ (List.Perm.cons _ List.perm_append_comm))
theorem Mem.f3 (h : Mem w0 w (r0 :: r1 :: r2 :: r :: L)) : Mem w0 w (r :: r0 :: r1 :: r2 :: L) := h.front 3 rfl
theorem Mem.i3 (h : Mem w0 w (r0 :: r1 :: r2 :: (L ++ [r]))) : Mem w0 w (r0 :: r1 :: r2 :: r :: L) := h.perm (List.Perm.cons _ (List.Perm.cons _ (List.Perm.cons _ List.perm_append_comm)))
theorem Mem.f4 (h : Mem w0 w (r0 :: r1 :: r2 :: r3 :: r :: L)) : Mem w0 w (r :: r0 :: r1 :: r2 :: r3 :: L) := h.front 4 rfl
theorem Mem.i4 (h : Mem w0 w (r0 :: r1 :: r2 :: r3 :: (L ++ [r]))) : Mem w0 w (r0 :: r1 :: r2 :: r3 :: r :: L) := h.perm (List.Perm.cons _ (List.Perm.cons _ (List.Perm.cons _ (List.Perm.cons _ List.perm_append_comm))))
theorem Mem.f5 (h : Mem w0 w (r0 :: r1 :: r2 :: r3 :: r4 :: r :: L)) : Mem w0 w (r :: r0 :: r1 :: r2 :: r3 :: r4 :: L) := h.front 5 rfl
theorem Mem.i5 (h : Mem w0 w (r0 :: r1 :: r2 :: r3 :: r4 :: (L ++ [r]))) : Mem w0 w (r0 :: r1 :: r2 :: r3 :: r4 :: r :: L) := h.perm (List.Perm.cons _ (List.Perm.cons _ (List.Perm.cons _ (List.Perm.cons _ (List.Perm.cons _ List.perm_append_comm)))))
theorem Mem.f6 (h : Mem w0 w (r0 :: r1 :: r2 :: r3 :: r4 :: r5 :: r :: L)) : Mem w0 w (r :: r0 :: r1 :: r2 :: r3 :: r4 :: r5 :: L) := h.front 6 rfl
theorem Mem.i6 (h : Mem w0 w (r0 :: r1 :: r2 :: r3 :: r4 :: r5 :: (L ++ [r]))) : Mem w0 w (r0 :: r1 :: r2 :: r3 :: r4 :: r5 :: r :: L) := h.perm (List.Perm.cons _ (List.Perm.cons _ (List.Perm.cons _ (List.Perm.cons _ (List.Perm.cons _ (List.Perm.cons _ List.perm_append_comm))))))
theorem Mem.f7 (h : Mem w0 w (r0 :: r1 :: r2 :: r3 :: r4 :: r5 :: r6 :: r :: L)) : Mem w0 w (r :: r0 :: r1 :: r2 :: r3 :: r4 :: r5 :: r6 :: L) := h.front 7 rfl
theorem Mem.i7 (h : Mem w0 w (r0 :: r1 :: r2 :: r3 :: r4 :: r5 :: r6 :: (L ++ [r]))) : Mem w0 w (r0 :: r1 :: r2 :: r3 :: r4 :: r5 :: r6 :: r :: L) := h.perm (List.Perm.cons _ (List.Perm.cons _ (List.Perm.cons _ (List.Perm.cons _ (List.Perm.cons _ (List.Perm.cons _ (List.Perm.cons _ List.perm_append_comm)))))))
theorem Mem.f8 (h : Mem w0 w (r0 :: r1 :: r2 :: r3 :: r4 :: r5 :: r6 :: r7 :: r :: L)) : Mem w0 w (r :: r0 :: r1 :: r2 :: r3 :: r4 :: r5 :: r6 :: r7 :: L) := h.front 8 rfl
theorem Mem.i8 (h : Mem w0 w (r0 :: r1 :: r2 :: r3 :: r4 :: r5 :: r6 :: r7 :: (L ++ [r]))) : Mem w0 w (r0 :: r1 :: r2 :: r3 :: r4 :: r5 :: r6 :: r7 :: r :: L) := h.perm (List.Perm.cons _ (List.Perm.cons _ (List.Perm.cons _ (List.Perm.cons _ (List.Perm.cons _ (List.Perm.cons _ (List.Perm.cons _ (List.Perm.cons _ List.perm_append_comm))))))))
theorem Mem.f9 (h : Mem w0 w (r0 :: r1 :: r2 :: r3 :: r4 :: r5 :: r6 :: r7 :: r8 :: r :: L)) : Mem w0 w (r :: r0 :: r1 :: r2 :: r3 :: r4 :: r5 :: r6 :: r7 :: r8 :: L) := h.front 9 rfl
theorem Mem.i9 (h : Mem w0 w (r0 :: r1 :: r2 :: r3 :: r4 :: r5 :: r6 :: r7 :: r8 :: (L ++ [r]))) : Mem w0 w (r0 :: r1 :: r2 :: r3 :: r4 :: r5 :: r6 :: r7 :: r8 :: r :: L) := h.perm (List.Perm.cons _ (List.Perm.cons _ (List.Perm.cons _ (List.Perm.cons _ (List.Perm.cons _ (List.Perm.cons _ (List.Perm.cons _ (List.Perm.cons _ (List.Perm.cons _ List.perm_append_comm)))))))))
theorem Mem.f10 (h : Mem w0 w (r0 :: r1 :: r2 :: r3 :: r4 :: r5 :: r6 :: r7 :: r8 :: r9 :: r :: L)) : Mem w0 w (r :: r0 :: r1 :: r2 :: r3 :: r4 :: r5 :: r6 :: r7 :: r8 :: r9 :: L) := h.front 10 rfl
theorem Mem.i10 (h : Mem w0 w (r0 :: r1 :: r2 :: r3 :: r4 :: r5 :: r6 :: r7 :: r8 :: r9 :: (L ++ [r]))) : Mem w0 w (r0 :: r1 :: r2 :: r3 :: r4 :: r5 :: r6 :: r7 :: r8 :: r9 :: r :: L) := h.perm (List.Perm.cons _ (List.Perm.cons _ (List.Perm.cons _ (List.Perm.cons _ (List.Perm.cons _ (List.Perm.cons _ (List.Perm.cons _ (List.Perm.cons _ (List.Perm.cons _ (List.Perm.cons _ List.perm_append_comm))))))))))
theorem Mem.f11 (h : Mem w0 w (r0 :: r1 :: r2 :: r3 :: r4 :: r5 :: r6 :: r7 :: r8 :: r9 :: r10 :: r :: L)) : Mem w0 w (r :: r0 :: r1 :: r2 :: r3 :: r4 :: r5 :: r6 :: r7 :: r8 :: r9 :: r10 :: L) := h.front 11 rfl
theorem Mem.i11 (h : Mem w0 w (r0 :: r1 :: r2 :: r3 :: r4 :: r5 :: r6 :: r7 :: r8 :: r9 :: r10 :: (L ++ [r]))) : Mem w0 w (r0 :: r1 :: r2 :: r3 :: r4 :: r5 :: r6 :: r7 :: r8 :: r9 :: r10 :: r :: L) := h.perm (List.Perm.cons _ (List.Perm.cons _ (List.Perm.cons _ (List.Perm.cons _ (List.Perm.cons _ (List.Perm.cons _ (List.Perm.cons _ (List.Perm.cons _ (List.Perm.cons _ (List.Perm.cons _ (List.Perm.cons _ List.perm_append_comm)))))))))))
theorem Mem.f12 (h : Mem w0 w (r0 :: r1 :: r2 :: r3 :: r4 :: r5 :: r6 :: r7 :: r8 :: r9 :: r10 :: r11 :: r :: L)) : Mem w0 w (r :: r0 :: r1 :: r2 :: r3 :: r4 :: r5 :: r6 :: r7 :: r8 :: r9 :: r10 :: r11 :: L) := h.front 12 rfl
theorem Mem.i12 (h : Mem w0 w (r0 :: r1 :: r2 :: r3 :: r4 :: r5 :: r6 :: r7 :: r8 :: r9 :: r10 :: r11 :: (L ++ [r]))) : Mem w0 w (r0 :: r1 :: r2 :: r3 :: r4 :: r5 :: r6 :: r7 :: r8 :: r9 :: r10 :: r11 :: r :: L) := h.perm (List.Perm.cons _ (List.Perm.cons _ (List.Perm.cons _ (List.Perm.cons _ (List.Perm.cons _ (List.Perm.cons _ (List.Perm.cons _ (List.Perm.cons _ (List.Perm.cons _ (List.Perm.cons _ (List.Perm.cons _ (List.Perm.cons _ List.perm_append_comm))))))))))))
theorem Mem.f13 (h : Mem w0 w (r0 :: r1 :: r2 :: r3 :: r4 :: r5 :: r6 :: r7 :: r8 :: r9 :: r10 :: r11 :: r12 :: r :: L)) : Mem w0 w (r :: r0 :: r1 :: r2 :: r3 :: r4 :: r5 :: r6 :: r7 :: r8 :: r9 :: r10 :: r11 :: r12 :: L) := h.front 13 rfl
theorem Mem.i13 (h : Mem w0 w (r0 :: r1 :: r2 :: r3 :: r4 :: r5 :: r6 :: r7 :: r8 :: r9 :: r10 :: r11 :: r12 :: (L ++ [r]))) : Mem w0 w (r0 :: r1 :: r2 :: r3 :: r4 :: r5 :: r6 :: r7 :: r8 :: r9 :: r10 :: r11 :: r12 :: r :: L) := h.perm (List.Perm.cons _ (List.Perm.cons _ (List.Perm.cons _ (List.Perm.cons _ (List.Perm.cons _ (List.Perm.cons _ (List.Perm.cons _ (List.Perm.cons _ (List.Perm.cons _ (List.Perm.cons _ (List.Perm.cons _ (List.Perm.cons _ (List.Perm.cons _ List.perm_append_comm)))))))))))))
end
section
variable {P : Program} {ops : Array Oper} {Q : Exit → Act → World → Prop} {w0 : World} {N : Nat} {X : Nat → Value} {l : List (Nat × Value)} {val : Nat → List Nat → Value} {adr : Nat → List Nat} {L : (Nat → Bool) → (Nat → Nat) → List Res} {i : Nat} {o : Oper}
def liA (ops : Array Oper) (N : Nat) (X : Nat → Value) (val : Nat → List Nat → Value) (adr : Nat → List Nat) (l : List (Nat × Value)) (i : Nat) (g : Nat → Nat) : List (Nat × Value) :=
 (List.range ops.toList.length).filterMap (fun j => if waitsFor ops i j = true then (ops.toList[j]?).bind fun o => o.dst.map fun d => (d, val j ((adr j).map g)) else none) ++ (l.filter fun p => aoOut ops i p.1).map fun p => (p.1, litEval N X l (.tmp p.1))
theorem frIs_all {a : Act} : ∀ {ls : List (Nat × Value)}, (∀ p ∈ ls, a.tmps.getD p.1 undef = p.2) → FrIs a ls
 | [], _ => trivial
 | p :: ls, h => ⟨h p List.mem_cons_self, frIs_all fun q hq => h q (List.mem_cons_of_mem _ hq)⟩
theorem liA_ok (g : Nat → Nat) (a : Act) (h : AoKn ops (lit N X l) N val adr i g a) : FrIs a (liA ops N X val adr l i g) := by
 refine frIs_all fun p hp => ?_
 rcases List.mem_append.1 hp with hp | hp
 ·obtain ⟨j, _, hj⟩ := List.mem_filterMap.1 hp
  by_cases hw : waitsFor ops i j = true
  ·rw [if_pos hw] at hj
   obtain ⟨o, ho, hj⟩ := Option.bind_eq_some_iff.1 hj
   obtain ⟨d, hd, rfl⟩ := Option.map_eq_some_iff.1 hj
   exact h.inn j o d hw ho hd
  ·rw [if_neg hw] at hj; cases hj
 ·obtain ⟨q, hq, rfl⟩ := List.mem_map.1 hp
  exact (h.out q.1 (List.mem_filter.1 hq).2).trans (litGet rfl)
theorem aoV_ (hr : ∀ b g X' w, AoB ops i b → Mem w0 w (L b g) → (execOp (lit N X' (liA ops N X val adr l i g)).eval o).run P w = .ok (.value (val i ((adr i).map g))) w) (hg : o.guard = none := by exact rfl) (hL : ∀ b g, L (upd b i true) g = L b g := by intro _ _; kernel_rfl) : AoStep P ops Q w0 (lit N X l) N val adr L i o := aoVal (liA ops N X val adr l i) liA_ok (fun _ _ => wn hg) hL hr
theorem aoK_ (hr : ∀ g X' w, (execOp (litEval N X' (liA ops N X val adr l i g)) o).run P w = .ok (.value (val i ((adr i).map g))) w := by intro _ _ _; kernel_rfl) (hg : o.guard = none := by exact rfl) (hL : ∀ b g, L (upd b i true) g = L b g := by intro _ _; kernel_rfl) : AoStep P ops Q w0 (lit N X l) N val adr L i o := aoV_ (fun _ g X' w _ _ => litRun (hr g X' w)) hg hL
theorem aoC_ {c : Operand} {args : Array Operand} {argTypes : Array TypeId} (f : FuncId) (vals : (Nat → Nat) → List Value) (first caps : List Value)
 (hC : ∀ b g w, AoB ops i b → Mem w0 w (L b g) → Calls P f (first ++ vals g ++ caps).toArray w (fun e w' => e = .returned (val i ((adr i).map g)) ∧ Below w.heap.size w w')) (hf : callable P f = true := by kernel_rfl) (hg : o.guard = none := by exact rfl) (hL : ∀ b g, L (upd b i true) g = L b g := by intro _ _; kernel_rfl) (ho : o.op = .call { callee := .value c, args, argTypes } := by exact rfl)
 (hc : ∀ g X', (lit N X' (liA ops N X val adr l i g)).eval c = .func (.func f) first.toArray caps.toArray := by intro _ _; exact litEv kr_) (hargs : ∀ g X', args.toList.map (lit N X' (liA ops N X val adr l i g)).eval = vals g := by intro _ _; exact litArgs kr_) : AoStep P ops Q w0 (lit N X l) N val adr L i o := aoCall (liA ops N X val adr l i) liA_ok f vals first caps hf (fun _ _ => wn hg) hL ho hc hargs hC
end
namespace LD
section
variable {ds : List Deferred} {N : Nat} {X : Nat → Value} {l : List (Nat × Value)} {P : Program} {w w0 : World} {o : Oper} {ops : Array Oper} {Q : Exit → Act → World → Prop} {i : Nat}
theorem lv_ {d : Nat} (hi : ops.toList[i]? = some o) (v : Value) (hr : (execOp (lit ds N X l).eval o).run P w = .ok (.value v) w) (h : PL P ops Q (i + 1) (lit ds N X ((d, v) :: l)) w) (hg : o.guard = none := by exact rfl) (hd : o.dst = some d := by exact rfl) (hN : (decide (d < N)) = true := by decide) : PL P ops Q i (lit ds N X l) w := litVal hi (wn hg) hr hd hN h
theorem lw_ {d j dj : Nat} {b : Bool} {oj : Oper} (hi : ops.toList[i]? = some o) (v : Value) (hr : (execOp (lit ds N X l).eval o).run P w = .ok (.value v) w) (h : PL P ops Q (i + 1) (lit ds N X ((d, v) :: l)) w) (hg : o.guard = some (j, b) := by exact rfl) (hj : ops.toList[j]? = some oj := by exact rfl) (hdj : oj.dst = some dj := by exact rfl) (hNj : (decide (dj < N)) = true := by decide) (hv : litEval N X l (.tmp dj) = .bool b := by kernel_rfl) (hd : o.dst = some d := by exact rfl) (hN : (decide (d < N)) = true := by decide) : PL P ops Q i (lit ds N X l) w := litVal hi (wgY hg hj hdj hNj hv) hr hd hN h
theorem mt_ {L : List Res} {fuel : Nat} {listed : Array Bool} {d : Nat} (i : Nat) (hi : ops.toList[i]? = some o) (v : Value) (hm : Mem w0 w L) (hy : ∀ w, Mem w0 w L → (execOp (lit ds N X l).eval o).run P w = .ok (.value v) w) (h : MG P ops Q w0 L fuel (listed.setIfInBounds i true) (lit ds N X ((d, v) :: l)) w) (hg : o.guard = none := by exact rfl) (hf : mayFirst ops listed i = true := by kernel_rfl) (hQ : ∀ c a w, Q (.panic c) (a.put o.dst v) w → Q (.panic c) a w := by exact fun _ _ _ h => h) (hd : o.dst = some d := by exact rfl) (hN : (decide (d < N)) = true := by decide) : MG P ops Q w0 L (fuel + 1) listed (lit ds N X l) w := mgTake hi hf (wn hg) hQ hm hy (mPut hd hN h)
theorem fo_ {ls : List (Nat × Value)} (h : ls.map (fun p => litEval N X l (.tmp p.1)) = ls.map (·.2) := by kernel_rfl) : FrIs (lit ds N X l) ls := by
 induction ls with
 | nil => exact trivial
 | cons p ls ih =>
  simp only [List.map_cons, List.cons.injEq] at h
  exact ⟨litGet h.1, ih h.2⟩
end
section
variable {ds : List Deferred} {N : Nat} {X : Nat → Value} {l : List (Nat × Value)} {o : Oper} {ops : Array Oper} {a : Act}
theorem AoFin.o_ {val : Nat → List Nat → Value} {adr : Nat → List Nat} {g : Nat → Nat} (hF : AoFin ds ops (lit ds N X l) N val adr g a) (k : Nat) {v : Value} (h1 : aoNo ops k = true := by kernel_rfl) (h2 : litEval N X l (.tmp k) = v := by kernel_rfl) : a.tmps.getD k undef = v := (hF.out k h1).trans (litGet h2)
theorem AoFin.i_ {a0 : Act} {val : Nat → List Nat → Value} {adr : Nat → List Nat} {g : Nat → Nat} {d : Nat} {v : Value} (hF : AoFin ds ops a0 N val adr g a) (j : Nat) (hi : ops.toList[j]? = some o := by exact rfl) (hd : o.dst = some d := by exact rfl) (h : val j ((adr j).map g) = v := by kernel_rfl) : a.tmps.getD d undef = v := (hF.inn j o d hi hd).trans h
end
section
variable {ds : List Deferred} {P : Program} {ops : Array Oper} {Q : Exit → Act → World → Prop} {w0 : World} {N : Nat} {X : Nat → Value} {l : List (Nat × Value)} {val : Nat → List Nat → Value} {adr : Nat → List Nat} {L : (Nat → Bool) → (Nat → Nat) → List Res} {i : Nat} {o : Oper}
theorem liA_ok (g : Nat → Nat) (a : Act) (h : AoKn ds ops (lit ds N X l) N val adr i g a) : FrIs a (liA ops N X val adr l i g) := by
 refine frIs_all fun p hp => ?_
 rcases List.mem_append.1 hp with hp | hp
 ·obtain ⟨j, _, hj⟩ := List.mem_filterMap.1 hp
  by_cases hw : waitsFor ops i j = true
  ·rw [if_pos hw] at hj
   obtain ⟨o, ho, hj⟩ := Option.bind_eq_some_iff.1 hj
   obtain ⟨d, hd, rfl⟩ := Option.map_eq_some_iff.1 hj
   exact h.inn j o d hw ho hd
  ·rw [if_neg hw] at hj; cases hj
 ·obtain ⟨q, hq, rfl⟩ := List.mem_map.1 hp
  exact (h.out q.1 (List.mem_filter.1 hq).2).trans (litGet rfl)
theorem aoV_ (hr : ∀ b g X' w, AoB ops i b → Mem w0 w (L b g) → (execOp (lit ds N X' (liA ops N X val adr l i g)).eval o).run P w = .ok (.value (val i ((adr i).map g))) w) (hg : o.guard = none := by exact rfl) (hL : ∀ b g, L (upd b i true) g = L b g := by intro _ _; kernel_rfl) : AoStep ds P ops Q w0 (lit ds N X l) N val adr L i o := aoVal (liA ops N X val adr l i) liA_ok (fun _ _ => wn hg) hL hr
theorem aoK_ (hr : ∀ g X' w, (execOp (litEval N X' (liA ops N X val adr l i g)) o).run P w = .ok (.value (val i ((adr i).map g))) w := by intro _ _ _; kernel_rfl) (hg : o.guard = none := by exact rfl) (hL : ∀ b g, L (upd b i true) g = L b g := by intro _ _; kernel_rfl) : AoStep ds P ops Q w0 (lit ds N X l) N val adr L i o := aoV_ (fun _ g X' w _ _ => litRun (hr g X' w)) hg hL
theorem aoC_ {c : Operand} {args : Array Operand} {argTypes : Array TypeId} (f : FuncId) (vals : (Nat → Nat) → List Value) (first caps : List Value)
 (hC : ∀ b g w, AoB ops i b → Mem w0 w (L b g) → Calls P f (first ++ vals g ++ caps).toArray w (fun e w' => e = .returned (val i ((adr i).map g)) ∧ Below w.heap.size w w')) (hf : callable P f = true := by kernel_rfl) (hg : o.guard = none := by exact rfl) (hL : ∀ b g, L (upd b i true) g = L b g := by intro _ _; kernel_rfl) (ho : o.op = .call { callee := .value c, args, argTypes } := by exact rfl)
 (hc : ∀ g X', (lit ds N X' (liA ops N X val adr l i g)).eval c = .func (.func f) first.toArray caps.toArray := by intro _ _; exact litEv kr_) (hargs : ∀ g X', args.toList.map (lit ds N X' (liA ops N X val adr l i g)).eval = vals g := by intro _ _; exact litArgs kr_) : AoStep ds P ops Q w0 (lit ds N X l) N val adr L i o := aoCall (liA ops N X val adr l i) liA_ok f vals first caps hf (fun _ _ => wn hg) hL ho hc hargs hC
end
end LD
end Go.Proofs.YtbpihalphhoiaaaGreatDoor
