/-
  RD: several texts in one. No statement is proved here.
-/
import Derived.Test.YtopdcdjmiepdfaaRB
import Derived.Test.YtopdcdjmiepdfaaRC
set_option linter.unusedVariables false
set_option linter.unusedSimpArgs false
namespace Go.Proofs.Ytopdcdjmiepdfaa
open Go.RowKit
def pcs (p : Pt) : List Value := [.int .i64 p.x, .int .i64 p.y, .int .i64 p.z]
def tcs (t : Int × Int) : List Value := [.int .i64 t.1, .int .i64 t.2]
def axs (x : Axis) : List Value := [.int .i64 x.pos, .int .i64 x.step, .int .i64 x.n, .int .i64 x.d]
def bxs (b : Bx) : List Value := pcs b.mn ++ pcs b.mx
def bts (u : Btw) : List Value := tcs u.a ++ tcs u.b ++ [.bool u.ok]
def a3 (s : Ax3) : List Value := axs s.x ++ axs s.y ++ axs s.z
def ptsC (l : List Pt) : List Value := l.flatMap pcs
def RetV (w : World) (v : Value) (e : Ending) (w' : World) : Prop := e = .returned v ∧ Below w.heap.size w w'
theorem callsTo {P : Program} {f : FuncId} {args : Array Value} {w : World} {v v' : Value} (h : v = v') (hc : Calls P f args w (RetV w v)) : Calls P f args w (RetV w v') := h ▸ hc
theorem pcs_inj {p q : Pt} : pcs p = pcs q ↔ p = q := by
  cases p; cases q
  simp [pcs]
section
variable {P : Program} {w : World} {o : Oper} {a : Act} {t ty : TypeId}
/-- '==' and '!=' of points. -/
theorem eqPtRun (x y : Operand) (p q : Pt) (hf : flatInts P 2 t = true) (hu : ((P.underlying t).map fun d => match d with | .struct _ => true | _ => false) = some true) (hg : P.eqGuardType P.depth t = false) (hl : 3 = P.cellsOf t)
    (ho : o.op = .binOp .eql t x y ty) (hx : a.eval x = .agg (pcs p).toArray) (hy : a.eval y = .agg (pcs q).toArray) : (execOp a.eval o).run P w = .ok (.value (.bool (decide (p = q)))) w := by
  exact eqlAgRun 1 x y (pcs p) (pcs q) (decide (p = q)) (by rw [decide_eq_true_iff, pcs_inj]) hf rfl hu hg hl rfl ho hx hy
theorem neqPtRun (x y : Operand) (p q : Pt) (hf : flatInts P 2 t = true) (hu : ((P.underlying t).map fun d => match d with | .struct _ => true | _ => false) = some true) (hg : P.eqGuardType P.depth t = false) (hl : 3 = P.cellsOf t)
    (ho : o.op = .binOp .neq t x y ty) (hx : a.eval x = .agg (pcs p).toArray) (hy : a.eval y = .agg (pcs q).toArray) : (execOp a.eval o).run P w = .ok (.value (.bool !decide (p = q))) w := by
  exact neqAgRun 1 x y (pcs p) (pcs q) (decide (p = q)) (by rw [decide_eq_true_iff, pcs_inj]) hf rfl hu hg hl rfl ho hx hy
/-- A product that fits. -/
theorem mulRun' {A B C : Int} (x y : Operand) (ho : o.op = .binOp .mul t x y ty) (hx : a.eval x = .int .i64 A) (hy : a.eval y = .int .i64 B) (hC : A * B = C) (h : -9223372036854775808 ≤ C ∧ C ≤ 9223372036854775807) : (execOp a.eval o).run P w = .ok (.value (.int .i64 C)) w := by
  have hw := IntWalk.i64_in C h
  subst hC
  unfold execOp
  simp [ho, hx, hy, eqGuard, binOp_mul, Op.intArith, hw]
end
/-- Numbers of a time that is multiplied without overflow. -/
abbrev Tsm (t : Int × Int) : Prop := Tm30 t
theorem tsm_lit {x y : Int} (hx : decide (-1073741824 ≤ x ∧ x ≤ 1073741824) = true) (hy : decide (-1073741824 ≤ y ∧ y ≤ 1073741824) = true) : Tsm (x, y) := ⟨of_decide_eq_true hx, of_decide_eq_true hy⟩
theorem mul_in {a b : Int} (ha : -1073741824 ≤ a ∧ a ≤ 1073741824) (hb : -1073741824 ≤ b ∧ b ≤ 1073741824) : -9223372036854775808 ≤ a * b ∧ a * b ≤ 9223372036854775807 := by
  have h1 : (a * b).natAbs ≤ 1073741824 * 1073741824 := by rw [Int.natAbs_mul]; exact Nat.mul_le_mul (by omega) (by omega)
  omega
theorem ptsC_len (l : List Pt) : (ptsC l).length = l.length * 3 := by
  induction l with
  | nil => rfl
  | cons p l ih =>
    show (pcs p ++ ptsC l).length = _
    rw [List.length_append, ih, List.length_cons, Nat.add_mul, Nat.add_comm]; rfl
theorem ptsC_cons (p : Pt) (l : List Pt) : ptsC (p :: l) = pcs p ++ ptsC l := rfl
theorem ptsC_app (l m : List Pt) : ptsC (l ++ m) = ptsC l ++ ptsC m := List.flatMap_append
theorem ptsC_get {p : Pt} : ∀ {l : List Pt} {k : Nat}, l[k]? = some p → ∀ (i : Nat) (u : Value), (pcs p)[i]? = some u → (ptsC l)[k * 3 + i]? = some u
  | [], k, h, _, _, _ => by simp at h
  | q :: l, 0, h, i, u, hu => by
    simp at h; subst h
    have hi : i < 3 := (List.getElem?_eq_some_iff.1 hu).1
    rw [ptsC_cons, List.getElem?_append_left (by show _ < 3; omega), Nat.zero_mul, Nat.zero_add]
    exact hu
  | q :: l, k + 1, h, i, u, hu => by
    rw [ptsC_cons, List.getElem?_append_right (by show 3 ≤ _; omega)]
    have e : (k + 1) * 3 + i - (pcs q).length = k * 3 + i := by show (k + 1) * 3 + i - 3 = _; omega
    rw [e]
    exact ptsC_get (l := l) (by simpa using h) i u hu
theorem rngAll_succ {l : List Pt} {k : Nat} {p : Pt} (hp : l[k]? = some p) (h : ∀ q ∈ l.take k, q.rng) (h1 : p.rng) : ∀ q ∈ l.take (k + 1), q.rng := by
  intro q hq
  rw [List.take_add_one, List.mem_append, hp] at hq
  rcases hq with hq | hq
  · exact h q hq
  · simp at hq; rw [hq]; exact h1
theorem rng2 (a b : Pt) : decide (∀ p ∈ [a, b], p.rng) = decide (a.rng ∧ b.rng) := by simp
theorem rng3 (a b c : Pt) : decide (∀ p ∈ [a, b, c], p.rng) = decide (a.rng ∧ b.rng ∧ c.rng) := by simp
theorem gMax3 {P : Program} {w : World} {o : Oper} {a : Act} {t : TypeId} {A B C : Int} (x y z : Operand) (ho : o.op = .call { callee := .builtin .max, args := #[x, y, z], argTypes := #[t, t, t] }) (hx : a.eval x = .int .i64 A) (hy : a.eval y = .int .i64 B) (hz : a.eval z = .int .i64 C) : (execOp a.eval o).run P w = .ok (.value (.int .i64 (max (max A B) C))) w := by
  unfold execOp
  simp [ho, hx, hy, hz, resolve, invoke, builtin, Builtin.max_, Builtin.max2]
  by_cases h : A < B
  · by_cases h2 : B < C
    · simp only [h, h2, if_true]; omega
    · simp only [h, h2, if_true, if_false]; omega
  · by_cases h2 : A < C
    · simp only [h, h2, if_true, if_false]; omega
    · simp only [h, h2, if_false]; omega
end Go.Proofs.Ytopdcdjmiepdfaa
namespace Go.Proofs.Ytopdcdjmiepdfaa
open Go.RowKit
set_option linter.unusedVariables false
set_option linter.unusedSimpArgs false
set_option maxRecDepth 100000 in
set_option maxHeartbeats 4000000 in
theorem coordinates_any (p : Pt) (w : World) : Calls Try.prog 36 #[.agg (pcs p).toArray] w (RetV w (.agg (pcs p).toArray)) := by
  have hm0 := Mem.nil w
  go_enter Try.func36, Try.ntmps36
  refine litStart 10 [(0, .agg (pcs p).toArray)] (by kernel_rfl) (fun X0 => ?_)
  refine wp_seq_k fun K1 hK1 => ?_
  refine plStart ?_
  refine plBox hm0 (cs := pcs p) (i := 0) rfl (wn rfl) rfl (litEv (by kernel_rfl)) ?_
  intro g2 w4 hm3
  clear hm0
  try simp only [List.cons_append, List.nil_append, List.set_cons_succ, List.set_cons_zero] at hm3
  refine qP rfl ?_
  refine plAlloc (z := [.int .i64 0, .int .i64 0, .int .i64 0]) Ty.ag_3_int hm3 (i := 1) rfl (wn rfl) rfl ?_
  intro g5 w7 hm6
  clear hm3
  try simp only [List.cons_append, List.nil_append, List.set_cons_succ, List.set_cons_zero] at hm6
  refine qP rfl ?_
  refine plD ?_
  refine then_normal (hK1 _ _ ?_)
  refine wp_seq_k fun K8 hK8 => ?_
  refine plStart ?_
  refine lk (v := .pointer (some ⟨g2, 0, none⟩)) rfl rfl rfl ?_
  refine litVal (v := .int .i64 p.x) rfl (wn rfl) (gLoad (v := .int .i64 p.x) (k := 0) 0 hm6 rfl (by kernel_rfl) (.tmp 3) (by kernel_rfl) rfl (litEv (by kernel_rfl))) rfl (by decide) ?_
  refine lk (v := .pointer (some ⟨g2, 1, none⟩)) rfl rfl rfl ?_
  refine litVal (v := .int .i64 p.y) rfl (wn rfl) (gLoad (v := .int .i64 p.y) (k := 1) 0 hm6 rfl (by kernel_rfl) (.tmp 5) (by kernel_rfl) rfl (litEv (by kernel_rfl))) rfl (by decide) ?_
  refine lk (v := .pointer (some ⟨g2, 2, none⟩)) rfl rfl rfl ?_
  refine litVal (v := .int .i64 p.z) rfl (wn rfl) (gLoad (v := .int .i64 p.z) (k := 2) 0 hm6 rfl (by kernel_rfl) (.tmp 7) (by kernel_rfl) rfl (litEv (by kernel_rfl))) rfl (by decide) ?_
  refine lk (v := .agg (pcs p).toArray) rfl rfl rfl ?_
  refine plStore 1 Ty.ag_3_int hm6 rfl (i := 7) (cs := pcs p) rfl (wn rfl) rfl (litEv (by kernel_rfl)) (litEv (by kernel_rfl)) rfl rfl (by kernel_rfl) ?_
  intro w10 hm9
  clear hm6
  try simp only [List.cons_append, List.nil_append, List.set_cons_succ, List.set_cons_zero] at hm9
  refine qNone rfl ?_
  refine plD ?_
  refine then_normal (hK8 _ _ ?_)
  refine wp_ret ?_
  refine bodyPost_ret (v := .agg (pcs p).toArray) (gRes1 rfl (gResAg (cs := pcs p) 1 hm9 rfl Ty.ag_3_int rfl (litGet (by kernel_rfl)))) rfl ?_
  exact ⟨by rfl, hm9.bel⟩
set_option maxRecDepth 100000 in
set_option maxHeartbeats 4000000 in
theorem list_any (p : Pt) (w : World) : Calls Try.prog 45 #[.agg (pcs p).toArray] w (RetV w (.agg (pcs p).toArray)) := by
  have hm0 := Mem.nil w
  go_enter Try.func45, Try.ntmps45
  refine litStart 10 [(0, .agg (pcs p).toArray)] (by kernel_rfl) (fun X0 => ?_)
  refine wp_seq_k fun K1 hK1 => ?_
  refine plStart ?_
  refine plBox hm0 (cs := pcs p) (i := 0) rfl (wn rfl) rfl (litEv (by kernel_rfl)) ?_
  intro g2 w4 hm3
  clear hm0
  try simp only [List.cons_append, List.nil_append, List.set_cons_succ, List.set_cons_zero] at hm3
  refine qP rfl ?_
  refine plAlloc (z := [.int .i64 0, .int .i64 0, .int .i64 0]) Ty.ag_3_int hm3 (i := 1) rfl (wn rfl) rfl ?_
  intro g5 w7 hm6
  clear hm3
  try simp only [List.cons_append, List.nil_append, List.set_cons_succ, List.set_cons_zero] at hm6
  refine qP rfl ?_
  refine plD ?_
  refine then_normal (hK1 _ _ ?_)
  refine wp_seq_k fun K8 hK8 => ?_
  refine plStart ?_
  refine lk (v := .pointer (some ⟨g2, 0, none⟩)) rfl rfl rfl ?_
  refine litVal (v := .int .i64 p.x) rfl (wn rfl) (gLoad (v := .int .i64 p.x) (k := 0) 0 hm6 rfl (by kernel_rfl) (.tmp 3) (by kernel_rfl) rfl (litEv (by kernel_rfl))) rfl (by decide) ?_
  refine lk (v := .pointer (some ⟨g2, 1, none⟩)) rfl rfl rfl ?_
  refine litVal (v := .int .i64 p.y) rfl (wn rfl) (gLoad (v := .int .i64 p.y) (k := 1) 0 hm6 rfl (by kernel_rfl) (.tmp 5) (by kernel_rfl) rfl (litEv (by kernel_rfl))) rfl (by decide) ?_
  refine lk (v := .pointer (some ⟨g2, 2, none⟩)) rfl rfl rfl ?_
  refine litVal (v := .int .i64 p.z) rfl (wn rfl) (gLoad (v := .int .i64 p.z) (k := 2) 0 hm6 rfl (by kernel_rfl) (.tmp 7) (by kernel_rfl) rfl (litEv (by kernel_rfl))) rfl (by decide) ?_
  refine lk (v := .agg (pcs p).toArray) rfl rfl rfl ?_
  refine plStore 1 Ty.ag_3_int hm6 rfl (i := 7) (cs := pcs p) rfl (wn rfl) rfl (litEv (by kernel_rfl)) (litEv (by kernel_rfl)) rfl rfl (by kernel_rfl) ?_
  intro w10 hm9
  clear hm6
  try simp only [List.cons_append, List.nil_append, List.set_cons_succ, List.set_cons_zero] at hm9
  refine qNone rfl ?_
  refine plD ?_
  refine then_normal (hK8 _ _ ?_)
  refine wp_ret ?_
  refine bodyPost_ret (v := .agg (pcs p).toArray) (gRes1 rfl (gResAg (cs := pcs p) 1 hm9 rfl Ty.ag_3_int rfl (litGet (by kernel_rfl)))) rfl ?_
  exact ⟨by rfl, hm9.bel⟩
set_option maxRecDepth 100000 in
set_option maxHeartbeats 4000000 in
theorem at_any (x y z : Int) (w : World) : Calls Try.prog 25 #[.int .i64 x, .int .i64 y, .int .i64 z] w (RetV w (.agg (pcs ⟨x, y, z⟩).toArray)) := by
  have hm0 := Mem.nil w
  go_enter Try.func25, Try.ntmps25
  refine litStart 11 [(0, .int .i64 x), (1, .int .i64 y), (2, .int .i64 z)] (by kernel_rfl) (fun X0 => ?_)
  refine wp_seq_k fun K1 hK1 => ?_
  refine plStart ?_
  refine plAlloc (z := [.int .i64 0, .int .i64 0, .int .i64 0]) Ty.ag_voxel_api_Point hm0 (i := 0) rfl (wn rfl) rfl ?_
  intro g2 w4 hm3
  clear hm0
  try simp only [List.cons_append, List.nil_append, List.set_cons_succ, List.set_cons_zero] at hm3
  refine qP rfl ?_
  refine plD ?_
  refine then_normal (hK1 _ _ ?_)
  refine wp_seq_k fun K5 hK5 => ?_
  refine plStart ?_
  refine lk (v := .int .i64 x) rfl rfl rfl ?_
  refine lk (v := .int .i64 y) rfl rfl rfl ?_
  refine lk (v := .int .i64 z) rfl rfl rfl ?_
  refine lk (v := .agg (pcs ⟨x, y, z⟩).toArray) rfl rfl rfl ?_
  refine plStore 0 Ty.ag_voxel_api_Point hm3 rfl (i := 4) (cs := pcs ⟨x, y, z⟩) rfl (wn rfl) rfl (litEv (by kernel_rfl)) (litEv (by kernel_rfl)) rfl rfl (by kernel_rfl) ?_
  intro w7 hm6
  clear hm3
  try simp only [List.cons_append, List.nil_append, List.set_cons_succ, List.set_cons_zero] at hm6
  refine qNone rfl ?_
  refine plD ?_
  refine then_normal (hK5 _ _ ?_)
  refine wp_ret ?_
  refine bodyPost_ret (v := .agg (pcs ⟨x, y, z⟩).toArray) (gRes1 rfl (gResAg (cs := pcs ⟨x, y, z⟩) 0 hm6 rfl Ty.ag_voxel_api_Point rfl (litGet (by kernel_rfl)))) rfl ?_
  exact ⟨by rfl, hm6.bel⟩
set_option maxRecDepth 100000 in
set_option maxHeartbeats 4000000 in
theorem before_any (t u : Int × Int) (ht : Tsm t) (hu : Tsm u) (w : World) : Calls Try.prog 37 #[.agg (tcs t).toArray, .agg (tcs u).toArray] w (RetV w (.bool (tltb t u))) := by
  have ht1_ := ht.1
  have ht2_ := ht.2
  have hu1_ := hu.1
  have hu2_ := hu.2
  have hm0 := Mem.nil w
  go_enter Try.func37, Try.ntmps37
  refine litStart 16 [(0, .agg (tcs t).toArray), (1, .agg (tcs u).toArray)] (by kernel_rfl) (fun X0 => ?_)
  refine wp_seq_k fun K1 hK1 => ?_
  refine plStart ?_
  refine plBox hm0 (cs := tcs t) (i := 0) rfl (wn rfl) rfl (litEv (by kernel_rfl)) ?_
  intro g2 w4 hm3
  clear hm0
  try simp only [List.cons_append, List.nil_append, List.set_cons_succ, List.set_cons_zero] at hm3
  refine qP rfl ?_
  refine plBox hm3 (cs := tcs u) (i := 1) rfl (wn rfl) rfl (litEv (by kernel_rfl)) ?_
  intro g5 w7 hm6
  clear hm3
  try simp only [List.cons_append, List.nil_append, List.set_cons_succ, List.set_cons_zero] at hm6
  refine qP rfl ?_
  refine lk (v := .bool false) rfl rfl rfl ?_
  refine plD ?_
  refine then_normal (hK1 _ _ ?_)
  refine wp_seq_k fun K8 hK8 => ?_
  refine plStart ?_
  refine lk (v := .pointer (some ⟨g2, 0, none⟩)) rfl rfl rfl ?_
  refine litVal (v := .int .i64 t.1) rfl (wn rfl) (gLoad (v := .int .i64 t.1) (k := 0) 0 hm6 rfl (by kernel_rfl) (.tmp 5) (by kernel_rfl) rfl (litEv (by kernel_rfl))) rfl (by decide) ?_
  refine lk (v := .pointer (some ⟨g5, 1, none⟩)) rfl rfl rfl ?_
  refine litVal (v := .int .i64 u.2) rfl (wn rfl) (gLoad (v := .int .i64 u.2) (k := 1) 1 hm6 rfl (by kernel_rfl) (.tmp 7) (by kernel_rfl) rfl (litEv (by kernel_rfl))) rfl (by decide) ?_
  refine litVal (v := .int .i64 (t.1 * u.2)) rfl (wn rfl) (mulRun' (A := t.1) (B := u.2) (.tmp 6) (.tmp 8) rfl (litEv (by kernel_rfl)) (litEv (by kernel_rfl)) rfl (by first | omega | exact mul_in (by omega) (by omega))) rfl (by decide) ?_
  refine lk (v := .pointer (some ⟨g5, 0, none⟩)) rfl rfl rfl ?_
  refine litVal (v := .int .i64 u.1) rfl (wn rfl) (gLoad (v := .int .i64 u.1) (k := 0) 1 hm6 rfl (by kernel_rfl) (.tmp 10) (by kernel_rfl) rfl (litEv (by kernel_rfl))) rfl (by decide) ?_
  refine lk (v := .pointer (some ⟨g2, 1, none⟩)) rfl rfl rfl ?_
  refine litVal (v := .int .i64 t.2) rfl (wn rfl) (gLoad (v := .int .i64 t.2) (k := 1) 0 hm6 rfl (by kernel_rfl) (.tmp 12) (by kernel_rfl) rfl (litEv (by kernel_rfl))) rfl (by decide) ?_
  refine litVal (v := .int .i64 (u.1 * t.2)) rfl (wn rfl) (mulRun' (A := u.1) (B := t.2) (.tmp 11) (.tmp 13) rfl (litEv (by kernel_rfl)) (litEv (by kernel_rfl)) rfl (by first | omega | exact mul_in (by omega) (by omega))) rfl (by decide) ?_
  by_cases h9 : (t.1 * u.2) < (u.1 * t.2)
  · refine litVal (v := .bool true) rfl (wn rfl) (boolTo (decide_eq_true h9) (lssRun (A := (t.1 * u.2)) (B := (u.1 * t.2)) (.tmp 9) (.tmp 14) rfl (litEv (by kernel_rfl)) (litEv (by kernel_rfl)))) rfl (by decide) ?_
    refine lk (v := .bool true) rfl rfl rfl ?_
    refine plD ?_
    refine then_normal (hK8 _ _ ?_)
    refine wpPrune [(4, .bool true)] ⟨litGet (by kernel_rfl), trivial⟩ (fun X10 => ?_)
    refine wp_ret ?_
    refine bodyPost_ret (v := .bool true) (gRes1 rfl (gResTmp (t := 4) (v := .bool true) (litGet (by kernel_rfl)))) rfl ?_
    exact ⟨congrArg (fun b_ => Ending.returned (.bool b_)) (by unfold tltb; simp_all), hm6.bel⟩
  refine litVal (v := .bool false) rfl (wn rfl) (boolTo (decide_eq_false h9) (lssRun (A := (t.1 * u.2)) (B := (u.1 * t.2)) (.tmp 9) (.tmp 14) rfl (litEv (by kernel_rfl)) (litEv (by kernel_rfl)))) rfl (by decide) ?_
  refine lk (v := .bool false) rfl rfl rfl ?_
  refine plD ?_
  refine then_normal (hK8 _ _ ?_)
  refine wpPrune [(4, .bool false)] ⟨litGet (by kernel_rfl), trivial⟩ (fun X11 => ?_)
  refine wp_ret ?_
  refine bodyPost_ret (v := .bool false) (gRes1 rfl (gResTmp (t := 4) (v := .bool false) (litGet (by kernel_rfl)))) rfl ?_
  exact ⟨congrArg (fun b_ => Ending.returned (.bool b_)) (by unfold tltb; simp_all), hm6.bel⟩
set_option maxRecDepth 100000 in
set_option maxHeartbeats 4000000 in
theorem less_any (t u : Int × Int) (ht : Tsm t) (hu : Tsm u) (w : World) : Calls Try.prog 34 #[.agg (tcs t).toArray, .agg (tcs u).toArray] w (RetV w (.bool (tltb t u))) := by
  have ht1_ := ht.1
  have ht2_ := ht.2
  have hu1_ := hu.1
  have hu2_ := hu.2
  have hm0 := Mem.nil w
  go_enter Try.func34, Try.ntmps34
  refine litStart 16 [(0, .agg (tcs t).toArray), (1, .agg (tcs u).toArray)] (by kernel_rfl) (fun X0 => ?_)
  refine wp_seq_k fun K1 hK1 => ?_
  refine plStart ?_
  refine plBox hm0 (cs := tcs t) (i := 0) rfl (wn rfl) rfl (litEv (by kernel_rfl)) ?_
  intro g2 w4 hm3
  clear hm0
  try simp only [List.cons_append, List.nil_append, List.set_cons_succ, List.set_cons_zero] at hm3
  refine qP rfl ?_
  refine plBox hm3 (cs := tcs u) (i := 1) rfl (wn rfl) rfl (litEv (by kernel_rfl)) ?_
  intro g5 w7 hm6
  clear hm3
  try simp only [List.cons_append, List.nil_append, List.set_cons_succ, List.set_cons_zero] at hm6
  refine qP rfl ?_
  refine lk (v := .bool false) rfl rfl rfl ?_
  refine plD ?_
  refine then_normal (hK1 _ _ ?_)
  refine wp_seq_k fun K8 hK8 => ?_
  refine plStart ?_
  refine lk (v := .pointer (some ⟨g2, 0, none⟩)) rfl rfl rfl ?_
  refine litVal (v := .int .i64 t.1) rfl (wn rfl) (gLoad (v := .int .i64 t.1) (k := 0) 0 hm6 rfl (by kernel_rfl) (.tmp 5) (by kernel_rfl) rfl (litEv (by kernel_rfl))) rfl (by decide) ?_
  refine lk (v := .pointer (some ⟨g5, 1, none⟩)) rfl rfl rfl ?_
  refine litVal (v := .int .i64 u.2) rfl (wn rfl) (gLoad (v := .int .i64 u.2) (k := 1) 1 hm6 rfl (by kernel_rfl) (.tmp 7) (by kernel_rfl) rfl (litEv (by kernel_rfl))) rfl (by decide) ?_
  refine litVal (v := .int .i64 (t.1 * u.2)) rfl (wn rfl) (mulRun' (A := t.1) (B := u.2) (.tmp 6) (.tmp 8) rfl (litEv (by kernel_rfl)) (litEv (by kernel_rfl)) rfl (by first | omega | exact mul_in (by omega) (by omega))) rfl (by decide) ?_
  refine lk (v := .pointer (some ⟨g5, 0, none⟩)) rfl rfl rfl ?_
  refine litVal (v := .int .i64 u.1) rfl (wn rfl) (gLoad (v := .int .i64 u.1) (k := 0) 1 hm6 rfl (by kernel_rfl) (.tmp 10) (by kernel_rfl) rfl (litEv (by kernel_rfl))) rfl (by decide) ?_
  refine lk (v := .pointer (some ⟨g2, 1, none⟩)) rfl rfl rfl ?_
  refine litVal (v := .int .i64 t.2) rfl (wn rfl) (gLoad (v := .int .i64 t.2) (k := 1) 0 hm6 rfl (by kernel_rfl) (.tmp 12) (by kernel_rfl) rfl (litEv (by kernel_rfl))) rfl (by decide) ?_
  refine litVal (v := .int .i64 (u.1 * t.2)) rfl (wn rfl) (mulRun' (A := u.1) (B := t.2) (.tmp 11) (.tmp 13) rfl (litEv (by kernel_rfl)) (litEv (by kernel_rfl)) rfl (by first | omega | exact mul_in (by omega) (by omega))) rfl (by decide) ?_
  by_cases h9 : (t.1 * u.2) < (u.1 * t.2)
  · refine litVal (v := .bool true) rfl (wn rfl) (boolTo (decide_eq_true h9) (lssRun (A := (t.1 * u.2)) (B := (u.1 * t.2)) (.tmp 9) (.tmp 14) rfl (litEv (by kernel_rfl)) (litEv (by kernel_rfl)))) rfl (by decide) ?_
    refine lk (v := .bool true) rfl rfl rfl ?_
    refine plD ?_
    refine then_normal (hK8 _ _ ?_)
    refine wpPrune [(4, .bool true)] ⟨litGet (by kernel_rfl), trivial⟩ (fun X10 => ?_)
    refine wp_ret ?_
    refine bodyPost_ret (v := .bool true) (gRes1 rfl (gResTmp (t := 4) (v := .bool true) (litGet (by kernel_rfl)))) rfl ?_
    exact ⟨congrArg (fun b_ => Ending.returned (.bool b_)) (by unfold tltb; simp_all), hm6.bel⟩
  refine litVal (v := .bool false) rfl (wn rfl) (boolTo (decide_eq_false h9) (lssRun (A := (t.1 * u.2)) (B := (u.1 * t.2)) (.tmp 9) (.tmp 14) rfl (litEv (by kernel_rfl)) (litEv (by kernel_rfl)))) rfl (by decide) ?_
  refine lk (v := .bool false) rfl rfl rfl ?_
  refine plD ?_
  refine then_normal (hK8 _ _ ?_)
  refine wpPrune [(4, .bool false)] ⟨litGet (by kernel_rfl), trivial⟩ (fun X11 => ?_)
  refine wp_ret ?_
  refine bodyPost_ret (v := .bool false) (gRes1 rfl (gResTmp (t := 4) (v := .bool false) (litGet (by kernel_rfl)))) rfl ?_
  exact ⟨congrArg (fun b_ => Ending.returned (.bool b_)) (by unfold tltb; simp_all), hm6.bel⟩
set_option maxRecDepth 100000 in
set_option maxHeartbeats 4000000 in
theorem towards_any (a b : Int) (ha : -1048575 ≤ a ∧ a ≤ 1048575) (hb : -1048575 ≤ b ∧ b ≤ 1048575) (w : World) : Calls Try.prog 48 #[.int .i64 a, .int .i64 b] w (RetV w (.agg (axs (toward a b)).toArray)) := by
  have hm0 := Mem.nil w
  go_enter Try.func48, Try.ntmps48
  refine litStart 28 [(0, .int .i64 a), (1, .int .i64 b)] (by kernel_rfl) (fun X0 => ?_)
  refine wp_seq_k fun K1 hK1 => ?_
  refine plStart ?_
  refine plAlloc (z := [.int .i64 0, .int .i64 0, .int .i64 0, .int .i64 0]) Ty.ag_voxel_ray_axis hm0 (i := 0) rfl (wn rfl) rfl ?_
  intro g2 w4 hm3
  clear hm0
  try simp only [List.cons_append, List.nil_append, List.set_cons_succ, List.set_cons_zero] at hm3
  refine qP rfl ?_
  refine plD ?_
  refine then_normal (hK1 _ _ ?_)
  refine wp_seq_k fun K5 hK5 => ?_
  refine wp_seq_k fun K6 hK6 => ?_
  refine plStart ?_
  refine lk (v := .int .i64 b) rfl rfl rfl ?_
  refine lk (v := .int .i64 a) rfl rfl rfl ?_
  refine litVal (v := .int .i64 (b - a)) rfl (wn rfl) (subRun (A := b) (B := a) (C := b - a) (.tmp 6) (.tmp 7) rfl (litEv (by kernel_rfl)) (litEv (by kernel_rfl)) rfl (by omega)) rfl (by decide) ?_
  refine lk (v := .int .i64 (b - a)) rfl rfl rfl ?_
  refine plD ?_
  refine then_normal (hK6 _ _ ?_)
  refine wp_block ?_
  refine wp_seq_k fun K7 hK7 => ?_
  refine plStart ?_
  refine lk (v := .int .i64 (b - a)) rfl rfl rfl ?_
  by_cases h8 : 0 < (b - a)
  · refine litVal (v := .bool true) rfl (wn rfl) (boolTo (decide_eq_true h8) (gtrRun (A := (b - a)) (B := 0) (.tmp 10) (.const (.int .i64 0)) rfl (litEv (by kernel_rfl)) (litEv (by kernel_rfl)))) rfl (by decide) ?_
    refine lk (v := .bool true) rfl rfl rfl ?_
    refine plD ?_
    refine then_normal (hK7 _ _ ?_)
    refine wp_cond_true (litEv (by kernel_rfl)) ?_
    refine wp_seq_k fun K9 hK9 => ?_
    refine plStart ?_
    refine lk (v := .int .i64 a) rfl rfl rfl ?_
    refine lk (v := .int .i64 (b - a)) rfl rfl rfl ?_
    refine litVal (v := .int .i64 (2 * (b - a))) rfl (wn rfl) (mulRun (A := 2) (B := (b - a)) (C := 2 * (b - a)) (.const (.int .i64 2)) (.tmp 13) rfl (litEv (by kernel_rfl)) (litEv (by kernel_rfl)) rfl (by omega)) rfl (by decide) ?_
    refine lk (v := .agg (tcs (1, 2 * (b - a))).toArray) rfl rfl rfl ?_
    refine lk (v := .agg ([.int .i64 a, .int .i64 1, .int .i64 1, .int .i64 (2 * (b - a))]).toArray) rfl rfl rfl ?_
    refine plStore 0 Ty.ag_voxel_ray_axis hm3 rfl (i := 5) (cs := [.int .i64 a, .int .i64 1, .int .i64 1, .int .i64 (2 * (b - a))]) rfl (wn rfl) rfl (litEv (by kernel_rfl)) (litEv (by kernel_rfl)) rfl rfl (by kernel_rfl) ?_
    intro w11 hm10
    clear hm3
    try simp only [List.cons_append, List.nil_append, List.set_cons_succ, List.set_cons_zero] at hm10
    refine qNone rfl ?_
    refine plD ?_
    refine then_normal (hK9 _ _ ?_)
    refine wpPrune [(0, .int .i64 a), (4, .pointer (some ⟨g2, 0, none⟩))] ⟨litGet (by kernel_rfl), ⟨litGet (by kernel_rfl), trivial⟩⟩ (fun X12 => ?_)
    refine wp_ret ?_
    refine inBlock_ret ?_
    refine then_ret ?_
    refine bodyPost_ret (v := .agg ([.int .i64 a, .int .i64 1, .int .i64 1, .int .i64 (2 * (b - a))]).toArray) (gRes1 rfl (gResAg (cs := [.int .i64 a, .int .i64 1, .int .i64 1, .int .i64 (2 * (b - a))]) 0 hm10 rfl Ty.ag_voxel_ray_axis rfl (litGet (by kernel_rfl)))) rfl ?_
    exact ⟨by unfold toward; rw [if_pos h8]; rfl, hm10.bel⟩
  refine litVal (v := .bool false) rfl (wn rfl) (boolTo (decide_eq_false h8) (gtrRun (A := (b - a)) (B := 0) (.tmp 10) (.const (.int .i64 0)) rfl (litEv (by kernel_rfl)) (litEv (by kernel_rfl)))) rfl (by decide) ?_
  refine lk (v := .bool false) rfl rfl rfl ?_
  refine plD ?_
  refine then_normal (hK7 _ _ ?_)
  refine wp_cond_false (litEv (by kernel_rfl)) ?_
  refine wp_seq_k fun K13 hK13 => ?_
  refine plStart ?_
  refine lk (v := .int .i64 (b - a)) rfl rfl rfl ?_
  by_cases h14 : (b - a) < 0
  · refine litVal (v := .bool true) rfl (wn rfl) (boolTo (decide_eq_true h14) (lssRun (A := (b - a)) (B := 0) (.tmp 18) (.const (.int .i64 0)) rfl (litEv (by kernel_rfl)) (litEv (by kernel_rfl)))) rfl (by decide) ?_
    refine lk (v := .bool true) rfl rfl rfl ?_
    refine plD ?_
    refine then_normal (hK13 _ _ ?_)
    refine wp_cond_true (litEv (by kernel_rfl)) ?_
    refine wp_seq_k fun K15 hK15 => ?_
    refine plStart ?_
    refine lk (v := .int .i64 a) rfl rfl rfl ?_
    refine lk (v := .int .i64 (b - a)) rfl rfl rfl ?_
    refine litVal (v := .int .i64 ((-2) * (b - a))) rfl (wn rfl) (mulRun (A := (-2)) (B := (b - a)) (C := (-2) * (b - a)) (.const (.int .i64 (-2))) (.tmp 21) rfl (litEv (by kernel_rfl)) (litEv (by kernel_rfl)) rfl (by omega)) rfl (by decide) ?_
    refine lk (v := .agg (tcs (1, (-2) * (b - a))).toArray) rfl rfl rfl ?_
    refine lk (v := .agg ([.int .i64 a, .int .i64 (-1), .int .i64 1, .int .i64 ((-2) * (b - a))]).toArray) rfl rfl rfl ?_
    refine plStore 0 Ty.ag_voxel_ray_axis hm3 rfl (i := 5) (cs := [.int .i64 a, .int .i64 (-1), .int .i64 1, .int .i64 ((-2) * (b - a))]) rfl (wn rfl) rfl (litEv (by kernel_rfl)) (litEv (by kernel_rfl)) rfl rfl (by kernel_rfl) ?_
    intro w17 hm16
    clear hm3
    try simp only [List.cons_append, List.nil_append, List.set_cons_succ, List.set_cons_zero] at hm16
    refine qNone rfl ?_
    refine plD ?_
    refine then_normal (hK15 _ _ ?_)
    refine wpPrune [(0, .int .i64 a), (4, .pointer (some ⟨g2, 0, none⟩))] ⟨litGet (by kernel_rfl), ⟨litGet (by kernel_rfl), trivial⟩⟩ (fun X18 => ?_)
    refine wp_ret ?_
    refine inBlock_ret ?_
    refine then_ret ?_
    refine bodyPost_ret (v := .agg ([.int .i64 a, .int .i64 (-1), .int .i64 1, .int .i64 ((-2) * (b - a))]).toArray) (gRes1 rfl (gResAg (cs := [.int .i64 a, .int .i64 (-1), .int .i64 1, .int .i64 ((-2) * (b - a))]) 0 hm16 rfl Ty.ag_voxel_ray_axis rfl (litGet (by kernel_rfl)))) rfl ?_
    exact ⟨by unfold toward; rw [if_neg h8, if_pos h14]; rfl, hm16.bel⟩
  refine litVal (v := .bool false) rfl (wn rfl) (boolTo (decide_eq_false h14) (lssRun (A := (b - a)) (B := 0) (.tmp 18) (.const (.int .i64 0)) rfl (litEv (by kernel_rfl)) (litEv (by kernel_rfl)))) rfl (by decide) ?_
  refine lk (v := .bool false) rfl rfl rfl ?_
  refine plD ?_
  refine then_normal (hK13 _ _ ?_)
  refine wp_cond_false (litEv (by kernel_rfl)) ?_
  refine wp_skip ?_
  refine inBlock_normal ?_
  refine then_normal (hK5 _ _ ?_)
  refine wp_seq_k fun K19 hK19 => ?_
  refine plStart ?_
  refine lk (v := .int .i64 a) rfl rfl rfl ?_
  refine lk (v := .agg (tcs (2, 1)).toArray) rfl rfl rfl ?_
  refine lk (v := .agg ([.int .i64 a, .int .i64 0, .int .i64 2, .int .i64 1]).toArray) rfl rfl rfl ?_
  refine plStore 0 Ty.ag_voxel_ray_axis hm3 rfl (i := 3) (cs := [.int .i64 a, .int .i64 0, .int .i64 2, .int .i64 1]) rfl (wn rfl) rfl (litEv (by kernel_rfl)) (litEv (by kernel_rfl)) rfl rfl (by kernel_rfl) ?_
  intro w21 hm20
  clear hm3
  try simp only [List.cons_append, List.nil_append, List.set_cons_succ, List.set_cons_zero] at hm20
  refine qNone rfl ?_
  refine plD ?_
  refine then_normal (hK19 _ _ ?_)
  refine wpPrune [(4, .pointer (some ⟨g2, 0, none⟩))] ⟨litGet (by kernel_rfl), trivial⟩ (fun X22 => ?_)
  refine wp_ret ?_
  refine bodyPost_ret (v := .agg ([.int .i64 a, .int .i64 0, .int .i64 2, .int .i64 1]).toArray) (gRes1 rfl (gResAg (cs := [.int .i64 a, .int .i64 0, .int .i64 2, .int .i64 1]) 0 hm20 rfl Ty.ag_voxel_ray_axis rfl (litGet (by kernel_rfl)))) rfl ?_
  exact ⟨by unfold toward; rw [if_neg h8, if_neg h14]; rfl, hm20.bel⟩
set_option maxRecDepth 100000 in
set_option maxHeartbeats 4000000 in
theorem along_any (a b c : Int) (ha : -1048575 ≤ a ∧ a ≤ 1048575) (hb : -1048575 ≤ b ∧ b ≤ 1048575) (hc : -1048575 ≤ c ∧ c ≤ 1048575) (w : World) : Calls Try.prog 46 #[.int .i64 a, .int .i64 b, .int .i64 c] w (RetV w (.agg (bts (alongT a b c)).toArray)) := by
  have hm0 := Mem.nil w
  go_enter Try.func46, Try.ntmps46
  refine litStart 50 [(0, .int .i64 a), (1, .int .i64 b), (2, .int .i64 c)] (by kernel_rfl) (fun X0 => ?_)
  refine wp_seq_k fun K1 hK1 => ?_
  refine plStart ?_
  refine plAlloc (z := [.int .i64 0, .int .i64 0, .int .i64 0, .int .i64 0, .bool false]) Ty.ag_voxel_voxelref42_Between hm0 (i := 0) rfl (wn rfl) rfl ?_
  intro g2 w4 hm3
  clear hm0
  try simp only [List.cons_append, List.nil_append, List.set_cons_succ, List.set_cons_zero] at hm3
  refine qP rfl ?_
  refine plD ?_
  refine then_normal (hK1 _ _ ?_)
  refine wp_seq_k fun K5 hK5 => ?_
  refine plStart ?_
  refine lk (v := .int .i64 b) rfl rfl rfl ?_
  refine lk (v := .int .i64 a) rfl rfl rfl ?_
  refine litVal (v := .int .i64 (b - a)) rfl (wn rfl) (subRun (A := b) (B := a) (C := b - a) (.tmp 10) (.tmp 11) rfl (litEv (by kernel_rfl)) (litEv (by kernel_rfl)) rfl (by omega)) rfl (by decide) ?_
  refine litVal (v := .int .i64 (2 * (b - a))) rfl (wn rfl) (mulRun (A := 2) (B := (b - a)) (C := 2 * (b - a)) (.const (.int .i64 2)) (.tmp 12) rfl (litEv (by kernel_rfl)) (litEv (by kernel_rfl)) rfl (by omega)) rfl (by decide) ?_
  refine lk (v := .int .i64 (2 * (b - a))) rfl rfl rfl ?_
  refine plD ?_
  refine then_normal (hK5 _ _ ?_)
  refine wp_seq_k fun K6 hK6 => ?_
  refine plStart ?_
  refine lk (v := .int .i64 c) rfl rfl rfl ?_
  refine litVal (v := .int .i64 (2 * c)) rfl (wn rfl) (mulRun (A := 2) (B := c) (C := 2 * c) (.const (.int .i64 2)) (.tmp 14) rfl (litEv (by kernel_rfl)) (litEv (by kernel_rfl)) rfl (by omega)) rfl (by decide) ?_
  refine lk (v := .int .i64 a) rfl rfl rfl ?_
  refine litVal (v := .int .i64 (2 * a)) rfl (wn rfl) (mulRun (A := 2) (B := a) (C := 2 * a) (.const (.int .i64 2)) (.tmp 16) rfl (litEv (by kernel_rfl)) (litEv (by kernel_rfl)) rfl (by omega)) rfl (by decide) ?_
  refine litVal (v := .int .i64 ((2 * c) - (2 * a))) rfl (wn rfl) (subRun (A := (2 * c)) (B := (2 * a)) (C := (2 * c) - (2 * a)) (.tmp 15) (.tmp 17) rfl (litEv (by kernel_rfl)) (litEv (by kernel_rfl)) rfl (by omega)) rfl (by decide) ?_
  refine litVal (v := .int .i64 (((2 * c) - (2 * a)) - 1)) rfl (wn rfl) (subRun (A := ((2 * c) - (2 * a))) (B := 1) (C := ((2 * c) - (2 * a)) - 1) (.tmp 18) (.const (.int .i64 1)) rfl (litEv (by kernel_rfl)) (litEv (by kernel_rfl)) rfl (by omega)) rfl (by decide) ?_
  refine lk (v := .int .i64 (((2 * c) - (2 * a)) - 1)) rfl rfl rfl ?_
  refine plD ?_
  refine then_normal (hK6 _ _ ?_)
  refine wp_seq_k fun K7 hK7 => ?_
  refine plStart ?_
  refine lk (v := .int .i64 (((2 * c) - (2 * a)) - 1)) rfl rfl rfl ?_
  refine litVal (v := .int .i64 ((((2 * c) - (2 * a)) - 1) + 2)) rfl (wn rfl) (addRun (A := (((2 * c) - (2 * a)) - 1)) (B := 2) (C := (((2 * c) - (2 * a)) - 1) + 2) (.tmp 20) (.const (.int .i64 2)) rfl (litEv (by kernel_rfl)) (litEv (by kernel_rfl)) rfl (by omega)) rfl (by decide) ?_
  refine lk (v := .int .i64 ((((2 * c) - (2 * a)) - 1) + 2)) rfl rfl rfl ?_
  refine plD ?_
  refine then_normal (hK7 _ _ ?_)
  refine wpPrune [(0, .int .i64 a), (2, .int .i64 c), (6, .pointer (some ⟨g2, 0, none⟩)), (7, .int .i64 (2 * (b - a))), (8, .int .i64 (((2 * c) - (2 * a)) - 1)), (9, .int .i64 ((((2 * c) - (2 * a)) - 1) + 2))] ⟨litGet (by kernel_rfl), ⟨litGet (by kernel_rfl), ⟨litGet (by kernel_rfl), ⟨litGet (by kernel_rfl), ⟨litGet (by kernel_rfl), ⟨litGet (by kernel_rfl), trivial⟩⟩⟩⟩⟩⟩ (fun X8 => ?_)
  refine wp_seq_k fun K9 hK9 => ?_
  refine wp_seq_k fun K10 hK10 => ?_
  refine plStart ?_
  refine lk (v := .int .i64 (2 * (b - a))) rfl rfl rfl ?_
  by_cases h11 : (2 * (b - a)) = 0
  · refine litVal (v := .bool true) rfl (wn rfl) (boolTo (decide_eq_true h11) (eqlRun (A := (2 * (b - a))) (B := 0) (.tmp 22) (.const (.int .i64 0)) rfl (litEv (by kernel_rfl)) (litEv (by kernel_rfl)))) rfl (by decide) ?_
    refine plD ?_
    refine then_normal (hK10 _ _ ?_)
    refine wp_cond_true (litEv (by kernel_rfl)) ?_
    refine wp_seq_k fun K12 hK12 => ?_
    refine plStart ?_
    refine lk (v := .agg (tcs (-1, 1)).toArray) rfl rfl rfl ?_
    refine lk (v := .agg (tcs (2, 1)).toArray) rfl rfl rfl ?_
    refine lk (v := .int .i64 a) rfl rfl rfl ?_
    refine lk (v := .int .i64 c) rfl rfl rfl ?_
    by_cases h13 : a = c
    · refine litVal (v := .bool true) rfl (wn rfl) (boolTo (decide_eq_true h13) (eqlRun (A := a) (B := c) (.tmp 26) (.tmp 27) rfl (litEv (by kernel_rfl)) (litEv (by kernel_rfl)))) rfl (by decide) ?_
      refine lk (v := .agg ([.int .i64 (-1), .int .i64 1, .int .i64 2, .int .i64 1, .bool true]).toArray) rfl rfl rfl ?_
      refine plStore 0 Ty.ag_voxel_voxelref42_Between hm3 rfl (i := 6) (cs := [.int .i64 (-1), .int .i64 1, .int .i64 2, .int .i64 1, .bool true]) rfl (wn rfl) rfl (litEv (by kernel_rfl)) (litEv (by kernel_rfl)) rfl rfl (by kernel_rfl) ?_
      intro w15 hm14
      clear hm3
      try simp only [List.cons_append, List.nil_append, List.set_cons_succ, List.set_cons_zero] at hm14
      refine qNone rfl ?_
      refine plD ?_
      refine then_normal (hK12 _ _ ?_)
      refine wp_ret ?_
      refine then_ret ?_
      refine bodyPost_ret (v := .agg ([.int .i64 (-1), .int .i64 1, .int .i64 2, .int .i64 1, .bool true]).toArray) (gRes1 rfl (gResAg (cs := [.int .i64 (-1), .int .i64 1, .int .i64 2, .int .i64 1, .bool true]) 0 hm14 rfl Ty.ag_voxel_voxelref42_Between rfl (litGet (by kernel_rfl)))) rfl ?_
      exact ⟨by unfold alongT; rw [if_pos h11]; simp [bts, tcs, *], hm14.bel⟩
    refine litVal (v := .bool false) rfl (wn rfl) (boolTo (decide_eq_false h13) (eqlRun (A := a) (B := c) (.tmp 26) (.tmp 27) rfl (litEv (by kernel_rfl)) (litEv (by kernel_rfl)))) rfl (by decide) ?_
    refine lk (v := .agg ([.int .i64 (-1), .int .i64 1, .int .i64 2, .int .i64 1, .bool false]).toArray) rfl rfl rfl ?_
    refine plStore 0 Ty.ag_voxel_voxelref42_Between hm3 rfl (i := 6) (cs := [.int .i64 (-1), .int .i64 1, .int .i64 2, .int .i64 1, .bool false]) rfl (wn rfl) rfl (litEv (by kernel_rfl)) (litEv (by kernel_rfl)) rfl rfl (by kernel_rfl) ?_
    intro w17 hm16
    clear hm3
    try simp only [List.cons_append, List.nil_append, List.set_cons_succ, List.set_cons_zero] at hm16
    refine qNone rfl ?_
    refine plD ?_
    refine then_normal (hK12 _ _ ?_)
    refine wp_ret ?_
    refine then_ret ?_
    refine bodyPost_ret (v := .agg ([.int .i64 (-1), .int .i64 1, .int .i64 2, .int .i64 1, .bool false]).toArray) (gRes1 rfl (gResAg (cs := [.int .i64 (-1), .int .i64 1, .int .i64 2, .int .i64 1, .bool false]) 0 hm16 rfl Ty.ag_voxel_voxelref42_Between rfl (litGet (by kernel_rfl)))) rfl ?_
    exact ⟨by unfold alongT; rw [if_pos h11]; simp [bts, tcs, *], hm16.bel⟩
  refine litVal (v := .bool false) rfl (wn rfl) (boolTo (decide_eq_false h11) (eqlRun (A := (2 * (b - a))) (B := 0) (.tmp 22) (.const (.int .i64 0)) rfl (litEv (by kernel_rfl)) (litEv (by kernel_rfl)))) rfl (by decide) ?_
  refine plD ?_
  refine then_normal (hK10 _ _ ?_)
  refine wp_cond_false (litEv (by kernel_rfl)) ?_
  refine wp_skip ?_
  refine then_normal (hK9 _ _ ?_)
  refine wp_seq_k fun K18 hK18 => ?_
  refine wp_seq_k fun K19 hK19 => ?_
  refine plStart ?_
  refine lk (v := .int .i64 (2 * (b - a))) rfl rfl rfl ?_
  by_cases h20 : (2 * (b - a)) < 0
  · refine litVal (v := .bool true) rfl (wn rfl) (boolTo (decide_eq_true h20) (lssRun (A := (2 * (b - a))) (B := 0) (.tmp 30) (.const (.int .i64 0)) rfl (litEv (by kernel_rfl)) (litEv (by kernel_rfl)))) rfl (by decide) ?_
    refine plD ?_
    refine then_normal (hK19 _ _ ?_)
    refine wp_cond_true (litEv (by kernel_rfl)) ?_
    refine wp_seq_k fun K21 hK21 => ?_
    refine plStart ?_
    refine lk (v := .int .i64 ((((2 * c) - (2 * a)) - 1) + 2)) rfl rfl rfl ?_
    refine litVal (v := .int .i64 (-((((2 * c) - (2 * a)) - 1) + 2))) rfl (wn rfl) (gNeg (.tmp 32) rfl (litEv (by kernel_rfl)) (by omega)) rfl (by decide) ?_
    refine lk (v := .int .i64 (2 * (b - a))) rfl rfl rfl ?_
    refine litVal (v := .int .i64 (-(2 * (b - a)))) rfl (wn rfl) (gNeg (.tmp 34) rfl (litEv (by kernel_rfl)) (by omega)) rfl (by decide) ?_
    refine lk (v := .agg (tcs (-((((2 * c) - (2 * a)) - 1) + 2), -(2 * (b - a)))).toArray) rfl rfl rfl ?_
    refine lk (v := .int .i64 (((2 * c) - (2 * a)) - 1)) rfl rfl rfl ?_
    refine litVal (v := .int .i64 (-(((2 * c) - (2 * a)) - 1))) rfl (wn rfl) (gNeg (.tmp 37) rfl (litEv (by kernel_rfl)) (by omega)) rfl (by decide) ?_
    refine lk (v := .int .i64 (2 * (b - a))) rfl rfl rfl ?_
    refine litVal (v := .int .i64 (-(2 * (b - a)))) rfl (wn rfl) (gNeg (.tmp 39) rfl (litEv (by kernel_rfl)) (by omega)) rfl (by decide) ?_
    refine lk (v := .agg (tcs (-(((2 * c) - (2 * a)) - 1), -(2 * (b - a)))).toArray) rfl rfl rfl ?_
    refine lk (v := .agg ([.int .i64 (-((((2 * c) - (2 * a)) - 1) + 2)), .int .i64 (-(2 * (b - a))), .int .i64 (-(((2 * c) - (2 * a)) - 1)), .int .i64 (-(2 * (b - a))), .bool true]).toArray) rfl rfl rfl ?_
    refine plStore 0 Ty.ag_voxel_voxelref42_Between hm3 rfl (i := 11) (cs := [.int .i64 (-((((2 * c) - (2 * a)) - 1) + 2)), .int .i64 (-(2 * (b - a))), .int .i64 (-(((2 * c) - (2 * a)) - 1)), .int .i64 (-(2 * (b - a))), .bool true]) rfl (wn rfl) rfl (litEv (by kernel_rfl)) (litEv (by kernel_rfl)) rfl rfl (by kernel_rfl) ?_
    intro w23 hm22
    clear hm3
    try simp only [List.cons_append, List.nil_append, List.set_cons_succ, List.set_cons_zero] at hm22
    refine qNone rfl ?_
    refine plD ?_
    refine then_normal (hK21 _ _ ?_)
    refine wpPrune [(6, .pointer (some ⟨g2, 0, none⟩)), (7, .int .i64 (2 * (b - a))), (8, .int .i64 (((2 * c) - (2 * a)) - 1)), (9, .int .i64 ((((2 * c) - (2 * a)) - 1) + 2))] ⟨litGet (by kernel_rfl), ⟨litGet (by kernel_rfl), ⟨litGet (by kernel_rfl), ⟨litGet (by kernel_rfl), trivial⟩⟩⟩⟩ (fun X24 => ?_)
    refine wp_ret ?_
    refine then_ret ?_
    refine bodyPost_ret (v := .agg ([.int .i64 (-((((2 * c) - (2 * a)) - 1) + 2)), .int .i64 (-(2 * (b - a))), .int .i64 (-(((2 * c) - (2 * a)) - 1)), .int .i64 (-(2 * (b - a))), .bool true]).toArray) (gRes1 rfl (gResAg (cs := [.int .i64 (-((((2 * c) - (2 * a)) - 1) + 2)), .int .i64 (-(2 * (b - a))), .int .i64 (-(((2 * c) - (2 * a)) - 1)), .int .i64 (-(2 * (b - a))), .bool true]) 0 hm22 rfl Ty.ag_voxel_voxelref42_Between rfl (litGet (by kernel_rfl)))) rfl ?_
    exact ⟨by unfold alongT; rw [if_neg h11, if_pos h20]; rfl, hm22.bel⟩
  refine litVal (v := .bool false) rfl (wn rfl) (boolTo (decide_eq_false h20) (lssRun (A := (2 * (b - a))) (B := 0) (.tmp 30) (.const (.int .i64 0)) rfl (litEv (by kernel_rfl)) (litEv (by kernel_rfl)))) rfl (by decide) ?_
  refine plD ?_
  refine then_normal (hK19 _ _ ?_)
  refine wp_cond_false (litEv (by kernel_rfl)) ?_
  refine wp_skip ?_
  refine then_normal (hK18 _ _ ?_)
  refine wp_seq_k fun K25 hK25 => ?_
  refine plStart ?_
  refine lk (v := .int .i64 (((2 * c) - (2 * a)) - 1)) rfl rfl rfl ?_
  refine lk (v := .int .i64 (2 * (b - a))) rfl rfl rfl ?_
  refine lk (v := .agg (tcs (((2 * c) - (2 * a)) - 1, 2 * (b - a))).toArray) rfl rfl rfl ?_
  refine lk (v := .int .i64 ((((2 * c) - (2 * a)) - 1) + 2)) rfl rfl rfl ?_
  refine lk (v := .int .i64 (2 * (b - a))) rfl rfl rfl ?_
  refine lk (v := .agg (tcs ((((2 * c) - (2 * a)) - 1) + 2, 2 * (b - a))).toArray) rfl rfl rfl ?_
  refine lk (v := .agg ([.int .i64 (((2 * c) - (2 * a)) - 1), .int .i64 (2 * (b - a)), .int .i64 ((((2 * c) - (2 * a)) - 1) + 2), .int .i64 (2 * (b - a)), .bool true]).toArray) rfl rfl rfl ?_
  refine plStore 0 Ty.ag_voxel_voxelref42_Between hm3 rfl (i := 7) (cs := [.int .i64 (((2 * c) - (2 * a)) - 1), .int .i64 (2 * (b - a)), .int .i64 ((((2 * c) - (2 * a)) - 1) + 2), .int .i64 (2 * (b - a)), .bool true]) rfl (wn rfl) rfl (litEv (by kernel_rfl)) (litEv (by kernel_rfl)) rfl rfl (by kernel_rfl) ?_
  intro w27 hm26
  clear hm3
  try simp only [List.cons_append, List.nil_append, List.set_cons_succ, List.set_cons_zero] at hm26
  refine qNone rfl ?_
  refine plD ?_
  refine then_normal (hK25 _ _ ?_)
  refine wpPrune [(6, .pointer (some ⟨g2, 0, none⟩))] ⟨litGet (by kernel_rfl), trivial⟩ (fun X28 => ?_)
  refine wp_ret ?_
  refine bodyPost_ret (v := .agg ([.int .i64 (((2 * c) - (2 * a)) - 1), .int .i64 (2 * (b - a)), .int .i64 ((((2 * c) - (2 * a)) - 1) + 2), .int .i64 (2 * (b - a)), .bool true]).toArray) (gRes1 rfl (gResAg (cs := [.int .i64 (((2 * c) - (2 * a)) - 1), .int .i64 (2 * (b - a)), .int .i64 ((((2 * c) - (2 * a)) - 1) + 2), .int .i64 (2 * (b - a)), .bool true]) 0 hm26 rfl Ty.ag_voxel_voxelref42_Between rfl (litGet (by kernel_rfl)))) rfl ?_
  exact ⟨by unfold alongT; rw [if_neg h11, if_neg h20]; rfl, hm26.bel⟩
set_option maxRecDepth 100000 in
set_option maxHeartbeats 4000000 in
theorem sub_any (p q : Pt) (hp : (-1073741824 ≤ p.x ∧ p.x ≤ 1073741824) ∧ (-1073741824 ≤ p.y ∧ p.y ≤ 1073741824) ∧ (-1073741824 ≤ p.z ∧ p.z ≤ 1073741824)) (hq : (-1073741824 ≤ q.x ∧ q.x ≤ 1073741824) ∧ (-1073741824 ≤ q.y ∧ q.y ≤ 1073741824) ∧ (-1073741824 ≤ q.z ∧ q.z ≤ 1073741824)) (w : World) : Calls Try.prog 24 #[.agg (pcs p).toArray, .agg (pcs q).toArray] w (RetV w (.agg (pcs (p.sub q)).toArray)) := by
  have hm0 := Mem.nil w
  go_enter Try.func24, Try.ntmps24
  refine litStart 21 [(0, .agg (pcs p).toArray), (1, .agg (pcs q).toArray)] (by kernel_rfl) (fun X0 => ?_)
  refine wp_seq_k fun K1 hK1 => ?_
  refine plStart ?_
  refine plBox hm0 (cs := pcs p) (i := 0) rfl (wn rfl) rfl (litEv (by kernel_rfl)) ?_
  intro g2 w4 hm3
  clear hm0
  try simp only [List.cons_append, List.nil_append, List.set_cons_succ, List.set_cons_zero] at hm3
  refine qP rfl ?_
  refine plBox hm3 (cs := pcs q) (i := 1) rfl (wn rfl) rfl (litEv (by kernel_rfl)) ?_
  intro g5 w7 hm6
  clear hm3
  try simp only [List.cons_append, List.nil_append, List.set_cons_succ, List.set_cons_zero] at hm6
  refine qP rfl ?_
  refine plAlloc (z := [.int .i64 0, .int .i64 0, .int .i64 0]) Ty.ag_voxel_api_Point hm6 (i := 2) rfl (wn rfl) rfl ?_
  intro g8 w10 hm9
  clear hm6
  try simp only [List.cons_append, List.nil_append, List.set_cons_succ, List.set_cons_zero] at hm9
  refine qP rfl ?_
  refine plD ?_
  refine then_normal (hK1 _ _ ?_)
  refine wp_seq_k fun K11 hK11 => ?_
  refine plStart ?_
  refine lk (v := .pointer (some ⟨g2, 0, none⟩)) rfl rfl rfl ?_
  refine litVal (v := .int .i64 p.x) rfl (wn rfl) (gLoad (v := .int .i64 p.x) (k := 0) 0 hm9 rfl (by kernel_rfl) (.tmp 5) (by kernel_rfl) rfl (litEv (by kernel_rfl))) rfl (by decide) ?_
  refine lk (v := .pointer (some ⟨g5, 0, none⟩)) rfl rfl rfl ?_
  refine litVal (v := .int .i64 q.x) rfl (wn rfl) (gLoad (v := .int .i64 q.x) (k := 0) 1 hm9 rfl (by kernel_rfl) (.tmp 7) (by kernel_rfl) rfl (litEv (by kernel_rfl))) rfl (by decide) ?_
  refine litVal (v := .int .i64 (p.x - q.x)) rfl (wn rfl) (subRun (A := p.x) (B := q.x) (C := p.x - q.x) (.tmp 6) (.tmp 8) rfl (litEv (by kernel_rfl)) (litEv (by kernel_rfl)) rfl (by omega)) rfl (by decide) ?_
  refine lk (v := .pointer (some ⟨g2, 1, none⟩)) rfl rfl rfl ?_
  refine litVal (v := .int .i64 p.y) rfl (wn rfl) (gLoad (v := .int .i64 p.y) (k := 1) 0 hm9 rfl (by kernel_rfl) (.tmp 10) (by kernel_rfl) rfl (litEv (by kernel_rfl))) rfl (by decide) ?_
  refine lk (v := .pointer (some ⟨g5, 1, none⟩)) rfl rfl rfl ?_
  refine litVal (v := .int .i64 q.y) rfl (wn rfl) (gLoad (v := .int .i64 q.y) (k := 1) 1 hm9 rfl (by kernel_rfl) (.tmp 12) (by kernel_rfl) rfl (litEv (by kernel_rfl))) rfl (by decide) ?_
  refine litVal (v := .int .i64 (p.y - q.y)) rfl (wn rfl) (subRun (A := p.y) (B := q.y) (C := p.y - q.y) (.tmp 11) (.tmp 13) rfl (litEv (by kernel_rfl)) (litEv (by kernel_rfl)) rfl (by omega)) rfl (by decide) ?_
  refine lk (v := .pointer (some ⟨g2, 2, none⟩)) rfl rfl rfl ?_
  refine litVal (v := .int .i64 p.z) rfl (wn rfl) (gLoad (v := .int .i64 p.z) (k := 2) 0 hm9 rfl (by kernel_rfl) (.tmp 15) (by kernel_rfl) rfl (litEv (by kernel_rfl))) rfl (by decide) ?_
  refine lk (v := .pointer (some ⟨g5, 2, none⟩)) rfl rfl rfl ?_
  refine litVal (v := .int .i64 q.z) rfl (wn rfl) (gLoad (v := .int .i64 q.z) (k := 2) 1 hm9 rfl (by kernel_rfl) (.tmp 17) (by kernel_rfl) rfl (litEv (by kernel_rfl))) rfl (by decide) ?_
  refine litVal (v := .int .i64 (p.z - q.z)) rfl (wn rfl) (subRun (A := p.z) (B := q.z) (C := p.z - q.z) (.tmp 16) (.tmp 18) rfl (litEv (by kernel_rfl)) (litEv (by kernel_rfl)) rfl (by omega)) rfl (by decide) ?_
  refine lk (v := .agg (pcs ⟨p.x - q.x, p.y - q.y, p.z - q.z⟩).toArray) rfl rfl rfl ?_
  refine plStore 2 Ty.ag_voxel_api_Point hm9 rfl (i := 16) (cs := pcs ⟨p.x - q.x, p.y - q.y, p.z - q.z⟩) rfl (wn rfl) rfl (litEv (by kernel_rfl)) (litEv (by kernel_rfl)) rfl rfl (by kernel_rfl) ?_
  intro w13 hm12
  clear hm9
  try simp only [List.cons_append, List.nil_append, List.set_cons_succ, List.set_cons_zero] at hm12
  refine qNone rfl ?_
  refine plD ?_
  refine then_normal (hK11 _ _ ?_)
  refine wpPrune [(4, .pointer (some ⟨g8, 0, none⟩))] ⟨litGet (by kernel_rfl), trivial⟩ (fun X14 => ?_)
  refine wp_ret ?_
  refine bodyPost_ret (v := .agg (pcs ⟨p.x - q.x, p.y - q.y, p.z - q.z⟩).toArray) (gRes1 rfl (gResAg (cs := pcs ⟨p.x - q.x, p.y - q.y, p.z - q.z⟩) 2 hm12 rfl Ty.ag_voxel_api_Point rfl (litGet (by kernel_rfl)))) rfl ?_
  exact ⟨by rfl, hm12.bel⟩
set_option maxRecDepth 100000 in
set_option maxHeartbeats 4000000 in
theorem sum_any (a b : Pt) (ha : a.rng) (hb : b.rng) (w : World) : Calls Try.prog 22 #[.agg (pcs a).toArray, .agg (pcs b).toArray] w (RetV w (.int .i64 (a.sum b))) := by
  unfold Pt.rng at ha hb
  have hm0 := Mem.nil w
  go_enter Try.func22, Try.ntmps22
  refine litStart 40 [(0, .agg (pcs a).toArray), (1, .agg (pcs b).toArray)] (by kernel_rfl) (fun X0 => ?_)
  refine wp_seq_k fun K1 hK1 => ?_
  refine plStart ?_
  refine plBox hm0 (cs := pcs a) (i := 0) rfl (wn rfl) rfl (litEv (by kernel_rfl)) ?_
  intro g2 w4 hm3
  clear hm0
  try simp only [List.cons_append, List.nil_append, List.set_cons_succ, List.set_cons_zero] at hm3
  refine qP rfl ?_
  refine plBox hm3 (cs := pcs b) (i := 1) rfl (wn rfl) rfl (litEv (by kernel_rfl)) ?_
  intro g5 w7 hm6
  clear hm3
  try simp only [List.cons_append, List.nil_append, List.set_cons_succ, List.set_cons_zero] at hm6
  refine qP rfl ?_
  refine lk (v := .int .i64 0) rfl rfl rfl ?_
  refine plD ?_
  refine then_normal (hK1 _ _ ?_)
  refine wp_seq_k fun K8 hK8 => ?_
  refine plStart ?_
  refine lk (v := .pointer (some ⟨g2, 0, none⟩)) rfl rfl rfl ?_
  refine litVal (v := .int .i64 a.x) rfl (wn rfl) (gLoad (v := .int .i64 a.x) (k := 0) 0 hm6 rfl (by kernel_rfl) (.tmp 5) (by kernel_rfl) rfl (litEv (by kernel_rfl))) rfl (by decide) ?_
  refine lk (v := .pointer (some ⟨g5, 0, none⟩)) rfl rfl rfl ?_
  refine litVal (v := .int .i64 b.x) rfl (wn rfl) (gLoad (v := .int .i64 b.x) (k := 0) 1 hm6 rfl (by kernel_rfl) (.tmp 7) (by kernel_rfl) rfl (litEv (by kernel_rfl))) rfl (by decide) ?_
  refine litVal (v := .int .i64 (a.x - b.x)) rfl (wn rfl) (subRun (A := a.x) (B := b.x) (C := a.x - b.x) (.tmp 6) (.tmp 8) rfl (litEv (by kernel_rfl)) (litEv (by kernel_rfl)) rfl (by omega)) rfl (by decide) ?_
  refine lk (v := .pointer (some ⟨g5, 0, none⟩)) rfl rfl rfl ?_
  refine litVal (v := .int .i64 b.x) rfl (wn rfl) (gLoad (v := .int .i64 b.x) (k := 0) 1 hm6 rfl (by kernel_rfl) (.tmp 10) (by kernel_rfl) rfl (litEv (by kernel_rfl))) rfl (by decide) ?_
  refine lk (v := .pointer (some ⟨g2, 0, none⟩)) rfl rfl rfl ?_
  refine litVal (v := .int .i64 a.x) rfl (wn rfl) (gLoad (v := .int .i64 a.x) (k := 0) 0 hm6 rfl (by kernel_rfl) (.tmp 12) (by kernel_rfl) rfl (litEv (by kernel_rfl))) rfl (by decide) ?_
  refine litVal (v := .int .i64 (b.x - a.x)) rfl (wn rfl) (subRun (A := b.x) (B := a.x) (C := b.x - a.x) (.tmp 11) (.tmp 13) rfl (litEv (by kernel_rfl)) (litEv (by kernel_rfl)) rfl (by omega)) rfl (by decide) ?_
  refine litVal (v := .int .i64 (max (a.x - b.x) (b.x - a.x))) rfl (wn rfl) (gMax (.tmp 9) (.tmp 14) rfl (litEv (by kernel_rfl)) (litEv (by kernel_rfl))) rfl (by decide) ?_
  refine lk (v := .pointer (some ⟨g2, 1, none⟩)) rfl rfl rfl ?_
  refine litVal (v := .int .i64 a.y) rfl (wn rfl) (gLoad (v := .int .i64 a.y) (k := 1) 0 hm6 rfl (by kernel_rfl) (.tmp 16) (by kernel_rfl) rfl (litEv (by kernel_rfl))) rfl (by decide) ?_
  refine lk (v := .pointer (some ⟨g5, 1, none⟩)) rfl rfl rfl ?_
  refine litVal (v := .int .i64 b.y) rfl (wn rfl) (gLoad (v := .int .i64 b.y) (k := 1) 1 hm6 rfl (by kernel_rfl) (.tmp 18) (by kernel_rfl) rfl (litEv (by kernel_rfl))) rfl (by decide) ?_
  refine litVal (v := .int .i64 (a.y - b.y)) rfl (wn rfl) (subRun (A := a.y) (B := b.y) (C := a.y - b.y) (.tmp 17) (.tmp 19) rfl (litEv (by kernel_rfl)) (litEv (by kernel_rfl)) rfl (by omega)) rfl (by decide) ?_
  refine lk (v := .pointer (some ⟨g5, 1, none⟩)) rfl rfl rfl ?_
  refine litVal (v := .int .i64 b.y) rfl (wn rfl) (gLoad (v := .int .i64 b.y) (k := 1) 1 hm6 rfl (by kernel_rfl) (.tmp 21) (by kernel_rfl) rfl (litEv (by kernel_rfl))) rfl (by decide) ?_
  refine lk (v := .pointer (some ⟨g2, 1, none⟩)) rfl rfl rfl ?_
  refine litVal (v := .int .i64 a.y) rfl (wn rfl) (gLoad (v := .int .i64 a.y) (k := 1) 0 hm6 rfl (by kernel_rfl) (.tmp 23) (by kernel_rfl) rfl (litEv (by kernel_rfl))) rfl (by decide) ?_
  refine litVal (v := .int .i64 (b.y - a.y)) rfl (wn rfl) (subRun (A := b.y) (B := a.y) (C := b.y - a.y) (.tmp 22) (.tmp 24) rfl (litEv (by kernel_rfl)) (litEv (by kernel_rfl)) rfl (by omega)) rfl (by decide) ?_
  refine litVal (v := .int .i64 (max (a.y - b.y) (b.y - a.y))) rfl (wn rfl) (gMax (.tmp 20) (.tmp 25) rfl (litEv (by kernel_rfl)) (litEv (by kernel_rfl))) rfl (by decide) ?_
  refine litVal (v := .int .i64 ((max (a.x - b.x) (b.x - a.x)) + (max (a.y - b.y) (b.y - a.y)))) rfl (wn rfl) (addRun (A := (max (a.x - b.x) (b.x - a.x))) (B := (max (a.y - b.y) (b.y - a.y))) (C := (max (a.x - b.x) (b.x - a.x)) + (max (a.y - b.y) (b.y - a.y))) (.tmp 15) (.tmp 26) rfl (litEv (by kernel_rfl)) (litEv (by kernel_rfl)) rfl (by omega)) rfl (by decide) ?_
  refine lk (v := .pointer (some ⟨g2, 2, none⟩)) rfl rfl rfl ?_
  refine litVal (v := .int .i64 a.z) rfl (wn rfl) (gLoad (v := .int .i64 a.z) (k := 2) 0 hm6 rfl (by kernel_rfl) (.tmp 28) (by kernel_rfl) rfl (litEv (by kernel_rfl))) rfl (by decide) ?_
  refine lk (v := .pointer (some ⟨g5, 2, none⟩)) rfl rfl rfl ?_
  refine litVal (v := .int .i64 b.z) rfl (wn rfl) (gLoad (v := .int .i64 b.z) (k := 2) 1 hm6 rfl (by kernel_rfl) (.tmp 30) (by kernel_rfl) rfl (litEv (by kernel_rfl))) rfl (by decide) ?_
  refine litVal (v := .int .i64 (a.z - b.z)) rfl (wn rfl) (subRun (A := a.z) (B := b.z) (C := a.z - b.z) (.tmp 29) (.tmp 31) rfl (litEv (by kernel_rfl)) (litEv (by kernel_rfl)) rfl (by omega)) rfl (by decide) ?_
  refine lk (v := .pointer (some ⟨g5, 2, none⟩)) rfl rfl rfl ?_
  refine litVal (v := .int .i64 b.z) rfl (wn rfl) (gLoad (v := .int .i64 b.z) (k := 2) 1 hm6 rfl (by kernel_rfl) (.tmp 33) (by kernel_rfl) rfl (litEv (by kernel_rfl))) rfl (by decide) ?_
  refine lk (v := .pointer (some ⟨g2, 2, none⟩)) rfl rfl rfl ?_
  refine litVal (v := .int .i64 a.z) rfl (wn rfl) (gLoad (v := .int .i64 a.z) (k := 2) 0 hm6 rfl (by kernel_rfl) (.tmp 35) (by kernel_rfl) rfl (litEv (by kernel_rfl))) rfl (by decide) ?_
  refine litVal (v := .int .i64 (b.z - a.z)) rfl (wn rfl) (subRun (A := b.z) (B := a.z) (C := b.z - a.z) (.tmp 34) (.tmp 36) rfl (litEv (by kernel_rfl)) (litEv (by kernel_rfl)) rfl (by omega)) rfl (by decide) ?_
  refine litVal (v := .int .i64 (max (a.z - b.z) (b.z - a.z))) rfl (wn rfl) (gMax (.tmp 32) (.tmp 37) rfl (litEv (by kernel_rfl)) (litEv (by kernel_rfl))) rfl (by decide) ?_
  refine litVal (v := .int .i64 (((max (a.x - b.x) (b.x - a.x)) + (max (a.y - b.y) (b.y - a.y))) + (max (a.z - b.z) (b.z - a.z)))) rfl (wn rfl) (addRun (A := ((max (a.x - b.x) (b.x - a.x)) + (max (a.y - b.y) (b.y - a.y)))) (B := (max (a.z - b.z) (b.z - a.z))) (C := ((max (a.x - b.x) (b.x - a.x)) + (max (a.y - b.y) (b.y - a.y))) + (max (a.z - b.z) (b.z - a.z))) (.tmp 27) (.tmp 38) rfl (litEv (by kernel_rfl)) (litEv (by kernel_rfl)) rfl (by omega)) rfl (by decide) ?_
  refine lk (v := .int .i64 (((max (a.x - b.x) (b.x - a.x)) + (max (a.y - b.y) (b.y - a.y))) + (max (a.z - b.z) (b.z - a.z)))) rfl rfl rfl ?_
  refine plD ?_
  refine then_normal (hK8 _ _ ?_)
  refine wpPrune [(4, .int .i64 (((max (a.x - b.x) (b.x - a.x)) + (max (a.y - b.y) (b.y - a.y))) + (max (a.z - b.z) (b.z - a.z))))] ⟨litGet (by kernel_rfl), trivial⟩ (fun X9 => ?_)
  refine wp_ret ?_
  refine bodyPost_ret (v := .int .i64 (((max (a.x - b.x) (b.x - a.x)) + (max (a.y - b.y) (b.y - a.y))) + (max (a.z - b.z) (b.z - a.z)))) (gRes1 rfl (gResTmp (t := 4) (v := .int .i64 (((max (a.x - b.x) (b.x - a.x)) + (max (a.y - b.y) (b.y - a.y))) + (max (a.z - b.z) (b.z - a.z)))) (litGet (by kernel_rfl)))) rfl ?_
  exact ⟨by rfl, hm6.bel⟩
set_option maxRecDepth 100000 in
set_option maxHeartbeats 4000000 in
theorem inRange1_any (p : Pt) (w : World) : Calls Try.prog 20 #[.agg (pcs p).toArray] w (RetV w (.bool (decide p.rng))) := by
  have hm0 := Mem.nil w
  go_enter Try.func20, Try.ntmps20
  refine litStart 27 [(0, .agg (pcs p).toArray)] (by kernel_rfl) (fun X0 => ?_)
  refine wp_seq_k fun K1 hK1 => ?_
  refine plStart ?_
  refine plBox hm0 (cs := pcs p) (i := 0) rfl (wn rfl) rfl (litEv (by kernel_rfl)) ?_
  intro g2 w4 hm3
  clear hm0
  try simp only [List.cons_append, List.nil_append, List.set_cons_succ, List.set_cons_zero] at hm3
  refine qP rfl ?_
  refine lk (v := .bool false) rfl rfl rfl ?_
  refine plD ?_
  refine then_normal (hK1 _ _ ?_)
  refine wp_seq_k fun K5 hK5 => ?_
  refine plStart ?_
  refine lk (v := .pointer (some ⟨g2, 0, none⟩)) rfl rfl rfl ?_
  refine litVal (v := .int .i64 p.x) rfl (wn rfl) (gLoad (v := .int .i64 p.x) (k := 0) 0 hm3 rfl (by kernel_rfl) (.tmp 5) (by kernel_rfl) rfl (litEv (by kernel_rfl))) rfl (by decide) ?_
  refine lk (v := .pointer (some ⟨g2, 1, none⟩)) rfl rfl rfl ?_
  refine litVal (v := .int .i64 p.y) rfl (wn rfl) (gLoad (v := .int .i64 p.y) (k := 1) 0 hm3 rfl (by kernel_rfl) (.tmp 7) (by kernel_rfl) rfl (litEv (by kernel_rfl))) rfl (by decide) ?_
  refine lk (v := .pointer (some ⟨g2, 2, none⟩)) rfl rfl rfl ?_
  refine litVal (v := .int .i64 p.z) rfl (wn rfl) (gLoad (v := .int .i64 p.z) (k := 2) 0 hm3 rfl (by kernel_rfl) (.tmp 9) (by kernel_rfl) rfl (litEv (by kernel_rfl))) rfl (by decide) ?_
  refine litVal (v := .int .i64 (min p.y p.z)) rfl (wn rfl) (gMin (.tmp 8) (.tmp 10) rfl (litEv (by kernel_rfl)) (litEv (by kernel_rfl))) rfl (by decide) ?_
  refine litVal (v := .int .i64 (min p.x (min p.y p.z))) rfl (wn rfl) (gMin (.tmp 6) (.tmp 11) rfl (litEv (by kernel_rfl)) (litEv (by kernel_rfl))) rfl (by decide) ?_
  refine lk (v := .int .i64 (min p.x (min p.y p.z))) rfl rfl rfl ?_
  refine plD ?_
  refine then_normal (hK5 _ _ ?_)
  refine wp_seq_k fun K6 hK6 => ?_
  refine plStart ?_
  refine lk (v := .pointer (some ⟨g2, 0, none⟩)) rfl rfl rfl ?_
  refine litVal (v := .int .i64 p.x) rfl (wn rfl) (gLoad (v := .int .i64 p.x) (k := 0) 0 hm3 rfl (by kernel_rfl) (.tmp 13) (by kernel_rfl) rfl (litEv (by kernel_rfl))) rfl (by decide) ?_
  refine lk (v := .pointer (some ⟨g2, 1, none⟩)) rfl rfl rfl ?_
  refine litVal (v := .int .i64 p.y) rfl (wn rfl) (gLoad (v := .int .i64 p.y) (k := 1) 0 hm3 rfl (by kernel_rfl) (.tmp 15) (by kernel_rfl) rfl (litEv (by kernel_rfl))) rfl (by decide) ?_
  refine lk (v := .pointer (some ⟨g2, 2, none⟩)) rfl rfl rfl ?_
  refine litVal (v := .int .i64 p.z) rfl (wn rfl) (gLoad (v := .int .i64 p.z) (k := 2) 0 hm3 rfl (by kernel_rfl) (.tmp 17) (by kernel_rfl) rfl (litEv (by kernel_rfl))) rfl (by decide) ?_
  refine litVal (v := .int .i64 (max p.y p.z)) rfl (wn rfl) (gMax (.tmp 16) (.tmp 18) rfl (litEv (by kernel_rfl)) (litEv (by kernel_rfl))) rfl (by decide) ?_
  refine litVal (v := .int .i64 (max p.x (max p.y p.z))) rfl (wn rfl) (gMax (.tmp 14) (.tmp 19) rfl (litEv (by kernel_rfl)) (litEv (by kernel_rfl))) rfl (by decide) ?_
  refine lk (v := .int .i64 (max p.x (max p.y p.z))) rfl rfl rfl ?_
  refine plD ?_
  refine then_normal (hK6 _ _ ?_)
  refine wpPrune [(2, .bool false), (3, .int .i64 (min p.x (min p.y p.z))), (4, .int .i64 (max p.x (max p.y p.z)))] ⟨litGet (by kernel_rfl), ⟨litGet (by kernel_rfl), ⟨litGet (by kernel_rfl), trivial⟩⟩⟩ (fun X7 => ?_)
  refine wp_seq_k fun K8 hK8 => ?_
  refine plStart ?_
  refine lk (v := .int .i64 (min p.x (min p.y p.z))) rfl rfl rfl ?_
  by_cases h9 : (-1048575) ≤ (min p.x (min p.y p.z))
  · refine litVal (v := .bool true) rfl (wn rfl) (boolTo (decide_eq_true h9) (gGeq (A := (min p.x (min p.y p.z))) (B := (-1048575)) (.tmp 21) (.const (.int .i64 (-1048575))) rfl (litEv (by kernel_rfl)) (litEv (by kernel_rfl)))) rfl (by decide) ?_
    refine lk (v := .bool true) rfl rfl rfl ?_
    refine litVal (v := .int .i64 (max p.x (max p.y p.z))) rfl (wgY rfl rfl rfl (by decide) (by kernel_rfl)) (litRun (by kernel_rfl)) rfl (by decide) ?_
    by_cases h10 : (max p.x (max p.y p.z)) ≤ 1048575
    · refine litVal (v := .bool true) rfl (wgY rfl rfl rfl (by decide) (by kernel_rfl)) (boolTo (decide_eq_true h10) (leqRun (A := (max p.x (max p.y p.z))) (B := 1048575) (.tmp 24) (.const (.int .i64 1048575)) rfl (litEv (by kernel_rfl)) (litEv (by kernel_rfl)))) rfl (by decide) ?_
      refine lk (v := .bool true) rfl rfl rfl ?_
      refine lk (v := .bool true) rfl rfl rfl ?_
      refine plD ?_
      refine then_normal (hK8 _ _ ?_)
      refine wp_ret ?_
      refine bodyPost_ret (v := .bool true) (gRes1 rfl (gResTmp (t := 2) (v := .bool true) (litGet (by kernel_rfl)))) rfl ?_
      exact ⟨congrArg (fun b_ => Ending.returned (.bool b_)) (decide_eq_true (by unfold Pt.rng; omega)).symm, hm3.bel⟩
    refine litVal (v := .bool false) rfl (wgY rfl rfl rfl (by decide) (by kernel_rfl)) (boolTo (decide_eq_false h10) (leqRun (A := (max p.x (max p.y p.z))) (B := 1048575) (.tmp 24) (.const (.int .i64 1048575)) rfl (litEv (by kernel_rfl)) (litEv (by kernel_rfl)))) rfl (by decide) ?_
    refine lk (v := .bool false) rfl rfl rfl ?_
    refine lk (v := .bool false) rfl rfl rfl ?_
    refine plD ?_
    refine then_normal (hK8 _ _ ?_)
    refine wp_ret ?_
    refine bodyPost_ret (v := .bool false) (gRes1 rfl (gResTmp (t := 2) (v := .bool false) (litGet (by kernel_rfl)))) rfl ?_
    exact ⟨congrArg (fun b_ => Ending.returned (.bool b_)) (decide_eq_false (by unfold Pt.rng; omega)).symm, hm3.bel⟩
  refine litVal (v := .bool false) rfl (wn rfl) (boolTo (decide_eq_false h9) (gGeq (A := (min p.x (min p.y p.z))) (B := (-1048575)) (.tmp 21) (.const (.int .i64 (-1048575))) rfl (litEv (by kernel_rfl)) (litEv (by kernel_rfl)))) rfl (by decide) ?_
  refine lk (v := .bool false) rfl rfl rfl ?_
  refine plSkip (i := 3) rfl (wgN rfl rfl rfl (by decide) (by kernel_rfl)) ?_
  refine qP rfl ?_
  refine plSkip (i := 4) rfl (wgN rfl rfl rfl (by decide) (by kernel_rfl)) ?_
  refine qP rfl ?_
  refine lk (v := .bool false) rfl rfl rfl ?_
  refine lk (v := .bool false) rfl rfl rfl ?_
  refine plD ?_
  refine then_normal (hK8 _ _ ?_)
  refine wp_ret ?_
  refine bodyPost_ret (v := .bool false) (gRes1 rfl (gResTmp (t := 2) (v := .bool false) (litGet (by kernel_rfl)))) rfl ?_
  exact ⟨congrArg (fun b_ => Ending.returned (.bool b_)) (decide_eq_false (by unfold Pt.rng; omega)).symm, hm3.bel⟩
set_option maxRecDepth 100000 in
set_option maxHeartbeats 4000000 in
theorem near_any (n : Int) (w : World) : Calls Try.prog 50 #[.int .i64 n] w (RetV w (.bool (decide (-1048575 ≤ n ∧ n ≤ 1048575)))) := by
  have hm0 := Mem.nil w
  go_enter Try.func50, Try.ntmps50
  refine litStart 9 [(0, .int .i64 n)] (by kernel_rfl) (fun X0 => ?_)
  refine wp_seq_k fun K1 hK1 => ?_
  refine plStart ?_
  refine lk (v := .bool false) rfl rfl rfl ?_
  refine plD ?_
  refine then_normal (hK1 _ _ ?_)
  refine wp_seq_k fun K2 hK2 => ?_
  refine plStart ?_
  refine lk (v := .int .i64 n) rfl rfl rfl ?_
  by_cases h3 : (-1048575) ≤ n
  · refine litVal (v := .bool true) rfl (wn rfl) (boolTo (decide_eq_true h3) (gGeq (A := n) (B := (-1048575)) (.tmp 3) (.const (.int .i64 (-1048575))) rfl (litEv (by kernel_rfl)) (litEv (by kernel_rfl)))) rfl (by decide) ?_
    refine lk (v := .bool true) rfl rfl rfl ?_
    refine litVal (v := .int .i64 n) rfl (wgY rfl rfl rfl (by decide) (by kernel_rfl)) (litRun (by kernel_rfl)) rfl (by decide) ?_
    by_cases h4 : n ≤ 1048575
    · refine litVal (v := .bool true) rfl (wgY rfl rfl rfl (by decide) (by kernel_rfl)) (boolTo (decide_eq_true h4) (leqRun (A := n) (B := 1048575) (.tmp 6) (.const (.int .i64 1048575)) rfl (litEv (by kernel_rfl)) (litEv (by kernel_rfl)))) rfl (by decide) ?_
      refine lk (v := .bool true) rfl rfl rfl ?_
      refine lk (v := .bool true) rfl rfl rfl ?_
      refine plD ?_
      refine then_normal (hK2 _ _ ?_)
      refine wp_ret ?_
      refine bodyPost_ret (v := .bool true) (gRes1 rfl (gResTmp (t := 2) (v := .bool true) (litGet (by kernel_rfl)))) rfl ?_
      exact ⟨congrArg (fun b_ => Ending.returned (.bool b_)) (decide_eq_true (by omega)).symm, hm0.bel⟩
    refine litVal (v := .bool false) rfl (wgY rfl rfl rfl (by decide) (by kernel_rfl)) (boolTo (decide_eq_false h4) (leqRun (A := n) (B := 1048575) (.tmp 6) (.const (.int .i64 1048575)) rfl (litEv (by kernel_rfl)) (litEv (by kernel_rfl)))) rfl (by decide) ?_
    refine lk (v := .bool false) rfl rfl rfl ?_
    refine lk (v := .bool false) rfl rfl rfl ?_
    refine plD ?_
    refine then_normal (hK2 _ _ ?_)
    refine wp_ret ?_
    refine bodyPost_ret (v := .bool false) (gRes1 rfl (gResTmp (t := 2) (v := .bool false) (litGet (by kernel_rfl)))) rfl ?_
    exact ⟨congrArg (fun b_ => Ending.returned (.bool b_)) (decide_eq_false (by omega)).symm, hm0.bel⟩
  refine litVal (v := .bool false) rfl (wn rfl) (boolTo (decide_eq_false h3) (gGeq (A := n) (B := (-1048575)) (.tmp 3) (.const (.int .i64 (-1048575))) rfl (litEv (by kernel_rfl)) (litEv (by kernel_rfl)))) rfl (by decide) ?_
  refine lk (v := .bool false) rfl rfl rfl ?_
  refine plSkip (i := 3) rfl (wgN rfl rfl rfl (by decide) (by kernel_rfl)) ?_
  refine qP rfl ?_
  refine plSkip (i := 4) rfl (wgN rfl rfl rfl (by decide) (by kernel_rfl)) ?_
  refine qP rfl ?_
  refine lk (v := .bool false) rfl rfl rfl ?_
  refine lk (v := .bool false) rfl rfl rfl ?_
  refine plD ?_
  refine then_normal (hK2 _ _ ?_)
  refine wp_ret ?_
  refine bodyPost_ret (v := .bool false) (gRes1 rfl (gResTmp (t := 2) (v := .bool false) (litGet (by kernel_rfl)))) rfl ?_
  exact ⟨congrArg (fun b_ => Ending.returned (.bool b_)) (decide_eq_false (by omega)).symm, hm0.bel⟩
set_option maxRecDepth 100000 in
set_option maxHeartbeats 4000000 in
theorem ranged_any (p : Pt) (w : World) : Calls Try.prog 38 #[.agg (pcs p).toArray] w (RetV w (.bool (decide p.rng))) := by
  have hm0 := Mem.nil w
  go_enter Try.func38, Try.ntmps38
  refine litStart 16 [(0, .agg (pcs p).toArray)] (by kernel_rfl) (fun X0 => ?_)
  refine wp_seq_k fun K1 hK1 => ?_
  refine plStart ?_
  refine plBox hm0 (cs := pcs p) (i := 0) rfl (wn rfl) rfl (litEv (by kernel_rfl)) ?_
  intro g2 w4 hm3
  clear hm0
  try simp only [List.cons_append, List.nil_append, List.set_cons_succ, List.set_cons_zero] at hm3
  refine qP rfl ?_
  refine lk (v := .bool false) rfl rfl rfl ?_
  refine plD ?_
  refine then_normal (hK1 _ _ ?_)
  refine wp_seq_k fun K5 hK5 => ?_
  refine plStart ?_
  refine lk (v := .pointer (some ⟨g2, 0, none⟩)) rfl rfl rfl ?_
  refine litVal (v := .int .i64 p.x) rfl (wn rfl) (gLoad (v := .int .i64 p.x) (k := 0) 0 hm3 rfl (by kernel_rfl) (.tmp 3) (by kernel_rfl) rfl (litEv (by kernel_rfl))) rfl (by decide) ?_
  refine plCall (i := 2) 50 [.int .i64 p.x] [] [] rfl (by kernel_rfl) (wn rfl) rfl (litEv (by kernel_rfl)) (litArgs (by kernel_rfl)) (near_any p.x _) ?_
  rintro e w6 ⟨rfl, hbz⟩
  have hm7 := hm3.below hbz
  clear hbz hm3
  refine ⟨_, rfl, ?_⟩
  refine qP rfl ?_
  rcases bool_or (decide (-1048575 ≤ p.x ∧ p.x ≤ 1048575)) with h8 | h8
  · rw [h8]
    refine lk (v := .bool false) rfl rfl rfl ?_
    refine plSkip (i := 4) rfl (wgN rfl rfl rfl (by decide) (by kernel_rfl)) ?_
    refine qP rfl ?_
    refine plSkip (i := 5) rfl (wgN rfl rfl rfl (by decide) (by kernel_rfl)) ?_
    refine qP rfl ?_
    refine plSkip (i := 6) rfl (wgN rfl rfl rfl (by decide) (by kernel_rfl)) ?_
    refine qP rfl ?_
    refine lk (v := .bool false) rfl rfl rfl ?_
    refine lk (v := .bool false) rfl rfl rfl ?_
    refine plSkip (i := 9) rfl (wgN rfl rfl rfl (by decide) (by kernel_rfl)) ?_
    refine qP rfl ?_
    refine plSkip (i := 10) rfl (wgN rfl rfl rfl (by decide) (by kernel_rfl)) ?_
    refine qP rfl ?_
    refine plSkip (i := 11) rfl (wgN rfl rfl rfl (by decide) (by kernel_rfl)) ?_
    refine qP rfl ?_
    refine lk (v := .bool false) rfl rfl rfl ?_
    refine lk (v := .bool false) rfl rfl rfl ?_
    refine plD ?_
    refine then_normal (hK5 _ _ ?_)
    refine wpPrune [(2, .bool false)] ⟨litGet (by kernel_rfl), trivial⟩ (fun X9 => ?_)
    refine wp_ret ?_
    refine bodyPost_ret (v := .bool false) (gRes1 rfl (gResTmp (t := 2) (v := .bool false) (litGet (by kernel_rfl)))) rfl ?_
    exact ⟨congrArg (fun b_ => Ending.returned (.bool b_)) (decide_eq_false (by unfold Pt.rng; simp_all; try omega)).symm, hm7.bel⟩
  rw [h8]
  refine lk (v := .bool true) rfl rfl rfl ?_
  refine litVal (v := .pointer (some ⟨g2, 1, none⟩)) rfl (wgY rfl rfl rfl (by decide) (by kernel_rfl)) (litRun (by kernel_rfl)) rfl (by decide) ?_
  refine litVal (v := .int .i64 p.y) rfl (wgY rfl rfl rfl (by decide) (by kernel_rfl)) (gLoad (v := .int .i64 p.y) (k := 1) 0 hm7 rfl (by kernel_rfl) (.tmp 7) (by kernel_rfl) rfl (litEv (by kernel_rfl))) rfl (by decide) ?_
  refine plCall (i := 6) 50 [.int .i64 p.y] [] [] rfl (by kernel_rfl) (wgY rfl rfl rfl (by decide) (by kernel_rfl)) rfl (litEv (by kernel_rfl)) (litArgs (by kernel_rfl)) (near_any p.y _) ?_
  rintro e w10 ⟨rfl, hbz⟩
  have hm11 := hm7.below hbz
  clear hbz hm7
  refine ⟨_, rfl, ?_⟩
  refine qP rfl ?_
  rcases bool_or (decide (-1048575 ≤ p.y ∧ p.y ≤ 1048575)) with h12 | h12
  · rw [h12]
    refine lk (v := .bool false) rfl rfl rfl ?_
    refine lk (v := .bool false) rfl rfl rfl ?_
    refine plSkip (i := 9) rfl (wgN rfl rfl rfl (by decide) (by kernel_rfl)) ?_
    refine qP rfl ?_
    refine plSkip (i := 10) rfl (wgN rfl rfl rfl (by decide) (by kernel_rfl)) ?_
    refine qP rfl ?_
    refine plSkip (i := 11) rfl (wgN rfl rfl rfl (by decide) (by kernel_rfl)) ?_
    refine qP rfl ?_
    refine lk (v := .bool false) rfl rfl rfl ?_
    refine lk (v := .bool false) rfl rfl rfl ?_
    refine plD ?_
    refine then_normal (hK5 _ _ ?_)
    refine wpPrune [(2, .bool false)] ⟨litGet (by kernel_rfl), trivial⟩ (fun X13 => ?_)
    refine wp_ret ?_
    refine bodyPost_ret (v := .bool false) (gRes1 rfl (gResTmp (t := 2) (v := .bool false) (litGet (by kernel_rfl)))) rfl ?_
    exact ⟨congrArg (fun b_ => Ending.returned (.bool b_)) (decide_eq_false (by unfold Pt.rng; simp_all; try omega)).symm, hm11.bel⟩
  rw [h12]
  refine lk (v := .bool true) rfl rfl rfl ?_
  refine lk (v := .bool true) rfl rfl rfl ?_
  refine litVal (v := .pointer (some ⟨g2, 2, none⟩)) rfl (wgY rfl rfl rfl (by decide) (by kernel_rfl)) (litRun (by kernel_rfl)) rfl (by decide) ?_
  refine litVal (v := .int .i64 p.z) rfl (wgY rfl rfl rfl (by decide) (by kernel_rfl)) (gLoad (v := .int .i64 p.z) (k := 2) 0 hm11 rfl (by kernel_rfl) (.tmp 12) (by kernel_rfl) rfl (litEv (by kernel_rfl))) rfl (by decide) ?_
  refine plCall (i := 11) 50 [.int .i64 p.z] [] [] rfl (by kernel_rfl) (wgY rfl rfl rfl (by decide) (by kernel_rfl)) rfl (litEv (by kernel_rfl)) (litArgs (by kernel_rfl)) (near_any p.z _) ?_
  rintro e w14 ⟨rfl, hbz⟩
  have hm15 := hm11.below hbz
  clear hbz hm11
  refine ⟨_, rfl, ?_⟩
  refine qP rfl ?_
  rcases bool_or (decide (-1048575 ≤ p.z ∧ p.z ≤ 1048575)) with h16 | h16
  · rw [h16]
    refine lk (v := .bool false) rfl rfl rfl ?_
    refine lk (v := .bool false) rfl rfl rfl ?_
    refine plD ?_
    refine then_normal (hK5 _ _ ?_)
    refine wpPrune [(2, .bool false)] ⟨litGet (by kernel_rfl), trivial⟩ (fun X17 => ?_)
    refine wp_ret ?_
    refine bodyPost_ret (v := .bool false) (gRes1 rfl (gResTmp (t := 2) (v := .bool false) (litGet (by kernel_rfl)))) rfl ?_
    exact ⟨congrArg (fun b_ => Ending.returned (.bool b_)) (decide_eq_false (by unfold Pt.rng; simp_all; try omega)).symm, hm15.bel⟩
  rw [h16]
  refine lk (v := .bool true) rfl rfl rfl ?_
  refine lk (v := .bool true) rfl rfl rfl ?_
  refine plD ?_
  refine then_normal (hK5 _ _ ?_)
  refine wpPrune [(2, .bool true)] ⟨litGet (by kernel_rfl), trivial⟩ (fun X18 => ?_)
  refine wp_ret ?_
  refine bodyPost_ret (v := .bool true) (gRes1 rfl (gResTmp (t := 2) (v := .bool true) (litGet (by kernel_rfl)))) rfl ?_
  exact ⟨congrArg (fun b_ => Ending.returned (.bool b_)) (decide_eq_true (by unfold Pt.rng; simp_all; try omega)).symm, hm15.bel⟩
set_option maxRecDepth 100000 in
set_option maxHeartbeats 4000000 in
theorem isMat_any (n : Int) (w : World) : Calls Try.prog 40 #[.int .i64 n] w (RetV w (.bool (decide (0 ≤ n ∧ n < 256)))) := by
  have hm0 := Mem.nil w
  go_enter Try.func40, Try.ntmps40
  refine litStart 9 [(0, .int .i64 n)] (by kernel_rfl) (fun X0 => ?_)
  refine wp_seq_k fun K1 hK1 => ?_
  refine plStart ?_
  refine lk (v := .bool false) rfl rfl rfl ?_
  refine plD ?_
  refine then_normal (hK1 _ _ ?_)
  refine wp_seq_k fun K2 hK2 => ?_
  refine plStart ?_
  refine lk (v := .int .i64 n) rfl rfl rfl ?_
  by_cases h3 : 0 ≤ n
  · refine litVal (v := .bool true) rfl (wn rfl) (boolTo (decide_eq_true h3) (gGeq (A := n) (B := 0) (.tmp 3) (.const (.int .i64 0)) rfl (litEv (by kernel_rfl)) (litEv (by kernel_rfl)))) rfl (by decide) ?_
    refine lk (v := .bool true) rfl rfl rfl ?_
    refine litVal (v := .int .i64 n) rfl (wgY rfl rfl rfl (by decide) (by kernel_rfl)) (litRun (by kernel_rfl)) rfl (by decide) ?_
    by_cases h4 : n < 256
    · refine litVal (v := .bool true) rfl (wgY rfl rfl rfl (by decide) (by kernel_rfl)) (boolTo (decide_eq_true h4) (lssRun (A := n) (B := 256) (.tmp 6) (.const (.int .i64 256)) rfl (litEv (by kernel_rfl)) (litEv (by kernel_rfl)))) rfl (by decide) ?_
      refine lk (v := .bool true) rfl rfl rfl ?_
      refine lk (v := .bool true) rfl rfl rfl ?_
      refine plD ?_
      refine then_normal (hK2 _ _ ?_)
      refine wp_ret ?_
      refine bodyPost_ret (v := .bool true) (gRes1 rfl (gResTmp (t := 2) (v := .bool true) (litGet (by kernel_rfl)))) rfl ?_
      exact ⟨congrArg (fun b_ => Ending.returned (.bool b_)) (decide_eq_true (by omega)).symm, hm0.bel⟩
    refine litVal (v := .bool false) rfl (wgY rfl rfl rfl (by decide) (by kernel_rfl)) (boolTo (decide_eq_false h4) (lssRun (A := n) (B := 256) (.tmp 6) (.const (.int .i64 256)) rfl (litEv (by kernel_rfl)) (litEv (by kernel_rfl)))) rfl (by decide) ?_
    refine lk (v := .bool false) rfl rfl rfl ?_
    refine lk (v := .bool false) rfl rfl rfl ?_
    refine plD ?_
    refine then_normal (hK2 _ _ ?_)
    refine wp_ret ?_
    refine bodyPost_ret (v := .bool false) (gRes1 rfl (gResTmp (t := 2) (v := .bool false) (litGet (by kernel_rfl)))) rfl ?_
    exact ⟨congrArg (fun b_ => Ending.returned (.bool b_)) (decide_eq_false (by omega)).symm, hm0.bel⟩
  refine litVal (v := .bool false) rfl (wn rfl) (boolTo (decide_eq_false h3) (gGeq (A := n) (B := 0) (.tmp 3) (.const (.int .i64 0)) rfl (litEv (by kernel_rfl)) (litEv (by kernel_rfl)))) rfl (by decide) ?_
  refine lk (v := .bool false) rfl rfl rfl ?_
  refine plSkip (i := 3) rfl (wgN rfl rfl rfl (by decide) (by kernel_rfl)) ?_
  refine qP rfl ?_
  refine plSkip (i := 4) rfl (wgN rfl rfl rfl (by decide) (by kernel_rfl)) ?_
  refine qP rfl ?_
  refine lk (v := .bool false) rfl rfl rfl ?_
  refine lk (v := .bool false) rfl rfl rfl ?_
  refine plD ?_
  refine then_normal (hK2 _ _ ?_)
  refine wp_ret ?_
  refine bodyPost_ret (v := .bool false) (gRes1 rfl (gResTmp (t := 2) (v := .bool false) (litGet (by kernel_rfl)))) rfl ?_
  exact ⟨congrArg (fun b_ => Ending.returned (.bool b_)) (decide_eq_false (by omega)).symm, hm0.bel⟩
set_option maxRecDepth 100000 in
set_option maxHeartbeats 4000000 in
theorem in_any (p : Pt) (b : Bx) (w : World) : Calls Try.prog 27 #[.agg (pcs p).toArray, .agg (bxs b).toArray] w (RetV w (.bool (decide (b.has p)))) := by
  have hm0 := Mem.nil w
  go_enter Try.func27, Try.ntmps27
  refine litStart 57 [(0, .agg (pcs p).toArray), (1, .agg (bxs b).toArray)] (by kernel_rfl) (fun X0 => ?_)
  refine wp_seq_k fun K1 hK1 => ?_
  refine plStart ?_
  refine plBox hm0 (cs := pcs p) (i := 0) rfl (wn rfl) rfl (litEv (by kernel_rfl)) ?_
  intro g2 w4 hm3
  clear hm0
  try simp only [List.cons_append, List.nil_append, List.set_cons_succ, List.set_cons_zero] at hm3
  refine qP rfl ?_
  refine plBox hm3 (cs := bxs b) (i := 1) rfl (wn rfl) rfl (litEv (by kernel_rfl)) ?_
  intro g5 w7 hm6
  clear hm3
  try simp only [List.cons_append, List.nil_append, List.set_cons_succ, List.set_cons_zero] at hm6
  refine qP rfl ?_
  refine lk (v := .bool false) rfl rfl rfl ?_
  refine plD ?_
  refine then_normal (hK1 _ _ ?_)
  refine wp_seq_k fun K8 hK8 => ?_
  refine plStart ?_
  refine lk (v := .pointer (some ⟨g2, 0, none⟩)) rfl rfl rfl ?_
  refine litVal (v := .int .i64 p.x) rfl (wn rfl) (gLoad (v := .int .i64 p.x) (k := 0) 0 hm6 rfl (by kernel_rfl) (.tmp 8) (by kernel_rfl) rfl (litEv (by kernel_rfl))) rfl (by decide) ?_
  refine lk (v := .pointer (some ⟨g5, 0, none⟩)) rfl rfl rfl ?_
  refine lk (v := .pointer (some ⟨g5, 0, none⟩)) rfl rfl rfl ?_
  refine litVal (v := .int .i64 b.mn.x) rfl (wn rfl) (gLoad (v := .int .i64 b.mn.x) (k := 0) 1 hm6 rfl (by kernel_rfl) (.tmp 11) (by kernel_rfl) rfl (litEv (by kernel_rfl))) rfl (by decide) ?_
  by_cases h9 : b.mn.x ≤ p.x
  · refine litVal (v := .bool true) rfl (wn rfl) (boolTo (decide_eq_true h9) (gGeq (A := p.x) (B := b.mn.x) (.tmp 9) (.tmp 12) rfl (litEv (by kernel_rfl)) (litEv (by kernel_rfl)))) rfl (by decide) ?_
    refine lk (v := .bool true) rfl rfl rfl ?_
    refine litVal (v := .pointer (some ⟨g2, 0, none⟩)) rfl (wgY rfl rfl rfl (by decide) (by kernel_rfl)) (litRun (by kernel_rfl)) rfl (by decide) ?_
    refine litVal (v := .int .i64 p.x) rfl (wgY rfl rfl rfl (by decide) (by kernel_rfl)) (gLoad (v := .int .i64 p.x) (k := 0) 0 hm6 rfl (by kernel_rfl) (.tmp 15) (by kernel_rfl) rfl (litEv (by kernel_rfl))) rfl (by decide) ?_
    refine litVal (v := .pointer (some ⟨g5, 3, none⟩)) rfl (wgY rfl rfl rfl (by decide) (by kernel_rfl)) (litRun (by kernel_rfl)) rfl (by decide) ?_
    refine litVal (v := .pointer (some ⟨g5, 3, none⟩)) rfl (wgY rfl rfl rfl (by decide) (by kernel_rfl)) (litRun (by kernel_rfl)) rfl (by decide) ?_
    refine litVal (v := .int .i64 b.mx.x) rfl (wgY rfl rfl rfl (by decide) (by kernel_rfl)) (gLoad (v := .int .i64 b.mx.x) (k := 3) 1 hm6 rfl (by kernel_rfl) (.tmp 18) (by kernel_rfl) rfl (litEv (by kernel_rfl))) rfl (by decide) ?_
    by_cases h10 : p.x < b.mx.x
    · refine litVal (v := .bool true) rfl (wgY rfl rfl rfl (by decide) (by kernel_rfl)) (boolTo (decide_eq_true h10) (lssRun (A := p.x) (B := b.mx.x) (.tmp 16) (.tmp 19) rfl (litEv (by kernel_rfl)) (litEv (by kernel_rfl)))) rfl (by decide) ?_
      refine lk (v := .bool true) rfl rfl rfl ?_
      refine lk (v := .bool true) rfl rfl rfl ?_
      refine plD ?_
      refine then_normal (hK8 _ _ ?_)
      refine wpPrune [(2, .pointer (some ⟨g2, 0, none⟩)), (3, .pointer (some ⟨g5, 0, none⟩)), (4, .bool false), (5, .bool true)] ⟨litGet (by kernel_rfl), ⟨litGet (by kernel_rfl), ⟨litGet (by kernel_rfl), ⟨litGet (by kernel_rfl), trivial⟩⟩⟩⟩ (fun X11 => ?_)
      refine wp_seq_k fun K12 hK12 => ?_
      refine plStart ?_
      refine lk (v := .pointer (some ⟨g2, 1, none⟩)) rfl rfl rfl ?_
      refine litVal (v := .int .i64 p.y) rfl (wn rfl) (gLoad (v := .int .i64 p.y) (k := 1) 0 hm6 rfl (by kernel_rfl) (.tmp 22) (by kernel_rfl) rfl (litEv (by kernel_rfl))) rfl (by decide) ?_
      refine lk (v := .pointer (some ⟨g5, 0, none⟩)) rfl rfl rfl ?_
      refine lk (v := .pointer (some ⟨g5, 1, none⟩)) rfl rfl rfl ?_
      refine litVal (v := .int .i64 b.mn.y) rfl (wn rfl) (gLoad (v := .int .i64 b.mn.y) (k := 1) 1 hm6 rfl (by kernel_rfl) (.tmp 25) (by kernel_rfl) rfl (litEv (by kernel_rfl))) rfl (by decide) ?_
      by_cases h13 : b.mn.y ≤ p.y
      · refine litVal (v := .bool true) rfl (wn rfl) (boolTo (decide_eq_true h13) (gGeq (A := p.y) (B := b.mn.y) (.tmp 23) (.tmp 26) rfl (litEv (by kernel_rfl)) (litEv (by kernel_rfl)))) rfl (by decide) ?_
        refine lk (v := .bool true) rfl rfl rfl ?_
        refine litVal (v := .pointer (some ⟨g2, 1, none⟩)) rfl (wgY rfl rfl rfl (by decide) (by kernel_rfl)) (litRun (by kernel_rfl)) rfl (by decide) ?_
        refine litVal (v := .int .i64 p.y) rfl (wgY rfl rfl rfl (by decide) (by kernel_rfl)) (gLoad (v := .int .i64 p.y) (k := 1) 0 hm6 rfl (by kernel_rfl) (.tmp 29) (by kernel_rfl) rfl (litEv (by kernel_rfl))) rfl (by decide) ?_
        refine litVal (v := .pointer (some ⟨g5, 3, none⟩)) rfl (wgY rfl rfl rfl (by decide) (by kernel_rfl)) (litRun (by kernel_rfl)) rfl (by decide) ?_
        refine litVal (v := .pointer (some ⟨g5, 4, none⟩)) rfl (wgY rfl rfl rfl (by decide) (by kernel_rfl)) (litRun (by kernel_rfl)) rfl (by decide) ?_
        refine litVal (v := .int .i64 b.mx.y) rfl (wgY rfl rfl rfl (by decide) (by kernel_rfl)) (gLoad (v := .int .i64 b.mx.y) (k := 4) 1 hm6 rfl (by kernel_rfl) (.tmp 32) (by kernel_rfl) rfl (litEv (by kernel_rfl))) rfl (by decide) ?_
        by_cases h14 : p.y < b.mx.y
        · refine litVal (v := .bool true) rfl (wgY rfl rfl rfl (by decide) (by kernel_rfl)) (boolTo (decide_eq_true h14) (lssRun (A := p.y) (B := b.mx.y) (.tmp 30) (.tmp 33) rfl (litEv (by kernel_rfl)) (litEv (by kernel_rfl)))) rfl (by decide) ?_
          refine lk (v := .bool true) rfl rfl rfl ?_
          refine lk (v := .bool true) rfl rfl rfl ?_
          refine plD ?_
          refine then_normal (hK12 _ _ ?_)
          refine wpPrune [(2, .pointer (some ⟨g2, 0, none⟩)), (3, .pointer (some ⟨g5, 0, none⟩)), (4, .bool false), (5, .bool true), (6, .bool true)] ⟨litGet (by kernel_rfl), ⟨litGet (by kernel_rfl), ⟨litGet (by kernel_rfl), ⟨litGet (by kernel_rfl), ⟨litGet (by kernel_rfl), trivial⟩⟩⟩⟩⟩ (fun X15 => ?_)
          refine wp_seq_k fun K16 hK16 => ?_
          refine plStart ?_
          refine lk (v := .pointer (some ⟨g2, 2, none⟩)) rfl rfl rfl ?_
          refine litVal (v := .int .i64 p.z) rfl (wn rfl) (gLoad (v := .int .i64 p.z) (k := 2) 0 hm6 rfl (by kernel_rfl) (.tmp 36) (by kernel_rfl) rfl (litEv (by kernel_rfl))) rfl (by decide) ?_
          refine lk (v := .pointer (some ⟨g5, 0, none⟩)) rfl rfl rfl ?_
          refine lk (v := .pointer (some ⟨g5, 2, none⟩)) rfl rfl rfl ?_
          refine litVal (v := .int .i64 b.mn.z) rfl (wn rfl) (gLoad (v := .int .i64 b.mn.z) (k := 2) 1 hm6 rfl (by kernel_rfl) (.tmp 39) (by kernel_rfl) rfl (litEv (by kernel_rfl))) rfl (by decide) ?_
          by_cases h17 : b.mn.z ≤ p.z
          · refine litVal (v := .bool true) rfl (wn rfl) (boolTo (decide_eq_true h17) (gGeq (A := p.z) (B := b.mn.z) (.tmp 37) (.tmp 40) rfl (litEv (by kernel_rfl)) (litEv (by kernel_rfl)))) rfl (by decide) ?_
            refine lk (v := .bool true) rfl rfl rfl ?_
            refine litVal (v := .pointer (some ⟨g2, 2, none⟩)) rfl (wgY rfl rfl rfl (by decide) (by kernel_rfl)) (litRun (by kernel_rfl)) rfl (by decide) ?_
            refine litVal (v := .int .i64 p.z) rfl (wgY rfl rfl rfl (by decide) (by kernel_rfl)) (gLoad (v := .int .i64 p.z) (k := 2) 0 hm6 rfl (by kernel_rfl) (.tmp 43) (by kernel_rfl) rfl (litEv (by kernel_rfl))) rfl (by decide) ?_
            refine litVal (v := .pointer (some ⟨g5, 3, none⟩)) rfl (wgY rfl rfl rfl (by decide) (by kernel_rfl)) (litRun (by kernel_rfl)) rfl (by decide) ?_
            refine litVal (v := .pointer (some ⟨g5, 5, none⟩)) rfl (wgY rfl rfl rfl (by decide) (by kernel_rfl)) (litRun (by kernel_rfl)) rfl (by decide) ?_
            refine litVal (v := .int .i64 b.mx.z) rfl (wgY rfl rfl rfl (by decide) (by kernel_rfl)) (gLoad (v := .int .i64 b.mx.z) (k := 5) 1 hm6 rfl (by kernel_rfl) (.tmp 46) (by kernel_rfl) rfl (litEv (by kernel_rfl))) rfl (by decide) ?_
            by_cases h18 : p.z < b.mx.z
            · refine litVal (v := .bool true) rfl (wgY rfl rfl rfl (by decide) (by kernel_rfl)) (boolTo (decide_eq_true h18) (lssRun (A := p.z) (B := b.mx.z) (.tmp 44) (.tmp 47) rfl (litEv (by kernel_rfl)) (litEv (by kernel_rfl)))) rfl (by decide) ?_
              refine lk (v := .bool true) rfl rfl rfl ?_
              refine lk (v := .bool true) rfl rfl rfl ?_
              refine plD ?_
              refine then_normal (hK16 _ _ ?_)
              refine wpPrune [(4, .bool false), (5, .bool true), (6, .bool true), (7, .bool true)] ⟨litGet (by kernel_rfl), ⟨litGet (by kernel_rfl), ⟨litGet (by kernel_rfl), ⟨litGet (by kernel_rfl), trivial⟩⟩⟩⟩ (fun X19 => ?_)
              refine wp_seq_k fun K20 hK20 => ?_
              refine plStart ?_
              refine lk (v := .bool true) rfl rfl rfl ?_
              refine lk (v := .bool true) rfl rfl rfl ?_
              refine litVal (v := .bool true) rfl (wgY rfl rfl rfl (by decide) (by kernel_rfl)) (litRun (by kernel_rfl)) rfl (by decide) ?_
              refine lk (v := .bool true) rfl rfl rfl ?_
              refine lk (v := .bool true) rfl rfl rfl ?_
              refine litVal (v := .bool true) rfl (wgY rfl rfl rfl (by decide) (by kernel_rfl)) (litRun (by kernel_rfl)) rfl (by decide) ?_
              refine lk (v := .bool true) rfl rfl rfl ?_
              refine lk (v := .bool true) rfl rfl rfl ?_
              refine plD ?_
              refine then_normal (hK20 _ _ ?_)
              refine wp_ret ?_
              refine bodyPost_ret (v := .bool true) (gRes1 rfl (gResTmp (t := 4) (v := .bool true) (litGet (by kernel_rfl)))) rfl ?_
              exact ⟨congrArg (fun b_ => Ending.returned (.bool b_)) (decide_eq_true (by unfold Bx.has; omega)).symm, hm6.bel⟩
            refine litVal (v := .bool false) rfl (wgY rfl rfl rfl (by decide) (by kernel_rfl)) (boolTo (decide_eq_false h18) (lssRun (A := p.z) (B := b.mx.z) (.tmp 44) (.tmp 47) rfl (litEv (by kernel_rfl)) (litEv (by kernel_rfl)))) rfl (by decide) ?_
            refine lk (v := .bool false) rfl rfl rfl ?_
            refine lk (v := .bool false) rfl rfl rfl ?_
            refine plD ?_
            refine then_normal (hK16 _ _ ?_)
            refine wpPrune [(4, .bool false), (5, .bool true), (6, .bool true), (7, .bool false)] ⟨litGet (by kernel_rfl), ⟨litGet (by kernel_rfl), ⟨litGet (by kernel_rfl), ⟨litGet (by kernel_rfl), trivial⟩⟩⟩⟩ (fun X21 => ?_)
            refine wp_seq_k fun K22 hK22 => ?_
            refine plStart ?_
            refine lk (v := .bool true) rfl rfl rfl ?_
            refine lk (v := .bool true) rfl rfl rfl ?_
            refine litVal (v := .bool true) rfl (wgY rfl rfl rfl (by decide) (by kernel_rfl)) (litRun (by kernel_rfl)) rfl (by decide) ?_
            refine lk (v := .bool true) rfl rfl rfl ?_
            refine lk (v := .bool true) rfl rfl rfl ?_
            refine litVal (v := .bool false) rfl (wgY rfl rfl rfl (by decide) (by kernel_rfl)) (litRun (by kernel_rfl)) rfl (by decide) ?_
            refine lk (v := .bool false) rfl rfl rfl ?_
            refine lk (v := .bool false) rfl rfl rfl ?_
            refine plD ?_
            refine then_normal (hK22 _ _ ?_)
            refine wp_ret ?_
            refine bodyPost_ret (v := .bool false) (gRes1 rfl (gResTmp (t := 4) (v := .bool false) (litGet (by kernel_rfl)))) rfl ?_
            exact ⟨congrArg (fun b_ => Ending.returned (.bool b_)) (decide_eq_false (by unfold Bx.has; omega)).symm, hm6.bel⟩
          refine litVal (v := .bool false) rfl (wn rfl) (boolTo (decide_eq_false h17) (gGeq (A := p.z) (B := b.mn.z) (.tmp 37) (.tmp 40) rfl (litEv (by kernel_rfl)) (litEv (by kernel_rfl)))) rfl (by decide) ?_
          refine lk (v := .bool false) rfl rfl rfl ?_
          refine plSkip (i := 7) rfl (wgN rfl rfl rfl (by decide) (by kernel_rfl)) ?_
          refine qP rfl ?_
          refine plSkip (i := 8) rfl (wgN rfl rfl rfl (by decide) (by kernel_rfl)) ?_
          refine qP rfl ?_
          refine plSkip (i := 9) rfl (wgN rfl rfl rfl (by decide) (by kernel_rfl)) ?_
          refine qP rfl ?_
          refine plSkip (i := 10) rfl (wgN rfl rfl rfl (by decide) (by kernel_rfl)) ?_
          refine qP rfl ?_
          refine plSkip (i := 11) rfl (wgN rfl rfl rfl (by decide) (by kernel_rfl)) ?_
          refine qP rfl ?_
          refine plSkip (i := 12) rfl (wgN rfl rfl rfl (by decide) (by kernel_rfl)) ?_
          refine qP rfl ?_
          refine lk (v := .bool false) rfl rfl rfl ?_
          refine lk (v := .bool false) rfl rfl rfl ?_
          refine plD ?_
          refine then_normal (hK16 _ _ ?_)
          refine wpPrune [(4, .bool false), (5, .bool true), (6, .bool true), (7, .bool false)] ⟨litGet (by kernel_rfl), ⟨litGet (by kernel_rfl), ⟨litGet (by kernel_rfl), ⟨litGet (by kernel_rfl), trivial⟩⟩⟩⟩ (fun X23 => ?_)
          refine wp_seq_k fun K24 hK24 => ?_
          refine plStart ?_
          refine lk (v := .bool true) rfl rfl rfl ?_
          refine lk (v := .bool true) rfl rfl rfl ?_
          refine litVal (v := .bool true) rfl (wgY rfl rfl rfl (by decide) (by kernel_rfl)) (litRun (by kernel_rfl)) rfl (by decide) ?_
          refine lk (v := .bool true) rfl rfl rfl ?_
          refine lk (v := .bool true) rfl rfl rfl ?_
          refine litVal (v := .bool false) rfl (wgY rfl rfl rfl (by decide) (by kernel_rfl)) (litRun (by kernel_rfl)) rfl (by decide) ?_
          refine lk (v := .bool false) rfl rfl rfl ?_
          refine lk (v := .bool false) rfl rfl rfl ?_
          refine plD ?_
          refine then_normal (hK24 _ _ ?_)
          refine wp_ret ?_
          refine bodyPost_ret (v := .bool false) (gRes1 rfl (gResTmp (t := 4) (v := .bool false) (litGet (by kernel_rfl)))) rfl ?_
          exact ⟨congrArg (fun b_ => Ending.returned (.bool b_)) (decide_eq_false (by unfold Bx.has; omega)).symm, hm6.bel⟩
        refine litVal (v := .bool false) rfl (wgY rfl rfl rfl (by decide) (by kernel_rfl)) (boolTo (decide_eq_false h14) (lssRun (A := p.y) (B := b.mx.y) (.tmp 30) (.tmp 33) rfl (litEv (by kernel_rfl)) (litEv (by kernel_rfl)))) rfl (by decide) ?_
        refine lk (v := .bool false) rfl rfl rfl ?_
        refine lk (v := .bool false) rfl rfl rfl ?_
        refine plD ?_
        refine then_normal (hK12 _ _ ?_)
        refine wpPrune [(2, .pointer (some ⟨g2, 0, none⟩)), (3, .pointer (some ⟨g5, 0, none⟩)), (4, .bool false), (5, .bool true), (6, .bool false)] ⟨litGet (by kernel_rfl), ⟨litGet (by kernel_rfl), ⟨litGet (by kernel_rfl), ⟨litGet (by kernel_rfl), ⟨litGet (by kernel_rfl), trivial⟩⟩⟩⟩⟩ (fun X25 => ?_)
        refine wp_seq_k fun K26 hK26 => ?_
        refine plStart ?_
        refine lk (v := .pointer (some ⟨g2, 2, none⟩)) rfl rfl rfl ?_
        refine litVal (v := .int .i64 p.z) rfl (wn rfl) (gLoad (v := .int .i64 p.z) (k := 2) 0 hm6 rfl (by kernel_rfl) (.tmp 36) (by kernel_rfl) rfl (litEv (by kernel_rfl))) rfl (by decide) ?_
        refine lk (v := .pointer (some ⟨g5, 0, none⟩)) rfl rfl rfl ?_
        refine lk (v := .pointer (some ⟨g5, 2, none⟩)) rfl rfl rfl ?_
        refine litVal (v := .int .i64 b.mn.z) rfl (wn rfl) (gLoad (v := .int .i64 b.mn.z) (k := 2) 1 hm6 rfl (by kernel_rfl) (.tmp 39) (by kernel_rfl) rfl (litEv (by kernel_rfl))) rfl (by decide) ?_
        by_cases h27 : b.mn.z ≤ p.z
        · refine litVal (v := .bool true) rfl (wn rfl) (boolTo (decide_eq_true h27) (gGeq (A := p.z) (B := b.mn.z) (.tmp 37) (.tmp 40) rfl (litEv (by kernel_rfl)) (litEv (by kernel_rfl)))) rfl (by decide) ?_
          refine lk (v := .bool true) rfl rfl rfl ?_
          refine litVal (v := .pointer (some ⟨g2, 2, none⟩)) rfl (wgY rfl rfl rfl (by decide) (by kernel_rfl)) (litRun (by kernel_rfl)) rfl (by decide) ?_
          refine litVal (v := .int .i64 p.z) rfl (wgY rfl rfl rfl (by decide) (by kernel_rfl)) (gLoad (v := .int .i64 p.z) (k := 2) 0 hm6 rfl (by kernel_rfl) (.tmp 43) (by kernel_rfl) rfl (litEv (by kernel_rfl))) rfl (by decide) ?_
          refine litVal (v := .pointer (some ⟨g5, 3, none⟩)) rfl (wgY rfl rfl rfl (by decide) (by kernel_rfl)) (litRun (by kernel_rfl)) rfl (by decide) ?_
          refine litVal (v := .pointer (some ⟨g5, 5, none⟩)) rfl (wgY rfl rfl rfl (by decide) (by kernel_rfl)) (litRun (by kernel_rfl)) rfl (by decide) ?_
          refine litVal (v := .int .i64 b.mx.z) rfl (wgY rfl rfl rfl (by decide) (by kernel_rfl)) (gLoad (v := .int .i64 b.mx.z) (k := 5) 1 hm6 rfl (by kernel_rfl) (.tmp 46) (by kernel_rfl) rfl (litEv (by kernel_rfl))) rfl (by decide) ?_
          by_cases h28 : p.z < b.mx.z
          · refine litVal (v := .bool true) rfl (wgY rfl rfl rfl (by decide) (by kernel_rfl)) (boolTo (decide_eq_true h28) (lssRun (A := p.z) (B := b.mx.z) (.tmp 44) (.tmp 47) rfl (litEv (by kernel_rfl)) (litEv (by kernel_rfl)))) rfl (by decide) ?_
            refine lk (v := .bool true) rfl rfl rfl ?_
            refine lk (v := .bool true) rfl rfl rfl ?_
            refine plD ?_
            refine then_normal (hK26 _ _ ?_)
            refine wpPrune [(4, .bool false), (5, .bool true), (6, .bool false), (7, .bool true)] ⟨litGet (by kernel_rfl), ⟨litGet (by kernel_rfl), ⟨litGet (by kernel_rfl), ⟨litGet (by kernel_rfl), trivial⟩⟩⟩⟩ (fun X29 => ?_)
            refine wp_seq_k fun K30 hK30 => ?_
            refine plStart ?_
            refine lk (v := .bool true) rfl rfl rfl ?_
            refine lk (v := .bool true) rfl rfl rfl ?_
            refine litVal (v := .bool false) rfl (wgY rfl rfl rfl (by decide) (by kernel_rfl)) (litRun (by kernel_rfl)) rfl (by decide) ?_
            refine lk (v := .bool false) rfl rfl rfl ?_
            refine lk (v := .bool false) rfl rfl rfl ?_
            refine plSkip (i := 5) rfl (wgN rfl rfl rfl (by decide) (by kernel_rfl)) ?_
            refine qP rfl ?_
            refine lk (v := .bool false) rfl rfl rfl ?_
            refine lk (v := .bool false) rfl rfl rfl ?_
            refine plD ?_
            refine then_normal (hK30 _ _ ?_)
            refine wp_ret ?_
            refine bodyPost_ret (v := .bool false) (gRes1 rfl (gResTmp (t := 4) (v := .bool false) (litGet (by kernel_rfl)))) rfl ?_
            exact ⟨congrArg (fun b_ => Ending.returned (.bool b_)) (decide_eq_false (by unfold Bx.has; omega)).symm, hm6.bel⟩
          refine litVal (v := .bool false) rfl (wgY rfl rfl rfl (by decide) (by kernel_rfl)) (boolTo (decide_eq_false h28) (lssRun (A := p.z) (B := b.mx.z) (.tmp 44) (.tmp 47) rfl (litEv (by kernel_rfl)) (litEv (by kernel_rfl)))) rfl (by decide) ?_
          refine lk (v := .bool false) rfl rfl rfl ?_
          refine lk (v := .bool false) rfl rfl rfl ?_
          refine plD ?_
          refine then_normal (hK26 _ _ ?_)
          refine wpPrune [(4, .bool false), (5, .bool true), (6, .bool false), (7, .bool false)] ⟨litGet (by kernel_rfl), ⟨litGet (by kernel_rfl), ⟨litGet (by kernel_rfl), ⟨litGet (by kernel_rfl), trivial⟩⟩⟩⟩ (fun X31 => ?_)
          refine wp_seq_k fun K32 hK32 => ?_
          refine plStart ?_
          refine lk (v := .bool true) rfl rfl rfl ?_
          refine lk (v := .bool true) rfl rfl rfl ?_
          refine litVal (v := .bool false) rfl (wgY rfl rfl rfl (by decide) (by kernel_rfl)) (litRun (by kernel_rfl)) rfl (by decide) ?_
          refine lk (v := .bool false) rfl rfl rfl ?_
          refine lk (v := .bool false) rfl rfl rfl ?_
          refine plSkip (i := 5) rfl (wgN rfl rfl rfl (by decide) (by kernel_rfl)) ?_
          refine qP rfl ?_
          refine lk (v := .bool false) rfl rfl rfl ?_
          refine lk (v := .bool false) rfl rfl rfl ?_
          refine plD ?_
          refine then_normal (hK32 _ _ ?_)
          refine wp_ret ?_
          refine bodyPost_ret (v := .bool false) (gRes1 rfl (gResTmp (t := 4) (v := .bool false) (litGet (by kernel_rfl)))) rfl ?_
          exact ⟨congrArg (fun b_ => Ending.returned (.bool b_)) (decide_eq_false (by unfold Bx.has; omega)).symm, hm6.bel⟩
        refine litVal (v := .bool false) rfl (wn rfl) (boolTo (decide_eq_false h27) (gGeq (A := p.z) (B := b.mn.z) (.tmp 37) (.tmp 40) rfl (litEv (by kernel_rfl)) (litEv (by kernel_rfl)))) rfl (by decide) ?_
        refine lk (v := .bool false) rfl rfl rfl ?_
        refine plSkip (i := 7) rfl (wgN rfl rfl rfl (by decide) (by kernel_rfl)) ?_
        refine qP rfl ?_
        refine plSkip (i := 8) rfl (wgN rfl rfl rfl (by decide) (by kernel_rfl)) ?_
        refine qP rfl ?_
        refine plSkip (i := 9) rfl (wgN rfl rfl rfl (by decide) (by kernel_rfl)) ?_
        refine qP rfl ?_
        refine plSkip (i := 10) rfl (wgN rfl rfl rfl (by decide) (by kernel_rfl)) ?_
        refine qP rfl ?_
        refine plSkip (i := 11) rfl (wgN rfl rfl rfl (by decide) (by kernel_rfl)) ?_
        refine qP rfl ?_
        refine plSkip (i := 12) rfl (wgN rfl rfl rfl (by decide) (by kernel_rfl)) ?_
        refine qP rfl ?_
        refine lk (v := .bool false) rfl rfl rfl ?_
        refine lk (v := .bool false) rfl rfl rfl ?_
        refine plD ?_
        refine then_normal (hK26 _ _ ?_)
        refine wpPrune [(4, .bool false), (5, .bool true), (6, .bool false), (7, .bool false)] ⟨litGet (by kernel_rfl), ⟨litGet (by kernel_rfl), ⟨litGet (by kernel_rfl), ⟨litGet (by kernel_rfl), trivial⟩⟩⟩⟩ (fun X33 => ?_)
        refine wp_seq_k fun K34 hK34 => ?_
        refine plStart ?_
        refine lk (v := .bool true) rfl rfl rfl ?_
        refine lk (v := .bool true) rfl rfl rfl ?_
        refine litVal (v := .bool false) rfl (wgY rfl rfl rfl (by decide) (by kernel_rfl)) (litRun (by kernel_rfl)) rfl (by decide) ?_
        refine lk (v := .bool false) rfl rfl rfl ?_
        refine lk (v := .bool false) rfl rfl rfl ?_
        refine plSkip (i := 5) rfl (wgN rfl rfl rfl (by decide) (by kernel_rfl)) ?_
        refine qP rfl ?_
        refine lk (v := .bool false) rfl rfl rfl ?_
        refine lk (v := .bool false) rfl rfl rfl ?_
        refine plD ?_
        refine then_normal (hK34 _ _ ?_)
        refine wp_ret ?_
        refine bodyPost_ret (v := .bool false) (gRes1 rfl (gResTmp (t := 4) (v := .bool false) (litGet (by kernel_rfl)))) rfl ?_
        exact ⟨congrArg (fun b_ => Ending.returned (.bool b_)) (decide_eq_false (by unfold Bx.has; omega)).symm, hm6.bel⟩
      refine litVal (v := .bool false) rfl (wn rfl) (boolTo (decide_eq_false h13) (gGeq (A := p.y) (B := b.mn.y) (.tmp 23) (.tmp 26) rfl (litEv (by kernel_rfl)) (litEv (by kernel_rfl)))) rfl (by decide) ?_
      refine lk (v := .bool false) rfl rfl rfl ?_
      refine plSkip (i := 7) rfl (wgN rfl rfl rfl (by decide) (by kernel_rfl)) ?_
      refine qP rfl ?_
      refine plSkip (i := 8) rfl (wgN rfl rfl rfl (by decide) (by kernel_rfl)) ?_
      refine qP rfl ?_
      refine plSkip (i := 9) rfl (wgN rfl rfl rfl (by decide) (by kernel_rfl)) ?_
      refine qP rfl ?_
      refine plSkip (i := 10) rfl (wgN rfl rfl rfl (by decide) (by kernel_rfl)) ?_
      refine qP rfl ?_
      refine plSkip (i := 11) rfl (wgN rfl rfl rfl (by decide) (by kernel_rfl)) ?_
      refine qP rfl ?_
      refine plSkip (i := 12) rfl (wgN rfl rfl rfl (by decide) (by kernel_rfl)) ?_
      refine qP rfl ?_
      refine lk (v := .bool false) rfl rfl rfl ?_
      refine lk (v := .bool false) rfl rfl rfl ?_
      refine plD ?_
      refine then_normal (hK12 _ _ ?_)
      refine wpPrune [(2, .pointer (some ⟨g2, 0, none⟩)), (3, .pointer (some ⟨g5, 0, none⟩)), (4, .bool false), (5, .bool true), (6, .bool false)] ⟨litGet (by kernel_rfl), ⟨litGet (by kernel_rfl), ⟨litGet (by kernel_rfl), ⟨litGet (by kernel_rfl), ⟨litGet (by kernel_rfl), trivial⟩⟩⟩⟩⟩ (fun X35 => ?_)
      refine wp_seq_k fun K36 hK36 => ?_
      refine plStart ?_
      refine lk (v := .pointer (some ⟨g2, 2, none⟩)) rfl rfl rfl ?_
      refine litVal (v := .int .i64 p.z) rfl (wn rfl) (gLoad (v := .int .i64 p.z) (k := 2) 0 hm6 rfl (by kernel_rfl) (.tmp 36) (by kernel_rfl) rfl (litEv (by kernel_rfl))) rfl (by decide) ?_
      refine lk (v := .pointer (some ⟨g5, 0, none⟩)) rfl rfl rfl ?_
      refine lk (v := .pointer (some ⟨g5, 2, none⟩)) rfl rfl rfl ?_
      refine litVal (v := .int .i64 b.mn.z) rfl (wn rfl) (gLoad (v := .int .i64 b.mn.z) (k := 2) 1 hm6 rfl (by kernel_rfl) (.tmp 39) (by kernel_rfl) rfl (litEv (by kernel_rfl))) rfl (by decide) ?_
      by_cases h37 : b.mn.z ≤ p.z
      · refine litVal (v := .bool true) rfl (wn rfl) (boolTo (decide_eq_true h37) (gGeq (A := p.z) (B := b.mn.z) (.tmp 37) (.tmp 40) rfl (litEv (by kernel_rfl)) (litEv (by kernel_rfl)))) rfl (by decide) ?_
        refine lk (v := .bool true) rfl rfl rfl ?_
        refine litVal (v := .pointer (some ⟨g2, 2, none⟩)) rfl (wgY rfl rfl rfl (by decide) (by kernel_rfl)) (litRun (by kernel_rfl)) rfl (by decide) ?_
        refine litVal (v := .int .i64 p.z) rfl (wgY rfl rfl rfl (by decide) (by kernel_rfl)) (gLoad (v := .int .i64 p.z) (k := 2) 0 hm6 rfl (by kernel_rfl) (.tmp 43) (by kernel_rfl) rfl (litEv (by kernel_rfl))) rfl (by decide) ?_
        refine litVal (v := .pointer (some ⟨g5, 3, none⟩)) rfl (wgY rfl rfl rfl (by decide) (by kernel_rfl)) (litRun (by kernel_rfl)) rfl (by decide) ?_
        refine litVal (v := .pointer (some ⟨g5, 5, none⟩)) rfl (wgY rfl rfl rfl (by decide) (by kernel_rfl)) (litRun (by kernel_rfl)) rfl (by decide) ?_
        refine litVal (v := .int .i64 b.mx.z) rfl (wgY rfl rfl rfl (by decide) (by kernel_rfl)) (gLoad (v := .int .i64 b.mx.z) (k := 5) 1 hm6 rfl (by kernel_rfl) (.tmp 46) (by kernel_rfl) rfl (litEv (by kernel_rfl))) rfl (by decide) ?_
        by_cases h38 : p.z < b.mx.z
        · refine litVal (v := .bool true) rfl (wgY rfl rfl rfl (by decide) (by kernel_rfl)) (boolTo (decide_eq_true h38) (lssRun (A := p.z) (B := b.mx.z) (.tmp 44) (.tmp 47) rfl (litEv (by kernel_rfl)) (litEv (by kernel_rfl)))) rfl (by decide) ?_
          refine lk (v := .bool true) rfl rfl rfl ?_
          refine lk (v := .bool true) rfl rfl rfl ?_
          refine plD ?_
          refine then_normal (hK36 _ _ ?_)
          refine wpPrune [(4, .bool false), (5, .bool true), (6, .bool false), (7, .bool true)] ⟨litGet (by kernel_rfl), ⟨litGet (by kernel_rfl), ⟨litGet (by kernel_rfl), ⟨litGet (by kernel_rfl), trivial⟩⟩⟩⟩ (fun X39 => ?_)
          refine wp_seq_k fun K40 hK40 => ?_
          refine plStart ?_
          refine lk (v := .bool true) rfl rfl rfl ?_
          refine lk (v := .bool true) rfl rfl rfl ?_
          refine litVal (v := .bool false) rfl (wgY rfl rfl rfl (by decide) (by kernel_rfl)) (litRun (by kernel_rfl)) rfl (by decide) ?_
          refine lk (v := .bool false) rfl rfl rfl ?_
          refine lk (v := .bool false) rfl rfl rfl ?_
          refine plSkip (i := 5) rfl (wgN rfl rfl rfl (by decide) (by kernel_rfl)) ?_
          refine qP rfl ?_
          refine lk (v := .bool false) rfl rfl rfl ?_
          refine lk (v := .bool false) rfl rfl rfl ?_
          refine plD ?_
          refine then_normal (hK40 _ _ ?_)
          refine wp_ret ?_
          refine bodyPost_ret (v := .bool false) (gRes1 rfl (gResTmp (t := 4) (v := .bool false) (litGet (by kernel_rfl)))) rfl ?_
          exact ⟨congrArg (fun b_ => Ending.returned (.bool b_)) (decide_eq_false (by unfold Bx.has; omega)).symm, hm6.bel⟩
        refine litVal (v := .bool false) rfl (wgY rfl rfl rfl (by decide) (by kernel_rfl)) (boolTo (decide_eq_false h38) (lssRun (A := p.z) (B := b.mx.z) (.tmp 44) (.tmp 47) rfl (litEv (by kernel_rfl)) (litEv (by kernel_rfl)))) rfl (by decide) ?_
        refine lk (v := .bool false) rfl rfl rfl ?_
        refine lk (v := .bool false) rfl rfl rfl ?_
        refine plD ?_
        refine then_normal (hK36 _ _ ?_)
        refine wpPrune [(4, .bool false), (5, .bool true), (6, .bool false), (7, .bool false)] ⟨litGet (by kernel_rfl), ⟨litGet (by kernel_rfl), ⟨litGet (by kernel_rfl), ⟨litGet (by kernel_rfl), trivial⟩⟩⟩⟩ (fun X41 => ?_)
        refine wp_seq_k fun K42 hK42 => ?_
        refine plStart ?_
        refine lk (v := .bool true) rfl rfl rfl ?_
        refine lk (v := .bool true) rfl rfl rfl ?_
        refine litVal (v := .bool false) rfl (wgY rfl rfl rfl (by decide) (by kernel_rfl)) (litRun (by kernel_rfl)) rfl (by decide) ?_
        refine lk (v := .bool false) rfl rfl rfl ?_
        refine lk (v := .bool false) rfl rfl rfl ?_
        refine plSkip (i := 5) rfl (wgN rfl rfl rfl (by decide) (by kernel_rfl)) ?_
        refine qP rfl ?_
        refine lk (v := .bool false) rfl rfl rfl ?_
        refine lk (v := .bool false) rfl rfl rfl ?_
        refine plD ?_
        refine then_normal (hK42 _ _ ?_)
        refine wp_ret ?_
        refine bodyPost_ret (v := .bool false) (gRes1 rfl (gResTmp (t := 4) (v := .bool false) (litGet (by kernel_rfl)))) rfl ?_
        exact ⟨congrArg (fun b_ => Ending.returned (.bool b_)) (decide_eq_false (by unfold Bx.has; omega)).symm, hm6.bel⟩
      refine litVal (v := .bool false) rfl (wn rfl) (boolTo (decide_eq_false h37) (gGeq (A := p.z) (B := b.mn.z) (.tmp 37) (.tmp 40) rfl (litEv (by kernel_rfl)) (litEv (by kernel_rfl)))) rfl (by decide) ?_
      refine lk (v := .bool false) rfl rfl rfl ?_
      refine plSkip (i := 7) rfl (wgN rfl rfl rfl (by decide) (by kernel_rfl)) ?_
      refine qP rfl ?_
      refine plSkip (i := 8) rfl (wgN rfl rfl rfl (by decide) (by kernel_rfl)) ?_
      refine qP rfl ?_
      refine plSkip (i := 9) rfl (wgN rfl rfl rfl (by decide) (by kernel_rfl)) ?_
      refine qP rfl ?_
      refine plSkip (i := 10) rfl (wgN rfl rfl rfl (by decide) (by kernel_rfl)) ?_
      refine qP rfl ?_
      refine plSkip (i := 11) rfl (wgN rfl rfl rfl (by decide) (by kernel_rfl)) ?_
      refine qP rfl ?_
      refine plSkip (i := 12) rfl (wgN rfl rfl rfl (by decide) (by kernel_rfl)) ?_
      refine qP rfl ?_
      refine lk (v := .bool false) rfl rfl rfl ?_
      refine lk (v := .bool false) rfl rfl rfl ?_
      refine plD ?_
      refine then_normal (hK36 _ _ ?_)
      refine wpPrune [(4, .bool false), (5, .bool true), (6, .bool false), (7, .bool false)] ⟨litGet (by kernel_rfl), ⟨litGet (by kernel_rfl), ⟨litGet (by kernel_rfl), ⟨litGet (by kernel_rfl), trivial⟩⟩⟩⟩ (fun X43 => ?_)
      refine wp_seq_k fun K44 hK44 => ?_
      refine plStart ?_
      refine lk (v := .bool true) rfl rfl rfl ?_
      refine lk (v := .bool true) rfl rfl rfl ?_
      refine litVal (v := .bool false) rfl (wgY rfl rfl rfl (by decide) (by kernel_rfl)) (litRun (by kernel_rfl)) rfl (by decide) ?_
      refine lk (v := .bool false) rfl rfl rfl ?_
      refine lk (v := .bool false) rfl rfl rfl ?_
      refine plSkip (i := 5) rfl (wgN rfl rfl rfl (by decide) (by kernel_rfl)) ?_
      refine qP rfl ?_
      refine lk (v := .bool false) rfl rfl rfl ?_
      refine lk (v := .bool false) rfl rfl rfl ?_
      refine plD ?_
      refine then_normal (hK44 _ _ ?_)
      refine wp_ret ?_
      refine bodyPost_ret (v := .bool false) (gRes1 rfl (gResTmp (t := 4) (v := .bool false) (litGet (by kernel_rfl)))) rfl ?_
      exact ⟨congrArg (fun b_ => Ending.returned (.bool b_)) (decide_eq_false (by unfold Bx.has; omega)).symm, hm6.bel⟩
    refine litVal (v := .bool false) rfl (wgY rfl rfl rfl (by decide) (by kernel_rfl)) (boolTo (decide_eq_false h10) (lssRun (A := p.x) (B := b.mx.x) (.tmp 16) (.tmp 19) rfl (litEv (by kernel_rfl)) (litEv (by kernel_rfl)))) rfl (by decide) ?_
    refine lk (v := .bool false) rfl rfl rfl ?_
    refine lk (v := .bool false) rfl rfl rfl ?_
    refine plD ?_
    refine then_normal (hK8 _ _ ?_)
    refine wpPrune [(2, .pointer (some ⟨g2, 0, none⟩)), (3, .pointer (some ⟨g5, 0, none⟩)), (4, .bool false), (5, .bool false)] ⟨litGet (by kernel_rfl), ⟨litGet (by kernel_rfl), ⟨litGet (by kernel_rfl), ⟨litGet (by kernel_rfl), trivial⟩⟩⟩⟩ (fun X45 => ?_)
    refine wp_seq_k fun K46 hK46 => ?_
    refine plStart ?_
    refine lk (v := .pointer (some ⟨g2, 1, none⟩)) rfl rfl rfl ?_
    refine litVal (v := .int .i64 p.y) rfl (wn rfl) (gLoad (v := .int .i64 p.y) (k := 1) 0 hm6 rfl (by kernel_rfl) (.tmp 22) (by kernel_rfl) rfl (litEv (by kernel_rfl))) rfl (by decide) ?_
    refine lk (v := .pointer (some ⟨g5, 0, none⟩)) rfl rfl rfl ?_
    refine lk (v := .pointer (some ⟨g5, 1, none⟩)) rfl rfl rfl ?_
    refine litVal (v := .int .i64 b.mn.y) rfl (wn rfl) (gLoad (v := .int .i64 b.mn.y) (k := 1) 1 hm6 rfl (by kernel_rfl) (.tmp 25) (by kernel_rfl) rfl (litEv (by kernel_rfl))) rfl (by decide) ?_
    by_cases h47 : b.mn.y ≤ p.y
    · refine litVal (v := .bool true) rfl (wn rfl) (boolTo (decide_eq_true h47) (gGeq (A := p.y) (B := b.mn.y) (.tmp 23) (.tmp 26) rfl (litEv (by kernel_rfl)) (litEv (by kernel_rfl)))) rfl (by decide) ?_
      refine lk (v := .bool true) rfl rfl rfl ?_
      refine litVal (v := .pointer (some ⟨g2, 1, none⟩)) rfl (wgY rfl rfl rfl (by decide) (by kernel_rfl)) (litRun (by kernel_rfl)) rfl (by decide) ?_
      refine litVal (v := .int .i64 p.y) rfl (wgY rfl rfl rfl (by decide) (by kernel_rfl)) (gLoad (v := .int .i64 p.y) (k := 1) 0 hm6 rfl (by kernel_rfl) (.tmp 29) (by kernel_rfl) rfl (litEv (by kernel_rfl))) rfl (by decide) ?_
      refine litVal (v := .pointer (some ⟨g5, 3, none⟩)) rfl (wgY rfl rfl rfl (by decide) (by kernel_rfl)) (litRun (by kernel_rfl)) rfl (by decide) ?_
      refine litVal (v := .pointer (some ⟨g5, 4, none⟩)) rfl (wgY rfl rfl rfl (by decide) (by kernel_rfl)) (litRun (by kernel_rfl)) rfl (by decide) ?_
      refine litVal (v := .int .i64 b.mx.y) rfl (wgY rfl rfl rfl (by decide) (by kernel_rfl)) (gLoad (v := .int .i64 b.mx.y) (k := 4) 1 hm6 rfl (by kernel_rfl) (.tmp 32) (by kernel_rfl) rfl (litEv (by kernel_rfl))) rfl (by decide) ?_
      by_cases h48 : p.y < b.mx.y
      · refine litVal (v := .bool true) rfl (wgY rfl rfl rfl (by decide) (by kernel_rfl)) (boolTo (decide_eq_true h48) (lssRun (A := p.y) (B := b.mx.y) (.tmp 30) (.tmp 33) rfl (litEv (by kernel_rfl)) (litEv (by kernel_rfl)))) rfl (by decide) ?_
        refine lk (v := .bool true) rfl rfl rfl ?_
        refine lk (v := .bool true) rfl rfl rfl ?_
        refine plD ?_
        refine then_normal (hK46 _ _ ?_)
        refine wpPrune [(2, .pointer (some ⟨g2, 0, none⟩)), (3, .pointer (some ⟨g5, 0, none⟩)), (4, .bool false), (5, .bool false), (6, .bool true)] ⟨litGet (by kernel_rfl), ⟨litGet (by kernel_rfl), ⟨litGet (by kernel_rfl), ⟨litGet (by kernel_rfl), ⟨litGet (by kernel_rfl), trivial⟩⟩⟩⟩⟩ (fun X49 => ?_)
        refine wp_seq_k fun K50 hK50 => ?_
        refine plStart ?_
        refine lk (v := .pointer (some ⟨g2, 2, none⟩)) rfl rfl rfl ?_
        refine litVal (v := .int .i64 p.z) rfl (wn rfl) (gLoad (v := .int .i64 p.z) (k := 2) 0 hm6 rfl (by kernel_rfl) (.tmp 36) (by kernel_rfl) rfl (litEv (by kernel_rfl))) rfl (by decide) ?_
        refine lk (v := .pointer (some ⟨g5, 0, none⟩)) rfl rfl rfl ?_
        refine lk (v := .pointer (some ⟨g5, 2, none⟩)) rfl rfl rfl ?_
        refine litVal (v := .int .i64 b.mn.z) rfl (wn rfl) (gLoad (v := .int .i64 b.mn.z) (k := 2) 1 hm6 rfl (by kernel_rfl) (.tmp 39) (by kernel_rfl) rfl (litEv (by kernel_rfl))) rfl (by decide) ?_
        by_cases h51 : b.mn.z ≤ p.z
        · refine litVal (v := .bool true) rfl (wn rfl) (boolTo (decide_eq_true h51) (gGeq (A := p.z) (B := b.mn.z) (.tmp 37) (.tmp 40) rfl (litEv (by kernel_rfl)) (litEv (by kernel_rfl)))) rfl (by decide) ?_
          refine lk (v := .bool true) rfl rfl rfl ?_
          refine litVal (v := .pointer (some ⟨g2, 2, none⟩)) rfl (wgY rfl rfl rfl (by decide) (by kernel_rfl)) (litRun (by kernel_rfl)) rfl (by decide) ?_
          refine litVal (v := .int .i64 p.z) rfl (wgY rfl rfl rfl (by decide) (by kernel_rfl)) (gLoad (v := .int .i64 p.z) (k := 2) 0 hm6 rfl (by kernel_rfl) (.tmp 43) (by kernel_rfl) rfl (litEv (by kernel_rfl))) rfl (by decide) ?_
          refine litVal (v := .pointer (some ⟨g5, 3, none⟩)) rfl (wgY rfl rfl rfl (by decide) (by kernel_rfl)) (litRun (by kernel_rfl)) rfl (by decide) ?_
          refine litVal (v := .pointer (some ⟨g5, 5, none⟩)) rfl (wgY rfl rfl rfl (by decide) (by kernel_rfl)) (litRun (by kernel_rfl)) rfl (by decide) ?_
          refine litVal (v := .int .i64 b.mx.z) rfl (wgY rfl rfl rfl (by decide) (by kernel_rfl)) (gLoad (v := .int .i64 b.mx.z) (k := 5) 1 hm6 rfl (by kernel_rfl) (.tmp 46) (by kernel_rfl) rfl (litEv (by kernel_rfl))) rfl (by decide) ?_
          by_cases h52 : p.z < b.mx.z
          · refine litVal (v := .bool true) rfl (wgY rfl rfl rfl (by decide) (by kernel_rfl)) (boolTo (decide_eq_true h52) (lssRun (A := p.z) (B := b.mx.z) (.tmp 44) (.tmp 47) rfl (litEv (by kernel_rfl)) (litEv (by kernel_rfl)))) rfl (by decide) ?_
            refine lk (v := .bool true) rfl rfl rfl ?_
            refine lk (v := .bool true) rfl rfl rfl ?_
            refine plD ?_
            refine then_normal (hK50 _ _ ?_)
            refine wpPrune [(4, .bool false), (5, .bool false), (6, .bool true), (7, .bool true)] ⟨litGet (by kernel_rfl), ⟨litGet (by kernel_rfl), ⟨litGet (by kernel_rfl), ⟨litGet (by kernel_rfl), trivial⟩⟩⟩⟩ (fun X53 => ?_)
            refine wp_seq_k fun K54 hK54 => ?_
            refine plStart ?_
            refine lk (v := .bool false) rfl rfl rfl ?_
            refine lk (v := .bool false) rfl rfl rfl ?_
            refine plSkip (i := 2) rfl (wgN rfl rfl rfl (by decide) (by kernel_rfl)) ?_
            refine qP rfl ?_
            refine lk (v := .bool false) rfl rfl rfl ?_
            refine lk (v := .bool false) rfl rfl rfl ?_
            refine plSkip (i := 5) rfl (wgN rfl rfl rfl (by decide) (by kernel_rfl)) ?_
            refine qP rfl ?_
            refine lk (v := .bool false) rfl rfl rfl ?_
            refine lk (v := .bool false) rfl rfl rfl ?_
            refine plD ?_
            refine then_normal (hK54 _ _ ?_)
            refine wp_ret ?_
            refine bodyPost_ret (v := .bool false) (gRes1 rfl (gResTmp (t := 4) (v := .bool false) (litGet (by kernel_rfl)))) rfl ?_
            exact ⟨congrArg (fun b_ => Ending.returned (.bool b_)) (decide_eq_false (by unfold Bx.has; omega)).symm, hm6.bel⟩
          refine litVal (v := .bool false) rfl (wgY rfl rfl rfl (by decide) (by kernel_rfl)) (boolTo (decide_eq_false h52) (lssRun (A := p.z) (B := b.mx.z) (.tmp 44) (.tmp 47) rfl (litEv (by kernel_rfl)) (litEv (by kernel_rfl)))) rfl (by decide) ?_
          refine lk (v := .bool false) rfl rfl rfl ?_
          refine lk (v := .bool false) rfl rfl rfl ?_
          refine plD ?_
          refine then_normal (hK50 _ _ ?_)
          refine wpPrune [(4, .bool false), (5, .bool false), (6, .bool true), (7, .bool false)] ⟨litGet (by kernel_rfl), ⟨litGet (by kernel_rfl), ⟨litGet (by kernel_rfl), ⟨litGet (by kernel_rfl), trivial⟩⟩⟩⟩ (fun X55 => ?_)
          refine wp_seq_k fun K56 hK56 => ?_
          refine plStart ?_
          refine lk (v := .bool false) rfl rfl rfl ?_
          refine lk (v := .bool false) rfl rfl rfl ?_
          refine plSkip (i := 2) rfl (wgN rfl rfl rfl (by decide) (by kernel_rfl)) ?_
          refine qP rfl ?_
          refine lk (v := .bool false) rfl rfl rfl ?_
          refine lk (v := .bool false) rfl rfl rfl ?_
          refine plSkip (i := 5) rfl (wgN rfl rfl rfl (by decide) (by kernel_rfl)) ?_
          refine qP rfl ?_
          refine lk (v := .bool false) rfl rfl rfl ?_
          refine lk (v := .bool false) rfl rfl rfl ?_
          refine plD ?_
          refine then_normal (hK56 _ _ ?_)
          refine wp_ret ?_
          refine bodyPost_ret (v := .bool false) (gRes1 rfl (gResTmp (t := 4) (v := .bool false) (litGet (by kernel_rfl)))) rfl ?_
          exact ⟨congrArg (fun b_ => Ending.returned (.bool b_)) (decide_eq_false (by unfold Bx.has; omega)).symm, hm6.bel⟩
        refine litVal (v := .bool false) rfl (wn rfl) (boolTo (decide_eq_false h51) (gGeq (A := p.z) (B := b.mn.z) (.tmp 37) (.tmp 40) rfl (litEv (by kernel_rfl)) (litEv (by kernel_rfl)))) rfl (by decide) ?_
        refine lk (v := .bool false) rfl rfl rfl ?_
        refine plSkip (i := 7) rfl (wgN rfl rfl rfl (by decide) (by kernel_rfl)) ?_
        refine qP rfl ?_
        refine plSkip (i := 8) rfl (wgN rfl rfl rfl (by decide) (by kernel_rfl)) ?_
        refine qP rfl ?_
        refine plSkip (i := 9) rfl (wgN rfl rfl rfl (by decide) (by kernel_rfl)) ?_
        refine qP rfl ?_
        refine plSkip (i := 10) rfl (wgN rfl rfl rfl (by decide) (by kernel_rfl)) ?_
        refine qP rfl ?_
        refine plSkip (i := 11) rfl (wgN rfl rfl rfl (by decide) (by kernel_rfl)) ?_
        refine qP rfl ?_
        refine plSkip (i := 12) rfl (wgN rfl rfl rfl (by decide) (by kernel_rfl)) ?_
        refine qP rfl ?_
        refine lk (v := .bool false) rfl rfl rfl ?_
        refine lk (v := .bool false) rfl rfl rfl ?_
        refine plD ?_
        refine then_normal (hK50 _ _ ?_)
        refine wpPrune [(4, .bool false), (5, .bool false), (6, .bool true), (7, .bool false)] ⟨litGet (by kernel_rfl), ⟨litGet (by kernel_rfl), ⟨litGet (by kernel_rfl), ⟨litGet (by kernel_rfl), trivial⟩⟩⟩⟩ (fun X57 => ?_)
        refine wp_seq_k fun K58 hK58 => ?_
        refine plStart ?_
        refine lk (v := .bool false) rfl rfl rfl ?_
        refine lk (v := .bool false) rfl rfl rfl ?_
        refine plSkip (i := 2) rfl (wgN rfl rfl rfl (by decide) (by kernel_rfl)) ?_
        refine qP rfl ?_
        refine lk (v := .bool false) rfl rfl rfl ?_
        refine lk (v := .bool false) rfl rfl rfl ?_
        refine plSkip (i := 5) rfl (wgN rfl rfl rfl (by decide) (by kernel_rfl)) ?_
        refine qP rfl ?_
        refine lk (v := .bool false) rfl rfl rfl ?_
        refine lk (v := .bool false) rfl rfl rfl ?_
        refine plD ?_
        refine then_normal (hK58 _ _ ?_)
        refine wp_ret ?_
        refine bodyPost_ret (v := .bool false) (gRes1 rfl (gResTmp (t := 4) (v := .bool false) (litGet (by kernel_rfl)))) rfl ?_
        exact ⟨congrArg (fun b_ => Ending.returned (.bool b_)) (decide_eq_false (by unfold Bx.has; omega)).symm, hm6.bel⟩
      refine litVal (v := .bool false) rfl (wgY rfl rfl rfl (by decide) (by kernel_rfl)) (boolTo (decide_eq_false h48) (lssRun (A := p.y) (B := b.mx.y) (.tmp 30) (.tmp 33) rfl (litEv (by kernel_rfl)) (litEv (by kernel_rfl)))) rfl (by decide) ?_
      refine lk (v := .bool false) rfl rfl rfl ?_
      refine lk (v := .bool false) rfl rfl rfl ?_
      refine plD ?_
      refine then_normal (hK46 _ _ ?_)
      refine wpPrune [(2, .pointer (some ⟨g2, 0, none⟩)), (3, .pointer (some ⟨g5, 0, none⟩)), (4, .bool false), (5, .bool false), (6, .bool false)] ⟨litGet (by kernel_rfl), ⟨litGet (by kernel_rfl), ⟨litGet (by kernel_rfl), ⟨litGet (by kernel_rfl), ⟨litGet (by kernel_rfl), trivial⟩⟩⟩⟩⟩ (fun X59 => ?_)
      refine wp_seq_k fun K60 hK60 => ?_
      refine plStart ?_
      refine lk (v := .pointer (some ⟨g2, 2, none⟩)) rfl rfl rfl ?_
      refine litVal (v := .int .i64 p.z) rfl (wn rfl) (gLoad (v := .int .i64 p.z) (k := 2) 0 hm6 rfl (by kernel_rfl) (.tmp 36) (by kernel_rfl) rfl (litEv (by kernel_rfl))) rfl (by decide) ?_
      refine lk (v := .pointer (some ⟨g5, 0, none⟩)) rfl rfl rfl ?_
      refine lk (v := .pointer (some ⟨g5, 2, none⟩)) rfl rfl rfl ?_
      refine litVal (v := .int .i64 b.mn.z) rfl (wn rfl) (gLoad (v := .int .i64 b.mn.z) (k := 2) 1 hm6 rfl (by kernel_rfl) (.tmp 39) (by kernel_rfl) rfl (litEv (by kernel_rfl))) rfl (by decide) ?_
      by_cases h61 : b.mn.z ≤ p.z
      · refine litVal (v := .bool true) rfl (wn rfl) (boolTo (decide_eq_true h61) (gGeq (A := p.z) (B := b.mn.z) (.tmp 37) (.tmp 40) rfl (litEv (by kernel_rfl)) (litEv (by kernel_rfl)))) rfl (by decide) ?_
        refine lk (v := .bool true) rfl rfl rfl ?_
        refine litVal (v := .pointer (some ⟨g2, 2, none⟩)) rfl (wgY rfl rfl rfl (by decide) (by kernel_rfl)) (litRun (by kernel_rfl)) rfl (by decide) ?_
        refine litVal (v := .int .i64 p.z) rfl (wgY rfl rfl rfl (by decide) (by kernel_rfl)) (gLoad (v := .int .i64 p.z) (k := 2) 0 hm6 rfl (by kernel_rfl) (.tmp 43) (by kernel_rfl) rfl (litEv (by kernel_rfl))) rfl (by decide) ?_
        refine litVal (v := .pointer (some ⟨g5, 3, none⟩)) rfl (wgY rfl rfl rfl (by decide) (by kernel_rfl)) (litRun (by kernel_rfl)) rfl (by decide) ?_
        refine litVal (v := .pointer (some ⟨g5, 5, none⟩)) rfl (wgY rfl rfl rfl (by decide) (by kernel_rfl)) (litRun (by kernel_rfl)) rfl (by decide) ?_
        refine litVal (v := .int .i64 b.mx.z) rfl (wgY rfl rfl rfl (by decide) (by kernel_rfl)) (gLoad (v := .int .i64 b.mx.z) (k := 5) 1 hm6 rfl (by kernel_rfl) (.tmp 46) (by kernel_rfl) rfl (litEv (by kernel_rfl))) rfl (by decide) ?_
        by_cases h62 : p.z < b.mx.z
        · refine litVal (v := .bool true) rfl (wgY rfl rfl rfl (by decide) (by kernel_rfl)) (boolTo (decide_eq_true h62) (lssRun (A := p.z) (B := b.mx.z) (.tmp 44) (.tmp 47) rfl (litEv (by kernel_rfl)) (litEv (by kernel_rfl)))) rfl (by decide) ?_
          refine lk (v := .bool true) rfl rfl rfl ?_
          refine lk (v := .bool true) rfl rfl rfl ?_
          refine plD ?_
          refine then_normal (hK60 _ _ ?_)
          refine wpPrune [(4, .bool false), (5, .bool false), (6, .bool false), (7, .bool true)] ⟨litGet (by kernel_rfl), ⟨litGet (by kernel_rfl), ⟨litGet (by kernel_rfl), ⟨litGet (by kernel_rfl), trivial⟩⟩⟩⟩ (fun X63 => ?_)
          refine wp_seq_k fun K64 hK64 => ?_
          refine plStart ?_
          refine lk (v := .bool false) rfl rfl rfl ?_
          refine lk (v := .bool false) rfl rfl rfl ?_
          refine plSkip (i := 2) rfl (wgN rfl rfl rfl (by decide) (by kernel_rfl)) ?_
          refine qP rfl ?_
          refine lk (v := .bool false) rfl rfl rfl ?_
          refine lk (v := .bool false) rfl rfl rfl ?_
          refine plSkip (i := 5) rfl (wgN rfl rfl rfl (by decide) (by kernel_rfl)) ?_
          refine qP rfl ?_
          refine lk (v := .bool false) rfl rfl rfl ?_
          refine lk (v := .bool false) rfl rfl rfl ?_
          refine plD ?_
          refine then_normal (hK64 _ _ ?_)
          refine wp_ret ?_
          refine bodyPost_ret (v := .bool false) (gRes1 rfl (gResTmp (t := 4) (v := .bool false) (litGet (by kernel_rfl)))) rfl ?_
          exact ⟨congrArg (fun b_ => Ending.returned (.bool b_)) (decide_eq_false (by unfold Bx.has; omega)).symm, hm6.bel⟩
        refine litVal (v := .bool false) rfl (wgY rfl rfl rfl (by decide) (by kernel_rfl)) (boolTo (decide_eq_false h62) (lssRun (A := p.z) (B := b.mx.z) (.tmp 44) (.tmp 47) rfl (litEv (by kernel_rfl)) (litEv (by kernel_rfl)))) rfl (by decide) ?_
        refine lk (v := .bool false) rfl rfl rfl ?_
        refine lk (v := .bool false) rfl rfl rfl ?_
        refine plD ?_
        refine then_normal (hK60 _ _ ?_)
        refine wpPrune [(4, .bool false), (5, .bool false), (6, .bool false), (7, .bool false)] ⟨litGet (by kernel_rfl), ⟨litGet (by kernel_rfl), ⟨litGet (by kernel_rfl), ⟨litGet (by kernel_rfl), trivial⟩⟩⟩⟩ (fun X65 => ?_)
        refine wp_seq_k fun K66 hK66 => ?_
        refine plStart ?_
        refine lk (v := .bool false) rfl rfl rfl ?_
        refine lk (v := .bool false) rfl rfl rfl ?_
        refine plSkip (i := 2) rfl (wgN rfl rfl rfl (by decide) (by kernel_rfl)) ?_
        refine qP rfl ?_
        refine lk (v := .bool false) rfl rfl rfl ?_
        refine lk (v := .bool false) rfl rfl rfl ?_
        refine plSkip (i := 5) rfl (wgN rfl rfl rfl (by decide) (by kernel_rfl)) ?_
        refine qP rfl ?_
        refine lk (v := .bool false) rfl rfl rfl ?_
        refine lk (v := .bool false) rfl rfl rfl ?_
        refine plD ?_
        refine then_normal (hK66 _ _ ?_)
        refine wp_ret ?_
        refine bodyPost_ret (v := .bool false) (gRes1 rfl (gResTmp (t := 4) (v := .bool false) (litGet (by kernel_rfl)))) rfl ?_
        exact ⟨congrArg (fun b_ => Ending.returned (.bool b_)) (decide_eq_false (by unfold Bx.has; omega)).symm, hm6.bel⟩
      refine litVal (v := .bool false) rfl (wn rfl) (boolTo (decide_eq_false h61) (gGeq (A := p.z) (B := b.mn.z) (.tmp 37) (.tmp 40) rfl (litEv (by kernel_rfl)) (litEv (by kernel_rfl)))) rfl (by decide) ?_
      refine lk (v := .bool false) rfl rfl rfl ?_
      refine plSkip (i := 7) rfl (wgN rfl rfl rfl (by decide) (by kernel_rfl)) ?_
      refine qP rfl ?_
      refine plSkip (i := 8) rfl (wgN rfl rfl rfl (by decide) (by kernel_rfl)) ?_
      refine qP rfl ?_
      refine plSkip (i := 9) rfl (wgN rfl rfl rfl (by decide) (by kernel_rfl)) ?_
      refine qP rfl ?_
      refine plSkip (i := 10) rfl (wgN rfl rfl rfl (by decide) (by kernel_rfl)) ?_
      refine qP rfl ?_
      refine plSkip (i := 11) rfl (wgN rfl rfl rfl (by decide) (by kernel_rfl)) ?_
      refine qP rfl ?_
      refine plSkip (i := 12) rfl (wgN rfl rfl rfl (by decide) (by kernel_rfl)) ?_
      refine qP rfl ?_
      refine lk (v := .bool false) rfl rfl rfl ?_
      refine lk (v := .bool false) rfl rfl rfl ?_
      refine plD ?_
      refine then_normal (hK60 _ _ ?_)
      refine wpPrune [(4, .bool false), (5, .bool false), (6, .bool false), (7, .bool false)] ⟨litGet (by kernel_rfl), ⟨litGet (by kernel_rfl), ⟨litGet (by kernel_rfl), ⟨litGet (by kernel_rfl), trivial⟩⟩⟩⟩ (fun X67 => ?_)
      refine wp_seq_k fun K68 hK68 => ?_
      refine plStart ?_
      refine lk (v := .bool false) rfl rfl rfl ?_
      refine lk (v := .bool false) rfl rfl rfl ?_
      refine plSkip (i := 2) rfl (wgN rfl rfl rfl (by decide) (by kernel_rfl)) ?_
      refine qP rfl ?_
      refine lk (v := .bool false) rfl rfl rfl ?_
      refine lk (v := .bool false) rfl rfl rfl ?_
      refine plSkip (i := 5) rfl (wgN rfl rfl rfl (by decide) (by kernel_rfl)) ?_
      refine qP rfl ?_
      refine lk (v := .bool false) rfl rfl rfl ?_
      refine lk (v := .bool false) rfl rfl rfl ?_
      refine plD ?_
      refine then_normal (hK68 _ _ ?_)
      refine wp_ret ?_
      refine bodyPost_ret (v := .bool false) (gRes1 rfl (gResTmp (t := 4) (v := .bool false) (litGet (by kernel_rfl)))) rfl ?_
      exact ⟨congrArg (fun b_ => Ending.returned (.bool b_)) (decide_eq_false (by unfold Bx.has; omega)).symm, hm6.bel⟩
    refine litVal (v := .bool false) rfl (wn rfl) (boolTo (decide_eq_false h47) (gGeq (A := p.y) (B := b.mn.y) (.tmp 23) (.tmp 26) rfl (litEv (by kernel_rfl)) (litEv (by kernel_rfl)))) rfl (by decide) ?_
    refine lk (v := .bool false) rfl rfl rfl ?_
    refine plSkip (i := 7) rfl (wgN rfl rfl rfl (by decide) (by kernel_rfl)) ?_
    refine qP rfl ?_
    refine plSkip (i := 8) rfl (wgN rfl rfl rfl (by decide) (by kernel_rfl)) ?_
    refine qP rfl ?_
    refine plSkip (i := 9) rfl (wgN rfl rfl rfl (by decide) (by kernel_rfl)) ?_
    refine qP rfl ?_
    refine plSkip (i := 10) rfl (wgN rfl rfl rfl (by decide) (by kernel_rfl)) ?_
    refine qP rfl ?_
    refine plSkip (i := 11) rfl (wgN rfl rfl rfl (by decide) (by kernel_rfl)) ?_
    refine qP rfl ?_
    refine plSkip (i := 12) rfl (wgN rfl rfl rfl (by decide) (by kernel_rfl)) ?_
    refine qP rfl ?_
    refine lk (v := .bool false) rfl rfl rfl ?_
    refine lk (v := .bool false) rfl rfl rfl ?_
    refine plD ?_
    refine then_normal (hK46 _ _ ?_)
    refine wpPrune [(2, .pointer (some ⟨g2, 0, none⟩)), (3, .pointer (some ⟨g5, 0, none⟩)), (4, .bool false), (5, .bool false), (6, .bool false)] ⟨litGet (by kernel_rfl), ⟨litGet (by kernel_rfl), ⟨litGet (by kernel_rfl), ⟨litGet (by kernel_rfl), ⟨litGet (by kernel_rfl), trivial⟩⟩⟩⟩⟩ (fun X69 => ?_)
    refine wp_seq_k fun K70 hK70 => ?_
    refine plStart ?_
    refine lk (v := .pointer (some ⟨g2, 2, none⟩)) rfl rfl rfl ?_
    refine litVal (v := .int .i64 p.z) rfl (wn rfl) (gLoad (v := .int .i64 p.z) (k := 2) 0 hm6 rfl (by kernel_rfl) (.tmp 36) (by kernel_rfl) rfl (litEv (by kernel_rfl))) rfl (by decide) ?_
    refine lk (v := .pointer (some ⟨g5, 0, none⟩)) rfl rfl rfl ?_
    refine lk (v := .pointer (some ⟨g5, 2, none⟩)) rfl rfl rfl ?_
    refine litVal (v := .int .i64 b.mn.z) rfl (wn rfl) (gLoad (v := .int .i64 b.mn.z) (k := 2) 1 hm6 rfl (by kernel_rfl) (.tmp 39) (by kernel_rfl) rfl (litEv (by kernel_rfl))) rfl (by decide) ?_
    by_cases h71 : b.mn.z ≤ p.z
    · refine litVal (v := .bool true) rfl (wn rfl) (boolTo (decide_eq_true h71) (gGeq (A := p.z) (B := b.mn.z) (.tmp 37) (.tmp 40) rfl (litEv (by kernel_rfl)) (litEv (by kernel_rfl)))) rfl (by decide) ?_
      refine lk (v := .bool true) rfl rfl rfl ?_
      refine litVal (v := .pointer (some ⟨g2, 2, none⟩)) rfl (wgY rfl rfl rfl (by decide) (by kernel_rfl)) (litRun (by kernel_rfl)) rfl (by decide) ?_
      refine litVal (v := .int .i64 p.z) rfl (wgY rfl rfl rfl (by decide) (by kernel_rfl)) (gLoad (v := .int .i64 p.z) (k := 2) 0 hm6 rfl (by kernel_rfl) (.tmp 43) (by kernel_rfl) rfl (litEv (by kernel_rfl))) rfl (by decide) ?_
      refine litVal (v := .pointer (some ⟨g5, 3, none⟩)) rfl (wgY rfl rfl rfl (by decide) (by kernel_rfl)) (litRun (by kernel_rfl)) rfl (by decide) ?_
      refine litVal (v := .pointer (some ⟨g5, 5, none⟩)) rfl (wgY rfl rfl rfl (by decide) (by kernel_rfl)) (litRun (by kernel_rfl)) rfl (by decide) ?_
      refine litVal (v := .int .i64 b.mx.z) rfl (wgY rfl rfl rfl (by decide) (by kernel_rfl)) (gLoad (v := .int .i64 b.mx.z) (k := 5) 1 hm6 rfl (by kernel_rfl) (.tmp 46) (by kernel_rfl) rfl (litEv (by kernel_rfl))) rfl (by decide) ?_
      by_cases h72 : p.z < b.mx.z
      · refine litVal (v := .bool true) rfl (wgY rfl rfl rfl (by decide) (by kernel_rfl)) (boolTo (decide_eq_true h72) (lssRun (A := p.z) (B := b.mx.z) (.tmp 44) (.tmp 47) rfl (litEv (by kernel_rfl)) (litEv (by kernel_rfl)))) rfl (by decide) ?_
        refine lk (v := .bool true) rfl rfl rfl ?_
        refine lk (v := .bool true) rfl rfl rfl ?_
        refine plD ?_
        refine then_normal (hK70 _ _ ?_)
        refine wpPrune [(4, .bool false), (5, .bool false), (6, .bool false), (7, .bool true)] ⟨litGet (by kernel_rfl), ⟨litGet (by kernel_rfl), ⟨litGet (by kernel_rfl), ⟨litGet (by kernel_rfl), trivial⟩⟩⟩⟩ (fun X73 => ?_)
        refine wp_seq_k fun K74 hK74 => ?_
        refine plStart ?_
        refine lk (v := .bool false) rfl rfl rfl ?_
        refine lk (v := .bool false) rfl rfl rfl ?_
        refine plSkip (i := 2) rfl (wgN rfl rfl rfl (by decide) (by kernel_rfl)) ?_
        refine qP rfl ?_
        refine lk (v := .bool false) rfl rfl rfl ?_
        refine lk (v := .bool false) rfl rfl rfl ?_
        refine plSkip (i := 5) rfl (wgN rfl rfl rfl (by decide) (by kernel_rfl)) ?_
        refine qP rfl ?_
        refine lk (v := .bool false) rfl rfl rfl ?_
        refine lk (v := .bool false) rfl rfl rfl ?_
        refine plD ?_
        refine then_normal (hK74 _ _ ?_)
        refine wp_ret ?_
        refine bodyPost_ret (v := .bool false) (gRes1 rfl (gResTmp (t := 4) (v := .bool false) (litGet (by kernel_rfl)))) rfl ?_
        exact ⟨congrArg (fun b_ => Ending.returned (.bool b_)) (decide_eq_false (by unfold Bx.has; omega)).symm, hm6.bel⟩
      refine litVal (v := .bool false) rfl (wgY rfl rfl rfl (by decide) (by kernel_rfl)) (boolTo (decide_eq_false h72) (lssRun (A := p.z) (B := b.mx.z) (.tmp 44) (.tmp 47) rfl (litEv (by kernel_rfl)) (litEv (by kernel_rfl)))) rfl (by decide) ?_
      refine lk (v := .bool false) rfl rfl rfl ?_
      refine lk (v := .bool false) rfl rfl rfl ?_
      refine plD ?_
      refine then_normal (hK70 _ _ ?_)
      refine wpPrune [(4, .bool false), (5, .bool false), (6, .bool false), (7, .bool false)] ⟨litGet (by kernel_rfl), ⟨litGet (by kernel_rfl), ⟨litGet (by kernel_rfl), ⟨litGet (by kernel_rfl), trivial⟩⟩⟩⟩ (fun X75 => ?_)
      refine wp_seq_k fun K76 hK76 => ?_
      refine plStart ?_
      refine lk (v := .bool false) rfl rfl rfl ?_
      refine lk (v := .bool false) rfl rfl rfl ?_
      refine plSkip (i := 2) rfl (wgN rfl rfl rfl (by decide) (by kernel_rfl)) ?_
      refine qP rfl ?_
      refine lk (v := .bool false) rfl rfl rfl ?_
      refine lk (v := .bool false) rfl rfl rfl ?_
      refine plSkip (i := 5) rfl (wgN rfl rfl rfl (by decide) (by kernel_rfl)) ?_
      refine qP rfl ?_
      refine lk (v := .bool false) rfl rfl rfl ?_
      refine lk (v := .bool false) rfl rfl rfl ?_
      refine plD ?_
      refine then_normal (hK76 _ _ ?_)
      refine wp_ret ?_
      refine bodyPost_ret (v := .bool false) (gRes1 rfl (gResTmp (t := 4) (v := .bool false) (litGet (by kernel_rfl)))) rfl ?_
      exact ⟨congrArg (fun b_ => Ending.returned (.bool b_)) (decide_eq_false (by unfold Bx.has; omega)).symm, hm6.bel⟩
    refine litVal (v := .bool false) rfl (wn rfl) (boolTo (decide_eq_false h71) (gGeq (A := p.z) (B := b.mn.z) (.tmp 37) (.tmp 40) rfl (litEv (by kernel_rfl)) (litEv (by kernel_rfl)))) rfl (by decide) ?_
    refine lk (v := .bool false) rfl rfl rfl ?_
    refine plSkip (i := 7) rfl (wgN rfl rfl rfl (by decide) (by kernel_rfl)) ?_
    refine qP rfl ?_
    refine plSkip (i := 8) rfl (wgN rfl rfl rfl (by decide) (by kernel_rfl)) ?_
    refine qP rfl ?_
    refine plSkip (i := 9) rfl (wgN rfl rfl rfl (by decide) (by kernel_rfl)) ?_
    refine qP rfl ?_
    refine plSkip (i := 10) rfl (wgN rfl rfl rfl (by decide) (by kernel_rfl)) ?_
    refine qP rfl ?_
    refine plSkip (i := 11) rfl (wgN rfl rfl rfl (by decide) (by kernel_rfl)) ?_
    refine qP rfl ?_
    refine plSkip (i := 12) rfl (wgN rfl rfl rfl (by decide) (by kernel_rfl)) ?_
    refine qP rfl ?_
    refine lk (v := .bool false) rfl rfl rfl ?_
    refine lk (v := .bool false) rfl rfl rfl ?_
    refine plD ?_
    refine then_normal (hK70 _ _ ?_)
    refine wpPrune [(4, .bool false), (5, .bool false), (6, .bool false), (7, .bool false)] ⟨litGet (by kernel_rfl), ⟨litGet (by kernel_rfl), ⟨litGet (by kernel_rfl), ⟨litGet (by kernel_rfl), trivial⟩⟩⟩⟩ (fun X77 => ?_)
    refine wp_seq_k fun K78 hK78 => ?_
    refine plStart ?_
    refine lk (v := .bool false) rfl rfl rfl ?_
    refine lk (v := .bool false) rfl rfl rfl ?_
    refine plSkip (i := 2) rfl (wgN rfl rfl rfl (by decide) (by kernel_rfl)) ?_
    refine qP rfl ?_
    refine lk (v := .bool false) rfl rfl rfl ?_
    refine lk (v := .bool false) rfl rfl rfl ?_
    refine plSkip (i := 5) rfl (wgN rfl rfl rfl (by decide) (by kernel_rfl)) ?_
    refine qP rfl ?_
    refine lk (v := .bool false) rfl rfl rfl ?_
    refine lk (v := .bool false) rfl rfl rfl ?_
    refine plD ?_
    refine then_normal (hK78 _ _ ?_)
    refine wp_ret ?_
    refine bodyPost_ret (v := .bool false) (gRes1 rfl (gResTmp (t := 4) (v := .bool false) (litGet (by kernel_rfl)))) rfl ?_
    exact ⟨congrArg (fun b_ => Ending.returned (.bool b_)) (decide_eq_false (by unfold Bx.has; omega)).symm, hm6.bel⟩
  refine litVal (v := .bool false) rfl (wn rfl) (boolTo (decide_eq_false h9) (gGeq (A := p.x) (B := b.mn.x) (.tmp 9) (.tmp 12) rfl (litEv (by kernel_rfl)) (litEv (by kernel_rfl)))) rfl (by decide) ?_
  refine lk (v := .bool false) rfl rfl rfl ?_
  refine plSkip (i := 7) rfl (wgN rfl rfl rfl (by decide) (by kernel_rfl)) ?_
  refine qP rfl ?_
  refine plSkip (i := 8) rfl (wgN rfl rfl rfl (by decide) (by kernel_rfl)) ?_
  refine qP rfl ?_
  refine plSkip (i := 9) rfl (wgN rfl rfl rfl (by decide) (by kernel_rfl)) ?_
  refine qP rfl ?_
  refine plSkip (i := 10) rfl (wgN rfl rfl rfl (by decide) (by kernel_rfl)) ?_
  refine qP rfl ?_
  refine plSkip (i := 11) rfl (wgN rfl rfl rfl (by decide) (by kernel_rfl)) ?_
  refine qP rfl ?_
  refine plSkip (i := 12) rfl (wgN rfl rfl rfl (by decide) (by kernel_rfl)) ?_
  refine qP rfl ?_
  refine lk (v := .bool false) rfl rfl rfl ?_
  refine lk (v := .bool false) rfl rfl rfl ?_
  refine plD ?_
  refine then_normal (hK8 _ _ ?_)
  refine wpPrune [(2, .pointer (some ⟨g2, 0, none⟩)), (3, .pointer (some ⟨g5, 0, none⟩)), (4, .bool false), (5, .bool false)] ⟨litGet (by kernel_rfl), ⟨litGet (by kernel_rfl), ⟨litGet (by kernel_rfl), ⟨litGet (by kernel_rfl), trivial⟩⟩⟩⟩ (fun X79 => ?_)
  refine wp_seq_k fun K80 hK80 => ?_
  refine plStart ?_
  refine lk (v := .pointer (some ⟨g2, 1, none⟩)) rfl rfl rfl ?_
  refine litVal (v := .int .i64 p.y) rfl (wn rfl) (gLoad (v := .int .i64 p.y) (k := 1) 0 hm6 rfl (by kernel_rfl) (.tmp 22) (by kernel_rfl) rfl (litEv (by kernel_rfl))) rfl (by decide) ?_
  refine lk (v := .pointer (some ⟨g5, 0, none⟩)) rfl rfl rfl ?_
  refine lk (v := .pointer (some ⟨g5, 1, none⟩)) rfl rfl rfl ?_
  refine litVal (v := .int .i64 b.mn.y) rfl (wn rfl) (gLoad (v := .int .i64 b.mn.y) (k := 1) 1 hm6 rfl (by kernel_rfl) (.tmp 25) (by kernel_rfl) rfl (litEv (by kernel_rfl))) rfl (by decide) ?_
  by_cases h81 : b.mn.y ≤ p.y
  · refine litVal (v := .bool true) rfl (wn rfl) (boolTo (decide_eq_true h81) (gGeq (A := p.y) (B := b.mn.y) (.tmp 23) (.tmp 26) rfl (litEv (by kernel_rfl)) (litEv (by kernel_rfl)))) rfl (by decide) ?_
    refine lk (v := .bool true) rfl rfl rfl ?_
    refine litVal (v := .pointer (some ⟨g2, 1, none⟩)) rfl (wgY rfl rfl rfl (by decide) (by kernel_rfl)) (litRun (by kernel_rfl)) rfl (by decide) ?_
    refine litVal (v := .int .i64 p.y) rfl (wgY rfl rfl rfl (by decide) (by kernel_rfl)) (gLoad (v := .int .i64 p.y) (k := 1) 0 hm6 rfl (by kernel_rfl) (.tmp 29) (by kernel_rfl) rfl (litEv (by kernel_rfl))) rfl (by decide) ?_
    refine litVal (v := .pointer (some ⟨g5, 3, none⟩)) rfl (wgY rfl rfl rfl (by decide) (by kernel_rfl)) (litRun (by kernel_rfl)) rfl (by decide) ?_
    refine litVal (v := .pointer (some ⟨g5, 4, none⟩)) rfl (wgY rfl rfl rfl (by decide) (by kernel_rfl)) (litRun (by kernel_rfl)) rfl (by decide) ?_
    refine litVal (v := .int .i64 b.mx.y) rfl (wgY rfl rfl rfl (by decide) (by kernel_rfl)) (gLoad (v := .int .i64 b.mx.y) (k := 4) 1 hm6 rfl (by kernel_rfl) (.tmp 32) (by kernel_rfl) rfl (litEv (by kernel_rfl))) rfl (by decide) ?_
    by_cases h82 : p.y < b.mx.y
    · refine litVal (v := .bool true) rfl (wgY rfl rfl rfl (by decide) (by kernel_rfl)) (boolTo (decide_eq_true h82) (lssRun (A := p.y) (B := b.mx.y) (.tmp 30) (.tmp 33) rfl (litEv (by kernel_rfl)) (litEv (by kernel_rfl)))) rfl (by decide) ?_
      refine lk (v := .bool true) rfl rfl rfl ?_
      refine lk (v := .bool true) rfl rfl rfl ?_
      refine plD ?_
      refine then_normal (hK80 _ _ ?_)
      refine wpPrune [(2, .pointer (some ⟨g2, 0, none⟩)), (3, .pointer (some ⟨g5, 0, none⟩)), (4, .bool false), (5, .bool false), (6, .bool true)] ⟨litGet (by kernel_rfl), ⟨litGet (by kernel_rfl), ⟨litGet (by kernel_rfl), ⟨litGet (by kernel_rfl), ⟨litGet (by kernel_rfl), trivial⟩⟩⟩⟩⟩ (fun X83 => ?_)
      refine wp_seq_k fun K84 hK84 => ?_
      refine plStart ?_
      refine lk (v := .pointer (some ⟨g2, 2, none⟩)) rfl rfl rfl ?_
      refine litVal (v := .int .i64 p.z) rfl (wn rfl) (gLoad (v := .int .i64 p.z) (k := 2) 0 hm6 rfl (by kernel_rfl) (.tmp 36) (by kernel_rfl) rfl (litEv (by kernel_rfl))) rfl (by decide) ?_
      refine lk (v := .pointer (some ⟨g5, 0, none⟩)) rfl rfl rfl ?_
      refine lk (v := .pointer (some ⟨g5, 2, none⟩)) rfl rfl rfl ?_
      refine litVal (v := .int .i64 b.mn.z) rfl (wn rfl) (gLoad (v := .int .i64 b.mn.z) (k := 2) 1 hm6 rfl (by kernel_rfl) (.tmp 39) (by kernel_rfl) rfl (litEv (by kernel_rfl))) rfl (by decide) ?_
      by_cases h85 : b.mn.z ≤ p.z
      · refine litVal (v := .bool true) rfl (wn rfl) (boolTo (decide_eq_true h85) (gGeq (A := p.z) (B := b.mn.z) (.tmp 37) (.tmp 40) rfl (litEv (by kernel_rfl)) (litEv (by kernel_rfl)))) rfl (by decide) ?_
        refine lk (v := .bool true) rfl rfl rfl ?_
        refine litVal (v := .pointer (some ⟨g2, 2, none⟩)) rfl (wgY rfl rfl rfl (by decide) (by kernel_rfl)) (litRun (by kernel_rfl)) rfl (by decide) ?_
        refine litVal (v := .int .i64 p.z) rfl (wgY rfl rfl rfl (by decide) (by kernel_rfl)) (gLoad (v := .int .i64 p.z) (k := 2) 0 hm6 rfl (by kernel_rfl) (.tmp 43) (by kernel_rfl) rfl (litEv (by kernel_rfl))) rfl (by decide) ?_
        refine litVal (v := .pointer (some ⟨g5, 3, none⟩)) rfl (wgY rfl rfl rfl (by decide) (by kernel_rfl)) (litRun (by kernel_rfl)) rfl (by decide) ?_
        refine litVal (v := .pointer (some ⟨g5, 5, none⟩)) rfl (wgY rfl rfl rfl (by decide) (by kernel_rfl)) (litRun (by kernel_rfl)) rfl (by decide) ?_
        refine litVal (v := .int .i64 b.mx.z) rfl (wgY rfl rfl rfl (by decide) (by kernel_rfl)) (gLoad (v := .int .i64 b.mx.z) (k := 5) 1 hm6 rfl (by kernel_rfl) (.tmp 46) (by kernel_rfl) rfl (litEv (by kernel_rfl))) rfl (by decide) ?_
        by_cases h86 : p.z < b.mx.z
        · refine litVal (v := .bool true) rfl (wgY rfl rfl rfl (by decide) (by kernel_rfl)) (boolTo (decide_eq_true h86) (lssRun (A := p.z) (B := b.mx.z) (.tmp 44) (.tmp 47) rfl (litEv (by kernel_rfl)) (litEv (by kernel_rfl)))) rfl (by decide) ?_
          refine lk (v := .bool true) rfl rfl rfl ?_
          refine lk (v := .bool true) rfl rfl rfl ?_
          refine plD ?_
          refine then_normal (hK84 _ _ ?_)
          refine wpPrune [(4, .bool false), (5, .bool false), (6, .bool true), (7, .bool true)] ⟨litGet (by kernel_rfl), ⟨litGet (by kernel_rfl), ⟨litGet (by kernel_rfl), ⟨litGet (by kernel_rfl), trivial⟩⟩⟩⟩ (fun X87 => ?_)
          refine wp_seq_k fun K88 hK88 => ?_
          refine plStart ?_
          refine lk (v := .bool false) rfl rfl rfl ?_
          refine lk (v := .bool false) rfl rfl rfl ?_
          refine plSkip (i := 2) rfl (wgN rfl rfl rfl (by decide) (by kernel_rfl)) ?_
          refine qP rfl ?_
          refine lk (v := .bool false) rfl rfl rfl ?_
          refine lk (v := .bool false) rfl rfl rfl ?_
          refine plSkip (i := 5) rfl (wgN rfl rfl rfl (by decide) (by kernel_rfl)) ?_
          refine qP rfl ?_
          refine lk (v := .bool false) rfl rfl rfl ?_
          refine lk (v := .bool false) rfl rfl rfl ?_
          refine plD ?_
          refine then_normal (hK88 _ _ ?_)
          refine wp_ret ?_
          refine bodyPost_ret (v := .bool false) (gRes1 rfl (gResTmp (t := 4) (v := .bool false) (litGet (by kernel_rfl)))) rfl ?_
          exact ⟨congrArg (fun b_ => Ending.returned (.bool b_)) (decide_eq_false (by unfold Bx.has; omega)).symm, hm6.bel⟩
        refine litVal (v := .bool false) rfl (wgY rfl rfl rfl (by decide) (by kernel_rfl)) (boolTo (decide_eq_false h86) (lssRun (A := p.z) (B := b.mx.z) (.tmp 44) (.tmp 47) rfl (litEv (by kernel_rfl)) (litEv (by kernel_rfl)))) rfl (by decide) ?_
        refine lk (v := .bool false) rfl rfl rfl ?_
        refine lk (v := .bool false) rfl rfl rfl ?_
        refine plD ?_
        refine then_normal (hK84 _ _ ?_)
        refine wpPrune [(4, .bool false), (5, .bool false), (6, .bool true), (7, .bool false)] ⟨litGet (by kernel_rfl), ⟨litGet (by kernel_rfl), ⟨litGet (by kernel_rfl), ⟨litGet (by kernel_rfl), trivial⟩⟩⟩⟩ (fun X89 => ?_)
        refine wp_seq_k fun K90 hK90 => ?_
        refine plStart ?_
        refine lk (v := .bool false) rfl rfl rfl ?_
        refine lk (v := .bool false) rfl rfl rfl ?_
        refine plSkip (i := 2) rfl (wgN rfl rfl rfl (by decide) (by kernel_rfl)) ?_
        refine qP rfl ?_
        refine lk (v := .bool false) rfl rfl rfl ?_
        refine lk (v := .bool false) rfl rfl rfl ?_
        refine plSkip (i := 5) rfl (wgN rfl rfl rfl (by decide) (by kernel_rfl)) ?_
        refine qP rfl ?_
        refine lk (v := .bool false) rfl rfl rfl ?_
        refine lk (v := .bool false) rfl rfl rfl ?_
        refine plD ?_
        refine then_normal (hK90 _ _ ?_)
        refine wp_ret ?_
        refine bodyPost_ret (v := .bool false) (gRes1 rfl (gResTmp (t := 4) (v := .bool false) (litGet (by kernel_rfl)))) rfl ?_
        exact ⟨congrArg (fun b_ => Ending.returned (.bool b_)) (decide_eq_false (by unfold Bx.has; omega)).symm, hm6.bel⟩
      refine litVal (v := .bool false) rfl (wn rfl) (boolTo (decide_eq_false h85) (gGeq (A := p.z) (B := b.mn.z) (.tmp 37) (.tmp 40) rfl (litEv (by kernel_rfl)) (litEv (by kernel_rfl)))) rfl (by decide) ?_
      refine lk (v := .bool false) rfl rfl rfl ?_
      refine plSkip (i := 7) rfl (wgN rfl rfl rfl (by decide) (by kernel_rfl)) ?_
      refine qP rfl ?_
      refine plSkip (i := 8) rfl (wgN rfl rfl rfl (by decide) (by kernel_rfl)) ?_
      refine qP rfl ?_
      refine plSkip (i := 9) rfl (wgN rfl rfl rfl (by decide) (by kernel_rfl)) ?_
      refine qP rfl ?_
      refine plSkip (i := 10) rfl (wgN rfl rfl rfl (by decide) (by kernel_rfl)) ?_
      refine qP rfl ?_
      refine plSkip (i := 11) rfl (wgN rfl rfl rfl (by decide) (by kernel_rfl)) ?_
      refine qP rfl ?_
      refine plSkip (i := 12) rfl (wgN rfl rfl rfl (by decide) (by kernel_rfl)) ?_
      refine qP rfl ?_
      refine lk (v := .bool false) rfl rfl rfl ?_
      refine lk (v := .bool false) rfl rfl rfl ?_
      refine plD ?_
      refine then_normal (hK84 _ _ ?_)
      refine wpPrune [(4, .bool false), (5, .bool false), (6, .bool true), (7, .bool false)] ⟨litGet (by kernel_rfl), ⟨litGet (by kernel_rfl), ⟨litGet (by kernel_rfl), ⟨litGet (by kernel_rfl), trivial⟩⟩⟩⟩ (fun X91 => ?_)
      refine wp_seq_k fun K92 hK92 => ?_
      refine plStart ?_
      refine lk (v := .bool false) rfl rfl rfl ?_
      refine lk (v := .bool false) rfl rfl rfl ?_
      refine plSkip (i := 2) rfl (wgN rfl rfl rfl (by decide) (by kernel_rfl)) ?_
      refine qP rfl ?_
      refine lk (v := .bool false) rfl rfl rfl ?_
      refine lk (v := .bool false) rfl rfl rfl ?_
      refine plSkip (i := 5) rfl (wgN rfl rfl rfl (by decide) (by kernel_rfl)) ?_
      refine qP rfl ?_
      refine lk (v := .bool false) rfl rfl rfl ?_
      refine lk (v := .bool false) rfl rfl rfl ?_
      refine plD ?_
      refine then_normal (hK92 _ _ ?_)
      refine wp_ret ?_
      refine bodyPost_ret (v := .bool false) (gRes1 rfl (gResTmp (t := 4) (v := .bool false) (litGet (by kernel_rfl)))) rfl ?_
      exact ⟨congrArg (fun b_ => Ending.returned (.bool b_)) (decide_eq_false (by unfold Bx.has; omega)).symm, hm6.bel⟩
    refine litVal (v := .bool false) rfl (wgY rfl rfl rfl (by decide) (by kernel_rfl)) (boolTo (decide_eq_false h82) (lssRun (A := p.y) (B := b.mx.y) (.tmp 30) (.tmp 33) rfl (litEv (by kernel_rfl)) (litEv (by kernel_rfl)))) rfl (by decide) ?_
    refine lk (v := .bool false) rfl rfl rfl ?_
    refine lk (v := .bool false) rfl rfl rfl ?_
    refine plD ?_
    refine then_normal (hK80 _ _ ?_)
    refine wpPrune [(2, .pointer (some ⟨g2, 0, none⟩)), (3, .pointer (some ⟨g5, 0, none⟩)), (4, .bool false), (5, .bool false), (6, .bool false)] ⟨litGet (by kernel_rfl), ⟨litGet (by kernel_rfl), ⟨litGet (by kernel_rfl), ⟨litGet (by kernel_rfl), ⟨litGet (by kernel_rfl), trivial⟩⟩⟩⟩⟩ (fun X93 => ?_)
    refine wp_seq_k fun K94 hK94 => ?_
    refine plStart ?_
    refine lk (v := .pointer (some ⟨g2, 2, none⟩)) rfl rfl rfl ?_
    refine litVal (v := .int .i64 p.z) rfl (wn rfl) (gLoad (v := .int .i64 p.z) (k := 2) 0 hm6 rfl (by kernel_rfl) (.tmp 36) (by kernel_rfl) rfl (litEv (by kernel_rfl))) rfl (by decide) ?_
    refine lk (v := .pointer (some ⟨g5, 0, none⟩)) rfl rfl rfl ?_
    refine lk (v := .pointer (some ⟨g5, 2, none⟩)) rfl rfl rfl ?_
    refine litVal (v := .int .i64 b.mn.z) rfl (wn rfl) (gLoad (v := .int .i64 b.mn.z) (k := 2) 1 hm6 rfl (by kernel_rfl) (.tmp 39) (by kernel_rfl) rfl (litEv (by kernel_rfl))) rfl (by decide) ?_
    by_cases h95 : b.mn.z ≤ p.z
    · refine litVal (v := .bool true) rfl (wn rfl) (boolTo (decide_eq_true h95) (gGeq (A := p.z) (B := b.mn.z) (.tmp 37) (.tmp 40) rfl (litEv (by kernel_rfl)) (litEv (by kernel_rfl)))) rfl (by decide) ?_
      refine lk (v := .bool true) rfl rfl rfl ?_
      refine litVal (v := .pointer (some ⟨g2, 2, none⟩)) rfl (wgY rfl rfl rfl (by decide) (by kernel_rfl)) (litRun (by kernel_rfl)) rfl (by decide) ?_
      refine litVal (v := .int .i64 p.z) rfl (wgY rfl rfl rfl (by decide) (by kernel_rfl)) (gLoad (v := .int .i64 p.z) (k := 2) 0 hm6 rfl (by kernel_rfl) (.tmp 43) (by kernel_rfl) rfl (litEv (by kernel_rfl))) rfl (by decide) ?_
      refine litVal (v := .pointer (some ⟨g5, 3, none⟩)) rfl (wgY rfl rfl rfl (by decide) (by kernel_rfl)) (litRun (by kernel_rfl)) rfl (by decide) ?_
      refine litVal (v := .pointer (some ⟨g5, 5, none⟩)) rfl (wgY rfl rfl rfl (by decide) (by kernel_rfl)) (litRun (by kernel_rfl)) rfl (by decide) ?_
      refine litVal (v := .int .i64 b.mx.z) rfl (wgY rfl rfl rfl (by decide) (by kernel_rfl)) (gLoad (v := .int .i64 b.mx.z) (k := 5) 1 hm6 rfl (by kernel_rfl) (.tmp 46) (by kernel_rfl) rfl (litEv (by kernel_rfl))) rfl (by decide) ?_
      by_cases h96 : p.z < b.mx.z
      · refine litVal (v := .bool true) rfl (wgY rfl rfl rfl (by decide) (by kernel_rfl)) (boolTo (decide_eq_true h96) (lssRun (A := p.z) (B := b.mx.z) (.tmp 44) (.tmp 47) rfl (litEv (by kernel_rfl)) (litEv (by kernel_rfl)))) rfl (by decide) ?_
        refine lk (v := .bool true) rfl rfl rfl ?_
        refine lk (v := .bool true) rfl rfl rfl ?_
        refine plD ?_
        refine then_normal (hK94 _ _ ?_)
        refine wpPrune [(4, .bool false), (5, .bool false), (6, .bool false), (7, .bool true)] ⟨litGet (by kernel_rfl), ⟨litGet (by kernel_rfl), ⟨litGet (by kernel_rfl), ⟨litGet (by kernel_rfl), trivial⟩⟩⟩⟩ (fun X97 => ?_)
        refine wp_seq_k fun K98 hK98 => ?_
        refine plStart ?_
        refine lk (v := .bool false) rfl rfl rfl ?_
        refine lk (v := .bool false) rfl rfl rfl ?_
        refine plSkip (i := 2) rfl (wgN rfl rfl rfl (by decide) (by kernel_rfl)) ?_
        refine qP rfl ?_
        refine lk (v := .bool false) rfl rfl rfl ?_
        refine lk (v := .bool false) rfl rfl rfl ?_
        refine plSkip (i := 5) rfl (wgN rfl rfl rfl (by decide) (by kernel_rfl)) ?_
        refine qP rfl ?_
        refine lk (v := .bool false) rfl rfl rfl ?_
        refine lk (v := .bool false) rfl rfl rfl ?_
        refine plD ?_
        refine then_normal (hK98 _ _ ?_)
        refine wp_ret ?_
        refine bodyPost_ret (v := .bool false) (gRes1 rfl (gResTmp (t := 4) (v := .bool false) (litGet (by kernel_rfl)))) rfl ?_
        exact ⟨congrArg (fun b_ => Ending.returned (.bool b_)) (decide_eq_false (by unfold Bx.has; omega)).symm, hm6.bel⟩
      refine litVal (v := .bool false) rfl (wgY rfl rfl rfl (by decide) (by kernel_rfl)) (boolTo (decide_eq_false h96) (lssRun (A := p.z) (B := b.mx.z) (.tmp 44) (.tmp 47) rfl (litEv (by kernel_rfl)) (litEv (by kernel_rfl)))) rfl (by decide) ?_
      refine lk (v := .bool false) rfl rfl rfl ?_
      refine lk (v := .bool false) rfl rfl rfl ?_
      refine plD ?_
      refine then_normal (hK94 _ _ ?_)
      refine wpPrune [(4, .bool false), (5, .bool false), (6, .bool false), (7, .bool false)] ⟨litGet (by kernel_rfl), ⟨litGet (by kernel_rfl), ⟨litGet (by kernel_rfl), ⟨litGet (by kernel_rfl), trivial⟩⟩⟩⟩ (fun X99 => ?_)
      refine wp_seq_k fun K100 hK100 => ?_
      refine plStart ?_
      refine lk (v := .bool false) rfl rfl rfl ?_
      refine lk (v := .bool false) rfl rfl rfl ?_
      refine plSkip (i := 2) rfl (wgN rfl rfl rfl (by decide) (by kernel_rfl)) ?_
      refine qP rfl ?_
      refine lk (v := .bool false) rfl rfl rfl ?_
      refine lk (v := .bool false) rfl rfl rfl ?_
      refine plSkip (i := 5) rfl (wgN rfl rfl rfl (by decide) (by kernel_rfl)) ?_
      refine qP rfl ?_
      refine lk (v := .bool false) rfl rfl rfl ?_
      refine lk (v := .bool false) rfl rfl rfl ?_
      refine plD ?_
      refine then_normal (hK100 _ _ ?_)
      refine wp_ret ?_
      refine bodyPost_ret (v := .bool false) (gRes1 rfl (gResTmp (t := 4) (v := .bool false) (litGet (by kernel_rfl)))) rfl ?_
      exact ⟨congrArg (fun b_ => Ending.returned (.bool b_)) (decide_eq_false (by unfold Bx.has; omega)).symm, hm6.bel⟩
    refine litVal (v := .bool false) rfl (wn rfl) (boolTo (decide_eq_false h95) (gGeq (A := p.z) (B := b.mn.z) (.tmp 37) (.tmp 40) rfl (litEv (by kernel_rfl)) (litEv (by kernel_rfl)))) rfl (by decide) ?_
    refine lk (v := .bool false) rfl rfl rfl ?_
    refine plSkip (i := 7) rfl (wgN rfl rfl rfl (by decide) (by kernel_rfl)) ?_
    refine qP rfl ?_
    refine plSkip (i := 8) rfl (wgN rfl rfl rfl (by decide) (by kernel_rfl)) ?_
    refine qP rfl ?_
    refine plSkip (i := 9) rfl (wgN rfl rfl rfl (by decide) (by kernel_rfl)) ?_
    refine qP rfl ?_
    refine plSkip (i := 10) rfl (wgN rfl rfl rfl (by decide) (by kernel_rfl)) ?_
    refine qP rfl ?_
    refine plSkip (i := 11) rfl (wgN rfl rfl rfl (by decide) (by kernel_rfl)) ?_
    refine qP rfl ?_
    refine plSkip (i := 12) rfl (wgN rfl rfl rfl (by decide) (by kernel_rfl)) ?_
    refine qP rfl ?_
    refine lk (v := .bool false) rfl rfl rfl ?_
    refine lk (v := .bool false) rfl rfl rfl ?_
    refine plD ?_
    refine then_normal (hK94 _ _ ?_)
    refine wpPrune [(4, .bool false), (5, .bool false), (6, .bool false), (7, .bool false)] ⟨litGet (by kernel_rfl), ⟨litGet (by kernel_rfl), ⟨litGet (by kernel_rfl), ⟨litGet (by kernel_rfl), trivial⟩⟩⟩⟩ (fun X101 => ?_)
    refine wp_seq_k fun K102 hK102 => ?_
    refine plStart ?_
    refine lk (v := .bool false) rfl rfl rfl ?_
    refine lk (v := .bool false) rfl rfl rfl ?_
    refine plSkip (i := 2) rfl (wgN rfl rfl rfl (by decide) (by kernel_rfl)) ?_
    refine qP rfl ?_
    refine lk (v := .bool false) rfl rfl rfl ?_
    refine lk (v := .bool false) rfl rfl rfl ?_
    refine plSkip (i := 5) rfl (wgN rfl rfl rfl (by decide) (by kernel_rfl)) ?_
    refine qP rfl ?_
    refine lk (v := .bool false) rfl rfl rfl ?_
    refine lk (v := .bool false) rfl rfl rfl ?_
    refine plD ?_
    refine then_normal (hK102 _ _ ?_)
    refine wp_ret ?_
    refine bodyPost_ret (v := .bool false) (gRes1 rfl (gResTmp (t := 4) (v := .bool false) (litGet (by kernel_rfl)))) rfl ?_
    exact ⟨congrArg (fun b_ => Ending.returned (.bool b_)) (decide_eq_false (by unfold Bx.has; omega)).symm, hm6.bel⟩
  refine litVal (v := .bool false) rfl (wn rfl) (boolTo (decide_eq_false h81) (gGeq (A := p.y) (B := b.mn.y) (.tmp 23) (.tmp 26) rfl (litEv (by kernel_rfl)) (litEv (by kernel_rfl)))) rfl (by decide) ?_
  refine lk (v := .bool false) rfl rfl rfl ?_
  refine plSkip (i := 7) rfl (wgN rfl rfl rfl (by decide) (by kernel_rfl)) ?_
  refine qP rfl ?_
  refine plSkip (i := 8) rfl (wgN rfl rfl rfl (by decide) (by kernel_rfl)) ?_
  refine qP rfl ?_
  refine plSkip (i := 9) rfl (wgN rfl rfl rfl (by decide) (by kernel_rfl)) ?_
  refine qP rfl ?_
  refine plSkip (i := 10) rfl (wgN rfl rfl rfl (by decide) (by kernel_rfl)) ?_
  refine qP rfl ?_
  refine plSkip (i := 11) rfl (wgN rfl rfl rfl (by decide) (by kernel_rfl)) ?_
  refine qP rfl ?_
  refine plSkip (i := 12) rfl (wgN rfl rfl rfl (by decide) (by kernel_rfl)) ?_
  refine qP rfl ?_
  refine lk (v := .bool false) rfl rfl rfl ?_
  refine lk (v := .bool false) rfl rfl rfl ?_
  refine plD ?_
  refine then_normal (hK80 _ _ ?_)
  refine wpPrune [(2, .pointer (some ⟨g2, 0, none⟩)), (3, .pointer (some ⟨g5, 0, none⟩)), (4, .bool false), (5, .bool false), (6, .bool false)] ⟨litGet (by kernel_rfl), ⟨litGet (by kernel_rfl), ⟨litGet (by kernel_rfl), ⟨litGet (by kernel_rfl), ⟨litGet (by kernel_rfl), trivial⟩⟩⟩⟩⟩ (fun X103 => ?_)
  refine wp_seq_k fun K104 hK104 => ?_
  refine plStart ?_
  refine lk (v := .pointer (some ⟨g2, 2, none⟩)) rfl rfl rfl ?_
  refine litVal (v := .int .i64 p.z) rfl (wn rfl) (gLoad (v := .int .i64 p.z) (k := 2) 0 hm6 rfl (by kernel_rfl) (.tmp 36) (by kernel_rfl) rfl (litEv (by kernel_rfl))) rfl (by decide) ?_
  refine lk (v := .pointer (some ⟨g5, 0, none⟩)) rfl rfl rfl ?_
  refine lk (v := .pointer (some ⟨g5, 2, none⟩)) rfl rfl rfl ?_
  refine litVal (v := .int .i64 b.mn.z) rfl (wn rfl) (gLoad (v := .int .i64 b.mn.z) (k := 2) 1 hm6 rfl (by kernel_rfl) (.tmp 39) (by kernel_rfl) rfl (litEv (by kernel_rfl))) rfl (by decide) ?_
  by_cases h105 : b.mn.z ≤ p.z
  · refine litVal (v := .bool true) rfl (wn rfl) (boolTo (decide_eq_true h105) (gGeq (A := p.z) (B := b.mn.z) (.tmp 37) (.tmp 40) rfl (litEv (by kernel_rfl)) (litEv (by kernel_rfl)))) rfl (by decide) ?_
    refine lk (v := .bool true) rfl rfl rfl ?_
    refine litVal (v := .pointer (some ⟨g2, 2, none⟩)) rfl (wgY rfl rfl rfl (by decide) (by kernel_rfl)) (litRun (by kernel_rfl)) rfl (by decide) ?_
    refine litVal (v := .int .i64 p.z) rfl (wgY rfl rfl rfl (by decide) (by kernel_rfl)) (gLoad (v := .int .i64 p.z) (k := 2) 0 hm6 rfl (by kernel_rfl) (.tmp 43) (by kernel_rfl) rfl (litEv (by kernel_rfl))) rfl (by decide) ?_
    refine litVal (v := .pointer (some ⟨g5, 3, none⟩)) rfl (wgY rfl rfl rfl (by decide) (by kernel_rfl)) (litRun (by kernel_rfl)) rfl (by decide) ?_
    refine litVal (v := .pointer (some ⟨g5, 5, none⟩)) rfl (wgY rfl rfl rfl (by decide) (by kernel_rfl)) (litRun (by kernel_rfl)) rfl (by decide) ?_
    refine litVal (v := .int .i64 b.mx.z) rfl (wgY rfl rfl rfl (by decide) (by kernel_rfl)) (gLoad (v := .int .i64 b.mx.z) (k := 5) 1 hm6 rfl (by kernel_rfl) (.tmp 46) (by kernel_rfl) rfl (litEv (by kernel_rfl))) rfl (by decide) ?_
    by_cases h106 : p.z < b.mx.z
    · refine litVal (v := .bool true) rfl (wgY rfl rfl rfl (by decide) (by kernel_rfl)) (boolTo (decide_eq_true h106) (lssRun (A := p.z) (B := b.mx.z) (.tmp 44) (.tmp 47) rfl (litEv (by kernel_rfl)) (litEv (by kernel_rfl)))) rfl (by decide) ?_
      refine lk (v := .bool true) rfl rfl rfl ?_
      refine lk (v := .bool true) rfl rfl rfl ?_
      refine plD ?_
      refine then_normal (hK104 _ _ ?_)
      refine wpPrune [(4, .bool false), (5, .bool false), (6, .bool false), (7, .bool true)] ⟨litGet (by kernel_rfl), ⟨litGet (by kernel_rfl), ⟨litGet (by kernel_rfl), ⟨litGet (by kernel_rfl), trivial⟩⟩⟩⟩ (fun X107 => ?_)
      refine wp_seq_k fun K108 hK108 => ?_
      refine plStart ?_
      refine lk (v := .bool false) rfl rfl rfl ?_
      refine lk (v := .bool false) rfl rfl rfl ?_
      refine plSkip (i := 2) rfl (wgN rfl rfl rfl (by decide) (by kernel_rfl)) ?_
      refine qP rfl ?_
      refine lk (v := .bool false) rfl rfl rfl ?_
      refine lk (v := .bool false) rfl rfl rfl ?_
      refine plSkip (i := 5) rfl (wgN rfl rfl rfl (by decide) (by kernel_rfl)) ?_
      refine qP rfl ?_
      refine lk (v := .bool false) rfl rfl rfl ?_
      refine lk (v := .bool false) rfl rfl rfl ?_
      refine plD ?_
      refine then_normal (hK108 _ _ ?_)
      refine wp_ret ?_
      refine bodyPost_ret (v := .bool false) (gRes1 rfl (gResTmp (t := 4) (v := .bool false) (litGet (by kernel_rfl)))) rfl ?_
      exact ⟨congrArg (fun b_ => Ending.returned (.bool b_)) (decide_eq_false (by unfold Bx.has; omega)).symm, hm6.bel⟩
    refine litVal (v := .bool false) rfl (wgY rfl rfl rfl (by decide) (by kernel_rfl)) (boolTo (decide_eq_false h106) (lssRun (A := p.z) (B := b.mx.z) (.tmp 44) (.tmp 47) rfl (litEv (by kernel_rfl)) (litEv (by kernel_rfl)))) rfl (by decide) ?_
    refine lk (v := .bool false) rfl rfl rfl ?_
    refine lk (v := .bool false) rfl rfl rfl ?_
    refine plD ?_
    refine then_normal (hK104 _ _ ?_)
    refine wpPrune [(4, .bool false), (5, .bool false), (6, .bool false), (7, .bool false)] ⟨litGet (by kernel_rfl), ⟨litGet (by kernel_rfl), ⟨litGet (by kernel_rfl), ⟨litGet (by kernel_rfl), trivial⟩⟩⟩⟩ (fun X109 => ?_)
    refine wp_seq_k fun K110 hK110 => ?_
    refine plStart ?_
    refine lk (v := .bool false) rfl rfl rfl ?_
    refine lk (v := .bool false) rfl rfl rfl ?_
    refine plSkip (i := 2) rfl (wgN rfl rfl rfl (by decide) (by kernel_rfl)) ?_
    refine qP rfl ?_
    refine lk (v := .bool false) rfl rfl rfl ?_
    refine lk (v := .bool false) rfl rfl rfl ?_
    refine plSkip (i := 5) rfl (wgN rfl rfl rfl (by decide) (by kernel_rfl)) ?_
    refine qP rfl ?_
    refine lk (v := .bool false) rfl rfl rfl ?_
    refine lk (v := .bool false) rfl rfl rfl ?_
    refine plD ?_
    refine then_normal (hK110 _ _ ?_)
    refine wp_ret ?_
    refine bodyPost_ret (v := .bool false) (gRes1 rfl (gResTmp (t := 4) (v := .bool false) (litGet (by kernel_rfl)))) rfl ?_
    exact ⟨congrArg (fun b_ => Ending.returned (.bool b_)) (decide_eq_false (by unfold Bx.has; omega)).symm, hm6.bel⟩
  refine litVal (v := .bool false) rfl (wn rfl) (boolTo (decide_eq_false h105) (gGeq (A := p.z) (B := b.mn.z) (.tmp 37) (.tmp 40) rfl (litEv (by kernel_rfl)) (litEv (by kernel_rfl)))) rfl (by decide) ?_
  refine lk (v := .bool false) rfl rfl rfl ?_
  refine plSkip (i := 7) rfl (wgN rfl rfl rfl (by decide) (by kernel_rfl)) ?_
  refine qP rfl ?_
  refine plSkip (i := 8) rfl (wgN rfl rfl rfl (by decide) (by kernel_rfl)) ?_
  refine qP rfl ?_
  refine plSkip (i := 9) rfl (wgN rfl rfl rfl (by decide) (by kernel_rfl)) ?_
  refine qP rfl ?_
  refine plSkip (i := 10) rfl (wgN rfl rfl rfl (by decide) (by kernel_rfl)) ?_
  refine qP rfl ?_
  refine plSkip (i := 11) rfl (wgN rfl rfl rfl (by decide) (by kernel_rfl)) ?_
  refine qP rfl ?_
  refine plSkip (i := 12) rfl (wgN rfl rfl rfl (by decide) (by kernel_rfl)) ?_
  refine qP rfl ?_
  refine lk (v := .bool false) rfl rfl rfl ?_
  refine lk (v := .bool false) rfl rfl rfl ?_
  refine plD ?_
  refine then_normal (hK104 _ _ ?_)
  refine wpPrune [(4, .bool false), (5, .bool false), (6, .bool false), (7, .bool false)] ⟨litGet (by kernel_rfl), ⟨litGet (by kernel_rfl), ⟨litGet (by kernel_rfl), ⟨litGet (by kernel_rfl), trivial⟩⟩⟩⟩ (fun X111 => ?_)
  refine wp_seq_k fun K112 hK112 => ?_
  refine plStart ?_
  refine lk (v := .bool false) rfl rfl rfl ?_
  refine lk (v := .bool false) rfl rfl rfl ?_
  refine plSkip (i := 2) rfl (wgN rfl rfl rfl (by decide) (by kernel_rfl)) ?_
  refine qP rfl ?_
  refine lk (v := .bool false) rfl rfl rfl ?_
  refine lk (v := .bool false) rfl rfl rfl ?_
  refine plSkip (i := 5) rfl (wgN rfl rfl rfl (by decide) (by kernel_rfl)) ?_
  refine qP rfl ?_
  refine lk (v := .bool false) rfl rfl rfl ?_
  refine lk (v := .bool false) rfl rfl rfl ?_
  refine plD ?_
  refine then_normal (hK112 _ _ ?_)
  refine wp_ret ?_
  refine bodyPost_ret (v := .bool false) (gRes1 rfl (gResTmp (t := 4) (v := .bool false) (litGet (by kernel_rfl)))) rfl ?_
  exact ⟨congrArg (fun b_ => Ending.returned (.bool b_)) (decide_eq_false (by unfold Bx.has; omega)).symm, hm6.bel⟩
set_option maxRecDepth 100000 in
set_option maxHeartbeats 4000000 in
theorem empty_any (b : Bx) (w : World) : Calls Try.prog 55 #[.agg (bxs b).toArray] w (RetV w (.bool (decide b.none))) := by
  have hm0 := Mem.nil w
  go_enter Try.func55, Try.ntmps55
  refine litStart 28 [(0, .agg (bxs b).toArray)] (by kernel_rfl) (fun X0 => ?_)
  refine wp_seq_k fun K1 hK1 => ?_
  refine plStart ?_
  refine plBox hm0 (cs := bxs b) (i := 0) rfl (wn rfl) rfl (litEv (by kernel_rfl)) ?_
  intro g2 w4 hm3
  clear hm0
  try simp only [List.cons_append, List.nil_append, List.set_cons_succ, List.set_cons_zero] at hm3
  refine qP rfl ?_
  refine lk (v := .bool false) rfl rfl rfl ?_
  refine plD ?_
  refine then_normal (hK1 _ _ ?_)
  refine wp_seq_k fun K5 hK5 => ?_
  refine plStart ?_
  refine lk (v := .pointer (some ⟨g2, 0, none⟩)) rfl rfl rfl ?_
  refine lk (v := .pointer (some ⟨g2, 0, none⟩)) rfl rfl rfl ?_
  refine litVal (v := .int .i64 b.mn.x) rfl (wn rfl) (gLoad (v := .int .i64 b.mn.x) (k := 0) 0 hm3 rfl (by kernel_rfl) (.tmp 4) (by kernel_rfl) rfl (litEv (by kernel_rfl))) rfl (by decide) ?_
  refine lk (v := .pointer (some ⟨g2, 3, none⟩)) rfl rfl rfl ?_
  refine lk (v := .pointer (some ⟨g2, 3, none⟩)) rfl rfl rfl ?_
  refine litVal (v := .int .i64 b.mx.x) rfl (wn rfl) (gLoad (v := .int .i64 b.mx.x) (k := 3) 0 hm3 rfl (by kernel_rfl) (.tmp 7) (by kernel_rfl) rfl (litEv (by kernel_rfl))) rfl (by decide) ?_
  by_cases h6 : b.mx.x ≤ b.mn.x
  · refine litVal (v := .bool true) rfl (wn rfl) (boolTo (decide_eq_true h6) (gGeq (A := b.mn.x) (B := b.mx.x) (.tmp 5) (.tmp 8) rfl (litEv (by kernel_rfl)) (litEv (by kernel_rfl)))) rfl (by decide) ?_
    refine lk (v := .bool true) rfl rfl rfl ?_
    refine plSkip (i := 8) rfl (wgN rfl rfl rfl (by decide) (by kernel_rfl)) ?_
    refine qP rfl ?_
    refine plSkip (i := 9) rfl (wgN rfl rfl rfl (by decide) (by kernel_rfl)) ?_
    refine qP rfl ?_
    refine plSkip (i := 10) rfl (wgN rfl rfl rfl (by decide) (by kernel_rfl)) ?_
    refine qP rfl ?_
    refine plSkip (i := 11) rfl (wgN rfl rfl rfl (by decide) (by kernel_rfl)) ?_
    refine qP rfl ?_
    refine plSkip (i := 12) rfl (wgN rfl rfl rfl (by decide) (by kernel_rfl)) ?_
    refine qP rfl ?_
    refine plSkip (i := 13) rfl (wgN rfl rfl rfl (by decide) (by kernel_rfl)) ?_
    refine qP rfl ?_
    refine plSkip (i := 14) rfl (wgN rfl rfl rfl (by decide) (by kernel_rfl)) ?_
    refine qP rfl ?_
    refine lk (v := .bool true) rfl rfl rfl ?_
    refine lk (v := .bool true) rfl rfl rfl ?_
    refine plSkip (i := 17) rfl (wgN rfl rfl rfl (by decide) (by kernel_rfl)) ?_
    refine qP rfl ?_
    refine plSkip (i := 18) rfl (wgN rfl rfl rfl (by decide) (by kernel_rfl)) ?_
    refine qP rfl ?_
    refine plSkip (i := 19) rfl (wgN rfl rfl rfl (by decide) (by kernel_rfl)) ?_
    refine qP rfl ?_
    refine plSkip (i := 20) rfl (wgN rfl rfl rfl (by decide) (by kernel_rfl)) ?_
    refine qP rfl ?_
    refine plSkip (i := 21) rfl (wgN rfl rfl rfl (by decide) (by kernel_rfl)) ?_
    refine qP rfl ?_
    refine plSkip (i := 22) rfl (wgN rfl rfl rfl (by decide) (by kernel_rfl)) ?_
    refine qP rfl ?_
    refine plSkip (i := 23) rfl (wgN rfl rfl rfl (by decide) (by kernel_rfl)) ?_
    refine qP rfl ?_
    refine lk (v := .bool true) rfl rfl rfl ?_
    refine lk (v := .bool true) rfl rfl rfl ?_
    refine plD ?_
    refine then_normal (hK5 _ _ ?_)
    refine wpPrune [(2, .bool true)] ⟨litGet (by kernel_rfl), trivial⟩ (fun X7 => ?_)
    refine wp_ret ?_
    refine bodyPost_ret (v := .bool true) (gRes1 rfl (gResTmp (t := 2) (v := .bool true) (litGet (by kernel_rfl)))) rfl ?_
    exact ⟨congrArg (fun b_ => Ending.returned (.bool b_)) (decide_eq_true (by unfold Bx.none; omega)).symm, hm3.bel⟩
  refine litVal (v := .bool false) rfl (wn rfl) (boolTo (decide_eq_false h6) (gGeq (A := b.mn.x) (B := b.mx.x) (.tmp 5) (.tmp 8) rfl (litEv (by kernel_rfl)) (litEv (by kernel_rfl)))) rfl (by decide) ?_
  refine lk (v := .bool false) rfl rfl rfl ?_
  refine litVal (v := .pointer (some ⟨g2, 0, none⟩)) rfl (wgY rfl rfl rfl (by decide) (by kernel_rfl)) (litRun (by kernel_rfl)) rfl (by decide) ?_
  refine litVal (v := .pointer (some ⟨g2, 1, none⟩)) rfl (wgY rfl rfl rfl (by decide) (by kernel_rfl)) (litRun (by kernel_rfl)) rfl (by decide) ?_
  refine litVal (v := .int .i64 b.mn.y) rfl (wgY rfl rfl rfl (by decide) (by kernel_rfl)) (gLoad (v := .int .i64 b.mn.y) (k := 1) 0 hm3 rfl (by kernel_rfl) (.tmp 12) (by kernel_rfl) rfl (litEv (by kernel_rfl))) rfl (by decide) ?_
  refine litVal (v := .pointer (some ⟨g2, 3, none⟩)) rfl (wgY rfl rfl rfl (by decide) (by kernel_rfl)) (litRun (by kernel_rfl)) rfl (by decide) ?_
  refine litVal (v := .pointer (some ⟨g2, 4, none⟩)) rfl (wgY rfl rfl rfl (by decide) (by kernel_rfl)) (litRun (by kernel_rfl)) rfl (by decide) ?_
  refine litVal (v := .int .i64 b.mx.y) rfl (wgY rfl rfl rfl (by decide) (by kernel_rfl)) (gLoad (v := .int .i64 b.mx.y) (k := 4) 0 hm3 rfl (by kernel_rfl) (.tmp 15) (by kernel_rfl) rfl (litEv (by kernel_rfl))) rfl (by decide) ?_
  by_cases h8 : b.mx.y ≤ b.mn.y
  · refine litVal (v := .bool true) rfl (wgY rfl rfl rfl (by decide) (by kernel_rfl)) (boolTo (decide_eq_true h8) (gGeq (A := b.mn.y) (B := b.mx.y) (.tmp 13) (.tmp 16) rfl (litEv (by kernel_rfl)) (litEv (by kernel_rfl)))) rfl (by decide) ?_
    refine lk (v := .bool true) rfl rfl rfl ?_
    refine lk (v := .bool true) rfl rfl rfl ?_
    refine plSkip (i := 17) rfl (wgN rfl rfl rfl (by decide) (by kernel_rfl)) ?_
    refine qP rfl ?_
    refine plSkip (i := 18) rfl (wgN rfl rfl rfl (by decide) (by kernel_rfl)) ?_
    refine qP rfl ?_
    refine plSkip (i := 19) rfl (wgN rfl rfl rfl (by decide) (by kernel_rfl)) ?_
    refine qP rfl ?_
    refine plSkip (i := 20) rfl (wgN rfl rfl rfl (by decide) (by kernel_rfl)) ?_
    refine qP rfl ?_
    refine plSkip (i := 21) rfl (wgN rfl rfl rfl (by decide) (by kernel_rfl)) ?_
    refine qP rfl ?_
    refine plSkip (i := 22) rfl (wgN rfl rfl rfl (by decide) (by kernel_rfl)) ?_
    refine qP rfl ?_
    refine plSkip (i := 23) rfl (wgN rfl rfl rfl (by decide) (by kernel_rfl)) ?_
    refine qP rfl ?_
    refine lk (v := .bool true) rfl rfl rfl ?_
    refine lk (v := .bool true) rfl rfl rfl ?_
    refine plD ?_
    refine then_normal (hK5 _ _ ?_)
    refine wpPrune [(2, .bool true)] ⟨litGet (by kernel_rfl), trivial⟩ (fun X9 => ?_)
    refine wp_ret ?_
    refine bodyPost_ret (v := .bool true) (gRes1 rfl (gResTmp (t := 2) (v := .bool true) (litGet (by kernel_rfl)))) rfl ?_
    exact ⟨congrArg (fun b_ => Ending.returned (.bool b_)) (decide_eq_true (by unfold Bx.none; omega)).symm, hm3.bel⟩
  refine litVal (v := .bool false) rfl (wgY rfl rfl rfl (by decide) (by kernel_rfl)) (boolTo (decide_eq_false h8) (gGeq (A := b.mn.y) (B := b.mx.y) (.tmp 13) (.tmp 16) rfl (litEv (by kernel_rfl)) (litEv (by kernel_rfl)))) rfl (by decide) ?_
  refine lk (v := .bool false) rfl rfl rfl ?_
  refine lk (v := .bool false) rfl rfl rfl ?_
  refine litVal (v := .pointer (some ⟨g2, 0, none⟩)) rfl (wgY rfl rfl rfl (by decide) (by kernel_rfl)) (litRun (by kernel_rfl)) rfl (by decide) ?_
  refine litVal (v := .pointer (some ⟨g2, 2, none⟩)) rfl (wgY rfl rfl rfl (by decide) (by kernel_rfl)) (litRun (by kernel_rfl)) rfl (by decide) ?_
  refine litVal (v := .int .i64 b.mn.z) rfl (wgY rfl rfl rfl (by decide) (by kernel_rfl)) (gLoad (v := .int .i64 b.mn.z) (k := 2) 0 hm3 rfl (by kernel_rfl) (.tmp 21) (by kernel_rfl) rfl (litEv (by kernel_rfl))) rfl (by decide) ?_
  refine litVal (v := .pointer (some ⟨g2, 3, none⟩)) rfl (wgY rfl rfl rfl (by decide) (by kernel_rfl)) (litRun (by kernel_rfl)) rfl (by decide) ?_
  refine litVal (v := .pointer (some ⟨g2, 5, none⟩)) rfl (wgY rfl rfl rfl (by decide) (by kernel_rfl)) (litRun (by kernel_rfl)) rfl (by decide) ?_
  refine litVal (v := .int .i64 b.mx.z) rfl (wgY rfl rfl rfl (by decide) (by kernel_rfl)) (gLoad (v := .int .i64 b.mx.z) (k := 5) 0 hm3 rfl (by kernel_rfl) (.tmp 24) (by kernel_rfl) rfl (litEv (by kernel_rfl))) rfl (by decide) ?_
  by_cases h10 : b.mx.z ≤ b.mn.z
  · refine litVal (v := .bool true) rfl (wgY rfl rfl rfl (by decide) (by kernel_rfl)) (boolTo (decide_eq_true h10) (gGeq (A := b.mn.z) (B := b.mx.z) (.tmp 22) (.tmp 25) rfl (litEv (by kernel_rfl)) (litEv (by kernel_rfl)))) rfl (by decide) ?_
    refine lk (v := .bool true) rfl rfl rfl ?_
    refine lk (v := .bool true) rfl rfl rfl ?_
    refine plD ?_
    refine then_normal (hK5 _ _ ?_)
    refine wpPrune [(2, .bool true)] ⟨litGet (by kernel_rfl), trivial⟩ (fun X11 => ?_)
    refine wp_ret ?_
    refine bodyPost_ret (v := .bool true) (gRes1 rfl (gResTmp (t := 2) (v := .bool true) (litGet (by kernel_rfl)))) rfl ?_
    exact ⟨congrArg (fun b_ => Ending.returned (.bool b_)) (decide_eq_true (by unfold Bx.none; omega)).symm, hm3.bel⟩
  refine litVal (v := .bool false) rfl (wgY rfl rfl rfl (by decide) (by kernel_rfl)) (boolTo (decide_eq_false h10) (gGeq (A := b.mn.z) (B := b.mx.z) (.tmp 22) (.tmp 25) rfl (litEv (by kernel_rfl)) (litEv (by kernel_rfl)))) rfl (by decide) ?_
  refine lk (v := .bool false) rfl rfl rfl ?_
  refine lk (v := .bool false) rfl rfl rfl ?_
  refine plD ?_
  refine then_normal (hK5 _ _ ?_)
  refine wpPrune [(2, .bool false)] ⟨litGet (by kernel_rfl), trivial⟩ (fun X12 => ?_)
  refine wp_ret ?_
  refine bodyPost_ret (v := .bool false) (gRes1 rfl (gResTmp (t := 2) (v := .bool false) (litGet (by kernel_rfl)))) rfl ?_
  exact ⟨congrArg (fun b_ => Ending.returned (.bool b_)) (decide_eq_false (by unfold Bx.none; omega)).symm, hm3.bel⟩
end Go.Proofs.Ytopdcdjmiepdfaa
