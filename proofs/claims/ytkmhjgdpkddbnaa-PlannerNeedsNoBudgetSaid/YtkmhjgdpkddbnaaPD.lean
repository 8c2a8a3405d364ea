/-
  PD: several texts in one. No statement is proved here.
-/
import Derived.Test.YtkmhjgdpkddbnaaPB
import Derived.Test.YtkmhjgdpkddbnaaPC
set_option linter.unusedVariables false
set_option linter.unusedSimpArgs false
namespace Go.Proofs.Ytkmhjgdpkddbnaa
open Go.RowKit
open Go.Maps (Keyed)
def bxs (b : Bx) : List Value := pcs b.mn ++ pcs b.mx
def tlc (t : Tl) : List Value := .int .i64 t.lv :: pcs t.p
def vwc (v : Vw) : List Value := pcs v.p ++ [.int .i64 v.sc, .int .i64 v.tol, .int .i64 v.bud]
def tlsC (l : List Tl) : List Value := l.flatMap tlc
/-- Costs of tiles. -/
structure Cst where
  kind : Int
  base : Int
  spread : Int
  seed : Int
def RetV (w : World) (v : Value) (e : Ending) (w' : World) : Prop := e = .returned v ∧ Below w.heap.size w w'
theorem callsTo {P : Program} {f : FuncId} {args : Array Value} {w : World} {v v' : Value} (h : v = v') (hc : Calls P f args w (RetV w v)) : Calls P f args w (RetV w v') := h ▸ hc
theorem pcs_inj {p q : Pt} : pcs p = pcs q ↔ p = q := by
  cases p; cases q
  simp [pcs]
theorem tlc_inj {t u : Tl} : tlc t = tlc u ↔ t = u := by
  cases t; cases u
  simp [tlc, pcs_inj]
theorem tlc_val {t u : Tl} (h : Value.agg (tlc t).toArray = Value.agg (tlc u).toArray) : t = u := by
  injection h with h
  have := congrArg Array.toList h
  exact tlc_inj.1 (by simpa using this)
theorem tlsC_len (l : List Tl) : (tlsC l).length = l.length * 4 := by
  induction l with
  | nil => rfl
  | cons p l ih =>
    show (tlc p ++ tlsC l).length = _
    rw [List.length_append, ih, List.length_cons, Nat.add_mul, Nat.add_comm]; rfl
theorem tlsC_cons (p : Tl) (l : List Tl) : tlsC (p :: l) = tlc p ++ tlsC l := rfl
theorem tlsC_app (l m : List Tl) : tlsC (l ++ m) = tlsC l ++ tlsC m := List.flatMap_append
theorem tlsC_get {p : Tl} : ∀ {l : List Tl} {k : Nat}, l[k]? = some p → ∀ (i : Nat) (u : Value), (tlc p)[i]? = some u → (tlsC l)[k * 4 + i]? = some u
  | [], k, h, _, _, _ => by simp at h
  | q :: l, 0, h, i, u, hu => by
    simp at h; subst h
    have hi : i < 4 := (List.getElem?_eq_some_iff.1 hu).1
    rw [tlsC_cons, List.getElem?_append_left (by show _ < 4; omega), Nat.zero_mul, Nat.zero_add]
    exact hu
  | q :: l, k + 1, h, i, u, hu => by
    rw [tlsC_cons, List.getElem?_append_right (by show 4 ≤ _; omega)]
    have e : (k + 1) * 4 + i - (tlc q).length = k * 4 + i := by show (k + 1) * 4 + i - 4 = _; omega
    rw [e]
    exact tlsC_get (l := l) (by simpa using h) i u hu
theorem tlsC_one (l : List Tl) : ∀ u ∈ tlsC l, u.oneCell' = true := by
  intro u hu
  obtain ⟨p, _, hp⟩ := List.mem_flatMap.1 hu
  unfold tlc pcs at hp
  simp only [List.mem_cons, List.not_mem_nil, or_false] at hp
  rcases hp with rfl | rfl | rfl | rfl <;> rfl
theorem tlsC_snoc (l : List Tl) (p : Tl) : tlsC l ++ tlc p = tlsC (l ++ [p]) := by rw [tlsC_app]; simp [tlsC]
theorem tlsC_tk (l : List Tl) (k : Nat) : (tlsC l).take (k * 4) = tlsC (l.take k) := by
  have h : tlsC l = tlsC (l.take k) ++ tlsC (l.drop k) := by rw [← tlsC_app, List.take_append_drop]
  by_cases hk : k ≤ l.length
  · rw [h, List.take_left' (by rw [tlsC_len, List.length_take, Nat.min_eq_left hk])]
  · rw [List.take_of_length_le (by rw [tlsC_len]; omega), List.take_of_length_le (by omega)]
theorem tlsC_dp (l : List Tl) (k : Nat) : (tlsC l).drop (k * 4) = tlsC (l.drop k) := by
  have h : tlsC l = tlsC (l.take k) ++ tlsC (l.drop k) := by rw [← tlsC_app, List.take_append_drop]
  by_cases hk : k ≤ l.length
  · rw [h, List.drop_left' (by rw [tlsC_len, List.length_take, Nat.min_eq_left hk])]
  · rw [List.drop_of_length_le (by rw [tlsC_len]; omega), List.drop_of_length_le (by omega)]; rfl
section
variable {P : Program} {w : World} {o : Oper} {a : Act} {t ty : TypeId}
theorem neqTlRun (x y : Operand) (p q : Tl) (hf : flatInts P 3 t = true) (hu : ((P.underlying t).map fun d => match d with | .struct _ => true | _ => false) = some true) (hg : P.eqGuardType P.depth t = false) (hl : 4 = P.cellsOf t)
    (ho : o.op = .binOp .neq t x y ty) (hx : a.eval x = .agg (tlc p).toArray) (hy : a.eval y = .agg (tlc q).toArray) : (execOp a.eval o).run P w = .ok (.value (.bool !decide (p = q))) w := by
  exact neqAgRun 2 x y (tlc p) (tlc q) (decide (p = q)) (by rw [decide_eq_true_iff, tlc_inj]) hf rfl hu hg hl rfl ho hx hy
/-- A product that fits. -/
theorem mulRun' {A B C : Int} (x y : Operand) (ho : o.op = .binOp .mul t x y ty) (hx : a.eval x = .int .i64 A) (hy : a.eval y = .int .i64 B) (hC : A * B = C) (h : -9223372036854775808 ≤ C ∧ C ≤ 9223372036854775807) : (execOp a.eval o).run P w = .ok (.value (.int .i64 C)) w := by
  have hw := IntWalk.i64_in C h
  subst hC
  unfold execOp
  simp [ho, hx, hy, eqGuard, binOp_mul, Op.intArith, hw]
theorem gShl {A N C : Int} (x y : Operand) (ho : o.op = .binOp .shl t x y ty) (hx : a.eval x = .int .i64 A) (hy : a.eval y = .int .i64 N) (hC : A * 2 ^ N.toNat = C) (hA : 0 ≤ A) (hN : 0 ≤ N ∧ N ≤ 62) (h : C ≤ 9223372036854775807) : (execOp a.eval o).run P w = .ok (.value (.int .i64 C)) w := by
  obtain ⟨m, rfl⟩ : ∃ m : Nat, A = m := ⟨A.toNat, by omega⟩
  obtain ⟨n, rfl⟩ : ∃ n : Nat, N = n := ⟨N.toNat, by omega⟩
  rw [Int.toNat_natCast] at hC
  have e : ((m * 2 ^ n : Nat) : Int) = C := by rw [← hC]; simp
  have hr := shlNat (P := P) (w := w) (a := a) (o := o) (m := m) (n := n) x y ho hx hy (by omega) (by omega)
  rw [e] at hr
  exact hr
theorem gQuo {A B C : Int} (x y : Operand) (ho : o.op = .binOp .quo t x y ty) (hx : a.eval x = .int .i64 A) (hy : a.eval y = .int .i64 B) (hC : A / B = C) (hB : 1 ≤ B) (hA : 0 ≤ A ∧ A ≤ 9223372036854775807) : (execOp a.eval o).run P w = .ok (.value (.int .i64 C)) w := by
  have h0 : ¬ B = 0 := by omega
  have h1 : A.tdiv B = A / B := Int.tdiv_eq_ediv_of_nonneg hA.1
  have h2 : A / B ≤ A := Int.ediv_le_self _ hA.1
  have h3 : 0 ≤ A / B := Int.ediv_nonneg hA.1 (by omega)
  have hw := IntWalk.i64_in (A / B) (by omega)
  subst hC
  unfold execOp
  simp only [ho, hx, hy]
  simp [eqGuard, binOp_quo, Op.intDiv, h1, h0, hw]
theorem max2_run (A B : Int) : Builtin.max2 (.int .i64 A) (.int .i64 B) = pure (.int .i64 (max A B)) := by
  unfold Builtin.max2
  by_cases h : B > A
  · simp only [h, if_true]; rw [Int.max_eq_right (by omega)]
  · simp only [h, if_false]; rw [Int.max_eq_left (by omega)]
theorem gMax3 {A B C : Int} (x y z : Operand) (ho : o.op = .call { callee := .builtin .max, args := #[x, y, z], argTypes := #[t, t, t] }) (hx : a.eval x = .int .i64 A) (hy : a.eval y = .int .i64 B) (hz : a.eval z = .int .i64 C) : (execOp a.eval o).run P w = .ok (.value (.int .i64 (max (max A B) C))) w := by
  unfold execOp
  simp [ho, hx, hy, hz, resolve, invoke, builtin, Builtin.max_, max2_run]
theorem gMax7 {A1 A2 A3 A4 A5 A6 A7 : Int} (x1 x2 x3 x4 x5 x6 x7 : Operand) (ho : o.op = .call { callee := .builtin .max, args := #[x1, x2, x3, x4, x5, x6, x7], argTypes := #[t, t, t, t, t, t, t] })
    (h1 : a.eval x1 = .int .i64 A1) (h2 : a.eval x2 = .int .i64 A2) (h3 : a.eval x3 = .int .i64 A3) (h4 : a.eval x4 = .int .i64 A4) (h5 : a.eval x5 = .int .i64 A5) (h6 : a.eval x6 = .int .i64 A6) (h7 : a.eval x7 = .int .i64 A7) : (execOp a.eval o).run P w = .ok (.value (.int .i64 (max (max (max (max (max (max A1 A2) A3) A4) A5) A6) A7))) w := by
  unfold execOp
  simp [ho, h1, h2, h3, h4, h5, h6, h7, resolve, invoke, builtin, Builtin.max_, max2_run]
end
def I64 (n : Int) : Prop := -9223372036854775808 ≤ n ∧ n ≤ 9223372036854775807
structure Tl.Fit64 (t : Tl) : Prop where
  lv : I64 t.lv
  x : I64 t.p.x
  y : I64 t.p.y
  z : I64 t.p.z
theorem Tl.Ok.fit64 {t : Tl} (h : t.Ok) : t.Fit64 := by
  have hl := h.lv
  have hi := h.inP
  unfold Pt.In at hi
  constructor <;> unfold I64 <;> omega
section
variable {P : Program} {t : TypeId} {d : Nat}
theorem wf64 {n : Int} (h : I64 n) : (Lit.int .i64 n).wf = true := by
  unfold I64 at h
  simp [Lit.wf, IntKind.min, IntKind.max, IntKind.signed, IntKind.bits]
  omega
theorem keyLits_int (hu : P.underlying t = some (.int .i64)) {n : Int} (h : I64 n) : P.keyLits (d + 1) t [.int .i64 n] = some [.int .i64 n] := by
  unfold Program.keyLits
  simp only [hu]
  rw [if_pos ⟨trivial, wf64 h⟩]
theorem keyLits_struct {cs : List Value} {l : List (TypeId × Nat × Nat)} (hl : ((P.underlying t).map fun d => match d with | .struct fs => some (fs.toList.map fun f => (f.type, f.offset, P.cellsOf f.type), fs.all (·.name != "_")) | _ => none) = some (some (l, true))) (hc : cs.length = P.cellsOf t) :
    P.keyLits (d + 1) t cs = (l.mapM fun f => P.keyLits d f.1 ((cs.drop f.2.1).take f.2.2)).map List.flatten := by
  cases hu : P.underlying t with
  | none => rw [hu] at hl; cases hl
  | some ds =>
    rw [hu] at hl
    cases ds with
    | struct fs =>
      simp only [Option.map_some, Option.some.injEq, Prod.mk.injEq] at hl
      obtain ⟨rfl, hn⟩ := hl
      have e : P.keyLits (d + 1) t cs = if cs.length = P.cellsOf t ∧ fs.all (·.name != "_") = true then (fs.toList.mapM fun f => P.keyLits d f.type ((cs.drop f.offset).take (P.cellsOf f.type))).map List.flatten else none := by
        conv => lhs; unfold Program.keyLits
        simp only [hu]
      rw [e, if_pos ⟨hc, hn⟩, List.mapM_map]
      rfl
    | _ => cases hl
end
theorem Try.lits_pt {p : Pt} {d : Nat} (hx : I64 p.x) (hy : I64 p.y) (hz : I64 p.z) : Try.prog.keyLits (d + 2) 23 (pcs p) = some [.int .i64 p.x, .int .i64 p.y, .int .i64 p.z] := by
  rw [keyLits_struct (d := d + 1) (l := [(3, 0, 1), (3, 1, 1), (3, 2, 1)]) (by kernel_rfl) (by kernel_rfl)]
  have hu : Try.prog.underlying 3 = some (.int .i64) := by kernel_rfl
  simp [pcs, keyLits_int hu hx, keyLits_int hu hy, keyLits_int hu hz]
theorem Try.lits_tl {t : Tl} {d : Nat} (h : t.Fit64) : Try.prog.keyLits (d + 3) 38 (tlc t) = some [.int .i64 t.lv, .int .i64 t.p.x, .int .i64 t.p.y, .int .i64 t.p.z] := by
  rw [keyLits_struct (d := d + 2) (l := [(3, 0, 1), (23, 1, 3)]) (by kernel_rfl) (by kernel_rfl)]
  have hu : Try.prog.underlying 3 = some (.int .i64) := by kernel_rfl
  have h2 := Try.lits_pt (d := d) h.x h.y h.z
  unfold pcs at h2
  simp [tlc, pcs, keyLits_int hu h.lv, h2]
theorem Try.key_tl {t : Tl} (h : t.Fit64) : (keyOf Try.prog 38 (.agg (tlc t).toArray)).isSome = true := by
  obtain ⟨fs, hu⟩ : ∃ fs, Try.prog.underlying 38 = some (.struct fs) := by
    have h1 : ((Try.prog.underlying 38).map fun d => match d with | .struct _ => true | _ => false) = some true := by kernel_rfl
    cases hd : Try.prog.underlying 38 with
    | none => rw [hd] at h1; cases h1
    | some ds =>
      rw [hd] at h1
      cases ds with
      | struct fs => exact ⟨fs, rfl⟩
      | _ => cases h1
  have hk : Try.prog.keyType 38 = true := by kernel_rfl
  have hc : Try.prog.cellsOf 38 = 4 := by kernel_rfl
  obtain ⟨m, hm⟩ : ∃ m, Try.prog.types.size + 1 = m + 3 := by
    have h2 : decide (2 ≤ Try.prog.types.size) = true := by kernel_rfl
    have := of_decide_eq_true h2
    exact ⟨Try.prog.types.size - 2, by omega⟩
  have hlit := Try.lits_tl (d := m) h
  unfold keyOf
  simp only [hu]
  rw [if_pos (by simp [hk, Value.formed, hu, hc, tlc, pcs]), hm]
  show ((Try.prog.keyLits (m + 3) 38 (tlc t)).map _).isSome = true
  rw [hlit]; rfl
theorem Try.law_tl : Keyed Try.prog 38 := Keyed.of_law (deep_law_laid (by kernel_rfl) (m := 4) (by omega) (of_decide_eq_true (by kernel_rfl)) (by kernel_rfl) (by kernel_rfl))
theorem Try.map_bool : Try.prog.underlying 65 = some (.map 38 4) := by kernel_rfl
theorem Try.map_int : Try.prog.underlying 76 = some (.map 38 3) := by kernel_rfl
theorem rde_int {n : Int} (h : I64 n) : (RdE Try.prog 3 (.int .i64 n)).isSome = true := by
  rw [show RdE Try.prog 3 (.int .i64 n) = _ from plainElem_int (by kernel_rfl) (wf64 h)]; rfl
theorem rde_bool (b : Bool) : (RdE Try.prog 4 (.bool b)).isSome = true := by
  rw [show RdE Try.prog 4 (.bool b) = _ from plainElem_bool (by kernel_rfl) b]; rfl
end Go.Proofs.Ytkmhjgdpkddbnaa
namespace Go.Proofs.Ytkmhjgdpkddbnaa
open Go.RowKit
set_option linter.unusedVariables false
set_option linter.unusedSimpArgs false
set_option maxRecDepth 100000 in
set_option maxHeartbeats 4000000 in
theorem within_any (n lo hi : Int) (w : World) : Calls Try.prog 32 #[.int .i64 n, .int .i64 lo, .int .i64 hi] w (RetV w (.bool (decide (lo ≤ n ∧ n ≤ hi)))) := by
 have hm0 := Mem.nil w
 go_enter Try.func32, Try.ntmps32
 refine litStart 15 [(0, .int .i64 n), (1, .int .i64 lo), (2, .int .i64 hi)] (by kernel_rfl) (fun X0 => ?_)
 refine wp_seq_k fun K1 hK1 => ?_
 refine plStart ?_
 refine lk (v := .bool false) rfl rfl rfl ?_
 refine plD ?_
 refine then_normal (hK1 _ _ ?_)
 refine wp_seq_k fun K2 hK2 => ?_
 refine plStart ?_
 refine lk (v := .int .i64 n) rfl rfl rfl ?_
 refine lk (v := .int .i64 lo) rfl rfl rfl ?_
 by_cases h3 : lo ≤ n
 · refine litVal (v := .bool true) rfl (wn rfl) (boolTo (decide_eq_true h3) (gGeq (A := n) (B := lo) (.tmp 7) (.tmp 8) rfl (litEv (by kernel_rfl)) (litEv (by kernel_rfl)))) rfl (by decide) ?_
   refine lk (v := .bool true) rfl rfl rfl ?_
   refine litVal (v := .int .i64 n) rfl (wgY rfl rfl rfl (by decide) (by kernel_rfl)) (litRun (by kernel_rfl)) rfl (by decide) ?_
   refine litVal (v := .int .i64 hi) rfl (wgY rfl rfl rfl (by decide) (by kernel_rfl)) (litRun (by kernel_rfl)) rfl (by decide) ?_
   by_cases h4 : n ≤ hi
   · refine litVal (v := .bool true) rfl (wgY rfl rfl rfl (by decide) (by kernel_rfl)) (boolTo (decide_eq_true h4) (leqRun (A := n) (B := hi) (.tmp 11) (.tmp 12) rfl (litEv (by kernel_rfl)) (litEv (by kernel_rfl)))) rfl (by decide) ?_
     refine lk (v := .bool true) rfl rfl rfl ?_
     refine lk (v := .bool true) rfl rfl rfl ?_
     refine plD ?_
     refine then_normal (hK2 _ _ ?_)
     refine wp_ret ?_
     refine bodyPost_ret (v := .bool true) (gRes1 rfl (gResTmp (t := 6) (v := .bool true) (litGet (by kernel_rfl)))) rfl ?_
     exact ⟨congrArg (fun b_ => Ending.returned (.bool b_)) (decide_eq_true (by omega)).symm, hm0.bel⟩
   refine litVal (v := .bool false) rfl (wgY rfl rfl rfl (by decide) (by kernel_rfl)) (boolTo (decide_eq_false h4) (leqRun (A := n) (B := hi) (.tmp 11) (.tmp 12) rfl (litEv (by kernel_rfl)) (litEv (by kernel_rfl)))) rfl (by decide) ?_
   refine lk (v := .bool false) rfl rfl rfl ?_
   refine lk (v := .bool false) rfl rfl rfl ?_
   refine plD ?_
   refine then_normal (hK2 _ _ ?_)
   refine wp_ret ?_
   refine bodyPost_ret (v := .bool false) (gRes1 rfl (gResTmp (t := 6) (v := .bool false) (litGet (by kernel_rfl)))) rfl ?_
   exact ⟨congrArg (fun b_ => Ending.returned (.bool b_)) (decide_eq_false (by omega)).symm, hm0.bel⟩
 refine litVal (v := .bool false) rfl (wn rfl) (boolTo (decide_eq_false h3) (gGeq (A := n) (B := lo) (.tmp 7) (.tmp 8) rfl (litEv (by kernel_rfl)) (litEv (by kernel_rfl)))) rfl (by decide) ?_
 refine lk (v := .bool false) rfl rfl rfl ?_
 refine plSkip (i := 4) rfl (wgN rfl rfl rfl (by decide) (by kernel_rfl)) ?_
 refine qP rfl ?_
 refine plSkip (i := 5) rfl (wgN rfl rfl rfl (by decide) (by kernel_rfl)) ?_
 refine qP rfl ?_
 refine plSkip (i := 6) rfl (wgN rfl rfl rfl (by decide) (by kernel_rfl)) ?_
 refine qP rfl ?_
 refine lk (v := .bool false) rfl rfl rfl ?_
 refine lk (v := .bool false) rfl rfl rfl ?_
 refine plD ?_
 refine then_normal (hK2 _ _ ?_)
 refine wp_ret ?_
 refine bodyPost_ret (v := .bool false) (gRes1 rfl (gResTmp (t := 6) (v := .bool false) (litGet (by kernel_rfl)))) rfl ?_
 exact ⟨congrArg (fun b_ => Ending.returned (.bool b_)) (decide_eq_false (by omega)).symm, hm0.bel⟩
set_option maxRecDepth 100000 in
set_option maxHeartbeats 4000000 in
theorem near7_any (n : Int) (w : World) : Calls Try.prog 50 #[.int .i64 n] w (RetV w (.bool (decide (-1048575 ≤ n ∧ n ≤ 1048575)))) := by
 have hm0 := Mem.nil w
 go_enter Try.func50, Try.ntmps50
 refine litStart 9 [(0, .int .i64 n)] (by kernel_rfl) (fun X0 => ?_)
 refine wp_seq_k fun K1 hK1 => ?_
 refine plStart ?_
 refine lk (v := .bool false) rfl rfl rfl ?_
 refine plD ?_
 refine then_normal (hK1 _ _ ?_)
 refine wp_seq_k fun K2 hK2 => ?_
 refine plStart ?_
 refine lk (v := .int .i64 n) rfl rfl rfl ?_
 by_cases h3 : (-1048575) ≤ n
 · refine litVal (v := .bool true) rfl (wn rfl) (boolTo (decide_eq_true h3) (gGeq (A := n) (B := (-1048575)) (.tmp 3) (.const (.int .i64 (-1048575))) rfl (litEv (by kernel_rfl)) (litEv (by kernel_rfl)))) rfl (by decide) ?_
   refine lk (v := .bool true) rfl rfl rfl ?_
   refine litVal (v := .int .i64 n) rfl (wgY rfl rfl rfl (by decide) (by kernel_rfl)) (litRun (by kernel_rfl)) rfl (by decide) ?_
   by_cases h4 : n ≤ 1048575
   · refine litVal (v := .bool true) rfl (wgY rfl rfl rfl (by decide) (by kernel_rfl)) (boolTo (decide_eq_true h4) (leqRun (A := n) (B := 1048575) (.tmp 6) (.const (.int .i64 1048575)) rfl (litEv (by kernel_rfl)) (litEv (by kernel_rfl)))) rfl (by decide) ?_
     refine lk (v := .bool true) rfl rfl rfl ?_
     refine lk (v := .bool true) rfl rfl rfl ?_
     refine plD ?_
     refine then_normal (hK2 _ _ ?_)
     refine wp_ret ?_
     refine bodyPost_ret (v := .bool true) (gRes1 rfl (gResTmp (t := 2) (v := .bool true) (litGet (by kernel_rfl)))) rfl ?_
     exact ⟨congrArg (fun b_ => Ending.returned (.bool b_)) (decide_eq_true (by omega)).symm, hm0.bel⟩
   refine litVal (v := .bool false) rfl (wgY rfl rfl rfl (by decide) (by kernel_rfl)) (boolTo (decide_eq_false h4) (leqRun (A := n) (B := 1048575) (.tmp 6) (.const (.int .i64 1048575)) rfl (litEv (by kernel_rfl)) (litEv (by kernel_rfl)))) rfl (by decide) ?_
   refine lk (v := .bool false) rfl rfl rfl ?_
   refine lk (v := .bool false) rfl rfl rfl ?_
   refine plD ?_
   refine then_normal (hK2 _ _ ?_)
   refine wp_ret ?_
   refine bodyPost_ret (v := .bool false) (gRes1 rfl (gResTmp (t := 2) (v := .bool false) (litGet (by kernel_rfl)))) rfl ?_
   exact ⟨congrArg (fun b_ => Ending.returned (.bool b_)) (decide_eq_false (by omega)).symm, hm0.bel⟩
 refine litVal (v := .bool false) rfl (wn rfl) (boolTo (decide_eq_false h3) (gGeq (A := n) (B := (-1048575)) (.tmp 3) (.const (.int .i64 (-1048575))) rfl (litEv (by kernel_rfl)) (litEv (by kernel_rfl)))) rfl (by decide) ?_
 refine lk (v := .bool false) rfl rfl rfl ?_
 refine plSkip (i := 3) rfl (wgN rfl rfl rfl (by decide) (by kernel_rfl)) ?_
 refine qP rfl ?_
 refine plSkip (i := 4) rfl (wgN rfl rfl rfl (by decide) (by kernel_rfl)) ?_
 refine qP rfl ?_
 refine lk (v := .bool false) rfl rfl rfl ?_
 refine lk (v := .bool false) rfl rfl rfl ?_
 refine plD ?_
 refine then_normal (hK2 _ _ ?_)
 refine wp_ret ?_
 refine bodyPost_ret (v := .bool false) (gRes1 rfl (gResTmp (t := 2) (v := .bool false) (litGet (by kernel_rfl)))) rfl ?_
 exact ⟨congrArg (fun b_ => Ending.returned (.bool b_)) (decide_eq_false (by omega)).symm, hm0.bel⟩
set_option maxRecDepth 100000 in
set_option maxHeartbeats 4000000 in
theorem ranged_any (p : Pt) (w : World) : Calls Try.prog 33 #[.agg (pcs p).toArray] w (RetV w (.bool (decide p.rng))) := by
 have hm0 := Mem.nil w
 go_enter Try.func33, Try.ntmps33
 refine litStart 16 [(0, .agg (pcs p).toArray)] (by kernel_rfl) (fun X0 => ?_)
 refine wp_seq_k fun K1 hK1 => ?_
 refine plStart ?_
 refine plBox hm0 (cs := pcs p) (i := 0) rfl (wn rfl) rfl (litEv (by kernel_rfl)) ?_
 intro g2 w4 hm3
 clear hm0
 try simp only [List.cons_append, List.nil_append, List.set_cons_succ, List.set_cons_zero] at hm3
 refine qP rfl ?_
 refine lk (v := .bool false) rfl rfl rfl ?_
 refine plD ?_
 refine then_normal (hK1 _ _ ?_)
 refine wp_seq_k fun K5 hK5 => ?_
 refine plStart ?_
 refine lk (v := .pointer (some ⟨g2, 0, none⟩)) rfl rfl rfl ?_
 refine litVal (v := .int .i64 p.x) rfl (wn rfl) (gLoad (v := .int .i64 p.x) (k := 0) 0 hm3 rfl (by kernel_rfl) (.tmp 3) (by kernel_rfl) rfl (litEv (by kernel_rfl))) rfl (by decide) ?_
 refine plCall (i := 2) 50 [.int .i64 p.x] [] [] rfl (by kernel_rfl) (wn rfl) rfl (litEv (by kernel_rfl)) (litArgs (by kernel_rfl)) (near7_any p.x _) ?_
 rintro e w6 ⟨rfl, hbz⟩
 have hm7 := hm3.below hbz
 clear hbz hm3
 refine ⟨_, rfl, ?_⟩
 refine qP rfl ?_
 rcases bool_or (decide (-1048575 ≤ p.x ∧ p.x ≤ 1048575)) with h8 | h8
 · rw [h8]
   refine lk (v := .bool false) rfl rfl rfl ?_
   refine plSkip (i := 4) rfl (wgN rfl rfl rfl (by decide) (by kernel_rfl)) ?_
   refine qP rfl ?_
   refine plSkip (i := 5) rfl (wgN rfl rfl rfl (by decide) (by kernel_rfl)) ?_
   refine qP rfl ?_
   refine plSkip (i := 6) rfl (wgN rfl rfl rfl (by decide) (by kernel_rfl)) ?_
   refine qP rfl ?_
   refine lk (v := .bool false) rfl rfl rfl ?_
   refine lk (v := .bool false) rfl rfl rfl ?_
   refine plSkip (i := 9) rfl (wgN rfl rfl rfl (by decide) (by kernel_rfl)) ?_
   refine qP rfl ?_
   refine plSkip (i := 10) rfl (wgN rfl rfl rfl (by decide) (by kernel_rfl)) ?_
   refine qP rfl ?_
   refine plSkip (i := 11) rfl (wgN rfl rfl rfl (by decide) (by kernel_rfl)) ?_
   refine qP rfl ?_
   refine lk (v := .bool false) rfl rfl rfl ?_
   refine lk (v := .bool false) rfl rfl rfl ?_
   refine plD ?_
   refine then_normal (hK5 _ _ ?_)
   refine wpPrune [(2, .bool false)] ⟨litGet (by kernel_rfl), trivial⟩ (fun X9 => ?_)
   refine wp_ret ?_
   refine bodyPost_ret (v := .bool false) (gRes1 rfl (gResTmp (t := 2) (v := .bool false) (litGet (by kernel_rfl)))) rfl ?_
   exact ⟨congrArg (fun b_ => Ending.returned (.bool b_)) (decide_eq_false (by unfold Pt.rng; simp_all; try omega)).symm, hm7.bel⟩
 rw [h8]
 refine lk (v := .bool true) rfl rfl rfl ?_
 refine litVal (v := .pointer (some ⟨g2, 1, none⟩)) rfl (wgY rfl rfl rfl (by decide) (by kernel_rfl)) (litRun (by kernel_rfl)) rfl (by decide) ?_
 refine litVal (v := .int .i64 p.y) rfl (wgY rfl rfl rfl (by decide) (by kernel_rfl)) (gLoad (v := .int .i64 p.y) (k := 1) 0 hm7 rfl (by kernel_rfl) (.tmp 7) (by kernel_rfl) rfl (litEv (by kernel_rfl))) rfl (by decide) ?_
 refine plCall (i := 6) 50 [.int .i64 p.y] [] [] rfl (by kernel_rfl) (wgY rfl rfl rfl (by decide) (by kernel_rfl)) rfl (litEv (by kernel_rfl)) (litArgs (by kernel_rfl)) (near7_any p.y _) ?_
 rintro e w10 ⟨rfl, hbz⟩
 have hm11 := hm7.below hbz
 clear hbz hm7
 refine ⟨_, rfl, ?_⟩
 refine qP rfl ?_
 rcases bool_or (decide (-1048575 ≤ p.y ∧ p.y ≤ 1048575)) with h12 | h12
 · rw [h12]
   refine lk (v := .bool false) rfl rfl rfl ?_
   refine lk (v := .bool false) rfl rfl rfl ?_
   refine plSkip (i := 9) rfl (wgN rfl rfl rfl (by decide) (by kernel_rfl)) ?_
   refine qP rfl ?_
   refine plSkip (i := 10) rfl (wgN rfl rfl rfl (by decide) (by kernel_rfl)) ?_
   refine qP rfl ?_
   refine plSkip (i := 11) rfl (wgN rfl rfl rfl (by decide) (by kernel_rfl)) ?_
   refine qP rfl ?_
   refine lk (v := .bool false) rfl rfl rfl ?_
   refine lk (v := .bool false) rfl rfl rfl ?_
   refine plD ?_
   refine then_normal (hK5 _ _ ?_)
   refine wpPrune [(2, .bool false)] ⟨litGet (by kernel_rfl), trivial⟩ (fun X13 => ?_)
   refine wp_ret ?_
   refine bodyPost_ret (v := .bool false) (gRes1 rfl (gResTmp (t := 2) (v := .bool false) (litGet (by kernel_rfl)))) rfl ?_
   exact ⟨congrArg (fun b_ => Ending.returned (.bool b_)) (decide_eq_false (by unfold Pt.rng; simp_all; try omega)).symm, hm11.bel⟩
 rw [h12]
 refine lk (v := .bool true) rfl rfl rfl ?_
 refine lk (v := .bool true) rfl rfl rfl ?_
 refine litVal (v := .pointer (some ⟨g2, 2, none⟩)) rfl (wgY rfl rfl rfl (by decide) (by kernel_rfl)) (litRun (by kernel_rfl)) rfl (by decide) ?_
 refine litVal (v := .int .i64 p.z) rfl (wgY rfl rfl rfl (by decide) (by kernel_rfl)) (gLoad (v := .int .i64 p.z) (k := 2) 0 hm11 rfl (by kernel_rfl) (.tmp 12) (by kernel_rfl) rfl (litEv (by kernel_rfl))) rfl (by decide) ?_
 refine plCall (i := 11) 50 [.int .i64 p.z] [] [] rfl (by kernel_rfl) (wgY rfl rfl rfl (by decide) (by kernel_rfl)) rfl (litEv (by kernel_rfl)) (litArgs (by kernel_rfl)) (near7_any p.z _) ?_
 rintro e w14 ⟨rfl, hbz⟩
 have hm15 := hm11.below hbz
 clear hbz hm11
 refine ⟨_, rfl, ?_⟩
 refine qP rfl ?_
 rcases bool_or (decide (-1048575 ≤ p.z ∧ p.z ≤ 1048575)) with h16 | h16
 · rw [h16]
   refine lk (v := .bool false) rfl rfl rfl ?_
   refine lk (v := .bool false) rfl rfl rfl ?_
   refine plD ?_
   refine then_normal (hK5 _ _ ?_)
   refine wpPrune [(2, .bool false)] ⟨litGet (by kernel_rfl), trivial⟩ (fun X17 => ?_)
   refine wp_ret ?_
   refine bodyPost_ret (v := .bool false) (gRes1 rfl (gResTmp (t := 2) (v := .bool false) (litGet (by kernel_rfl)))) rfl ?_
   exact ⟨congrArg (fun b_ => Ending.returned (.bool b_)) (decide_eq_false (by unfold Pt.rng; simp_all; try omega)).symm, hm15.bel⟩
 rw [h16]
 refine lk (v := .bool true) rfl rfl rfl ?_
 refine lk (v := .bool true) rfl rfl rfl ?_
 refine plD ?_
 refine then_normal (hK5 _ _ ?_)
 refine wpPrune [(2, .bool true)] ⟨litGet (by kernel_rfl), trivial⟩ (fun X18 => ?_)
 refine wp_ret ?_
 refine bodyPost_ret (v := .bool true) (gRes1 rfl (gResTmp (t := 2) (v := .bool true) (litGet (by kernel_rfl)))) rfl ?_
 exact ⟨congrArg (fun b_ => Ending.returned (.bool b_)) (decide_eq_true (by unfold Pt.rng; simp_all; try omega)).symm, hm15.bel⟩
set_option maxRecDepth 100000 in
set_option maxHeartbeats 4000000 in
theorem radd_any (p q : Pt) (hp : (-1073741824 ≤ p.x ∧ p.x ≤ 1073741824) ∧ (-1073741824 ≤ p.y ∧ p.y ≤ 1073741824) ∧ (-1073741824 ≤ p.z ∧ p.z ≤ 1073741824)) (hq : (-1073741824 ≤ q.x ∧ q.x ≤ 1073741824) ∧ (-1073741824 ≤ q.y ∧ q.y ≤ 1073741824) ∧ (-1073741824 ≤ q.z ∧ q.z ≤ 1073741824)) (w : World) : Calls Try.prog 43 #[.agg (pcs p).toArray, .agg (pcs q).toArray] w (RetV w (.agg (pcs (p.add q)).toArray)) := by
 have hm0 := Mem.nil w
 go_enter Try.func43, Try.ntmps43
 refine litStart 21 [(0, .agg (pcs p).toArray), (1, .agg (pcs q).toArray)] (by kernel_rfl) (fun X0 => ?_)
 refine wp_seq_k fun K1 hK1 => ?_
 refine plStart ?_
 refine plBox hm0 (cs := pcs p) (i := 0) rfl (wn rfl) rfl (litEv (by kernel_rfl)) ?_
 intro g2 w4 hm3
 clear hm0
 try simp only [List.cons_append, List.nil_append, List.set_cons_succ, List.set_cons_zero] at hm3
 refine qP rfl ?_
 refine plBox hm3 (cs := pcs q) (i := 1) rfl (wn rfl) rfl (litEv (by kernel_rfl)) ?_
 intro g5 w7 hm6
 clear hm3
 try simp only [List.cons_append, List.nil_append, List.set_cons_succ, List.set_cons_zero] at hm6
 refine qP rfl ?_
 refine plAlloc (z := [.int .i64 0, .int .i64 0, .int .i64 0]) Ty.ag_voxel_api_Point hm6 (i := 2) rfl (wn rfl) rfl ?_
 intro g8 w10 hm9
 clear hm6
 try simp only [List.cons_append, List.nil_append, List.set_cons_succ, List.set_cons_zero] at hm9
 refine qP rfl ?_
 refine plD ?_
 refine then_normal (hK1 _ _ ?_)
 refine wp_seq_k fun K11 hK11 => ?_
 refine plStart ?_
 refine lk (v := .pointer (some ⟨g2, 0, none⟩)) rfl rfl rfl ?_
 refine litVal (v := .int .i64 p.x) rfl (wn rfl) (gLoad (v := .int .i64 p.x) (k := 0) 0 hm9 rfl (by kernel_rfl) (.tmp 5) (by kernel_rfl) rfl (litEv (by kernel_rfl))) rfl (by decide) ?_
 refine lk (v := .pointer (some ⟨g5, 0, none⟩)) rfl rfl rfl ?_
 refine litVal (v := .int .i64 q.x) rfl (wn rfl) (gLoad (v := .int .i64 q.x) (k := 0) 1 hm9 rfl (by kernel_rfl) (.tmp 7) (by kernel_rfl) rfl (litEv (by kernel_rfl))) rfl (by decide) ?_
 refine litVal (v := .int .i64 (p.x + q.x)) rfl (wn rfl) (addRun (A := p.x) (B := q.x) (C := p.x + q.x) (.tmp 6) (.tmp 8) rfl (litEv (by kernel_rfl)) (litEv (by kernel_rfl)) rfl (by omega)) rfl (by decide) ?_
 refine lk (v := .pointer (some ⟨g2, 1, none⟩)) rfl rfl rfl ?_
 refine litVal (v := .int .i64 p.y) rfl (wn rfl) (gLoad (v := .int .i64 p.y) (k := 1) 0 hm9 rfl (by kernel_rfl) (.tmp 10) (by kernel_rfl) rfl (litEv (by kernel_rfl))) rfl (by decide) ?_
 refine lk (v := .pointer (some ⟨g5, 1, none⟩)) rfl rfl rfl ?_
 refine litVal (v := .int .i64 q.y) rfl (wn rfl) (gLoad (v := .int .i64 q.y) (k := 1) 1 hm9 rfl (by kernel_rfl) (.tmp 12) (by kernel_rfl) rfl (litEv (by kernel_rfl))) rfl (by decide) ?_
 refine litVal (v := .int .i64 (p.y + q.y)) rfl (wn rfl) (addRun (A := p.y) (B := q.y) (C := p.y + q.y) (.tmp 11) (.tmp 13) rfl (litEv (by kernel_rfl)) (litEv (by kernel_rfl)) rfl (by omega)) rfl (by decide) ?_
 refine lk (v := .pointer (some ⟨g2, 2, none⟩)) rfl rfl rfl ?_
 refine litVal (v := .int .i64 p.z) rfl (wn rfl) (gLoad (v := .int .i64 p.z) (k := 2) 0 hm9 rfl (by kernel_rfl) (.tmp 15) (by kernel_rfl) rfl (litEv (by kernel_rfl))) rfl (by decide) ?_
 refine lk (v := .pointer (some ⟨g5, 2, none⟩)) rfl rfl rfl ?_
 refine litVal (v := .int .i64 q.z) rfl (wn rfl) (gLoad (v := .int .i64 q.z) (k := 2) 1 hm9 rfl (by kernel_rfl) (.tmp 17) (by kernel_rfl) rfl (litEv (by kernel_rfl))) rfl (by decide) ?_
 refine litVal (v := .int .i64 (p.z + q.z)) rfl (wn rfl) (addRun (A := p.z) (B := q.z) (C := p.z + q.z) (.tmp 16) (.tmp 18) rfl (litEv (by kernel_rfl)) (litEv (by kernel_rfl)) rfl (by omega)) rfl (by decide) ?_
 refine lk (v := .agg (pcs ⟨p.x + q.x, p.y + q.y, p.z + q.z⟩).toArray) rfl rfl rfl ?_
 refine plStore 2 Ty.ag_voxel_api_Point hm9 rfl (i := 16) (cs := pcs ⟨p.x + q.x, p.y + q.y, p.z + q.z⟩) rfl (wn rfl) rfl (litEv (by kernel_rfl)) (litEv (by kernel_rfl)) rfl rfl (by kernel_rfl) ?_
 intro w13 hm12
 clear hm9
 try simp only [List.cons_append, List.nil_append, List.set_cons_succ, List.set_cons_zero] at hm12
 refine qNone rfl ?_
 refine plD ?_
 refine then_normal (hK11 _ _ ?_)
 refine wpPrune [(4, .pointer (some ⟨g8, 0, none⟩))] ⟨litGet (by kernel_rfl), trivial⟩ (fun X14 => ?_)
 refine wp_ret ?_
 refine bodyPost_ret (v := .agg (pcs ⟨p.x + q.x, p.y + q.y, p.z + q.z⟩).toArray) (gRes1 rfl (gResAg (cs := pcs ⟨p.x + q.x, p.y + q.y, p.z + q.z⟩) 2 hm12 rfl Ty.ag_voxel_api_Point rfl (litGet (by kernel_rfl)))) rfl ?_
 exact ⟨by rfl, hm12.bel⟩
set_option maxRecDepth 100000 in
set_option maxHeartbeats 4000000 in
theorem add_any (p q : Pt) (hp : (-1073741824 ≤ p.x ∧ p.x ≤ 1073741824) ∧ (-1073741824 ≤ p.y ∧ p.y ≤ 1073741824) ∧ (-1073741824 ≤ p.z ∧ p.z ≤ 1073741824)) (hq : (-1073741824 ≤ q.x ∧ q.x ≤ 1073741824) ∧ (-1073741824 ≤ q.y ∧ q.y ≤ 1073741824) ∧ (-1073741824 ≤ q.z ∧ q.z ≤ 1073741824)) (w : World) : Calls Try.prog 67 #[.agg (pcs p).toArray, .agg (pcs q).toArray] w (RetV w (.agg (pcs (p.add q)).toArray)) := by
 have hm0 := Mem.nil w
 go_enter Try.func67, Try.ntmps67
 refine litStart 21 [(0, .agg (pcs p).toArray), (1, .agg (pcs q).toArray)] (by kernel_rfl) (fun X0 => ?_)
 refine wp_seq_k fun K1 hK1 => ?_
 refine plStart ?_
 refine plBox hm0 (cs := pcs p) (i := 0) rfl (wn rfl) rfl (litEv (by kernel_rfl)) ?_
 intro g2 w4 hm3
 clear hm0
 try simp only [List.cons_append, List.nil_append, List.set_cons_succ, List.set_cons_zero] at hm3
 refine qP rfl ?_
 refine plBox hm3 (cs := pcs q) (i := 1) rfl (wn rfl) rfl (litEv (by kernel_rfl)) ?_
 intro g5 w7 hm6
 clear hm3
 try simp only [List.cons_append, List.nil_append, List.set_cons_succ, List.set_cons_zero] at hm6
 refine qP rfl ?_
 refine plAlloc (z := [.int .i64 0, .int .i64 0, .int .i64 0]) Ty.ag_voxel_api_Point hm6 (i := 2) rfl (wn rfl) rfl ?_
 intro g8 w10 hm9
 clear hm6
 try simp only [List.cons_append, List.nil_append, List.set_cons_succ, List.set_cons_zero] at hm9
 refine qP rfl ?_
 refine plD ?_
 refine then_normal (hK1 _ _ ?_)
 refine wp_seq_k fun K11 hK11 => ?_
 refine plStart ?_
 refine lk (v := .pointer (some ⟨g2, 0, none⟩)) rfl rfl rfl ?_
 refine litVal (v := .int .i64 p.x) rfl (wn rfl) (gLoad (v := .int .i64 p.x) (k := 0) 0 hm9 rfl (by kernel_rfl) (.tmp 5) (by kernel_rfl) rfl (litEv (by kernel_rfl))) rfl (by decide) ?_
 refine lk (v := .pointer (some ⟨g5, 0, none⟩)) rfl rfl rfl ?_
 refine litVal (v := .int .i64 q.x) rfl (wn rfl) (gLoad (v := .int .i64 q.x) (k := 0) 1 hm9 rfl (by kernel_rfl) (.tmp 7) (by kernel_rfl) rfl (litEv (by kernel_rfl))) rfl (by decide) ?_
 refine litVal (v := .int .i64 (p.x + q.x)) rfl (wn rfl) (addRun (A := p.x) (B := q.x) (C := p.x + q.x) (.tmp 6) (.tmp 8) rfl (litEv (by kernel_rfl)) (litEv (by kernel_rfl)) rfl (by omega)) rfl (by decide) ?_
 refine lk (v := .pointer (some ⟨g2, 1, none⟩)) rfl rfl rfl ?_
 refine litVal (v := .int .i64 p.y) rfl (wn rfl) (gLoad (v := .int .i64 p.y) (k := 1) 0 hm9 rfl (by kernel_rfl) (.tmp 10) (by kernel_rfl) rfl (litEv (by kernel_rfl))) rfl (by decide) ?_
 refine lk (v := .pointer (some ⟨g5, 1, none⟩)) rfl rfl rfl ?_
 refine litVal (v := .int .i64 q.y) rfl (wn rfl) (gLoad (v := .int .i64 q.y) (k := 1) 1 hm9 rfl (by kernel_rfl) (.tmp 12) (by kernel_rfl) rfl (litEv (by kernel_rfl))) rfl (by decide) ?_
 refine litVal (v := .int .i64 (p.y + q.y)) rfl (wn rfl) (addRun (A := p.y) (B := q.y) (C := p.y + q.y) (.tmp 11) (.tmp 13) rfl (litEv (by kernel_rfl)) (litEv (by kernel_rfl)) rfl (by omega)) rfl (by decide) ?_
 refine lk (v := .pointer (some ⟨g2, 2, none⟩)) rfl rfl rfl ?_
 refine litVal (v := .int .i64 p.z) rfl (wn rfl) (gLoad (v := .int .i64 p.z) (k := 2) 0 hm9 rfl (by kernel_rfl) (.tmp 15) (by kernel_rfl) rfl (litEv (by kernel_rfl))) rfl (by decide) ?_
 refine lk (v := .pointer (some ⟨g5, 2, none⟩)) rfl rfl rfl ?_
 refine litVal (v := .int .i64 q.z) rfl (wn rfl) (gLoad (v := .int .i64 q.z) (k := 2) 1 hm9 rfl (by kernel_rfl) (.tmp 17) (by kernel_rfl) rfl (litEv (by kernel_rfl))) rfl (by decide) ?_
 refine litVal (v := .int .i64 (p.z + q.z)) rfl (wn rfl) (addRun (A := p.z) (B := q.z) (C := p.z + q.z) (.tmp 16) (.tmp 18) rfl (litEv (by kernel_rfl)) (litEv (by kernel_rfl)) rfl (by omega)) rfl (by decide) ?_
 refine lk (v := .agg (pcs ⟨p.x + q.x, p.y + q.y, p.z + q.z⟩).toArray) rfl rfl rfl ?_
 refine plStore 2 Ty.ag_voxel_api_Point hm9 rfl (i := 16) (cs := pcs ⟨p.x + q.x, p.y + q.y, p.z + q.z⟩) rfl (wn rfl) rfl (litEv (by kernel_rfl)) (litEv (by kernel_rfl)) rfl rfl (by kernel_rfl) ?_
 intro w13 hm12
 clear hm9
 try simp only [List.cons_append, List.nil_append, List.set_cons_succ, List.set_cons_zero] at hm12
 refine qNone rfl ?_
 refine plD ?_
 refine then_normal (hK11 _ _ ?_)
 refine wpPrune [(4, .pointer (some ⟨g8, 0, none⟩))] ⟨litGet (by kernel_rfl), trivial⟩ (fun X14 => ?_)
 refine wp_ret ?_
 refine bodyPost_ret (v := .agg (pcs ⟨p.x + q.x, p.y + q.y, p.z + q.z⟩).toArray) (gRes1 rfl (gResAg (cs := pcs ⟨p.x + q.x, p.y + q.y, p.z + q.z⟩) 2 hm12 rfl Ty.ag_voxel_api_Point rfl (litGet (by kernel_rfl)))) rfl ?_
 exact ⟨by rfl, hm12.bel⟩
set_option maxRecDepth 100000 in
set_option maxHeartbeats 4000000 in
theorem scale_any (p : Pt) (n : Int) (hx : -9223372036854775808 ≤ p.x * n ∧ p.x * n ≤ 9223372036854775807) (hy : -9223372036854775808 ≤ p.y * n ∧ p.y * n ≤ 9223372036854775807) (hz : -9223372036854775808 ≤ p.z * n ∧ p.z * n ≤ 9223372036854775807) (w : World) : Calls Try.prog 68 #[.agg (pcs p).toArray, .int .i64 n] w (RetV w (.agg (pcs (p.mul n)).toArray)) := by
 have hm0 := Mem.nil w
 go_enter Try.func68, Try.ntmps68
 refine litStart 18 [(0, .agg (pcs p).toArray), (1, .int .i64 n)] (by kernel_rfl) (fun X0 => ?_)
 refine wp_seq_k fun K1 hK1 => ?_
 refine plStart ?_
 refine plBox hm0 (cs := pcs p) (i := 0) rfl (wn rfl) rfl (litEv (by kernel_rfl)) ?_
 intro g2 w4 hm3
 clear hm0
 try simp only [List.cons_append, List.nil_append, List.set_cons_succ, List.set_cons_zero] at hm3
 refine qP rfl ?_
 refine plAlloc (z := [.int .i64 0, .int .i64 0, .int .i64 0]) Ty.ag_voxel_api_Point hm3 (i := 1) rfl (wn rfl) rfl ?_
 intro g5 w7 hm6
 clear hm3
 try simp only [List.cons_append, List.nil_append, List.set_cons_succ, List.set_cons_zero] at hm6
 refine qP rfl ?_
 refine plD ?_
 refine then_normal (hK1 _ _ ?_)
 refine wp_seq_k fun K8 hK8 => ?_
 refine plStart ?_
 refine lk (v := .int .i64 n) rfl rfl rfl ?_
 refine lk (v := .pointer (some ⟨g2, 0, none⟩)) rfl rfl rfl ?_
 refine litVal (v := .int .i64 p.x) rfl (wn rfl) (gLoad (v := .int .i64 p.x) (k := 0) 0 hm6 rfl (by kernel_rfl) (.tmp 6) (by kernel_rfl) rfl (litEv (by kernel_rfl))) rfl (by decide) ?_
 refine litVal (v := .int .i64 (p.x * n)) rfl (wn rfl) (mulRun (A := n) (B := p.x) (C := p.x * n) (.tmp 5) (.tmp 7) rfl (litEv (by kernel_rfl)) (litEv (by kernel_rfl)) (Int.mul_comm _ _) hx) rfl (by decide) ?_
 refine lk (v := .int .i64 n) rfl rfl rfl ?_
 refine lk (v := .pointer (some ⟨g2, 1, none⟩)) rfl rfl rfl ?_
 refine litVal (v := .int .i64 p.y) rfl (wn rfl) (gLoad (v := .int .i64 p.y) (k := 1) 0 hm6 rfl (by kernel_rfl) (.tmp 10) (by kernel_rfl) rfl (litEv (by kernel_rfl))) rfl (by decide) ?_
 refine litVal (v := .int .i64 (p.y * n)) rfl (wn rfl) (mulRun (A := n) (B := p.y) (C := p.y * n) (.tmp 9) (.tmp 11) rfl (litEv (by kernel_rfl)) (litEv (by kernel_rfl)) (Int.mul_comm _ _) hy) rfl (by decide) ?_
 refine lk (v := .int .i64 n) rfl rfl rfl ?_
 refine lk (v := .pointer (some ⟨g2, 2, none⟩)) rfl rfl rfl ?_
 refine litVal (v := .int .i64 p.z) rfl (wn rfl) (gLoad (v := .int .i64 p.z) (k := 2) 0 hm6 rfl (by kernel_rfl) (.tmp 14) (by kernel_rfl) rfl (litEv (by kernel_rfl))) rfl (by decide) ?_
 refine litVal (v := .int .i64 (p.z * n)) rfl (wn rfl) (mulRun (A := n) (B := p.z) (C := p.z * n) (.tmp 13) (.tmp 15) rfl (litEv (by kernel_rfl)) (litEv (by kernel_rfl)) (Int.mul_comm _ _) hz) rfl (by decide) ?_
 refine lk (v := .agg (pcs ⟨p.x * n, p.y * n, p.z * n⟩).toArray) rfl rfl rfl ?_
 refine plStore 1 Ty.ag_voxel_api_Point hm6 rfl (i := 13) (cs := pcs ⟨p.x * n, p.y * n, p.z * n⟩) rfl (wn rfl) rfl (litEv (by kernel_rfl)) (litEv (by kernel_rfl)) rfl rfl (by kernel_rfl) ?_
 intro w10 hm9
 clear hm6
 try simp only [List.cons_append, List.nil_append, List.set_cons_succ, List.set_cons_zero] at hm9
 refine qNone rfl ?_
 refine plD ?_
 refine then_normal (hK8 _ _ ?_)
 refine wpPrune [(4, .pointer (some ⟨g5, 0, none⟩))] ⟨litGet (by kernel_rfl), trivial⟩ (fun X11 => ?_)
 refine wp_ret ?_
 refine bodyPost_ret (v := .agg (pcs ⟨p.x * n, p.y * n, p.z * n⟩).toArray) (gRes1 rfl (gResAg (cs := pcs ⟨p.x * n, p.y * n, p.z * n⟩) 1 hm9 rfl Ty.ag_voxel_api_Point rfl (litGet (by kernel_rfl)))) rfl ?_
 exact ⟨by rfl, hm9.bel⟩
set_option maxRecDepth 100000 in
set_option maxHeartbeats 4000000 in
theorem sub_any (p q : Pt) (hp : (-1073741824 ≤ p.x ∧ p.x ≤ 1073741824) ∧ (-1073741824 ≤ p.y ∧ p.y ≤ 1073741824) ∧ (-1073741824 ≤ p.z ∧ p.z ≤ 1073741824)) (hq : (-1073741824 ≤ q.x ∧ q.x ≤ 1073741824) ∧ (-1073741824 ≤ q.y ∧ q.y ≤ 1073741824) ∧ (-1073741824 ≤ q.z ∧ q.z ≤ 1073741824)) (w : World) : Calls Try.prog 52 #[.agg (pcs p).toArray, .agg (pcs q).toArray] w (RetV w (.agg (pcs (p.sub q)).toArray)) := by
 have subE_ : p.add (q.mul (-1)) = p.sub q := by unfold Pt.add Pt.mul Pt.sub; simp only [Pt.mk.injEq]; omega
 have hadd_ : ((-1073741824 ≤ p.x ∧ p.x ≤ 1073741824) ∧ (-1073741824 ≤ p.y ∧ p.y ≤ 1073741824) ∧ (-1073741824 ≤ p.z ∧ p.z ≤ 1073741824)) ∧ ((-1073741824 ≤ (q.mul (-1)).x ∧ (q.mul (-1)).x ≤ 1073741824) ∧ (-1073741824 ≤ (q.mul (-1)).y ∧ (q.mul (-1)).y ≤ 1073741824) ∧ (-1073741824 ≤ (q.mul (-1)).z ∧ (q.mul (-1)).z ≤ 1073741824)) := by unfold Pt.mul; simp only; omega
 have hm0 := Mem.nil w
 go_enter Try.func52, Try.ntmps52
 refine litStart 9 [(0, .agg (pcs p).toArray), (1, .agg (pcs q).toArray)] (by kernel_rfl) (fun X0 => ?_)
 refine wp_seq_k fun K1 hK1 => ?_
 refine plStart ?_
 refine plBox hm0 (cs := pcs p) (i := 0) rfl (wn rfl) rfl (litEv (by kernel_rfl)) ?_
 intro g2 w4 hm3
 clear hm0
 try simp only [List.cons_append, List.nil_append, List.set_cons_succ, List.set_cons_zero] at hm3
 refine qP rfl ?_
 refine plBox hm3 (cs := pcs q) (i := 1) rfl (wn rfl) rfl (litEv (by kernel_rfl)) ?_
 intro g5 w7 hm6
 clear hm3
 try simp only [List.cons_append, List.nil_append, List.set_cons_succ, List.set_cons_zero] at hm6
 refine qP rfl ?_
 refine plAlloc (z := [.int .i64 0, .int .i64 0, .int .i64 0]) Ty.ag_voxel_api_Point hm6 (i := 2) rfl (wn rfl) rfl ?_
 intro g8 w10 hm9
 clear hm6
 try simp only [List.cons_append, List.nil_append, List.set_cons_succ, List.set_cons_zero] at hm9
 refine qP rfl ?_
 refine plD ?_
 refine then_normal (hK1 _ _ ?_)
 refine wp_seq_k fun K11 hK11 => ?_
 refine aoStart (aoV [fun _ => .agg (pcs p).toArray, fun _ => .agg (pcs q).toArray, fun _ => .agg (pcs (q.mul (-1))).toArray, fun _ => .agg (pcs (p.add (q.mul (-1)))).toArray, fun _ => undef]) (aoA [0, 1, 2, 3, 4]) (fun b_ g_ => ((.arr g2 23 (pcs p)) :: (.arr g5 23 (pcs q)) :: (.arr g8 23 (bsel (b_ 4) [.int .i64 ((p.add (q.mul (-1))).x), .int .i64 ((p.add (q.mul (-1))).y), .int .i64 ((p.add (q.mul (-1))).z)] [.int .i64 0, .int .i64 0, .int .i64 0])) :: [])) hm9 (by kernel_rfl) (by kernel_rfl) (fun w_ h_ => h_) (fun b_ g_ h_ => by show (fun (x4_ : Bool) => (((.arr g2 23 (pcs p)) :: (.arr g5 23 (pcs q)) :: (.arr g8 23 (bsel x4_ [.int .i64 ((p.add (q.mul (-1))).x), .int .i64 ((p.add (q.mul (-1))).y), .int .i64 ((p.add (q.mul (-1))).z)] [.int .i64 0, .int .i64 0, .int .i64 0])) :: []) : List Res)) (b_ 4) = _; rw [h_ 4 (by decide)]) ?_ ?_
 · refine aoNext rfl (aoVal (fun g_ => [(2, .pointer (some ⟨g2, 0, none⟩))]) (fun g_ a_ h_k => ⟨(h_k.out 2 (by kernel_rfl)).trans (litGet (by kernel_rfl)), trivial⟩) (fun g_ X_ => (wn rfl)) (fun b_ g_ => by kernel_rfl) (fun b_ g_ X_ w_ h_b h_ => valTo (b := .agg (pcs p).toArray) (by kernel_rfl) ((fun (h_ : Mem _ w_ ((.arr g2 23 (pcs p)) :: (.arr g5 23 (pcs q)) :: (.arr g8 23 ([.int .i64 0, .int .i64 0, .int .i64 0])) :: [])) => gLoadAg (vs := pcs p) (k := 0) 0 h_ rfl (by kernel_rfl) (by kernel_rfl) (.tmp 2) Ty.ag_voxel_api_Point rfl (litEv (by kernel_rfl))) (by have h2_ : Mem w w_ ((.arr g2 23 (pcs p)) :: (.arr g5 23 (pcs q)) :: (.arr g8 23 (bsel (b_ 4) [.int .i64 ((p.add (q.mul (-1))).x), .int .i64 ((p.add (q.mul (-1))).y), .int .i64 ((p.add (q.mul (-1))).z)] [.int .i64 0, .int .i64 0, .int .i64 0])) :: []) := h_; rw [bselF (h_b.post 4 (by kernel_rfl))] at h2_; exact h2_)))) ?_
   refine aoNext rfl (aoVal (fun g_ => [(3, .pointer (some ⟨g5, 0, none⟩))]) (fun g_ a_ h_k => ⟨(h_k.out 3 (by kernel_rfl)).trans (litGet (by kernel_rfl)), trivial⟩) (fun g_ X_ => (wn rfl)) (fun b_ g_ => by kernel_rfl) (fun b_ g_ X_ w_ h_b h_ => valTo (b := .agg (pcs q).toArray) (by kernel_rfl) ((fun (h_ : Mem _ w_ ((.arr g2 23 (pcs p)) :: (.arr g5 23 (pcs q)) :: (.arr g8 23 ([.int .i64 0, .int .i64 0, .int .i64 0])) :: [])) => gLoadAg (vs := pcs q) (k := 0) 1 h_ rfl (by kernel_rfl) (by kernel_rfl) (.tmp 3) Ty.ag_voxel_api_Point rfl (litEv (by kernel_rfl))) (by have h2_ : Mem w w_ ((.arr g2 23 (pcs p)) :: (.arr g5 23 (pcs q)) :: (.arr g8 23 (bsel (b_ 4) [.int .i64 ((p.add (q.mul (-1))).x), .int .i64 ((p.add (q.mul (-1))).y), .int .i64 ((p.add (q.mul (-1))).z)] [.int .i64 0, .int .i64 0, .int .i64 0])) :: []) := h_; rw [bselF (h_b.post 4 (by kernel_rfl))] at h2_; exact h2_)))) ?_
   refine aoNext rfl (aoCall (fun g_ => [(6, .agg (pcs q).toArray)]) (fun g_ a_ h_k => ⟨(h_k.inn 1 _ _ (by kernel_rfl) rfl rfl).trans (by kernel_rfl), trivial⟩) 68 (fun g_ => [.agg (pcs q).toArray, .int .i64 (-1)]) [] [] (by kernel_rfl) (fun g_ X_ => (wn rfl)) (fun b_ g_ => by kernel_rfl) rfl (fun g_ X_ => litEv (by kernel_rfl)) (fun g_ X_ => litArgs (by kernel_rfl)) (fun b_ g_ w_ h_b h_ => (scale_any q (-1) (by omega) (by omega) (by omega) _).mono (fun _ _ h_r => ⟨h_r.1.trans (by kernel_rfl), h_r.2⟩))) ?_
   refine aoNext rfl (aoCall (fun g_ => [(5, .agg (pcs p).toArray), (7, .agg (pcs (q.mul (-1))).toArray)]) (fun g_ a_ h_k => ⟨(h_k.inn 0 _ _ (by kernel_rfl) rfl rfl).trans (by kernel_rfl), (h_k.inn 2 _ _ (by kernel_rfl) rfl rfl).trans (by kernel_rfl), trivial⟩) 67 (fun g_ => [.agg (pcs p).toArray, .agg (pcs (q.mul (-1))).toArray]) [] [] (by kernel_rfl) (fun g_ X_ => (wn rfl)) (fun b_ g_ => by kernel_rfl) rfl (fun g_ X_ => litEv (by kernel_rfl)) (fun g_ X_ => litArgs (by kernel_rfl)) (fun b_ g_ w_ h_b h_ => (add_any p (q.mul (-1)) hadd_.1 hadd_.2 _).mono (fun _ _ h_r => ⟨h_r.1.trans (by kernel_rfl), h_r.2⟩))) ?_
   refine aoNext rfl (aoStore (gb := fun g_ => g8) (k := 0) (cur := fun g_ => [.int .i64 0, .int .i64 0, .int .i64 0]) (vs := fun g_ => pcs (p.add (q.mul (-1)))) 2 (fun g_ => [(4, .pointer (some ⟨g8, 0, none⟩)), (8, .agg (pcs (p.add (q.mul (-1)))).toArray)]) (fun g_ a_ h_k => ⟨(h_k.out 4 (by kernel_rfl)).trans (litGet (by kernel_rfl)), (h_k.inn 3 _ _ (by kernel_rfl) rfl rfl).trans (by kernel_rfl), trivial⟩) Ty.ag_voxel_api_Point (fun b_ g_ h_b => by show some (Res.arr g8 23 (bsel (b_ 4) [.int .i64 ((p.add (q.mul (-1))).x), .int .i64 ((p.add (q.mul (-1))).y), .int .i64 ((p.add (q.mul (-1))).z)] [.int .i64 0, .int .i64 0, .int .i64 0])) = some (Res.arr g8 23 ([.int .i64 0, .int .i64 0, .int .i64 0])); rw [bselF h_b.no]) (fun g_ X_ => (wn rfl)) rfl (fun g_ X_ => litEv (by kernel_rfl)) (fun g_ X_ => litEv (by kernel_rfl)) (fun _ => by kernel_rfl) (fun _ => by kernel_rfl) (fun _ => by kernel_rfl) (fun b_ g_ h_b => by kernel_rfl) rfl) ?_
   exact aoDone (by decide)
 intro g_ a_ w13 hF_ hm12
 obtain ⟨X14, rfl⟩ := frLit (⟨hF_.size, hF_.defers, ⟨(hF_.out 4 (by kernel_rfl)).trans (litGet (by kernel_rfl)), (hF_.inn 0 _ _ rfl rfl).trans (by kernel_rfl), (hF_.inn 1 _ _ rfl rfl).trans (by kernel_rfl), (hF_.inn 2 _ _ rfl rfl).trans (by kernel_rfl), (hF_.inn 3 _ _ rfl rfl).trans (by kernel_rfl), trivial⟩⟩ : Fr _ 9 [(4, .pointer (some ⟨g8, 0, none⟩)), (5, .agg (pcs p).toArray), (6, .agg (pcs q).toArray), (7, .agg (pcs (q.mul (-1))).toArray), (8, .agg (pcs (p.add (q.mul (-1)))).toArray)])
 clear hF_
 have hm15 : Mem w w13 [.arr g2 23 (pcs p), .arr g5 23 (pcs q), .arr g8 23 (pcs (p.add (q.mul (-1))))] := hm12
 clear hm12 hm9
 refine then_normal (hK11 _ _ ?_)
 refine wp_ret ?_
 refine bodyPost_ret (v := .agg (pcs (p.add (q.mul (-1)))).toArray) (gRes1 rfl (gResAg (cs := pcs (p.add (q.mul (-1)))) 2 hm15 rfl Ty.ag_voxel_api_Point rfl (litGet (by kernel_rfl)))) rfl ?_
 exact ⟨by show _ = Ending.returned (.agg (pcs (p.sub q)).toArray); rw [← subE_], hm15.bel⟩
set_option maxRecDepth 100000 in
set_option maxHeartbeats 4000000 in
theorem in_any (p : Pt) (b : Bx) (w : World) : Calls Try.prog 66 #[.agg (pcs p).toArray, .agg (bxs b).toArray] w (RetV w (.bool (decide (b.has p)))) := by
 have hm0 := Mem.nil w
 go_enter Try.func66, Try.ntmps66
 refine litStart 51 [(0, .agg (pcs p).toArray), (1, .agg (bxs b).toArray)] (by kernel_rfl) (fun X0 => ?_)
 refine wp_seq_k fun K1 hK1 => ?_
 refine plStart ?_
 refine plBox hm0 (cs := pcs p) (i := 0) rfl (wn rfl) rfl (litEv (by kernel_rfl)) ?_
 intro g2 w4 hm3
 clear hm0
 try simp only [List.cons_append, List.nil_append, List.set_cons_succ, List.set_cons_zero] at hm3
 refine qP rfl ?_
 refine plBox hm3 (cs := bxs b) (i := 1) rfl (wn rfl) rfl (litEv (by kernel_rfl)) ?_
 intro g5 w7 hm6
 clear hm3
 try simp only [List.cons_append, List.nil_append, List.set_cons_succ, List.set_cons_zero] at hm6
 refine qP rfl ?_
 refine lk (v := .bool false) rfl rfl rfl ?_
 refine plD ?_
 refine then_normal (hK1 _ _ ?_)
 refine wp_seq_k fun K8 hK8 => ?_
 refine plStart ?_
 refine lk (v := .pointer (some ⟨g2, 0, none⟩)) rfl rfl rfl ?_
 refine litVal (v := .int .i64 p.x) rfl (wn rfl) (gLoad (v := .int .i64 p.x) (k := 0) 0 hm6 rfl (by kernel_rfl) (.tmp 5) (by kernel_rfl) rfl (litEv (by kernel_rfl))) rfl (by decide) ?_
 refine lk (v := .pointer (some ⟨g5, 0, none⟩)) rfl rfl rfl ?_
 refine lk (v := .pointer (some ⟨g5, 0, none⟩)) rfl rfl rfl ?_
 refine litVal (v := .int .i64 b.mn.x) rfl (wn rfl) (gLoad (v := .int .i64 b.mn.x) (k := 0) 1 hm6 rfl (by kernel_rfl) (.tmp 8) (by kernel_rfl) rfl (litEv (by kernel_rfl))) rfl (by decide) ?_
 by_cases h9 : b.mn.x ≤ p.x
 · refine litVal (v := .bool true) rfl (wn rfl) (boolTo (decide_eq_true h9) (gGeq (A := p.x) (B := b.mn.x) (.tmp 6) (.tmp 9) rfl (litEv (by kernel_rfl)) (litEv (by kernel_rfl)))) rfl (by decide) ?_
   refine lk (v := .bool true) rfl rfl rfl ?_
   refine litVal (v := .pointer (some ⟨g2, 0, none⟩)) rfl (wgY rfl rfl rfl (by decide) (by kernel_rfl)) (litRun (by kernel_rfl)) rfl (by decide) ?_
   refine litVal (v := .int .i64 p.x) rfl (wgY rfl rfl rfl (by decide) (by kernel_rfl)) (gLoad (v := .int .i64 p.x) (k := 0) 0 hm6 rfl (by kernel_rfl) (.tmp 12) (by kernel_rfl) rfl (litEv (by kernel_rfl))) rfl (by decide) ?_
   refine litVal (v := .pointer (some ⟨g5, 3, none⟩)) rfl (wgY rfl rfl rfl (by decide) (by kernel_rfl)) (litRun (by kernel_rfl)) rfl (by decide) ?_
   refine litVal (v := .pointer (some ⟨g5, 3, none⟩)) rfl (wgY rfl rfl rfl (by decide) (by kernel_rfl)) (litRun (by kernel_rfl)) rfl (by decide) ?_
   refine litVal (v := .int .i64 b.mx.x) rfl (wgY rfl rfl rfl (by decide) (by kernel_rfl)) (gLoad (v := .int .i64 b.mx.x) (k := 3) 1 hm6 rfl (by kernel_rfl) (.tmp 15) (by kernel_rfl) rfl (litEv (by kernel_rfl))) rfl (by decide) ?_
   by_cases h10 : p.x < b.mx.x
   · refine litVal (v := .bool true) rfl (wgY rfl rfl rfl (by decide) (by kernel_rfl)) (boolTo (decide_eq_true h10) (lssRun (A := p.x) (B := b.mx.x) (.tmp 13) (.tmp 16) rfl (litEv (by kernel_rfl)) (litEv (by kernel_rfl)))) rfl (by decide) ?_
     refine lk (v := .bool true) rfl rfl rfl ?_
     refine lk (v := .bool true) rfl rfl rfl ?_
     refine litVal (v := .pointer (some ⟨g2, 1, none⟩)) rfl (wgY rfl rfl rfl (by decide) (by kernel_rfl)) (litRun (by kernel_rfl)) rfl (by decide) ?_
     refine litVal (v := .int .i64 p.y) rfl (wgY rfl rfl rfl (by decide) (by kernel_rfl)) (gLoad (v := .int .i64 p.y) (k := 1) 0 hm6 rfl (by kernel_rfl) (.tmp 20) (by kernel_rfl) rfl (litEv (by kernel_rfl))) rfl (by decide) ?_
     refine litVal (v := .pointer (some ⟨g5, 0, none⟩)) rfl (wgY rfl rfl rfl (by decide) (by kernel_rfl)) (litRun (by kernel_rfl)) rfl (by decide) ?_
     refine litVal (v := .pointer (some ⟨g5, 1, none⟩)) rfl (wgY rfl rfl rfl (by decide) (by kernel_rfl)) (litRun (by kernel_rfl)) rfl (by decide) ?_
     refine litVal (v := .int .i64 b.mn.y) rfl (wgY rfl rfl rfl (by decide) (by kernel_rfl)) (gLoad (v := .int .i64 b.mn.y) (k := 1) 1 hm6 rfl (by kernel_rfl) (.tmp 23) (by kernel_rfl) rfl (litEv (by kernel_rfl))) rfl (by decide) ?_
     by_cases h11 : b.mn.y ≤ p.y
     · refine litVal (v := .bool true) rfl (wgY rfl rfl rfl (by decide) (by kernel_rfl)) (boolTo (decide_eq_true h11) (gGeq (A := p.y) (B := b.mn.y) (.tmp 21) (.tmp 24) rfl (litEv (by kernel_rfl)) (litEv (by kernel_rfl)))) rfl (by decide) ?_
       refine lk (v := .bool true) rfl rfl rfl ?_
       refine lk (v := .bool true) rfl rfl rfl ?_
       refine litVal (v := .pointer (some ⟨g2, 1, none⟩)) rfl (wgY rfl rfl rfl (by decide) (by kernel_rfl)) (litRun (by kernel_rfl)) rfl (by decide) ?_
       refine litVal (v := .int .i64 p.y) rfl (wgY rfl rfl rfl (by decide) (by kernel_rfl)) (gLoad (v := .int .i64 p.y) (k := 1) 0 hm6 rfl (by kernel_rfl) (.tmp 28) (by kernel_rfl) rfl (litEv (by kernel_rfl))) rfl (by decide) ?_
       refine litVal (v := .pointer (some ⟨g5, 3, none⟩)) rfl (wgY rfl rfl rfl (by decide) (by kernel_rfl)) (litRun (by kernel_rfl)) rfl (by decide) ?_
       refine litVal (v := .pointer (some ⟨g5, 4, none⟩)) rfl (wgY rfl rfl rfl (by decide) (by kernel_rfl)) (litRun (by kernel_rfl)) rfl (by decide) ?_
       refine litVal (v := .int .i64 b.mx.y) rfl (wgY rfl rfl rfl (by decide) (by kernel_rfl)) (gLoad (v := .int .i64 b.mx.y) (k := 4) 1 hm6 rfl (by kernel_rfl) (.tmp 31) (by kernel_rfl) rfl (litEv (by kernel_rfl))) rfl (by decide) ?_
       by_cases h12 : p.y < b.mx.y
       · refine litVal (v := .bool true) rfl (wgY rfl rfl rfl (by decide) (by kernel_rfl)) (boolTo (decide_eq_true h12) (lssRun (A := p.y) (B := b.mx.y) (.tmp 29) (.tmp 32) rfl (litEv (by kernel_rfl)) (litEv (by kernel_rfl)))) rfl (by decide) ?_
         refine lk (v := .bool true) rfl rfl rfl ?_
         refine lk (v := .bool true) rfl rfl rfl ?_
         refine litVal (v := .pointer (some ⟨g2, 2, none⟩)) rfl (wgY rfl rfl rfl (by decide) (by kernel_rfl)) (litRun (by kernel_rfl)) rfl (by decide) ?_
         refine litVal (v := .int .i64 p.z) rfl (wgY rfl rfl rfl (by decide) (by kernel_rfl)) (gLoad (v := .int .i64 p.z) (k := 2) 0 hm6 rfl (by kernel_rfl) (.tmp 36) (by kernel_rfl) rfl (litEv (by kernel_rfl))) rfl (by decide) ?_
         refine litVal (v := .pointer (some ⟨g5, 0, none⟩)) rfl (wgY rfl rfl rfl (by decide) (by kernel_rfl)) (litRun (by kernel_rfl)) rfl (by decide) ?_
         refine litVal (v := .pointer (some ⟨g5, 2, none⟩)) rfl (wgY rfl rfl rfl (by decide) (by kernel_rfl)) (litRun (by kernel_rfl)) rfl (by decide) ?_
         refine litVal (v := .int .i64 b.mn.z) rfl (wgY rfl rfl rfl (by decide) (by kernel_rfl)) (gLoad (v := .int .i64 b.mn.z) (k := 2) 1 hm6 rfl (by kernel_rfl) (.tmp 39) (by kernel_rfl) rfl (litEv (by kernel_rfl))) rfl (by decide) ?_
         by_cases h13 : b.mn.z ≤ p.z
         · refine litVal (v := .bool true) rfl (wgY rfl rfl rfl (by decide) (by kernel_rfl)) (boolTo (decide_eq_true h13) (gGeq (A := p.z) (B := b.mn.z) (.tmp 37) (.tmp 40) rfl (litEv (by kernel_rfl)) (litEv (by kernel_rfl)))) rfl (by decide) ?_
           refine lk (v := .bool true) rfl rfl rfl ?_
           refine lk (v := .bool true) rfl rfl rfl ?_
           refine litVal (v := .pointer (some ⟨g2, 2, none⟩)) rfl (wgY rfl rfl rfl (by decide) (by kernel_rfl)) (litRun (by kernel_rfl)) rfl (by decide) ?_
           refine litVal (v := .int .i64 p.z) rfl (wgY rfl rfl rfl (by decide) (by kernel_rfl)) (gLoad (v := .int .i64 p.z) (k := 2) 0 hm6 rfl (by kernel_rfl) (.tmp 44) (by kernel_rfl) rfl (litEv (by kernel_rfl))) rfl (by decide) ?_
           refine litVal (v := .pointer (some ⟨g5, 3, none⟩)) rfl (wgY rfl rfl rfl (by decide) (by kernel_rfl)) (litRun (by kernel_rfl)) rfl (by decide) ?_
           refine litVal (v := .pointer (some ⟨g5, 5, none⟩)) rfl (wgY rfl rfl rfl (by decide) (by kernel_rfl)) (litRun (by kernel_rfl)) rfl (by decide) ?_
           refine litVal (v := .int .i64 b.mx.z) rfl (wgY rfl rfl rfl (by decide) (by kernel_rfl)) (gLoad (v := .int .i64 b.mx.z) (k := 5) 1 hm6 rfl (by kernel_rfl) (.tmp 47) (by kernel_rfl) rfl (litEv (by kernel_rfl))) rfl (by decide) ?_
           by_cases h14 : p.z < b.mx.z
           · refine litVal (v := .bool true) rfl (wgY rfl rfl rfl (by decide) (by kernel_rfl)) (boolTo (decide_eq_true h14) (lssRun (A := p.z) (B := b.mx.z) (.tmp 45) (.tmp 48) rfl (litEv (by kernel_rfl)) (litEv (by kernel_rfl)))) rfl (by decide) ?_
             refine lk (v := .bool true) rfl rfl rfl ?_
             refine lk (v := .bool true) rfl rfl rfl ?_
             refine plD ?_
             refine then_normal (hK8 _ _ ?_)
             refine wpPrune [(4, .bool true)] ⟨litGet (by kernel_rfl), trivial⟩ (fun X15 => ?_)
             refine wp_ret ?_
             refine bodyPost_ret (v := .bool true) (gRes1 rfl (gResTmp (t := 4) (v := .bool true) (litGet (by kernel_rfl)))) rfl ?_
             exact ⟨congrArg (fun b_ => Ending.returned (.bool b_)) (decide_eq_true (by unfold Bx.has; omega)).symm, hm6.bel⟩
           refine litVal (v := .bool false) rfl (wgY rfl rfl rfl (by decide) (by kernel_rfl)) (boolTo (decide_eq_false h14) (lssRun (A := p.z) (B := b.mx.z) (.tmp 45) (.tmp 48) rfl (litEv (by kernel_rfl)) (litEv (by kernel_rfl)))) rfl (by decide) ?_
           refine lk (v := .bool false) rfl rfl rfl ?_
           refine lk (v := .bool false) rfl rfl rfl ?_
           refine plD ?_
           refine then_normal (hK8 _ _ ?_)
           refine wpPrune [(4, .bool false)] ⟨litGet (by kernel_rfl), trivial⟩ (fun X16 => ?_)
           refine wp_ret ?_
           refine bodyPost_ret (v := .bool false) (gRes1 rfl (gResTmp (t := 4) (v := .bool false) (litGet (by kernel_rfl)))) rfl ?_
           exact ⟨congrArg (fun b_ => Ending.returned (.bool b_)) (decide_eq_false (by unfold Bx.has; omega)).symm, hm6.bel⟩
         refine litVal (v := .bool false) rfl (wgY rfl rfl rfl (by decide) (by kernel_rfl)) (boolTo (decide_eq_false h13) (gGeq (A := p.z) (B := b.mn.z) (.tmp 37) (.tmp 40) rfl (litEv (by kernel_rfl)) (litEv (by kernel_rfl)))) rfl (by decide) ?_
         refine lk (v := .bool false) rfl rfl rfl ?_
         refine lk (v := .bool false) rfl rfl rfl ?_
         refine plSkip (i := 39) rfl (wgN rfl rfl rfl (by decide) (by kernel_rfl)) ?_
         refine qP rfl ?_
         refine plSkip (i := 40) rfl (wgN rfl rfl rfl (by decide) (by kernel_rfl)) ?_
         refine qP rfl ?_
         refine plSkip (i := 41) rfl (wgN rfl rfl rfl (by decide) (by kernel_rfl)) ?_
         refine qP rfl ?_
         refine plSkip (i := 42) rfl (wgN rfl rfl rfl (by decide) (by kernel_rfl)) ?_
         refine qP rfl ?_
         refine plSkip (i := 43) rfl (wgN rfl rfl rfl (by decide) (by kernel_rfl)) ?_
         refine qP rfl ?_
         refine plSkip (i := 44) rfl (wgN rfl rfl rfl (by decide) (by kernel_rfl)) ?_
         refine qP rfl ?_
         refine lk (v := .bool false) rfl rfl rfl ?_
         refine lk (v := .bool false) rfl rfl rfl ?_
         refine plD ?_
         refine then_normal (hK8 _ _ ?_)
         refine wpPrune [(4, .bool false)] ⟨litGet (by kernel_rfl), trivial⟩ (fun X17 => ?_)
         refine wp_ret ?_
         refine bodyPost_ret (v := .bool false) (gRes1 rfl (gResTmp (t := 4) (v := .bool false) (litGet (by kernel_rfl)))) rfl ?_
         exact ⟨congrArg (fun b_ => Ending.returned (.bool b_)) (decide_eq_false (by unfold Bx.has; omega)).symm, hm6.bel⟩
       refine litVal (v := .bool false) rfl (wgY rfl rfl rfl (by decide) (by kernel_rfl)) (boolTo (decide_eq_false h12) (lssRun (A := p.y) (B := b.mx.y) (.tmp 29) (.tmp 32) rfl (litEv (by kernel_rfl)) (litEv (by kernel_rfl)))) rfl (by decide) ?_
       refine lk (v := .bool false) rfl rfl rfl ?_
       refine lk (v := .bool false) rfl rfl rfl ?_
       refine plSkip (i := 31) rfl (wgN rfl rfl rfl (by decide) (by kernel_rfl)) ?_
       refine qP rfl ?_
       refine plSkip (i := 32) rfl (wgN rfl rfl rfl (by decide) (by kernel_rfl)) ?_
       refine qP rfl ?_
       refine plSkip (i := 33) rfl (wgN rfl rfl rfl (by decide) (by kernel_rfl)) ?_
       refine qP rfl ?_
       refine plSkip (i := 34) rfl (wgN rfl rfl rfl (by decide) (by kernel_rfl)) ?_
       refine qP rfl ?_
       refine plSkip (i := 35) rfl (wgN rfl rfl rfl (by decide) (by kernel_rfl)) ?_
       refine qP rfl ?_
       refine plSkip (i := 36) rfl (wgN rfl rfl rfl (by decide) (by kernel_rfl)) ?_
       refine qP rfl ?_
       refine lk (v := .bool false) rfl rfl rfl ?_
       refine lk (v := .bool false) rfl rfl rfl ?_
       refine plSkip (i := 39) rfl (wgN rfl rfl rfl (by decide) (by kernel_rfl)) ?_
       refine qP rfl ?_
       refine plSkip (i := 40) rfl (wgN rfl rfl rfl (by decide) (by kernel_rfl)) ?_
       refine qP rfl ?_
       refine plSkip (i := 41) rfl (wgN rfl rfl rfl (by decide) (by kernel_rfl)) ?_
       refine qP rfl ?_
       refine plSkip (i := 42) rfl (wgN rfl rfl rfl (by decide) (by kernel_rfl)) ?_
       refine qP rfl ?_
       refine plSkip (i := 43) rfl (wgN rfl rfl rfl (by decide) (by kernel_rfl)) ?_
       refine qP rfl ?_
       refine plSkip (i := 44) rfl (wgN rfl rfl rfl (by decide) (by kernel_rfl)) ?_
       refine qP rfl ?_
       refine lk (v := .bool false) rfl rfl rfl ?_
       refine lk (v := .bool false) rfl rfl rfl ?_
       refine plD ?_
       refine then_normal (hK8 _ _ ?_)
       refine wpPrune [(4, .bool false)] ⟨litGet (by kernel_rfl), trivial⟩ (fun X18 => ?_)
       refine wp_ret ?_
       refine bodyPost_ret (v := .bool false) (gRes1 rfl (gResTmp (t := 4) (v := .bool false) (litGet (by kernel_rfl)))) rfl ?_
       exact ⟨congrArg (fun b_ => Ending.returned (.bool b_)) (decide_eq_false (by unfold Bx.has; omega)).symm, hm6.bel⟩
     refine litVal (v := .bool false) rfl (wgY rfl rfl rfl (by decide) (by kernel_rfl)) (boolTo (decide_eq_false h11) (gGeq (A := p.y) (B := b.mn.y) (.tmp 21) (.tmp 24) rfl (litEv (by kernel_rfl)) (litEv (by kernel_rfl)))) rfl (by decide) ?_
     refine lk (v := .bool false) rfl rfl rfl ?_
     refine lk (v := .bool false) rfl rfl rfl ?_
     refine plSkip (i := 23) rfl (wgN rfl rfl rfl (by decide) (by kernel_rfl)) ?_
     refine qP rfl ?_
     refine plSkip (i := 24) rfl (wgN rfl rfl rfl (by decide) (by kernel_rfl)) ?_
     refine qP rfl ?_
     refine plSkip (i := 25) rfl (wgN rfl rfl rfl (by decide) (by kernel_rfl)) ?_
     refine qP rfl ?_
     refine plSkip (i := 26) rfl (wgN rfl rfl rfl (by decide) (by kernel_rfl)) ?_
     refine qP rfl ?_
     refine plSkip (i := 27) rfl (wgN rfl rfl rfl (by decide) (by kernel_rfl)) ?_
     refine qP rfl ?_
     refine plSkip (i := 28) rfl (wgN rfl rfl rfl (by decide) (by kernel_rfl)) ?_
     refine qP rfl ?_
     refine lk (v := .bool false) rfl rfl rfl ?_
     refine lk (v := .bool false) rfl rfl rfl ?_
     refine plSkip (i := 31) rfl (wgN rfl rfl rfl (by decide) (by kernel_rfl)) ?_
     refine qP rfl ?_
     refine plSkip (i := 32) rfl (wgN rfl rfl rfl (by decide) (by kernel_rfl)) ?_
     refine qP rfl ?_
     refine plSkip (i := 33) rfl (wgN rfl rfl rfl (by decide) (by kernel_rfl)) ?_
     refine qP rfl ?_
     refine plSkip (i := 34) rfl (wgN rfl rfl rfl (by decide) (by kernel_rfl)) ?_
     refine qP rfl ?_
     refine plSkip (i := 35) rfl (wgN rfl rfl rfl (by decide) (by kernel_rfl)) ?_
     refine qP rfl ?_
     refine plSkip (i := 36) rfl (wgN rfl rfl rfl (by decide) (by kernel_rfl)) ?_
     refine qP rfl ?_
     refine lk (v := .bool false) rfl rfl rfl ?_
     refine lk (v := .bool false) rfl rfl rfl ?_
     refine plSkip (i := 39) rfl (wgN rfl rfl rfl (by decide) (by kernel_rfl)) ?_
     refine qP rfl ?_
     refine plSkip (i := 40) rfl (wgN rfl rfl rfl (by decide) (by kernel_rfl)) ?_
     refine qP rfl ?_
     refine plSkip (i := 41) rfl (wgN rfl rfl rfl (by decide) (by kernel_rfl)) ?_
     refine qP rfl ?_
     refine plSkip (i := 42) rfl (wgN rfl rfl rfl (by decide) (by kernel_rfl)) ?_
     refine qP rfl ?_
     refine plSkip (i := 43) rfl (wgN rfl rfl rfl (by decide) (by kernel_rfl)) ?_
     refine qP rfl ?_
     refine plSkip (i := 44) rfl (wgN rfl rfl rfl (by decide) (by kernel_rfl)) ?_
     refine qP rfl ?_
     refine lk (v := .bool false) rfl rfl rfl ?_
     refine lk (v := .bool false) rfl rfl rfl ?_
     refine plD ?_
     refine then_normal (hK8 _ _ ?_)
     refine wpPrune [(4, .bool false)] ⟨litGet (by kernel_rfl), trivial⟩ (fun X19 => ?_)
     refine wp_ret ?_
     refine bodyPost_ret (v := .bool false) (gRes1 rfl (gResTmp (t := 4) (v := .bool false) (litGet (by kernel_rfl)))) rfl ?_
     exact ⟨congrArg (fun b_ => Ending.returned (.bool b_)) (decide_eq_false (by unfold Bx.has; omega)).symm, hm6.bel⟩
   refine litVal (v := .bool false) rfl (wgY rfl rfl rfl (by decide) (by kernel_rfl)) (boolTo (decide_eq_false h10) (lssRun (A := p.x) (B := b.mx.x) (.tmp 13) (.tmp 16) rfl (litEv (by kernel_rfl)) (litEv (by kernel_rfl)))) rfl (by decide) ?_
   refine lk (v := .bool false) rfl rfl rfl ?_
   refine lk (v := .bool false) rfl rfl rfl ?_
   refine plSkip (i := 15) rfl (wgN rfl rfl rfl (by decide) (by kernel_rfl)) ?_
   refine qP rfl ?_
   refine plSkip (i := 16) rfl (wgN rfl rfl rfl (by decide) (by kernel_rfl)) ?_
   refine qP rfl ?_
   refine plSkip (i := 17) rfl (wgN rfl rfl rfl (by decide) (by kernel_rfl)) ?_
   refine qP rfl ?_
   refine plSkip (i := 18) rfl (wgN rfl rfl rfl (by decide) (by kernel_rfl)) ?_
   refine qP rfl ?_
   refine plSkip (i := 19) rfl (wgN rfl rfl rfl (by decide) (by kernel_rfl)) ?_
   refine qP rfl ?_
   refine plSkip (i := 20) rfl (wgN rfl rfl rfl (by decide) (by kernel_rfl)) ?_
   refine qP rfl ?_
   refine lk (v := .bool false) rfl rfl rfl ?_
   refine lk (v := .bool false) rfl rfl rfl ?_
   refine plSkip (i := 23) rfl (wgN rfl rfl rfl (by decide) (by kernel_rfl)) ?_
   refine qP rfl ?_
   refine plSkip (i := 24) rfl (wgN rfl rfl rfl (by decide) (by kernel_rfl)) ?_
   refine qP rfl ?_
   refine plSkip (i := 25) rfl (wgN rfl rfl rfl (by decide) (by kernel_rfl)) ?_
   refine qP rfl ?_
   refine plSkip (i := 26) rfl (wgN rfl rfl rfl (by decide) (by kernel_rfl)) ?_
   refine qP rfl ?_
   refine plSkip (i := 27) rfl (wgN rfl rfl rfl (by decide) (by kernel_rfl)) ?_
   refine qP rfl ?_
   refine plSkip (i := 28) rfl (wgN rfl rfl rfl (by decide) (by kernel_rfl)) ?_
   refine qP rfl ?_
   refine lk (v := .bool false) rfl rfl rfl ?_
   refine lk (v := .bool false) rfl rfl rfl ?_
   refine plSkip (i := 31) rfl (wgN rfl rfl rfl (by decide) (by kernel_rfl)) ?_
   refine qP rfl ?_
   refine plSkip (i := 32) rfl (wgN rfl rfl rfl (by decide) (by kernel_rfl)) ?_
   refine qP rfl ?_
   refine plSkip (i := 33) rfl (wgN rfl rfl rfl (by decide) (by kernel_rfl)) ?_
   refine qP rfl ?_
   refine plSkip (i := 34) rfl (wgN rfl rfl rfl (by decide) (by kernel_rfl)) ?_
   refine qP rfl ?_
   refine plSkip (i := 35) rfl (wgN rfl rfl rfl (by decide) (by kernel_rfl)) ?_
   refine qP rfl ?_
   refine plSkip (i := 36) rfl (wgN rfl rfl rfl (by decide) (by kernel_rfl)) ?_
   refine qP rfl ?_
   refine lk (v := .bool false) rfl rfl rfl ?_
   refine lk (v := .bool false) rfl rfl rfl ?_
   refine plSkip (i := 39) rfl (wgN rfl rfl rfl (by decide) (by kernel_rfl)) ?_
   refine qP rfl ?_
   refine plSkip (i := 40) rfl (wgN rfl rfl rfl (by decide) (by kernel_rfl)) ?_
   refine qP rfl ?_
   refine plSkip (i := 41) rfl (wgN rfl rfl rfl (by decide) (by kernel_rfl)) ?_
   refine qP rfl ?_
   refine plSkip (i := 42) rfl (wgN rfl rfl rfl (by decide) (by kernel_rfl)) ?_
   refine qP rfl ?_
   refine plSkip (i := 43) rfl (wgN rfl rfl rfl (by decide) (by kernel_rfl)) ?_
   refine qP rfl ?_
   refine plSkip (i := 44) rfl (wgN rfl rfl rfl (by decide) (by kernel_rfl)) ?_
   refine qP rfl ?_
   refine lk (v := .bool false) rfl rfl rfl ?_
   refine lk (v := .bool false) rfl rfl rfl ?_
   refine plD ?_
   refine then_normal (hK8 _ _ ?_)
   refine wpPrune [(4, .bool false)] ⟨litGet (by kernel_rfl), trivial⟩ (fun X20 => ?_)
   refine wp_ret ?_
   refine bodyPost_ret (v := .bool false) (gRes1 rfl (gResTmp (t := 4) (v := .bool false) (litGet (by kernel_rfl)))) rfl ?_
   exact ⟨congrArg (fun b_ => Ending.returned (.bool b_)) (decide_eq_false (by unfold Bx.has; omega)).symm, hm6.bel⟩
 refine litVal (v := .bool false) rfl (wn rfl) (boolTo (decide_eq_false h9) (gGeq (A := p.x) (B := b.mn.x) (.tmp 6) (.tmp 9) rfl (litEv (by kernel_rfl)) (litEv (by kernel_rfl)))) rfl (by decide) ?_
 refine lk (v := .bool false) rfl rfl rfl ?_
 refine plSkip (i := 7) rfl (wgN rfl rfl rfl (by decide) (by kernel_rfl)) ?_
 refine qP rfl ?_
 refine plSkip (i := 8) rfl (wgN rfl rfl rfl (by decide) (by kernel_rfl)) ?_
 refine qP rfl ?_
 refine plSkip (i := 9) rfl (wgN rfl rfl rfl (by decide) (by kernel_rfl)) ?_
 refine qP rfl ?_
 refine plSkip (i := 10) rfl (wgN rfl rfl rfl (by decide) (by kernel_rfl)) ?_
 refine qP rfl ?_
 refine plSkip (i := 11) rfl (wgN rfl rfl rfl (by decide) (by kernel_rfl)) ?_
 refine qP rfl ?_
 refine plSkip (i := 12) rfl (wgN rfl rfl rfl (by decide) (by kernel_rfl)) ?_
 refine qP rfl ?_
 refine lk (v := .bool false) rfl rfl rfl ?_
 refine lk (v := .bool false) rfl rfl rfl ?_
 refine plSkip (i := 15) rfl (wgN rfl rfl rfl (by decide) (by kernel_rfl)) ?_
 refine qP rfl ?_
 refine plSkip (i := 16) rfl (wgN rfl rfl rfl (by decide) (by kernel_rfl)) ?_
 refine qP rfl ?_
 refine plSkip (i := 17) rfl (wgN rfl rfl rfl (by decide) (by kernel_rfl)) ?_
 refine qP rfl ?_
 refine plSkip (i := 18) rfl (wgN rfl rfl rfl (by decide) (by kernel_rfl)) ?_
 refine qP rfl ?_
 refine plSkip (i := 19) rfl (wgN rfl rfl rfl (by decide) (by kernel_rfl)) ?_
 refine qP rfl ?_
 refine plSkip (i := 20) rfl (wgN rfl rfl rfl (by decide) (by kernel_rfl)) ?_
 refine qP rfl ?_
 refine lk (v := .bool false) rfl rfl rfl ?_
 refine lk (v := .bool false) rfl rfl rfl ?_
 refine plSkip (i := 23) rfl (wgN rfl rfl rfl (by decide) (by kernel_rfl)) ?_
 refine qP rfl ?_
 refine plSkip (i := 24) rfl (wgN rfl rfl rfl (by decide) (by kernel_rfl)) ?_
 refine qP rfl ?_
 refine plSkip (i := 25) rfl (wgN rfl rfl rfl (by decide) (by kernel_rfl)) ?_
 refine qP rfl ?_
 refine plSkip (i := 26) rfl (wgN rfl rfl rfl (by decide) (by kernel_rfl)) ?_
 refine qP rfl ?_
 refine plSkip (i := 27) rfl (wgN rfl rfl rfl (by decide) (by kernel_rfl)) ?_
 refine qP rfl ?_
 refine plSkip (i := 28) rfl (wgN rfl rfl rfl (by decide) (by kernel_rfl)) ?_
 refine qP rfl ?_
 refine lk (v := .bool false) rfl rfl rfl ?_
 refine lk (v := .bool false) rfl rfl rfl ?_
 refine plSkip (i := 31) rfl (wgN rfl rfl rfl (by decide) (by kernel_rfl)) ?_
 refine qP rfl ?_
 refine plSkip (i := 32) rfl (wgN rfl rfl rfl (by decide) (by kernel_rfl)) ?_
 refine qP rfl ?_
 refine plSkip (i := 33) rfl (wgN rfl rfl rfl (by decide) (by kernel_rfl)) ?_
 refine qP rfl ?_
 refine plSkip (i := 34) rfl (wgN rfl rfl rfl (by decide) (by kernel_rfl)) ?_
 refine qP rfl ?_
 refine plSkip (i := 35) rfl (wgN rfl rfl rfl (by decide) (by kernel_rfl)) ?_
 refine qP rfl ?_
 refine plSkip (i := 36) rfl (wgN rfl rfl rfl (by decide) (by kernel_rfl)) ?_
 refine qP rfl ?_
 refine lk (v := .bool false) rfl rfl rfl ?_
 refine lk (v := .bool false) rfl rfl rfl ?_
 refine plSkip (i := 39) rfl (wgN rfl rfl rfl (by decide) (by kernel_rfl)) ?_
 refine qP rfl ?_
 refine plSkip (i := 40) rfl (wgN rfl rfl rfl (by decide) (by kernel_rfl)) ?_
 refine qP rfl ?_
 refine plSkip (i := 41) rfl (wgN rfl rfl rfl (by decide) (by kernel_rfl)) ?_
 refine qP rfl ?_
 refine plSkip (i := 42) rfl (wgN rfl rfl rfl (by decide) (by kernel_rfl)) ?_
 refine qP rfl ?_
 refine plSkip (i := 43) rfl (wgN rfl rfl rfl (by decide) (by kernel_rfl)) ?_
 refine qP rfl ?_
 refine plSkip (i := 44) rfl (wgN rfl rfl rfl (by decide) (by kernel_rfl)) ?_
 refine qP rfl ?_
 refine lk (v := .bool false) rfl rfl rfl ?_
 refine lk (v := .bool false) rfl rfl rfl ?_
 refine plD ?_
 refine then_normal (hK8 _ _ ?_)
 refine wpPrune [(4, .bool false)] ⟨litGet (by kernel_rfl), trivial⟩ (fun X21 => ?_)
 refine wp_ret ?_
 refine bodyPost_ret (v := .bool false) (gRes1 rfl (gResTmp (t := 4) (v := .bool false) (litGet (by kernel_rfl)))) rfl ?_
 exact ⟨congrArg (fun b_ => Ending.returned (.bool b_)) (decide_eq_false (by unfold Bx.has; omega)).symm, hm6.bel⟩
set_option maxRecDepth 100000 in
set_option maxHeartbeats 4000000 in
theorem rin_any (p : Pt) (b : Bx) (w : World) : Calls Try.prog 26 #[.agg (pcs p).toArray, .agg (bxs b).toArray] w (RetV w (.bool (decide (b.has p)))) := by
 have hm0 := Mem.nil w
 go_enter Try.func26, Try.ntmps26
 refine litStart 57 [(0, .agg (pcs p).toArray), (1, .agg (bxs b).toArray)] (by kernel_rfl) (fun X0 => ?_)
 refine wp_seq_k fun K1 hK1 => ?_
 refine plStart ?_
 refine plBox hm0 (cs := pcs p) (i := 0) rfl (wn rfl) rfl (litEv (by kernel_rfl)) ?_
 intro g2 w4 hm3
 clear hm0
 try simp only [List.cons_append, List.nil_append, List.set_cons_succ, List.set_cons_zero] at hm3
 refine qP rfl ?_
 refine plBox hm3 (cs := bxs b) (i := 1) rfl (wn rfl) rfl (litEv (by kernel_rfl)) ?_
 intro g5 w7 hm6
 clear hm3
 try simp only [List.cons_append, List.nil_append, List.set_cons_succ, List.set_cons_zero] at hm6
 refine qP rfl ?_
 refine lk (v := .bool false) rfl rfl rfl ?_
 refine plD ?_
 refine then_normal (hK1 _ _ ?_)
 refine wp_seq_k fun K8 hK8 => ?_
 refine plStart ?_
 refine lk (v := .pointer (some ⟨g2, 0, none⟩)) rfl rfl rfl ?_
 refine litVal (v := .int .i64 p.x) rfl (wn rfl) (gLoad (v := .int .i64 p.x) (k := 0) 0 hm6 rfl (by kernel_rfl) (.tmp 8) (by kernel_rfl) rfl (litEv (by kernel_rfl))) rfl (by decide) ?_
 refine lk (v := .pointer (some ⟨g5, 0, none⟩)) rfl rfl rfl ?_
 refine lk (v := .pointer (some ⟨g5, 0, none⟩)) rfl rfl rfl ?_
 refine litVal (v := .int .i64 b.mn.x) rfl (wn rfl) (gLoad (v := .int .i64 b.mn.x) (k := 0) 1 hm6 rfl (by kernel_rfl) (.tmp 11) (by kernel_rfl) rfl (litEv (by kernel_rfl))) rfl (by decide) ?_
 by_cases h9 : b.mn.x ≤ p.x
 · refine litVal (v := .bool true) rfl (wn rfl) (boolTo (decide_eq_true h9) (gGeq (A := p.x) (B := b.mn.x) (.tmp 9) (.tmp 12) rfl (litEv (by kernel_rfl)) (litEv (by kernel_rfl)))) rfl (by decide) ?_
   refine lk (v := .bool true) rfl rfl rfl ?_
   refine litVal (v := .pointer (some ⟨g2, 0, none⟩)) rfl (wgY rfl rfl rfl (by decide) (by kernel_rfl)) (litRun (by kernel_rfl)) rfl (by decide) ?_
   refine litVal (v := .int .i64 p.x) rfl (wgY rfl rfl rfl (by decide) (by kernel_rfl)) (gLoad (v := .int .i64 p.x) (k := 0) 0 hm6 rfl (by kernel_rfl) (.tmp 15) (by kernel_rfl) rfl (litEv (by kernel_rfl))) rfl (by decide) ?_
   refine litVal (v := .pointer (some ⟨g5, 3, none⟩)) rfl (wgY rfl rfl rfl (by decide) (by kernel_rfl)) (litRun (by kernel_rfl)) rfl (by decide) ?_
   refine litVal (v := .pointer (some ⟨g5, 3, none⟩)) rfl (wgY rfl rfl rfl (by decide) (by kernel_rfl)) (litRun (by kernel_rfl)) rfl (by decide) ?_
   refine litVal (v := .int .i64 b.mx.x) rfl (wgY rfl rfl rfl (by decide) (by kernel_rfl)) (gLoad (v := .int .i64 b.mx.x) (k := 3) 1 hm6 rfl (by kernel_rfl) (.tmp 18) (by kernel_rfl) rfl (litEv (by kernel_rfl))) rfl (by decide) ?_
   by_cases h10 : p.x < b.mx.x
   · refine litVal (v := .bool true) rfl (wgY rfl rfl rfl (by decide) (by kernel_rfl)) (boolTo (decide_eq_true h10) (lssRun (A := p.x) (B := b.mx.x) (.tmp 16) (.tmp 19) rfl (litEv (by kernel_rfl)) (litEv (by kernel_rfl)))) rfl (by decide) ?_
     refine lk (v := .bool true) rfl rfl rfl ?_
     refine lk (v := .bool true) rfl rfl rfl ?_
     refine plD ?_
     refine then_normal (hK8 _ _ ?_)
     refine wpPrune [(2, .pointer (some ⟨g2, 0, none⟩)), (3, .pointer (some ⟨g5, 0, none⟩)), (4, .bool false), (5, .bool true)] ⟨litGet (by kernel_rfl), ⟨litGet (by kernel_rfl), ⟨litGet (by kernel_rfl), ⟨litGet (by kernel_rfl), trivial⟩⟩⟩⟩ (fun X11 => ?_)
     refine wp_seq_k fun K12 hK12 => ?_
     refine plStart ?_
     refine lk (v := .pointer (some ⟨g2, 1, none⟩)) rfl rfl rfl ?_
     refine litVal (v := .int .i64 p.y) rfl (wn rfl) (gLoad (v := .int .i64 p.y) (k := 1) 0 hm6 rfl (by kernel_rfl) (.tmp 22) (by kernel_rfl) rfl (litEv (by kernel_rfl))) rfl (by decide) ?_
     refine lk (v := .pointer (some ⟨g5, 0, none⟩)) rfl rfl rfl ?_
     refine lk (v := .pointer (some ⟨g5, 1, none⟩)) rfl rfl rfl ?_
     refine litVal (v := .int .i64 b.mn.y) rfl (wn rfl) (gLoad (v := .int .i64 b.mn.y) (k := 1) 1 hm6 rfl (by kernel_rfl) (.tmp 25) (by kernel_rfl) rfl (litEv (by kernel_rfl))) rfl (by decide) ?_
     by_cases h13 : b.mn.y ≤ p.y
     · refine litVal (v := .bool true) rfl (wn rfl) (boolTo (decide_eq_true h13) (gGeq (A := p.y) (B := b.mn.y) (.tmp 23) (.tmp 26) rfl (litEv (by kernel_rfl)) (litEv (by kernel_rfl)))) rfl (by decide) ?_
       refine lk (v := .bool true) rfl rfl rfl ?_
       refine litVal (v := .pointer (some ⟨g2, 1, none⟩)) rfl (wgY rfl rfl rfl (by decide) (by kernel_rfl)) (litRun (by kernel_rfl)) rfl (by decide) ?_
       refine litVal (v := .int .i64 p.y) rfl (wgY rfl rfl rfl (by decide) (by kernel_rfl)) (gLoad (v := .int .i64 p.y) (k := 1) 0 hm6 rfl (by kernel_rfl) (.tmp 29) (by kernel_rfl) rfl (litEv (by kernel_rfl))) rfl (by decide) ?_
       refine litVal (v := .pointer (some ⟨g5, 3, none⟩)) rfl (wgY rfl rfl rfl (by decide) (by kernel_rfl)) (litRun (by kernel_rfl)) rfl (by decide) ?_
       refine litVal (v := .pointer (some ⟨g5, 4, none⟩)) rfl (wgY rfl rfl rfl (by decide) (by kernel_rfl)) (litRun (by kernel_rfl)) rfl (by decide) ?_
       refine litVal (v := .int .i64 b.mx.y) rfl (wgY rfl rfl rfl (by decide) (by kernel_rfl)) (gLoad (v := .int .i64 b.mx.y) (k := 4) 1 hm6 rfl (by kernel_rfl) (.tmp 32) (by kernel_rfl) rfl (litEv (by kernel_rfl))) rfl (by decide) ?_
       by_cases h14 : p.y < b.mx.y
       · refine litVal (v := .bool true) rfl (wgY rfl rfl rfl (by decide) (by kernel_rfl)) (boolTo (decide_eq_true h14) (lssRun (A := p.y) (B := b.mx.y) (.tmp 30) (.tmp 33) rfl (litEv (by kernel_rfl)) (litEv (by kernel_rfl)))) rfl (by decide) ?_
         refine lk (v := .bool true) rfl rfl rfl ?_
         refine lk (v := .bool true) rfl rfl rfl ?_
         refine plD ?_
         refine then_normal (hK12 _ _ ?_)
         refine wpPrune [(2, .pointer (some ⟨g2, 0, none⟩)), (3, .pointer (some ⟨g5, 0, none⟩)), (4, .bool false), (5, .bool true), (6, .bool true)] ⟨litGet (by kernel_rfl), ⟨litGet (by kernel_rfl), ⟨litGet (by kernel_rfl), ⟨litGet (by kernel_rfl), ⟨litGet (by kernel_rfl), trivial⟩⟩⟩⟩⟩ (fun X15 => ?_)
         refine wp_seq_k fun K16 hK16 => ?_
         refine plStart ?_
         refine lk (v := .pointer (some ⟨g2, 2, none⟩)) rfl rfl rfl ?_
         refine litVal (v := .int .i64 p.z) rfl (wn rfl) (gLoad (v := .int .i64 p.z) (k := 2) 0 hm6 rfl (by kernel_rfl) (.tmp 36) (by kernel_rfl) rfl (litEv (by kernel_rfl))) rfl (by decide) ?_
         refine lk (v := .pointer (some ⟨g5, 0, none⟩)) rfl rfl rfl ?_
         refine lk (v := .pointer (some ⟨g5, 2, none⟩)) rfl rfl rfl ?_
         refine litVal (v := .int .i64 b.mn.z) rfl (wn rfl) (gLoad (v := .int .i64 b.mn.z) (k := 2) 1 hm6 rfl (by kernel_rfl) (.tmp 39) (by kernel_rfl) rfl (litEv (by kernel_rfl))) rfl (by decide) ?_
         by_cases h17 : b.mn.z ≤ p.z
         · refine litVal (v := .bool true) rfl (wn rfl) (boolTo (decide_eq_true h17) (gGeq (A := p.z) (B := b.mn.z) (.tmp 37) (.tmp 40) rfl (litEv (by kernel_rfl)) (litEv (by kernel_rfl)))) rfl (by decide) ?_
           refine lk (v := .bool true) rfl rfl rfl ?_
           refine litVal (v := .pointer (some ⟨g2, 2, none⟩)) rfl (wgY rfl rfl rfl (by decide) (by kernel_rfl)) (litRun (by kernel_rfl)) rfl (by decide) ?_
           refine litVal (v := .int .i64 p.z) rfl (wgY rfl rfl rfl (by decide) (by kernel_rfl)) (gLoad (v := .int .i64 p.z) (k := 2) 0 hm6 rfl (by kernel_rfl) (.tmp 43) (by kernel_rfl) rfl (litEv (by kernel_rfl))) rfl (by decide) ?_
           refine litVal (v := .pointer (some ⟨g5, 3, none⟩)) rfl (wgY rfl rfl rfl (by decide) (by kernel_rfl)) (litRun (by kernel_rfl)) rfl (by decide) ?_
           refine litVal (v := .pointer (some ⟨g5, 5, none⟩)) rfl (wgY rfl rfl rfl (by decide) (by kernel_rfl)) (litRun (by kernel_rfl)) rfl (by decide) ?_
           refine litVal (v := .int .i64 b.mx.z) rfl (wgY rfl rfl rfl (by decide) (by kernel_rfl)) (gLoad (v := .int .i64 b.mx.z) (k := 5) 1 hm6 rfl (by kernel_rfl) (.tmp 46) (by kernel_rfl) rfl (litEv (by kernel_rfl))) rfl (by decide) ?_
           by_cases h18 : p.z < b.mx.z
           · refine litVal (v := .bool true) rfl (wgY rfl rfl rfl (by decide) (by kernel_rfl)) (boolTo (decide_eq_true h18) (lssRun (A := p.z) (B := b.mx.z) (.tmp 44) (.tmp 47) rfl (litEv (by kernel_rfl)) (litEv (by kernel_rfl)))) rfl (by decide) ?_
             refine lk (v := .bool true) rfl rfl rfl ?_
             refine lk (v := .bool true) rfl rfl rfl ?_
             refine plD ?_
             refine then_normal (hK16 _ _ ?_)
             refine wpPrune [(4, .bool false), (5, .bool true), (6, .bool true), (7, .bool true)] ⟨litGet (by kernel_rfl), ⟨litGet (by kernel_rfl), ⟨litGet (by kernel_rfl), ⟨litGet (by kernel_rfl), trivial⟩⟩⟩⟩ (fun X19 => ?_)
             refine wp_seq_k fun K20 hK20 => ?_
             refine plStart ?_
             refine lk (v := .bool true) rfl rfl rfl ?_
             refine lk (v := .bool true) rfl rfl rfl ?_
             refine litVal (v := .bool true) rfl (wgY rfl rfl rfl (by decide) (by kernel_rfl)) (litRun (by kernel_rfl)) rfl (by decide) ?_
             refine lk (v := .bool true) rfl rfl rfl ?_
             refine lk (v := .bool true) rfl rfl rfl ?_
             refine litVal (v := .bool true) rfl (wgY rfl rfl rfl (by decide) (by kernel_rfl)) (litRun (by kernel_rfl)) rfl (by decide) ?_
             refine lk (v := .bool true) rfl rfl rfl ?_
             refine lk (v := .bool true) rfl rfl rfl ?_
             refine plD ?_
             refine then_normal (hK20 _ _ ?_)
             refine wp_ret ?_
             refine bodyPost_ret (v := .bool true) (gRes1 rfl (gResTmp (t := 4) (v := .bool true) (litGet (by kernel_rfl)))) rfl ?_
             exact ⟨congrArg (fun b_ => Ending.returned (.bool b_)) (decide_eq_true (by unfold Bx.has; omega)).symm, hm6.bel⟩
           refine litVal (v := .bool false) rfl (wgY rfl rfl rfl (by decide) (by kernel_rfl)) (boolTo (decide_eq_false h18) (lssRun (A := p.z) (B := b.mx.z) (.tmp 44) (.tmp 47) rfl (litEv (by kernel_rfl)) (litEv (by kernel_rfl)))) rfl (by decide) ?_
           refine lk (v := .bool false) rfl rfl rfl ?_
           refine lk (v := .bool false) rfl rfl rfl ?_
           refine plD ?_
           refine then_normal (hK16 _ _ ?_)
           refine wpPrune [(4, .bool false), (5, .bool true), (6, .bool true), (7, .bool false)] ⟨litGet (by kernel_rfl), ⟨litGet (by kernel_rfl), ⟨litGet (by kernel_rfl), ⟨litGet (by kernel_rfl), trivial⟩⟩⟩⟩ (fun X21 => ?_)
           refine wp_seq_k fun K22 hK22 => ?_
           refine plStart ?_
           refine lk (v := .bool true) rfl rfl rfl ?_
           refine lk (v := .bool true) rfl rfl rfl ?_
           refine litVal (v := .bool true) rfl (wgY rfl rfl rfl (by decide) (by kernel_rfl)) (litRun (by kernel_rfl)) rfl (by decide) ?_
           refine lk (v := .bool true) rfl rfl rfl ?_
           refine lk (v := .bool true) rfl rfl rfl ?_
           refine litVal (v := .bool false) rfl (wgY rfl rfl rfl (by decide) (by kernel_rfl)) (litRun (by kernel_rfl)) rfl (by decide) ?_
           refine lk (v := .bool false) rfl rfl rfl ?_
           refine lk (v := .bool false) rfl rfl rfl ?_
           refine plD ?_
           refine then_normal (hK22 _ _ ?_)
           refine wp_ret ?_
           refine bodyPost_ret (v := .bool false) (gRes1 rfl (gResTmp (t := 4) (v := .bool false) (litGet (by kernel_rfl)))) rfl ?_
           exact ⟨congrArg (fun b_ => Ending.returned (.bool b_)) (decide_eq_false (by unfold Bx.has; omega)).symm, hm6.bel⟩
         refine litVal (v := .bool false) rfl (wn rfl) (boolTo (decide_eq_false h17) (gGeq (A := p.z) (B := b.mn.z) (.tmp 37) (.tmp 40) rfl (litEv (by kernel_rfl)) (litEv (by kernel_rfl)))) rfl (by decide) ?_
         refine lk (v := .bool false) rfl rfl rfl ?_
         refine plSkip (i := 7) rfl (wgN rfl rfl rfl (by decide) (by kernel_rfl)) ?_
         refine qP rfl ?_
         refine plSkip (i := 8) rfl (wgN rfl rfl rfl (by decide) (by kernel_rfl)) ?_
         refine qP rfl ?_
         refine plSkip (i := 9) rfl (wgN rfl rfl rfl (by decide) (by kernel_rfl)) ?_
         refine qP rfl ?_
         refine plSkip (i := 10) rfl (wgN rfl rfl rfl (by decide) (by kernel_rfl)) ?_
         refine qP rfl ?_
         refine plSkip (i := 11) rfl (wgN rfl rfl rfl (by decide) (by kernel_rfl)) ?_
         refine qP rfl ?_
         refine plSkip (i := 12) rfl (wgN rfl rfl rfl (by decide) (by kernel_rfl)) ?_
         refine qP rfl ?_
         refine lk (v := .bool false) rfl rfl rfl ?_
         refine lk (v := .bool false) rfl rfl rfl ?_
         refine plD ?_
         refine then_normal (hK16 _ _ ?_)
         refine wpPrune [(4, .bool false), (5, .bool true), (6, .bool true), (7, .bool false)] ⟨litGet (by kernel_rfl), ⟨litGet (by kernel_rfl), ⟨litGet (by kernel_rfl), ⟨litGet (by kernel_rfl), trivial⟩⟩⟩⟩ (fun X23 => ?_)
         refine wp_seq_k fun K24 hK24 => ?_
         refine plStart ?_
         refine lk (v := .bool true) rfl rfl rfl ?_
         refine lk (v := .bool true) rfl rfl rfl ?_
         refine litVal (v := .bool true) rfl (wgY rfl rfl rfl (by decide) (by kernel_rfl)) (litRun (by kernel_rfl)) rfl (by decide) ?_
         refine lk (v := .bool true) rfl rfl rfl ?_
         refine lk (v := .bool true) rfl rfl rfl ?_
         refine litVal (v := .bool false) rfl (wgY rfl rfl rfl (by decide) (by kernel_rfl)) (litRun (by kernel_rfl)) rfl (by decide) ?_
         refine lk (v := .bool false) rfl rfl rfl ?_
         refine lk (v := .bool false) rfl rfl rfl ?_
         refine plD ?_
         refine then_normal (hK24 _ _ ?_)
         refine wp_ret ?_
         refine bodyPost_ret (v := .bool false) (gRes1 rfl (gResTmp (t := 4) (v := .bool false) (litGet (by kernel_rfl)))) rfl ?_
         exact ⟨congrArg (fun b_ => Ending.returned (.bool b_)) (decide_eq_false (by unfold Bx.has; omega)).symm, hm6.bel⟩
       refine litVal (v := .bool false) rfl (wgY rfl rfl rfl (by decide) (by kernel_rfl)) (boolTo (decide_eq_false h14) (lssRun (A := p.y) (B := b.mx.y) (.tmp 30) (.tmp 33) rfl (litEv (by kernel_rfl)) (litEv (by kernel_rfl)))) rfl (by decide) ?_
       refine lk (v := .bool false) rfl rfl rfl ?_
       refine lk (v := .bool false) rfl rfl rfl ?_
       refine plD ?_
       refine then_normal (hK12 _ _ ?_)
       refine wpPrune [(2, .pointer (some ⟨g2, 0, none⟩)), (3, .pointer (some ⟨g5, 0, none⟩)), (4, .bool false), (5, .bool true), (6, .bool false)] ⟨litGet (by kernel_rfl), ⟨litGet (by kernel_rfl), ⟨litGet (by kernel_rfl), ⟨litGet (by kernel_rfl), ⟨litGet (by kernel_rfl), trivial⟩⟩⟩⟩⟩ (fun X25 => ?_)
       refine wp_seq_k fun K26 hK26 => ?_
       refine plStart ?_
       refine lk (v := .pointer (some ⟨g2, 2, none⟩)) rfl rfl rfl ?_
       refine litVal (v := .int .i64 p.z) rfl (wn rfl) (gLoad (v := .int .i64 p.z) (k := 2) 0 hm6 rfl (by kernel_rfl) (.tmp 36) (by kernel_rfl) rfl (litEv (by kernel_rfl))) rfl (by decide) ?_
       refine lk (v := .pointer (some ⟨g5, 0, none⟩)) rfl rfl rfl ?_
       refine lk (v := .pointer (some ⟨g5, 2, none⟩)) rfl rfl rfl ?_
       refine litVal (v := .int .i64 b.mn.z) rfl (wn rfl) (gLoad (v := .int .i64 b.mn.z) (k := 2) 1 hm6 rfl (by kernel_rfl) (.tmp 39) (by kernel_rfl) rfl (litEv (by kernel_rfl))) rfl (by decide) ?_
       by_cases h27 : b.mn.z ≤ p.z
       · refine litVal (v := .bool true) rfl (wn rfl) (boolTo (decide_eq_true h27) (gGeq (A := p.z) (B := b.mn.z) (.tmp 37) (.tmp 40) rfl (litEv (by kernel_rfl)) (litEv (by kernel_rfl)))) rfl (by decide) ?_
         refine lk (v := .bool true) rfl rfl rfl ?_
         refine litVal (v := .pointer (some ⟨g2, 2, none⟩)) rfl (wgY rfl rfl rfl (by decide) (by kernel_rfl)) (litRun (by kernel_rfl)) rfl (by decide) ?_
         refine litVal (v := .int .i64 p.z) rfl (wgY rfl rfl rfl (by decide) (by kernel_rfl)) (gLoad (v := .int .i64 p.z) (k := 2) 0 hm6 rfl (by kernel_rfl) (.tmp 43) (by kernel_rfl) rfl (litEv (by kernel_rfl))) rfl (by decide) ?_
         refine litVal (v := .pointer (some ⟨g5, 3, none⟩)) rfl (wgY rfl rfl rfl (by decide) (by kernel_rfl)) (litRun (by kernel_rfl)) rfl (by decide) ?_
         refine litVal (v := .pointer (some ⟨g5, 5, none⟩)) rfl (wgY rfl rfl rfl (by decide) (by kernel_rfl)) (litRun (by kernel_rfl)) rfl (by decide) ?_
         refine litVal (v := .int .i64 b.mx.z) rfl (wgY rfl rfl rfl (by decide) (by kernel_rfl)) (gLoad (v := .int .i64 b.mx.z) (k := 5) 1 hm6 rfl (by kernel_rfl) (.tmp 46) (by kernel_rfl) rfl (litEv (by kernel_rfl))) rfl (by decide) ?_
         by_cases h28 : p.z < b.mx.z
         · refine litVal (v := .bool true) rfl (wgY rfl rfl rfl (by decide) (by kernel_rfl)) (boolTo (decide_eq_true h28) (lssRun (A := p.z) (B := b.mx.z) (.tmp 44) (.tmp 47) rfl (litEv (by kernel_rfl)) (litEv (by kernel_rfl)))) rfl (by decide) ?_
           refine lk (v := .bool true) rfl rfl rfl ?_
           refine lk (v := .bool true) rfl rfl rfl ?_
           refine plD ?_
           refine then_normal (hK26 _ _ ?_)
           refine wpPrune [(4, .bool false), (5, .bool true), (6, .bool false), (7, .bool true)] ⟨litGet (by kernel_rfl), ⟨litGet (by kernel_rfl), ⟨litGet (by kernel_rfl), ⟨litGet (by kernel_rfl), trivial⟩⟩⟩⟩ (fun X29 => ?_)
           refine wp_seq_k fun K30 hK30 => ?_
           refine plStart ?_
           refine lk (v := .bool true) rfl rfl rfl ?_
           refine lk (v := .bool true) rfl rfl rfl ?_
           refine litVal (v := .bool false) rfl (wgY rfl rfl rfl (by decide) (by kernel_rfl)) (litRun (by kernel_rfl)) rfl (by decide) ?_
           refine lk (v := .bool false) rfl rfl rfl ?_
           refine lk (v := .bool false) rfl rfl rfl ?_
           refine plSkip (i := 5) rfl (wgN rfl rfl rfl (by decide) (by kernel_rfl)) ?_
           refine qP rfl ?_
           refine lk (v := .bool false) rfl rfl rfl ?_
           refine lk (v := .bool false) rfl rfl rfl ?_
           refine plD ?_
           refine then_normal (hK30 _ _ ?_)
           refine wp_ret ?_
           refine bodyPost_ret (v := .bool false) (gRes1 rfl (gResTmp (t := 4) (v := .bool false) (litGet (by kernel_rfl)))) rfl ?_
           exact ⟨congrArg (fun b_ => Ending.returned (.bool b_)) (decide_eq_false (by unfold Bx.has; omega)).symm, hm6.bel⟩
         refine litVal (v := .bool false) rfl (wgY rfl rfl rfl (by decide) (by kernel_rfl)) (boolTo (decide_eq_false h28) (lssRun (A := p.z) (B := b.mx.z) (.tmp 44) (.tmp 47) rfl (litEv (by kernel_rfl)) (litEv (by kernel_rfl)))) rfl (by decide) ?_
         refine lk (v := .bool false) rfl rfl rfl ?_
         refine lk (v := .bool false) rfl rfl rfl ?_
         refine plD ?_
         refine then_normal (hK26 _ _ ?_)
         refine wpPrune [(4, .bool false), (5, .bool true), (6, .bool false), (7, .bool false)] ⟨litGet (by kernel_rfl), ⟨litGet (by kernel_rfl), ⟨litGet (by kernel_rfl), ⟨litGet (by kernel_rfl), trivial⟩⟩⟩⟩ (fun X31 => ?_)
         refine wp_seq_k fun K32 hK32 => ?_
         refine plStart ?_
         refine lk (v := .bool true) rfl rfl rfl ?_
         refine lk (v := .bool true) rfl rfl rfl ?_
         refine litVal (v := .bool false) rfl (wgY rfl rfl rfl (by decide) (by kernel_rfl)) (litRun (by kernel_rfl)) rfl (by decide) ?_
         refine lk (v := .bool false) rfl rfl rfl ?_
         refine lk (v := .bool false) rfl rfl rfl ?_
         refine plSkip (i := 5) rfl (wgN rfl rfl rfl (by decide) (by kernel_rfl)) ?_
         refine qP rfl ?_
         refine lk (v := .bool false) rfl rfl rfl ?_
         refine lk (v := .bool false) rfl rfl rfl ?_
         refine plD ?_
         refine then_normal (hK32 _ _ ?_)
         refine wp_ret ?_
         refine bodyPost_ret (v := .bool false) (gRes1 rfl (gResTmp (t := 4) (v := .bool false) (litGet (by kernel_rfl)))) rfl ?_
         exact ⟨congrArg (fun b_ => Ending.returned (.bool b_)) (decide_eq_false (by unfold Bx.has; omega)).symm, hm6.bel⟩
       refine litVal (v := .bool false) rfl (wn rfl) (boolTo (decide_eq_false h27) (gGeq (A := p.z) (B := b.mn.z) (.tmp 37) (.tmp 40) rfl (litEv (by kernel_rfl)) (litEv (by kernel_rfl)))) rfl (by decide) ?_
       refine lk (v := .bool false) rfl rfl rfl ?_
       refine plSkip (i := 7) rfl (wgN rfl rfl rfl (by decide) (by kernel_rfl)) ?_
       refine qP rfl ?_
       refine plSkip (i := 8) rfl (wgN rfl rfl rfl (by decide) (by kernel_rfl)) ?_
       refine qP rfl ?_
       refine plSkip (i := 9) rfl (wgN rfl rfl rfl (by decide) (by kernel_rfl)) ?_
       refine qP rfl ?_
       refine plSkip (i := 10) rfl (wgN rfl rfl rfl (by decide) (by kernel_rfl)) ?_
       refine qP rfl ?_
       refine plSkip (i := 11) rfl (wgN rfl rfl rfl (by decide) (by kernel_rfl)) ?_
       refine qP rfl ?_
       refine plSkip (i := 12) rfl (wgN rfl rfl rfl (by decide) (by kernel_rfl)) ?_
       refine qP rfl ?_
       refine lk (v := .bool false) rfl rfl rfl ?_
       refine lk (v := .bool false) rfl rfl rfl ?_
       refine plD ?_
       refine then_normal (hK26 _ _ ?_)
       refine wpPrune [(4, .bool false), (5, .bool true), (6, .bool false), (7, .bool false)] ⟨litGet (by kernel_rfl), ⟨litGet (by kernel_rfl), ⟨litGet (by kernel_rfl), ⟨litGet (by kernel_rfl), trivial⟩⟩⟩⟩ (fun X33 => ?_)
       refine wp_seq_k fun K34 hK34 => ?_
       refine plStart ?_
       refine lk (v := .bool true) rfl rfl rfl ?_
       refine lk (v := .bool true) rfl rfl rfl ?_
       refine litVal (v := .bool false) rfl (wgY rfl rfl rfl (by decide) (by kernel_rfl)) (litRun (by kernel_rfl)) rfl (by decide) ?_
       refine lk (v := .bool false) rfl rfl rfl ?_
       refine lk (v := .bool false) rfl rfl rfl ?_
       refine plSkip (i := 5) rfl (wgN rfl rfl rfl (by decide) (by kernel_rfl)) ?_
       refine qP rfl ?_
       refine lk (v := .bool false) rfl rfl rfl ?_
       refine lk (v := .bool false) rfl rfl rfl ?_
       refine plD ?_
       refine then_normal (hK34 _ _ ?_)
       refine wp_ret ?_
       refine bodyPost_ret (v := .bool false) (gRes1 rfl (gResTmp (t := 4) (v := .bool false) (litGet (by kernel_rfl)))) rfl ?_
       exact ⟨congrArg (fun b_ => Ending.returned (.bool b_)) (decide_eq_false (by unfold Bx.has; omega)).symm, hm6.bel⟩
     refine litVal (v := .bool false) rfl (wn rfl) (boolTo (decide_eq_false h13) (gGeq (A := p.y) (B := b.mn.y) (.tmp 23) (.tmp 26) rfl (litEv (by kernel_rfl)) (litEv (by kernel_rfl)))) rfl (by decide) ?_
     refine lk (v := .bool false) rfl rfl rfl ?_
     refine plSkip (i := 7) rfl (wgN rfl rfl rfl (by decide) (by kernel_rfl)) ?_
     refine qP rfl ?_
     refine plSkip (i := 8) rfl (wgN rfl rfl rfl (by decide) (by kernel_rfl)) ?_
     refine qP rfl ?_
     refine plSkip (i := 9) rfl (wgN rfl rfl rfl (by decide) (by kernel_rfl)) ?_
     refine qP rfl ?_
     refine plSkip (i := 10) rfl (wgN rfl rfl rfl (by decide) (by kernel_rfl)) ?_
     refine qP rfl ?_
     refine plSkip (i := 11) rfl (wgN rfl rfl rfl (by decide) (by kernel_rfl)) ?_
     refine qP rfl ?_
     refine plSkip (i := 12) rfl (wgN rfl rfl rfl (by decide) (by kernel_rfl)) ?_
     refine qP rfl ?_
     refine lk (v := .bool false) rfl rfl rfl ?_
     refine lk (v := .bool false) rfl rfl rfl ?_
     refine plD ?_
     refine then_normal (hK12 _ _ ?_)
     refine wpPrune [(2, .pointer (some ⟨g2, 0, none⟩)), (3, .pointer (some ⟨g5, 0, none⟩)), (4, .bool false), (5, .bool true), (6, .bool false)] ⟨litGet (by kernel_rfl), ⟨litGet (by kernel_rfl), ⟨litGet (by kernel_rfl), ⟨litGet (by kernel_rfl), ⟨litGet (by kernel_rfl), trivial⟩⟩⟩⟩⟩ (fun X35 => ?_)
     refine wp_seq_k fun K36 hK36 => ?_
     refine plStart ?_
     refine lk (v := .pointer (some ⟨g2, 2, none⟩)) rfl rfl rfl ?_
     refine litVal (v := .int .i64 p.z) rfl (wn rfl) (gLoad (v := .int .i64 p.z) (k := 2) 0 hm6 rfl (by kernel_rfl) (.tmp 36) (by kernel_rfl) rfl (litEv (by kernel_rfl))) rfl (by decide) ?_
     refine lk (v := .pointer (some ⟨g5, 0, none⟩)) rfl rfl rfl ?_
     refine lk (v := .pointer (some ⟨g5, 2, none⟩)) rfl rfl rfl ?_
     refine litVal (v := .int .i64 b.mn.z) rfl (wn rfl) (gLoad (v := .int .i64 b.mn.z) (k := 2) 1 hm6 rfl (by kernel_rfl) (.tmp 39) (by kernel_rfl) rfl (litEv (by kernel_rfl))) rfl (by decide) ?_
     by_cases h37 : b.mn.z ≤ p.z
     · refine litVal (v := .bool true) rfl (wn rfl) (boolTo (decide_eq_true h37) (gGeq (A := p.z) (B := b.mn.z) (.tmp 37) (.tmp 40) rfl (litEv (by kernel_rfl)) (litEv (by kernel_rfl)))) rfl (by decide) ?_
       refine lk (v := .bool true) rfl rfl rfl ?_
       refine litVal (v := .pointer (some ⟨g2, 2, none⟩)) rfl (wgY rfl rfl rfl (by decide) (by kernel_rfl)) (litRun (by kernel_rfl)) rfl (by decide) ?_
       refine litVal (v := .int .i64 p.z) rfl (wgY rfl rfl rfl (by decide) (by kernel_rfl)) (gLoad (v := .int .i64 p.z) (k := 2) 0 hm6 rfl (by kernel_rfl) (.tmp 43) (by kernel_rfl) rfl (litEv (by kernel_rfl))) rfl (by decide) ?_
       refine litVal (v := .pointer (some ⟨g5, 3, none⟩)) rfl (wgY rfl rfl rfl (by decide) (by kernel_rfl)) (litRun (by kernel_rfl)) rfl (by decide) ?_
       refine litVal (v := .pointer (some ⟨g5, 5, none⟩)) rfl (wgY rfl rfl rfl (by decide) (by kernel_rfl)) (litRun (by kernel_rfl)) rfl (by decide) ?_
       refine litVal (v := .int .i64 b.mx.z) rfl (wgY rfl rfl rfl (by decide) (by kernel_rfl)) (gLoad (v := .int .i64 b.mx.z) (k := 5) 1 hm6 rfl (by kernel_rfl) (.tmp 46) (by kernel_rfl) rfl (litEv (by kernel_rfl))) rfl (by decide) ?_
       by_cases h38 : p.z < b.mx.z
       · refine litVal (v := .bool true) rfl (wgY rfl rfl rfl (by decide) (by kernel_rfl)) (boolTo (decide_eq_true h38) (lssRun (A := p.z) (B := b.mx.z) (.tmp 44) (.tmp 47) rfl (litEv (by kernel_rfl)) (litEv (by kernel_rfl)))) rfl (by decide) ?_
         refine lk (v := .bool true) rfl rfl rfl ?_
         refine lk (v := .bool true) rfl rfl rfl ?_
         refine plD ?_
         refine then_normal (hK36 _ _ ?_)
         refine wpPrune [(4, .bool false), (5, .bool true), (6, .bool false), (7, .bool true)] ⟨litGet (by kernel_rfl), ⟨litGet (by kernel_rfl), ⟨litGet (by kernel_rfl), ⟨litGet (by kernel_rfl), trivial⟩⟩⟩⟩ (fun X39 => ?_)
         refine wp_seq_k fun K40 hK40 => ?_
         refine plStart ?_
         refine lk (v := .bool true) rfl rfl rfl ?_
         refine lk (v := .bool true) rfl rfl rfl ?_
         refine litVal (v := .bool false) rfl (wgY rfl rfl rfl (by decide) (by kernel_rfl)) (litRun (by kernel_rfl)) rfl (by decide) ?_
         refine lk (v := .bool false) rfl rfl rfl ?_
         refine lk (v := .bool false) rfl rfl rfl ?_
         refine plSkip (i := 5) rfl (wgN rfl rfl rfl (by decide) (by kernel_rfl)) ?_
         refine qP rfl ?_
         refine lk (v := .bool false) rfl rfl rfl ?_
         refine lk (v := .bool false) rfl rfl rfl ?_
         refine plD ?_
         refine then_normal (hK40 _ _ ?_)
         refine wp_ret ?_
         refine bodyPost_ret (v := .bool false) (gRes1 rfl (gResTmp (t := 4) (v := .bool false) (litGet (by kernel_rfl)))) rfl ?_
         exact ⟨congrArg (fun b_ => Ending.returned (.bool b_)) (decide_eq_false (by unfold Bx.has; omega)).symm, hm6.bel⟩
       refine litVal (v := .bool false) rfl (wgY rfl rfl rfl (by decide) (by kernel_rfl)) (boolTo (decide_eq_false h38) (lssRun (A := p.z) (B := b.mx.z) (.tmp 44) (.tmp 47) rfl (litEv (by kernel_rfl)) (litEv (by kernel_rfl)))) rfl (by decide) ?_
       refine lk (v := .bool false) rfl rfl rfl ?_
       refine lk (v := .bool false) rfl rfl rfl ?_
       refine plD ?_
       refine then_normal (hK36 _ _ ?_)
       refine wpPrune [(4, .bool false), (5, .bool true), (6, .bool false), (7, .bool false)] ⟨litGet (by kernel_rfl), ⟨litGet (by kernel_rfl), ⟨litGet (by kernel_rfl), ⟨litGet (by kernel_rfl), trivial⟩⟩⟩⟩ (fun X41 => ?_)
       refine wp_seq_k fun K42 hK42 => ?_
       refine plStart ?_
       refine lk (v := .bool true) rfl rfl rfl ?_
       refine lk (v := .bool true) rfl rfl rfl ?_
       refine litVal (v := .bool false) rfl (wgY rfl rfl rfl (by decide) (by kernel_rfl)) (litRun (by kernel_rfl)) rfl (by decide) ?_
       refine lk (v := .bool false) rfl rfl rfl ?_
       refine lk (v := .bool false) rfl rfl rfl ?_
       refine plSkip (i := 5) rfl (wgN rfl rfl rfl (by decide) (by kernel_rfl)) ?_
       refine qP rfl ?_
       refine lk (v := .bool false) rfl rfl rfl ?_
       refine lk (v := .bool false) rfl rfl rfl ?_
       refine plD ?_
       refine then_normal (hK42 _ _ ?_)
       refine wp_ret ?_
       refine bodyPost_ret (v := .bool false) (gRes1 rfl (gResTmp (t := 4) (v := .bool false) (litGet (by kernel_rfl)))) rfl ?_
       exact ⟨congrArg (fun b_ => Ending.returned (.bool b_)) (decide_eq_false (by unfold Bx.has; omega)).symm, hm6.bel⟩
     refine litVal (v := .bool false) rfl (wn rfl) (boolTo (decide_eq_false h37) (gGeq (A := p.z) (B := b.mn.z) (.tmp 37) (.tmp 40) rfl (litEv (by kernel_rfl)) (litEv (by kernel_rfl)))) rfl (by decide) ?_
     refine lk (v := .bool false) rfl rfl rfl ?_
     refine plSkip (i := 7) rfl (wgN rfl rfl rfl (by decide) (by kernel_rfl)) ?_
     refine qP rfl ?_
     refine plSkip (i := 8) rfl (wgN rfl rfl rfl (by decide) (by kernel_rfl)) ?_
     refine qP rfl ?_
     refine plSkip (i := 9) rfl (wgN rfl rfl rfl (by decide) (by kernel_rfl)) ?_
     refine qP rfl ?_
     refine plSkip (i := 10) rfl (wgN rfl rfl rfl (by decide) (by kernel_rfl)) ?_
     refine qP rfl ?_
     refine plSkip (i := 11) rfl (wgN rfl rfl rfl (by decide) (by kernel_rfl)) ?_
     refine qP rfl ?_
     refine plSkip (i := 12) rfl (wgN rfl rfl rfl (by decide) (by kernel_rfl)) ?_
     refine qP rfl ?_
     refine lk (v := .bool false) rfl rfl rfl ?_
     refine lk (v := .bool false) rfl rfl rfl ?_
     refine plD ?_
     refine then_normal (hK36 _ _ ?_)
     refine wpPrune [(4, .bool false), (5, .bool true), (6, .bool false), (7, .bool false)] ⟨litGet (by kernel_rfl), ⟨litGet (by kernel_rfl), ⟨litGet (by kernel_rfl), ⟨litGet (by kernel_rfl), trivial⟩⟩⟩⟩ (fun X43 => ?_)
     refine wp_seq_k fun K44 hK44 => ?_
     refine plStart ?_
     refine lk (v := .bool true) rfl rfl rfl ?_
     refine lk (v := .bool true) rfl rfl rfl ?_
     refine litVal (v := .bool false) rfl (wgY rfl rfl rfl (by decide) (by kernel_rfl)) (litRun (by kernel_rfl)) rfl (by decide) ?_
     refine lk (v := .bool false) rfl rfl rfl ?_
     refine lk (v := .bool false) rfl rfl rfl ?_
     refine plSkip (i := 5) rfl (wgN rfl rfl rfl (by decide) (by kernel_rfl)) ?_
     refine qP rfl ?_
     refine lk (v := .bool false) rfl rfl rfl ?_
     refine lk (v := .bool false) rfl rfl rfl ?_
     refine plD ?_
     refine then_normal (hK44 _ _ ?_)
     refine wp_ret ?_
     refine bodyPost_ret (v := .bool false) (gRes1 rfl (gResTmp (t := 4) (v := .bool false) (litGet (by kernel_rfl)))) rfl ?_
     exact ⟨congrArg (fun b_ => Ending.returned (.bool b_)) (decide_eq_false (by unfold Bx.has; omega)).symm, hm6.bel⟩
   refine litVal (v := .bool false) rfl (wgY rfl rfl rfl (by decide) (by kernel_rfl)) (boolTo (decide_eq_false h10) (lssRun (A := p.x) (B := b.mx.x) (.tmp 16) (.tmp 19) rfl (litEv (by kernel_rfl)) (litEv (by kernel_rfl)))) rfl (by decide) ?_
   refine lk (v := .bool false) rfl rfl rfl ?_
   refine lk (v := .bool false) rfl rfl rfl ?_
   refine plD ?_
   refine then_normal (hK8 _ _ ?_)
   refine wpPrune [(2, .pointer (some ⟨g2, 0, none⟩)), (3, .pointer (some ⟨g5, 0, none⟩)), (4, .bool false), (5, .bool false)] ⟨litGet (by kernel_rfl), ⟨litGet (by kernel_rfl), ⟨litGet (by kernel_rfl), ⟨litGet (by kernel_rfl), trivial⟩⟩⟩⟩ (fun X45 => ?_)
   refine wp_seq_k fun K46 hK46 => ?_
   refine plStart ?_
   refine lk (v := .pointer (some ⟨g2, 1, none⟩)) rfl rfl rfl ?_
   refine litVal (v := .int .i64 p.y) rfl (wn rfl) (gLoad (v := .int .i64 p.y) (k := 1) 0 hm6 rfl (by kernel_rfl) (.tmp 22) (by kernel_rfl) rfl (litEv (by kernel_rfl))) rfl (by decide) ?_
   refine lk (v := .pointer (some ⟨g5, 0, none⟩)) rfl rfl rfl ?_
   refine lk (v := .pointer (some ⟨g5, 1, none⟩)) rfl rfl rfl ?_
   refine litVal (v := .int .i64 b.mn.y) rfl (wn rfl) (gLoad (v := .int .i64 b.mn.y) (k := 1) 1 hm6 rfl (by kernel_rfl) (.tmp 25) (by kernel_rfl) rfl (litEv (by kernel_rfl))) rfl (by decide) ?_
   by_cases h47 : b.mn.y ≤ p.y
   · refine litVal (v := .bool true) rfl (wn rfl) (boolTo (decide_eq_true h47) (gGeq (A := p.y) (B := b.mn.y) (.tmp 23) (.tmp 26) rfl (litEv (by kernel_rfl)) (litEv (by kernel_rfl)))) rfl (by decide) ?_
     refine lk (v := .bool true) rfl rfl rfl ?_
     refine litVal (v := .pointer (some ⟨g2, 1, none⟩)) rfl (wgY rfl rfl rfl (by decide) (by kernel_rfl)) (litRun (by kernel_rfl)) rfl (by decide) ?_
     refine litVal (v := .int .i64 p.y) rfl (wgY rfl rfl rfl (by decide) (by kernel_rfl)) (gLoad (v := .int .i64 p.y) (k := 1) 0 hm6 rfl (by kernel_rfl) (.tmp 29) (by kernel_rfl) rfl (litEv (by kernel_rfl))) rfl (by decide) ?_
     refine litVal (v := .pointer (some ⟨g5, 3, none⟩)) rfl (wgY rfl rfl rfl (by decide) (by kernel_rfl)) (litRun (by kernel_rfl)) rfl (by decide) ?_
     refine litVal (v := .pointer (some ⟨g5, 4, none⟩)) rfl (wgY rfl rfl rfl (by decide) (by kernel_rfl)) (litRun (by kernel_rfl)) rfl (by decide) ?_
     refine litVal (v := .int .i64 b.mx.y) rfl (wgY rfl rfl rfl (by decide) (by kernel_rfl)) (gLoad (v := .int .i64 b.mx.y) (k := 4) 1 hm6 rfl (by kernel_rfl) (.tmp 32) (by kernel_rfl) rfl (litEv (by kernel_rfl))) rfl (by decide) ?_
     by_cases h48 : p.y < b.mx.y
     · refine litVal (v := .bool true) rfl (wgY rfl rfl rfl (by decide) (by kernel_rfl)) (boolTo (decide_eq_true h48) (lssRun (A := p.y) (B := b.mx.y) (.tmp 30) (.tmp 33) rfl (litEv (by kernel_rfl)) (litEv (by kernel_rfl)))) rfl (by decide) ?_
       refine lk (v := .bool true) rfl rfl rfl ?_
       refine lk (v := .bool true) rfl rfl rfl ?_
       refine plD ?_
       refine then_normal (hK46 _ _ ?_)
       refine wpPrune [(2, .pointer (some ⟨g2, 0, none⟩)), (3, .pointer (some ⟨g5, 0, none⟩)), (4, .bool false), (5, .bool false), (6, .bool true)] ⟨litGet (by kernel_rfl), ⟨litGet (by kernel_rfl), ⟨litGet (by kernel_rfl), ⟨litGet (by kernel_rfl), ⟨litGet (by kernel_rfl), trivial⟩⟩⟩⟩⟩ (fun X49 => ?_)
       refine wp_seq_k fun K50 hK50 => ?_
       refine plStart ?_
       refine lk (v := .pointer (some ⟨g2, 2, none⟩)) rfl rfl rfl ?_
       refine litVal (v := .int .i64 p.z) rfl (wn rfl) (gLoad (v := .int .i64 p.z) (k := 2) 0 hm6 rfl (by kernel_rfl) (.tmp 36) (by kernel_rfl) rfl (litEv (by kernel_rfl))) rfl (by decide) ?_
       refine lk (v := .pointer (some ⟨g5, 0, none⟩)) rfl rfl rfl ?_
       refine lk (v := .pointer (some ⟨g5, 2, none⟩)) rfl rfl rfl ?_
       refine litVal (v := .int .i64 b.mn.z) rfl (wn rfl) (gLoad (v := .int .i64 b.mn.z) (k := 2) 1 hm6 rfl (by kernel_rfl) (.tmp 39) (by kernel_rfl) rfl (litEv (by kernel_rfl))) rfl (by decide) ?_
       by_cases h51 : b.mn.z ≤ p.z
       · refine litVal (v := .bool true) rfl (wn rfl) (boolTo (decide_eq_true h51) (gGeq (A := p.z) (B := b.mn.z) (.tmp 37) (.tmp 40) rfl (litEv (by kernel_rfl)) (litEv (by kernel_rfl)))) rfl (by decide) ?_
         refine lk (v := .bool true) rfl rfl rfl ?_
         refine litVal (v := .pointer (some ⟨g2, 2, none⟩)) rfl (wgY rfl rfl rfl (by decide) (by kernel_rfl)) (litRun (by kernel_rfl)) rfl (by decide) ?_
         refine litVal (v := .int .i64 p.z) rfl (wgY rfl rfl rfl (by decide) (by kernel_rfl)) (gLoad (v := .int .i64 p.z) (k := 2) 0 hm6 rfl (by kernel_rfl) (.tmp 43) (by kernel_rfl) rfl (litEv (by kernel_rfl))) rfl (by decide) ?_
         refine litVal (v := .pointer (some ⟨g5, 3, none⟩)) rfl (wgY rfl rfl rfl (by decide) (by kernel_rfl)) (litRun (by kernel_rfl)) rfl (by decide) ?_
         refine litVal (v := .pointer (some ⟨g5, 5, none⟩)) rfl (wgY rfl rfl rfl (by decide) (by kernel_rfl)) (litRun (by kernel_rfl)) rfl (by decide) ?_
         refine litVal (v := .int .i64 b.mx.z) rfl (wgY rfl rfl rfl (by decide) (by kernel_rfl)) (gLoad (v := .int .i64 b.mx.z) (k := 5) 1 hm6 rfl (by kernel_rfl) (.tmp 46) (by kernel_rfl) rfl (litEv (by kernel_rfl))) rfl (by decide) ?_
         by_cases h52 : p.z < b.mx.z
         · refine litVal (v := .bool true) rfl (wgY rfl rfl rfl (by decide) (by kernel_rfl)) (boolTo (decide_eq_true h52) (lssRun (A := p.z) (B := b.mx.z) (.tmp 44) (.tmp 47) rfl (litEv (by kernel_rfl)) (litEv (by kernel_rfl)))) rfl (by decide) ?_
           refine lk (v := .bool true) rfl rfl rfl ?_
           refine lk (v := .bool true) rfl rfl rfl ?_
           refine plD ?_
           refine then_normal (hK50 _ _ ?_)
           refine wpPrune [(4, .bool false), (5, .bool false), (6, .bool true), (7, .bool true)] ⟨litGet (by kernel_rfl), ⟨litGet (by kernel_rfl), ⟨litGet (by kernel_rfl), ⟨litGet (by kernel_rfl), trivial⟩⟩⟩⟩ (fun X53 => ?_)
           refine wp_seq_k fun K54 hK54 => ?_
           refine plStart ?_
           refine lk (v := .bool false) rfl rfl rfl ?_
           refine lk (v := .bool false) rfl rfl rfl ?_
           refine plSkip (i := 2) rfl (wgN rfl rfl rfl (by decide) (by kernel_rfl)) ?_
           refine qP rfl ?_
           refine lk (v := .bool false) rfl rfl rfl ?_
           refine lk (v := .bool false) rfl rfl rfl ?_
           refine plSkip (i := 5) rfl (wgN rfl rfl rfl (by decide) (by kernel_rfl)) ?_
           refine qP rfl ?_
           refine lk (v := .bool false) rfl rfl rfl ?_
           refine lk (v := .bool false) rfl rfl rfl ?_
           refine plD ?_
           refine then_normal (hK54 _ _ ?_)
           refine wp_ret ?_
           refine bodyPost_ret (v := .bool false) (gRes1 rfl (gResTmp (t := 4) (v := .bool false) (litGet (by kernel_rfl)))) rfl ?_
           exact ⟨congrArg (fun b_ => Ending.returned (.bool b_)) (decide_eq_false (by unfold Bx.has; omega)).symm, hm6.bel⟩
         refine litVal (v := .bool false) rfl (wgY rfl rfl rfl (by decide) (by kernel_rfl)) (boolTo (decide_eq_false h52) (lssRun (A := p.z) (B := b.mx.z) (.tmp 44) (.tmp 47) rfl (litEv (by kernel_rfl)) (litEv (by kernel_rfl)))) rfl (by decide) ?_
         refine lk (v := .bool false) rfl rfl rfl ?_
         refine lk (v := .bool false) rfl rfl rfl ?_
         refine plD ?_
         refine then_normal (hK50 _ _ ?_)
         refine wpPrune [(4, .bool false), (5, .bool false), (6, .bool true), (7, .bool false)] ⟨litGet (by kernel_rfl), ⟨litGet (by kernel_rfl), ⟨litGet (by kernel_rfl), ⟨litGet (by kernel_rfl), trivial⟩⟩⟩⟩ (fun X55 => ?_)
         refine wp_seq_k fun K56 hK56 => ?_
         refine plStart ?_
         refine lk (v := .bool false) rfl rfl rfl ?_
         refine lk (v := .bool false) rfl rfl rfl ?_
         refine plSkip (i := 2) rfl (wgN rfl rfl rfl (by decide) (by kernel_rfl)) ?_
         refine qP rfl ?_
         refine lk (v := .bool false) rfl rfl rfl ?_
         refine lk (v := .bool false) rfl rfl rfl ?_
         refine plSkip (i := 5) rfl (wgN rfl rfl rfl (by decide) (by kernel_rfl)) ?_
         refine qP rfl ?_
         refine lk (v := .bool false) rfl rfl rfl ?_
         refine lk (v := .bool false) rfl rfl rfl ?_
         refine plD ?_
         refine then_normal (hK56 _ _ ?_)
         refine wp_ret ?_
         refine bodyPost_ret (v := .bool false) (gRes1 rfl (gResTmp (t := 4) (v := .bool false) (litGet (by kernel_rfl)))) rfl ?_
         exact ⟨congrArg (fun b_ => Ending.returned (.bool b_)) (decide_eq_false (by unfold Bx.has; omega)).symm, hm6.bel⟩
       refine litVal (v := .bool false) rfl (wn rfl) (boolTo (decide_eq_false h51) (gGeq (A := p.z) (B := b.mn.z) (.tmp 37) (.tmp 40) rfl (litEv (by kernel_rfl)) (litEv (by kernel_rfl)))) rfl (by decide) ?_
       refine lk (v := .bool false) rfl rfl rfl ?_
       refine plSkip (i := 7) rfl (wgN rfl rfl rfl (by decide) (by kernel_rfl)) ?_
       refine qP rfl ?_
       refine plSkip (i := 8) rfl (wgN rfl rfl rfl (by decide) (by kernel_rfl)) ?_
       refine qP rfl ?_
       refine plSkip (i := 9) rfl (wgN rfl rfl rfl (by decide) (by kernel_rfl)) ?_
       refine qP rfl ?_
       refine plSkip (i := 10) rfl (wgN rfl rfl rfl (by decide) (by kernel_rfl)) ?_
       refine qP rfl ?_
       refine plSkip (i := 11) rfl (wgN rfl rfl rfl (by decide) (by kernel_rfl)) ?_
       refine qP rfl ?_
       refine plSkip (i := 12) rfl (wgN rfl rfl rfl (by decide) (by kernel_rfl)) ?_
       refine qP rfl ?_
       refine lk (v := .bool false) rfl rfl rfl ?_
       refine lk (v := .bool false) rfl rfl rfl ?_
       refine plD ?_
       refine then_normal (hK50 _ _ ?_)
       refine wpPrune [(4, .bool false), (5, .bool false), (6, .bool true), (7, .bool false)] ⟨litGet (by kernel_rfl), ⟨litGet (by kernel_rfl), ⟨litGet (by kernel_rfl), ⟨litGet (by kernel_rfl), trivial⟩⟩⟩⟩ (fun X57 => ?_)
       refine wp_seq_k fun K58 hK58 => ?_
       refine plStart ?_
       refine lk (v := .bool false) rfl rfl rfl ?_
       refine lk (v := .bool false) rfl rfl rfl ?_
       refine plSkip (i := 2) rfl (wgN rfl rfl rfl (by decide) (by kernel_rfl)) ?_
       refine qP rfl ?_
       refine lk (v := .bool false) rfl rfl rfl ?_
       refine lk (v := .bool false) rfl rfl rfl ?_
       refine plSkip (i := 5) rfl (wgN rfl rfl rfl (by decide) (by kernel_rfl)) ?_
       refine qP rfl ?_
       refine lk (v := .bool false) rfl rfl rfl ?_
       refine lk (v := .bool false) rfl rfl rfl ?_
       refine plD ?_
       refine then_normal (hK58 _ _ ?_)
       refine wp_ret ?_
       refine bodyPost_ret (v := .bool false) (gRes1 rfl (gResTmp (t := 4) (v := .bool false) (litGet (by kernel_rfl)))) rfl ?_
       exact ⟨congrArg (fun b_ => Ending.returned (.bool b_)) (decide_eq_false (by unfold Bx.has; omega)).symm, hm6.bel⟩
     refine litVal (v := .bool false) rfl (wgY rfl rfl rfl (by decide) (by kernel_rfl)) (boolTo (decide_eq_false h48) (lssRun (A := p.y) (B := b.mx.y) (.tmp 30) (.tmp 33) rfl (litEv (by kernel_rfl)) (litEv (by kernel_rfl)))) rfl (by decide) ?_
     refine lk (v := .bool false) rfl rfl rfl ?_
     refine lk (v := .bool false) rfl rfl rfl ?_
     refine plD ?_
     refine then_normal (hK46 _ _ ?_)
     refine wpPrune [(2, .pointer (some ⟨g2, 0, none⟩)), (3, .pointer (some ⟨g5, 0, none⟩)), (4, .bool false), (5, .bool false), (6, .bool false)] ⟨litGet (by kernel_rfl), ⟨litGet (by kernel_rfl), ⟨litGet (by kernel_rfl), ⟨litGet (by kernel_rfl), ⟨litGet (by kernel_rfl), trivial⟩⟩⟩⟩⟩ (fun X59 => ?_)
     refine wp_seq_k fun K60 hK60 => ?_
     refine plStart ?_
     refine lk (v := .pointer (some ⟨g2, 2, none⟩)) rfl rfl rfl ?_
     refine litVal (v := .int .i64 p.z) rfl (wn rfl) (gLoad (v := .int .i64 p.z) (k := 2) 0 hm6 rfl (by kernel_rfl) (.tmp 36) (by kernel_rfl) rfl (litEv (by kernel_rfl))) rfl (by decide) ?_
     refine lk (v := .pointer (some ⟨g5, 0, none⟩)) rfl rfl rfl ?_
     refine lk (v := .pointer (some ⟨g5, 2, none⟩)) rfl rfl rfl ?_
     refine litVal (v := .int .i64 b.mn.z) rfl (wn rfl) (gLoad (v := .int .i64 b.mn.z) (k := 2) 1 hm6 rfl (by kernel_rfl) (.tmp 39) (by kernel_rfl) rfl (litEv (by kernel_rfl))) rfl (by decide) ?_
     by_cases h61 : b.mn.z ≤ p.z
     · refine litVal (v := .bool true) rfl (wn rfl) (boolTo (decide_eq_true h61) (gGeq (A := p.z) (B := b.mn.z) (.tmp 37) (.tmp 40) rfl (litEv (by kernel_rfl)) (litEv (by kernel_rfl)))) rfl (by decide) ?_
       refine lk (v := .bool true) rfl rfl rfl ?_
       refine litVal (v := .pointer (some ⟨g2, 2, none⟩)) rfl (wgY rfl rfl rfl (by decide) (by kernel_rfl)) (litRun (by kernel_rfl)) rfl (by decide) ?_
       refine litVal (v := .int .i64 p.z) rfl (wgY rfl rfl rfl (by decide) (by kernel_rfl)) (gLoad (v := .int .i64 p.z) (k := 2) 0 hm6 rfl (by kernel_rfl) (.tmp 43) (by kernel_rfl) rfl (litEv (by kernel_rfl))) rfl (by decide) ?_
       refine litVal (v := .pointer (some ⟨g5, 3, none⟩)) rfl (wgY rfl rfl rfl (by decide) (by kernel_rfl)) (litRun (by kernel_rfl)) rfl (by decide) ?_
       refine litVal (v := .pointer (some ⟨g5, 5, none⟩)) rfl (wgY rfl rfl rfl (by decide) (by kernel_rfl)) (litRun (by kernel_rfl)) rfl (by decide) ?_
       refine litVal (v := .int .i64 b.mx.z) rfl (wgY rfl rfl rfl (by decide) (by kernel_rfl)) (gLoad (v := .int .i64 b.mx.z) (k := 5) 1 hm6 rfl (by kernel_rfl) (.tmp 46) (by kernel_rfl) rfl (litEv (by kernel_rfl))) rfl (by decide) ?_
       by_cases h62 : p.z < b.mx.z
       · refine litVal (v := .bool true) rfl (wgY rfl rfl rfl (by decide) (by kernel_rfl)) (boolTo (decide_eq_true h62) (lssRun (A := p.z) (B := b.mx.z) (.tmp 44) (.tmp 47) rfl (litEv (by kernel_rfl)) (litEv (by kernel_rfl)))) rfl (by decide) ?_
         refine lk (v := .bool true) rfl rfl rfl ?_
         refine lk (v := .bool true) rfl rfl rfl ?_
         refine plD ?_
         refine then_normal (hK60 _ _ ?_)
         refine wpPrune [(4, .bool false), (5, .bool false), (6, .bool false), (7, .bool true)] ⟨litGet (by kernel_rfl), ⟨litGet (by kernel_rfl), ⟨litGet (by kernel_rfl), ⟨litGet (by kernel_rfl), trivial⟩⟩⟩⟩ (fun X63 => ?_)
         refine wp_seq_k fun K64 hK64 => ?_
         refine plStart ?_
         refine lk (v := .bool false) rfl rfl rfl ?_
         refine lk (v := .bool false) rfl rfl rfl ?_
         refine plSkip (i := 2) rfl (wgN rfl rfl rfl (by decide) (by kernel_rfl)) ?_
         refine qP rfl ?_
         refine lk (v := .bool false) rfl rfl rfl ?_
         refine lk (v := .bool false) rfl rfl rfl ?_
         refine plSkip (i := 5) rfl (wgN rfl rfl rfl (by decide) (by kernel_rfl)) ?_
         refine qP rfl ?_
         refine lk (v := .bool false) rfl rfl rfl ?_
         refine lk (v := .bool false) rfl rfl rfl ?_
         refine plD ?_
         refine then_normal (hK64 _ _ ?_)
         refine wp_ret ?_
         refine bodyPost_ret (v := .bool false) (gRes1 rfl (gResTmp (t := 4) (v := .bool false) (litGet (by kernel_rfl)))) rfl ?_
         exact ⟨congrArg (fun b_ => Ending.returned (.bool b_)) (decide_eq_false (by unfold Bx.has; omega)).symm, hm6.bel⟩
       refine litVal (v := .bool false) rfl (wgY rfl rfl rfl (by decide) (by kernel_rfl)) (boolTo (decide_eq_false h62) (lssRun (A := p.z) (B := b.mx.z) (.tmp 44) (.tmp 47) rfl (litEv (by kernel_rfl)) (litEv (by kernel_rfl)))) rfl (by decide) ?_
       refine lk (v := .bool false) rfl rfl rfl ?_
       refine lk (v := .bool false) rfl rfl rfl ?_
       refine plD ?_
       refine then_normal (hK60 _ _ ?_)
       refine wpPrune [(4, .bool false), (5, .bool false), (6, .bool false), (7, .bool false)] ⟨litGet (by kernel_rfl), ⟨litGet (by kernel_rfl), ⟨litGet (by kernel_rfl), ⟨litGet (by kernel_rfl), trivial⟩⟩⟩⟩ (fun X65 => ?_)
       refine wp_seq_k fun K66 hK66 => ?_
       refine plStart ?_
       refine lk (v := .bool false) rfl rfl rfl ?_
       refine lk (v := .bool false) rfl rfl rfl ?_
       refine plSkip (i := 2) rfl (wgN rfl rfl rfl (by decide) (by kernel_rfl)) ?_
       refine qP rfl ?_
       refine lk (v := .bool false) rfl rfl rfl ?_
       refine lk (v := .bool false) rfl rfl rfl ?_
       refine plSkip (i := 5) rfl (wgN rfl rfl rfl (by decide) (by kernel_rfl)) ?_
       refine qP rfl ?_
       refine lk (v := .bool false) rfl rfl rfl ?_
       refine lk (v := .bool false) rfl rfl rfl ?_
       refine plD ?_
       refine then_normal (hK66 _ _ ?_)
       refine wp_ret ?_
       refine bodyPost_ret (v := .bool false) (gRes1 rfl (gResTmp (t := 4) (v := .bool false) (litGet (by kernel_rfl)))) rfl ?_
       exact ⟨congrArg (fun b_ => Ending.returned (.bool b_)) (decide_eq_false (by unfold Bx.has; omega)).symm, hm6.bel⟩
     refine litVal (v := .bool false) rfl (wn rfl) (boolTo (decide_eq_false h61) (gGeq (A := p.z) (B := b.mn.z) (.tmp 37) (.tmp 40) rfl (litEv (by kernel_rfl)) (litEv (by kernel_rfl)))) rfl (by decide) ?_
     refine lk (v := .bool false) rfl rfl rfl ?_
     refine plSkip (i := 7) rfl (wgN rfl rfl rfl (by decide) (by kernel_rfl)) ?_
     refine qP rfl ?_
     refine plSkip (i := 8) rfl (wgN rfl rfl rfl (by decide) (by kernel_rfl)) ?_
     refine qP rfl ?_
     refine plSkip (i := 9) rfl (wgN rfl rfl rfl (by decide) (by kernel_rfl)) ?_
     refine qP rfl ?_
     refine plSkip (i := 10) rfl (wgN rfl rfl rfl (by decide) (by kernel_rfl)) ?_
     refine qP rfl ?_
     refine plSkip (i := 11) rfl (wgN rfl rfl rfl (by decide) (by kernel_rfl)) ?_
     refine qP rfl ?_
     refine plSkip (i := 12) rfl (wgN rfl rfl rfl (by decide) (by kernel_rfl)) ?_
     refine qP rfl ?_
     refine lk (v := .bool false) rfl rfl rfl ?_
     refine lk (v := .bool false) rfl rfl rfl ?_
     refine plD ?_
     refine then_normal (hK60 _ _ ?_)
     refine wpPrune [(4, .bool false), (5, .bool false), (6, .bool false), (7, .bool false)] ⟨litGet (by kernel_rfl), ⟨litGet (by kernel_rfl), ⟨litGet (by kernel_rfl), ⟨litGet (by kernel_rfl), trivial⟩⟩⟩⟩ (fun X67 => ?_)
     refine wp_seq_k fun K68 hK68 => ?_
     refine plStart ?_
     refine lk (v := .bool false) rfl rfl rfl ?_
     refine lk (v := .bool false) rfl rfl rfl ?_
     refine plSkip (i := 2) rfl (wgN rfl rfl rfl (by decide) (by kernel_rfl)) ?_
     refine qP rfl ?_
     refine lk (v := .bool false) rfl rfl rfl ?_
     refine lk (v := .bool false) rfl rfl rfl ?_
     refine plSkip (i := 5) rfl (wgN rfl rfl rfl (by decide) (by kernel_rfl)) ?_
     refine qP rfl ?_
     refine lk (v := .bool false) rfl rfl rfl ?_
     refine lk (v := .bool false) rfl rfl rfl ?_
     refine plD ?_
     refine then_normal (hK68 _ _ ?_)
     refine wp_ret ?_
     refine bodyPost_ret (v := .bool false) (gRes1 rfl (gResTmp (t := 4) (v := .bool false) (litGet (by kernel_rfl)))) rfl ?_
     exact ⟨congrArg (fun b_ => Ending.returned (.bool b_)) (decide_eq_false (by unfold Bx.has; omega)).symm, hm6.bel⟩
   refine litVal (v := .bool false) rfl (wn rfl) (boolTo (decide_eq_false h47) (gGeq (A := p.y) (B := b.mn.y) (.tmp 23) (.tmp 26) rfl (litEv (by kernel_rfl)) (litEv (by kernel_rfl)))) rfl (by decide) ?_
   refine lk (v := .bool false) rfl rfl rfl ?_
   refine plSkip (i := 7) rfl (wgN rfl rfl rfl (by decide) (by kernel_rfl)) ?_
   refine qP rfl ?_
   refine plSkip (i := 8) rfl (wgN rfl rfl rfl (by decide) (by kernel_rfl)) ?_
   refine qP rfl ?_
   refine plSkip (i := 9) rfl (wgN rfl rfl rfl (by decide) (by kernel_rfl)) ?_
   refine qP rfl ?_
   refine plSkip (i := 10) rfl (wgN rfl rfl rfl (by decide) (by kernel_rfl)) ?_
   refine qP rfl ?_
   refine plSkip (i := 11) rfl (wgN rfl rfl rfl (by decide) (by kernel_rfl)) ?_
   refine qP rfl ?_
   refine plSkip (i := 12) rfl (wgN rfl rfl rfl (by decide) (by kernel_rfl)) ?_
   refine qP rfl ?_
   refine lk (v := .bool false) rfl rfl rfl ?_
   refine lk (v := .bool false) rfl rfl rfl ?_
   refine plD ?_
   refine then_normal (hK46 _ _ ?_)
   refine wpPrune [(2, .pointer (some ⟨g2, 0, none⟩)), (3, .pointer (some ⟨g5, 0, none⟩)), (4, .bool false), (5, .bool false), (6, .bool false)] ⟨litGet (by kernel_rfl), ⟨litGet (by kernel_rfl), ⟨litGet (by kernel_rfl), ⟨litGet (by kernel_rfl), ⟨litGet (by kernel_rfl), trivial⟩⟩⟩⟩⟩ (fun X69 => ?_)
   refine wp_seq_k fun K70 hK70 => ?_
   refine plStart ?_
   refine lk (v := .pointer (some ⟨g2, 2, none⟩)) rfl rfl rfl ?_
   refine litVal (v := .int .i64 p.z) rfl (wn rfl) (gLoad (v := .int .i64 p.z) (k := 2) 0 hm6 rfl (by kernel_rfl) (.tmp 36) (by kernel_rfl) rfl (litEv (by kernel_rfl))) rfl (by decide) ?_
   refine lk (v := .pointer (some ⟨g5, 0, none⟩)) rfl rfl rfl ?_
   refine lk (v := .pointer (some ⟨g5, 2, none⟩)) rfl rfl rfl ?_
   refine litVal (v := .int .i64 b.mn.z) rfl (wn rfl) (gLoad (v := .int .i64 b.mn.z) (k := 2) 1 hm6 rfl (by kernel_rfl) (.tmp 39) (by kernel_rfl) rfl (litEv (by kernel_rfl))) rfl (by decide) ?_
   by_cases h71 : b.mn.z ≤ p.z
   · refine litVal (v := .bool true) rfl (wn rfl) (boolTo (decide_eq_true h71) (gGeq (A := p.z) (B := b.mn.z) (.tmp 37) (.tmp 40) rfl (litEv (by kernel_rfl)) (litEv (by kernel_rfl)))) rfl (by decide) ?_
     refine lk (v := .bool true) rfl rfl rfl ?_
     refine litVal (v := .pointer (some ⟨g2, 2, none⟩)) rfl (wgY rfl rfl rfl (by decide) (by kernel_rfl)) (litRun (by kernel_rfl)) rfl (by decide) ?_
     refine litVal (v := .int .i64 p.z) rfl (wgY rfl rfl rfl (by decide) (by kernel_rfl)) (gLoad (v := .int .i64 p.z) (k := 2) 0 hm6 rfl (by kernel_rfl) (.tmp 43) (by kernel_rfl) rfl (litEv (by kernel_rfl))) rfl (by decide) ?_
     refine litVal (v := .pointer (some ⟨g5, 3, none⟩)) rfl (wgY rfl rfl rfl (by decide) (by kernel_rfl)) (litRun (by kernel_rfl)) rfl (by decide) ?_
     refine litVal (v := .pointer (some ⟨g5, 5, none⟩)) rfl (wgY rfl rfl rfl (by decide) (by kernel_rfl)) (litRun (by kernel_rfl)) rfl (by decide) ?_
     refine litVal (v := .int .i64 b.mx.z) rfl (wgY rfl rfl rfl (by decide) (by kernel_rfl)) (gLoad (v := .int .i64 b.mx.z) (k := 5) 1 hm6 rfl (by kernel_rfl) (.tmp 46) (by kernel_rfl) rfl (litEv (by kernel_rfl))) rfl (by decide) ?_
     by_cases h72 : p.z < b.mx.z
     · refine litVal (v := .bool true) rfl (wgY rfl rfl rfl (by decide) (by kernel_rfl)) (boolTo (decide_eq_true h72) (lssRun (A := p.z) (B := b.mx.z) (.tmp 44) (.tmp 47) rfl (litEv (by kernel_rfl)) (litEv (by kernel_rfl)))) rfl (by decide) ?_
       refine lk (v := .bool true) rfl rfl rfl ?_
       refine lk (v := .bool true) rfl rfl rfl ?_
       refine plD ?_
       refine then_normal (hK70 _ _ ?_)
       refine wpPrune [(4, .bool false), (5, .bool false), (6, .bool false), (7, .bool true)] ⟨litGet (by kernel_rfl), ⟨litGet (by kernel_rfl), ⟨litGet (by kernel_rfl), ⟨litGet (by kernel_rfl), trivial⟩⟩⟩⟩ (fun X73 => ?_)
       refine wp_seq_k fun K74 hK74 => ?_
       refine plStart ?_
       refine lk (v := .bool false) rfl rfl rfl ?_
       refine lk (v := .bool false) rfl rfl rfl ?_
       refine plSkip (i := 2) rfl (wgN rfl rfl rfl (by decide) (by kernel_rfl)) ?_
       refine qP rfl ?_
       refine lk (v := .bool false) rfl rfl rfl ?_
       refine lk (v := .bool false) rfl rfl rfl ?_
       refine plSkip (i := 5) rfl (wgN rfl rfl rfl (by decide) (by kernel_rfl)) ?_
       refine qP rfl ?_
       refine lk (v := .bool false) rfl rfl rfl ?_
       refine lk (v := .bool false) rfl rfl rfl ?_
       refine plD ?_
       refine then_normal (hK74 _ _ ?_)
       refine wp_ret ?_
       refine bodyPost_ret (v := .bool false) (gRes1 rfl (gResTmp (t := 4) (v := .bool false) (litGet (by kernel_rfl)))) rfl ?_
       exact ⟨congrArg (fun b_ => Ending.returned (.bool b_)) (decide_eq_false (by unfold Bx.has; omega)).symm, hm6.bel⟩
     refine litVal (v := .bool false) rfl (wgY rfl rfl rfl (by decide) (by kernel_rfl)) (boolTo (decide_eq_false h72) (lssRun (A := p.z) (B := b.mx.z) (.tmp 44) (.tmp 47) rfl (litEv (by kernel_rfl)) (litEv (by kernel_rfl)))) rfl (by decide) ?_
     refine lk (v := .bool false) rfl rfl rfl ?_
     refine lk (v := .bool false) rfl rfl rfl ?_
     refine plD ?_
     refine then_normal (hK70 _ _ ?_)
     refine wpPrune [(4, .bool false), (5, .bool false), (6, .bool false), (7, .bool false)] ⟨litGet (by kernel_rfl), ⟨litGet (by kernel_rfl), ⟨litGet (by kernel_rfl), ⟨litGet (by kernel_rfl), trivial⟩⟩⟩⟩ (fun X75 => ?_)
     refine wp_seq_k fun K76 hK76 => ?_
     refine plStart ?_
     refine lk (v := .bool false) rfl rfl rfl ?_
     refine lk (v := .bool false) rfl rfl rfl ?_
     refine plSkip (i := 2) rfl (wgN rfl rfl rfl (by decide) (by kernel_rfl)) ?_
     refine qP rfl ?_
     refine lk (v := .bool false) rfl rfl rfl ?_
     refine lk (v := .bool false) rfl rfl rfl ?_
     refine plSkip (i := 5) rfl (wgN rfl rfl rfl (by decide) (by kernel_rfl)) ?_
     refine qP rfl ?_
     refine lk (v := .bool false) rfl rfl rfl ?_
     refine lk (v := .bool false) rfl rfl rfl ?_
     refine plD ?_
     refine then_normal (hK76 _ _ ?_)
     refine wp_ret ?_
     refine bodyPost_ret (v := .bool false) (gRes1 rfl (gResTmp (t := 4) (v := .bool false) (litGet (by kernel_rfl)))) rfl ?_
     exact ⟨congrArg (fun b_ => Ending.returned (.bool b_)) (decide_eq_false (by unfold Bx.has; omega)).symm, hm6.bel⟩
   refine litVal (v := .bool false) rfl (wn rfl) (boolTo (decide_eq_false h71) (gGeq (A := p.z) (B := b.mn.z) (.tmp 37) (.tmp 40) rfl (litEv (by kernel_rfl)) (litEv (by kernel_rfl)))) rfl (by decide) ?_
   refine lk (v := .bool false) rfl rfl rfl ?_
   refine plSkip (i := 7) rfl (wgN rfl rfl rfl (by decide) (by kernel_rfl)) ?_
   refine qP rfl ?_
   refine plSkip (i := 8) rfl (wgN rfl rfl rfl (by decide) (by kernel_rfl)) ?_
   refine qP rfl ?_
   refine plSkip (i := 9) rfl (wgN rfl rfl rfl (by decide) (by kernel_rfl)) ?_
   refine qP rfl ?_
   refine plSkip (i := 10) rfl (wgN rfl rfl rfl (by decide) (by kernel_rfl)) ?_
   refine qP rfl ?_
   refine plSkip (i := 11) rfl (wgN rfl rfl rfl (by decide) (by kernel_rfl)) ?_
   refine qP rfl ?_
   refine plSkip (i := 12) rfl (wgN rfl rfl rfl (by decide) (by kernel_rfl)) ?_
   refine qP rfl ?_
   refine lk (v := .bool false) rfl rfl rfl ?_
   refine lk (v := .bool false) rfl rfl rfl ?_
   refine plD ?_
   refine then_normal (hK70 _ _ ?_)
   refine wpPrune [(4, .bool false), (5, .bool false), (6, .bool false), (7, .bool false)] ⟨litGet (by kernel_rfl), ⟨litGet (by kernel_rfl), ⟨litGet (by kernel_rfl), ⟨litGet (by kernel_rfl), trivial⟩⟩⟩⟩ (fun X77 => ?_)
   refine wp_seq_k fun K78 hK78 => ?_
   refine plStart ?_
   refine lk (v := .bool false) rfl rfl rfl ?_
   refine lk (v := .bool false) rfl rfl rfl ?_
   refine plSkip (i := 2) rfl (wgN rfl rfl rfl (by decide) (by kernel_rfl)) ?_
   refine qP rfl ?_
   refine lk (v := .bool false) rfl rfl rfl ?_
   refine lk (v := .bool false) rfl rfl rfl ?_
   refine plSkip (i := 5) rfl (wgN rfl rfl rfl (by decide) (by kernel_rfl)) ?_
   refine qP rfl ?_
   refine lk (v := .bool false) rfl rfl rfl ?_
   refine lk (v := .bool false) rfl rfl rfl ?_
   refine plD ?_
   refine then_normal (hK78 _ _ ?_)
   refine wp_ret ?_
   refine bodyPost_ret (v := .bool false) (gRes1 rfl (gResTmp (t := 4) (v := .bool false) (litGet (by kernel_rfl)))) rfl ?_
   exact ⟨congrArg (fun b_ => Ending.returned (.bool b_)) (decide_eq_false (by unfold Bx.has; omega)).symm, hm6.bel⟩
 refine litVal (v := .bool false) rfl (wn rfl) (boolTo (decide_eq_false h9) (gGeq (A := p.x) (B := b.mn.x) (.tmp 9) (.tmp 12) rfl (litEv (by kernel_rfl)) (litEv (by kernel_rfl)))) rfl (by decide) ?_
 refine lk (v := .bool false) rfl rfl rfl ?_
 refine plSkip (i := 7) rfl (wgN rfl rfl rfl (by decide) (by kernel_rfl)) ?_
 refine qP rfl ?_
 refine plSkip (i := 8) rfl (wgN rfl rfl rfl (by decide) (by kernel_rfl)) ?_
 refine qP rfl ?_
 refine plSkip (i := 9) rfl (wgN rfl rfl rfl (by decide) (by kernel_rfl)) ?_
 refine qP rfl ?_
 refine plSkip (i := 10) rfl (wgN rfl rfl rfl (by decide) (by kernel_rfl)) ?_
 refine qP rfl ?_
 refine plSkip (i := 11) rfl (wgN rfl rfl rfl (by decide) (by kernel_rfl)) ?_
 refine qP rfl ?_
 refine plSkip (i := 12) rfl (wgN rfl rfl rfl (by decide) (by kernel_rfl)) ?_
 refine qP rfl ?_
 refine lk (v := .bool false) rfl rfl rfl ?_
 refine lk (v := .bool false) rfl rfl rfl ?_
 refine plD ?_
 refine then_normal (hK8 _ _ ?_)
 refine wpPrune [(2, .pointer (some ⟨g2, 0, none⟩)), (3, .pointer (some ⟨g5, 0, none⟩)), (4, .bool false), (5, .bool false)] ⟨litGet (by kernel_rfl), ⟨litGet (by kernel_rfl), ⟨litGet (by kernel_rfl), ⟨litGet (by kernel_rfl), trivial⟩⟩⟩⟩ (fun X79 => ?_)
 refine wp_seq_k fun K80 hK80 => ?_
 refine plStart ?_
 refine lk (v := .pointer (some ⟨g2, 1, none⟩)) rfl rfl rfl ?_
 refine litVal (v := .int .i64 p.y) rfl (wn rfl) (gLoad (v := .int .i64 p.y) (k := 1) 0 hm6 rfl (by kernel_rfl) (.tmp 22) (by kernel_rfl) rfl (litEv (by kernel_rfl))) rfl (by decide) ?_
 refine lk (v := .pointer (some ⟨g5, 0, none⟩)) rfl rfl rfl ?_
 refine lk (v := .pointer (some ⟨g5, 1, none⟩)) rfl rfl rfl ?_
 refine litVal (v := .int .i64 b.mn.y) rfl (wn rfl) (gLoad (v := .int .i64 b.mn.y) (k := 1) 1 hm6 rfl (by kernel_rfl) (.tmp 25) (by kernel_rfl) rfl (litEv (by kernel_rfl))) rfl (by decide) ?_
 by_cases h81 : b.mn.y ≤ p.y
 · refine litVal (v := .bool true) rfl (wn rfl) (boolTo (decide_eq_true h81) (gGeq (A := p.y) (B := b.mn.y) (.tmp 23) (.tmp 26) rfl (litEv (by kernel_rfl)) (litEv (by kernel_rfl)))) rfl (by decide) ?_
   refine lk (v := .bool true) rfl rfl rfl ?_
   refine litVal (v := .pointer (some ⟨g2, 1, none⟩)) rfl (wgY rfl rfl rfl (by decide) (by kernel_rfl)) (litRun (by kernel_rfl)) rfl (by decide) ?_
   refine litVal (v := .int .i64 p.y) rfl (wgY rfl rfl rfl (by decide) (by kernel_rfl)) (gLoad (v := .int .i64 p.y) (k := 1) 0 hm6 rfl (by kernel_rfl) (.tmp 29) (by kernel_rfl) rfl (litEv (by kernel_rfl))) rfl (by decide) ?_
   refine litVal (v := .pointer (some ⟨g5, 3, none⟩)) rfl (wgY rfl rfl rfl (by decide) (by kernel_rfl)) (litRun (by kernel_rfl)) rfl (by decide) ?_
   refine litVal (v := .pointer (some ⟨g5, 4, none⟩)) rfl (wgY rfl rfl rfl (by decide) (by kernel_rfl)) (litRun (by kernel_rfl)) rfl (by decide) ?_
   refine litVal (v := .int .i64 b.mx.y) rfl (wgY rfl rfl rfl (by decide) (by kernel_rfl)) (gLoad (v := .int .i64 b.mx.y) (k := 4) 1 hm6 rfl (by kernel_rfl) (.tmp 32) (by kernel_rfl) rfl (litEv (by kernel_rfl))) rfl (by decide) ?_
   by_cases h82 : p.y < b.mx.y
   · refine litVal (v := .bool true) rfl (wgY rfl rfl rfl (by decide) (by kernel_rfl)) (boolTo (decide_eq_true h82) (lssRun (A := p.y) (B := b.mx.y) (.tmp 30) (.tmp 33) rfl (litEv (by kernel_rfl)) (litEv (by kernel_rfl)))) rfl (by decide) ?_
     refine lk (v := .bool true) rfl rfl rfl ?_
     refine lk (v := .bool true) rfl rfl rfl ?_
     refine plD ?_
     refine then_normal (hK80 _ _ ?_)
     refine wpPrune [(2, .pointer (some ⟨g2, 0, none⟩)), (3, .pointer (some ⟨g5, 0, none⟩)), (4, .bool false), (5, .bool false), (6, .bool true)] ⟨litGet (by kernel_rfl), ⟨litGet (by kernel_rfl), ⟨litGet (by kernel_rfl), ⟨litGet (by kernel_rfl), ⟨litGet (by kernel_rfl), trivial⟩⟩⟩⟩⟩ (fun X83 => ?_)
     refine wp_seq_k fun K84 hK84 => ?_
     refine plStart ?_
     refine lk (v := .pointer (some ⟨g2, 2, none⟩)) rfl rfl rfl ?_
     refine litVal (v := .int .i64 p.z) rfl (wn rfl) (gLoad (v := .int .i64 p.z) (k := 2) 0 hm6 rfl (by kernel_rfl) (.tmp 36) (by kernel_rfl) rfl (litEv (by kernel_rfl))) rfl (by decide) ?_
     refine lk (v := .pointer (some ⟨g5, 0, none⟩)) rfl rfl rfl ?_
     refine lk (v := .pointer (some ⟨g5, 2, none⟩)) rfl rfl rfl ?_
     refine litVal (v := .int .i64 b.mn.z) rfl (wn rfl) (gLoad (v := .int .i64 b.mn.z) (k := 2) 1 hm6 rfl (by kernel_rfl) (.tmp 39) (by kernel_rfl) rfl (litEv (by kernel_rfl))) rfl (by decide) ?_
     by_cases h85 : b.mn.z ≤ p.z
     · refine litVal (v := .bool true) rfl (wn rfl) (boolTo (decide_eq_true h85) (gGeq (A := p.z) (B := b.mn.z) (.tmp 37) (.tmp 40) rfl (litEv (by kernel_rfl)) (litEv (by kernel_rfl)))) rfl (by decide) ?_
       refine lk (v := .bool true) rfl rfl rfl ?_
       refine litVal (v := .pointer (some ⟨g2, 2, none⟩)) rfl (wgY rfl rfl rfl (by decide) (by kernel_rfl)) (litRun (by kernel_rfl)) rfl (by decide) ?_
       refine litVal (v := .int .i64 p.z) rfl (wgY rfl rfl rfl (by decide) (by kernel_rfl)) (gLoad (v := .int .i64 p.z) (k := 2) 0 hm6 rfl (by kernel_rfl) (.tmp 43) (by kernel_rfl) rfl (litEv (by kernel_rfl))) rfl (by decide) ?_
       refine litVal (v := .pointer (some ⟨g5, 3, none⟩)) rfl (wgY rfl rfl rfl (by decide) (by kernel_rfl)) (litRun (by kernel_rfl)) rfl (by decide) ?_
       refine litVal (v := .pointer (some ⟨g5, 5, none⟩)) rfl (wgY rfl rfl rfl (by decide) (by kernel_rfl)) (litRun (by kernel_rfl)) rfl (by decide) ?_
       refine litVal (v := .int .i64 b.mx.z) rfl (wgY rfl rfl rfl (by decide) (by kernel_rfl)) (gLoad (v := .int .i64 b.mx.z) (k := 5) 1 hm6 rfl (by kernel_rfl) (.tmp 46) (by kernel_rfl) rfl (litEv (by kernel_rfl))) rfl (by decide) ?_
       by_cases h86 : p.z < b.mx.z
       · refine litVal (v := .bool true) rfl (wgY rfl rfl rfl (by decide) (by kernel_rfl)) (boolTo (decide_eq_true h86) (lssRun (A := p.z) (B := b.mx.z) (.tmp 44) (.tmp 47) rfl (litEv (by kernel_rfl)) (litEv (by kernel_rfl)))) rfl (by decide) ?_
         refine lk (v := .bool true) rfl rfl rfl ?_
         refine lk (v := .bool true) rfl rfl rfl ?_
         refine plD ?_
         refine then_normal (hK84 _ _ ?_)
         refine wpPrune [(4, .bool false), (5, .bool false), (6, .bool true), (7, .bool true)] ⟨litGet (by kernel_rfl), ⟨litGet (by kernel_rfl), ⟨litGet (by kernel_rfl), ⟨litGet (by kernel_rfl), trivial⟩⟩⟩⟩ (fun X87 => ?_)
         refine wp_seq_k fun K88 hK88 => ?_
         refine plStart ?_
         refine lk (v := .bool false) rfl rfl rfl ?_
         refine lk (v := .bool false) rfl rfl rfl ?_
         refine plSkip (i := 2) rfl (wgN rfl rfl rfl (by decide) (by kernel_rfl)) ?_
         refine qP rfl ?_
         refine lk (v := .bool false) rfl rfl rfl ?_
         refine lk (v := .bool false) rfl rfl rfl ?_
         refine plSkip (i := 5) rfl (wgN rfl rfl rfl (by decide) (by kernel_rfl)) ?_
         refine qP rfl ?_
         refine lk (v := .bool false) rfl rfl rfl ?_
         refine lk (v := .bool false) rfl rfl rfl ?_
         refine plD ?_
         refine then_normal (hK88 _ _ ?_)
         refine wp_ret ?_
         refine bodyPost_ret (v := .bool false) (gRes1 rfl (gResTmp (t := 4) (v := .bool false) (litGet (by kernel_rfl)))) rfl ?_
         exact ⟨congrArg (fun b_ => Ending.returned (.bool b_)) (decide_eq_false (by unfold Bx.has; omega)).symm, hm6.bel⟩
       refine litVal (v := .bool false) rfl (wgY rfl rfl rfl (by decide) (by kernel_rfl)) (boolTo (decide_eq_false h86) (lssRun (A := p.z) (B := b.mx.z) (.tmp 44) (.tmp 47) rfl (litEv (by kernel_rfl)) (litEv (by kernel_rfl)))) rfl (by decide) ?_
       refine lk (v := .bool false) rfl rfl rfl ?_
       refine lk (v := .bool false) rfl rfl rfl ?_
       refine plD ?_
       refine then_normal (hK84 _ _ ?_)
       refine wpPrune [(4, .bool false), (5, .bool false), (6, .bool true), (7, .bool false)] ⟨litGet (by kernel_rfl), ⟨litGet (by kernel_rfl), ⟨litGet (by kernel_rfl), ⟨litGet (by kernel_rfl), trivial⟩⟩⟩⟩ (fun X89 => ?_)
       refine wp_seq_k fun K90 hK90 => ?_
       refine plStart ?_
       refine lk (v := .bool false) rfl rfl rfl ?_
       refine lk (v := .bool false) rfl rfl rfl ?_
       refine plSkip (i := 2) rfl (wgN rfl rfl rfl (by decide) (by kernel_rfl)) ?_
       refine qP rfl ?_
       refine lk (v := .bool false) rfl rfl rfl ?_
       refine lk (v := .bool false) rfl rfl rfl ?_
       refine plSkip (i := 5) rfl (wgN rfl rfl rfl (by decide) (by kernel_rfl)) ?_
       refine qP rfl ?_
       refine lk (v := .bool false) rfl rfl rfl ?_
       refine lk (v := .bool false) rfl rfl rfl ?_
       refine plD ?_
       refine then_normal (hK90 _ _ ?_)
       refine wp_ret ?_
       refine bodyPost_ret (v := .bool false) (gRes1 rfl (gResTmp (t := 4) (v := .bool false) (litGet (by kernel_rfl)))) rfl ?_
       exact ⟨congrArg (fun b_ => Ending.returned (.bool b_)) (decide_eq_false (by unfold Bx.has; omega)).symm, hm6.bel⟩
     refine litVal (v := .bool false) rfl (wn rfl) (boolTo (decide_eq_false h85) (gGeq (A := p.z) (B := b.mn.z) (.tmp 37) (.tmp 40) rfl (litEv (by kernel_rfl)) (litEv (by kernel_rfl)))) rfl (by decide) ?_
     refine lk (v := .bool false) rfl rfl rfl ?_
     refine plSkip (i := 7) rfl (wgN rfl rfl rfl (by decide) (by kernel_rfl)) ?_
     refine qP rfl ?_
     refine plSkip (i := 8) rfl (wgN rfl rfl rfl (by decide) (by kernel_rfl)) ?_
     refine qP rfl ?_
     refine plSkip (i := 9) rfl (wgN rfl rfl rfl (by decide) (by kernel_rfl)) ?_
     refine qP rfl ?_
     refine plSkip (i := 10) rfl (wgN rfl rfl rfl (by decide) (by kernel_rfl)) ?_
     refine qP rfl ?_
     refine plSkip (i := 11) rfl (wgN rfl rfl rfl (by decide) (by kernel_rfl)) ?_
     refine qP rfl ?_
     refine plSkip (i := 12) rfl (wgN rfl rfl rfl (by decide) (by kernel_rfl)) ?_
     refine qP rfl ?_
     refine lk (v := .bool false) rfl rfl rfl ?_
     refine lk (v := .bool false) rfl rfl rfl ?_
     refine plD ?_
     refine then_normal (hK84 _ _ ?_)
     refine wpPrune [(4, .bool false), (5, .bool false), (6, .bool true), (7, .bool false)] ⟨litGet (by kernel_rfl), ⟨litGet (by kernel_rfl), ⟨litGet (by kernel_rfl), ⟨litGet (by kernel_rfl), trivial⟩⟩⟩⟩ (fun X91 => ?_)
     refine wp_seq_k fun K92 hK92 => ?_
     refine plStart ?_
     refine lk (v := .bool false) rfl rfl rfl ?_
     refine lk (v := .bool false) rfl rfl rfl ?_
     refine plSkip (i := 2) rfl (wgN rfl rfl rfl (by decide) (by kernel_rfl)) ?_
     refine qP rfl ?_
     refine lk (v := .bool false) rfl rfl rfl ?_
     refine lk (v := .bool false) rfl rfl rfl ?_
     refine plSkip (i := 5) rfl (wgN rfl rfl rfl (by decide) (by kernel_rfl)) ?_
     refine qP rfl ?_
     refine lk (v := .bool false) rfl rfl rfl ?_
     refine lk (v := .bool false) rfl rfl rfl ?_
     refine plD ?_
     refine then_normal (hK92 _ _ ?_)
     refine wp_ret ?_
     refine bodyPost_ret (v := .bool false) (gRes1 rfl (gResTmp (t := 4) (v := .bool false) (litGet (by kernel_rfl)))) rfl ?_
     exact ⟨congrArg (fun b_ => Ending.returned (.bool b_)) (decide_eq_false (by unfold Bx.has; omega)).symm, hm6.bel⟩
   refine litVal (v := .bool false) rfl (wgY rfl rfl rfl (by decide) (by kernel_rfl)) (boolTo (decide_eq_false h82) (lssRun (A := p.y) (B := b.mx.y) (.tmp 30) (.tmp 33) rfl (litEv (by kernel_rfl)) (litEv (by kernel_rfl)))) rfl (by decide) ?_
   refine lk (v := .bool false) rfl rfl rfl ?_
   refine lk (v := .bool false) rfl rfl rfl ?_
   refine plD ?_
   refine then_normal (hK80 _ _ ?_)
   refine wpPrune [(2, .pointer (some ⟨g2, 0, none⟩)), (3, .pointer (some ⟨g5, 0, none⟩)), (4, .bool false), (5, .bool false), (6, .bool false)] ⟨litGet (by kernel_rfl), ⟨litGet (by kernel_rfl), ⟨litGet (by kernel_rfl), ⟨litGet (by kernel_rfl), ⟨litGet (by kernel_rfl), trivial⟩⟩⟩⟩⟩ (fun X93 => ?_)
   refine wp_seq_k fun K94 hK94 => ?_
   refine plStart ?_
   refine lk (v := .pointer (some ⟨g2, 2, none⟩)) rfl rfl rfl ?_
   refine litVal (v := .int .i64 p.z) rfl (wn rfl) (gLoad (v := .int .i64 p.z) (k := 2) 0 hm6 rfl (by kernel_rfl) (.tmp 36) (by kernel_rfl) rfl (litEv (by kernel_rfl))) rfl (by decide) ?_
   refine lk (v := .pointer (some ⟨g5, 0, none⟩)) rfl rfl rfl ?_
   refine lk (v := .pointer (some ⟨g5, 2, none⟩)) rfl rfl rfl ?_
   refine litVal (v := .int .i64 b.mn.z) rfl (wn rfl) (gLoad (v := .int .i64 b.mn.z) (k := 2) 1 hm6 rfl (by kernel_rfl) (.tmp 39) (by kernel_rfl) rfl (litEv (by kernel_rfl))) rfl (by decide) ?_
   by_cases h95 : b.mn.z ≤ p.z
   · refine litVal (v := .bool true) rfl (wn rfl) (boolTo (decide_eq_true h95) (gGeq (A := p.z) (B := b.mn.z) (.tmp 37) (.tmp 40) rfl (litEv (by kernel_rfl)) (litEv (by kernel_rfl)))) rfl (by decide) ?_
     refine lk (v := .bool true) rfl rfl rfl ?_
     refine litVal (v := .pointer (some ⟨g2, 2, none⟩)) rfl (wgY rfl rfl rfl (by decide) (by kernel_rfl)) (litRun (by kernel_rfl)) rfl (by decide) ?_
     refine litVal (v := .int .i64 p.z) rfl (wgY rfl rfl rfl (by decide) (by kernel_rfl)) (gLoad (v := .int .i64 p.z) (k := 2) 0 hm6 rfl (by kernel_rfl) (.tmp 43) (by kernel_rfl) rfl (litEv (by kernel_rfl))) rfl (by decide) ?_
     refine litVal (v := .pointer (some ⟨g5, 3, none⟩)) rfl (wgY rfl rfl rfl (by decide) (by kernel_rfl)) (litRun (by kernel_rfl)) rfl (by decide) ?_
     refine litVal (v := .pointer (some ⟨g5, 5, none⟩)) rfl (wgY rfl rfl rfl (by decide) (by kernel_rfl)) (litRun (by kernel_rfl)) rfl (by decide) ?_
     refine litVal (v := .int .i64 b.mx.z) rfl (wgY rfl rfl rfl (by decide) (by kernel_rfl)) (gLoad (v := .int .i64 b.mx.z) (k := 5) 1 hm6 rfl (by kernel_rfl) (.tmp 46) (by kernel_rfl) rfl (litEv (by kernel_rfl))) rfl (by decide) ?_
     by_cases h96 : p.z < b.mx.z
     · refine litVal (v := .bool true) rfl (wgY rfl rfl rfl (by decide) (by kernel_rfl)) (boolTo (decide_eq_true h96) (lssRun (A := p.z) (B := b.mx.z) (.tmp 44) (.tmp 47) rfl (litEv (by kernel_rfl)) (litEv (by kernel_rfl)))) rfl (by decide) ?_
       refine lk (v := .bool true) rfl rfl rfl ?_
       refine lk (v := .bool true) rfl rfl rfl ?_
       refine plD ?_
       refine then_normal (hK94 _ _ ?_)
       refine wpPrune [(4, .bool false), (5, .bool false), (6, .bool false), (7, .bool true)] ⟨litGet (by kernel_rfl), ⟨litGet (by kernel_rfl), ⟨litGet (by kernel_rfl), ⟨litGet (by kernel_rfl), trivial⟩⟩⟩⟩ (fun X97 => ?_)
       refine wp_seq_k fun K98 hK98 => ?_
       refine plStart ?_
       refine lk (v := .bool false) rfl rfl rfl ?_
       refine lk (v := .bool false) rfl rfl rfl ?_
       refine plSkip (i := 2) rfl (wgN rfl rfl rfl (by decide) (by kernel_rfl)) ?_
       refine qP rfl ?_
       refine lk (v := .bool false) rfl rfl rfl ?_
       refine lk (v := .bool false) rfl rfl rfl ?_
       refine plSkip (i := 5) rfl (wgN rfl rfl rfl (by decide) (by kernel_rfl)) ?_
       refine qP rfl ?_
       refine lk (v := .bool false) rfl rfl rfl ?_
       refine lk (v := .bool false) rfl rfl rfl ?_
       refine plD ?_
       refine then_normal (hK98 _ _ ?_)
       refine wp_ret ?_
       refine bodyPost_ret (v := .bool false) (gRes1 rfl (gResTmp (t := 4) (v := .bool false) (litGet (by kernel_rfl)))) rfl ?_
       exact ⟨congrArg (fun b_ => Ending.returned (.bool b_)) (decide_eq_false (by unfold Bx.has; omega)).symm, hm6.bel⟩
     refine litVal (v := .bool false) rfl (wgY rfl rfl rfl (by decide) (by kernel_rfl)) (boolTo (decide_eq_false h96) (lssRun (A := p.z) (B := b.mx.z) (.tmp 44) (.tmp 47) rfl (litEv (by kernel_rfl)) (litEv (by kernel_rfl)))) rfl (by decide) ?_
     refine lk (v := .bool false) rfl rfl rfl ?_
     refine lk (v := .bool false) rfl rfl rfl ?_
     refine plD ?_
     refine then_normal (hK94 _ _ ?_)
     refine wpPrune [(4, .bool false), (5, .bool false), (6, .bool false), (7, .bool false)] ⟨litGet (by kernel_rfl), ⟨litGet (by kernel_rfl), ⟨litGet (by kernel_rfl), ⟨litGet (by kernel_rfl), trivial⟩⟩⟩⟩ (fun X99 => ?_)
     refine wp_seq_k fun K100 hK100 => ?_
     refine plStart ?_
     refine lk (v := .bool false) rfl rfl rfl ?_
     refine lk (v := .bool false) rfl rfl rfl ?_
     refine plSkip (i := 2) rfl (wgN rfl rfl rfl (by decide) (by kernel_rfl)) ?_
     refine qP rfl ?_
     refine lk (v := .bool false) rfl rfl rfl ?_
     refine lk (v := .bool false) rfl rfl rfl ?_
     refine plSkip (i := 5) rfl (wgN rfl rfl rfl (by decide) (by kernel_rfl)) ?_
     refine qP rfl ?_
     refine lk (v := .bool false) rfl rfl rfl ?_
     refine lk (v := .bool false) rfl rfl rfl ?_
     refine plD ?_
     refine then_normal (hK100 _ _ ?_)
     refine wp_ret ?_
     refine bodyPost_ret (v := .bool false) (gRes1 rfl (gResTmp (t := 4) (v := .bool false) (litGet (by kernel_rfl)))) rfl ?_
     exact ⟨congrArg (fun b_ => Ending.returned (.bool b_)) (decide_eq_false (by unfold Bx.has; omega)).symm, hm6.bel⟩
   refine litVal (v := .bool false) rfl (wn rfl) (boolTo (decide_eq_false h95) (gGeq (A := p.z) (B := b.mn.z) (.tmp 37) (.tmp 40) rfl (litEv (by kernel_rfl)) (litEv (by kernel_rfl)))) rfl (by decide) ?_
   refine lk (v := .bool false) rfl rfl rfl ?_
   refine plSkip (i := 7) rfl (wgN rfl rfl rfl (by decide) (by kernel_rfl)) ?_
   refine qP rfl ?_
   refine plSkip (i := 8) rfl (wgN rfl rfl rfl (by decide) (by kernel_rfl)) ?_
   refine qP rfl ?_
   refine plSkip (i := 9) rfl (wgN rfl rfl rfl (by decide) (by kernel_rfl)) ?_
   refine qP rfl ?_
   refine plSkip (i := 10) rfl (wgN rfl rfl rfl (by decide) (by kernel_rfl)) ?_
   refine qP rfl ?_
   refine plSkip (i := 11) rfl (wgN rfl rfl rfl (by decide) (by kernel_rfl)) ?_
   refine qP rfl ?_
   refine plSkip (i := 12) rfl (wgN rfl rfl rfl (by decide) (by kernel_rfl)) ?_
   refine qP rfl ?_
   refine lk (v := .bool false) rfl rfl rfl ?_
   refine lk (v := .bool false) rfl rfl rfl ?_
   refine plD ?_
   refine then_normal (hK94 _ _ ?_)
   refine wpPrune [(4, .bool false), (5, .bool false), (6, .bool false), (7, .bool false)] ⟨litGet (by kernel_rfl), ⟨litGet (by kernel_rfl), ⟨litGet (by kernel_rfl), ⟨litGet (by kernel_rfl), trivial⟩⟩⟩⟩ (fun X101 => ?_)
   refine wp_seq_k fun K102 hK102 => ?_
   refine plStart ?_
   refine lk (v := .bool false) rfl rfl rfl ?_
   refine lk (v := .bool false) rfl rfl rfl ?_
   refine plSkip (i := 2) rfl (wgN rfl rfl rfl (by decide) (by kernel_rfl)) ?_
   refine qP rfl ?_
   refine lk (v := .bool false) rfl rfl rfl ?_
   refine lk (v := .bool false) rfl rfl rfl ?_
   refine plSkip (i := 5) rfl (wgN rfl rfl rfl (by decide) (by kernel_rfl)) ?_
   refine qP rfl ?_
   refine lk (v := .bool false) rfl rfl rfl ?_
   refine lk (v := .bool false) rfl rfl rfl ?_
   refine plD ?_
   refine then_normal (hK102 _ _ ?_)
   refine wp_ret ?_
   refine bodyPost_ret (v := .bool false) (gRes1 rfl (gResTmp (t := 4) (v := .bool false) (litGet (by kernel_rfl)))) rfl ?_
   exact ⟨congrArg (fun b_ => Ending.returned (.bool b_)) (decide_eq_false (by unfold Bx.has; omega)).symm, hm6.bel⟩
 refine litVal (v := .bool false) rfl (wn rfl) (boolTo (decide_eq_false h81) (gGeq (A := p.y) (B := b.mn.y) (.tmp 23) (.tmp 26) rfl (litEv (by kernel_rfl)) (litEv (by kernel_rfl)))) rfl (by decide) ?_
 refine lk (v := .bool false) rfl rfl rfl ?_
 refine plSkip (i := 7) rfl (wgN rfl rfl rfl (by decide) (by kernel_rfl)) ?_
 refine qP rfl ?_
 refine plSkip (i := 8) rfl (wgN rfl rfl rfl (by decide) (by kernel_rfl)) ?_
 refine qP rfl ?_
 refine plSkip (i := 9) rfl (wgN rfl rfl rfl (by decide) (by kernel_rfl)) ?_
 refine qP rfl ?_
 refine plSkip (i := 10) rfl (wgN rfl rfl rfl (by decide) (by kernel_rfl)) ?_
 refine qP rfl ?_
 refine plSkip (i := 11) rfl (wgN rfl rfl rfl (by decide) (by kernel_rfl)) ?_
 refine qP rfl ?_
 refine plSkip (i := 12) rfl (wgN rfl rfl rfl (by decide) (by kernel_rfl)) ?_
 refine qP rfl ?_
 refine lk (v := .bool false) rfl rfl rfl ?_
 refine lk (v := .bool false) rfl rfl rfl ?_
 refine plD ?_
 refine then_normal (hK80 _ _ ?_)
 refine wpPrune [(2, .pointer (some ⟨g2, 0, none⟩)), (3, .pointer (some ⟨g5, 0, none⟩)), (4, .bool false), (5, .bool false), (6, .bool false)] ⟨litGet (by kernel_rfl), ⟨litGet (by kernel_rfl), ⟨litGet (by kernel_rfl), ⟨litGet (by kernel_rfl), ⟨litGet (by kernel_rfl), trivial⟩⟩⟩⟩⟩ (fun X103 => ?_)
 refine wp_seq_k fun K104 hK104 => ?_
 refine plStart ?_
 refine lk (v := .pointer (some ⟨g2, 2, none⟩)) rfl rfl rfl ?_
 refine litVal (v := .int .i64 p.z) rfl (wn rfl) (gLoad (v := .int .i64 p.z) (k := 2) 0 hm6 rfl (by kernel_rfl) (.tmp 36) (by kernel_rfl) rfl (litEv (by kernel_rfl))) rfl (by decide) ?_
 refine lk (v := .pointer (some ⟨g5, 0, none⟩)) rfl rfl rfl ?_
 refine lk (v := .pointer (some ⟨g5, 2, none⟩)) rfl rfl rfl ?_
 refine litVal (v := .int .i64 b.mn.z) rfl (wn rfl) (gLoad (v := .int .i64 b.mn.z) (k := 2) 1 hm6 rfl (by kernel_rfl) (.tmp 39) (by kernel_rfl) rfl (litEv (by kernel_rfl))) rfl (by decide) ?_
 by_cases h105 : b.mn.z ≤ p.z
 · refine litVal (v := .bool true) rfl (wn rfl) (boolTo (decide_eq_true h105) (gGeq (A := p.z) (B := b.mn.z) (.tmp 37) (.tmp 40) rfl (litEv (by kernel_rfl)) (litEv (by kernel_rfl)))) rfl (by decide) ?_
   refine lk (v := .bool true) rfl rfl rfl ?_
   refine litVal (v := .pointer (some ⟨g2, 2, none⟩)) rfl (wgY rfl rfl rfl (by decide) (by kernel_rfl)) (litRun (by kernel_rfl)) rfl (by decide) ?_
   refine litVal (v := .int .i64 p.z) rfl (wgY rfl rfl rfl (by decide) (by kernel_rfl)) (gLoad (v := .int .i64 p.z) (k := 2) 0 hm6 rfl (by kernel_rfl) (.tmp 43) (by kernel_rfl) rfl (litEv (by kernel_rfl))) rfl (by decide) ?_
   refine litVal (v := .pointer (some ⟨g5, 3, none⟩)) rfl (wgY rfl rfl rfl (by decide) (by kernel_rfl)) (litRun (by kernel_rfl)) rfl (by decide) ?_
   refine litVal (v := .pointer (some ⟨g5, 5, none⟩)) rfl (wgY rfl rfl rfl (by decide) (by kernel_rfl)) (litRun (by kernel_rfl)) rfl (by decide) ?_
   refine litVal (v := .int .i64 b.mx.z) rfl (wgY rfl rfl rfl (by decide) (by kernel_rfl)) (gLoad (v := .int .i64 b.mx.z) (k := 5) 1 hm6 rfl (by kernel_rfl) (.tmp 46) (by kernel_rfl) rfl (litEv (by kernel_rfl))) rfl (by decide) ?_
   by_cases h106 : p.z < b.mx.z
   · refine litVal (v := .bool true) rfl (wgY rfl rfl rfl (by decide) (by kernel_rfl)) (boolTo (decide_eq_true h106) (lssRun (A := p.z) (B := b.mx.z) (.tmp 44) (.tmp 47) rfl (litEv (by kernel_rfl)) (litEv (by kernel_rfl)))) rfl (by decide) ?_
     refine lk (v := .bool true) rfl rfl rfl ?_
     refine lk (v := .bool true) rfl rfl rfl ?_
     refine plD ?_
     refine then_normal (hK104 _ _ ?_)
     refine wpPrune [(4, .bool false), (5, .bool false), (6, .bool false), (7, .bool true)] ⟨litGet (by kernel_rfl), ⟨litGet (by kernel_rfl), ⟨litGet (by kernel_rfl), ⟨litGet (by kernel_rfl), trivial⟩⟩⟩⟩ (fun X107 => ?_)
     refine wp_seq_k fun K108 hK108 => ?_
     refine plStart ?_
     refine lk (v := .bool false) rfl rfl rfl ?_
     refine lk (v := .bool false) rfl rfl rfl ?_
     refine plSkip (i := 2) rfl (wgN rfl rfl rfl (by decide) (by kernel_rfl)) ?_
     refine qP rfl ?_
     refine lk (v := .bool false) rfl rfl rfl ?_
     refine lk (v := .bool false) rfl rfl rfl ?_
     refine plSkip (i := 5) rfl (wgN rfl rfl rfl (by decide) (by kernel_rfl)) ?_
     refine qP rfl ?_
     refine lk (v := .bool false) rfl rfl rfl ?_
     refine lk (v := .bool false) rfl rfl rfl ?_
     refine plD ?_
     refine then_normal (hK108 _ _ ?_)
     refine wp_ret ?_
     refine bodyPost_ret (v := .bool false) (gRes1 rfl (gResTmp (t := 4) (v := .bool false) (litGet (by kernel_rfl)))) rfl ?_
     exact ⟨congrArg (fun b_ => Ending.returned (.bool b_)) (decide_eq_false (by unfold Bx.has; omega)).symm, hm6.bel⟩
   refine litVal (v := .bool false) rfl (wgY rfl rfl rfl (by decide) (by kernel_rfl)) (boolTo (decide_eq_false h106) (lssRun (A := p.z) (B := b.mx.z) (.tmp 44) (.tmp 47) rfl (litEv (by kernel_rfl)) (litEv (by kernel_rfl)))) rfl (by decide) ?_
   refine lk (v := .bool false) rfl rfl rfl ?_
   refine lk (v := .bool false) rfl rfl rfl ?_
   refine plD ?_
   refine then_normal (hK104 _ _ ?_)
   refine wpPrune [(4, .bool false), (5, .bool false), (6, .bool false), (7, .bool false)] ⟨litGet (by kernel_rfl), ⟨litGet (by kernel_rfl), ⟨litGet (by kernel_rfl), ⟨litGet (by kernel_rfl), trivial⟩⟩⟩⟩ (fun X109 => ?_)
   refine wp_seq_k fun K110 hK110 => ?_
   refine plStart ?_
   refine lk (v := .bool false) rfl rfl rfl ?_
   refine lk (v := .bool false) rfl rfl rfl ?_
   refine plSkip (i := 2) rfl (wgN rfl rfl rfl (by decide) (by kernel_rfl)) ?_
   refine qP rfl ?_
   refine lk (v := .bool false) rfl rfl rfl ?_
   refine lk (v := .bool false) rfl rfl rfl ?_
   refine plSkip (i := 5) rfl (wgN rfl rfl rfl (by decide) (by kernel_rfl)) ?_
   refine qP rfl ?_
   refine lk (v := .bool false) rfl rfl rfl ?_
   refine lk (v := .bool false) rfl rfl rfl ?_
   refine plD ?_
   refine then_normal (hK110 _ _ ?_)
   refine wp_ret ?_
   refine bodyPost_ret (v := .bool false) (gRes1 rfl (gResTmp (t := 4) (v := .bool false) (litGet (by kernel_rfl)))) rfl ?_
   exact ⟨congrArg (fun b_ => Ending.returned (.bool b_)) (decide_eq_false (by unfold Bx.has; omega)).symm, hm6.bel⟩
 refine litVal (v := .bool false) rfl (wn rfl) (boolTo (decide_eq_false h105) (gGeq (A := p.z) (B := b.mn.z) (.tmp 37) (.tmp 40) rfl (litEv (by kernel_rfl)) (litEv (by kernel_rfl)))) rfl (by decide) ?_
 refine lk (v := .bool false) rfl rfl rfl ?_
 refine plSkip (i := 7) rfl (wgN rfl rfl rfl (by decide) (by kernel_rfl)) ?_
 refine qP rfl ?_
 refine plSkip (i := 8) rfl (wgN rfl rfl rfl (by decide) (by kernel_rfl)) ?_
 refine qP rfl ?_
 refine plSkip (i := 9) rfl (wgN rfl rfl rfl (by decide) (by kernel_rfl)) ?_
 refine qP rfl ?_
 refine plSkip (i := 10) rfl (wgN rfl rfl rfl (by decide) (by kernel_rfl)) ?_
 refine qP rfl ?_
 refine plSkip (i := 11) rfl (wgN rfl rfl rfl (by decide) (by kernel_rfl)) ?_
 refine qP rfl ?_
 refine plSkip (i := 12) rfl (wgN rfl rfl rfl (by decide) (by kernel_rfl)) ?_
 refine qP rfl ?_
 refine lk (v := .bool false) rfl rfl rfl ?_
 refine lk (v := .bool false) rfl rfl rfl ?_
 refine plD ?_
 refine then_normal (hK104 _ _ ?_)
 refine wpPrune [(4, .bool false), (5, .bool false), (6, .bool false), (7, .bool false)] ⟨litGet (by kernel_rfl), ⟨litGet (by kernel_rfl), ⟨litGet (by kernel_rfl), ⟨litGet (by kernel_rfl), trivial⟩⟩⟩⟩ (fun X111 => ?_)
 refine wp_seq_k fun K112 hK112 => ?_
 refine plStart ?_
 refine lk (v := .bool false) rfl rfl rfl ?_
 refine lk (v := .bool false) rfl rfl rfl ?_
 refine plSkip (i := 2) rfl (wgN rfl rfl rfl (by decide) (by kernel_rfl)) ?_
 refine qP rfl ?_
 refine lk (v := .bool false) rfl rfl rfl ?_
 refine lk (v := .bool false) rfl rfl rfl ?_
 refine plSkip (i := 5) rfl (wgN rfl rfl rfl (by decide) (by kernel_rfl)) ?_
 refine qP rfl ?_
 refine lk (v := .bool false) rfl rfl rfl ?_
 refine lk (v := .bool false) rfl rfl rfl ?_
 refine plD ?_
 refine then_normal (hK112 _ _ ?_)
 refine wp_ret ?_
 refine bodyPost_ret (v := .bool false) (gRes1 rfl (gResTmp (t := 4) (v := .bool false) (litGet (by kernel_rfl)))) rfl ?_
 exact ⟨congrArg (fun b_ => Ending.returned (.bool b_)) (decide_eq_false (by unfold Bx.has; omega)).symm, hm6.bel⟩
set_option maxRecDepth 100000 in
set_option maxHeartbeats 4000000 in
theorem empty_any (b : Bx) (w : World) : Calls Try.prog 51 #[.agg (bxs b).toArray] w (RetV w (.bool (decide b.none))) := by
 have hm0 := Mem.nil w
 go_enter Try.func51, Try.ntmps51
 refine litStart 8 [(0, .agg (bxs b).toArray)] (by kernel_rfl) (fun X0 => ?_)
 refine wp_seq_k fun K1 hK1 => ?_
 refine plStart ?_
 refine plBox hm0 (cs := bxs b) (i := 0) rfl (wn rfl) rfl (litEv (by kernel_rfl)) ?_
 intro g2 w4 hm3
 clear hm0
 try simp only [List.cons_append, List.nil_append, List.set_cons_succ, List.set_cons_zero] at hm3
 refine qP rfl ?_
 refine lk (v := .bool false) rfl rfl rfl ?_
 refine plD ?_
 refine then_normal (hK1 _ _ ?_)
 refine wp_seq_k fun K5 hK5 => ?_
 refine plStart ?_
 refine lk (v := .pointer (some ⟨g2, 0, none⟩)) rfl rfl rfl ?_
 refine litVal (v := .agg (pcs b.mn).toArray) rfl (wn rfl) (gLoadAg (vs := pcs b.mn) (k := 0) 0 hm3 rfl (by kernel_rfl) (by kernel_rfl) (.tmp 3) Ty.ag_voxel_api_Point rfl (litEv (by kernel_rfl))) rfl (by decide) ?_
 refine litVal (v := .agg (bxs b).toArray) rfl (wn rfl) (gLoadAg (vs := bxs b) (k := 0) 0 hm3 rfl (by kernel_rfl) (by kernel_rfl) (.tmp 1) Ty.ag_voxel_api_Box rfl (litEv (by kernel_rfl))) rfl (by decide) ?_
 refine plCall (i := 3) 66 [.agg (pcs b.mn).toArray, .agg (bxs b).toArray] [] [] rfl (by kernel_rfl) (wn rfl) rfl (litEv (by kernel_rfl)) (litArgs (by kernel_rfl)) (in_any b.mn b _) ?_
 rintro e w6 ⟨rfl, hbz⟩
 have hm7 := hm3.below hbz
 clear hbz hm3
 refine ⟨_, rfl, ?_⟩
 refine qP rfl ?_
 rcases bool_or (decide (b.has b.mn)) with h8 | h8
 · rw [h8]
   refine lk (v := .bool true) rfl rfl rfl ?_
   refine lk (v := .bool true) rfl rfl rfl ?_
   refine plD ?_
   refine then_normal (hK5 _ _ ?_)
   refine wp_ret ?_
   refine bodyPost_ret (v := .bool true) (gRes1 rfl (gResTmp (t := 2) (v := .bool true) (litGet (by kernel_rfl)))) rfl ?_
   exact ⟨congrArg (fun b_ => Ending.returned (.bool b_)) (decide_eq_true (by have h_ := of_decide_eq_false h8; unfold Bx.has at h_; unfold Bx.none; omega)).symm, hm7.bel⟩
 rw [h8]
 refine lk (v := .bool false) rfl rfl rfl ?_
 refine lk (v := .bool false) rfl rfl rfl ?_
 refine plD ?_
 refine then_normal (hK5 _ _ ?_)
 refine wp_ret ?_
 refine bodyPost_ret (v := .bool false) (gRes1 rfl (gResTmp (t := 2) (v := .bool false) (litGet (by kernel_rfl)))) rfl ?_
 exact ⟨congrArg (fun b_ => Ending.returned (.bool b_)) (decide_eq_false (by have h_ := of_decide_eq_true h8; unfold Bx.has at h_; unfold Bx.none; omega)).symm, hm7.bel⟩
set_option maxRecDepth 100000 in
set_option maxHeartbeats 4000000 in
theorem rempty_any (b : Bx) (w : World) : Calls Try.prog 56 #[.agg (bxs b).toArray] w (RetV w (.bool (decide b.none))) := by
 have hm0 := Mem.nil w
 go_enter Try.func56, Try.ntmps56
 refine litStart 28 [(0, .agg (bxs b).toArray)] (by kernel_rfl) (fun X0 => ?_)
 refine wp_seq_k fun K1 hK1 => ?_
 refine plStart ?_
 refine plBox hm0 (cs := bxs b) (i := 0) rfl (wn rfl) rfl (litEv (by kernel_rfl)) ?_
 intro g2 w4 hm3
 clear hm0
 try simp only [List.cons_append, List.nil_append, List.set_cons_succ, List.set_cons_zero] at hm3
 refine qP rfl ?_
 refine lk (v := .bool false) rfl rfl rfl ?_
 refine plD ?_
 refine then_normal (hK1 _ _ ?_)
 refine wp_seq_k fun K5 hK5 => ?_
 refine plStart ?_
 refine lk (v := .pointer (some ⟨g2, 0, none⟩)) rfl rfl rfl ?_
 refine lk (v := .pointer (some ⟨g2, 0, none⟩)) rfl rfl rfl ?_
 refine litVal (v := .int .i64 b.mn.x) rfl (wn rfl) (gLoad (v := .int .i64 b.mn.x) (k := 0) 0 hm3 rfl (by kernel_rfl) (.tmp 4) (by kernel_rfl) rfl (litEv (by kernel_rfl))) rfl (by decide) ?_
 refine lk (v := .pointer (some ⟨g2, 3, none⟩)) rfl rfl rfl ?_
 refine lk (v := .pointer (some ⟨g2, 3, none⟩)) rfl rfl rfl ?_
 refine litVal (v := .int .i64 b.mx.x) rfl (wn rfl) (gLoad (v := .int .i64 b.mx.x) (k := 3) 0 hm3 rfl (by kernel_rfl) (.tmp 7) (by kernel_rfl) rfl (litEv (by kernel_rfl))) rfl (by decide) ?_
 by_cases h6 : b.mx.x ≤ b.mn.x
 · refine litVal (v := .bool true) rfl (wn rfl) (boolTo (decide_eq_true h6) (gGeq (A := b.mn.x) (B := b.mx.x) (.tmp 5) (.tmp 8) rfl (litEv (by kernel_rfl)) (litEv (by kernel_rfl)))) rfl (by decide) ?_
   refine lk (v := .bool true) rfl rfl rfl ?_
   refine plSkip (i := 8) rfl (wgN rfl rfl rfl (by decide) (by kernel_rfl)) ?_
   refine qP rfl ?_
   refine plSkip (i := 9) rfl (wgN rfl rfl rfl (by decide) (by kernel_rfl)) ?_
   refine qP rfl ?_
   refine plSkip (i := 10) rfl (wgN rfl rfl rfl (by decide) (by kernel_rfl)) ?_
   refine qP rfl ?_
   refine plSkip (i := 11) rfl (wgN rfl rfl rfl (by decide) (by kernel_rfl)) ?_
   refine qP rfl ?_
   refine plSkip (i := 12) rfl (wgN rfl rfl rfl (by decide) (by kernel_rfl)) ?_
   refine qP rfl ?_
   refine plSkip (i := 13) rfl (wgN rfl rfl rfl (by decide) (by kernel_rfl)) ?_
   refine qP rfl ?_
   refine plSkip (i := 14) rfl (wgN rfl rfl rfl (by decide) (by kernel_rfl)) ?_
   refine qP rfl ?_
   refine lk (v := .bool true) rfl rfl rfl ?_
   refine lk (v := .bool true) rfl rfl rfl ?_
   refine plSkip (i := 17) rfl (wgN rfl rfl rfl (by decide) (by kernel_rfl)) ?_
   refine qP rfl ?_
   refine plSkip (i := 18) rfl (wgN rfl rfl rfl (by decide) (by kernel_rfl)) ?_
   refine qP rfl ?_
   refine plSkip (i := 19) rfl (wgN rfl rfl rfl (by decide) (by kernel_rfl)) ?_
   refine qP rfl ?_
   refine plSkip (i := 20) rfl (wgN rfl rfl rfl (by decide) (by kernel_rfl)) ?_
   refine qP rfl ?_
   refine plSkip (i := 21) rfl (wgN rfl rfl rfl (by decide) (by kernel_rfl)) ?_
   refine qP rfl ?_
   refine plSkip (i := 22) rfl (wgN rfl rfl rfl (by decide) (by kernel_rfl)) ?_
   refine qP rfl ?_
   refine plSkip (i := 23) rfl (wgN rfl rfl rfl (by decide) (by kernel_rfl)) ?_
   refine qP rfl ?_
   refine lk (v := .bool true) rfl rfl rfl ?_
   refine lk (v := .bool true) rfl rfl rfl ?_
   refine plD ?_
   refine then_normal (hK5 _ _ ?_)
   refine wpPrune [(2, .bool true)] ⟨litGet (by kernel_rfl), trivial⟩ (fun X7 => ?_)
   refine wp_ret ?_
   refine bodyPost_ret (v := .bool true) (gRes1 rfl (gResTmp (t := 2) (v := .bool true) (litGet (by kernel_rfl)))) rfl ?_
   exact ⟨congrArg (fun b_ => Ending.returned (.bool b_)) (decide_eq_true (by unfold Bx.none; omega)).symm, hm3.bel⟩
 refine litVal (v := .bool false) rfl (wn rfl) (boolTo (decide_eq_false h6) (gGeq (A := b.mn.x) (B := b.mx.x) (.tmp 5) (.tmp 8) rfl (litEv (by kernel_rfl)) (litEv (by kernel_rfl)))) rfl (by decide) ?_
 refine lk (v := .bool false) rfl rfl rfl ?_
 refine litVal (v := .pointer (some ⟨g2, 0, none⟩)) rfl (wgY rfl rfl rfl (by decide) (by kernel_rfl)) (litRun (by kernel_rfl)) rfl (by decide) ?_
 refine litVal (v := .pointer (some ⟨g2, 1, none⟩)) rfl (wgY rfl rfl rfl (by decide) (by kernel_rfl)) (litRun (by kernel_rfl)) rfl (by decide) ?_
 refine litVal (v := .int .i64 b.mn.y) rfl (wgY rfl rfl rfl (by decide) (by kernel_rfl)) (gLoad (v := .int .i64 b.mn.y) (k := 1) 0 hm3 rfl (by kernel_rfl) (.tmp 12) (by kernel_rfl) rfl (litEv (by kernel_rfl))) rfl (by decide) ?_
 refine litVal (v := .pointer (some ⟨g2, 3, none⟩)) rfl (wgY rfl rfl rfl (by decide) (by kernel_rfl)) (litRun (by kernel_rfl)) rfl (by decide) ?_
 refine litVal (v := .pointer (some ⟨g2, 4, none⟩)) rfl (wgY rfl rfl rfl (by decide) (by kernel_rfl)) (litRun (by kernel_rfl)) rfl (by decide) ?_
 refine litVal (v := .int .i64 b.mx.y) rfl (wgY rfl rfl rfl (by decide) (by kernel_rfl)) (gLoad (v := .int .i64 b.mx.y) (k := 4) 0 hm3 rfl (by kernel_rfl) (.tmp 15) (by kernel_rfl) rfl (litEv (by kernel_rfl))) rfl (by decide) ?_
 by_cases h8 : b.mx.y ≤ b.mn.y
 · refine litVal (v := .bool true) rfl (wgY rfl rfl rfl (by decide) (by kernel_rfl)) (boolTo (decide_eq_true h8) (gGeq (A := b.mn.y) (B := b.mx.y) (.tmp 13) (.tmp 16) rfl (litEv (by kernel_rfl)) (litEv (by kernel_rfl)))) rfl (by decide) ?_
   refine lk (v := .bool true) rfl rfl rfl ?_
   refine lk (v := .bool true) rfl rfl rfl ?_
   refine plSkip (i := 17) rfl (wgN rfl rfl rfl (by decide) (by kernel_rfl)) ?_
   refine qP rfl ?_
   refine plSkip (i := 18) rfl (wgN rfl rfl rfl (by decide) (by kernel_rfl)) ?_
   refine qP rfl ?_
   refine plSkip (i := 19) rfl (wgN rfl rfl rfl (by decide) (by kernel_rfl)) ?_
   refine qP rfl ?_
   refine plSkip (i := 20) rfl (wgN rfl rfl rfl (by decide) (by kernel_rfl)) ?_
   refine qP rfl ?_
   refine plSkip (i := 21) rfl (wgN rfl rfl rfl (by decide) (by kernel_rfl)) ?_
   refine qP rfl ?_
   refine plSkip (i := 22) rfl (wgN rfl rfl rfl (by decide) (by kernel_rfl)) ?_
   refine qP rfl ?_
   refine plSkip (i := 23) rfl (wgN rfl rfl rfl (by decide) (by kernel_rfl)) ?_
   refine qP rfl ?_
   refine lk (v := .bool true) rfl rfl rfl ?_
   refine lk (v := .bool true) rfl rfl rfl ?_
   refine plD ?_
   refine then_normal (hK5 _ _ ?_)
   refine wpPrune [(2, .bool true)] ⟨litGet (by kernel_rfl), trivial⟩ (fun X9 => ?_)
   refine wp_ret ?_
   refine bodyPost_ret (v := .bool true) (gRes1 rfl (gResTmp (t := 2) (v := .bool true) (litGet (by kernel_rfl)))) rfl ?_
   exact ⟨congrArg (fun b_ => Ending.returned (.bool b_)) (decide_eq_true (by unfold Bx.none; omega)).symm, hm3.bel⟩
 refine litVal (v := .bool false) rfl (wgY rfl rfl rfl (by decide) (by kernel_rfl)) (boolTo (decide_eq_false h8) (gGeq (A := b.mn.y) (B := b.mx.y) (.tmp 13) (.tmp 16) rfl (litEv (by kernel_rfl)) (litEv (by kernel_rfl)))) rfl (by decide) ?_
 refine lk (v := .bool false) rfl rfl rfl ?_
 refine lk (v := .bool false) rfl rfl rfl ?_
 refine litVal (v := .pointer (some ⟨g2, 0, none⟩)) rfl (wgY rfl rfl rfl (by decide) (by kernel_rfl)) (litRun (by kernel_rfl)) rfl (by decide) ?_
 refine litVal (v := .pointer (some ⟨g2, 2, none⟩)) rfl (wgY rfl rfl rfl (by decide) (by kernel_rfl)) (litRun (by kernel_rfl)) rfl (by decide) ?_
 refine litVal (v := .int .i64 b.mn.z) rfl (wgY rfl rfl rfl (by decide) (by kernel_rfl)) (gLoad (v := .int .i64 b.mn.z) (k := 2) 0 hm3 rfl (by kernel_rfl) (.tmp 21) (by kernel_rfl) rfl (litEv (by kernel_rfl))) rfl (by decide) ?_
 refine litVal (v := .pointer (some ⟨g2, 3, none⟩)) rfl (wgY rfl rfl rfl (by decide) (by kernel_rfl)) (litRun (by kernel_rfl)) rfl (by decide) ?_
 refine litVal (v := .pointer (some ⟨g2, 5, none⟩)) rfl (wgY rfl rfl rfl (by decide) (by kernel_rfl)) (litRun (by kernel_rfl)) rfl (by decide) ?_
 refine litVal (v := .int .i64 b.mx.z) rfl (wgY rfl rfl rfl (by decide) (by kernel_rfl)) (gLoad (v := .int .i64 b.mx.z) (k := 5) 0 hm3 rfl (by kernel_rfl) (.tmp 24) (by kernel_rfl) rfl (litEv (by kernel_rfl))) rfl (by decide) ?_
 by_cases h10 : b.mx.z ≤ b.mn.z
 · refine litVal (v := .bool true) rfl (wgY rfl rfl rfl (by decide) (by kernel_rfl)) (boolTo (decide_eq_true h10) (gGeq (A := b.mn.z) (B := b.mx.z) (.tmp 22) (.tmp 25) rfl (litEv (by kernel_rfl)) (litEv (by kernel_rfl)))) rfl (by decide) ?_
   refine lk (v := .bool true) rfl rfl rfl ?_
   refine lk (v := .bool true) rfl rfl rfl ?_
   refine plD ?_
   refine then_normal (hK5 _ _ ?_)
   refine wpPrune [(2, .bool true)] ⟨litGet (by kernel_rfl), trivial⟩ (fun X11 => ?_)
   refine wp_ret ?_
   refine bodyPost_ret (v := .bool true) (gRes1 rfl (gResTmp (t := 2) (v := .bool true) (litGet (by kernel_rfl)))) rfl ?_
   exact ⟨congrArg (fun b_ => Ending.returned (.bool b_)) (decide_eq_true (by unfold Bx.none; omega)).symm, hm3.bel⟩
 refine litVal (v := .bool false) rfl (wgY rfl rfl rfl (by decide) (by kernel_rfl)) (boolTo (decide_eq_false h10) (gGeq (A := b.mn.z) (B := b.mx.z) (.tmp 22) (.tmp 25) rfl (litEv (by kernel_rfl)) (litEv (by kernel_rfl)))) rfl (by decide) ?_
 refine lk (v := .bool false) rfl rfl rfl ?_
 refine lk (v := .bool false) rfl rfl rfl ?_
 refine plD ?_
 refine then_normal (hK5 _ _ ?_)
 refine wpPrune [(2, .bool false)] ⟨litGet (by kernel_rfl), trivial⟩ (fun X12 => ?_)
 refine wp_ret ?_
 refine bodyPost_ret (v := .bool false) (gRes1 rfl (gResTmp (t := 2) (v := .bool false) (litGet (by kernel_rfl)))) rfl ?_
 exact ⟨congrArg (fun b_ => Ending.returned (.bool b_)) (decide_eq_false (by unfold Bx.none; omega)).symm, hm3.bel⟩
set_option maxRecDepth 100000 in
set_option maxHeartbeats 4000000 in
theorem cube_any (n : Int) (w : World) : Calls Try.prog 54 #[.int .i64 n] w (RetV w (.agg (bxs (cubeB n)).toArray)) := by
 have hm0 := Mem.nil w
 go_enter Try.func54, Try.ntmps54
 refine litStart 8 [(0, .int .i64 n)] (by kernel_rfl) (fun X0 => ?_)
 refine wp_seq_k fun K1 hK1 => ?_
 refine plStart ?_
 refine plAlloc (z := [.int .i64 0, .int .i64 0, .int .i64 0, .int .i64 0, .int .i64 0, .int .i64 0]) Ty.ag_voxel_api_Box hm0 (i := 0) rfl (wn rfl) rfl ?_
 intro g2 w4 hm3
 clear hm0
 try simp only [List.cons_append, List.nil_append, List.set_cons_succ, List.set_cons_zero] at hm3
 refine qP rfl ?_
 refine plD ?_
 refine then_normal (hK1 _ _ ?_)
 refine wp_seq_k fun K5 hK5 => ?_
 refine plStart ?_
 refine lk (v := .int .i64 n) rfl rfl rfl ?_
 refine lk (v := .int .i64 n) rfl rfl rfl ?_
 refine lk (v := .int .i64 n) rfl rfl rfl ?_
 refine lk (v := .agg (pcs ⟨n, n, n⟩).toArray) rfl rfl rfl ?_
 refine lk (v := .agg ([.int .i64 0, .int .i64 0, .int .i64 0, .int .i64 n, .int .i64 n, .int .i64 n]).toArray) rfl rfl rfl ?_
 refine plStore 0 Ty.ag_voxel_api_Box hm3 rfl (i := 5) (cs := [.int .i64 0, .int .i64 0, .int .i64 0, .int .i64 n, .int .i64 n, .int .i64 n]) rfl (wn rfl) rfl (litEv (by kernel_rfl)) (litEv (by kernel_rfl)) rfl rfl (by kernel_rfl) ?_
 intro w7 hm6
 clear hm3
 try simp only [List.cons_append, List.nil_append, List.set_cons_succ, List.set_cons_zero] at hm6
 refine qNone rfl ?_
 refine plD ?_
 refine then_normal (hK5 _ _ ?_)
 refine wp_ret ?_
 refine bodyPost_ret (v := .agg ([.int .i64 0, .int .i64 0, .int .i64 0, .int .i64 n, .int .i64 n, .int .i64 n]).toArray) (gRes1 rfl (gResAg (cs := [.int .i64 0, .int .i64 0, .int .i64 0, .int .i64 n, .int .i64 n, .int .i64 n]) 0 hm6 rfl Ty.ag_voxel_api_Box rfl (litGet (by kernel_rfl)))) rfl ?_
 exact ⟨by rfl, hm6.bel⟩
set_option maxRecDepth 100000 in
set_option maxHeartbeats 4000000 in
theorem rcube_any (n : Int) (w : World) : Calls Try.prog 27 #[.int .i64 n] w (RetV w (.agg (bxs (cubeB n)).toArray)) := by
 have hm0 := Mem.nil w
 go_enter Try.func27, Try.ntmps27
 refine litStart 8 [(0, .int .i64 n)] (by kernel_rfl) (fun X0 => ?_)
 refine wp_seq_k fun K1 hK1 => ?_
 refine plStart ?_
 refine plAlloc (z := [.int .i64 0, .int .i64 0, .int .i64 0, .int .i64 0, .int .i64 0, .int .i64 0]) Ty.ag_voxel_api_Box hm0 (i := 0) rfl (wn rfl) rfl ?_
 intro g2 w4 hm3
 clear hm0
 try simp only [List.cons_append, List.nil_append, List.set_cons_succ, List.set_cons_zero] at hm3
 refine qP rfl ?_
 refine plD ?_
 refine then_normal (hK1 _ _ ?_)
 refine wp_seq_k fun K5 hK5 => ?_
 refine plStart ?_
 refine lk (v := .int .i64 n) rfl rfl rfl ?_
 refine lk (v := .int .i64 n) rfl rfl rfl ?_
 refine lk (v := .int .i64 n) rfl rfl rfl ?_
 refine lk (v := .agg (pcs ⟨n, n, n⟩).toArray) rfl rfl rfl ?_
 refine lk (v := .agg ([.int .i64 0, .int .i64 0, .int .i64 0, .int .i64 n, .int .i64 n, .int .i64 n]).toArray) rfl rfl rfl ?_
 refine plStore 0 Ty.ag_voxel_api_Box hm3 rfl (i := 5) (cs := [.int .i64 0, .int .i64 0, .int .i64 0, .int .i64 n, .int .i64 n, .int .i64 n]) rfl (wn rfl) rfl (litEv (by kernel_rfl)) (litEv (by kernel_rfl)) rfl rfl (by kernel_rfl) ?_
 intro w7 hm6
 clear hm3
 try simp only [List.cons_append, List.nil_append, List.set_cons_succ, List.set_cons_zero] at hm6
 refine qNone rfl ?_
 refine plD ?_
 refine then_normal (hK5 _ _ ?_)
 refine wp_ret ?_
 refine bodyPost_ret (v := .agg ([.int .i64 0, .int .i64 0, .int .i64 0, .int .i64 n, .int .i64 n, .int .i64 n]).toArray) (gRes1 rfl (gResAg (cs := [.int .i64 0, .int .i64 0, .int .i64 0, .int .i64 n, .int .i64 n, .int .i64 n]) 0 hm6 rfl Ty.ag_voxel_api_Box rfl (litGet (by kernel_rfl)))) rfl ?_
 exact ⟨by rfl, hm6.bel⟩
set_option maxRecDepth 100000 in
set_option maxHeartbeats 4000000 in
theorem list_any (p : Pt) (w : World) : Calls Try.prog 57 #[.agg (pcs p).toArray] w (RetV w (.agg (pcs p).toArray)) := by
 have hm0 := Mem.nil w
 go_enter Try.func57, Try.ntmps57
 refine litStart 10 [(0, .agg (pcs p).toArray)] (by kernel_rfl) (fun X0 => ?_)
 refine wp_seq_k fun K1 hK1 => ?_
 refine plStart ?_
 refine plBox hm0 (cs := pcs p) (i := 0) rfl (wn rfl) rfl (litEv (by kernel_rfl)) ?_
 intro g2 w4 hm3
 clear hm0
 try simp only [List.cons_append, List.nil_append, List.set_cons_succ, List.set_cons_zero] at hm3
 refine qP rfl ?_
 refine plAlloc (z := [.int .i64 0, .int .i64 0, .int .i64 0]) Ty.ag_3_int hm3 (i := 1) rfl (wn rfl) rfl ?_
 intro g5 w7 hm6
 clear hm3
 try simp only [List.cons_append, List.nil_append, List.set_cons_succ, List.set_cons_zero] at hm6
 refine qP rfl ?_
 refine plD ?_
 refine then_normal (hK1 _ _ ?_)
 refine wp_seq_k fun K8 hK8 => ?_
 refine plStart ?_
 refine lk (v := .pointer (some ⟨g2, 0, none⟩)) rfl rfl rfl ?_
 refine litVal (v := .int .i64 p.x) rfl (wn rfl) (gLoad (v := .int .i64 p.x) (k := 0) 0 hm6 rfl (by kernel_rfl) (.tmp 3) (by kernel_rfl) rfl (litEv (by kernel_rfl))) rfl (by decide) ?_
 refine lk (v := .pointer (some ⟨g2, 1, none⟩)) rfl rfl rfl ?_
 refine litVal (v := .int .i64 p.y) rfl (wn rfl) (gLoad (v := .int .i64 p.y) (k := 1) 0 hm6 rfl (by kernel_rfl) (.tmp 5) (by kernel_rfl) rfl (litEv (by kernel_rfl))) rfl (by decide) ?_
 refine lk (v := .pointer (some ⟨g2, 2, none⟩)) rfl rfl rfl ?_
 refine litVal (v := .int .i64 p.z) rfl (wn rfl) (gLoad (v := .int .i64 p.z) (k := 2) 0 hm6 rfl (by kernel_rfl) (.tmp 7) (by kernel_rfl) rfl (litEv (by kernel_rfl))) rfl (by decide) ?_
 refine lk (v := .agg (pcs p).toArray) rfl rfl rfl ?_
 refine plStore 1 Ty.ag_3_int hm6 rfl (i := 7) (cs := pcs p) rfl (wn rfl) rfl (litEv (by kernel_rfl)) (litEv (by kernel_rfl)) rfl rfl (by kernel_rfl) ?_
 intro w10 hm9
 clear hm6
 try simp only [List.cons_append, List.nil_append, List.set_cons_succ, List.set_cons_zero] at hm9
 refine qNone rfl ?_
 refine plD ?_
 refine then_normal (hK8 _ _ ?_)
 refine wp_ret ?_
 refine bodyPost_ret (v := .agg (pcs p).toArray) (gRes1 rfl (gResAg (cs := pcs p) 1 hm9 rfl Ty.ag_3_int rfl (litGet (by kernel_rfl)))) rfl ?_
 exact ⟨by rfl, hm9.bel⟩
set_option maxRecDepth 100000 in
set_option maxHeartbeats 4000000 in
theorem side_any (l : Int) (h : 0 ≤ l ∧ l ≤ 12) (w : World) : Calls Try.prog 55 #[.int .i64 l] w (RetV w (.int .i64 (sideL l))) := by
 have hm0 := Mem.nil w
 go_enter Try.func55, Try.ntmps55
 refine litStart 5 [(0, .int .i64 l)] (by kernel_rfl) (fun X0 => ?_)
 refine wp_seq_k fun K1 hK1 => ?_
 refine plStart ?_
 refine lk (v := .int .i64 0) rfl rfl rfl ?_
 refine plD ?_
 refine then_normal (hK1 _ _ ?_)
 refine wp_seq_k fun K2 hK2 => ?_
 refine plStart ?_
 refine lk (v := .int .i64 l) rfl rfl rfl ?_
 refine litVal (v := .int .i64 (sideL l)) rfl (wn rfl) (gShl (A := 4) (N := l) (C := sideL l) (.const (.int .i64 4)) (.tmp 3) rfl (litEv (by kernel_rfl)) (litEv (by kernel_rfl)) (rfl) (by omega) (by omega) (by have := side_bd h; omega)) rfl (by decide) ?_
 refine lk (v := .int .i64 (sideL l)) rfl rfl rfl ?_
 refine plD ?_
 refine then_normal (hK2 _ _ ?_)
 refine wp_ret ?_
 refine bodyPost_ret (v := .int .i64 (sideL l)) (gRes1 rfl (gResTmp (t := 2) (v := .int .i64 (sideL l)) (litGet (by kernel_rfl)))) rfl ?_
 exact ⟨by rfl, hm0.bel⟩
set_option maxRecDepth 100000 in
set_option maxHeartbeats 4000000 in
theorem rside_any (t : Tl) (h : 0 ≤ t.lv ∧ t.lv ≤ 12) (w : World) : Calls Try.prog 45 #[.agg (tlc t).toArray] w (RetV w (.int .i64 (sideL t.lv))) := by
 have hm0 := Mem.nil w
 go_enter Try.func45, Try.ntmps45
 refine litStart 6 [(0, .agg (tlc t).toArray)] (by kernel_rfl) (fun X0 => ?_)
 refine wp_seq_k fun K1 hK1 => ?_
 refine plStart ?_
 refine plBox hm0 (cs := tlc t) (i := 0) rfl (wn rfl) rfl (litEv (by kernel_rfl)) ?_
 intro g2 w4 hm3
 clear hm0
 try simp only [List.cons_append, List.nil_append, List.set_cons_succ, List.set_cons_zero] at hm3
 refine qP rfl ?_
 refine lk (v := .int .i64 0) rfl rfl rfl ?_
 refine plD ?_
 refine then_normal (hK1 _ _ ?_)
 refine wp_seq_k fun K5 hK5 => ?_
 refine plStart ?_
 refine lk (v := .pointer (some ⟨g2, 0, none⟩)) rfl rfl rfl ?_
 refine litVal (v := .int .i64 t.lv) rfl (wn rfl) (gLoad (v := .int .i64 t.lv) (k := 0) 0 hm3 rfl (by kernel_rfl) (.tmp 3) (by kernel_rfl) rfl (litEv (by kernel_rfl))) rfl (by decide) ?_
 refine litVal (v := .int .i64 (sideL t.lv)) rfl (wn rfl) (gShl (A := 4) (N := t.lv) (C := sideL t.lv) (.const (.int .i64 4)) (.tmp 4) rfl (litEv (by kernel_rfl)) (litEv (by kernel_rfl)) (rfl) (by omega) (by omega) (by have := side_bd h; omega)) rfl (by decide) ?_
 refine lk (v := .int .i64 (sideL t.lv)) rfl rfl rfl ?_
 refine plD ?_
 refine then_normal (hK5 _ _ ?_)
 refine wp_ret ?_
 refine bodyPost_ret (v := .int .i64 (sideL t.lv)) (gRes1 rfl (gResTmp (t := 2) (v := .int .i64 (sideL t.lv)) (litGet (by kernel_rfl)))) rfl ?_
 exact ⟨by rfl, hm3.bel⟩
set_option maxRecDepth 100000 in
set_option maxHeartbeats 4000000 in
theorem shift_any (b : Bx) (p : Pt) (hb : ((-1073741824 ≤ b.mn.x ∧ b.mn.x ≤ 1073741824) ∧ (-1073741824 ≤ b.mn.y ∧ b.mn.y ≤ 1073741824) ∧ (-1073741824 ≤ b.mn.z ∧ b.mn.z ≤ 1073741824)) ∧ ((-1073741824 ≤ b.mx.x ∧ b.mx.x ≤ 1073741824) ∧ (-1073741824 ≤ b.mx.y ∧ b.mx.y ≤ 1073741824) ∧ (-1073741824 ≤ b.mx.z ∧ b.mx.z ≤ 1073741824))) (hp : (-1073741824 ≤ p.x ∧ p.x ≤ 1073741824) ∧ (-1073741824 ≤ p.y ∧ p.y ≤ 1073741824) ∧ (-1073741824 ≤ p.z ∧ p.z ≤ 1073741824)) (w : World) : Calls Try.prog 53 #[.agg (bxs b).toArray, .agg (pcs p).toArray] w (RetV w (.agg (bxs (b.shift p)).toArray)) := by
 have hm0 := Mem.nil w
 go_enter Try.func53, Try.ntmps53
 refine litStart 14 [(0, .agg (bxs b).toArray), (1, .agg (pcs p).toArray)] (by kernel_rfl) (fun X0 => ?_)
 refine wp_seq_k fun K1 hK1 => ?_
 refine plStart ?_
 refine plBox hm0 (cs := bxs b) (i := 0) rfl (wn rfl) rfl (litEv (by kernel_rfl)) ?_
 intro g2 w4 hm3
 clear hm0
 try simp only [List.cons_append, List.nil_append, List.set_cons_succ, List.set_cons_zero] at hm3
 refine qP rfl ?_
 refine plBox hm3 (cs := pcs p) (i := 1) rfl (wn rfl) rfl (litEv (by kernel_rfl)) ?_
 intro g5 w7 hm6
 clear hm3
 try simp only [List.cons_append, List.nil_append, List.set_cons_succ, List.set_cons_zero] at hm6
 refine qP rfl ?_
 refine plAlloc (z := [.int .i64 0, .int .i64 0, .int .i64 0, .int .i64 0, .int .i64 0, .int .i64 0]) Ty.ag_voxel_api_Box hm6 (i := 2) rfl (wn rfl) rfl ?_
 intro g8 w10 hm9
 clear hm6
 try simp only [List.cons_append, List.nil_append, List.set_cons_succ, List.set_cons_zero] at hm9
 refine qP rfl ?_
 refine plD ?_
 refine then_normal (hK1 _ _ ?_)
 refine wp_seq_k fun K11 hK11 => ?_
 refine aoStart (aoV [fun _ => .pointer (some ⟨g2, 0, none⟩), fun _ => .agg (pcs b.mn).toArray, fun _ => .agg (pcs p).toArray, fun _ => .agg (pcs (b.mn.add p)).toArray, fun _ => .pointer (some ⟨g2, 3, none⟩), fun _ => .agg (pcs b.mx).toArray, fun _ => .agg (pcs p).toArray, fun _ => .agg (pcs (b.mx.add p)).toArray, fun _ => .agg ([.int .i64 ((b.mn.add p).x), .int .i64 ((b.mn.add p).y), .int .i64 ((b.mn.add p).z), .int .i64 ((b.mx.add p).x), .int .i64 ((b.mx.add p).y), .int .i64 ((b.mx.add p).z)]).toArray, fun _ => undef]) (aoA [0, 1, 2, 3, 4, 5, 6, 7, 8, 9]) (fun b_ g_ => ((.arr g2 55 (bxs b)) :: (.arr g5 23 (pcs p)) :: (.arr g8 55 (bsel (b_ 9) [.int .i64 ((b.mn.add p).x), .int .i64 ((b.mn.add p).y), .int .i64 ((b.mn.add p).z), .int .i64 ((b.mx.add p).x), .int .i64 ((b.mx.add p).y), .int .i64 ((b.mx.add p).z)] [.int .i64 0, .int .i64 0, .int .i64 0, .int .i64 0, .int .i64 0, .int .i64 0])) :: [])) hm9 (by kernel_rfl) (by kernel_rfl) (fun w_ h_ => h_) (fun b_ g_ h_ => by show (fun (x9_ : Bool) => (((.arr g2 55 (bxs b)) :: (.arr g5 23 (pcs p)) :: (.arr g8 55 (bsel x9_ [.int .i64 ((b.mn.add p).x), .int .i64 ((b.mn.add p).y), .int .i64 ((b.mn.add p).z), .int .i64 ((b.mx.add p).x), .int .i64 ((b.mx.add p).y), .int .i64 ((b.mx.add p).z)] [.int .i64 0, .int .i64 0, .int .i64 0, .int .i64 0, .int .i64 0, .int .i64 0])) :: []) : List Res)) (b_ 9) = _; rw [h_ 9 (by decide)]) ?_ ?_
 · refine aoNext rfl (aoVal (fun g_ => [(2, .pointer (some ⟨g2, 0, none⟩))]) (fun g_ a_ h_k => ⟨(h_k.out 2 (by kernel_rfl)).trans (litGet (by kernel_rfl)), trivial⟩) (fun g_ X_ => (wn rfl)) (fun b_ g_ => by kernel_rfl) (fun b_ g_ X_ w_ h_b h_ => valTo (b := .pointer (some ⟨g2, 0, none⟩)) (by kernel_rfl) (litRun (by kernel_rfl)))) ?_
   refine aoNext rfl (aoVal (fun g_ => [(5, .pointer (some ⟨g2, 0, none⟩))]) (fun g_ a_ h_k => ⟨(h_k.inn 0 _ _ (by kernel_rfl) rfl rfl).trans (by kernel_rfl), trivial⟩) (fun g_ X_ => (wn rfl)) (fun b_ g_ => by kernel_rfl) (fun b_ g_ X_ w_ h_b h_ => valTo (b := .agg (pcs b.mn).toArray) (by kernel_rfl) ((fun (h_ : Mem _ w_ ((.arr g2 55 (bxs b)) :: (.arr g5 23 (pcs p)) :: (.arr g8 55 ([.int .i64 0, .int .i64 0, .int .i64 0, .int .i64 0, .int .i64 0, .int .i64 0])) :: [])) => gLoadAg (vs := pcs b.mn) (k := 0) 0 h_ rfl (by kernel_rfl) (by kernel_rfl) (.tmp 5) Ty.ag_voxel_api_Point rfl (litEv (by kernel_rfl))) (by have h2_ : Mem w w_ ((.arr g2 55 (bxs b)) :: (.arr g5 23 (pcs p)) :: (.arr g8 55 (bsel (b_ 9) [.int .i64 ((b.mn.add p).x), .int .i64 ((b.mn.add p).y), .int .i64 ((b.mn.add p).z), .int .i64 ((b.mx.add p).x), .int .i64 ((b.mx.add p).y), .int .i64 ((b.mx.add p).z)] [.int .i64 0, .int .i64 0, .int .i64 0, .int .i64 0, .int .i64 0, .int .i64 0])) :: []) := h_; rw [bselF (h_b.post 9 (by kernel_rfl))] at h2_; exact h2_)))) ?_
   refine aoNext rfl (aoVal (fun g_ => [(3, .pointer (some ⟨g5, 0, none⟩))]) (fun g_ a_ h_k => ⟨(h_k.out 3 (by kernel_rfl)).trans (litGet (by kernel_rfl)), trivial⟩) (fun g_ X_ => (wn rfl)) (fun b_ g_ => by kernel_rfl) (fun b_ g_ X_ w_ h_b h_ => valTo (b := .agg (pcs p).toArray) (by kernel_rfl) ((fun (h_ : Mem _ w_ ((.arr g2 55 (bxs b)) :: (.arr g5 23 (pcs p)) :: (.arr g8 55 ([.int .i64 0, .int .i64 0, .int .i64 0, .int .i64 0, .int .i64 0, .int .i64 0])) :: [])) => gLoadAg (vs := pcs p) (k := 0) 1 h_ rfl (by kernel_rfl) (by kernel_rfl) (.tmp 3) Ty.ag_voxel_api_Point rfl (litEv (by kernel_rfl))) (by have h2_ : Mem w w_ ((.arr g2 55 (bxs b)) :: (.arr g5 23 (pcs p)) :: (.arr g8 55 (bsel (b_ 9) [.int .i64 ((b.mn.add p).x), .int .i64 ((b.mn.add p).y), .int .i64 ((b.mn.add p).z), .int .i64 ((b.mx.add p).x), .int .i64 ((b.mx.add p).y), .int .i64 ((b.mx.add p).z)] [.int .i64 0, .int .i64 0, .int .i64 0, .int .i64 0, .int .i64 0, .int .i64 0])) :: []) := h_; rw [bselF (h_b.post 9 (by kernel_rfl))] at h2_; exact h2_)))) ?_
   refine aoNext rfl (aoCall (fun g_ => [(6, .agg (pcs b.mn).toArray), (7, .agg (pcs p).toArray)]) (fun g_ a_ h_k => ⟨(h_k.inn 1 _ _ (by kernel_rfl) rfl rfl).trans (by kernel_rfl), (h_k.inn 2 _ _ (by kernel_rfl) rfl rfl).trans (by kernel_rfl), trivial⟩) 67 (fun g_ => [.agg (pcs b.mn).toArray, .agg (pcs p).toArray]) [] [] (by kernel_rfl) (fun g_ X_ => (wn rfl)) (fun b_ g_ => by kernel_rfl) rfl (fun g_ X_ => litEv (by kernel_rfl)) (fun g_ X_ => litArgs (by kernel_rfl)) (fun b_ g_ w_ h_b h_ => (add_any b.mn p hb.1 hp _).mono (fun _ _ h_r => ⟨h_r.1.trans (by kernel_rfl), h_r.2⟩))) ?_
   refine aoNext rfl (aoVal (fun g_ => [(2, .pointer (some ⟨g2, 0, none⟩))]) (fun g_ a_ h_k => ⟨(h_k.out 2 (by kernel_rfl)).trans (litGet (by kernel_rfl)), trivial⟩) (fun g_ X_ => (wn rfl)) (fun b_ g_ => by kernel_rfl) (fun b_ g_ X_ w_ h_b h_ => valTo (b := .pointer (some ⟨g2, 3, none⟩)) (by kernel_rfl) (litRun (by kernel_rfl)))) ?_
   refine aoNext rfl (aoVal (fun g_ => [(9, .pointer (some ⟨g2, 3, none⟩))]) (fun g_ a_ h_k => ⟨(h_k.inn 4 _ _ (by kernel_rfl) rfl rfl).trans (by kernel_rfl), trivial⟩) (fun g_ X_ => (wn rfl)) (fun b_ g_ => by kernel_rfl) (fun b_ g_ X_ w_ h_b h_ => valTo (b := .agg (pcs b.mx).toArray) (by kernel_rfl) ((fun (h_ : Mem _ w_ ((.arr g2 55 (bxs b)) :: (.arr g5 23 (pcs p)) :: (.arr g8 55 ([.int .i64 0, .int .i64 0, .int .i64 0, .int .i64 0, .int .i64 0, .int .i64 0])) :: [])) => gLoadAg (vs := pcs b.mx) (k := 3) 0 h_ rfl (by kernel_rfl) (by kernel_rfl) (.tmp 9) Ty.ag_voxel_api_Point rfl (litEv (by kernel_rfl))) (by have h2_ : Mem w w_ ((.arr g2 55 (bxs b)) :: (.arr g5 23 (pcs p)) :: (.arr g8 55 (bsel (b_ 9) [.int .i64 ((b.mn.add p).x), .int .i64 ((b.mn.add p).y), .int .i64 ((b.mn.add p).z), .int .i64 ((b.mx.add p).x), .int .i64 ((b.mx.add p).y), .int .i64 ((b.mx.add p).z)] [.int .i64 0, .int .i64 0, .int .i64 0, .int .i64 0, .int .i64 0, .int .i64 0])) :: []) := h_; rw [bselF (h_b.post 9 (by kernel_rfl))] at h2_; exact h2_)))) ?_
   refine aoNext rfl (aoVal (fun g_ => [(3, .pointer (some ⟨g5, 0, none⟩))]) (fun g_ a_ h_k => ⟨(h_k.out 3 (by kernel_rfl)).trans (litGet (by kernel_rfl)), trivial⟩) (fun g_ X_ => (wn rfl)) (fun b_ g_ => by kernel_rfl) (fun b_ g_ X_ w_ h_b h_ => valTo (b := .agg (pcs p).toArray) (by kernel_rfl) ((fun (h_ : Mem _ w_ ((.arr g2 55 (bxs b)) :: (.arr g5 23 (pcs p)) :: (.arr g8 55 ([.int .i64 0, .int .i64 0, .int .i64 0, .int .i64 0, .int .i64 0, .int .i64 0])) :: [])) => gLoadAg (vs := pcs p) (k := 0) 1 h_ rfl (by kernel_rfl) (by kernel_rfl) (.tmp 3) Ty.ag_voxel_api_Point rfl (litEv (by kernel_rfl))) (by have h2_ : Mem w w_ ((.arr g2 55 (bxs b)) :: (.arr g5 23 (pcs p)) :: (.arr g8 55 (bsel (b_ 9) [.int .i64 ((b.mn.add p).x), .int .i64 ((b.mn.add p).y), .int .i64 ((b.mn.add p).z), .int .i64 ((b.mx.add p).x), .int .i64 ((b.mx.add p).y), .int .i64 ((b.mx.add p).z)] [.int .i64 0, .int .i64 0, .int .i64 0, .int .i64 0, .int .i64 0, .int .i64 0])) :: []) := h_; rw [bselF (h_b.post 9 (by kernel_rfl))] at h2_; exact h2_)))) ?_
   refine aoNext rfl (aoCall (fun g_ => [(10, .agg (pcs b.mx).toArray), (11, .agg (pcs p).toArray)]) (fun g_ a_ h_k => ⟨(h_k.inn 5 _ _ (by kernel_rfl) rfl rfl).trans (by kernel_rfl), (h_k.inn 6 _ _ (by kernel_rfl) rfl rfl).trans (by kernel_rfl), trivial⟩) 67 (fun g_ => [.agg (pcs b.mx).toArray, .agg (pcs p).toArray]) [] [] (by kernel_rfl) (fun g_ X_ => (wn rfl)) (fun b_ g_ => by kernel_rfl) rfl (fun g_ X_ => litEv (by kernel_rfl)) (fun g_ X_ => litArgs (by kernel_rfl)) (fun b_ g_ w_ h_b h_ => (add_any b.mx p hb.2 hp _).mono (fun _ _ h_r => ⟨h_r.1.trans (by kernel_rfl), h_r.2⟩))) ?_
   refine aoNext rfl (aoVal (fun g_ => [(8, .agg (pcs (b.mn.add p)).toArray), (12, .agg (pcs (b.mx.add p)).toArray)]) (fun g_ a_ h_k => ⟨(h_k.inn 3 _ _ (by kernel_rfl) rfl rfl).trans (by kernel_rfl), (h_k.inn 7 _ _ (by kernel_rfl) rfl rfl).trans (by kernel_rfl), trivial⟩) (fun g_ X_ => (wn rfl)) (fun b_ g_ => by kernel_rfl) (fun b_ g_ X_ w_ h_b h_ => valTo (b := .agg ([.int .i64 ((b.mn.add p).x), .int .i64 ((b.mn.add p).y), .int .i64 ((b.mn.add p).z), .int .i64 ((b.mx.add p).x), .int .i64 ((b.mx.add p).y), .int .i64 ((b.mx.add p).z)]).toArray) (by kernel_rfl) (litRun (by kernel_rfl)))) ?_
   refine aoNext rfl (aoStore (gb := fun g_ => g8) (k := 0) (cur := fun g_ => [.int .i64 0, .int .i64 0, .int .i64 0, .int .i64 0, .int .i64 0, .int .i64 0]) (vs := fun g_ => [.int .i64 ((b.mn.add p).x), .int .i64 ((b.mn.add p).y), .int .i64 ((b.mn.add p).z), .int .i64 ((b.mx.add p).x), .int .i64 ((b.mx.add p).y), .int .i64 ((b.mx.add p).z)]) 2 (fun g_ => [(4, .pointer (some ⟨g8, 0, none⟩)), (13, .agg ([.int .i64 ((b.mn.add p).x), .int .i64 ((b.mn.add p).y), .int .i64 ((b.mn.add p).z), .int .i64 ((b.mx.add p).x), .int .i64 ((b.mx.add p).y), .int .i64 ((b.mx.add p).z)]).toArray)]) (fun g_ a_ h_k => ⟨(h_k.out 4 (by kernel_rfl)).trans (litGet (by kernel_rfl)), (h_k.inn 8 _ _ (by kernel_rfl) rfl rfl).trans (by kernel_rfl), trivial⟩) Ty.ag_voxel_api_Box (fun b_ g_ h_b => by show some (Res.arr g8 55 (bsel (b_ 9) [.int .i64 ((b.mn.add p).x), .int .i64 ((b.mn.add p).y), .int .i64 ((b.mn.add p).z), .int .i64 ((b.mx.add p).x), .int .i64 ((b.mx.add p).y), .int .i64 ((b.mx.add p).z)] [.int .i64 0, .int .i64 0, .int .i64 0, .int .i64 0, .int .i64 0, .int .i64 0])) = some (Res.arr g8 55 ([.int .i64 0, .int .i64 0, .int .i64 0, .int .i64 0, .int .i64 0, .int .i64 0])); rw [bselF h_b.no]) (fun g_ X_ => (wn rfl)) rfl (fun g_ X_ => litEv (by kernel_rfl)) (fun g_ X_ => litEv (by kernel_rfl)) (fun _ => by kernel_rfl) (fun _ => by kernel_rfl) (fun _ => by kernel_rfl) (fun b_ g_ h_b => by kernel_rfl) rfl) ?_
   exact aoDone (by decide)
 intro g_ a_ w13 hF_ hm12
 obtain ⟨X14, rfl⟩ := frLit (⟨hF_.size, hF_.defers, ⟨(hF_.out 4 (by kernel_rfl)).trans (litGet (by kernel_rfl)), (hF_.inn 0 _ _ rfl rfl).trans (by kernel_rfl), (hF_.inn 1 _ _ rfl rfl).trans (by kernel_rfl), (hF_.inn 2 _ _ rfl rfl).trans (by kernel_rfl), (hF_.inn 3 _ _ rfl rfl).trans (by kernel_rfl), (hF_.inn 4 _ _ rfl rfl).trans (by kernel_rfl), (hF_.inn 5 _ _ rfl rfl).trans (by kernel_rfl), (hF_.inn 6 _ _ rfl rfl).trans (by kernel_rfl), (hF_.inn 7 _ _ rfl rfl).trans (by kernel_rfl), (hF_.inn 8 _ _ rfl rfl).trans (by kernel_rfl), trivial⟩⟩ : Fr _ 14 [(4, .pointer (some ⟨g8, 0, none⟩)), (5, .pointer (some ⟨g2, 0, none⟩)), (6, .agg (pcs b.mn).toArray), (7, .agg (pcs p).toArray), (8, .agg (pcs (b.mn.add p)).toArray), (9, .pointer (some ⟨g2, 3, none⟩)), (10, .agg (pcs b.mx).toArray), (11, .agg (pcs p).toArray), (12, .agg (pcs (b.mx.add p)).toArray), (13, .agg ([.int .i64 ((b.mn.add p).x), .int .i64 ((b.mn.add p).y), .int .i64 ((b.mn.add p).z), .int .i64 ((b.mx.add p).x), .int .i64 ((b.mx.add p).y), .int .i64 ((b.mx.add p).z)]).toArray)])
 clear hF_
 have hm15 : Mem w w13 [.arr g2 55 (bxs b), .arr g5 23 (pcs p), .arr g8 55 ([.int .i64 ((b.mn.add p).x), .int .i64 ((b.mn.add p).y), .int .i64 ((b.mn.add p).z), .int .i64 ((b.mx.add p).x), .int .i64 ((b.mx.add p).y), .int .i64 ((b.mx.add p).z)])] := hm12
 clear hm12 hm9
 refine then_normal (hK11 _ _ ?_)
 refine wp_ret ?_
 refine bodyPost_ret (v := .agg ([.int .i64 ((b.mn.add p).x), .int .i64 ((b.mn.add p).y), .int .i64 ((b.mn.add p).z), .int .i64 ((b.mx.add p).x), .int .i64 ((b.mx.add p).y), .int .i64 ((b.mx.add p).z)]).toArray) (gRes1 rfl (gResAg (cs := [.int .i64 ((b.mn.add p).x), .int .i64 ((b.mn.add p).y), .int .i64 ((b.mn.add p).z), .int .i64 ((b.mx.add p).x), .int .i64 ((b.mx.add p).y), .int .i64 ((b.mx.add p).z)]) 2 hm15 rfl Ty.ag_voxel_api_Box rfl (litGet (by kernel_rfl)))) rfl ?_
 exact ⟨by rfl, hm15.bel⟩
set_option maxRecDepth 100000 in
set_option maxHeartbeats 4000000 in
theorem rshift_any (b : Bx) (p : Pt) (hb : ((-1073741824 ≤ b.mn.x ∧ b.mn.x ≤ 1073741824) ∧ (-1073741824 ≤ b.mn.y ∧ b.mn.y ≤ 1073741824) ∧ (-1073741824 ≤ b.mn.z ∧ b.mn.z ≤ 1073741824)) ∧ ((-1073741824 ≤ b.mx.x ∧ b.mx.x ≤ 1073741824) ∧ (-1073741824 ≤ b.mx.y ∧ b.mx.y ≤ 1073741824) ∧ (-1073741824 ≤ b.mx.z ∧ b.mx.z ≤ 1073741824))) (hp : (-1073741824 ≤ p.x ∧ p.x ≤ 1073741824) ∧ (-1073741824 ≤ p.y ∧ p.y ≤ 1073741824) ∧ (-1073741824 ≤ p.z ∧ p.z ≤ 1073741824)) (w : World) : Calls Try.prog 58 #[.agg (bxs b).toArray, .agg (pcs p).toArray] w (RetV w (.agg (bxs (b.shift p)).toArray)) := by
 have hm0 := Mem.nil w
 go_enter Try.func58, Try.ntmps58
 refine litStart 14 [(0, .agg (bxs b).toArray), (1, .agg (pcs p).toArray)] (by kernel_rfl) (fun X0 => ?_)
 refine wp_seq_k fun K1 hK1 => ?_
 refine plStart ?_
 refine plBox hm0 (cs := bxs b) (i := 0) rfl (wn rfl) rfl (litEv (by kernel_rfl)) ?_
 intro g2 w4 hm3
 clear hm0
 try simp only [List.cons_append, List.nil_append, List.set_cons_succ, List.set_cons_zero] at hm3
 refine qP rfl ?_
 refine plBox hm3 (cs := pcs p) (i := 1) rfl (wn rfl) rfl (litEv (by kernel_rfl)) ?_
 intro g5 w7 hm6
 clear hm3
 try simp only [List.cons_append, List.nil_append, List.set_cons_succ, List.set_cons_zero] at hm6
 refine qP rfl ?_
 refine plAlloc (z := [.int .i64 0, .int .i64 0, .int .i64 0, .int .i64 0, .int .i64 0, .int .i64 0]) Ty.ag_voxel_api_Box hm6 (i := 2) rfl (wn rfl) rfl ?_
 intro g8 w10 hm9
 clear hm6
 try simp only [List.cons_append, List.nil_append, List.set_cons_succ, List.set_cons_zero] at hm9
 refine qP rfl ?_
 refine plD ?_
 refine then_normal (hK1 _ _ ?_)
 refine wp_seq_k fun K11 hK11 => ?_
 refine aoStart (aoV [fun _ => .pointer (some ⟨g2, 0, none⟩), fun _ => .agg (pcs b.mn).toArray, fun _ => .agg (pcs p).toArray, fun _ => .agg (pcs (b.mn.add p)).toArray, fun _ => .pointer (some ⟨g2, 3, none⟩), fun _ => .agg (pcs b.mx).toArray, fun _ => .agg (pcs p).toArray, fun _ => .agg (pcs (b.mx.add p)).toArray, fun _ => .agg ([.int .i64 ((b.mn.add p).x), .int .i64 ((b.mn.add p).y), .int .i64 ((b.mn.add p).z), .int .i64 ((b.mx.add p).x), .int .i64 ((b.mx.add p).y), .int .i64 ((b.mx.add p).z)]).toArray, fun _ => undef]) (aoA [0, 1, 2, 3, 4, 5, 6, 7, 8, 9]) (fun b_ g_ => ((.arr g2 55 (bxs b)) :: (.arr g5 23 (pcs p)) :: (.arr g8 55 (bsel (b_ 9) [.int .i64 ((b.mn.add p).x), .int .i64 ((b.mn.add p).y), .int .i64 ((b.mn.add p).z), .int .i64 ((b.mx.add p).x), .int .i64 ((b.mx.add p).y), .int .i64 ((b.mx.add p).z)] [.int .i64 0, .int .i64 0, .int .i64 0, .int .i64 0, .int .i64 0, .int .i64 0])) :: [])) hm9 (by kernel_rfl) (by kernel_rfl) (fun w_ h_ => h_) (fun b_ g_ h_ => by show (fun (x9_ : Bool) => (((.arr g2 55 (bxs b)) :: (.arr g5 23 (pcs p)) :: (.arr g8 55 (bsel x9_ [.int .i64 ((b.mn.add p).x), .int .i64 ((b.mn.add p).y), .int .i64 ((b.mn.add p).z), .int .i64 ((b.mx.add p).x), .int .i64 ((b.mx.add p).y), .int .i64 ((b.mx.add p).z)] [.int .i64 0, .int .i64 0, .int .i64 0, .int .i64 0, .int .i64 0, .int .i64 0])) :: []) : List Res)) (b_ 9) = _; rw [h_ 9 (by decide)]) ?_ ?_
 · refine aoNext rfl (aoVal (fun g_ => [(2, .pointer (some ⟨g2, 0, none⟩))]) (fun g_ a_ h_k => ⟨(h_k.out 2 (by kernel_rfl)).trans (litGet (by kernel_rfl)), trivial⟩) (fun g_ X_ => (wn rfl)) (fun b_ g_ => by kernel_rfl) (fun b_ g_ X_ w_ h_b h_ => valTo (b := .pointer (some ⟨g2, 0, none⟩)) (by kernel_rfl) (litRun (by kernel_rfl)))) ?_
   refine aoNext rfl (aoVal (fun g_ => [(5, .pointer (some ⟨g2, 0, none⟩))]) (fun g_ a_ h_k => ⟨(h_k.inn 0 _ _ (by kernel_rfl) rfl rfl).trans (by kernel_rfl), trivial⟩) (fun g_ X_ => (wn rfl)) (fun b_ g_ => by kernel_rfl) (fun b_ g_ X_ w_ h_b h_ => valTo (b := .agg (pcs b.mn).toArray) (by kernel_rfl) ((fun (h_ : Mem _ w_ ((.arr g2 55 (bxs b)) :: (.arr g5 23 (pcs p)) :: (.arr g8 55 ([.int .i64 0, .int .i64 0, .int .i64 0, .int .i64 0, .int .i64 0, .int .i64 0])) :: [])) => gLoadAg (vs := pcs b.mn) (k := 0) 0 h_ rfl (by kernel_rfl) (by kernel_rfl) (.tmp 5) Ty.ag_voxel_api_Point rfl (litEv (by kernel_rfl))) (by have h2_ : Mem w w_ ((.arr g2 55 (bxs b)) :: (.arr g5 23 (pcs p)) :: (.arr g8 55 (bsel (b_ 9) [.int .i64 ((b.mn.add p).x), .int .i64 ((b.mn.add p).y), .int .i64 ((b.mn.add p).z), .int .i64 ((b.mx.add p).x), .int .i64 ((b.mx.add p).y), .int .i64 ((b.mx.add p).z)] [.int .i64 0, .int .i64 0, .int .i64 0, .int .i64 0, .int .i64 0, .int .i64 0])) :: []) := h_; rw [bselF (h_b.post 9 (by kernel_rfl))] at h2_; exact h2_)))) ?_
   refine aoNext rfl (aoVal (fun g_ => [(3, .pointer (some ⟨g5, 0, none⟩))]) (fun g_ a_ h_k => ⟨(h_k.out 3 (by kernel_rfl)).trans (litGet (by kernel_rfl)), trivial⟩) (fun g_ X_ => (wn rfl)) (fun b_ g_ => by kernel_rfl) (fun b_ g_ X_ w_ h_b h_ => valTo (b := .agg (pcs p).toArray) (by kernel_rfl) ((fun (h_ : Mem _ w_ ((.arr g2 55 (bxs b)) :: (.arr g5 23 (pcs p)) :: (.arr g8 55 ([.int .i64 0, .int .i64 0, .int .i64 0, .int .i64 0, .int .i64 0, .int .i64 0])) :: [])) => gLoadAg (vs := pcs p) (k := 0) 1 h_ rfl (by kernel_rfl) (by kernel_rfl) (.tmp 3) Ty.ag_voxel_api_Point rfl (litEv (by kernel_rfl))) (by have h2_ : Mem w w_ ((.arr g2 55 (bxs b)) :: (.arr g5 23 (pcs p)) :: (.arr g8 55 (bsel (b_ 9) [.int .i64 ((b.mn.add p).x), .int .i64 ((b.mn.add p).y), .int .i64 ((b.mn.add p).z), .int .i64 ((b.mx.add p).x), .int .i64 ((b.mx.add p).y), .int .i64 ((b.mx.add p).z)] [.int .i64 0, .int .i64 0, .int .i64 0, .int .i64 0, .int .i64 0, .int .i64 0])) :: []) := h_; rw [bselF (h_b.post 9 (by kernel_rfl))] at h2_; exact h2_)))) ?_
   refine aoNext rfl (aoCall (fun g_ => [(6, .agg (pcs b.mn).toArray), (7, .agg (pcs p).toArray)]) (fun g_ a_ h_k => ⟨(h_k.inn 1 _ _ (by kernel_rfl) rfl rfl).trans (by kernel_rfl), (h_k.inn 2 _ _ (by kernel_rfl) rfl rfl).trans (by kernel_rfl), trivial⟩) 43 (fun g_ => [.agg (pcs b.mn).toArray, .agg (pcs p).toArray]) [] [] (by kernel_rfl) (fun g_ X_ => (wn rfl)) (fun b_ g_ => by kernel_rfl) rfl (fun g_ X_ => litEv (by kernel_rfl)) (fun g_ X_ => litArgs (by kernel_rfl)) (fun b_ g_ w_ h_b h_ => (radd_any b.mn p hb.1 hp _).mono (fun _ _ h_r => ⟨h_r.1.trans (by kernel_rfl), h_r.2⟩))) ?_
   refine aoNext rfl (aoVal (fun g_ => [(2, .pointer (some ⟨g2, 0, none⟩))]) (fun g_ a_ h_k => ⟨(h_k.out 2 (by kernel_rfl)).trans (litGet (by kernel_rfl)), trivial⟩) (fun g_ X_ => (wn rfl)) (fun b_ g_ => by kernel_rfl) (fun b_ g_ X_ w_ h_b h_ => valTo (b := .pointer (some ⟨g2, 3, none⟩)) (by kernel_rfl) (litRun (by kernel_rfl)))) ?_
   refine aoNext rfl (aoVal (fun g_ => [(9, .pointer (some ⟨g2, 3, none⟩))]) (fun g_ a_ h_k => ⟨(h_k.inn 4 _ _ (by kernel_rfl) rfl rfl).trans (by kernel_rfl), trivial⟩) (fun g_ X_ => (wn rfl)) (fun b_ g_ => by kernel_rfl) (fun b_ g_ X_ w_ h_b h_ => valTo (b := .agg (pcs b.mx).toArray) (by kernel_rfl) ((fun (h_ : Mem _ w_ ((.arr g2 55 (bxs b)) :: (.arr g5 23 (pcs p)) :: (.arr g8 55 ([.int .i64 0, .int .i64 0, .int .i64 0, .int .i64 0, .int .i64 0, .int .i64 0])) :: [])) => gLoadAg (vs := pcs b.mx) (k := 3) 0 h_ rfl (by kernel_rfl) (by kernel_rfl) (.tmp 9) Ty.ag_voxel_api_Point rfl (litEv (by kernel_rfl))) (by have h2_ : Mem w w_ ((.arr g2 55 (bxs b)) :: (.arr g5 23 (pcs p)) :: (.arr g8 55 (bsel (b_ 9) [.int .i64 ((b.mn.add p).x), .int .i64 ((b.mn.add p).y), .int .i64 ((b.mn.add p).z), .int .i64 ((b.mx.add p).x), .int .i64 ((b.mx.add p).y), .int .i64 ((b.mx.add p).z)] [.int .i64 0, .int .i64 0, .int .i64 0, .int .i64 0, .int .i64 0, .int .i64 0])) :: []) := h_; rw [bselF (h_b.post 9 (by kernel_rfl))] at h2_; exact h2_)))) ?_
   refine aoNext rfl (aoVal (fun g_ => [(3, .pointer (some ⟨g5, 0, none⟩))]) (fun g_ a_ h_k => ⟨(h_k.out 3 (by kernel_rfl)).trans (litGet (by kernel_rfl)), trivial⟩) (fun g_ X_ => (wn rfl)) (fun b_ g_ => by kernel_rfl) (fun b_ g_ X_ w_ h_b h_ => valTo (b := .agg (pcs p).toArray) (by kernel_rfl) ((fun (h_ : Mem _ w_ ((.arr g2 55 (bxs b)) :: (.arr g5 23 (pcs p)) :: (.arr g8 55 ([.int .i64 0, .int .i64 0, .int .i64 0, .int .i64 0, .int .i64 0, .int .i64 0])) :: [])) => gLoadAg (vs := pcs p) (k := 0) 1 h_ rfl (by kernel_rfl) (by kernel_rfl) (.tmp 3) Ty.ag_voxel_api_Point rfl (litEv (by kernel_rfl))) (by have h2_ : Mem w w_ ((.arr g2 55 (bxs b)) :: (.arr g5 23 (pcs p)) :: (.arr g8 55 (bsel (b_ 9) [.int .i64 ((b.mn.add p).x), .int .i64 ((b.mn.add p).y), .int .i64 ((b.mn.add p).z), .int .i64 ((b.mx.add p).x), .int .i64 ((b.mx.add p).y), .int .i64 ((b.mx.add p).z)] [.int .i64 0, .int .i64 0, .int .i64 0, .int .i64 0, .int .i64 0, .int .i64 0])) :: []) := h_; rw [bselF (h_b.post 9 (by kernel_rfl))] at h2_; exact h2_)))) ?_
   refine aoNext rfl (aoCall (fun g_ => [(10, .agg (pcs b.mx).toArray), (11, .agg (pcs p).toArray)]) (fun g_ a_ h_k => ⟨(h_k.inn 5 _ _ (by kernel_rfl) rfl rfl).trans (by kernel_rfl), (h_k.inn 6 _ _ (by kernel_rfl) rfl rfl).trans (by kernel_rfl), trivial⟩) 43 (fun g_ => [.agg (pcs b.mx).toArray, .agg (pcs p).toArray]) [] [] (by kernel_rfl) (fun g_ X_ => (wn rfl)) (fun b_ g_ => by kernel_rfl) rfl (fun g_ X_ => litEv (by kernel_rfl)) (fun g_ X_ => litArgs (by kernel_rfl)) (fun b_ g_ w_ h_b h_ => (radd_any b.mx p hb.2 hp _).mono (fun _ _ h_r => ⟨h_r.1.trans (by kernel_rfl), h_r.2⟩))) ?_
   refine aoNext rfl (aoVal (fun g_ => [(8, .agg (pcs (b.mn.add p)).toArray), (12, .agg (pcs (b.mx.add p)).toArray)]) (fun g_ a_ h_k => ⟨(h_k.inn 3 _ _ (by kernel_rfl) rfl rfl).trans (by kernel_rfl), (h_k.inn 7 _ _ (by kernel_rfl) rfl rfl).trans (by kernel_rfl), trivial⟩) (fun g_ X_ => (wn rfl)) (fun b_ g_ => by kernel_rfl) (fun b_ g_ X_ w_ h_b h_ => valTo (b := .agg ([.int .i64 ((b.mn.add p).x), .int .i64 ((b.mn.add p).y), .int .i64 ((b.mn.add p).z), .int .i64 ((b.mx.add p).x), .int .i64 ((b.mx.add p).y), .int .i64 ((b.mx.add p).z)]).toArray) (by kernel_rfl) (litRun (by kernel_rfl)))) ?_
   refine aoNext rfl (aoStore (gb := fun g_ => g8) (k := 0) (cur := fun g_ => [.int .i64 0, .int .i64 0, .int .i64 0, .int .i64 0, .int .i64 0, .int .i64 0]) (vs := fun g_ => [.int .i64 ((b.mn.add p).x), .int .i64 ((b.mn.add p).y), .int .i64 ((b.mn.add p).z), .int .i64 ((b.mx.add p).x), .int .i64 ((b.mx.add p).y), .int .i64 ((b.mx.add p).z)]) 2 (fun g_ => [(4, .pointer (some ⟨g8, 0, none⟩)), (13, .agg ([.int .i64 ((b.mn.add p).x), .int .i64 ((b.mn.add p).y), .int .i64 ((b.mn.add p).z), .int .i64 ((b.mx.add p).x), .int .i64 ((b.mx.add p).y), .int .i64 ((b.mx.add p).z)]).toArray)]) (fun g_ a_ h_k => ⟨(h_k.out 4 (by kernel_rfl)).trans (litGet (by kernel_rfl)), (h_k.inn 8 _ _ (by kernel_rfl) rfl rfl).trans (by kernel_rfl), trivial⟩) Ty.ag_voxel_api_Box (fun b_ g_ h_b => by show some (Res.arr g8 55 (bsel (b_ 9) [.int .i64 ((b.mn.add p).x), .int .i64 ((b.mn.add p).y), .int .i64 ((b.mn.add p).z), .int .i64 ((b.mx.add p).x), .int .i64 ((b.mx.add p).y), .int .i64 ((b.mx.add p).z)] [.int .i64 0, .int .i64 0, .int .i64 0, .int .i64 0, .int .i64 0, .int .i64 0])) = some (Res.arr g8 55 ([.int .i64 0, .int .i64 0, .int .i64 0, .int .i64 0, .int .i64 0, .int .i64 0])); rw [bselF h_b.no]) (fun g_ X_ => (wn rfl)) rfl (fun g_ X_ => litEv (by kernel_rfl)) (fun g_ X_ => litEv (by kernel_rfl)) (fun _ => by kernel_rfl) (fun _ => by kernel_rfl) (fun _ => by kernel_rfl) (fun b_ g_ h_b => by kernel_rfl) rfl) ?_
   exact aoDone (by decide)
 intro g_ a_ w13 hF_ hm12
 obtain ⟨X14, rfl⟩ := frLit (⟨hF_.size, hF_.defers, ⟨(hF_.out 4 (by kernel_rfl)).trans (litGet (by kernel_rfl)), (hF_.inn 0 _ _ rfl rfl).trans (by kernel_rfl), (hF_.inn 1 _ _ rfl rfl).trans (by kernel_rfl), (hF_.inn 2 _ _ rfl rfl).trans (by kernel_rfl), (hF_.inn 3 _ _ rfl rfl).trans (by kernel_rfl), (hF_.inn 4 _ _ rfl rfl).trans (by kernel_rfl), (hF_.inn 5 _ _ rfl rfl).trans (by kernel_rfl), (hF_.inn 6 _ _ rfl rfl).trans (by kernel_rfl), (hF_.inn 7 _ _ rfl rfl).trans (by kernel_rfl), (hF_.inn 8 _ _ rfl rfl).trans (by kernel_rfl), trivial⟩⟩ : Fr _ 14 [(4, .pointer (some ⟨g8, 0, none⟩)), (5, .pointer (some ⟨g2, 0, none⟩)), (6, .agg (pcs b.mn).toArray), (7, .agg (pcs p).toArray), (8, .agg (pcs (b.mn.add p)).toArray), (9, .pointer (some ⟨g2, 3, none⟩)), (10, .agg (pcs b.mx).toArray), (11, .agg (pcs p).toArray), (12, .agg (pcs (b.mx.add p)).toArray), (13, .agg ([.int .i64 ((b.mn.add p).x), .int .i64 ((b.mn.add p).y), .int .i64 ((b.mn.add p).z), .int .i64 ((b.mx.add p).x), .int .i64 ((b.mx.add p).y), .int .i64 ((b.mx.add p).z)]).toArray)])
 clear hF_
 have hm15 : Mem w w13 [.arr g2 55 (bxs b), .arr g5 23 (pcs p), .arr g8 55 ([.int .i64 ((b.mn.add p).x), .int .i64 ((b.mn.add p).y), .int .i64 ((b.mn.add p).z), .int .i64 ((b.mx.add p).x), .int .i64 ((b.mx.add p).y), .int .i64 ((b.mx.add p).z)])] := hm12
 clear hm12 hm9
 refine then_normal (hK11 _ _ ?_)
 refine wp_ret ?_
 refine bodyPost_ret (v := .agg ([.int .i64 ((b.mn.add p).x), .int .i64 ((b.mn.add p).y), .int .i64 ((b.mn.add p).z), .int .i64 ((b.mx.add p).x), .int .i64 ((b.mx.add p).y), .int .i64 ((b.mx.add p).z)]).toArray) (gRes1 rfl (gResAg (cs := [.int .i64 ((b.mn.add p).x), .int .i64 ((b.mn.add p).y), .int .i64 ((b.mn.add p).z), .int .i64 ((b.mx.add p).x), .int .i64 ((b.mx.add p).y), .int .i64 ((b.mx.add p).z)]) 2 hm15 rfl Ty.ag_voxel_api_Box rfl (litGet (by kernel_rfl)))) rfl ?_
 exact ⟨by rfl, hm15.bel⟩
set_option maxRecDepth 100000 in
set_option maxHeartbeats 4000000 in
theorem box_any (t : Tl) (h : t.Ok) (w : World) : Calls Try.prog 35 #[.agg (tlc t).toArray] w (RetV w (.agg (bxs t.box).toArray)) := by
 have hs_ := side_bd h.lv
 have hi_ := h.inP
 unfold Pt.In at hi_
 have hp : (-1073741824 ≤ t.p.x ∧ t.p.x ≤ 1073741824) ∧ (-1073741824 ≤ t.p.y ∧ t.p.y ≤ 1073741824) ∧ (-1073741824 ≤ t.p.z ∧ t.p.z ≤ 1073741824) := by omega
 have hb : ((-1073741824 ≤ (cubeB (sideL t.lv)).mn.x ∧ (cubeB (sideL t.lv)).mn.x ≤ 1073741824) ∧ (-1073741824 ≤ (cubeB (sideL t.lv)).mn.y ∧ (cubeB (sideL t.lv)).mn.y ≤ 1073741824) ∧ (-1073741824 ≤ (cubeB (sideL t.lv)).mn.z ∧ (cubeB (sideL t.lv)).mn.z ≤ 1073741824)) ∧ ((-1073741824 ≤ (cubeB (sideL t.lv)).mx.x ∧ (cubeB (sideL t.lv)).mx.x ≤ 1073741824) ∧ (-1073741824 ≤ (cubeB (sideL t.lv)).mx.y ∧ (cubeB (sideL t.lv)).mx.y ≤ 1073741824) ∧ (-1073741824 ≤ (cubeB (sideL t.lv)).mx.z ∧ (cubeB (sideL t.lv)).mx.z ≤ 1073741824)) := by unfold cubeB; simp only; omega
 have hm0 := Mem.nil w
 go_enter Try.func35, Try.ntmps35
 refine litStart 10 [(0, .agg (tlc t).toArray)] (by kernel_rfl) (fun X0 => ?_)
 refine wp_seq_k fun K1 hK1 => ?_
 refine plStart ?_
 refine plBox hm0 (cs := tlc t) (i := 0) rfl (wn rfl) rfl (litEv (by kernel_rfl)) ?_
 intro g2 w4 hm3
 clear hm0
 try simp only [List.cons_append, List.nil_append, List.set_cons_succ, List.set_cons_zero] at hm3
 refine qP rfl ?_
 refine plAlloc (z := [.int .i64 0, .int .i64 0, .int .i64 0, .int .i64 0, .int .i64 0, .int .i64 0]) Ty.ag_voxel_api_Box hm3 (i := 1) rfl (wn rfl) rfl ?_
 intro g5 w7 hm6
 clear hm3
 try simp only [List.cons_append, List.nil_append, List.set_cons_succ, List.set_cons_zero] at hm6
 refine qP rfl ?_
 refine plD ?_
 refine then_normal (hK1 _ _ ?_)
 refine wp_seq_k fun K8 hK8 => ?_
 refine aoStart (aoV [fun _ => .pointer (some ⟨g2, 0, none⟩), fun _ => .int .i64 t.lv, fun _ => .int .i64 (sideL t.lv), fun _ => .agg (bxs (cubeB (sideL t.lv))).toArray, fun _ => .pointer (some ⟨g2, 1, none⟩), fun _ => .agg (pcs t.p).toArray, fun _ => .agg (bxs ((cubeB (sideL t.lv)).shift t.p)).toArray, fun _ => undef]) (aoA [0, 1, 2, 3, 4, 5, 6, 7]) (fun b_ g_ => ((.arr g2 38 (tlc t)) :: (.arr g5 55 (bsel (b_ 7) [.int .i64 (((cubeB (sideL t.lv)).shift t.p).mn.x), .int .i64 (((cubeB (sideL t.lv)).shift t.p).mn.y), .int .i64 (((cubeB (sideL t.lv)).shift t.p).mn.z), .int .i64 (((cubeB (sideL t.lv)).shift t.p).mx.x), .int .i64 (((cubeB (sideL t.lv)).shift t.p).mx.y), .int .i64 (((cubeB (sideL t.lv)).shift t.p).mx.z)] [.int .i64 0, .int .i64 0, .int .i64 0, .int .i64 0, .int .i64 0, .int .i64 0])) :: [])) hm6 (by kernel_rfl) (by kernel_rfl) (fun w_ h_ => h_) (fun b_ g_ h_ => by show (fun (x7_ : Bool) => (((.arr g2 38 (tlc t)) :: (.arr g5 55 (bsel x7_ [.int .i64 (((cubeB (sideL t.lv)).shift t.p).mn.x), .int .i64 (((cubeB (sideL t.lv)).shift t.p).mn.y), .int .i64 (((cubeB (sideL t.lv)).shift t.p).mn.z), .int .i64 (((cubeB (sideL t.lv)).shift t.p).mx.x), .int .i64 (((cubeB (sideL t.lv)).shift t.p).mx.y), .int .i64 (((cubeB (sideL t.lv)).shift t.p).mx.z)] [.int .i64 0, .int .i64 0, .int .i64 0, .int .i64 0, .int .i64 0, .int .i64 0])) :: []) : List Res)) (b_ 7) = _; rw [h_ 7 (by decide)]) ?_ ?_
 · refine aoNext rfl (aoVal (fun g_ => [(1, .pointer (some ⟨g2, 0, none⟩))]) (fun g_ a_ h_k => ⟨(h_k.out 1 (by kernel_rfl)).trans (litGet (by kernel_rfl)), trivial⟩) (fun g_ X_ => (wn rfl)) (fun b_ g_ => by kernel_rfl) (fun b_ g_ X_ w_ h_b h_ => valTo (b := .pointer (some ⟨g2, 0, none⟩)) (by kernel_rfl) (litRun (by kernel_rfl)))) ?_
   refine aoNext rfl (aoVal (fun g_ => [(3, .pointer (some ⟨g2, 0, none⟩))]) (fun g_ a_ h_k => ⟨(h_k.inn 0 _ _ (by kernel_rfl) rfl rfl).trans (by kernel_rfl), trivial⟩) (fun g_ X_ => (wn rfl)) (fun b_ g_ => by kernel_rfl) (fun b_ g_ X_ w_ h_b h_ => valTo (b := .int .i64 t.lv) (by kernel_rfl) ((fun (h_ : Mem _ w_ ((.arr g2 38 (tlc t)) :: (.arr g5 55 ([.int .i64 0, .int .i64 0, .int .i64 0, .int .i64 0, .int .i64 0, .int .i64 0])) :: [])) => gLoad (v := .int .i64 t.lv) (k := 0) 0 h_ rfl (by kernel_rfl) (.tmp 3) (by kernel_rfl) rfl (litEv (by kernel_rfl))) (by have h2_ : Mem w w_ ((.arr g2 38 (tlc t)) :: (.arr g5 55 (bsel (b_ 7) [.int .i64 (((cubeB (sideL t.lv)).shift t.p).mn.x), .int .i64 (((cubeB (sideL t.lv)).shift t.p).mn.y), .int .i64 (((cubeB (sideL t.lv)).shift t.p).mn.z), .int .i64 (((cubeB (sideL t.lv)).shift t.p).mx.x), .int .i64 (((cubeB (sideL t.lv)).shift t.p).mx.y), .int .i64 (((cubeB (sideL t.lv)).shift t.p).mx.z)] [.int .i64 0, .int .i64 0, .int .i64 0, .int .i64 0, .int .i64 0, .int .i64 0])) :: []) := h_; rw [bselF (h_b.post 7 (by kernel_rfl))] at h2_; exact h2_)))) ?_
   refine aoNext rfl (aoCall (fun g_ => [(4, .int .i64 t.lv)]) (fun g_ a_ h_k => ⟨(h_k.inn 1 _ _ (by kernel_rfl) rfl rfl).trans (by kernel_rfl), trivial⟩) 55 (fun g_ => [.int .i64 t.lv]) [] [] (by kernel_rfl) (fun g_ X_ => (wn rfl)) (fun b_ g_ => by kernel_rfl) rfl (fun g_ X_ => litEv (by kernel_rfl)) (fun g_ X_ => litArgs (by kernel_rfl)) (fun b_ g_ w_ h_b h_ => (side_any t.lv h.lv _).mono (fun _ _ h_r => ⟨h_r.1.trans (by kernel_rfl), h_r.2⟩))) ?_
   refine aoNext rfl (aoCall (fun g_ => [(5, .int .i64 (sideL t.lv))]) (fun g_ a_ h_k => ⟨(h_k.inn 2 _ _ (by kernel_rfl) rfl rfl).trans (by kernel_rfl), trivial⟩) 54 (fun g_ => [.int .i64 (sideL t.lv)]) [] [] (by kernel_rfl) (fun g_ X_ => (wn rfl)) (fun b_ g_ => by kernel_rfl) rfl (fun g_ X_ => litEv (by kernel_rfl)) (fun g_ X_ => litArgs (by kernel_rfl)) (fun b_ g_ w_ h_b h_ => (cube_any (sideL t.lv) _).mono (fun _ _ h_r => ⟨h_r.1.trans (by kernel_rfl), h_r.2⟩))) ?_
   refine aoNext rfl (aoVal (fun g_ => [(1, .pointer (some ⟨g2, 0, none⟩))]) (fun g_ a_ h_k => ⟨(h_k.out 1 (by kernel_rfl)).trans (litGet (by kernel_rfl)), trivial⟩) (fun g_ X_ => (wn rfl)) (fun b_ g_ => by kernel_rfl) (fun b_ g_ X_ w_ h_b h_ => valTo (b := .pointer (some ⟨g2, 1, none⟩)) (by kernel_rfl) (litRun (by kernel_rfl)))) ?_
   refine aoNext rfl (aoVal (fun g_ => [(7, .pointer (some ⟨g2, 1, none⟩))]) (fun g_ a_ h_k => ⟨(h_k.inn 4 _ _ (by kernel_rfl) rfl rfl).trans (by kernel_rfl), trivial⟩) (fun g_ X_ => (wn rfl)) (fun b_ g_ => by kernel_rfl) (fun b_ g_ X_ w_ h_b h_ => valTo (b := .agg (pcs t.p).toArray) (by kernel_rfl) ((fun (h_ : Mem _ w_ ((.arr g2 38 (tlc t)) :: (.arr g5 55 ([.int .i64 0, .int .i64 0, .int .i64 0, .int .i64 0, .int .i64 0, .int .i64 0])) :: [])) => gLoadAg (vs := pcs t.p) (k := 1) 0 h_ rfl (by kernel_rfl) (by kernel_rfl) (.tmp 7) Ty.ag_voxel_api_Point rfl (litEv (by kernel_rfl))) (by have h2_ : Mem w w_ ((.arr g2 38 (tlc t)) :: (.arr g5 55 (bsel (b_ 7) [.int .i64 (((cubeB (sideL t.lv)).shift t.p).mn.x), .int .i64 (((cubeB (sideL t.lv)).shift t.p).mn.y), .int .i64 (((cubeB (sideL t.lv)).shift t.p).mn.z), .int .i64 (((cubeB (sideL t.lv)).shift t.p).mx.x), .int .i64 (((cubeB (sideL t.lv)).shift t.p).mx.y), .int .i64 (((cubeB (sideL t.lv)).shift t.p).mx.z)] [.int .i64 0, .int .i64 0, .int .i64 0, .int .i64 0, .int .i64 0, .int .i64 0])) :: []) := h_; rw [bselF (h_b.post 7 (by kernel_rfl))] at h2_; exact h2_)))) ?_
   refine aoNext rfl (aoCall (fun g_ => [(6, .agg (bxs (cubeB (sideL t.lv))).toArray), (8, .agg (pcs t.p).toArray)]) (fun g_ a_ h_k => ⟨(h_k.inn 3 _ _ (by kernel_rfl) rfl rfl).trans (by kernel_rfl), (h_k.inn 5 _ _ (by kernel_rfl) rfl rfl).trans (by kernel_rfl), trivial⟩) 53 (fun g_ => [.agg (bxs (cubeB (sideL t.lv))).toArray, .agg (pcs t.p).toArray]) [] [] (by kernel_rfl) (fun g_ X_ => (wn rfl)) (fun b_ g_ => by kernel_rfl) rfl (fun g_ X_ => litEv (by kernel_rfl)) (fun g_ X_ => litArgs (by kernel_rfl)) (fun b_ g_ w_ h_b h_ => (shift_any (cubeB (sideL t.lv)) t.p hb hp _).mono (fun _ _ h_r => ⟨h_r.1.trans (by kernel_rfl), h_r.2⟩))) ?_
   refine aoNext rfl (aoStore (gb := fun g_ => g5) (k := 0) (cur := fun g_ => [.int .i64 0, .int .i64 0, .int .i64 0, .int .i64 0, .int .i64 0, .int .i64 0]) (vs := fun g_ => bxs ((cubeB (sideL t.lv)).shift t.p)) 1 (fun g_ => [(2, .pointer (some ⟨g5, 0, none⟩)), (9, .agg (bxs ((cubeB (sideL t.lv)).shift t.p)).toArray)]) (fun g_ a_ h_k => ⟨(h_k.out 2 (by kernel_rfl)).trans (litGet (by kernel_rfl)), (h_k.inn 6 _ _ (by kernel_rfl) rfl rfl).trans (by kernel_rfl), trivial⟩) Ty.ag_voxel_api_Box (fun b_ g_ h_b => by show some (Res.arr g5 55 (bsel (b_ 7) [.int .i64 (((cubeB (sideL t.lv)).shift t.p).mn.x), .int .i64 (((cubeB (sideL t.lv)).shift t.p).mn.y), .int .i64 (((cubeB (sideL t.lv)).shift t.p).mn.z), .int .i64 (((cubeB (sideL t.lv)).shift t.p).mx.x), .int .i64 (((cubeB (sideL t.lv)).shift t.p).mx.y), .int .i64 (((cubeB (sideL t.lv)).shift t.p).mx.z)] [.int .i64 0, .int .i64 0, .int .i64 0, .int .i64 0, .int .i64 0, .int .i64 0])) = some (Res.arr g5 55 ([.int .i64 0, .int .i64 0, .int .i64 0, .int .i64 0, .int .i64 0, .int .i64 0])); rw [bselF h_b.no]) (fun g_ X_ => (wn rfl)) rfl (fun g_ X_ => litEv (by kernel_rfl)) (fun g_ X_ => litEv (by kernel_rfl)) (fun _ => by kernel_rfl) (fun _ => by kernel_rfl) (fun _ => by kernel_rfl) (fun b_ g_ h_b => by kernel_rfl) rfl) ?_
   exact aoDone (by decide)
 intro g_ a_ w10 hF_ hm9
 obtain ⟨X11, rfl⟩ := frLit (⟨hF_.size, hF_.defers, ⟨(hF_.out 2 (by kernel_rfl)).trans (litGet (by kernel_rfl)), (hF_.inn 0 _ _ rfl rfl).trans (by kernel_rfl), (hF_.inn 1 _ _ rfl rfl).trans (by kernel_rfl), (hF_.inn 2 _ _ rfl rfl).trans (by kernel_rfl), (hF_.inn 3 _ _ rfl rfl).trans (by kernel_rfl), (hF_.inn 4 _ _ rfl rfl).trans (by kernel_rfl), (hF_.inn 5 _ _ rfl rfl).trans (by kernel_rfl), (hF_.inn 6 _ _ rfl rfl).trans (by kernel_rfl), trivial⟩⟩ : Fr _ 10 [(2, .pointer (some ⟨g5, 0, none⟩)), (3, .pointer (some ⟨g2, 0, none⟩)), (4, .int .i64 t.lv), (5, .int .i64 (sideL t.lv)), (6, .agg (bxs (cubeB (sideL t.lv))).toArray), (7, .pointer (some ⟨g2, 1, none⟩)), (8, .agg (pcs t.p).toArray), (9, .agg (bxs ((cubeB (sideL t.lv)).shift t.p)).toArray)])
 clear hF_
 have hm12 : Mem w w10 [.arr g2 38 (tlc t), .arr g5 55 (bxs ((cubeB (sideL t.lv)).shift t.p))] := hm9
 clear hm9 hm6
 refine then_normal (hK8 _ _ ?_)
 refine wp_ret ?_
 refine bodyPost_ret (v := .agg (bxs ((cubeB (sideL t.lv)).shift t.p)).toArray) (gRes1 rfl (gResAg (cs := bxs ((cubeB (sideL t.lv)).shift t.p)) 1 hm12 rfl Ty.ag_voxel_api_Box rfl (litGet (by kernel_rfl)))) rfl ?_
 exact ⟨by rfl, hm12.bel⟩
set_option maxRecDepth 100000 in
set_option maxHeartbeats 4000000 in
theorem rbox_any (t : Tl) (h : t.Ok) (w : World) : Calls Try.prog 37 #[.agg (tlc t).toArray] w (RetV w (.agg (bxs t.box).toArray)) := by
 have hs_ := side_bd h.lv
 have hi_ := h.inP
 unfold Pt.In at hi_
 have hp : (-1073741824 ≤ t.p.x ∧ t.p.x ≤ 1073741824) ∧ (-1073741824 ≤ t.p.y ∧ t.p.y ≤ 1073741824) ∧ (-1073741824 ≤ t.p.z ∧ t.p.z ≤ 1073741824) := by omega
 have hb : ((-1073741824 ≤ (cubeB (sideL t.lv)).mn.x ∧ (cubeB (sideL t.lv)).mn.x ≤ 1073741824) ∧ (-1073741824 ≤ (cubeB (sideL t.lv)).mn.y ∧ (cubeB (sideL t.lv)).mn.y ≤ 1073741824) ∧ (-1073741824 ≤ (cubeB (sideL t.lv)).mn.z ∧ (cubeB (sideL t.lv)).mn.z ≤ 1073741824)) ∧ ((-1073741824 ≤ (cubeB (sideL t.lv)).mx.x ∧ (cubeB (sideL t.lv)).mx.x ≤ 1073741824) ∧ (-1073741824 ≤ (cubeB (sideL t.lv)).mx.y ∧ (cubeB (sideL t.lv)).mx.y ≤ 1073741824) ∧ (-1073741824 ≤ (cubeB (sideL t.lv)).mx.z ∧ (cubeB (sideL t.lv)).mx.z ≤ 1073741824)) := by unfold cubeB; simp only; omega
 have hm0 := Mem.nil w
 go_enter Try.func37, Try.ntmps37
 refine litStart 9 [(0, .agg (tlc t).toArray)] (by kernel_rfl) (fun X0 => ?_)
 refine wp_seq_k fun K1 hK1 => ?_
 refine plStart ?_
 refine plBox hm0 (cs := tlc t) (i := 0) rfl (wn rfl) rfl (litEv (by kernel_rfl)) ?_
 intro g2 w4 hm3
 clear hm0
 try simp only [List.cons_append, List.nil_append, List.set_cons_succ, List.set_cons_zero] at hm3
 refine qP rfl ?_
 refine plAlloc (z := [.int .i64 0, .int .i64 0, .int .i64 0, .int .i64 0, .int .i64 0, .int .i64 0]) Ty.ag_voxel_api_Box hm3 (i := 1) rfl (wn rfl) rfl ?_
 intro g5 w7 hm6
 clear hm3
 try simp only [List.cons_append, List.nil_append, List.set_cons_succ, List.set_cons_zero] at hm6
 refine qP rfl ?_
 refine plD ?_
 refine then_normal (hK1 _ _ ?_)
 refine wp_seq_k fun K8 hK8 => ?_
 refine aoStart (aoV [fun _ => .agg (tlc t).toArray, fun _ => .int .i64 (sideL t.lv), fun _ => .agg (bxs (cubeB (sideL t.lv))).toArray, fun _ => .pointer (some ⟨g2, 1, none⟩), fun _ => .agg (pcs t.p).toArray, fun _ => .agg (bxs ((cubeB (sideL t.lv)).shift t.p)).toArray, fun _ => undef]) (aoA [0, 1, 2, 3, 4, 5, 6]) (fun b_ g_ => ((.arr g2 38 (tlc t)) :: (.arr g5 55 (bsel (b_ 6) [.int .i64 (((cubeB (sideL t.lv)).shift t.p).mn.x), .int .i64 (((cubeB (sideL t.lv)).shift t.p).mn.y), .int .i64 (((cubeB (sideL t.lv)).shift t.p).mn.z), .int .i64 (((cubeB (sideL t.lv)).shift t.p).mx.x), .int .i64 (((cubeB (sideL t.lv)).shift t.p).mx.y), .int .i64 (((cubeB (sideL t.lv)).shift t.p).mx.z)] [.int .i64 0, .int .i64 0, .int .i64 0, .int .i64 0, .int .i64 0, .int .i64 0])) :: [])) hm6 (by kernel_rfl) (by kernel_rfl) (fun w_ h_ => h_) (fun b_ g_ h_ => by show (fun (x6_ : Bool) => (((.arr g2 38 (tlc t)) :: (.arr g5 55 (bsel x6_ [.int .i64 (((cubeB (sideL t.lv)).shift t.p).mn.x), .int .i64 (((cubeB (sideL t.lv)).shift t.p).mn.y), .int .i64 (((cubeB (sideL t.lv)).shift t.p).mn.z), .int .i64 (((cubeB (sideL t.lv)).shift t.p).mx.x), .int .i64 (((cubeB (sideL t.lv)).shift t.p).mx.y), .int .i64 (((cubeB (sideL t.lv)).shift t.p).mx.z)] [.int .i64 0, .int .i64 0, .int .i64 0, .int .i64 0, .int .i64 0, .int .i64 0])) :: []) : List Res)) (b_ 6) = _; rw [h_ 6 (by decide)]) ?_ ?_
 · refine aoNext rfl (aoVal (fun g_ => [(1, .pointer (some ⟨g2, 0, none⟩))]) (fun g_ a_ h_k => ⟨(h_k.out 1 (by kernel_rfl)).trans (litGet (by kernel_rfl)), trivial⟩) (fun g_ X_ => (wn rfl)) (fun b_ g_ => by kernel_rfl) (fun b_ g_ X_ w_ h_b h_ => valTo (b := .agg (tlc t).toArray) (by kernel_rfl) ((fun (h_ : Mem _ w_ ((.arr g2 38 (tlc t)) :: (.arr g5 55 ([.int .i64 0, .int .i64 0, .int .i64 0, .int .i64 0, .int .i64 0, .int .i64 0])) :: [])) => gLoadAg (vs := tlc t) (k := 0) 0 h_ rfl (by kernel_rfl) (by kernel_rfl) (.tmp 1) Ty.ag_voxel_api_Tile rfl (litEv (by kernel_rfl))) (by have h2_ : Mem w w_ ((.arr g2 38 (tlc t)) :: (.arr g5 55 (bsel (b_ 6) [.int .i64 (((cubeB (sideL t.lv)).shift t.p).mn.x), .int .i64 (((cubeB (sideL t.lv)).shift t.p).mn.y), .int .i64 (((cubeB (sideL t.lv)).shift t.p).mn.z), .int .i64 (((cubeB (sideL t.lv)).shift t.p).mx.x), .int .i64 (((cubeB (sideL t.lv)).shift t.p).mx.y), .int .i64 (((cubeB (sideL t.lv)).shift t.p).mx.z)] [.int .i64 0, .int .i64 0, .int .i64 0, .int .i64 0, .int .i64 0, .int .i64 0])) :: []) := h_; rw [bselF (h_b.post 6 (by kernel_rfl))] at h2_; exact h2_)))) ?_
   refine aoNext rfl (aoCall (fun g_ => [(3, .agg (tlc t).toArray)]) (fun g_ a_ h_k => ⟨(h_k.inn 0 _ _ (by kernel_rfl) rfl rfl).trans (by kernel_rfl), trivial⟩) 45 (fun g_ => [.agg (tlc t).toArray]) [] [] (by kernel_rfl) (fun g_ X_ => (wn rfl)) (fun b_ g_ => by kernel_rfl) rfl (fun g_ X_ => litEv (by kernel_rfl)) (fun g_ X_ => litArgs (by kernel_rfl)) (fun b_ g_ w_ h_b h_ => (rside_any t h.lv _).mono (fun _ _ h_r => ⟨h_r.1.trans (by kernel_rfl), h_r.2⟩))) ?_
   refine aoNext rfl (aoCall (fun g_ => [(4, .int .i64 (sideL t.lv))]) (fun g_ a_ h_k => ⟨(h_k.inn 1 _ _ (by kernel_rfl) rfl rfl).trans (by kernel_rfl), trivial⟩) 27 (fun g_ => [.int .i64 (sideL t.lv)]) [] [] (by kernel_rfl) (fun g_ X_ => (wn rfl)) (fun b_ g_ => by kernel_rfl) rfl (fun g_ X_ => litEv (by kernel_rfl)) (fun g_ X_ => litArgs (by kernel_rfl)) (fun b_ g_ w_ h_b h_ => (rcube_any (sideL t.lv) _).mono (fun _ _ h_r => ⟨h_r.1.trans (by kernel_rfl), h_r.2⟩))) ?_
   refine aoNext rfl (aoVal (fun g_ => [(1, .pointer (some ⟨g2, 0, none⟩))]) (fun g_ a_ h_k => ⟨(h_k.out 1 (by kernel_rfl)).trans (litGet (by kernel_rfl)), trivial⟩) (fun g_ X_ => (wn rfl)) (fun b_ g_ => by kernel_rfl) (fun b_ g_ X_ w_ h_b h_ => valTo (b := .pointer (some ⟨g2, 1, none⟩)) (by kernel_rfl) (litRun (by kernel_rfl)))) ?_
   refine aoNext rfl (aoVal (fun g_ => [(6, .pointer (some ⟨g2, 1, none⟩))]) (fun g_ a_ h_k => ⟨(h_k.inn 3 _ _ (by kernel_rfl) rfl rfl).trans (by kernel_rfl), trivial⟩) (fun g_ X_ => (wn rfl)) (fun b_ g_ => by kernel_rfl) (fun b_ g_ X_ w_ h_b h_ => valTo (b := .agg (pcs t.p).toArray) (by kernel_rfl) ((fun (h_ : Mem _ w_ ((.arr g2 38 (tlc t)) :: (.arr g5 55 ([.int .i64 0, .int .i64 0, .int .i64 0, .int .i64 0, .int .i64 0, .int .i64 0])) :: [])) => gLoadAg (vs := pcs t.p) (k := 1) 0 h_ rfl (by kernel_rfl) (by kernel_rfl) (.tmp 6) Ty.ag_voxel_api_Point rfl (litEv (by kernel_rfl))) (by have h2_ : Mem w w_ ((.arr g2 38 (tlc t)) :: (.arr g5 55 (bsel (b_ 6) [.int .i64 (((cubeB (sideL t.lv)).shift t.p).mn.x), .int .i64 (((cubeB (sideL t.lv)).shift t.p).mn.y), .int .i64 (((cubeB (sideL t.lv)).shift t.p).mn.z), .int .i64 (((cubeB (sideL t.lv)).shift t.p).mx.x), .int .i64 (((cubeB (sideL t.lv)).shift t.p).mx.y), .int .i64 (((cubeB (sideL t.lv)).shift t.p).mx.z)] [.int .i64 0, .int .i64 0, .int .i64 0, .int .i64 0, .int .i64 0, .int .i64 0])) :: []) := h_; rw [bselF (h_b.post 6 (by kernel_rfl))] at h2_; exact h2_)))) ?_
   refine aoNext rfl (aoCall (fun g_ => [(5, .agg (bxs (cubeB (sideL t.lv))).toArray), (7, .agg (pcs t.p).toArray)]) (fun g_ a_ h_k => ⟨(h_k.inn 2 _ _ (by kernel_rfl) rfl rfl).trans (by kernel_rfl), (h_k.inn 4 _ _ (by kernel_rfl) rfl rfl).trans (by kernel_rfl), trivial⟩) 58 (fun g_ => [.agg (bxs (cubeB (sideL t.lv))).toArray, .agg (pcs t.p).toArray]) [] [] (by kernel_rfl) (fun g_ X_ => (wn rfl)) (fun b_ g_ => by kernel_rfl) rfl (fun g_ X_ => litEv (by kernel_rfl)) (fun g_ X_ => litArgs (by kernel_rfl)) (fun b_ g_ w_ h_b h_ => (rshift_any (cubeB (sideL t.lv)) t.p hb hp _).mono (fun _ _ h_r => ⟨h_r.1.trans (by kernel_rfl), h_r.2⟩))) ?_
   refine aoNext rfl (aoStore (gb := fun g_ => g5) (k := 0) (cur := fun g_ => [.int .i64 0, .int .i64 0, .int .i64 0, .int .i64 0, .int .i64 0, .int .i64 0]) (vs := fun g_ => bxs ((cubeB (sideL t.lv)).shift t.p)) 1 (fun g_ => [(2, .pointer (some ⟨g5, 0, none⟩)), (8, .agg (bxs ((cubeB (sideL t.lv)).shift t.p)).toArray)]) (fun g_ a_ h_k => ⟨(h_k.out 2 (by kernel_rfl)).trans (litGet (by kernel_rfl)), (h_k.inn 5 _ _ (by kernel_rfl) rfl rfl).trans (by kernel_rfl), trivial⟩) Ty.ag_voxel_api_Box (fun b_ g_ h_b => by show some (Res.arr g5 55 (bsel (b_ 6) [.int .i64 (((cubeB (sideL t.lv)).shift t.p).mn.x), .int .i64 (((cubeB (sideL t.lv)).shift t.p).mn.y), .int .i64 (((cubeB (sideL t.lv)).shift t.p).mn.z), .int .i64 (((cubeB (sideL t.lv)).shift t.p).mx.x), .int .i64 (((cubeB (sideL t.lv)).shift t.p).mx.y), .int .i64 (((cubeB (sideL t.lv)).shift t.p).mx.z)] [.int .i64 0, .int .i64 0, .int .i64 0, .int .i64 0, .int .i64 0, .int .i64 0])) = some (Res.arr g5 55 ([.int .i64 0, .int .i64 0, .int .i64 0, .int .i64 0, .int .i64 0, .int .i64 0])); rw [bselF h_b.no]) (fun g_ X_ => (wn rfl)) rfl (fun g_ X_ => litEv (by kernel_rfl)) (fun g_ X_ => litEv (by kernel_rfl)) (fun _ => by kernel_rfl) (fun _ => by kernel_rfl) (fun _ => by kernel_rfl) (fun b_ g_ h_b => by kernel_rfl) rfl) ?_
   exact aoDone (by decide)
 intro g_ a_ w10 hF_ hm9
 obtain ⟨X11, rfl⟩ := frLit (⟨hF_.size, hF_.defers, ⟨(hF_.out 2 (by kernel_rfl)).trans (litGet (by kernel_rfl)), (hF_.inn 0 _ _ rfl rfl).trans (by kernel_rfl), (hF_.inn 1 _ _ rfl rfl).trans (by kernel_rfl), (hF_.inn 2 _ _ rfl rfl).trans (by kernel_rfl), (hF_.inn 3 _ _ rfl rfl).trans (by kernel_rfl), (hF_.inn 4 _ _ rfl rfl).trans (by kernel_rfl), (hF_.inn 5 _ _ rfl rfl).trans (by kernel_rfl), trivial⟩⟩ : Fr _ 9 [(2, .pointer (some ⟨g5, 0, none⟩)), (3, .agg (tlc t).toArray), (4, .int .i64 (sideL t.lv)), (5, .agg (bxs (cubeB (sideL t.lv))).toArray), (6, .pointer (some ⟨g2, 1, none⟩)), (7, .agg (pcs t.p).toArray), (8, .agg (bxs ((cubeB (sideL t.lv)).shift t.p)).toArray)])
 clear hF_
 have hm12 : Mem w w10 [.arr g2 38 (tlc t), .arr g5 55 (bxs ((cubeB (sideL t.lv)).shift t.p))] := hm9
 clear hm9 hm6
 refine then_normal (hK8 _ _ ?_)
 refine wp_ret ?_
 refine bodyPost_ret (v := .agg (bxs ((cubeB (sideL t.lv)).shift t.p)).toArray) (gRes1 rfl (gResAg (cs := bxs ((cubeB (sideL t.lv)).shift t.p)) 1 hm12 rfl Ty.ag_voxel_api_Box rfl (litGet (by kernel_rfl)))) rfl ?_
 exact ⟨by rfl, hm12.bel⟩
end Go.Proofs.Ytkmhjgdpkddbnaa
