/-
 MC: several texts in one. No statement is proved here.
-/
import Derived.Test.YtgjgjimgomhbmaaGreatDoorMA
import Derived.IntWalk
import Derived.Laws.StructEq
import Derived.Test.YtgjgjimgomhbmaaGreatDoorRows
import Derived.Laws.OwnMore
import Derived.Laws.EntriesVeiled
import Derived.Lib.ConvBytes
import Derived.Test.YtgjgjimgomhbmaaGreatDoorMB
import Derived.LoopN
import Derived.Maps.Own
import Derived.Maps.OwnSet
import Derived.DeepKeys5
set_option maxRecDepth 100000
set_option maxHeartbeats 4000000
set_option linter.unusedVariables false
set_option linter.unusedSimpArgs false
namespace Go.Proofs.YtgjgjimgomhbmaaGreatDoor
open Go.RowKit
section
variable {P : Program} {w : World} {o : Oper} {a : Act} {t ty : TypeId} {A B C : Int}
theorem addRun (x y : Operand) (ho : o.op = .binOp .add t x y ty) (hx : a.eval x = .int .i64 A) (hy : a.eval y = .int .i64 B) (hC : A + B = C) (h : -9223372036854775808 ≤ C ∧ C ≤ 9223372036854775807) : (execOp a.eval o).run P w = .ok (.value (.int .i64 C)) w := by
 have hw := IntWalk.i64_in C h
 unfold execOp
 simp [ho, hx, hy, eqGuard, binOp_add, Op.intArith, hC, hw]
theorem subRun (x y : Operand) (ho : o.op = .binOp .sub t x y ty) (hx : a.eval x = .int .i64 A) (hy : a.eval y = .int .i64 B) (hC : A - B = C) (h : -9223372036854775808 ≤ C ∧ C ≤ 9223372036854775807) : (execOp a.eval o).run P w = .ok (.value (.int .i64 C)) w := by
 have hw := IntWalk.i64_in C h
 unfold execOp
 simp [ho, hx, hy, eqGuard, binOp_sub, Op.intArith, hC, hw]
theorem mulRun (x y : Operand) (ho : o.op = .binOp .mul t x y ty) (hx : a.eval x = .int .i64 A) (hy : a.eval y = .int .i64 B) (hC : A * B = C) (h : -9223372036854775808 ≤ C ∧ C ≤ 9223372036854775807) : (execOp a.eval o).run P w = .ok (.value (.int .i64 C)) w := by
 have hw := IntWalk.i64_in C h
 unfold execOp
 simp [ho, hx, hy, eqGuard, binOp_mul, Op.intArith, hC, hw]
theorem shrRun {n : Nat} (x y : Operand) (ho : o.op = .binOp .shr t x y ty) (hx : a.eval x = .int .i64 A) (hy : a.eval y = .int .i64 (n : Int)) (_hn : n ≤ 64) : (execOp a.eval o).run P w = .ok (.value (.int .i64 (A / 2 ^ n))) w := by
 unfold execOp
 simp [ho, hx, hy, eqGuard, binOp_shr]
theorem shrNat {m n : Nat} (x y : Operand) (ho : o.op = .binOp .shr t x y ty) (hx : a.eval x = .int .i64 (m : Int)) (hy : a.eval y = .int .i64 (n : Int)) (hn : n ≤ 64) : (execOp a.eval o).run P w = .ok (.value (.int .i64 ((m / 2 ^ n : Nat) : Int))) w := by
 rw [shrRun x y ho hx hy hn]
 have : ((m / 2 ^ n : Nat) : Int) = (m : Int) / 2 ^ n := by simp
 rw [this]
theorem xorRun {m n : Nat} (x y : Operand) (ho : o.op = .binOp .xor t x y ty) (hx : a.eval x = .int .i64 (m : Int)) (hy : a.eval y = .int .i64 (n : Int)) (hm : m < 9223372036854775808) (hn : n < 9223372036854775808) : (execOp a.eval o).run P w = .ok (.value (.int .i64 ((m ^^^ n : Nat) : Int))) w := by
 have hx2 : m ^^^ n < 2 ^ 63 := Nat.xor_lt_two_pow (by omega) (by omega)
 unfold execOp
 simp [ho, hx, hy, eqGuard, binOp_xor, Op.intBits]
 rw [show IntKind.i64.bits = 64 from rfl, Nat.mod_eq_of_lt (by omega), Nat.mod_eq_of_lt (by omega)]
 exact IntWalk.i64_in _ (by omega)
end
section
variable {P : Program} {w : World} {o : Oper} {a : Act} {t ty src dst : TypeId} {A B C : Int} {k : IntKind}
theorem lenStrRun (x : Operand) (l : List UInt8) (ht : P.underlying t = some .string) (ho : o.op = .call { callee := .builtin .len, args := #[x], argTypes := #[t] }) (hx : a.eval x = .string ⟨l.toArray⟩) : (execOp a.eval o).run P w = .ok (.value (.int .i64 (l.length : Int))) w := by
 unfold execOp
 have hs : (⟨l.toArray⟩ : ByteArray).size = l.length := by simp [ByteArray.size]
 simp [ho, hx, resolve, invoke, builtin, Builtin.len_, run_underlying ht, goInt, hs]
end
section
variable {w w' : World} {g B : Nat} {l : List UInt8}
end
def reachD (ops : Array Oper) (D : List Nat) : Nat → Nat → Nat → Bool
 | 0, k, p => waitsFor ops k p
 | f + 1, k, p => waitsFor ops k p || D.any fun q => waitsFor ops k q && reachD ops D f q p
def closedD (ops : Array Oper) (D : List Nat) (listed : Array Bool) : Bool := D.all fun q => !listed.getD q true || D.all fun p => !waitsFor ops q p || listed.getD p true
theorem closedD_spec {ops : Array Oper} {D : List Nat} {listed : Array Bool} (h : closedD ops D listed = true) {q p : Nat} (hq : q ∈ D) (hp : p ∈ D) (hl : listed.getD q true = true) (hw : waitsFor ops q p = true) : listed.getD p true = true := by
 have h1 := List.all_eq_true.1 h q hq
 rw [hl] at h1
 have h2 := List.all_eq_true.1 (by simpa using h1 : (D.all fun p => !waitsFor ops q p || listed.getD p true) = true) p hp
 rw [hw] at h2
 simpa using h2
theorem reachD_listed {ops : Array Oper} {D : List Nat} {listed : Array Bool} (hc : closedD ops D listed = true) {p : Nat} (hp : p ∈ D) :
 ∀ (f k : Nat), (∀ q ∈ D, waitsFor ops k q = true → listed.getD q true = true) → reachD ops D f k p = true → listed.getD p true = true
 | 0, _, hk, h => hk p hp h
 | f + 1, k, hk, h => by
  unfold reachD at h
  rw [Bool.or_eq_true] at h
  rcases h with h | h
  ·exact hk p hp h
  ·obtain ⟨q, hq, h2⟩ := List.any_eq_true.1 h
   rw [Bool.and_eq_true] at h2
   exact reachD_listed hc hp f q (fun r hr hw => closedD_spec hc hq hr (hk q hq h2.1) hw) h2.2
theorem waits_ready {ops : Array Oper} {listed : Array Bool} {j q : Nat} (hj : j ∈ Region.ready .any ops listed) (hw : waitsFor ops j q = true) : listed.getD q true = true := by
 obtain ⟨_, oj, hoj, hall⟩ := mem_ready.1 hj
 unfold waitsFor at hw
 rw [show ops.toList[j]? = some oj by rw [← hoj]; simp] at hw
 simp only [Option.map_some, Option.getD_some] at hw
 obtain ⟨e, he, hb⟩ := Array.any_eq_true'.1 hw
 simp only [Bool.and_eq_true, beq_iff_eq] at hb
 have h1 := hall e he hb.1
 rw [hb.2] at h1
 rcases Nat.lt_or_ge q listed.size with h' | h'
 ·simp [h'] at h1 ⊢
  exact h1
 ·simp [h']
theorem closedD_set {ops : Array Oper} {D : List Nat} {listed : Array Bool} {j : Nat} (hc : closedD ops D listed = true) (hj : j ∈ Region.ready .any ops listed) : closedD ops D (listed.setIfInBounds j true) = true := by
 refine List.all_eq_true.2 fun q hq => ?_
 cases hl : (listed.setIfInBounds j true).getD q true with
 | false => rfl
 | true =>
  simp only [Bool.not_true, Bool.false_or]
  refine List.all_eq_true.2 fun p hp => ?_
  cases hw : waitsFor ops q p with
  | false => rfl
  | true =>
   simp only [Bool.not_true, Bool.false_or]
   by_cases hpj : p = j
   ·subst hpj
    by_cases hlt : p < listed.size
    ·simp [hlt]
    ·simp [hlt]
   ·rw [getD_set_ne true (Ne.symm hpj)]
    by_cases hqj : q = j
    ·subst hqj; exact waits_ready hj hw
    ·rw [getD_set_ne true (Ne.symm hqj)] at hl
     exact closedD_spec hc hq hp hl hw
section
variable {P : Program} {ops : Array Oper} {Q : Exit → Act → World → Prop} {S : World → Prop} {c : Nat} {D : List Nat} {listed : Array Bool} {a : Act} {w : World} {fuel : Nat}
def wpAnyL (P : Program) (ops : Array Oper) (Q : Exit → Act → World → Prop) (S : World → Prop) (c : Nat) : Nat → Array Bool → Act → World → Prop
 | 0, listed, a, w => Region.ready .any ops listed = [] ∧ Q .normal a w
 | fuel + 1, listed, a, w =>
  (Region.ready .any ops listed = [] → Q .normal a w) ∧
  ∀ i ∈ Region.ready .any ops listed, wpOp P ops Q i (fun a' w' => ((listed.setIfInBounds i true).getD c true = false → S w') ∧ wpAnyL P ops Q S c fuel (listed.setIfInBounds i true) a' w') a w
theorem wpAny_of_L : ∀ (fuel : Nat) (listed : Array Bool) (a : Act) (w : World), wpAnyL P ops Q S c fuel listed a w → wpAny P .any ops Q fuel listed a w
 | 0, _, _, _, h => h
 | fuel + 1, _, _, _, h => ⟨h.1, fun i hi => wpOp_mono (fun a' w' h' => wpAny_of_L fuel _ a' w' h'.2) (h.2 i hi)⟩
theorem wpAnyL_first {i f : Nat} {oi : Oper} {v : Value} (hi : ops[i]? = some oi) (hsel : ∀ (j : Nat) (o : Oper) cs b, ops[j]? = some o → o.op ≠ .select cs b)
 (hQ : ∀ c a w, Q (.panic c) (a.put oi.dst v) w → Q (.panic c) a w) (hD : i ∈ D) (hcr : reachD ops D f c i = true) (hne : i ≠ c) :
 ∀ (fuel : Nat) (listed : Array Bool) (a : Act) (w : World), listed.getD c true = false → closedD ops D listed = true →
  (∀ j oj, ops[j]? = some oj → j ≠ i → listed.getD j true = false → (∀ e ∈ oj.after, Region.binds .any e = true → e.on ≠ i) → oi.apart ops oj = true) →
  i ∈ Region.ready .any ops listed → YieldsIf P ops S oi v a → S w →
  wpAnyL P ops Q S c fuel (listed.setIfInBounds i true) (a.put oi.dst v) w → wpAnyL P ops Q S c (fuel + 1) listed a w := by
 intro fuel
 induction fuel with
 | zero =>
  intro listed a w _ _ _ hr hy hS H
  refine ⟨fun h => (by rw [h] at hr; cases hr), fun j hj => ?_⟩
  by_cases hji : j = i
  ·subst hji; exact hy.wpOp hi hS ⟨fun _ => hS, H⟩
  ·have := ready_mono hj hji
   rw [H.1] at this
   cases this
 | succ fuel ih =>
  intro listed a w hc hcl hfree hr hy hS H
  refine ⟨fun h => (by rw [h] at hr; cases hr), fun j hj => ?_⟩
  by_cases hji : j = i
  ·subst hji; exact hy.wpOp hi hS ⟨fun _ => hS, H⟩
  ·have h1 := H.2 j (ready_mono hj hji)
   obtain ⟨hjun, oj, hoj, hall⟩ := mem_ready.1 hj
   have hnot : ∀ e ∈ oj.after, Region.binds .any e = true → e.on ≠ i := fun e he hb heq => by
    have h1 := hall e he hb
    have h0 := (mem_ready.1 hr).1
    rw [heq] at h1
    rcases Nat.lt_or_ge i listed.size with h' | h'
    ·simp [h'] at h0 h1; rw [h0] at h1; cases h1
    ·simp [Array.getElem?_eq_none h'] at h1
   have hjc : j ≠ c := fun e => by
    subst e
    have h2 := reachD_listed hcl hD f j (fun q _ hw => waits_ready hj hw) hcr
    have h0 := (mem_ready.1 hr).1
    rw [h0] at h2
    cases h2
   have hcj : (listed.setIfInBounds j true).getD c true = false := by rw [getD_set_ne true hjc]; exact hc
   have h2 := wpOp_putIf hoj (hfree j oj hoj hji hjun hnot) (fun cs b => hsel i oi cs b hi) (fun cs b => hsel j oj cs b hoj) hQ hy h1
   have hfree' : ∀ k ok, ops[k]? = some ok → k ≠ i → (listed.setIfInBounds j true).getD k true = false →
    (∀ e ∈ ok.after, Region.binds .any e = true → e.on ≠ i) → oi.apart ops ok = true := fun k ok hk hki hun hno => by
    refine hfree k ok hk hki ?_ hno
    by_cases hjk : j = k
    ·subst hjk; exact hjun
    ·rw [getD_set_ne true hjk] at hun; exact hun
   refine wpOp_mono (fun a' w' h3 => ?_) h2
   have hS' : S w' := h3.2.1 (by rw [getD_set_ne true hjc, getD_set_ne true hne]; exact hc)
   refine ⟨fun _ => hS', ih (listed.setIfInBounds j true) a' w' hcj (closedD_set hcl hj) hfree' (ready_mono hr (Ne.symm hji)) h3.1 hS' ?_⟩
   rw [Array.setIfInBounds_comm _ _ hji]
   exact h3.2.2
theorem lgStart {id : Nat} (S : World → Prop) (c : Nat) (hm : P.follows .mixedOrders = true) (h : wpAnyL P ops Q S c ops.size (Array.replicate ops.size false) a w.drew) : (Code.region id ops true).wp P Q a w :=
 wp_region_any hm (wpAny_of_L _ _ _ _ h)
theorem lgTake (D : List Nat) {i : Nat} {o : Oper} {v : Value} (hi' : ops.toList[i]? = some o) (hm : (mayFirst ops listed i && D.contains i && reachD ops D 8 c i && closedD ops D listed && !(i == c) && !listed.getD c true) = true) (hw : Region.wanted o (yielded ops a.tmps) = true)
 (hQ : ∀ c a w, Q (.panic c) (a.put o.dst v) w → Q (.panic c) a w) (hy : ∀ w, S w → (execOp a.eval o).run P w = .ok (.value v) w) (hS : S w)
 (h : wpAnyL P ops Q S c fuel (listed.setIfInBounds i true) (a.put o.dst v) w) : wpAnyL P ops Q S c (fuel + 1) listed a w := by
 have hi : ops[i]? = some o := by rw [← hi']; simp
 simp only [Bool.and_eq_true, Bool.not_eq_true', beq_eq_false_iff_ne, ne_eq] at hm
 obtain ⟨⟨⟨⟨⟨hm, hD⟩, hr⟩, hcl⟩, hne⟩, hc⟩ := hm
 simp only [mayFirst, Bool.and_eq_true] at hm
 exact wpAnyL_first (D := D) hi (Region.noSelect_spec hm.1.1) hQ (by simpa using hD) hr hne fuel listed a w hc hcl (Region.free_spec hi hm.1.2) (by simpa using hm.2) (Or.inl ⟨hw, hy⟩) hS h
theorem lgNext {i : Nat} {o : Oper} (hr : Region.ready .any ops listed = [i]) (hi' : ops.toList[i]? = some o) (hc : (listed.setIfInBounds i true).getD c true = true)
 (h : wpList P ops (Exit.then (wpAnyL P ops Q S c fuel (listed.setIfInBounds i true)) Q) [o] a w) : wpAnyL P ops Q S c (fuel + 1) listed a w := by
 have hi : ops[i]? = some o := by rw [← hi']; simp
 refine ⟨fun h0 => (by rw [hr] at h0; cases h0), ?_⟩
 rw [hr]
 intro j hj
 rw [List.mem_singleton] at hj
 subst hj
 exact wpOp_mono (fun a' w' h' => ⟨fun h0 => (by rw [hc] at h0; cases h0), h'⟩) (wpOp_of_list hi h)
theorem lgNextS {i : Nat} {o : Oper} (hr : Region.ready .any ops listed = [i]) (hi' : ops.toList[i]? = some o)
 (h : wpList P ops (Exit.then (fun a' w' => S w' ∧ wpAnyL P ops Q S c fuel (listed.setIfInBounds i true) a' w') Q) [o] a w) : wpAnyL P ops Q S c (fuel + 1) listed a w := by
 have hi : ops[i]? = some o := by rw [← hi']; simp
 refine ⟨fun h0 => (by rw [hr] at h0; cases h0), ?_⟩
 rw [hr]
 intro j hj
 rw [List.mem_singleton] at hj
 subst hj
 exact wpOp_mono (fun a' w' h' => ⟨fun _ => h'.1, h'.2⟩) (wpOp_of_list hi h)
theorem lgDone (hr : Region.ready .any ops listed = []) (h : Q .normal a w) : wpAnyL P ops Q S c fuel listed a w := by
 cases fuel with
 | zero => exact ⟨hr, h⟩
 | succ n => exact ⟨fun _ => h, by rw [hr]; simp⟩
end
def SameOrNew (v v' : Value) (N : Nat) : Prop := v'.ownBlock = v.ownBlock ∨ ∃ g, v'.ownBlock = some g ∧ N ≤ g
section
variable {P : Program} {w w0 : World} {ops : Array Oper} {rest : List Oper} {o : Oper} {a : Act} {Q : Exit → Act → World → Prop}
end
theorem all_range_eqI : ∀ (xs ys : List Int), xs.length = ys.length → ((List.range xs.length).all fun i => xs.getD i 0 == ys.getD i 0) = (xs == ys)
 | [], [], _ => rfl
 | x :: xs, y :: ys, h => by
  have ih := all_range_eqI xs ys (by simpa using h)
  rw [List.length_cons, List.range_succ_eq_map, List.all_cons, List.all_map]
  simp only [List.getD_cons_zero, Function.comp_def, List.getD_cons_succ, ih]
  simp [List.cons_beq_cons]
 | [], _ :: _, h => by simp at h
 | _ :: _, [], h => by simp at h
theorem run_equalIn_ints {P : Program} (w : World) (d : Nat) (t e : TypeId) (n : Nat) (k : IntKind) (ht : P.underlying t = some (.array n e)) (he : P.underlying e = some (.int k)) (hsz : ∀ w, (sizeOf e).run P w = .ok 1 w)
 (xs ys : List Int) (hx : xs.length = n) (hy : ys.length = n) :
 (Op.equalIn (d + 2) t (.agg (xs.map (Value.int k)).toArray) (.agg (ys.map (Value.int k)).toArray)).run P w = .ok (xs == ys) w := by
 rw [← all_range_eqI xs ys (hx.trans hy.symm), hx, List.range_eq_range', Op.equalIn]
 simp only [Sem.run_bind, run_underlying ht, Result.andThen_ok, hsz, Std.Legacy.Range.forIn_eq_forIn_range', Std.Legacy.Range.size, Nat.sub_zero, Nat.add_sub_cancel, Nat.div_one]
 have hl : ∀ i ∈ List.range' 0 n 1, i < n := fun i hi => by simpa using (List.mem_range'_1.1 hi).2
 generalize List.range' 0 n 1 = l at hl ⊢
 induction l with
 | nil => simp
 | cons i l ih =>
  have hi : i < n := hl i (by simp)
  have px : (Go.part e (xs.map (Value.int k)).toArray (i * 1)).run P w = .ok (.int k (xs.getD i 0)) w := by
   simp [Go.part, isAgg, run_underlying he, List.getD, List.getElem?_eq_getElem (show i < xs.length by omega)]
  have py : (Go.part e (ys.map (Value.int k)).toArray (i * 1)).run P w = .ok (.int k (ys.getD i 0)) w := by
   simp [Go.part, isAgg, run_underlying he, List.getD, List.getElem?_eq_getElem (show i < ys.length by omega)]
  have pe : (Op.equalIn (d + 1) e (.int k (xs.getD i 0)) (.int k (ys.getD i 0))).run P w = .ok (xs.getD i 0 == ys.getD i 0) w := by
   rw [run_equalIn_int w d e k k _ _ he]
  simp only [List.forIn_cons, Sem.run_bind, px, py, pe, Result.andThen_ok, List.all_cons]
  cases hb : (xs.getD i 0 == ys.getD i 0)
  ·simp
  ·simp only [Bool.not_true, Bool.false_eq_true, if_false, Sem.run_pure, Result.andThen_ok, Bool.true_and]
   exact ih fun j hj => hl j (by simp [hj])
section
variable {P : Program} {ops : Array Oper} {Q : Exit → Act → World → Prop} {X : List (Nat × Nat)} {G : Nat → Value → World → Prop} {D : Nat → Nat → Value → Value → Prop} {a0 : Act} {w0 : World} {listed0 : Array Bool}
end
section
variable {P : Program} {w : World} {ops : Array Oper} {rest : List Oper} {o : Oper} {a : Act} {Q : Exit → Act → World → Prop}
theorem iaRow {t e : TypeId} {z : Value} {size bytes b off n c : Nat} {kk : IntKind} {K : Int} (x y : Operand) (k : Nat) (T : SlTy P t e z size bytes) (hgd : Region.wanted o (yielded ops a.tmps) = true)
 (ho : o.op = .indexAddr t x y) (hx : a.eval x = .slice (some ⟨b, off, none⟩) n c) (hy : a.eval y = .int kk K) (hK : K = (k : Int)) (hk : k < n)
 (h : wpList P ops Q rest (a.put o.dst (.pointer (some ⟨b, off + k * size, none⟩))) w) : wpList P ops Q (o :: rest) a w := by
 subst hK
 obtain ⟨i, hi, hz0, hz1, hz2⟩ := info_parts T.inf
 refine opVal (v := .pointer (some ⟨b, off + k * size, none⟩)) hgd ?_ h
 have ht : P.underlying t = some (.slice (P.elem t)) := by rw [T.und]; simp [Program.elem, T.und]
 have he : P.elem t = e := by have := T.und; rw [this] at ht; injection ht with ht; injection ht with ht; exact ht.symm
 have hr := run_indexAt_slice (P := P) w t ⟨b, off, none⟩ n c kk (k : Int) ht
 rw [if_pos ⟨by omega, by omega⟩, he, Int.toNat_natCast] at hr
 unfold execOp
 simp only [ho, hx, hy, Sem.run_bind, Sem.run_pure]
 rw [hr]
 simp [sizeOf, typeInfo, hi, hz1, add_off]
end
theorem iaRowRun {P : Program} {w : World} {o : Oper} {a : Act} {t e : TypeId} {z : Value} {size bytes b off n c : Nat} {kk : IntKind} {K : Int} (x y : Operand) (k : Nat) (T : SlTy P t e z size bytes)
 (ho : o.op = .indexAddr t x y) (hx : a.eval x = .slice (some ⟨b, off, none⟩) n c) (hy : a.eval y = .int kk K) (hK : K = (k : Int)) (hk : k < n) : (execOp a.eval o).run P w = .ok (.value (.pointer (some ⟨b, off + k * size, none⟩))) w := by
 subst hK
 obtain ⟨i, hi, hz0, hz1, hz2⟩ := info_parts T.inf
 have ht : P.underlying t = some (.slice (P.elem t)) := by rw [T.und]; simp [Program.elem, T.und]
 have he : P.elem t = e := by have := T.und; rw [this] at ht; injection ht with ht; injection ht with ht; exact ht.symm
 have hr := run_indexAt_slice (P := P) w t ⟨b, off, none⟩ n c kk (k : Int) ht
 rw [if_pos ⟨by omega, by omega⟩, he, Int.toNat_natCast] at hr
 unfold execOp
 simp only [ho, hx, hy, Sem.run_bind, Sem.run_pure]
 rw [hr]
 simp [sizeOf, typeInfo, hi, hz1, add_off]
theorem stArrG {P : Program} {w : World} {ops : Array Oper} {rest : List Oper} {o : Oper} {a : Act} {Q : Exit → Act → World → Prop} {ty : TypeId} {n b : Nat} {z : Array Value} {cur cs : List Value} (x y : Operand) (T : AgTy P ty z n) (hgd : Region.wanted o (yielded ops a.tmps) = true) (ho : o.op = .store ty x y)
 (hx : a.eval x = .pointer (some ⟨b, 0, none⟩)) (hy : a.eval y = .agg cs.toArray) {t : TypeId} (hA : Arr w b t cur) (hs : cur.length = n) (hl : cs.length = n) (h1 : ∀ u ∈ cs, u.oneCell' = true)
 (h : ∀ w', Arr w' b t cs → w.grownBy w' (some b) → wpList P ops Q rest (a.put o.dst undef) w') : wpList P ops Q (o :: rest) a w := by
 refine wpList_want hgd fun K hK => ?_
 unfold Oper.wp execOp
 simp only [ho, hx, hy, Instr.storeAt, Instr.sureAddr, Sem.run_bind, Sem.run_pure, Result.andThen_ok, run_storeAgg T hA (by rw [List.size_toArray]; exact hs) (by rw [List.size_toArray]; exact hl) (by intro u hu; exact h1 u (by simpa using hu))]
 refine hK _ _ (h _ (hA.setRow cs) ⟨rfl, rfl, rfl, by simp [World.setRow], fun k hk hne => ?_⟩)
 unfold World.setRow
 have : b ≠ k := fun e => hne (by rw [e])
 simp [Array.getElem?_modify, this]
theorem Arr.grown {w w' : World} {b : Nat} {t : TypeId} {cur : List Value} {r : Option Nat} (h : Arr w b t cur) (hg : w.grownBy w' r) (hne : some b ≠ r) : Arr w' b t cur := (hg.block b h.lt hne).trans h
section
variable {P : Program} {w : World} {o : Oper} {a : Act} {t ty src dst : TypeId}
theorem ldRun {p : Addr} {v : Value} (x : Operand) (hu : ((P.underlying ty).map fun d => match d with | .struct _ | .array _ _ => true | _ => false) = some false)
 (ho : o.op = .load ty x) (hx : a.eval x = .pointer (some p)) (hc : w.cell? p = some v) : (execOp a.eval o).run P w = .ok (.value v) w := by
 obtain ⟨d, hd, h2⟩ := Option.map_eq_some_iff.1 hu
 have ha : (isAgg ty).run P w = .ok false w := by
  unfold isAgg
  rw [Sem.run_bind, run_underlying hd w]
  cases d <;> simp_all
 have hl : (Instr.loadAt ty (.pointer (some p))).run P w = .ok v w := by
  simp [Instr.loadAt, Instr.sureAddr, loadVar, ha, hc]
 unfold execOp
 simp only [ho, hx, Sem.run_bind, Sem.run_pure, hl, Result.andThen_ok]
end
section
variable {P : Program} {w : World} {o : Oper} {a : Act} {t ty src dst : TypeId}
end
section
variable {P : Program} {w : World} {o : Oper} {a : Act} {t ty src dst : TypeId}
theorem lenSlRun {e : TypeId} {A : Option Addr} {n c : Nat} (x : Operand) (ht : P.underlying t = some (.slice e)) (ho : o.op = .call { callee := .builtin .len, args := #[x], argTypes := #[t] }) (hx : a.eval x = .slice A n c) : (execOp a.eval o).run P w = .ok (.value (.int .i64 (n : Int))) w := by
 unfold execOp
 simp [ho, hx, resolve, invoke, builtin, Builtin.len_, run_underlying ht, goInt]
end
section
variable {P : Program} {w : World} {o : Oper} {a : Act} {t ty src dst : TypeId}
theorem leqRun {A B : Int} (x y : Operand) (ho : o.op = .binOp .leq t x y ty) (hx : a.eval x = .int .i64 A) (hy : a.eval y = .int .i64 B) : (execOp a.eval o).run P w = .ok (.value (.bool (decide (A ≤ B)))) w := by
 unfold execOp
 simp [ho, hx, hy, eqGuard, binOp_leq]
end
theorem convBsR {P : Program} {w : World} {ops : Array Oper} {rest : List Oper} {o : Oper} {a : Act} {Q : Exit → Act → World → Prop} {src e dst : TypeId} (x : Operand) (l : List UInt8) (hs : P.underlying src = some .string) (hd : P.underlying dst = some (.slice e)) (he : P.underlying e = some (.int .u8)) (hl : l.length ≤ maxLen) (hgd : Region.wanted o (yielded ops a.tmps) = true)
 (ho : o.op = .convert src dst x) (hx : a.eval x = .string ⟨l.toArray⟩)
 (h : ∀ c w', Rd w' (w.heap.size + 1) 1 (some ⟨w.heap.size, 0, none⟩) l.length c (bcs l) → w.heap.size + 1 ≤ w'.heap.size → Below w.heap.size w w' → wpList P ops Q rest (a.put o.dst (.slice (some ⟨w.heap.size, 0, none⟩) l.length c)) w') : wpList P ops Q (o :: rest) a w := by
 have hsz : (⟨l.toArray⟩ : ByteArray).size = l.length := by simp [ByteArray.size]
 have hr := Lib.run_convert_string_bytes (P := P) w src dst e ⟨l.toArray⟩ hs hd he
 rw [hsz] at hr
 refine wpList_want hgd fun K hK => ?_
 unfold Oper.wp execOp
 simp only [ho, hx, Sem.run_bind, Sem.run_pure, hr, Result.andThen_ok]
 refine hK _ _ (h _ _ ⟨by rw [bcs_length, Nat.mul_one], grownCap_ge w l.length 0 e, grownCap_le_maxLen w l.length 0 e hl, fun _ => ⟨_, _, rfl, by omega, fun j u hu => ?_⟩⟩ (by rw [Lib.bytesWorld_size]; omega) ?_)
 ·unfold World.cell?
  rw [show (Lib.bytesWorld w e ⟨l.toArray⟩).heap[(⟨w.heap.size, 0 + j, none⟩ : Addr).block]? = _ from Lib.bytesWorld_at_new w e ⟨l.toArray⟩]
  unfold bcs at hu
  rw [List.getElem?_map] at hu
  obtain ⟨b, hb, rfl⟩ := Option.map_eq_some_iff.1 hu
  have hj := (List.getElem?_eq_some_iff.1 hb).1
  unfold Lib.bytesCells
  simp only [Nat.zero_add]
  rw [Array.getElem?_append_left (by simpa using hj)]
  simp [hb, bc]
 ·exact ⟨rfl, rfl, rfl, by rw [Lib.bytesWorld_size]; omega, fun k hk => Lib.bytesWorld_at_old w e _ k hk⟩
theorem cat_two (a b : List UInt8) : (⟨a.toArray⟩ : ByteArray) ++ ⟨b.toArray⟩ = ⟨(a ++ b).toArray⟩ := by
 apply ByteArray.ext
 simp
theorem catRun {P : Program} {w : World} {o : Oper} {a : Act} {t ty : TypeId} (x y : Operand) (s u : List UInt8) (ho : o.op = .binOp .add t x y ty) (hx : a.eval x = .string ⟨s.toArray⟩) (hy : a.eval y = .string ⟨u.toArray⟩) (h : s.length + u.length ≤ 9223372036854775807) :
 (execOp a.eval o).run P w = .ok (.value (.string ⟨(s ++ u).toArray⟩)) w := by
 have h1 : (⟨s.toArray⟩ : ByteArray).size = s.length := by simp [ByteArray.size]
 have h2 : (⟨u.toArray⟩ : ByteArray).size = u.length := by simp [ByteArray.size]
 unfold execOp
 simp [ho, hx, hy, eqGuard, binOp_string_add, Op.stringOp, h1, h2]
 rw [if_neg (by omega), cat_two]
def ics (l : List Int) : List Value := l.map fun n => Value.int .i64 n
section
variable {P : Program} {ops : Array Oper} {rest : List Oper} {o : Oper} {a : Act} {Q : Exit → Act → World → Prop} {w : World}
theorem spl_set1 (cur : List Value) (i : Nat) (v : Value) (h : i < cur.length) : spl cur i [v] = cur.set i v := by
 apply List.ext_getElem?
 intro j
 rw [spl_at (by show i + 1 ≤ _; omega)]
 by_cases h1 : j < i
 ·rw [if_pos h1, List.getElem?_set_ne (by omega)]
 ·rw [if_neg h1]
  by_cases h2 : j < i + [v].length
  ·rw [if_pos h2]
   simp only [List.length_cons, List.length_nil] at h2
   obtain rfl : j = i := by omega
   rw [Nat.sub_self, List.getElem?_set_self h]
   rfl
  ·rw [if_neg h2]
   simp only [List.length_cons, List.length_nil] at h2
   rw [List.getElem?_set_ne (by omega)]
theorem stCellG {ty t : TypeId} {b i : Nat} {cur : List Value} {v v0 : Value} (x y : Operand) (hsz : (P.info? ty).map (·.size) = some 1) (hgd : Region.wanted o (yielded ops a.tmps) = true) (ho : o.op = .store ty x y)
 (hx : a.eval x = .pointer (some ⟨b, i, none⟩)) (hy : a.eval y = v) (hA : Arr w b t cur) (hi : cur[i]? = some v0) (hv : v.cells = #[v]) (h1 : v.oneCell' = true)
 (h : ∀ w', Arr w' b t (cur.set i v) → w.grownBy w' (some b) → wpList P ops Q rest (a.put o.dst undef) w') : wpList P ops Q (o :: rest) a w := by
 obtain ⟨d, hd, hs'⟩ := Option.map_eq_some_iff.1 hsz
 have hl := (List.getElem?_eq_some_iff.1 hi).1
 have hst := run_storeCells_spl (P := P) hA (off := i) [v] (by show i + 1 ≤ _; omega) (by intro u hu; rw [List.mem_singleton] at hu; rw [hu]; exact h1)
 rw [spl_set1 cur i v hl] at hst
 have hrun : (storeVar ty ⟨b, i, none⟩ v).run P w = .ok () (w.setRow b (cur.set i v).toArray) := by
  simp [storeVar, sizeOf, typeInfo, hd, hs', hv, hst]
 refine wpList_want hgd fun K hK => ?_
 unfold Oper.wp execOp
 simp only [ho, hx, hy, Instr.storeAt, Instr.sureAddr, Sem.run_bind, Sem.run_pure, Result.andThen_ok, hrun]
 refine hK _ _ (h _ (hA.setRow _) ⟨rfl, rfl, rfl, by simp [World.setRow], fun k hk hne => ?_⟩)
 unfold World.setRow
 have : b ≠ k := fun e => hne (by rw [e])
 simp [Array.getElem?_modify, this]
end
section
variable {P : Program} {w w0 : World} {ops : Array Oper} {rest : List Oper} {o : Oper} {a : Act} {Q : Exit → Act → World → Prop}
theorem alScG {ty : TypeId} {v : Value} (hz : (P.info? ty).map (fun i => i.zero.map Value.cells) = some (some #[v])) (hgd : Region.wanted o (yielded ops a.tmps) = true) (ho : o.op = .alloc ty)
 (h : ∀ w', Arr w' w.heap.size ty [v] → Below w.heap.size w w' → wpList P ops Q rest (a.put o.dst (.pointer (some ⟨w.heap.size, 0, none⟩))) w') : wpList P ops Q (o :: rest) a w := by
 obtain ⟨i, hi, hz⟩ := Option.map_eq_some_iff.1 hz
 obtain ⟨zv, hzv, hzc⟩ := Option.map_eq_some_iff.1 hz
 refine wpList_want hgd fun K hK => ?_
 unfold Oper.wp execOp
 simp only [ho]
 have hr : (Instr.alloc ty true (.tuple #[])).run P w = .ok (.pointer (some ⟨w.heap.size, 0, none⟩)) (w.alloc (.cells #[v] ty)) := by
  simp [Instr.alloc, zeroValue, typeInfo, hi, hzv, newVar, newRow, hzc]
 simp only [Sem.run_bind, Sem.run_pure, hr, Result.andThen_ok]
 exact hK _ _ (h _ (Arr.new w ty [v]) ((Below.refl _ _).alloc (Nat.le_refl _) _))
theorem appNB {t e : TypeId} {z : Value} {size bytes base n g : Nat} {v : Value} {xs ys : List Value} (s x : Operand) (T : SlTy P t e z size bytes) (hgd : Region.wanted o (yielded ops a.tmps) = true)
 (ho : o.op = .call { callee := .builtin .append, args := #[s, x], argTypes := #[t, t] })
 (hs : a.eval s = v) (hx : a.eval x = .slice (some ⟨g, 0, none⟩) 1 1)
 (hown : w.ownsRow base e size v n xs) (hA : Arr w g e ys) (hl : ys.length = size) (hb : Below base w0 w) (hbase : base ≤ w0.heap.size) (hu : ∀ u ∈ ys, u.oneCell' = true)
 (hn : n + 1 ≤ 70368744177664) (hby : (n + 1) * bytes ≤ 140737488355328)
 (h : ∀ v' w', w'.ownsRow base e size v' (n + 1) (xs ++ ys) → Below base w0 w' → w.grownBy w' v.ownBlock → SameOrNew v v' w.heap.size → wpList P ops Q rest (a.put o.dst v') w') :
 wpList P ops Q (o :: rest) a w := by
 obtain ⟨i, hi, hz0, hz1, hz2⟩ := info_parts T.inf
 have hsz : base ≤ w.heap.size := by have := hb.size; omega
 have hnews : ∀ j y, ys[j]? = some y → w.cell? ((⟨g, 0, none⟩ : Addr).add j) = some y := by
  intro j y hj
  rw [show (⟨g, 0, none⟩ : Addr).add j = ⟨g, j, none⟩ by unfold Addr.add; split <;> simp_all]
  exact hA.cell hj
 have hbl : ∀ k, v.ownBlock = some k → base ≤ k := fun k hk => (hown.lt k hk).1
 have hly : ys.length = 1 * size := by omega
 obtain ⟨v', w', hr, h2, h3, _⟩ := run_append_own (P := P) w base t o.type e i z size bytes T.und hi hz0 hz1 hz2 T.zs T.pos v n xs hown ⟨g, 0, none⟩ 1 1 ys hly hnews hu (by unfold maxLen; omega) hby hsz
 have hS : SameOrNew v v' w.heap.size := by
  rcases hown.2 with ⟨rfl, rfl⟩ | ⟨k, cap, cur, rfl, hbg, hg, hnc, hcm, hcs, htake⟩
  ·have hr2 := run_append_nil (P := P) w t o.type e i z T.und hi hz0 ⟨g, 0, none⟩ 1 1 ys (by rw [hz1]; exact hly) hnews (by omega) (by omega) (by have hb := hby; simp only [Nat.zero_add] at hb; rw [hz2]; omega)
   rw [hr2] at hr
   injection hr with e1 e2
   subst e1
   exact Or.inr ⟨_, rfl, Nat.le_refl _⟩
  ·by_cases hroom : n + 1 ≤ cap
   ·have hr2 := run_append_room (P := P) w t o.type e i T.und hi k n cap cur hg ⟨g, 0, none⟩ 1 1 ys (by rw [hz1]; exact hly) hnews hu hroom (by rw [hz1, hcs]; have := Nat.mul_le_mul_right size hroom; rw [Nat.add_mul] at this; omega)
    rw [hr2] at hr
    injection hr with e1 e2
    subst e1
    exact Or.inl rfl
   ·have hr2 := run_append_grow (P := P) w t o.type e i z T.und hi hz0 ⟨k, 0, none⟩ n cap xs (by rw [hz1]; exact hown.1) (hown.cells (g := k) rfl) ⟨g, 0, none⟩ 1 1 ys (by rw [hz1]; exact hly) hnews (by omega) (by omega) (growslice_fits (by omega) (by rw [hz2]; exact hby))
    rw [hr2] at hr
    injection hr with e1 e2
    subst e1
    exact Or.inr ⟨_, rfl, Nat.le_refl _⟩
 refine wpList_want hgd fun K hK => ?_
 unfold Oper.wp execOp
 simp only [ho, resolve, invoke, builtin, Sem.run_bind, Sem.run_pure, Result.andThen_ok, List.map_toArray, List.map_cons, List.map_nil, hs, hx, hr]
 exact hK _ _ (h v' w' h2 (hb.grown h3 hsz hbl) h3 hS)
end
section
variable {P : Program} {w : World} {ops : Array Oper} {a : Act} {Q : Exit → Act → World → Prop} {S : World → Prop} {listed : Array Bool} {fuel : Nat}
theorem rgSkip {i : Nat} {o : Oper} (hi' : ops.toList[i]? = some o) (hm : mayFirst ops listed i = true) (hw : Region.wanted o (yielded ops a.tmps) = false)
 (hQ : ∀ c a w, Q (.panic c) (a.put o.dst undef) w → Q (.panic c) a w) (hS : S w)
 (h : wpAnyH P .any ops Q S fuel (listed.setIfInBounds i true) (a.put o.dst undef) w) : wpAnyH P .any ops Q S (fuel + 1) listed a w := by
 have hi : ops[i]? = some o := by rw [← hi']; simp
 simp only [mayFirst, Bool.and_eq_true] at hm
 exact wpAnyH_take hi hm.1.1 hm.1.2 hm.2 hQ (Or.inr ⟨hw, rfl⟩) hS h
end
section
variable {P : Program} {w : World} {o : Oper} {a : Act} {t ty : TypeId}
theorem gtrRun {A B : Int} (x y : Operand) (ho : o.op = .binOp .gtr t x y ty) (hx : a.eval x = .int .i64 A) (hy : a.eval y = .int .i64 B) : (execOp a.eval o).run P w = .ok (.value (.bool (decide (B < A)))) w := by
 unfold execOp
 simp [ho, hx, hy, eqGuard, binOp_gtr]
theorem eqlRun {A B : Int} (x y : Operand) (ho : o.op = .binOp .eql t x y ty) (hx : a.eval x = .int .i64 A) (hy : a.eval y = .int .i64 B) : (execOp a.eval o).run P w = .ok (.value (.bool (decide (A = B)))) w := by
 unfold execOp
 simp [ho, hx, hy, eqGuard, binOp_eql]
 by_cases h : A = B <;> simp [h]
end
inductive Res where
 | arr (g : Nat) (t : TypeId) (cs : List Value)
 | row (v : Value) (e : TypeId) (size n : Nat) (xs : List Value)
 | rd (A : Option Addr) (size n c : Nat) (xs : List Value)
 /-- a block of its own of which I holds, and depends on this block alone -/
 | any (g : Nat) (I : World → Prop)
def Res.At (B : Nat) (w : World) : Res → Prop
 | .arr g t cs => B ≤ g ∧ Arr w g t cs
 | .row v e size n xs => w.ownsRow B e size v n xs
 | .rd A size n c xs => Rd w w.heap.size size A n c xs
 | .any g I => B ≤ g ∧ g < w.heap.size ∧ I w ∧ ∀ u u' : World, I u → u'.heap[g]? = u.heap[g]? → I u'
def Res.blk : Res → Option Nat
 | .arr g _ _ => some g
 | .row v _ _ _ _ => v.ownBlock
 | .rd A size n _ _ => if n * size = 0 then none else A.map (·.block)
 | .any g _ => some g
def Res.mut : Res → Bool
 | .rd .. => false
 | _ => true
def ResApart (r s : Res) : Prop := (r.mut = false ∧ s.mut = false) ∨ r.blk = none ∨ r.blk ≠ s.blk
theorem ResApart.symm {r s : Res} (h : ResApart r s) : ResApart s r := by
 rcases h with h | h | h
 ·exact Or.inl ⟨h.2, h.1⟩
 ·by_cases h2 : s.blk = none
  ·exact Or.inr (Or.inl h2)
  ·exact Or.inr (Or.inr (fun e => h2 (e.trans h)))
 ·exact Or.inr (Or.inr (Ne.symm h))
theorem Res.At.below {B : Nat} {w w' : World} {r : Res} (h : r.At B w) (b : Below w.heap.size w w') : r.At B w' := by
 cases r with
 | arr g t cs => exact ⟨h.1, h.2.below b h.2.lt⟩
 | row v e size n xs => exact ownsRow_below h b (Nat.le_refl _)
 | rd A size n c xs => exact (Rd.below h b).more b.size
 | any g I => exact ⟨h.1, Nat.lt_of_lt_of_le h.2.1 b.size, h.2.2.2 w w' h.2.2.1 (b.block g h.2.1), h.2.2.2⟩
theorem Res.At.lt {B : Nat} {w : World} {r : Res} (h : r.At B w) {g : Nat} (hg : r.blk = some g) : g < w.heap.size := by
 cases r with
 | arr g' t cs =>
  simp only [Res.blk, Option.some.injEq] at hg
  subst hg
  exact h.2.lt
 | row v e size n xs => exact (World.ownsRow.lt h g hg).2
 | rd A size n c xs =>
  simp only [Res.blk] at hg
  split at hg
  ·cases hg
  ·rename_i hne
   obtain ⟨b, off, e, hb, _⟩ := Rd.cells h (by omega)
   rw [e] at hg
   simp only [Option.map_some, Option.some.injEq] at hg
   omega
 | any g' I =>
  simp only [Res.blk, Option.some.injEq] at hg
  subst hg
  exact h.2.1
theorem Res.At.grown {B : Nat} {w w' : World} {row : Option Nat} {r : Res} (h : r.At B w) (k : w.grownBy w' row) (hne : r.blk = none ∨ r.blk ≠ row) : r.At B w' := by
 cases r with
 | arr g t cs =>
  refine ⟨h.1, h.2.grown k ?_⟩
  rcases hne with h1 | h1
  ·cases h1
  ·exact h1
 | row v e size n xs => exact World.ownsRow.kept h k hne
 | rd A size n c xs =>
  refine ⟨Rd.len h, Rd.le h, Rd.cap h, fun hn => ?_⟩
  obtain ⟨b, off, e, hb, hc⟩ := Rd.cells h hn
  refine ⟨b, off, e, Nat.lt_of_lt_of_le hb k.size, fun j u hu => ?_⟩
  rw [← hc j u hu]
  refine World.cell?_of_block (k.block b hb fun e2 => ?_)
  have hbl : (Res.rd A size n c xs).blk = some b := by
   simp only [Res.blk]
   rw [if_neg (by omega), e]
   rfl
  rcases hne with h1 | h1
  ·rw [hbl] at h1; cases h1
  ·rw [hbl] at h1; exact h1 e2
 | any g I =>
  refine ⟨h.1, Nat.lt_of_lt_of_le h.2.1 k.size, h.2.2.2 w w' h.2.2.1 (k.block g h.2.1 ?_), h.2.2.2⟩
  rcases hne with h1 | h1
  ·cases h1
  ·exact h1
structure Mem (w0 w : World) (L : List Res) : Prop where
 bel : Below w0.heap.size w0 w
 each : ∀ r ∈ L, r.At w0.heap.size w
 apart : L.Pairwise ResApart
section
variable {w0 w w' : World} {L : List Res} {t e : TypeId} {cs : List Value}
theorem Mem.nil (w : World) : Mem w w [] := ⟨Below.refl _ _, fun _ h => (by cases h), List.Pairwise.nil⟩
theorem Mem.below (h : Mem w0 w L) (b : Below w.heap.size w w') : Mem w0 w' L :=
 ⟨h.bel.trans (b.mono h.bel.size), fun r hr => (h.each r hr).below b, h.apart⟩
theorem Mem.drew (h : Mem w0 w L) : Mem w0 w.drew L := h.below (Below.refl _ _).drew
theorem Mem.arr (h : Mem w0 w L) (i : Nat) {g : Nat} (hi : L[i]? = some (.arr g t cs)) : Arr w g t cs := (h.each _ (List.mem_of_getElem? hi)).2
theorem Mem.arrGe (h : Mem w0 w L) (i : Nat) {g : Nat} (hi : L[i]? = some (.arr g t cs)) : w0.heap.size ≤ g := (h.each _ (List.mem_of_getElem? hi)).1
theorem Mem.row (h : Mem w0 w L) (i : Nat) {v : Value} {size n : Nat} {xs : List Value} (hi : L[i]? = some (.row v e size n xs)) : w.ownsRow w0.heap.size e size v n xs := h.each _ (List.mem_of_getElem? hi)
theorem Mem.rd (h : Mem w0 w L) (i : Nat) {A : Option Addr} {size n c : Nat} {xs : List Value} (hi : L[i]? = some (.rd A size n c xs)) : Rd w w.heap.size size A n c xs := h.each _ (List.mem_of_getElem? hi)
theorem Mem.push {r : Res} (h : Mem w0 w L) (b : Below w.heap.size w w') (hr : r.At w0.heap.size w') (hb : ∀ g, r.blk = some g → w.heap.size ≤ g) : Mem w0 w' (L ++ [r]) := by
 refine ⟨h.bel.trans (b.mono h.bel.size), fun s hs => ?_, ?_⟩
 ·rcases List.mem_append.1 hs with hs | hs
  ·exact (h.each s hs).below b
  ·rw [List.mem_singleton] at hs; subst hs; exact hr
 ·refine List.pairwise_append.2 ⟨h.apart, List.pairwise_singleton _ _, fun s hs t ht => ?_⟩
  rw [List.mem_singleton] at ht
  subst ht
  cases hsb : s.blk with
  | none => exact Or.inr (Or.inl hsb)
  | some g =>
   refine Or.inr (Or.inr fun e => ?_)
   have h1 := (h.each s hs).lt hsb
   have h2 := hb g (e ▸ hsb)
   omega
theorem Mem.new (h : Mem w0 w L) (b : Below w.heap.size w w') (hA : Arr w' w.heap.size t cs) : Mem w0 w' (L ++ [.arr w.heap.size t cs]) :=
 h.push b ⟨h.bel.size, hA⟩ (fun g hg => by simp only [Res.blk, Option.some.injEq] at hg; omega)
theorem Mem.newRow (h : Mem w0 w L) (b : Below w.heap.size w w') {v : Value} {size n : Nat} {xs : List Value} (hA : w'.ownsRow w.heap.size e size v n xs) : Mem w0 w' (L ++ [.row v e size n xs]) :=
 h.push b (ownsRow_base hA h.bel.size) (fun g hg => (World.ownsRow.lt hA g hg).1)
theorem resMem_set_ne {L : List Res} {i : Nat} {r s : Res} (h : s ∈ L.set i r) : s = r ∨ ∃ j, j ≠ i ∧ L[j]? = some s := by
 obtain ⟨j, hj, e⟩ := List.getElem_of_mem h
 by_cases hij : i = j
 ·subst hij; left; rw [← e]; simp
 ·right
  refine ⟨j, Ne.symm hij, ?_⟩
  rw [List.getElem_set_ne hij] at e
  rw [← e]
  exact List.getElem?_eq_getElem _
theorem resApart_at {L : List Res} (h : L.Pairwise ResApart) {i j : Nat} (hij : i ≠ j) {r s : Res} (hi : L[i]? = some r) (hj : L[j]? = some s) : ResApart r s := by
 obtain ⟨hi', rfl⟩ := List.getElem?_eq_some_iff.1 hi
 obtain ⟨hj', rfl⟩ := List.getElem?_eq_some_iff.1 hj
 rcases Nat.lt_or_gt_of_ne hij with hlt | hlt
 ·exact List.pairwise_iff_getElem.1 h i j hi' hj' hlt
 ·exact (List.pairwise_iff_getElem.1 h j i hj' hi' hlt).symm
theorem resApart_set {L : List Res} (h : L.Pairwise ResApart) {i : Nat} {r : Res} (hr : ∀ j s, j ≠ i → L[j]? = some s → ResApart r s) : (L.set i r).Pairwise ResApart := by
 refine List.pairwise_iff_getElem.2 fun a b ha hb hab => ?_
 simp only [List.length_set] at ha hb
 by_cases hia : i = a
 ·subst hia
  rw [List.getElem_set_self, List.getElem_set_ne (by omega)]
  exact hr b _ (by omega) (List.getElem?_eq_getElem hb)
 ·by_cases hib : i = b
  ·subst hib
   rw [List.getElem_set_self, List.getElem_set_ne hia]
   exact (hr a _ (by omega) (List.getElem?_eq_getElem ha)).symm
  ·rw [List.getElem_set_ne hia, List.getElem_set_ne hib]
   exact List.pairwise_iff_getElem.1 h a b ha hb hab
theorem Mem.set (h : Mem w0 w L) (i : Nat) {g : Nat} {cs' : List Value} (hi : L[i]? = some (.arr g t cs)) (hA : Arr w' g t cs') (k : w.grownBy w' (some g)) : Mem w0 w' (L.set i (.arr g t cs')) := by
 have hge := h.arrGe i hi
 refine ⟨h.bel.grown k h.bel.size (fun k' hk' => by cases hk'; exact hge), fun s hs => ?_, resApart_set h.apart fun j s hji hj => ?_⟩
 ·rcases resMem_set_ne hs with rfl | ⟨j, hji, hj⟩
  ·exact ⟨hge, hA⟩
  ·refine (h.each s (List.mem_of_getElem? hj)).grown k ?_
   rcases resApart_at h.apart hji hj hi with ⟨_, h2⟩ | h2 | h2
   ·cases h2
   ·exact Or.inl h2
   ·exact Or.inr h2
 ·have h1 := resApart_at h.apart (Ne.symm hji) hi hj
  exact h1
theorem Mem.app (h : Mem w0 w L) (i : Nat) {v v' : Value} {size n n' : Nat} {xs xs' : List Value} (hi : L[i]? = some (.row v e size n xs)) (hA : w'.ownsRow w0.heap.size e size v' n' xs') (k : w.grownBy w' v.ownBlock) (hS : SameOrNew v v' w.heap.size) : Mem w0 w' (L.set i (.row v' e size n' xs')) := by
 have hrow := h.row i hi
 refine ⟨h.bel.grown k h.bel.size (fun k' hk' => (World.ownsRow.lt hrow k' hk').1), fun s hs => ?_, resApart_set h.apart fun j s hji hj => ?_⟩
 ·rcases resMem_set_ne hs with rfl | ⟨j, hji, hj⟩
  ·exact hA
  ·refine (h.each s (List.mem_of_getElem? hj)).grown k ?_
   rcases resApart_at h.apart hji hj hi with ⟨_, h2⟩ | h2 | h2
   ·cases h2
   ·exact Or.inl h2
   ·exact Or.inr h2
 ·have h1 := resApart_at h.apart (Ne.symm hji) hi hj
  rcases hS with hS | ⟨g, hg, hge⟩
  ·rcases h1 with ⟨h2, _⟩ | h2 | h2
   ·cases h2
   ·exact Or.inr (Or.inl (hS.trans h2))
   ·exact Or.inr (Or.inr (fun e => h2 (hS.symm.trans e)))
  ·refine Or.inr (Or.inr fun e => ?_)
   have h2 := (h.each s (List.mem_of_getElem? hj)).lt (g := g) (e ▸ hg)
   omega
theorem Mem.sub {L' : List Res} (h : Mem w0 w L) (hs : L'.Sublist L) : Mem w0 w L' := ⟨h.bel, fun r hr => h.each r (hs.subset hr), h.apart.sublist hs⟩
theorem Rd.of_arr {g size n : Nat} (h : Arr w g t cs) (hl : cs.length = n * size) (hn : n ≤ maxLen) : Rd w w.heap.size size (some ⟨g, 0, none⟩) n n cs :=
 ⟨hl, Nat.le_refl _, hn, fun _ => ⟨g, 0, rfl, h.lt, fun j u hu => by rw [Nat.zero_add]; exact h.cell hu⟩⟩
theorem Mem.rdRow (h : Mem w0 w L) (i : Nat) {A : Option Addr} {size n c : Nat} {xs : List Value} (hi : L[i]? = some (.row (.slice A n c) e size n xs)) : Rd w w.heap.size size A n c xs := by
 obtain ⟨A', c', e1, hr⟩ := Rd.of_own (h.row i hi)
 injection e1 with e2 e3 e4
 rw [e2, e4]
 exact hr
theorem Mem.nilRow (h : Mem w0 w L) (e : TypeId) (size : Nat) : Mem w0 w (L ++ [.row (.slice none 0 0) e size 0 []]) :=
 h.push (Below.refl _ _) ⟨by simp, Or.inl ⟨rfl, rfl⟩⟩ (fun g hg => by cases hg)
theorem Mem.rowBlk (h : Mem w0 w L) (i : Nat) {A : Option Addr} {size n c : Nat} {xs : List Value} (hi : L[i]? = some (.row (.slice A n c) e size n xs)) (hn : 0 < n) : ∃ b, A = some ⟨b, 0, none⟩ := by
 rcases (h.row i hi).2 with ⟨_, h0⟩ | ⟨g, cap, cur, hv, _⟩
 ·omega
 ·injection hv with h1
  exact ⟨g, h1⟩
end
section
variable {P : Program} {ops : Array Oper} {Q : Exit → Act → World → Prop} {a : Act} {w w0 : World} {o : Oper} {L : List Res} {i : Nat}
structure PL (P : Program) (ops : Array Oper) (Q : Exit → Act → World → Prop) (i : Nat) (a : Act) (w : World) : Prop where
 out : wpList P ops Q (ops.toList.drop i) a w
theorem plStart {id : Nat} (h : PL P ops Q 0 a w) : (Code.region id ops false).wp P Q a w := by
 refine wp_region ?_
 have h1 := wpOps_eq_wpList (P := P) (ops := ops) (Q := Q) ops.toList 0 (fun j => by simp)
 rw [List.range_eq_range', show ops.size = ops.toList.length by simp, h1]
 exact h.out
theorem plOf (hi : ops.toList[i]? = some o) (h : wpList P ops Q (o :: ops.toList.drop (i + 1)) a w) : PL P ops Q i a w := by
 refine ⟨?_⟩
 obtain ⟨hl, rfl⟩ := List.getElem?_eq_some_iff.1 hi
 rw [List.drop_eq_getElem_cons hl]
 exact h
theorem plVal {v : Value} (hi : ops.toList[i]? = some o) (hw : Region.wanted o (yielded ops a.tmps) = true) (hr : (execOp a.eval o).run P w = .ok (.value v) w) (h : PL P ops Q (i + 1) (a.put o.dst v) w) : PL P ops Q i a w :=
 plOf hi (opVal hw hr h.out)
theorem plSkip (hi : ops.toList[i]? = some o) (hw : Region.wanted o (yielded ops a.tmps) = false) (h : PL P ops Q (i + 1) (a.put o.dst undef) w) : PL P ops Q i a w := by
 refine plOf hi ?_
 unfold wpList
 rw [hw]
 exact h.out
theorem plDone (hi : ops.toList.length ≤ i) (h : Q .normal a w) : PL P ops Q i a w := by
 refine ⟨?_⟩
 rw [List.drop_eq_nil_of_le hi]
 exact h
theorem plCall {c : Operand} {args : Array Operand} {argTypes : Array TypeId} {R : Ending → World → Prop} (f : FuncId) (vals first caps : List Value)
 (hi : ops.toList[i]? = some o) (hf : callable P f = true) (hw : Region.wanted o (yielded ops a.tmps) = true) (ho : o.op = .call { callee := .value c, args, argTypes }) (hc : a.eval c = .func (.func f) first.toArray caps.toArray) (hargs : args.toList.map a.eval = vals)
 (hC : Calls P f (first ++ vals ++ caps).toArray w R) (h : ∀ e w', R e w' → ∃ v, e = .returned v ∧ PL P ops Q (i + 1) (a.put o.dst v) w') : PL P ops Q i a w :=
 plOf hi (callOp f vals first caps hf hw ho hc hargs (hC.mono fun e w' he => by
  obtain ⟨v, h1, h2⟩ := h e w' he
  exact ⟨v, h1, h2.out⟩))
theorem plBox {x : Operand} {ty : TypeId} {cs : List Value} (hm : Mem w0 w L) (hi : ops.toList[i]? = some o) (hw : Region.wanted o (yielded ops a.tmps) = true) (ho : o.op = .box ty x) (hx : a.eval x = .agg cs.toArray)
 (h : ∀ g w', Mem w0 w' (L ++ [.arr g ty cs]) → PL P ops Q (i + 1) (a.put o.dst (.pointer (some ⟨g, 0, none⟩))) w') : PL P ops Q i a w :=
 plOf hi (bxArr x hw ho hx fun w' hA hb => (h _ w' (hm.new hb hA)).out)
theorem plBox1 {x : Operand} {ty : TypeId} {v : Value} (hm : Mem w0 w L) (hi : ops.toList[i]? = some o) (hw : Region.wanted o (yielded ops a.tmps) = true) (ho : o.op = .box ty x) (hx : a.eval x = v) (hv : v.cells = #[v])
 (h : ∀ g w', Mem w0 w' (L ++ [.arr g ty [v]]) → PL P ops Q (i + 1) (a.put o.dst (.pointer (some ⟨g, 0, none⟩))) w') : PL P ops Q i a w :=
 plOf hi (bxOne x hw ho hx hv fun w' hA hb => (h _ w' (hm.new hb hA)).out)
theorem plAlloc {z : List Value} {ty : TypeId} {n : Nat} (T : AgTy P ty z.toArray n) (hm : Mem w0 w L) (hi : ops.toList[i]? = some o) (hw : Region.wanted o (yielded ops a.tmps) = true) (ho : o.op = .alloc ty)
 (h : ∀ g w', Mem w0 w' (L ++ [.arr g ty z]) → PL P ops Q (i + 1) (a.put o.dst (.pointer (some ⟨g, 0, none⟩))) w') : PL P ops Q i a w :=
 plOf hi (alArr T hw ho fun w' hA hb => (h _ w' (hm.new hb hA)).out)
theorem plAlloc1 {v : Value} {ty : TypeId} (hz : (P.info? ty).map (fun i => i.zero.map Value.cells) = some (some #[v])) (hm : Mem w0 w L) (hi : ops.toList[i]? = some o) (hw : Region.wanted o (yielded ops a.tmps) = true) (ho : o.op = .alloc ty)
 (h : ∀ g w', Mem w0 w' (L ++ [.arr g ty [v]]) → PL P ops Q (i + 1) (a.put o.dst (.pointer (some ⟨g, 0, none⟩))) w') : PL P ops Q i a w :=
 plOf hi (alScG hz hw ho fun w' hA hb => (h _ w' (hm.new hb hA)).out)
theorem plStore {x y : Operand} {ty : TypeId} {n g : Nat} {z : Array Value} {cur cs : List Value} {t : TypeId} (j : Nat) (T : AgTy P ty z n) (hm : Mem w0 w L) (hj : L[j]? = some (.arr g t cur)) (hi : ops.toList[i]? = some o) (hw : Region.wanted o (yielded ops a.tmps) = true) (ho : o.op = .store ty x y)
 (hx : a.eval x = .pointer (some ⟨g, 0, none⟩)) (hy : a.eval y = .agg cs.toArray) (hs : cur.length = n) (hl : cs.length = n) (h1 : (cs.all fun u => u.oneCell') = true)
 (h : ∀ w', Mem w0 w' (L.set j (.arr g t cs)) → PL P ops Q (i + 1) (a.put o.dst undef) w') : PL P ops Q i a w :=
 plOf hi (stArrG x y T hw ho hx hy (hm.arr j hj) hs hl (fun u hu => List.all_eq_true.1 h1 u hu) fun w' hA hk => (h w' (hm.set j hj hA hk)).out)
theorem plStore1 {x y : Operand} {ty : TypeId} {g k : Nat} {cur : List Value} {v v0 : Value} {t : TypeId} (j : Nat) (hsz : (P.info? ty).map (·.size) = some 1) (hm : Mem w0 w L) (hj : L[j]? = some (.arr g t cur)) (hi : ops.toList[i]? = some o) (hw : Region.wanted o (yielded ops a.tmps) = true) (ho : o.op = .store ty x y)
 (hx : a.eval x = .pointer (some ⟨g, k, none⟩)) (hy : a.eval y = v) (hk : cur[k]? = some v0) (hv : v.cells = #[v]) (h1 : v.oneCell' = true)
 (h : ∀ w', Mem w0 w' (L.set j (.arr g t (cur.set k v))) → PL P ops Q (i + 1) (a.put o.dst undef) w') : PL P ops Q i a w :=
 plOf hi (stCellG x y hsz hw ho hx hy (hm.arr j hj) hk hv h1 fun w' hA hg => (h w' (hm.set j hj hA hg)).out)
theorem plLit {t e : TypeId} {z : Value} {size bytes n : Nat} {parts : Array (Nat × Operand)} {cs : List Value} (T : SlTy P t e z size bytes) (hm : Mem w0 w L) (hi : ops.toList[i]? = some o) (hw : Region.wanted o (yielded ops a.tmps) = true) (ho : o.op = .buildSlice t n parts) (hn : n * size ≤ 65536) (hn0 : ¬ n * size = 0)
 (hf : Instr.fill (fun i => some (i * size, size)) ((Array.range (n * size)).map (z.cells[· % z.cells.size]!)) (parts.map fun (i, x) => (i, a.eval x)).toList = some cs.toArray)
 (h : ∀ g w', Mem w0 w' (L ++ [.arr g e cs]) → PL P ops Q (i + 1) (a.put o.dst (.slice (some ⟨g, 0, none⟩) n n)) w') : PL P ops Q i a w := by
 obtain ⟨ti, hti, hz0, hz1, hz2⟩ := info_parts T.inf
 refine plOf hi (wpList_want hw fun K hK => wp_buildSlice t e n _ ho cs.toArray ti z T.und hti hz0 (by rw [hz1]; omega) (by rw [hz1]; exact hn0) (by rw [hz1]; exact hf) (hK _ _ (h _ _ (hm.new ((Below.refl _ _).alloc (Nat.le_refl _) _) (Arr.new w e cs))).out))
theorem plApp1 {s x : Operand} {t e : TypeId} {z : Value} {size bytes n g : Nat} {v : Value} {xs ys : List Value} (j j2 : Nat) (T : SlTy P t e z size bytes) (hm : Mem w0 w L) (hj : L[j]? = some (.row v e size n xs)) (hj2 : L[j2]? = some (.arr g e ys)) (hi : ops.toList[i]? = some o) (hw : Region.wanted o (yielded ops a.tmps) = true)
 (ho : o.op = .call { callee := .builtin .append, args := #[s, x], argTypes := #[t, t] }) (hs : a.eval s = v) (hx : a.eval x = .slice (some ⟨g, 0, none⟩) 1 1) (hl : ys.length = size) (hu : (ys.all fun u => u.oneCell') = true)
 (hn : n + 1 ≤ 70368744177664) (hby : (n + 1) * bytes ≤ 140737488355328)
 (h : ∀ v' w', Mem w0 w' (L.set j (.row v' e size (n + 1) (xs ++ ys))) → PL P ops Q (i + 1) (a.put o.dst v') w') : PL P ops Q i a w :=
 plOf hi (appNB s x T hw ho hs hx (hm.row j hj) (hm.arr j2 hj2) hl hm.bel (Nat.le_refl _) (fun u h => List.all_eq_true.1 hu u h) hn hby fun v' w' h1 _ h3 h4 => (h v' w' (hm.app j hj h1 h3 h4)).out)
end
section
variable {P : Program} {w : World} {o : Oper} {a : Act} {t ty : TypeId} {A B C : Int}
theorem boolTo {b c : Bool} (h : b = c) (hr : (execOp a.eval o).run P w = .ok (.value (.bool b)) w) : (execOp a.eval o).run P w = .ok (.value (.bool c)) w := h ▸ hr
theorem valTo {b c : Value} (h : b = c) (hr : (execOp a.eval o).run P w = .ok (.value b) w) : (execOp a.eval o).run P w = .ok (.value c) w := h ▸ hr
theorem lssRun {A B : Int} (x y : Operand) (ho : o.op = .binOp .lss t x y ty) (hx : a.eval x = .int .i64 A) (hy : a.eval y = .int .i64 B) : (execOp a.eval o).run P w = .ok (.value (.bool (decide (A < B)))) w := by
 unfold execOp
 simp [ho, hx, hy, eqGuard, binOp_lss]
theorem neqRun {A B : Int} (x y : Operand) (ho : o.op = .binOp .neq t x y ty) (hx : a.eval x = .int .i64 A) (hy : a.eval y = .int .i64 B) : (execOp a.eval o).run P w = .ok (.value (.bool (!decide (A = B)))) w := by
 unfold execOp
 simp [ho, hx, hy, eqGuard, binOp_neq]
 by_cases h : A = B <;> simp [h]
end
section
variable {P : Program} {Q : Exit → Act → World → Prop} {K : Act → World → Prop} {a : Act} {w : World} {id id' : Nat}
theorem then_normal (h : K a w) : Exit.then K Q .normal a w := h
theorem then_exit (h : Q (.exit id) a w) : Exit.then K Q (.exit id) a w := h
theorem then_ret (h : Q .ret a w) : Exit.then K Q .ret a w := h
theorem inBlock_normal (h : Q .normal a w) : Exit.inBlock id Q .normal a w := h
theorem inBlock_ret (h : Q .ret a w) : Exit.inBlock id Q .ret a w := h
theorem inBlock_exit (h : Q .normal a w) : Exit.inBlock id Q (.exit id) a w := by simp only [Exit.inBlock, if_true]; exact h
theorem exists_least {p : Nat → Prop} (h : ∃ n, p n) : ∃ n, p n ∧ ∀ m, p m → n ≤ m := by
 obtain ⟨n, hn⟩ := h
 induction n using Nat.strongRecOn with
 | ind n ih =>
  by_cases h2 : ∃ m, m < n ∧ p m
  ·obtain ⟨m, hm, hp⟩ := h2
   exact ih m hm hp
  ·exact ⟨n, hn, fun m hm => Nat.le_of_not_lt fun hlt => h2 ⟨m, hlt, hm⟩⟩
open Classical in
theorem gwLoop {c : Code} (I : Nat → Act → World → Prop) (n : Nat) (h0 : I n a w)
 (h : ∀ n a w, I n a w → c.wp P (Exit.then (fun a' w' => ∃ m, m < n ∧ I m a' w') Q) a w) : (Code.loop c).wp P Q a w := by
 refine wp_loop (fun a w => ∃ n, I n a w) (fun a w => if h : ∃ n, I n a w then Classical.choose (exists_least h) else 0) ⟨n, h0⟩ fun a w hI => ?_
 have hs := Classical.choose_spec (exists_least hI)
 refine wp_mono (h _ a w hs.1) fun e a' w' he => ?_
 cases e with
 | normal =>
  obtain ⟨m, hm, hI'⟩ := he
  refine ⟨⟨m, hI'⟩, ?_⟩
  rw [dif_pos hI, dif_pos ⟨m, hI'⟩]
  exact Nat.lt_of_le_of_lt ((Classical.choose_spec (exists_least ⟨m, hI'⟩)).2 m hI') hm
 | _ => exact he
theorem gwCut {x y : Code} (J : Act → World → Prop) (h1 : x.wp P (Exit.then J Q) a w) (h2 : ∀ a w, J a w → y.wp P Q a w) : (Code.seq x y).wp P Q a w := by
 refine wp_seq (wp_mono h1 fun e a' w' he => ?_)
 cases e with
 | normal => exact h2 _ _ he
 | _ => exact he
end
section
variable {P : Program} {ops : Array Oper} {Q : Exit → Act → World → Prop} {listed : Array Bool} {a : Act} {w w0 : World} {fuel : Nat} {L : List Res} {i : Nat} {o : Oper}
structure MG (P : Program) (ops : Array Oper) (Q : Exit → Act → World → Prop) (w0 : World) (L : List Res) (fuel : Nat) (listed : Array Bool) (a : Act) (w : World) : Prop where
 out : wpAnyH P .any ops Q (fun w' => Mem w0 w' L) fuel listed a w
theorem mgStart {id : Nat} (hm : Mem w0 w L) (hmode : P.follows .mixedOrders = true) (h : ∀ w', Mem w0 w' L → MG P ops Q w0 L ops.size (Array.replicate ops.size false) a w') : (Code.region id ops true).wp P Q a w :=
 rgStart _ hmode (h _ hm.drew).out
theorem mgTake {v : Value} (hi : ops.toList[i]? = some o) (hf : mayFirst ops listed i = true) (hw : Region.wanted o (yielded ops a.tmps) = true)
 (hQ : ∀ c a w, Q (.panic c) (a.put o.dst v) w → Q (.panic c) a w) (hm : Mem w0 w L) (hy : ∀ w, Mem w0 w L → (execOp a.eval o).run P w = .ok (.value v) w)
 (h : MG P ops Q w0 L fuel (listed.setIfInBounds i true) (a.put o.dst v) w) : MG P ops Q w0 L (fuel + 1) listed a w :=
 ⟨rgTake hi hf hw hQ hy hm h.out⟩
theorem mgSkip (hi : ops.toList[i]? = some o) (hf : mayFirst ops listed i = true) (hw : Region.wanted o (yielded ops a.tmps) = false)
 (hQ : ∀ c a w, Q (.panic c) (a.put o.dst undef) w → Q (.panic c) a w) (hm : Mem w0 w L)
 (h : MG P ops Q w0 L fuel (listed.setIfInBounds i true) (a.put o.dst undef) w) : MG P ops Q w0 L (fuel + 1) listed a w :=
 ⟨rgSkip (S := fun w' => Mem w0 w' L) hi hf hw hQ hm h.out⟩
theorem mgCall {c : Operand} {args : Array Operand} {argTypes : Array TypeId} {R : Ending → World → Prop} (f : FuncId) (vals first caps : List Value) (hr : Region.ready .any ops listed = [i])
 (hi : ops.toList[i]? = some o) (hf : callable P f = true) (hw : Region.wanted o (yielded ops a.tmps) = true) (ho : o.op = .call { callee := .value c, args, argTypes }) (hc : a.eval c = .func (.func f) first.toArray caps.toArray) (hargs : args.toList.map a.eval = vals)
 (hC : Calls P f (first ++ vals ++ caps).toArray w R) (h : ∀ e w', R e w' → ∃ v, e = .returned v ∧ Mem w0 w' L ∧ MG P ops Q w0 L fuel (listed.setIfInBounds i true) (a.put o.dst v) w') : MG P ops Q w0 L (fuel + 1) listed a w :=
 ⟨rgNext hr hi (callOp f vals first caps hf hw ho hc hargs (hC.mono fun e w' he => by
  obtain ⟨v, h1, h2, h3⟩ := h e w' he
  exact ⟨v, h1, h2, h3.out⟩))⟩
theorem mgMore_ {L' : List Res} (hL : ∀ w, Mem w0 w L' → Mem w0 w L) : ∀ (fuel : Nat) (listed : Array Bool) (a : Act) (w : World), wpAnyH P .any ops Q (fun w' => Mem w0 w' L') fuel listed a w → wpAnyH P .any ops Q (fun w' => Mem w0 w' L) fuel listed a w
 | 0, _, _, _, h => h
 | fuel + 1, _, _, _, h => ⟨h.1, fun i hi => wpOp_mono (fun a' w' h' => ⟨hL _ h'.1, mgMore_ hL fuel _ a' w' h'.2⟩) (h.2 i hi)⟩
theorem mgMore {L' : List Res} (hL : ∀ w, Mem w0 w L' → Mem w0 w L) (h : MG P ops Q w0 L' fuel listed a w) : MG P ops Q w0 L fuel listed a w := ⟨mgMore_ hL _ _ _ _ h.out⟩
theorem mgDone (hr : Region.ready .any ops listed = []) (h : Q .normal a w) : MG P ops Q w0 L fuel listed a w := ⟨rgDone hr h⟩
end
theorem tn_ {A K : Act → World → Prop} {Q : Exit → Act → World → Prop} {a : Act} {w : World} (hK : ∀ a w, A a w → K a w) (h : A a w) : Exit.then K Q .normal a w := hK _ _ h
theorem lc1_ {α : Type} {a : α} {l m : List α} : a :: l ++ m = a :: (l ++ m) := rfl
theorem lc2_ {α : Type} {l : List α} : [] ++ l = l := rfl
theorem lc3_ {α : Type} {a b : α} {l : List α} {n : Nat} : (a :: l).set (n + 1) b = a :: l.set n b := rfl
theorem lc4_ {α : Type} {a b : α} {l : List α} : (a :: l).set 0 b = b :: l := rfl
section
variable {P : Program} {w w0 : World} {o : Oper} {a : Act} {t ty : TypeId} {L : List Res}
theorem gLoad {g k : Nat} {cs : List Value} {v : Value} {tb : TypeId} (j : Nat) (hm : Mem w0 w L) (hj : L[j]? = some (.arr g tb cs)) (hv : cs[k]? = some v) (x : Operand) (hu : ((P.underlying ty).map fun d => match d with | .struct _ | .array _ _ => true | _ => false) = some false)
 (ho : o.op = .load ty x) (hx : a.eval x = .pointer (some ⟨g, k, none⟩)) : (execOp a.eval o).run P w = .ok (.value v) w :=
 ldRun x hu ho hx ((hm.arr j hj).cell hv)
theorem gLoadAg {g k n : Nat} {cs vs : List Value} {tb : TypeId} {z : Array Value} (j : Nat) (hm : Mem w0 w L) (hj : L[j]? = some (.arr g tb cs)) (hv : (cs.drop k).take n = vs) (hl : vs.length = n) (x : Operand) (T : AgTy P ty z n)
 (ho : o.op = .load ty x) (hx : a.eval x = .pointer (some ⟨g, k, none⟩)) : (execOp a.eval o).run P w = .ok (.value (.agg vs.toArray)) w := by
 have hc : ∀ i u, vs[i]? = some u → w.cell? ⟨g, k + i, none⟩ = some u := fun i u hu => by
  refine (hm.arr j hj).cell ?_
  rw [← hv, List.getElem?_take] at hu
  split at hu
  ·rw [← hu, List.getElem?_drop]
  ·cases hu
 unfold execOp
 simp only [ho, hx, Instr.loadAt, Instr.sureAddr, Sem.run_bind, Sem.run_pure, Result.andThen_ok, run_loadAgg T g k vs hl hc]
theorem gLoadRd {B size n c m off b : Nat} {A : Option Addr} {xs : List Value} {v : Value} (hr : Rd w B size A n c xs) (hA : A = some ⟨b, off, none⟩) (hv : xs[m]? = some v) (hpos : 0 < n * size) (x : Operand) (hu : ((P.underlying ty).map fun d => match d with | .struct _ | .array _ _ => true | _ => false) = some false)
 (ho : o.op = .load ty x) (hx : a.eval x = .pointer (some ⟨b, off + m, none⟩)) : (execOp a.eval o).run P w = .ok (.value v) w := by
 obtain ⟨b', off', e, _, hc⟩ := hr.cells hpos
 rw [hA] at e
 injection e with e
 injection e with e1 e2
 subst e1
 subst e2
 exact ldRun x hu ho hx (hc m v hv)
theorem gLoadAgRd {B size n c m k off b : Nat} {A : Option Addr} {xs vs : List Value} {z : Array Value} (hr : Rd w B size A n c xs) (hA : A = some ⟨b, off, none⟩) (hv : ∀ (i : Nat) (u : Value), vs[i]? = some u → xs[m + i]? = some u) (hl : vs.length = k) (hpos : 0 < n * size) (x : Operand) (T : AgTy P ty z k)
 (ho : o.op = .load ty x) (hx : a.eval x = .pointer (some ⟨b, off + m, none⟩)) : (execOp a.eval o).run P w = .ok (.value (.agg vs.toArray)) w := by
 obtain ⟨b', off', e, _, hc0⟩ := hr.cells hpos
 rw [hA] at e
 injection e with e
 injection e with e1 e2
 subst e1
 subst e2
 have hc : ∀ i u, vs[i]? = some u → w.cell? ⟨b, off + m + i, none⟩ = some u := fun i u hu => by
  rw [Nat.add_assoc]
  exact hc0 (m + i) u (hv i u hu)
 unfold execOp
 simp only [ho, hx, Instr.loadAt, Instr.sureAddr, Sem.run_bind, Sem.run_pure, Result.andThen_ok, run_loadAgg T b (off + m) vs hl hc]
theorem gIaSl {e : TypeId} {z : Value} {size bytes b off n c : Nat} {kk : IntKind} {K : Int} (x y : Operand) (k : Nat) (T : SlTy P t e z size bytes)
 (ho : o.op = .indexAddr t x y) (hx : a.eval x = .slice (some ⟨b, off, none⟩) n c) (hy : a.eval y = .int kk K) (hK : K = (k : Int)) (hk : k < n) : (execOp a.eval o).run P w = .ok (.value (.pointer (some ⟨b, off + k * size, none⟩))) w :=
 iaRowRun x y k T ho hx hy hK hk
theorem gGeq {A B : Int} (x y : Operand) (ho : o.op = .binOp .geq t x y ty) (hx : a.eval x = .int .i64 A) (hy : a.eval y = .int .i64 B) : (execOp a.eval o).run P w = .ok (.value (.bool (decide (B ≤ A)))) w := by
 unfold execOp
 simp [ho, hx, hy, eqGuard, binOp_geq]
end
section
variable {P : Program} {w w0 : World} {tmps : Array Value} {L : List Res}
theorem bool_or (b : Bool) : b = false ∨ b = true := by cases b <;> simp
def FrIs (a : Act) : List (Nat × Value) → Prop
 | [] => True
 | p :: l => a.tmps.getD p.1 undef = p.2 ∧ FrIs a l
structure Fr (a : Act) (N : Nat) (l : List (Nat × Value)) : Prop where
 size : a.tmps.size = N
 defers : a.defers = []
 known : FrIs a l
def slotOf (l : List (Nat × Value)) (i : Nat) (x : Value) : Value := match l with
 | [] => x
 | p :: l => if p.1 = i then p.2 else slotOf l i x
theorem slotOf_eq {a : Act} {i : Nat} : ∀ {l : List (Nat × Value)}, FrIs a l → slotOf l i (a.tmps.getD i undef) = a.tmps.getD i undef
 | [], _ => rfl
 | p :: l, h => by
  unfold slotOf
  split
  ·rename_i e; rw [← e]; exact h.1.symm
  ·exact slotOf_eq h.2
theorem Fr.lit {a : Act} {N : Nat} {l : List (Nat × Value)} (h : Fr a N l) : ∃ X : Nat → Value, a = { tmps := ((List.range N).map fun i => slotOf l i (X i)).toArray, defers := [] } := by
 refine ⟨fun i => a.tmps.getD i undef, ?_⟩
 obtain ⟨tmps, defers⟩ := a
 have hd : defers = [] := h.defers
 have hs : tmps.size = N := h.size
 subst hd
 congr 1
 apply Array.ext
 ·simp [hs]
 ·intro i h1 h2
  have e := slotOf_eq (i := i) h.known
  simp only [List.getElem_toArray, List.getElem_map, List.getElem_range]
  rw [e]
  simp [h1]
def ResIs (P : Program) (w : World) (tmps : Array Value) : ResultVar → Value → Prop
 | .tmp t, v => tmps.getD t undef = v
 | .cell a t, v => ∃ p, tmps.getD a undef = .pointer (some p) ∧ (loadVar t p).run P w = .ok v w
def resRun (tmps : Array Value) : ResultVar → Sem Value
 | .tmp t => pure (tmps.getD t undef)
 | .cell a t => do loadVar t (← asAddr (tmps.getD a undef))
theorem ResIs.run {r : ResultVar} {v : Value} (h : ResIs P w tmps r v) : (resRun tmps r).run P w = .ok v w := by
 cases r with
 | tmp t =>
  have h : tmps.getD t undef = v := h
  show (pure (tmps.getD t undef) : Sem Value).run P w = _
  rw [h, Sem.run_pure]
 | cell a t =>
  obtain ⟨p, h1, h2⟩ := h
  unfold resRun
  simp only [h1, asAddr, Sem.run_bind, Sem.run_pure, Result.andThen_ok, h2]
theorem results_resRun (fn : Func) : results fn tmps = (do let vs ← fn.results.mapM (resRun tmps); pure (if h : vs.size = 1 then vs[0] else .tuple vs)) := by
 unfold results
 congr 1
theorem gRes1 {fn : Func} {r1 : ResultVar} {v1 : Value} (h : fn.results = #[r1]) (h1 : ResIs P w tmps r1 v1) : (results fn tmps).run P w = .ok v1 w := by
 rw [results_resRun, h]
 simp [h1.run]
theorem gRes2 {fn : Func} {r1 r2 : ResultVar} {v1 v2 : Value} (h : fn.results = #[r1, r2]) (h1 : ResIs P w tmps r1 v1) (h2 : ResIs P w tmps r2 v2) : (results fn tmps).run P w = .ok (.tuple #[v1, v2]) w := by
 rw [results_resRun, h]
 simp [h1.run, h2.run]
theorem gRes3 {fn : Func} {r1 r2 r3 : ResultVar} {v1 v2 v3 : Value} (h : fn.results = #[r1, r2, r3]) (h1 : ResIs P w tmps r1 v1) (h2 : ResIs P w tmps r2 v2) (h3 : ResIs P w tmps r3 v3) : (results fn tmps).run P w = .ok (.tuple #[v1, v2, v3]) w := by
 rw [results_resRun, h]
 simp [h1.run, h2.run, h3.run]
theorem gResTmp {t : Tmp} {v : Value} (h : tmps.getD t undef = v) : ResIs P w tmps (.tmp t) v := h
theorem gRes0 {fn : Func} (h : fn.results = #[]) : (results fn tmps).run P w = .ok (.tuple #[]) w := by simp [results, h]
theorem gResAg {p : Tmp} {ty tb : TypeId} {g n : Nat} {cs : List Value} {z : Array Value} (j : Nat) (hm : Mem w0 w L) (hj : L[j]? = some (.arr g tb cs)) (T : AgTy P ty z n) (hl : cs.length = n) (hp : tmps.getD p undef = .pointer (some ⟨g, 0, none⟩)) : ResIs P w tmps (.cell p ty) (.agg cs.toArray) :=
 ⟨_, hp, run_loadAgg T g 0 cs hl fun i u hu => by rw [Nat.zero_add]; exact (hm.arr j hj).cell hu⟩
theorem gResCell {p : Tmp} {ty tb : TypeId} {g : Nat} {cs : List Value} {v : Value} (j : Nat) (hm : Mem w0 w L) (hj : L[j]? = some (.arr g tb cs)) (hv : cs[0]? = some v) (hu : ((P.underlying ty).map fun d => match d with | .struct _ | .array _ _ => true | _ => false) = some false) (hp : tmps.getD p undef = .pointer (some ⟨g, 0, none⟩)) : ResIs P w tmps (.cell p ty) v := by
 refine ⟨_, hp, ?_⟩
 obtain ⟨d, hd, h2⟩ := Option.map_eq_some_iff.1 hu
 have ha : (isAgg ty).run P w = .ok false w := by
  unfold isAgg
  rw [Sem.run_bind, run_underlying hd w]
  cases d <;> simp_all
 have hc := (hm.arr j hj).cell hv
 simp [loadVar, Sem.run_bind, ha, hc]
end
def lit (N : Nat) (X : Nat → Value) (l : List (Nat × Value)) : Act := { tmps := ((List.range N).map fun i => slotOf l i (X i)).toArray, defers := [] }
def litEval (N : Nat) (X : Nat → Value) (l : List (Nat × Value)) : Operand → Value
 | .tmp k => if k < N then slotOf l k (X k) else undef
 | .const v => v
 | .global g => .pointer (some ⟨g, 0, none⟩)
 | .func f => .func (.func f) #[] #[]
section
variable {N : Nat} {X : Nat → Value} {l : List (Nat × Value)} {P : Program} {w w0 : World} {o : Oper} {ops : Array Oper} {Q : Exit → Act → World → Prop} {i : Nat}
theorem lit_get? (k : Nat) : (lit N X l).tmps[k]? = if k < N then some (slotOf l k (X k)) else none := by
 unfold lit
 simp only [List.getElem?_toArray, List.getElem?_map]
 by_cases h : k < N
 ·rw [List.getElem?_range h, if_pos h]; rfl
 ·rw [List.getElem?_eq_none (by simp; omega), if_neg h]; rfl
theorem lit_getD (k : Nat) : (lit N X l).tmps.getD k undef = if k < N then slotOf l k (X k) else undef := by
 rw [Array.getD_eq_getD_getElem?, lit_get?]
 split <;> rfl
theorem lit_eval : (lit N X l).eval = litEval N X l := by
 funext x
 cases x with
 | tmp k => exact lit_getD k
 | _ => rfl
theorem lit_put {d : Nat} {v : Value} (_h : d < N) : (lit N X l).put (some d) v = lit N X ((d, v) :: l) := by
 unfold Act.put lit
 simp only
 congr 1
 apply Array.ext
 ·simp
 ·intro k h1 h2
  simp only [Array.size_setIfInBounds, List.size_toArray, List.length_map, List.length_range] at h1
  by_cases hk : d = k
  ·subst hk
   simp [slotOf]
  ·simp [hk, slotOf]
theorem litEv {x : Operand} {v : Value} (h : litEval N X l x = v) : (lit N X l).eval x = v := by rw [lit_eval]; exact h
theorem litRun {r : Result Next} (h : (execOp (litEval N X l) o).run P w = r) : (execOp (lit N X l).eval o).run P w = r := by rw [lit_eval]; exact h
theorem litArgs {args : List Operand} {vals : List Value} (h : args.map (litEval N X l) = vals) : args.map (lit N X l).eval = vals := by rw [lit_eval]; exact h
theorem litGet {k : Nat} {v : Value} (h : litEval N X l (.tmp k) = v) : (lit N X l).tmps.getD k undef = v := litEv h
theorem le_ {N : Nat} {X : Nat → Value} {l : List (Nat × Value)} {x : Operand} {v : Value} (h : litEval N X l x = v := by kernel_rfl) : (lit N X l).eval x = v := litEv h
theorem lg_ {N : Nat} {X : Nat → Value} {l : List (Nat × Value)} {k : Nat} {v : Value} (h : litEval N X l (.tmp k) = v := by kernel_rfl) : (lit N X l).tmps.getD k undef = v := litGet h
theorem wgY {j dj : Nat} {b : Bool} {oj : Oper} (hg : o.guard = some (j, b)) (hj : ops.toList[j]? = some oj) (hd : oj.dst = some dj) (hN : (decide (dj < N)) = true) (hv : litEval N X l (.tmp dj) = .bool b) : Region.wanted o (yielded ops (lit N X l).tmps) = true := by
 have hj' : ops[j]? = some oj := by rw [← hj]; simp
 have hN' := of_decide_eq_true hN
 have hs : (lit N X l).tmps[dj]? = some (.bool b) := by
  rw [lit_get?, if_pos hN']
  have : litEval N X l (.tmp dj) = slotOf l dj (X dj) := if_pos hN'
  rw [← this, hv]
 simp [Region.wanted, hg, yielded, hj', hd, hs]
theorem wgN {j dj : Nat} {b : Bool} {oj : Oper} (hg : o.guard = some (j, b)) (hj : ops.toList[j]? = some oj) (hd : oj.dst = some dj) (hN : (decide (dj < N)) = true) (hv : litEval N X l (.tmp dj) = .bool !b) : Region.wanted o (yielded ops (lit N X l).tmps) = false := by
 have hj' : ops[j]? = some oj := by rw [← hj]; simp
 have hN' := of_decide_eq_true hN
 have hs : (lit N X l).tmps[dj]? = some (.bool !b) := by
  rw [lit_get?, if_pos hN']
  have : litEval N X l (.tmp dj) = slotOf l dj (X dj) := if_pos hN'
  rw [← this, hv]
 simp [Region.wanted, hg, yielded, hj', hd, hs]
theorem wgU {j dj : Nat} {b : Bool} {oj : Oper} (hg : o.guard = some (j, b)) (hj : ops.toList[j]? = some oj) (hd : oj.dst = some dj) (hN : (decide (dj < N)) = true) (hv : litEval N X l (.tmp dj) = undef) : Region.wanted o (yielded ops (lit N X l).tmps) = false := by
 have hj' : ops[j]? = some oj := by rw [← hj]; simp
 have hN' := of_decide_eq_true hN
 have hs : (lit N X l).tmps[dj]? = some undef := by
  rw [lit_get?, if_pos hN']
  have : litEval N X l (.tmp dj) = slotOf l dj (X dj) := if_pos hN'
  rw [← this, hv]
 simp [Region.wanted, hg, yielded, hj', hd, hs, undef]
theorem qPut {d : Nat} {v : Value} {dst : Option Tmp} (hd : dst = some d) (hN : (decide (d < N)) = true) (h : PL P ops Q i (lit N X ((d, v) :: l)) w) : PL P ops Q i ((lit N X l).put dst v) w := by
 rw [hd, lit_put (of_decide_eq_true hN)]; exact h
theorem qNone {v : Value} {dst : Option Tmp} (hd : dst = none) (h : PL P ops Q i (lit N X l) w) : PL P ops Q i ((lit N X l).put dst v) w := by
 rw [hd]; exact h
theorem mPut {L : List Res} {fuel : Nat} {listed : Array Bool} {d : Nat} {v : Value} {dst : Option Tmp} (hd : dst = some d) (hN : (decide (d < N)) = true) (h : MG P ops Q w0 L fuel listed (lit N X ((d, v) :: l)) w) : MG P ops Q w0 L fuel listed ((lit N X l).put dst v) w := by
 rw [hd, lit_put (of_decide_eq_true hN)]; exact h
theorem mNone {L : List Res} {fuel : Nat} {listed : Array Bool} {v : Value} {dst : Option Tmp} (hd : dst = none) (h : MG P ops Q w0 L fuel listed (lit N X l) w) : MG P ops Q w0 L fuel listed ((lit N X l).put dst v) w := by
 rw [hd]; exact h
theorem litStart {c : Code} {a : Act} (N : Nat) (l : List (Nat × Value)) (h : a = lit N (fun _ => undef) l) (k : ∀ X, c.wp P Q (lit N X l) w) : c.wp P Q a w := by
 rw [h]; exact k _
theorem frLit {a : Act} (h : Fr a N l) : ∃ X : Nat → Value, a = lit N X l := Fr.lit h
theorem litSize : (lit N X l).tmps.size = N := by simp [lit]
theorem wpPrune {c : Code} (l' : List (Nat × Value)) (h : FrIs (lit N X l) l') (k : ∀ X', c.wp P Q (lit N X' l') w) : c.wp P Q (lit N X l) w := by
 obtain ⟨X', e⟩ := frLit (⟨litSize, rfl, h⟩ : Fr (lit N X l) N l')
 rw [e]
 exact k X'
theorem litVal {v : Value} {d : Nat} (hi : ops.toList[i]? = some o) (hw : Region.wanted o (yielded ops (lit N X l).tmps) = true) (hr : (execOp (lit N X l).eval o).run P w = .ok (.value v) w) (hd : o.dst = some d) (hN : (decide (d < N)) = true) (h : PL P ops Q (i + 1) (lit N X ((d, v) :: l)) w) : PL P ops Q i (lit N X l) w :=
 plVal hi hw hr (qPut hd hN h)
theorem lk {v : Value} {d : Nat} (hi : ops.toList[i]? = some o) (hg : o.guard = none) (hd : o.dst = some d) (h : PL P ops Q (i + 1) (lit N X ((d, v) :: l)) w) (hr : (execOp (litEval N X l) o).run P w = .ok (.value v) w := by kernel_rfl) (hN : (decide (d < N)) = true := by decide) : PL P ops Q i (lit N X l) w :=
 litVal hi (wn hg) (litRun hr) hd hN h
theorem mk_ {L : List Res} {fuel : Nat} {listed : Array Bool} {v : Value} {d : Nat} (hi : ops.toList[i]? = some o) (hg : o.guard = none) (hQ : ∀ c a w, Q (.panic c) (a.put o.dst v) w → Q (.panic c) a w) (hm : Mem w0 w L) (hd : o.dst = some d)
 (h : MG P ops Q w0 L fuel (listed.setIfInBounds i true) (lit N X ((d, v) :: l)) w) (hf : mayFirst ops listed i = true := by kernel_rfl) (hr : ∀ w, (execOp (litEval N X l) o).run P w = .ok (.value v) w := by intro _; kernel_rfl) (hN : (decide (d < N)) = true := by decide) : MG P ops Q w0 L (fuel + 1) listed (lit N X l) w :=
 mgTake hi hf (wn hg) hQ hm (fun w _ => litRun (hr w)) (mPut hd hN h)
theorem plD {a : Act} (h : Q .normal a w) (hi : ops.toList.length ≤ i := by decide) : PL P ops Q i a w := plDone hi h
theorem qP {d : Nat} {v : Value} {dst : Option Tmp} (hd : dst = some d) (h : PL P ops Q i (lit N X ((d, v) :: l)) w) (hN : (decide (d < N)) = true := by decide) : PL P ops Q i ((lit N X l).put dst v) w := qPut hd hN h
theorem mP {L : List Res} {fuel : Nat} {listed : Array Bool} {d : Nat} {v : Value} {dst : Option Tmp} (hd : dst = some d) (h : MG P ops Q w0 L fuel listed (lit N X ((d, v) :: l)) w) (hN : (decide (d < N)) = true := by decide) : MG P ops Q w0 L fuel listed ((lit N X l).put dst v) w := mPut hd hN h
theorem ps_ {j dj d : Nat} {b : Bool} {oj : Oper} (h : PL P ops Q (i + 1) (lit N X ((d, undef) :: l)) w) (hi : ops.toList[i]? = some o := by exact rfl) (hg : o.guard = some (j, b) := by exact rfl) (hj : ops.toList[j]? = some oj := by exact rfl) (hd : oj.dst = some dj := by exact rfl) (hN : (decide (dj < N)) = true := by decide) (hv : litEval N X l (.tmp dj) = .bool !b := by kernel_rfl) (hd' : o.dst = some d := by exact rfl) (hN' : (decide (d < N)) = true := by decide) : PL P ops Q i (lit N X l) w := plSkip hi (wgN hg hj hd hN hv) (qPut hd' hN' h)
theorem lk_ {d : Nat} (v : Value) (h : PL P ops Q (i + 1) (lit N X ((d, v) :: l)) w) (hi : ops.toList[i]? = some o := by exact rfl) (hg : o.guard = none := by exact rfl) (hd : o.dst = some d := by exact rfl) (hr : (execOp (litEval N X l) o).run P w = .ok (.value v) w := by kernel_rfl) (hN : (decide (d < N)) = true := by decide) : PL P ops Q i (lit N X l) w := litVal hi (wn hg) (litRun hr) hd hN h
end
end Go.Proofs.YtgjgjimgomhbmaaGreatDoor
namespace Go.Proofs.YtgjgjimgomhbmaaGreatDoor
open Go.RowKit Go.ChangeShapes Go.WideShapes
def joinAll {α β : Type} (f : α → Option (List β)) : List α → Option (List β)
 | [] => some []
 | a :: l => match f a, joinAll f l with
  | some x, some y => some (x ++ y)
  | _, _ => none
theorem joinAll_mem {α β : Type} {f : α → Option (List β)} {p : β} : ∀ {l : List α} {r : List β}, joinAll f l = some r → p ∈ r → ∃ (i : Nat) (a : α) (s : List β), l[i]? = some a ∧ f a = some s ∧ p ∈ s
 | [], r, h, hp => by
  simp only [joinAll, Option.some.injEq] at h
  subst h
  cases hp
 | a :: l, r, h, hp => by
  unfold joinAll at h
  split at h
  ·rename_i x y hx hy
   injection h with h
   subst h
   rcases List.mem_append.1 hp with hp | hp
   ·exact ⟨0, a, x, rfl, hx, hp⟩
   ·obtain ⟨i, b, s, h1, h2, h3⟩ := joinAll_mem hy hp
    exact ⟨i + 1, b, s, h1, h2, h3⟩
  ·cases h
def leaves (P : Program) : Nat → TypeId → Option (List (Nat × TypeId))
 | 0, _ => none
 | m + 1, t => match P.underlying t with
  | some (.struct fs) => joinAll (fun f => match leaves P m f.type with
   | some s => if (decide (f.offset + P.cellsOf f.type ≤ P.cellsOf t) && s.all fun p => decide (p.1 + P.cellsOf p.2 ≤ P.cellsOf f.type)) = true then some (s.map fun p => (f.offset + p.1, p.2)) else none
   | none => none) fs.toList
  | some (.array n e) => match leaves P m e with
   | some s => if (decide (n * P.cellsOf e ≤ P.cellsOf t) && s.all fun p => decide (p.1 + P.cellsOf p.2 ≤ P.cellsOf e)) = true then some ((List.range n).flatMap fun i => s.map fun p => (i * P.cellsOf e + p.1, p.2)) else none
   | none => none
  | _ => some [(0, t)]
section
variable {H : Type} {enc : TypeId × Value → H} {P : Program} {w : World} {base : Nat} {held : Bool} {spare : Nat → Bool}
theorem drop_take_drop_take {α : Type} (l : List α) (a b c d : Nat) (h : c + d ≤ b) : (((l.drop a).take b).drop c).take d = (l.drop (a + c)).take d := by
 rw [List.drop_take, List.take_take, List.drop_drop, Nat.min_eq_left (by omega)]
theorem br_leaves : ∀ (m : Nat) (t : TypeId) (ls : List (Nat × TypeId)), leaves P m t = some ls → ∀ (fuel : Nat) (cs : List Value) (x : DataW H × List MemPlace), cs.length = P.cellsOf t → DataW.trod enc P w base spare held fuel t cs = some x →
 ∀ p ∈ ls, ∃ fuel' y, DataW.trod enc P w base spare held fuel' p.2 ((cs.drop p.1).take (P.cellsOf p.2)) = some y
 | 0, _, _, h => by simp [leaves] at h
 | m + 1, t, ls, h => by
  intro fuel cs x hl hx p hp
  unfold leaves at h
  split at h
  ·rename_i fs hu
   obtain ⟨xs, n, rfl, _, _, hlen, hf⟩ := DataW.trod_struct hu hx
   obtain ⟨i, f, s, h1, h2, h3⟩ := joinAll_mem h hp
   split at h2
   ·rename_i s' hs'
    split at h2
    ·rename_i hall
     injection h2 with h2
     subst h2
     rw [Bool.and_eq_true, decide_eq_true_eq] at hall
     obtain ⟨q, hq, rfl⟩ := List.mem_map.1 h3
     have hle := of_decide_eq_true (List.all_eq_true.1 hall.2 q hq)
     have hfx := hf i f (by rw [← h1]; simp)
     have hix : i < xs.length := by
      have := (List.getElem?_eq_some_iff.1 h1).1
      rw [hlen]; simpa using this
     rw [List.getElem?_eq_getElem hix] at hfx
     obtain ⟨f', y, hy⟩ := br_leaves m _ s' hs' _ _ _ (by rw [List.length_take, List.length_drop]; omega) hfx q hq
     rw [drop_take_drop_take _ _ _ _ _ hle] at hy
     exact ⟨f', y, hy⟩
    ·cases h2
   ·cases h2
  ·rename_i n e hu
   obtain ⟨xs, m', rfl, _, _, hlen, hf⟩ := DataW.trod_array hu hx
   split at h
   ·rename_i s' hs'
    split at h
    ·rename_i hall
     injection h with h
     subst h
     rw [Bool.and_eq_true, decide_eq_true_eq] at hall
     obtain ⟨i, hi, h3⟩ := List.mem_flatMap.1 hp
     obtain ⟨q, hq, rfl⟩ := List.mem_map.1 h3
     rw [List.mem_range] at hi
     have hle := of_decide_eq_true (List.all_eq_true.1 hall.2 q hq)
     have hfx := hf i hi
     have hix : i < xs.length := by omega
     rw [List.getElem?_eq_getElem hix] at hfx
     have hmul : (i + 1) * P.cellsOf e ≤ n * P.cellsOf e := Nat.mul_le_mul_right _ hi
     rw [Nat.add_mul, Nat.one_mul] at hmul
     obtain ⟨f', y, hy⟩ := br_leaves m _ s' hs' _ _ _ (by rw [List.length_take, List.length_drop]; omega) hfx q hq
     rw [drop_take_drop_take _ _ _ _ _ hle] at hy
     exact ⟨f', y, hy⟩
    ·cases h
   ·cases h
  ·injection h with h
   subst h
   rw [List.mem_singleton] at hp
   subst hp
   exact ⟨fuel, x, by rw [List.drop_zero, ← hl, List.take_length]; exact hx⟩
theorem br_flat {t : TypeId} {m n : Nat} {ls : List (Nat × TypeId)} (hls : leaves P m t = some ls) (hct : P.cellsOf t = n) (hu : ((P.underlying t).map fun d => match d with | .struct _ | .array _ _ => true | _ => false) = some true)
 {W : World} {r : Reach} {b0 : Nat} {v : Value} {d : DataW H} {pl : List MemPlace}
 (hval : Value.okWide P W r b0 t v) (h : DataW.Trod enc P w base (fun _ => true) held t v d pl) : ∃ cs : List Value, v = .agg cs.toArray ∧ cs.length = n ∧ ∀ p ∈ ls, ∃ fuel' y, DataW.trod enc P w base (fun _ => true) held fuel' p.2 ((cs.drop p.1).take (P.cellsOf p.2)) = some y := by
 obtain ⟨ud, hud, h2⟩ := Option.map_eq_some_iff.1 hu
 have hcs : (∃ fs, ud = .struct fs) ∨ ∃ n e, ud = .array n e := by cases ud <;> simp_all
 obtain ⟨cs, rfl⟩ : ∃ cs : Array Value, v = .agg cs := by
  rcases hcs with ⟨fs, rfl⟩ | ⟨n', e, rfl⟩
  ·simp only [Value.okWide, hud] at hval
   obtain ⟨cs, rfl, _⟩ := hval
   exact ⟨cs, rfl⟩
  ·simp only [Value.okWide, hud] at hval
   obtain ⟨cs, rfl, _⟩ := hval
   exact ⟨cs, rfl⟩
 obtain ⟨fuel, hf⟩ := h
 have hf : DataW.trod enc P w base (fun _ => true) held fuel t cs.toList = some (d, pl) := hf
 have hl : cs.toList.length = P.cellsOf t := by
  rcases hcs with ⟨fs, rfl⟩ | ⟨n', e, rfl⟩
  ·obtain ⟨_, _, _, _, h5, _⟩ := DataW.trod_struct hud hf
   exact h5
  ·obtain ⟨_, _, _, _, h5, _⟩ := DataW.trod_array hud hf
   exact h5
 exact ⟨cs.toList, by simp, by rw [hl, hct], br_leaves m t ls hls fuel cs.toList _ hl hf⟩
theorem leaf_int {cs : List Value} {ls : List (Nat × TypeId)} (h : ∀ p ∈ ls, ∃ fuel' y, DataW.trod enc P w base spare held fuel' p.2 ((cs.drop p.1).take (P.cellsOf p.2)) = some y) {o : Nat} {t : TypeId} {k : IntKind} (hp : ls.contains (o, t) = true) (ht : P.underlying t = some (.int k)) (hc : P.cellsOf t = 1) :
 ∃ z, cs[o]? = some (.int k z) ∧ (Lit.int k z).wf = true := by
 obtain ⟨f, y, hy⟩ := h (o, t) (by simpa using hp)
 simp only [hc] at hy
 obtain ⟨z, hz, _, hw⟩ := DataW.trod_int ht hy
 refine ⟨z, ?_, hw⟩
 have h2 : ((cs.drop o).take 1)[0]? = some (.int k z) := by rw [hz]; rfl
 rw [List.getElem?_take, if_pos (by omega), List.getElem?_drop, Nat.add_zero] at h2
 exact h2
end
end Go.Proofs.YtgjgjimgomhbmaaGreatDoor
namespace Go.Proofs.YtgjgjimgomhbmaaGreatDoor
open Go.RowKit
section
variable {P : Program} {w : World}
end
section
variable {P : Program} {w : World} {o : Oper} {a : Act} {t ty : TypeId} {cs ds : List Value} {m : Nat}
end
theorem Ty.ag_voxel_api_Header : AgTy Tryz.prog 25 [.int .i64 0, .slice none 0 0, .int .i64 0, .slice none 0 0].toArray 4 := ⟨by kernel_rfl, by kernel_rfl, by kernel_rfl⟩
theorem Ty.ag_voxel_api_Digest : AgTy Tryz.prog 27 [.int .u8 0, .int .u8 0, .int .u8 0, .int .u8 0, .int .u8 0, .int .u8 0, .int .u8 0, .int .u8 0, .int .u8 0, .int .u8 0, .int .u8 0, .int .u8 0, .int .u8 0, .int .u8 0, .int .u8 0, .int .u8 0].toArray 16 := ⟨by kernel_rfl, by kernel_rfl, by kernel_rfl⟩
theorem Ty.ag_voxel_voxelref18_Verified : AgTy Tryz.prog 36 [.int .i64 0, .slice none 0 0, .int .i64 0, .slice none 0 0, .int .i64 0, .int .i64 0].toArray 6 := ⟨by kernel_rfl, by kernel_rfl, by kernel_rfl⟩
theorem Ty.ag_voxel_api_Versions : AgTy Tryz.prog 52 [.slice none 0 0, .int .i64 0].toArray 2 := ⟨by kernel_rfl, by kernel_rfl, by kernel_rfl⟩
theorem Ty.ag_voxel_api_Version : AgTy Tryz.prog 84 [.int .i64 0, .int .i64 0, .int .i64 0, .slice none 0 0, .int .i64 0, .slice none 0 0].toArray 6 := ⟨by kernel_rfl, by kernel_rfl, by kernel_rfl⟩
theorem Ty.sl_L_int : SlTy Tryz.prog 22 3 (.int .i64 0) 1 8 := ⟨by kernel_rfl, by kernel_rfl, by rfl, by decide⟩
theorem Ty.sl_L_api_Digest : SlTy Tryz.prog 23 27 (.agg ([.int .u8 0, .int .u8 0, .int .u8 0, .int .u8 0, .int .u8 0, .int .u8 0, .int .u8 0, .int .u8 0, .int .u8 0, .int .u8 0, .int .u8 0, .int .u8 0, .int .u8 0, .int .u8 0, .int .u8 0, .int .u8 0]).toArray) 16 16 := ⟨by kernel_rfl, by kernel_rfl, by rfl, by decide⟩
theorem Ty.sl_L_uint8 : SlTy Tryz.prog 40 5 (.int .u8 0) 1 1 := ⟨by kernel_rfl, by kernel_rfl, by rfl, by decide⟩
theorem Ty.sl_L_api_Version : SlTy Tryz.prog 50 84 (.agg ([.int .i64 0, .int .i64 0, .int .i64 0, .slice none 0 0, .int .i64 0, .slice none 0 0]).toArray) 6 80 := ⟨by kernel_rfl, by kernel_rfl, by rfl, by decide⟩
theorem Ty.sl_L_string : SlTy Tryz.prog 95 9 (.string ⟨([]).toArray⟩) 1 16 := ⟨by kernel_rfl, by kernel_rfl, by rfl, by decide⟩
theorem Ty.sl_L_L_uint8 : SlTy Tryz.prog 116 40 (.slice none 0 0) 1 24 := ⟨by kernel_rfl, by kernel_rfl, by rfl, by decide⟩
theorem Ty.und_string : Tryz.prog.underlying 9 = some (.string) := by kernel_rfl
theorem Ty.und_L_int : Tryz.prog.underlying 22 = some (.slice 3) := by kernel_rfl
theorem Ty.und_L_api_Digest : Tryz.prog.underlying 23 = some (.slice 27) := by kernel_rfl
theorem Ty.und_L_uint8 : Tryz.prog.underlying 40 = some (.slice 5) := by kernel_rfl
theorem Ty.und_L_api_Version : Tryz.prog.underlying 50 = some (.slice 84) := by kernel_rfl
theorem Ty.und_L_L_uint8 : Tryz.prog.underlying 116 = some (.slice 40) := by kernel_rfl
def upd {α : Type} (f : Nat → α) (i : Nat) (x : α) : Nat → α := fun k => if k = i then x else f k
theorem upd_self {α : Type} (f : Nat → α) (i : Nat) : upd f i (f i) = f := by
 funext k; unfold upd; split
 ·rename_i h; rw [h]
 ·rfl
def aoReach (ops : Array Oper) : Nat → Nat → Nat → Bool
 | 0, k, p => waitsFor ops k p
 | f + 1, k, p => waitsFor ops k p || (List.range ops.toList.length).any fun q => waitsFor ops k q && aoReach ops f q p
def aoCheck (ops : Array Oper) (adr : Nat → List Nat) (N : Nat) : Bool :=
 (List.range ops.toList.length).all fun i => ((ops.toList[i]?).map fun o =>
  (o.after.all fun e => !Region.binds .any e || decide (e.on < i)) &&
  (o.dst.map fun d => decide (d < N) && (List.range ops.toList.length).all fun j => j == i || ((ops.toList[j]?).map fun o' => decide (o'.dst ≠ some d)).getD true).getD true &&
  ((adr i).all fun x => x == i || aoReach ops 2 i x)).getD false
def aoOut (ops : Array Oper) (i k : Nat) : Bool := (List.range ops.toList.length).all fun j => ((ops.toList[j]?).map fun o => decide (o.dst ≠ some k) || j == i || waitsFor ops j i).getD true
def aoNo (ops : Array Oper) (k : Nat) : Bool := (List.range ops.toList.length).all fun j => ((ops.toList[j]?).map fun o => decide (o.dst ≠ some k)).getD true
section
variable {P : Program} {ops : Array Oper} {Q : Exit → Act → World → Prop} {w0 : World} {a0 : Act} {N : Nat} {val : Nat → List Nat → Value} {adr : Nat → List Nat} {L : (Nat → Bool) → (Nat → Nat) → List Res}
structure AoKn (ops : Array Oper) (a0 : Act) (N : Nat) (val : Nat → List Nat → Value) (adr : Nat → List Nat) (i : Nat) (g : Nat → Nat) (a : Act) : Prop where
 size : a.tmps.size = N
 defers : a.defers = []
 inn : ∀ j o d, waitsFor ops i j = true → ops.toList[j]? = some o → o.dst = some d → a.tmps.getD d undef = val j ((adr j).map g)
 out : ∀ k, aoOut ops i k = true → a.tmps.getD k undef = a0.tmps.getD k undef
structure AoFin (ops : Array Oper) (a0 : Act) (N : Nat) (val : Nat → List Nat → Value) (adr : Nat → List Nat) (g : Nat → Nat) (a : Act) : Prop where
 size : a.tmps.size = N
 defers : a.defers = []
 inn : ∀ j o d, ops.toList[j]? = some o → o.dst = some d → a.tmps.getD d undef = val j ((adr j).map g)
 out : ∀ k, aoNo ops k = true → a.tmps.getD k undef = a0.tmps.getD k undef
def AoStep (P : Program) (ops : Array Oper) (Q : Exit → Act → World → Prop) (w0 : World) (a0 : Act) (N : Nat) (val : Nat → List Nat → Value) (adr : Nat → List Nat) (L : (Nat → Bool) → (Nat → Nat) → List Res) (i : Nat) (o : Oper) : Prop :=
 ∀ (b : Nat → Bool) (g : Nat → Nat) (a : Act) (w : World), b i = false → (∀ j, aoReach ops 2 i j = true → b j = true) → (∀ j, aoReach ops 2 j i = true → b j = false) → AoKn ops a0 N val adr i g a → Mem w0 w (L b g) →
  wpList P ops (Exit.then (fun a' w' => ∃ γ, a' = a.put o.dst (val i ((adr i).map (upd g i γ))) ∧ Mem w0 w' (L (upd b i true) (upd g i γ))) Q) [o] a w
structure AoSt (ops : Array Oper) (w0 : World) (a0 : Act) (N : Nat) (val : Nat → List Nat → Value) (adr : Nat → List Nat) (L : (Nat → Bool) → (Nat → Nat) → List Res) (listed : Array Bool) (g : Nat → Nat) (a : Act) (w : World) : Prop where
 size : a.tmps.size = N
 defers : a.defers = []
 inn : ∀ i o d, ops.toList[i]? = some o → o.dst = some d → listed.getD i true = true → a.tmps.getD d undef = val i ((adr i).map g)
 out : ∀ k, (∀ i o, ops.toList[i]? = some o → listed.getD i true = true → o.dst ≠ some k) → a.tmps.getD k undef = a0.tmps.getD k undef
 mem : Mem w0 w (L (fun i => listed.getD i true) g)
theorem aoReach_listed {listed : Array Bool} (hcl : ∀ j p, listed.getD j true = true → waitsFor ops j p = true → listed.getD p true = true) : ∀ (f k p : Nat), listed.getD k true = true → aoReach ops f k p = true → listed.getD p true = true
 | 0, k, p, hk, h => hcl k p hk h
 | f + 1, k, p, hk, h => by
  unfold aoReach at h
  rw [Bool.or_eq_true] at h
  rcases h with h | h
  ·exact hcl k p hk h
  ·obtain ⟨q, _, h2⟩ := List.any_eq_true.1 h
   rw [Bool.and_eq_true] at h2
   exact aoReach_listed hcl f q p (hcl k q hk h2.1) h2.2
theorem aoChk {i : Nat} {o : Oper} (h : aoCheck ops adr N = true) (hi : ops.toList[i]? = some o) : (∀ e ∈ o.after, Region.binds .any e = true → e.on < i) ∧ (∀ d, o.dst = some d → d < N ∧ ∀ j o', j ≠ i → ops.toList[j]? = some o' → o'.dst ≠ some d) ∧ (∀ x ∈ adr i, x = i ∨ aoReach ops 2 i x = true) := by
 have hlt := (List.getElem?_eq_some_iff.1 hi).1
 have h1 := List.all_eq_true.1 h i (List.mem_range.2 hlt)
 rw [hi] at h1
 simp only [Option.map_some, Option.getD_some, Bool.and_eq_true] at h1
 obtain ⟨⟨h1, h2⟩, h3⟩ := h1
 refine ⟨fun e he hb => ?_, fun d hd => ?_, ?_⟩
 ·have := Array.all_eq_true'.1 h1 e he
  rw [hb] at this
  simpa using this
 ·rw [hd] at h2
  simp only [Option.map_some, Option.getD_some, Bool.and_eq_true, decide_eq_true_eq] at h2
  refine ⟨h2.1, fun j o' hj ho' => ?_⟩
  have h4 := List.all_eq_true.1 h2.2 j (List.mem_range.2 (List.getElem?_eq_some_iff.1 ho').1)
  rw [ho'] at h4
  simp only [Option.map_some, Option.getD_some, Bool.or_eq_true, beq_iff_eq, decide_eq_true_eq] at h4
  exact h4.resolve_left hj
 ·intro x hx
  have h4 := List.all_eq_true.1 h3 x hx
  rw [Bool.or_eq_true, beq_iff_eq] at h4
  exact h4
theorem ao_go (hchk : aoCheck ops adr N = true) (hstep : ∀ i o, ops.toList[i]? = some o → AoStep P ops Q w0 a0 N val adr L i o)
    (hend : ∀ g a w, AoFin ops a0 N val adr g a → Mem w0 w (L (fun _ => true) g) → Q .normal a w) :
    ∀ (m : Nat) (listed : Array Bool) (g : Nat → Nat) (a : Act) (w : World), ((List.range ops.toList.length).filter fun i => !listed.getD i true).length = m → listed.size = ops.size →
      (∀ j p, listed.getD j true = true → waitsFor ops j p = true → listed.getD p true = true) → AoSt ops w0 a0 N val adr L listed g a w → wpAny P .any ops Q m listed a w := by
  intro m
  induction m with
  | zero =>
    intro listed g a w hm hsz _ hS
    have hall : ∀ i, listed.getD i true = true := fun i => by
      by_cases hi : i < ops.toList.length
      · have := List.length_eq_zero_iff.1 hm
        rw [List.filter_eq_nil_iff] at this
        simpa using this i (List.mem_range.2 hi)
      · have : listed.size ≤ i := by rw [hsz]; simpa using hi
        simp [this]
    refine ⟨?_, hend g a w ⟨hS.size, hS.defers, fun j o d ho hd => hS.inn j o d ho hd (hall j), fun k hk => hS.out k fun i o ho _ => ?_⟩ ?_⟩
    · apply List.eq_nil_iff_forall_not_mem.2
      intro i hi
      have := (mem_ready.1 hi).1
      rw [hall i] at this
      cases this
    · have h1 := List.all_eq_true.1 hk i (List.mem_range.2 (List.getElem?_eq_some_iff.1 ho).1)
      rw [ho] at h1
      simpa using h1
    · have := hS.mem
      rwa [show (fun i => listed.getD i true) = fun _ => true from funext hall] at this
  | succ m ih =>
    intro listed g a w hm hsz hcl hS
    have hun : ∃ i, i < ops.toList.length ∧ listed.getD i true = false := by
      cases hf : (List.range ops.toList.length).filter fun i => !listed.getD i true with
      | nil => rw [hf] at hm; simp at hm
      | cons i r =>
        have : i ∈ (List.range ops.toList.length).filter fun i => !listed.getD i true := by rw [hf]; exact List.mem_cons_self
        rw [List.mem_filter, List.mem_range] at this
        exact ⟨i, this.1, by simpa using this.2⟩
    refine ⟨fun h0 => ?_, fun i hi => ?_⟩
    · exfalso
      have key : ∀ (n i : Nat), i ≤ n → i < ops.toList.length → listed.getD i true = false → False := by
        intro n
        induction n using Nat.strongRecOn with
        | ind n ihn =>
          intro i hin hil hiu
          obtain ⟨o, ho⟩ : ∃ o, ops.toList[i]? = some o := ⟨ops.toList[i], List.getElem?_eq_getElem hil⟩
          have ho' : ops[i]? = some o := by rw [← ho]; simp
          have hr : i ∈ Region.ready .any ops listed := by
            refine mem_ready.2 ⟨hiu, o, ho', fun e he hb => ?_⟩
            have hlt := (aoChk hchk ho).1 e he hb
            have hlt2 : e.on < listed.size := by rw [hsz]; have : ops.toList.length = ops.size := by simp
                                                 omega
            cases hq : listed.getD e.on true with
            | true => simp [hlt2] at hq ⊢; exact hq
            | false => exact (ihn e.on (by omega) e.on (Nat.le_refl _) (by omega) hq).elim
          rw [h0] at hr
          cases hr
      obtain ⟨i, hi, hiu⟩ := hun
      exact key i i (Nat.le_refl _) hi hiu
    · obtain ⟨hiu, o, ho', hall⟩ := mem_ready.1 hi
      have ho : ops.toList[i]? = some o := by rw [← ho']; simp
      have hil : i < ops.toList.length := (List.getElem?_eq_some_iff.1 ho).1
      have hils : i < listed.size := by rw [hsz]; simpa using hil
      have hpre : ∀ j, waitsFor ops i j = true → listed.getD j true = true := fun j hw => waits_ready hi hw
      obtain ⟨hc1, hc2, hc3⟩ := aoChk hchk ho
      have hne : ∀ j, listed.getD j true = true → j ≠ i := fun j hj e => by rw [e, hiu] at hj; cases hj
      have hK : AoKn ops a0 N val adr i g a := ⟨hS.size, hS.defers, fun j o2 d hw ho2 hd => hS.inn j o2 d ho2 hd (hpre j hw), fun k hk => hS.out k fun j o2 ho2 hj => by
        have h1 := List.all_eq_true.1 hk j (List.mem_range.2 (List.getElem?_eq_some_iff.1 ho2).1)
        rw [ho2] at h1
        simp only [Option.map_some, Option.getD_some, Bool.or_eq_true, decide_eq_true_eq, beq_iff_eq] at h1
        rcases h1 with (h1 | h1) | h1
        · exact h1
        · exact (hne j hj h1).elim
        · have := hcl j i hj h1
          rw [hiu] at this
          cases this⟩
      have hpost : ∀ j, aoReach ops 2 j i = true → listed.getD j true = false := fun j hw => by
        cases hj : listed.getD j true with
        | false => rfl
        | true => rw [aoReach_listed hcl 2 j i hj hw] at hiu; cases hiu
      have hpre2 : ∀ j, aoReach ops 2 i j = true → listed.getD j true = true := fun j hw => by
        unfold aoReach at hw
        rw [Bool.or_eq_true] at hw
        rcases hw with hw | hw
        · exact hpre j hw
        · obtain ⟨q, _, h2⟩ := List.any_eq_true.1 hw
          rw [Bool.and_eq_true] at h2
          exact aoReach_listed hcl 1 q j (hpre q h2.1) h2.2
      have h1 := hstep i o ho (fun i => listed.getD i true) g a w hiu hpre2 hpost hK hS.mem
      refine wpOp_mono (fun a' w' h' => ?_) (wpOp_of_list ho' h1)
      obtain ⟨γ, rfl, hM⟩ := h'
      have hb : (fun k => (listed.setIfInBounds i true).getD k true) = upd (fun k => listed.getD k true) i true := by
        funext k
        unfold upd
        by_cases hk : k = i
        · subst hk; simp [hils]
        · rw [if_neg hk, getD_set_ne true (Ne.symm hk)]
      have hcl' : ∀ j p, (listed.setIfInBounds i true).getD j true = true → waitsFor ops j p = true → (listed.setIfInBounds i true).getD p true = true := by
        intro j p hj hw
        by_cases hpi : p = i
        · subst hpi; simp [hils]
        · rw [getD_set_ne true (Ne.symm hpi)]
          by_cases hji : j = i
          · subst hji; exact hpre p hw
          · rw [getD_set_ne true (Ne.symm hji)] at hj; exact hcl j p hj hw
      have hval : ∀ j, j ≠ i → j < ops.toList.length → listed.getD j true = true → (adr j).map (upd g i γ) = (adr j).map g := by
        intro j hji hjl hj
        refine List.map_congr_left fun x hx => ?_
        unfold upd
        rw [if_neg]
        intro e
        obtain ⟨oj, hoj⟩ : ∃ o, ops.toList[j]? = some o := ⟨ops.toList[j], List.getElem?_eq_getElem hjl⟩
        rcases (aoChk hchk hoj).2.2 x hx with h2 | h2
        · exact hji (h2.symm.trans e)
        · have h3 := aoReach_listed hcl 2 j x hj h2
          rw [e, hiu] at h3
          cases h3
      refine ih (listed.setIfInBounds i true) (upd g i γ) _ _ ?_ (by simpa using hsz) hcl' ⟨?_, ?_, ?_, ?_, by rw [hb]; exact hM⟩
      · have hf : ((List.range ops.toList.length).filter fun k => !(listed.setIfInBounds i true).getD k true) = ((List.range ops.toList.length).filter fun k => !listed.getD k true).filter (· != i) := by
          rw [List.filter_filter]
          apply List.filter_congr
          intro k _
          by_cases hk : k = i
          · subst hk; simp [hils]
          · rw [getD_set_ne true (Ne.symm hk)]; simp [hk]
        have hmem : i ∈ (List.range ops.toList.length).filter fun k => !listed.getD k true := List.mem_filter.2 ⟨List.mem_range.2 hil, by rw [hiu]; rfl⟩
        have hnd : ((List.range ops.toList.length).filter fun k => !listed.getD k true).Nodup := List.Pairwise.filter _ List.nodup_range
        rw [hf, ← List.Nodup.erase_eq_filter hnd, List.length_erase_of_mem hmem, hm]
        rfl
      · cases hd : o.dst <;> simp [Act.put, hS.size]
      · cases hd : o.dst <;> simp [Act.put, hS.defers]
      · intro j oj d hoj hd hj
        have hjl := (List.getElem?_eq_some_iff.1 hoj).1
        by_cases hji : j = i
        · subst hji
          obtain rfl : oj = o := Option.some.inj (hoj.symm.trans ho)
          rw [hd, getD_put_same (by rw [hS.size]; exact (hc2 d hd).1)]
        · have hj' : listed.getD j true = true := by rwa [getD_set_ne true (Ne.symm hji)] at hj
          rw [hval j hji hjl hj', ← hS.inn j oj d hoj hd hj']
          cases hd2 : o.dst with
          | none => rfl
          | some d2 =>
            refine getD_put_other fun e => ?_
            subst e
            exact (hc2 d2 hd2).2 j oj hji hoj hd
      · intro k hk
        have h2 : ∀ j oj, ops.toList[j]? = some oj → listed.getD j true = true → oj.dst ≠ some k := fun j oj hoj hj => hk j oj hoj (by rw [getD_set_ne true (Ne.symm (hne j hj))]; exact hj)
        rw [← hS.out k h2]
        cases hd2 : o.dst with
        | none => rfl
        | some d2 =>
          refine getD_put_other fun e => ?_
          subst e
          exact hk i o ho (by simp [hils]) hd2
def AoFrom (P : Program) (ops : Array Oper) (Q : Exit → Act → World → Prop) (w0 : World) (a0 : Act) (N : Nat) (val : Nat → List Nat → Value) (adr : Nat → List Nat) (L : (Nat → Bool) → (Nat → Nat) → List Res) (i : Nat) : Prop :=
 ∀ j o, i ≤ j → ops.toList[j]? = some o → AoStep P ops Q w0 a0 N val adr L j o
theorem aoNext {i : Nat} {o : Oper} (hi : ops.toList[i]? = some o) (h : AoStep P ops Q w0 a0 N val adr L i o) (hr : AoFrom P ops Q w0 a0 N val adr L (i + 1)) : AoFrom P ops Q w0 a0 N val adr L i := by
 intro j oj hj hoj
 by_cases h2 : j = i
 ·subst h2
  obtain rfl : oj = o := Option.some.inj (hoj.symm.trans hi)
  exact h
 ·exact hr j oj (by omega) hoj
theorem aoDone {i : Nat} (hi : ops.toList.length ≤ i) : AoFrom P ops Q w0 a0 N val adr L i := by
 intro j oj hj hoj
 have := (List.getElem?_eq_some_iff.1 hoj).1
 omega
theorem aoStart {id : Nat} {X : Nat → Value} {l : List (Nat × Value)} {w : World} {L0 : List Res} (val : Nat → List Nat → Value) (adr : Nat → List Nat) (L : (Nat → Bool) → (Nat → Nat) → List Res) (hm : Mem w0 w L0) (hmode : P.follows .mixedOrders = true)
 (hchk : aoCheck ops adr N = true) (hL : ∀ w', Mem w0 w' L0 → Mem w0 w' (L (fun _ => false) (fun _ => 0)))
 (hLb : ∀ (b : Nat → Bool) g, (∀ i, i < ops.toList.length → b i = false) → L b g = L (fun _ => false) g)
 (hstep : AoFrom P ops Q w0 (lit N X l) N val adr L 0)
 (hend : ∀ g a w, AoFin ops (lit N X l) N val adr g a → Mem w0 w (L (fun _ => true) g) → Q .normal a w) : (Code.region id ops true).wp P Q (lit N X l) w := by
 refine wp_region_any hmode ?_
 have hlen : ops.toList.length = ops.size := by simp
 have hrep : ∀ i, i < ops.toList.length → (Array.replicate ops.size false).getD i true = false := fun i hi => by simp [hlen ▸ hi]
 refine ao_go hchk (fun i o ho => hstep i o (Nat.zero_le _) ho) hend ops.size _ (fun _ => 0) _ _ ?_ (by simp) ?_ ⟨litSize, rfl, ?_, ?_, ?_⟩
 ·rw [List.filter_eq_self.2 (fun i hi => by rw [hrep i (List.mem_range.1 hi)]; rfl)]
  simp
 ·intro j p hj hw
  exfalso
  by_cases hl : j < ops.toList.length
  ·rw [hrep j hl] at hj; cases hj
  ·unfold waitsFor at hw
   rw [List.getElem?_eq_none (by omega)] at hw
   cases hw
 ·intro i o d hi _ hli
  rw [hrep i (List.getElem?_eq_some_iff.1 hi).1] at hli
  cases hli
 ·intro k _
  rfl
 ·rw [hLb _ _ hrep]
  exact hL _ hm.drew
end
section
variable {P : Program} {ops : Array Oper} {Q : Exit → Act → World → Prop} {w0 : World} {a0 : Act} {N : Nat} {val : Nat → List Nat → Value} {adr : Nat → List Nat} {L : (Nat → Bool) → (Nat → Nat) → List Res} {i : Nat} {o : Oper}
theorem Mem.setNew {w w' : World} {M : List Res} {t : TypeId} {z : List Value} (h : Mem w0 w M) (j : Nat) {r : Res} (_hj : M[j]? = some r) (hA : Arr w' w.heap.size t z) (b : Below w.heap.size w w') : Mem w0 w' (M.set j (.arr w.heap.size t z)) := by
 refine ⟨h.bel.trans (b.mono h.bel.size), fun s hs => ?_, resApart_set h.apart fun k s hk hs => ?_⟩
 ·rcases resMem_set_ne hs with rfl | ⟨k, _, hk⟩
  ·exact ⟨h.bel.size, hA⟩
  ·exact (h.each s (List.mem_of_getElem? hk)).below b
 ·refine Or.inr (Or.inr fun e => ?_)
  have h2 := (h.each s (List.mem_of_getElem? hs)).lt (g := w.heap.size) e.symm
  omega
abbrev Res.free : Res := .row (.slice none 0 0) 0 1 0 []
theorem Mem.pushFree {w : World} {M : List Res} (h : Mem w0 w M) : Mem w0 w (M ++ [.free]) := h.nilRow 0 1
structure AoB (ops : Array Oper) (i : Nat) (b : Nat → Bool) : Prop where
 no : b i = false
 pre : ∀ j, aoReach ops 2 i j = true → b j = true
 post : ∀ j, aoReach ops 2 j i = true → b j = false
theorem aoVal (li : (Nat → Nat) → List (Nat × Value)) (hfr : ∀ g a, AoKn ops a0 N val adr i g a → FrIs a (li g))
 (hw : ∀ g X, Region.wanted o (yielded ops (lit N X (li g)).tmps) = true) (hL : ∀ b g, L (upd b i true) g = L b g)
 (hr : ∀ b g X w, AoB ops i b → Mem w0 w (L b g) → (execOp (lit N X (li g)).eval o).run P w = .ok (.value (val i ((adr i).map g))) w) : AoStep P ops Q w0 a0 N val adr L i o := by
 intro b g a w hb hp hp2 hk hm
 obtain ⟨X, rfl⟩ := frLit (⟨hk.size, hk.defers, hfr g a hk⟩ : Fr a N (li g))
 refine opVal (hw g X) (hr b g X w ⟨hb, hp, hp2⟩ hm) ⟨g i, ?_, ?_⟩
 ·rw [upd_self]
 ·rw [upd_self, hL]; exact hm
theorem aoNewAg {z : List Value} {ty : TypeId} {n : Nat} (j : Nat) (T : AgTy P ty z.toArray n) (hw : o.guard = none) (ho : o.op = .alloc ty) (hj : ∀ b g, AoB ops i b → ∃ r, (L b g)[j]? = some r) (hL : ∀ b g γ, AoB ops i b → L (upd b i true) (upd g i γ) = (L b g).set j (.arr γ ty z))
 (hv : ∀ γ, val i [γ] = .pointer (some ⟨γ, 0, none⟩)) (ha : adr i = [i]) : AoStep P ops Q w0 a0 N val adr L i o := by
 intro b g a w hb hp hp2 _ hm
 obtain ⟨r, hr⟩ := hj b g ⟨hb, hp, hp2⟩
 refine alArr T (wn hw) ho fun w' hA hB => ?_
 refine ⟨w.heap.size, ?_, ?_⟩
 ·rw [ha]; simp [upd, hv]
 ·rw [hL b g _ ⟨hb, hp, hp2⟩]; exact hm.setNew j hr hA hB
theorem aoLit {t e : TypeId} {z : Value} {size bytes n : Nat} {parts : Array (Nat × Operand)} {cs : (Nat → Nat) → List Value} (j : Nat) (li : (Nat → Nat) → List (Nat × Value)) (hfr : ∀ g a, AoKn ops a0 N val adr i g a → FrIs a (li g)) (T : SlTy P t e z size bytes) (hw : ∀ g X, Region.wanted o (yielded ops (lit N X (li g)).tmps) = true) (ho : o.op = .buildSlice t n parts) (hn : n * size ≤ 65536) (hn0 : ¬ n * size = 0)
 (hf : ∀ g X, Instr.fill (fun i => some (i * size, size)) ((Array.range (n * size)).map (z.cells[· % z.cells.size]!)) (parts.map fun (i, x) => (i, (lit N X (li g)).eval x)).toList = some (cs g).toArray)
 (hj : ∀ b g, AoB ops i b → ∃ r, (L b g)[j]? = some r) (hL : ∀ b g γ, AoB ops i b → L (upd b i true) (upd g i γ) = (L b g).set j (.arr γ e (cs g)))
 (hv : ∀ γ, val i [γ] = .slice (some ⟨γ, 0, none⟩) n n) (ha : adr i = [i]) : AoStep P ops Q w0 a0 N val adr L i o := by
 intro b g a w hb hp hp2 hk hm
 obtain ⟨r, hr⟩ := hj b g ⟨hb, hp, hp2⟩
 obtain ⟨X, rfl⟩ := frLit (⟨hk.size, hk.defers, hfr g a hk⟩ : Fr a N (li g))
 obtain ⟨ti, hti, hz0, hz1, hz2⟩ := info_parts T.inf
 refine wpList_want (hw g X) fun K hK => wp_buildSlice t e n _ ho (cs g).toArray ti z T.und hti hz0 (by rw [hz1]; omega) (by rw [hz1]; exact hn0) (by rw [hz1]; exact hf g X) (hK _ _ ?_)
 refine ⟨w.heap.size, ?_, ?_⟩
 ·rw [ha]; simp [upd, hv]
 ·rw [hL b g _ ⟨hb, hp, hp2⟩]; exact hm.setNew j hr (Arr.new w e (cs g)) ((Below.refl _ _).alloc (Nat.le_refl _) _)
end
section
variable {P : Program} {w : World} {ops : Array Oper} {rest : List Oper} {o : Oper} {a : Act} {Q : Exit → Act → World → Prop}
theorem stMidG {t : TypeId} {g off : Nat} {cur : List Value} {ty : TypeId} {z : Array Value} {n : Nat} (x y : Operand) (cs : List Value) (T : AgTy P ty z n) (hgd : Region.wanted o (yielded ops a.tmps) = true) (ho : o.op = .store ty x y)
 (hx : a.eval x = .pointer (some ⟨g, off, none⟩)) (hy : a.eval y = .agg cs.toArray) (hA : Arr w g t cur) (hl : cs.length = n) (hfit : off + n ≤ cur.length) (h1 : ∀ u ∈ cs, u.oneCell' = true)
 (h : ∀ w', Arr w' g t (spl cur off cs) → w.grownBy w' (some g) → wpList P ops Q rest (a.put o.dst undef) w') : wpList P ops Q (o :: rest) a w := by
 obtain ⟨i, hi, _, hs'⟩ := T.parts
 have hst := run_storeCells_spl (P := P) hA (off := off) cs (by omega) h1
 have hrun : (storeVar ty ⟨g, off, none⟩ (.agg cs.toArray)).run P w = .ok () (w.setRow g (spl cur off cs).toArray) := by
  simp [storeVar, sizeOf, typeInfo, hi, hs', Value.cells, hl, hst]
 refine wpList_want hgd fun K hK => ?_
 unfold Oper.wp execOp
 simp only [ho, hx, hy, Instr.storeAt, Instr.sureAddr, Sem.run_bind, Sem.run_pure, Result.andThen_ok, hrun]
 refine hK _ _ (h _ (hA.setRow _) ⟨rfl, rfl, rfl, by simp [World.setRow], fun k hk hne => ?_⟩)
 unfold World.setRow
 have : g ≠ k := fun e => hne (by rw [e])
 simp [Array.getElem?_modify, this]
end
section
variable {P : Program} {ops : Array Oper} {Q : Exit → Act → World → Prop} {w w0 : World} {a a0 : Act} {N : Nat} {val : Nat → List Nat → Value} {adr : Nat → List Nat} {L : (Nat → Bool) → (Nat → Nat) → List Res} {i : Nat} {o : Oper}
theorem aoStore {x y : Operand} {ty : TypeId} {n k : Nat} {z : Array Value} {gb : (Nat → Nat) → Nat} {cur vs : (Nat → Nat) → List Value} {t : TypeId} (j : Nat) (li : (Nat → Nat) → List (Nat × Value)) (hfr : ∀ g a, AoKn ops a0 N val adr i g a → FrIs a (li g)) (T : AgTy P ty z n) (hj : ∀ b g, AoB ops i b → (L b g)[j]? = some (.arr (gb g) t (cur g)))
 (hw : ∀ g X, Region.wanted o (yielded ops (lit N X (li g)).tmps) = true) (ho : o.op = .store ty x y) (hx : ∀ g X, (lit N X (li g)).eval x = .pointer (some ⟨gb g, k, none⟩)) (hy : ∀ g X, (lit N X (li g)).eval y = .agg (vs g).toArray)
 (hs : ∀ g, (decide (k + n ≤ (cur g).length)) = true) (hl : ∀ g, (vs g).length = n) (h1 : ∀ g, ((vs g).all fun u => u.oneCell') = true) (hL : ∀ b g, AoB ops i b → L (upd b i true) g = (L b g).set j (.arr (gb g) t (spl (cur g) k (vs g)))) (hd : o.dst = none) : AoStep P ops Q w0 a0 N val adr L i o := by
 intro b g a w hb hp hp2 hk hm
 obtain ⟨X, rfl⟩ := frLit (⟨hk.size, hk.defers, hfr g a hk⟩ : Fr a N (li g))
 have hj' := hj b g ⟨hb, hp, hp2⟩
 refine stMidG x y (vs g) T (hw g X) ho (hx g X) (hy g X) (hm.arr j hj') (hl g) (of_decide_eq_true (hs g)) (fun u hu => List.all_eq_true.1 (h1 g) u hu) fun w' hA hG => ⟨g i, ?_, ?_⟩
 ·rw [hd]; rfl
 ·rw [upd_self, hL b g ⟨hb, hp, hp2⟩]; exact hm.set j hj' hA hG
theorem aoStore1 {x y : Operand} {ty : TypeId} {k : Nat} {gb : (Nat → Nat) → Nat} {cur : (Nat → Nat) → List Value} {v v0 : (Nat → Nat) → Value} {t : TypeId} (j : Nat) (li : (Nat → Nat) → List (Nat × Value)) (hfr : ∀ g a, AoKn ops a0 N val adr i g a → FrIs a (li g)) (hsz : (P.info? ty).map (·.size) = some 1) (hj : ∀ b g, AoB ops i b → (L b g)[j]? = some (.arr (gb g) t (cur g)))
 (hw : ∀ g X, Region.wanted o (yielded ops (lit N X (li g)).tmps) = true) (ho : o.op = .store ty x y) (hx : ∀ g X, (lit N X (li g)).eval x = .pointer (some ⟨gb g, k, none⟩)) (hy : ∀ g X, (lit N X (li g)).eval y = v g)
 (hk : ∀ g, (cur g)[k]? = some (v0 g)) (hv : ∀ g, (v g).cells = #[v g]) (h1 : ∀ g, (v g).oneCell' = true) (hL : ∀ b g, AoB ops i b → L (upd b i true) g = (L b g).set j (.arr (gb g) t ((cur g).set k (v g)))) (hd : o.dst = none) : AoStep P ops Q w0 a0 N val adr L i o := by
 intro b g a w hb hp hp2 hkn hm
 obtain ⟨X, rfl⟩ := frLit (⟨hkn.size, hkn.defers, hfr g a hkn⟩ : Fr a N (li g))
 have hj' := hj b g ⟨hb, hp, hp2⟩
 refine stCellG x y hsz (hw g X) ho (hx g X) (hy g X) (hm.arr j hj') (hk g) (hv g) (h1 g) fun w' hA hG => ⟨g i, ?_, ?_⟩
 ·rw [hd]; rfl
 ·rw [upd_self, hL b g ⟨hb, hp, hp2⟩]; exact hm.set j hj' hA hG
def bsel {α : Type} (b : Bool) (x y : α) : α := match b with
 | true => x
 | false => y
theorem bselT {α : Type} {b : Bool} (h : b = true) (x y : α) : bsel b x y = x := by subst h; rfl
theorem bselF {α : Type} {b : Bool} (h : b = false) (x y : α) : bsel b x y = y := by subst h; rfl
def aoV (l : List (List Nat → Value)) (i : Nat) (γ : List Nat) : Value := match l, i with
 | [], _ => undef
 | f :: _, 0 => f γ
 | _ :: l, i + 1 => aoV l i γ
def aoA (l : List (List Nat)) (i : Nat) : List Nat := match l, i with
 | [], _ => []
 | x :: _, 0 => x
 | _ :: l, i + 1 => aoA l i
theorem Mem.perm {M M' : List Res} (h : Mem w0 w M) (p : M.Perm M') : Mem w0 w M' := ⟨h.bel, fun r hr => h.each r (p.mem_iff.2 hr), p.pairwise h.apart (fun h => h.symm)⟩
theorem perm_insertIdx_ {α : Type} (r : α) : ∀ (k : Nat) (M : List α), k ≤ M.length → (M.insertIdx k r).Perm (r :: M)
 | 0, M, _ => by simp
 | k + 1, [], h => by simp at h
 | k + 1, x :: M, h => by
  rw [List.insertIdx_succ_cons]
  exact ((perm_insertIdx_ r k M (by simpa using h)).cons x).trans (List.Perm.swap r x M)
theorem Mem.insAt {M : List Res} {r : Res} (k : Nat) (h : Mem w0 w (M ++ [r])) (hk : k ≤ M.length := by simp) : Mem w0 w (M.insertIdx k r) :=
 h.perm (List.perm_append_comm.trans (perm_insertIdx_ r k M hk).symm)
theorem roundsStart {c : Code} (n : Nat) (h : c.wp P (Exit.then (Code.rounds P c Q n) Q) a w) : (Code.loop c).wp P Q a w := wp_loop_rounds (n + 1) h
theorem roundsNext {c : Code} {n : Nat} (h : c.wp P (Exit.then (Code.rounds P c Q n) Q) a w) : Code.rounds P c Q (n + 1) a w := h
end
section
variable {P : Program} {w w0 : World} {ops : Array Oper} {rest : List Oper} {o : Oper} {a : Act} {Q : Exit → Act → World → Prop}
theorem appRB {t e : TypeId} {z : Value} {size bytes base B n m c : Nat} {v : Value} {A : Option Addr} {xs ys : List Value} (s x : Operand) (T : SlTy P t e z size bytes) (hgd : Region.wanted o (yielded ops a.tmps) = true)
 (ho : o.op = .call { callee := .builtin .append, args := #[s, x], argTypes := #[t, t] })
 (hs : a.eval s = v) (hx : a.eval x = .slice A m c)
 (hown : w.ownsRow base e size v n xs) (hr : Rd w B size A m c ys) (hone : ∀ u ∈ ys, u.oneCell' = true) (hsz : base ≤ w.heap.size)
 (hn : n + m ≤ 70368744177664) (hby : (n + m) * bytes ≤ 140737488355328)
 (h : ∀ v' w', w'.ownsRow base e size v' (n + m) (xs ++ ys) → w.grownBy w' v.ownBlock → SameOrNew v v' w.heap.size → wpList P ops Q rest (a.put o.dst v') w') :
 wpList P ops Q (o :: rest) a w := by
 obtain ⟨i, hi, hz0, hz1, hz2⟩ := info_parts T.inf
 have hpos := T.pos
 by_cases hm : m = 0
 ·subst hm
  have hy : ys = [] := List.eq_nil_of_length_eq_zero (by have := hr.len; simpa using this)
  subst hy
  have hrun : (Builtin.append_ #[t, t] o.type #[v, .slice A 0 c]).run P w = .ok v w := by
   rcases hown.2 with ⟨rfl, rfl⟩ | ⟨g, cap, cur, rfl, _, _, hnc, _⟩
   ·cases A <;> simp [Builtin.append_, run_underlying T.und, sizeOf, typeInfo, hi, Builtin.lenOf, Builtin.firstCells, loadCells, loadCellsFrom]
   ·cases A <;> simp [Builtin.append_, run_underlying T.und, sizeOf, typeInfo, hi, Builtin.lenOf, Builtin.firstCells, hnc, storeCells, loadCells, loadCellsFrom]
  refine wpList_want hgd fun K hK => ?_
  unfold Oper.wp execOp
  simp only [ho, resolve, invoke, builtin, Sem.run_bind, Sem.run_pure, Result.andThen_ok, List.map_toArray, List.map_cons, List.map_nil, hs, hx, hrun]
  exact hK _ _ (h v w (by simpa using hown) (World.grownBy.refl _ _) (Or.inl rfl))
 ·have hpm : 0 < m * size := Nat.mul_pos (by omega) hpos
  obtain ⟨b, off, rfl, hlt, hc⟩ := hr.cells hpm
  have hnews : ∀ j y, ys[j]? = some y → w.cell? ((⟨b, off, none⟩ : Addr).add j) = some y := by
   intro j y hj
   have := hc j y hj
   have hadd : (⟨b, off, none⟩ : Addr).add j = ⟨b, off + j, none⟩ := by unfold Addr.add; split <;> simp_all
   rwa [hadd]
  have hbl : ∀ k, v.ownBlock = some k → base ≤ k := fun k hk => (hown.lt k hk).1
  have hly : ys.length = m * size := hr.len
  obtain ⟨v', w', hr1, h2, h3, _⟩ := run_append_own (P := P) w base t o.type e i z size bytes T.und hi hz0 hz1 hz2 T.zs T.pos v n xs hown ⟨b, off, none⟩ m c ys hly hnews hone (by unfold maxLen; omega) hby hsz
  have hS : SameOrNew v v' w.heap.size := by
   rcases hown.2 with ⟨rfl, rfl⟩ | ⟨k, cap, cur, rfl, hbg, hg, hnc, hcm, hcs, htake⟩
   ·have hr2 := run_append_nil (P := P) w t o.type e i z T.und hi hz0 ⟨b, off, none⟩ m c ys (by rw [hz1]; exact hly) hnews (by omega) (by omega) (by have hb := hby; simp only [Nat.zero_add] at hb; rw [hz2]; omega)
    rw [hr2] at hr1
    injection hr1 with e1 e2
    subst e1
    exact Or.inr ⟨_, rfl, Nat.le_refl _⟩
   ·by_cases hroom : n + m ≤ cap
    ·have hr2 := run_append_room (P := P) w t o.type e i T.und hi k n cap cur hg ⟨b, off, none⟩ m c ys (by rw [hz1]; exact hly) hnews hone hroom (by rw [hz1, hcs]; have := Nat.mul_le_mul_right size hroom; rw [Nat.add_mul] at this; omega)
     rw [hr2] at hr1
     injection hr1 with e1 e2
     subst e1
     exact Or.inl rfl
    ·have hr2 := run_append_grow (P := P) w t o.type e i z T.und hi hz0 ⟨k, 0, none⟩ n cap xs (by rw [hz1]; exact hown.1) (hown.cells (g := k) rfl) ⟨b, off, none⟩ m c ys (by rw [hz1]; exact hly) hnews (by omega) (by omega) (growslice_fits (by omega) (by rw [hz2]; exact hby))
     rw [hr2] at hr1
     injection hr1 with e1 e2
     subst e1
     exact Or.inr ⟨_, rfl, Nat.le_refl _⟩
  refine wpList_want hgd fun K hK => ?_
  unfold Oper.wp execOp
  simp only [ho, resolve, invoke, builtin, Sem.run_bind, Sem.run_pure, Result.andThen_ok, List.map_toArray, List.map_cons, List.map_nil, hs, hx, hr1]
  exact hK _ _ (h v' w' h2 h3 hS)
theorem lit0 {t e : TypeId} {z : Value} {size bytes : Nat} {parts : Array (Nat × Operand)} (T : SlTy P t e z size bytes) (hgd : Region.wanted o (yielded ops a.tmps) = true) (ho : o.op = .buildSlice t 0 parts) (hp : parts = #[])
 (h : ∀ w', w'.ownsRow w.heap.size e size (.slice (some ⟨w.heap.size, 0, none⟩) 0 0) 0 [] → Below w.heap.size w w' → wpList P ops Q rest (a.put o.dst (.slice (some ⟨w.heap.size, 0, none⟩) 0 0)) w') : wpList P ops Q (o :: rest) a w := by
 obtain ⟨i, hi, hz0, hz1, hz2⟩ := info_parts T.inf
 subst hp
 have hrun : (Instr.buildSlice t 0 #[]).run P w = .ok (.slice (some ⟨w.heap.size, 0, none⟩) 0 0) (w.alloc (.cells #[] e)) := by
  have hr0 : Array.range 0 = #[] := by apply Array.ext <;> simp
  simp [Instr.buildSlice, run_underlying T.und, sizeOf, typeInfo, hi, Instr.fill, newRow, hr0]
 refine wpList_want hgd fun K hK => ?_
 unfold Oper.wp execOp
 simp only [ho, Array.map_empty, Sem.run_bind, hrun, Result.andThen_ok]
 exact hK _ _ (h _ (World.ownsRow_lit (base := w.heap.size) (e := e) (size := size) w #[] 0 (Nat.le_refl _) (by unfold maxLen; omega) (by simp)) ((Below.refl _ _).alloc (Nat.le_refl _) _))
theorem sliceL_eq {t e : TypeId} {z : Value} {size bytes B n c V : Nat} {A : Option Addr} {xs : List Value} (T : SlTy P t e z size bytes) (hr : Rd w B size A n c xs) (h2 : V ≤ n) :
 ∃ A', Rd w B size A' (n - V) (c - V) (xs.drop (V * size)) ∧ ∀ w' : World, (Instr.sliceAt t (.slice A n c) (some (.int .i64 (V : Int))) none none).run P w' = .ok (.slice A' (n - V) (c - V)) w' := by
 obtain ⟨i, hi, hz0, hz1, hz2⟩ := info_parts T.inf
 have hle := hr.le
 have ht : P.underlying t = some (.slice (P.elem t)) := by rw [T.und]; simp [Program.elem, T.und]
 have he : P.elem t = e := by have := T.und; rw [this] at ht; injection ht with ht; injection ht with ht; exact ht.symm
 have hrun := fun w' => run_slice_l (P := P) w' t A n c ht .i64 (V : Int) (by omega) (by omega)
 have hcut := hr.cut (lo := V) (hi := n) (m := c) (by omega) (by omega) (by omega) (by omega)
 have hl : (xs.drop (V * size)).length = (n - V) * size := by rw [List.length_drop, hr.len, Nat.sub_mul]
 rw [List.take_of_length_le (by omega)] at hcut
 refine ⟨_, hcut, fun w' => ?_⟩
 simp only [run_sliceAt_slice w' t _ _ _ _ ht, hrun w', he, sizeOf, typeInfo, Int.toNat_natCast, sliced]
 simp [hi, hz1]
theorem sliceHRun {t : TypeId} {A A' : Option Addr} {n c V : Nat} {k : Int} (x y : Operand) (hs : ∀ w' : World, (Instr.sliceAt t (.slice A n c) none (some (.int .i64 (V : Int))) none).run P w' = .ok (.slice A' V c) w') (ho : o.op = .slice t x none (some y) none) (hx : a.eval x = .slice A n c) (hy : a.eval y = .int .i64 k) (hk : k = (V : Int)) :
 (execOp a.eval o).run P w = .ok (.value (.slice A' V c)) w := by
 subst hk
 unfold execOp
 simp only [ho, hx, hy, Option.map_some, Option.map_none, Sem.run_bind, hs, Result.andThen_ok, Sem.run_pure]
theorem sliceLRun {t : TypeId} {A A' : Option Addr} {n c V n' c' : Nat} {k : Int} (x y : Operand) (hs : ∀ w' : World, (Instr.sliceAt t (.slice A n c) (some (.int .i64 (V : Int))) none none).run P w' = .ok (.slice A' n' c') w') (ho : o.op = .slice t x (some y) none none) (hx : a.eval x = .slice A n c) (hy : a.eval y = .int .i64 k) (hk : k = (V : Int)) :
 (execOp a.eval o).run P w = .ok (.value (.slice A' n' c')) w := by
 subst hk
 unfold execOp
 simp only [ho, hx, hy, Option.map_some, Option.map_none, Sem.run_bind, hs, Result.andThen_ok, Sem.run_pure]
end
section
variable {P : Program} {ops : Array Oper} {Q : Exit → Act → World → Prop} {a : Act} {w w0 : World} {o : Oper} {L : List Res} {i : Nat}
theorem plAppR {s x : Operand} {t e : TypeId} {z : Value} {size bytes n m c : Nat} {A : Option Addr} {v : Value} {xs ys : List Value} (j : Nat) (T : SlTy P t e z size bytes) (hm : Mem w0 w L) (hj : L[j]? = some (.row v e size n xs)) (hr : Rd w w.heap.size size A m c ys) (hi : ops.toList[i]? = some o) (hw : Region.wanted o (yielded ops a.tmps) = true)
 (ho : o.op = .call { callee := .builtin .append, args := #[s, x], argTypes := #[t, t] }) (hs : a.eval s = v) (hx : a.eval x = .slice A m c) (hone : ∀ u ∈ ys, u.oneCell' = true)
 (hn : n + m ≤ 70368744177664) (hby : (n + m) * bytes ≤ 140737488355328)
 (h : ∀ v' w', Mem w0 w' (L.set j (.row v' e size (n + m) (xs ++ ys))) → PL P ops Q (i + 1) (a.put o.dst v') w') : PL P ops Q i a w :=
 plOf hi (appRB s x T hw ho hs hx (hm.row j hj) hr hone hm.bel.size hn hby fun v' w' h1 h2 h3 => (h v' w' (hm.app j hj h1 h2 h3)).out)
theorem plLit0 {t e : TypeId} {z : Value} {size bytes : Nat} {parts : Array (Nat × Operand)} (T : SlTy P t e z size bytes) (hm : Mem w0 w L) (hi : ops.toList[i]? = some o) (hw : Region.wanted o (yielded ops a.tmps) = true) (ho : o.op = .buildSlice t 0 parts) (hp : parts = #[])
 (h : ∀ g w', Mem w0 w' (L ++ [.row (.slice (some ⟨g, 0, none⟩) 0 0) e size 0 []]) → PL P ops Q (i + 1) (a.put o.dst (.slice (some ⟨g, 0, none⟩) 0 0)) w') : PL P ops Q i a w :=
 plOf hi (lit0 T hw ho hp fun w' h1 h2 => (h _ w' (hm.newRow h2 h1)).out)
theorem Mem.rowEq {v : Value} {e : TypeId} {size n n' : Nat} {xs xs' : List Value} (j : Nat) (h : Mem w0 w L) (hj : L[j]? = some (.row v e size n xs)) (hn : n = n') (hx : xs = xs') : Mem w0 w (L.set j (.row v e size n' xs')) := by
 subst hn; subst hx
 have : L.set j (.row v e size n xs) = L := by
  obtain ⟨hl, he⟩ := List.getElem?_eq_some_iff.1 hj
  rw [← he]; simp
 rw [this]; exact h
theorem Mem.rowSl {v : Value} {e : TypeId} {size n : Nat} {xs : List Value} (j : Nat) (h : Mem w0 w L) (hj : L[j]? = some (.row v e size n xs)) : ∃ A c, v = .slice A n c := by
 obtain ⟨A, c, e1, _⟩ := Rd.of_own (h.row j hj)
 exact ⟨A, c, e1⟩
end
section
variable {P : Program} {ops : Array Oper} {Q : Exit → Act → World → Prop} {a : Act} {w w0 : World} {o : Oper} {L : List Res} {i : Nat} {rest : List Oper}
end
end Go.Proofs.YtgjgjimgomhbmaaGreatDoor
namespace Go.Proofs.YtgjgjimgomhbmaaGreatDoor
open Go.RowKit
open Go.Maps (Keyed)
open Go.WideElems (Fit rd rg pl rd_key rd_val rg_of)
open Go.ChangeMaps (putKey notKey setBlock mem_insert_iff)
open Classical in
section
variable {P : Program} {k e t : TypeId} {g n : Nat} {F : Value → Option Value} {w : World}
end
section
variable {P : Program} {ops : Array Oper} {Q : Exit → Act → World → Prop} {a : Act} {w w0 : World} {o : Oper} {L : List Res} {i : Nat} {k e t : TypeId} {g n : Nat} {F : Value → Option Value} {rest : List Oper}
variable {fuel : Nat} {listed : Array Bool} {M : List Res}
end
end Go.Proofs.YtgjgjimgomhbmaaGreatDoor
