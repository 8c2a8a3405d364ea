/-
  MD: several texts in one: SliceEq, Reg2, Two, Bridge, Sized, PadKey, RefOf, Enc2, EncD, EncD2, DecSpec, GetInt, GetIntRef, WireMath. No statement is proved here.
-/
import Derived.Test.YtienlndjhcmemaaDoorMA
import Derived.ProofKit
import Derived.OpenShut
import Derived.Deep.Slices
import Derived.SizedLaws
import Derived.Deep.CondSized
import Derived.Test.YtienlndjhcmemaaDoorMC
import Derived.Deep.DeepCutAuto
/-
  's[:hi]' in whatever world, as an equation: for regions that draw their order. No statement is proved here.
-/
namespace Go.Proofs.YtienlndjhcmemaaDoor
open Go.RowKit

theorem sliceH_eq {P : Program} {w : World} {t e : TypeId} {z : Value} {size bytes B n c V : Nat} {A : Option Addr} {xs : List Value} (T : SlTy P t e z size bytes) (hr : Rd w B size A n c xs) (h2 : V ≤ n) :
    ∃ A', Rd w B size A' V c (xs.take (V * size)) ∧ ∀ w' : World, (Instr.sliceAt t (.slice A n c) none (some (.int .i64 (V : Int))) none).run P w' = .ok (.slice A' V c) w' := by
  obtain ⟨i, hi, hz0, hz1, hz2⟩ := info_parts T.inf
  have hle := hr.le
  have ht : P.underlying t = some (.slice (P.elem t)) := by rw [T.und]; simp [Program.elem, T.und]
  have he : P.elem t = e := by have := T.und; rw [this] at ht; injection ht with ht; injection ht with ht; exact ht.symm
  have hrun := fun w' => run_slice_h (P := P) w' t A n c ht .i64 (V : Int) (by omega) (by omega)
  have hcut := hr.cut (lo := 0) (hi := V) (m := c) (by omega) (by omega) (by omega) (by omega)
  simp only [Nat.sub_zero, Nat.zero_mul, List.drop_zero] at hcut
  refine ⟨_, hcut, fun w' => ?_⟩
  simp only [run_sliceAt_slice w' t _ _ _ _ ht, hrun w', he, sizeOf, typeInfo, Int.toNat_natCast, sliced]
  simp [hi, hz1]
end Go.Proofs.YtienlndjhcmemaaDoor
/-
  More operations taken first, by hand. No statement is proved here.
-/
namespace Go.Proofs.YtienlndjhcmemaaDoor
open Go.RowKit

section
variable {P : Program} {ops : Array Oper} {Q : Exit → Act → World → Prop} {S : World → Prop} {listed : Array Bool} {a : Act} {w : World} {fuel : Nat}
/-- 's[:hi]', first. -/
theorem rgSliceH {i : Nat} {o : Oper} {t : TypeId} {A A' : Option Addr} {n V c : Nat} (x y : Operand) (hs : ∀ w' : World, (Instr.sliceAt t (.slice A n c) none (some (.int .i64 (V : Int))) none).run P w' = .ok (.slice A' V c) w')
    (hi : ops.toList[i]? = some o) (hm : mayFirst ops listed i = true) (hw : Region.wanted o (yielded ops a.tmps) = true) (hQ : ∀ c' a w, Q (.panic c') (a.put o.dst (.slice A' V c)) w → Q (.panic c') a w)
    (ho : o.op = .slice t x none (some y) none) (hx : a.eval x = .slice A n c) (hy : a.eval y = .int .i64 (V : Int)) (hS : S w)
    (h : wpAnyH P .any ops Q S fuel (listed.setIfInBounds i true) (a.put o.dst (.slice A' V c)) w) : wpAnyH P .any ops Q S (fuel + 1) listed a w := by
  refine rgTake hi hm hw hQ (fun w _ => ?_) hS h
  unfold execOp
  simp only [ho, Option.map_none, Option.map_some, hx, hy, Sem.run_bind, Sem.run_pure, hs w, Result.andThen_ok]
/-- '==' on texts, first. -/
theorem rgEqStr {i : Nat} {o : Oper} {t ty : TypeId} (x y : Operand) (xs ys : List UInt8) (b : Bool) (hb : (xs == ys) = b)
    (hi : ops.toList[i]? = some o) (hm : mayFirst ops listed i = true) (hw : Region.wanted o (yielded ops a.tmps) = true) (hQ : ∀ c' a w, Q (.panic c') (a.put o.dst (.bool b)) w → Q (.panic c') a w)
    (ho : o.op = .binOp .eql t x y ty) (hx : a.eval x = .string ⟨xs.toArray⟩) (hy : a.eval y = .string ⟨ys.toArray⟩) (hS : S w)
    (h : wpAnyH P .any ops Q S fuel (listed.setIfInBounds i true) (a.put o.dst (.bool b)) w) : wpAnyH P .any ops Q S (fuel + 1) listed a w := by
  refine rgTake hi hm hw hQ (fun w _ => ?_) hS h
  unfold execOp
  simp [ho, hx, hy, eqGuard, binOp_string_eql, hb]
end
end Go.Proofs.YtienlndjhcmemaaDoor
/-
  Two operations that may come up in either order, each shown once. No statement is proved here.
-/
namespace Go.Proofs.YtienlndjhcmemaaDoor
open Go.RowKit

section
variable {P : Program} {ops : Array Oper} {Q : Exit → Act → World → Prop} {S : World → Prop} {listed : Array Bool} {a : Act} {w : World} {fuel : Nat}
theorem rgTwo {i j : Nat} {oi oj : Oper} (Gi Gj : Value → World → Prop) (mi : ∀ v w w', Gi v w → Ext w w' → Gi v w') (mj : ∀ v w w', Gj v w → Ext w w' → Gj v w')
    (hr : Region.ready .any ops listed = [i, j]) (hi' : ops.toList[i]? = some oi) (hj' : ops.toList[j]? = some oj)
    (hri : Region.ready .any ops (listed.setIfInBounds i true) = [j]) (hrj : Region.ready .any ops (listed.setIfInBounds j true) = [i])
    (hd : oi.dst ≠ oj.dst) (hij : i ≠ j) (hS : ∀ w', Ext w w' → S w')
    (hsi : ∀ a' w', (a' = a ∨ ∃ v, a' = a.put oj.dst v) → Ext w w' → wpList P ops (Exit.then (fun a'' w'' => ∃ v, a'' = a'.put oi.dst v ∧ Ext w' w'' ∧ Gi v w'') Q) [oi] a' w')
    (hsj : ∀ a' w', (a' = a ∨ ∃ v, a' = a.put oi.dst v) → Ext w w' → wpList P ops (Exit.then (fun a'' w'' => ∃ v, a'' = a'.put oj.dst v ∧ Ext w' w'' ∧ Gj v w'') Q) [oj] a' w')
    (h : ∀ vi vj w', Gi vi w' → Gj vj w' → Ext w w' → wpAnyH P .any ops Q S fuel ((listed.setIfInBounds i true).setIfInBounds j true) ((a.put oi.dst vi).put oj.dst vj) w') :
    wpAnyH P .any ops Q S (fuel + 2) listed a w := by
  have hi : ops[i]? = some oi := by rw [← hi']; simp
  have hj : ops[j]? = some oj := by rw [← hj']; simp
  refine wpAnyH_all hr (by simp) fun k hk => ?_
  rcases List.mem_cons.1 hk with rfl | hk
  · refine wpOp_mono (fun a1 w1 h1 => ?_) (wpOp_of_list hi (hsi a w (Or.inl rfl) (Below.refl _ _)))
    obtain ⟨vi, rfl, hE1, g1⟩ := h1
    refine ⟨hS _ hE1, wpAnyH_all hri (by simp) fun m hm => ?_⟩
    rw [List.mem_singleton] at hm
    subst hm
    refine wpOp_mono (fun a2 w2 h2 => ?_) (wpOp_of_list hj (hsj _ w1 (Or.inr ⟨vi, rfl⟩) hE1))
    obtain ⟨vj, rfl, hE2, g2⟩ := h2
    exact ⟨hS _ (Ext.trans' hE1 hE2), h _ _ _ (mi _ _ _ g1 hE2) g2 (Ext.trans' hE1 hE2)⟩
  · rw [List.mem_singleton] at hk
    subst hk
    refine wpOp_mono (fun a1 w1 h1 => ?_) (wpOp_of_list hj (hsj a w (Or.inl rfl) (Below.refl _ _)))
    obtain ⟨vj, rfl, hE1, g1⟩ := h1
    refine ⟨hS _ hE1, wpAnyH_all hrj (by simp) fun m hm => ?_⟩
    rw [List.mem_singleton] at hm
    subst hm
    refine wpOp_mono (fun a2 w2 h2 => ?_) (wpOp_of_list hi (hsi _ w1 (Or.inr ⟨vj, rfl⟩) hE1))
    obtain ⟨vi, rfl, hE2, g2⟩ := h2
    have hE := Ext.trans' hE1 hE2
    refine ⟨hS _ hE, ?_⟩
    rw [Act.put_comm a _ _ (fun d e1 e2 => hd (e2.trans e1.symm)), Array.setIfInBounds_comm _ _ (Ne.symm hij)]
    exact h _ _ _ g2 (mj _ _ _ g1 hE2) hE
end
end Go.Proofs.YtienlndjhcmemaaDoor
/-
  From an argument as a claim reads it to the words of the walks: what a slice reads as, element by element. No statement is proved here.
-/
namespace Go.Proofs.YtienlndjhcmemaaDoor
open Go.RowKit Go.ChangeShapes Go.WideShapes

section
variable {H : Type} {enc : TypeId × Value → H} {P : Program} {w : World} {base : Nat} {held : Bool}

theorem chunk_get {α : Type} (f : Nat → List α) (n s : Nat) (hs : 0 < s) (hl : ∀ i, i < n → (f i).length = s) (j : Nat) (u : α) (h : ((List.range n).flatMap f)[j]? = some u) :
    j / s < n ∧ (f (j / s))[j % s]? = some u := by
  induction n generalizing j with
  | zero => simp at h
  | succ n ih =>
    rw [List.range_succ, List.flatMap_append] at h
    have hlen : ((List.range n).flatMap f).length = n * s := by
      clear h ih
      induction n with
      | zero => simp
      | succ n ih2 =>
        rw [List.range_succ, List.flatMap_append, List.length_append, ih2 (fun i hi => hl i (by omega))]
        simp [hl n (by omega), Nat.add_mul]
    rcases Nat.lt_or_ge j (n * s) with hj | hj
    · rw [List.getElem?_append_left (by omega)] at h
      obtain ⟨h1, h2⟩ := ih (fun i hi => hl i (by omega)) j h
      exact ⟨by omega, h2⟩
    · rw [List.getElem?_append_right (by omega), hlen] at h
      simp only [List.flatMap_cons, List.flatMap_nil, List.append_nil] at h
      have hlt : j - n * s < s := by
        have := (List.getElem?_eq_some_iff.1 h).1
        rw [hl n (by omega)] at this; exact this
      have hd : j / s = n := by
        rw [show j = (j - n * s) + n * s from by omega, Nat.add_mul_div_right _ _ hs, Nat.div_eq_of_lt hlt, Nat.zero_add]
      have hm : j % s = j - n * s := by
        rw [show j = (j - n * s) + n * s from by omega, Nat.add_mul_mod_self_right, Nat.mod_eq_of_lt hlt]; omega
      rw [hd, hm]
      exact ⟨by omega, h⟩

/-- A slice that came in, its elements of one type, each of s cells. -/
theorem br_slice {α : Type} {t e : TypeId} {s : Nat} (f : α → List Value) (R : α → DataW H → Prop) (ht : P.underlying t = some (.slice e)) (hs : P.cellsOf e = s) (hpos : 0 < s)
    (el : ∀ fuel cs' d pl, cs'.length = s → DataW.trod enc P w base (fun _ => true) held fuel e cs' = some (d, pl) → ∃ x : α, cs' = f x ∧ R x d)
    {fuel : Nat} {cs : List Value} {x : DataW H × List MemPlace} (h : DataW.trod enc P w base (fun _ => true) held fuel t cs = some x) :
    ∃ (A : Option Addr) (n c : Nat) (xs : List α) (D sp : List (DataW H)), cs = [.slice A n c] ∧ xs.length = n ∧ Rd w w.heap.size s A n c (xs.flatMap f) ∧
      (∀ y ∈ xs, (f y).length = s) ∧ (x.1 = .slice D sp ∨ x.1 = .nil ∧ n = 0) ∧ D.length = n ∧ (∀ (i : Nat) (y : α), xs[i]? = some y → ∃ d, D[i]? = some d ∧ R y d) := by
  rcases Deep.open_slice ht h with ⟨rfl, rfl⟩ | ⟨a, len, cap, m, k, D, Pl, rfl, hb, hl, hm, hmc, rfl, hel⟩
  · exact ⟨none, 0, 0, [], [], [], rfl, rfl, Rd.nil _ _ _, by simp, Or.inr ⟨rfl, rfl⟩, rfl, by simp⟩
  · simp only [if_true] at hmc
    subst hmc
    by_cases h0 : len = 0
    · subst h0
      exact ⟨some a, 0, m, [], [], _, rfl, rfl, ⟨by simp, Nat.zero_le _, hm, fun hh => absurd hh (by omega)⟩, by simp, Or.inl rfl, rfl, by simp⟩
    have each : ∀ i, i < len → ∃ y : α, w.cells? base (a.add (i * s)) s = some (f y) ∧ (f y).length = s ∧ R y (D i) := by
      intro i hi
      obtain ⟨cs', hc, ht'⟩ := hel i (by omega)
      rw [hs] at hc
      have hcl := (World.cells?_some hc).2.1
      obtain ⟨y, rfl, hR⟩ := el k cs' _ _ hcl ht'
      exact ⟨y, hc, hcl, hR⟩
    obtain ⟨y0, _⟩ := each 0 (by omega)
    have : Inhabited α := ⟨y0⟩
    obtain ⟨F, hF⟩ := Deep.choose_lt each
    obtain ⟨hc0, hl0, _⟩ := hF 0 (by omega)
    have hget : ∀ i, i < len → ∀ j u, (f (F i))[j]? = some u → w.cell? (a.add (i * s + j)) = some u := by
      intro i hi j u hj
      have hjl := (List.getElem?_eq_some_iff.1 hj).1
      rw [(hF i hi).2.1] at hjl
      have := (World.cells?_some (hF i hi).1).2.2 j hjl
      rw [hj, Deep.add_add] at this
      exact this
    have hspot : a = ⟨a.block, a.off, none⟩ := by
      obtain ⟨u, hu⟩ : ∃ u, (f (F 0))[0]? = some u := ⟨(f (F 0))[0]'(by omega), List.getElem?_eq_getElem (by omega)⟩
      have hc := hget 0 (by omega) 0 u hu
      rw [Nat.zero_mul, Nat.zero_add] at hc
      cases a with
      | mk b o spo =>
        cases spo with
        | none => rfl
        | some q =>
          exfalso
          simp only [Addr.add, if_true] at hc
          unfold World.cell? at hc
          split at hc <;> simp at hc
    have hadd : ∀ j, a.add j = ⟨a.block, a.off + j, none⟩ := by
      intro j
      unfold Addr.add
      split
      · rename_i hj; subst hj; exact hspot
      · rfl
    refine ⟨some a, len, m, (List.range len).map F, (List.range len).map D, _, rfl, by simp, ?_, ?_, Or.inl rfl, by simp, ?_⟩
    · have hfl : ((List.range len).map F).flatMap f = (List.range len).flatMap fun i => f (F i) := by rw [List.flatMap_map]
      rw [hfl]
      refine ⟨?_, hl, hm, fun _ => ⟨a.block, a.off, congrArg some hspot, ?_, fun j u hj => ?_⟩⟩
      · rw [List.length_flatMap]
        have e : (List.range len).map (fun i => (f (F i)).length) = (List.range len).map fun _ => s := List.map_congr_left fun i hi => (hF i (List.mem_range.1 hi)).2.1
        rw [e, List.map_const', List.length_range]; simp [List.sum_replicate_nat]
      · obtain ⟨u, hu⟩ : ∃ u, (f (F 0))[0]? = some u := ⟨(f (F 0))[0]'(by omega), List.getElem?_eq_getElem (by omega)⟩
        have hc := hget 0 (by omega) 0 u hu
        rw [hadd] at hc
        exact World.block_lt_of_cell? w ⟨a.block, _, none⟩ hc
      · obtain ⟨h1, h2⟩ := chunk_get (fun i => f (F i)) len s hpos (fun i hi => (hF i hi).2.1) j u hj
        have := hget _ h1 _ _ h2
        rw [hadd] at this
        rw [show j = j / s * s + j % s from (Nat.div_add_mod' j s).symm]
        exact this
    · intro y hy
      obtain ⟨i, hi, rfl⟩ := List.mem_map.1 hy
      exact (hF i (List.mem_range.1 hi)).2.1
    · intro i y hy
      rw [List.getElem?_map] at hy
      obtain ⟨i', hi', rfl⟩ := Option.map_eq_some_iff.1 hy
      have hlt : i < len := by
        have := (List.getElem?_eq_some_iff.1 hi').1
        simpa using this
      have : i' = i := by
        have h := List.getElem?_range hlt
        rw [h] at hi'; exact (Option.some.inj hi').symm
      subst this
      exact ⟨D i', by rw [List.getElem?_map, hi']; rfl, (hF i' hlt).2.2⟩

/-- An array of integers by value, or among cells. -/
theorem br_arr {t e : TypeId} {n : Nat} {k : IntKind} (ht : P.underlying t = some (.array n e)) (he : P.underlying e = some (.int k)) (hc : P.cellsOf e = 1) (hct : P.cellsOf t = n)
    {fuel : Nat} {cs : List Value} {x : DataW H × List MemPlace} {spare : Nat → Bool} (h : DataW.trod enc P w base spare held fuel t cs = some x) :
    ∃ zs : List Int, cs = zs.map (Value.int k) ∧ zs.length = n ∧ (∀ z ∈ zs, (Lit.int k z).wf = true) ∧ x = (.agg (zs.map fun z => .lit (.int k z)), []) := by
  obtain ⟨xs, m, _, rfl, hl, hxn, hel⟩ := DataW.trod_array ht h
  rw [hct] at hl
  have each : ∀ i, i < n → ∃ z, cs[i]? = some (.int k z) ∧ (Lit.int k z).wf = true ∧ xs[i]? = some (.lit (.int k z), []) := by
    intro i hi
    have h1 := hel i hi
    rw [hc, Nat.mul_one] at h1
    have hi' : i < cs.length := by omega
    have h2 : (cs.drop i).take 1 = [cs[i]] := by rw [List.drop_eq_getElem_cons hi']; rfl
    rw [h2] at h1
    have hi2 : i < xs.length := by omega
    rw [List.getElem?_eq_getElem hi2] at h1
    obtain ⟨z, hz1, hz2, hz3⟩ := DataW.trod_int he h1
    injection hz1 with hz1 _
    exact ⟨z, by rw [List.getElem?_eq_getElem hi', hz1], hz3, by rw [List.getElem?_eq_getElem hi2, hz2]⟩
  obtain ⟨F, hF⟩ := Deep.choose_lt each
  refine ⟨(List.range n).map F, ?_, by simp, ?_, ?_⟩
  · apply List.ext_getElem?
    intro i
    by_cases hi : i < n
    · rw [(hF i hi).1]; simp [hi]
    · rw [List.getElem?_eq_none (by omega), List.getElem?_eq_none (by simp; omega)]
  · intro z hz
    obtain ⟨i, hi, rfl⟩ := List.mem_map.1 hz
    exact (hF i (List.mem_range.1 hi)).2.1
  · have e : xs = (List.range n).map fun i => ((.lit (.int k (F i)), []) : DataW H × List MemPlace) := by
      apply List.ext_getElem?
      intro i
      by_cases hi : i < n
      · rw [(hF i hi).2.2]; simp [hi]
      · rw [List.getElem?_eq_none (by omega), List.getElem?_eq_none (by simp; omega)]
    rw [e]
    simp [Function.comp_def]

theorem flat_one {α β : Type} (f : α → β) : ∀ l : List α, l.map f = l.flatMap fun x => [f x]
  | [] => rfl
  | x :: l => by rw [List.map_cons, List.flatMap_cons, flat_one f l]; rfl
/-- A slice of integers that came in. -/
theorem br_ints {t e : TypeId} {k : IntKind} (ht : P.underlying t = some (.slice e)) (he : P.underlying e = some (.int k)) (hc : P.cellsOf e = 1) {a0 : Option Addr} {n0 c0 : Nat} {d : DataW H} {pl : List MemPlace}
    (h : DataW.Trod enc P w base (fun _ => true) held t (.slice a0 n0 c0) d pl) :
    ∃ (zs : List Int) (D sp : List (DataW H)), Rd w w.heap.size 1 a0 n0 c0 (zs.map (Value.int k)) ∧ (∀ z ∈ zs, (Lit.int k z).wf = true) ∧
      (d = .slice D sp ∨ d = .nil ∧ n0 = 0) ∧ D.length = n0 := by
  obtain ⟨fuel, hf⟩ := h
  obtain ⟨A, n, c, xs, D, sp, hcs, hn, hr, _, hd, hD, hR⟩ := br_slice (fun z => [Value.int k z]) (fun z (_ : DataW H) => (Lit.int k z).wf = true) ht hc (by decide)
    (fun fuel cs' d pl _ hh => by obtain ⟨z, rfl, _, hz⟩ := DataW.trod_int he hh; exact ⟨z, rfl, hz⟩) hf
  simp only [Value.cells, List.cons.injEq, Value.slice.injEq, and_true] at hcs
  obtain ⟨rfl, rfl, rfl⟩ := hcs
  refine ⟨xs, D, sp, ?_, ?_, hd, hD⟩
  · rw [show xs.map (Value.int k) = xs.flatMap fun z => [Value.int k z] from by rw [flat_one]]; exact hr
  · intro z hz
    obtain ⟨i, hi⟩ := List.getElem?_of_mem hz
    obtain ⟨_, _, h⟩ := hR i z hi
    exact h
theorem u8_list (zs : List Int) (h : ∀ z ∈ zs, (Lit.int .u8 z).wf = true) : zs.map (Value.int .u8) = bcs (zs.map fun z => UInt8.ofNat z.toNat) := by
  rw [bcs, List.map_map]
  refine List.map_congr_left fun z hz => ?_
  have hb := h z hz
  have hb' : 0 ≤ z ∧ z ≤ 255 := by simpa [Lit.wf, IntKind.min, IntKind.max, IntKind.signed, IntKind.bits] using hb
  simp only [Function.comp_def, bc]
  congr 1
  simp
  omega
/-- A slice of bytes that came in. -/
theorem br_bytes {t e : TypeId} (ht : P.underlying t = some (.slice e)) (he : P.underlying e = some (.int .u8)) (hc : P.cellsOf e = 1) {a0 : Option Addr} {n0 c0 : Nat} {d : DataW H} {pl : List MemPlace}
    (h : DataW.Trod enc P w base (fun _ => true) held t (.slice a0 n0 c0) d pl) :
    ∃ (l : List UInt8) (D sp : List (DataW H)), Rd w w.heap.size 1 a0 n0 c0 (bcs l) ∧ (d = .slice D sp ∨ d = .nil ∧ n0 = 0) ∧ D.length = n0 := by
  obtain ⟨zs, D, sp, hr, hz, hd, hD⟩ := br_ints ht he hc h
  exact ⟨_, D, sp, by rw [← u8_list zs hz]; exact hr, hd, hD⟩
/-- A slice of texts that came in. -/
theorem br_texts {t e : TypeId} (ht : P.underlying t = some (.slice e)) (he : P.underlying e = some .string) (hc : P.cellsOf e = 1) {a0 : Option Addr} {n0 c0 : Nat} {d : DataW H} {pl : List MemPlace}
    (h : DataW.Trod enc P w base (fun _ => true) held t (.slice a0 n0 c0) d pl) :
    ∃ (l : List (List UInt8)) (D sp : List (DataW H)), Rd w w.heap.size 1 a0 n0 c0 (l.map fun s => Value.string ⟨s.toArray⟩) ∧
      (d = .slice D sp ∨ d = .nil ∧ n0 = 0) ∧ D.length = n0 ∧ (∀ (i : Nat) (s : List UInt8), l[i]? = some s → D[i]? = some (.lit (.string s))) := by
  obtain ⟨fuel, hf⟩ := h
  obtain ⟨A, n, c, xs, D, sp, hcs, hn, hr, _, hd, hD, hR⟩ := br_slice (fun s : List UInt8 => [Value.string ⟨s.toArray⟩]) (fun s (d : DataW H) => d = .lit (.string s)) ht hc (by decide)
    (fun fuel cs' d pl _ hh => by
      obtain ⟨s, rfl, hx, _⟩ := DataW.trod_string he hh
      refine ⟨s.data.toList, by simp, ?_⟩
      injection hx) hf
  simp only [Value.cells, List.cons.injEq, Value.slice.injEq, and_true] at hcs
  obtain ⟨rfl, rfl, rfl⟩ := hcs
  refine ⟨xs, D, sp, ?_, hd, hD, ?_⟩
  · rw [show (xs.map fun s => Value.string ⟨s.toArray⟩) = xs.flatMap fun s => [Value.string ⟨s.toArray⟩] from by rw [flat_one]]; exact hr
  · intro i s hi
    obtain ⟨d', h1, rfl⟩ := hR i s hi
    exact h1
theorem bcs_flat (xs : List (List UInt8)) : xs.flatMap bcs = bcs xs.flatten := by
  rw [bcs, List.map_flatten, List.flatMap_def]; rfl
/-- A slice of digests that came in: its bytes, one digest behind the other. -/
theorem br_digs {t e b : TypeId} {s : Nat} (ht : P.underlying t = some (.slice e)) (he : P.underlying e = some (.array s b)) (hb : P.underlying b = some (.int .u8)) (hcb : P.cellsOf b = 1) (hc : P.cellsOf e = s) (hpos : 0 < s)
    {a0 : Option Addr} {n0 c0 : Nat} {d : DataW H} {pl : List MemPlace} (h : DataW.Trod enc P w base (fun _ => true) held t (.slice a0 n0 c0) d pl) :
    ∃ (l : List UInt8) (D sp : List (DataW H)), Rd w w.heap.size s a0 n0 c0 (bcs l) ∧ (d = .slice D sp ∨ d = .nil ∧ n0 = 0) ∧ D.length = n0 := by
  obtain ⟨fuel, hf⟩ := h
  obtain ⟨A, n, c, xs, D, sp, hcs, hn, hr, _, hd, hD, hR⟩ := br_slice bcs (fun _ (_ : DataW H) => True) ht hc hpos
    (fun fuel cs' d pl _ hh => by
      obtain ⟨zs, rfl, _, hz, _⟩ := br_arr he hb hcb hc hh
      exact ⟨_, u8_list zs hz, trivial⟩) hf
  simp only [Value.cells, List.cons.injEq, Value.slice.injEq, and_true] at hcs
  obtain ⟨rfl, rfl, rfl⟩ := hcs
  exact ⟨xs.flatten, D, sp, by rw [← bcs_flat]; exact hr, hd, hD⟩
/-- An array of bytes that came in by value. -/
theorem br_dig {t b : TypeId} {n : Nat} (ht : P.underlying t = some (.array n b)) (hb : P.underlying b = some (.int .u8)) (hcb : P.cellsOf b = 1) (hct : P.cellsOf t = n) {W : World} {r : Reach} {b0 : Nat} {v : Value} {d : DataW H} {pl : List MemPlace}
    (hval : Value.okWide P W r b0 t v) (h : DataW.Trod enc P w base (fun _ => true) held t v d pl) : ∃ l : List UInt8, v = .agg (bcs l).toArray ∧ l.length = n := by
  simp only [Value.okWide, ht] at hval
  obtain ⟨cs, rfl, _, _⟩ := hval
  obtain ⟨fuel, hf⟩ := h
  obtain ⟨zs, hcs, hl, hz, _⟩ := br_arr ht hb hcb hct hf
  refine ⟨zs.map fun z => UInt8.ofNat z.toNat, ?_, by rw [List.length_map]; exact hl⟩
  have h2 : cs.toList = zs.map (Value.int .u8) := hcs
  rw [← u8_list zs hz, ← h2]
/-- An array of integers that came in by value. -/
theorem br_arrI {t b : TypeId} {n : Nat} {k : IntKind} (ht : P.underlying t = some (.array n b)) (hb : P.underlying b = some (.int k)) (hcb : P.cellsOf b = 1) (hct : P.cellsOf t = n) {W : World} {r : Reach} {b0 : Nat} {v : Value} {d : DataW H} {pl : List MemPlace}
    (hval : Value.okWide P W r b0 t v) (h : DataW.Trod enc P w base (fun _ => true) held t v d pl) : ∃ l : List Int, v = .agg (l.map (Value.int k)).toArray ∧ l.length = n ∧ ∀ z ∈ l, (Lit.int k z).wf = true := by
  simp only [Value.okWide, ht] at hval
  obtain ⟨cs, rfl, _, _⟩ := hval
  obtain ⟨fuel, hf⟩ := h
  obtain ⟨zs, hcs, hl, hz, _⟩ := br_arr ht hb hcb hct hf
  have h2 : cs.toList = zs.map (Value.int k) := hcs
  exact ⟨zs, by rw [← h2], hl, hz⟩
end
end Go.Proofs.YtienlndjhcmemaaDoor
/-
  What the bound on sizes gives for the elements of a []string. No statement is proved here.
-/
namespace Go.Proofs.YtienlndjhcmemaaDoor
open Go.RowKit
theorem weightsAll_mem {H : Type} {P : Program} {e : TypeId} {n : Nat} {d : DataW H} : ∀ {l : List (DataW H)} {i : Nat}, l[i]? = some d → n ∈ d.weights P e → n ∈ DataW.weightsAll P e l
  | [], i, h, _ => by simp at h
  | x :: r, 0, h, hn => by
    simp only [List.getElem?_cons_zero, Option.some.injEq] at h
    subst h
    rw [DataW.weightsAll]
    exact List.mem_append_left _ hn
  | x :: r, i + 1, h, hn => by
    rw [DataW.weightsAll]
    exact List.mem_append_right _ (weightsAll_mem (by simpa using h) hn)
theorem texts_sized {H : Type} {P : Program} {ts : List TypeId} {ds : List (DataW H)} (h : (DataW.weightsEach P ts ds).all (· ≤ reachBytes) = true) {j : Nat} {t e : TypeId} {D sp : List (DataW H)} (ht : ts[j]? = some t) (hd : ds[j]? = some (.slice D sp)) (hu : P.underlying t = some (.slice e))
    {z : List (List UInt8)} (hE : ∀ (i : Nat) (s : List UInt8), z[i]? = some s → D[i]? = some (.lit (.string s))) : ∀ y ∈ z, y.length ≤ 140737488351232 := by
  intro y hy
  obtain ⟨i, hi⟩ := List.getElem?_of_mem hy
  have hm : y.length ∈ (DataW.slice D sp).weights P t := by
    simp only [DataW.weights, hu]
    refine List.mem_cons_of_mem _ (List.mem_append_left _ (weightsAll_mem (hE i y hi) ?_))
    simp [DataW.weights]
  have := List.all_eq_true.1 h _ (DataW.weights_mem_each ht hd y.length hm)
  exact of_decide_eq_true this
end Go.Proofs.YtienlndjhcmemaaDoor
/-
  padKey of the specification.
-/
namespace Go.Proofs.YtienlndjhcmemaaDoor
open Go.RowKit

theorem xorPad_next {k : List UInt8} {i : Nat} {b : UInt8} (x : UInt8) (h : (keyPad k)[i]? = some b) : bcs ((xorPad k x).take i) ++ [bc (b ^^^ x)] = bcs ((xorPad k x).take (i + 1)) := by
  have h2 : (xorPad k x)[i]? = some (b ^^^ x) := by unfold xorPad; rw [List.getElem?_map, h]; rfl
  rw [bcs_snoc, take_next h2]
theorem keyPad_lo {k : List UInt8} {i : Nat} (h : i < k.length) : (keyPad k)[i]? = some k[i] := by
  unfold keyPad
  rw [List.getElem?_append_left h, List.getElem?_eq_getElem h]
theorem keyPad_hi {k : List UInt8} {i : Nat} (h : k.length ≤ i) (h64 : i < 64) : (keyPad k)[i]? = some 0 := by
  unfold keyPad
  rw [List.getElem?_append_right h, List.getElem?_replicate, if_pos (by omega)]
set_option maxRecDepth 100000 in
set_option maxHeartbeats 1000000 in
theorem padKey_any (k : List UInt8) (x : UInt8) (w : World) (ht : TabsR w) (hk : k.length ≤ 100000000) :
    Calls Tryd.prog 63 #[sv k, .int .u8 (x.toNat : Int)] w (RetRow w 5 1 64 (bcs (xorPad (macKey k) x))) := by
  unfold sv
  go_enter Tryd.func63, Tryd.ntmps63
  have hb : Below w.heap.size w w := Below.refl _ _
  go_upto_if 12 with (fail)
  go_cut [5] (fun s5 wc => s5 = .string ⟨(macKey k).toArray⟩ ∧ Below w.heap.size w wc)
  case first =>
    by_cases hlong : 64 < k.length
    · have hmk : macKey k = sha k := by unfold macKey; rw [if_pos hlong]
      have HM := Lib.hid hmk
      have hl32 := sha_len k
      clear hmk
      go_wp2_with (with_reducible refine convBs (.tmp 13) k Tryd.und_str Tryd.sl_u8.und Tryd.und_u8 (wn rfl) rfl rfl (by omega) ?_)
      intro A5 c5 w5 hrd hb5
      replace hb := hb.trans (hb5.mono hb.size)
      clear hb5
      go_wp2_with fail
      refine (refSum_any k A5 _ c5 _ w5 (ht.below hb ht.size) hrd (Nat.le_refl _) (by omega)).mono ?_
      rintro e w6 ⟨rfl, hb6⟩
      replace hb := hb.trans (hb6.mono hb.size)
      clear hb6 hrd
      go_wp2_with fail
      refine (bytes32_any (sha k) w6 hl32).mono ?_
      rintro e w7 ⟨rfl, hb7⟩
      replace hb := hb.trans (hb7.mono hb.size)
      clear hb7
      unfold sv
      go_wp2_with fail
      go_meet
      case rel => exact ⟨by rw [HM.out], hb⟩
    · have hmk : macKey k = k := by unfold macKey; rw [if_neg hlong]
      have HM := Lib.hid hmk
      clear hmk
      go_wp2_with fail
      go_meet
      case rel => exact ⟨by rw [HM.out], hb⟩
  case rest =>
    clear hb
    obtain ⟨rfl, hb⟩ := hcut
    have hkl := macKey_le k
    generalize macKey k = key at *
    have p2 := xorPad_len x hkl
    have P2 := Lib.hid p2
    clear p2
    have hx := x.toNat_lt
    go_wp2_with fail
    go_loopw [6, 7] (fun v iv_ wr => ∃ i : Nat, i ≤ 64 ∧ iv_ = .int .i64 i ∧ wr.ownsRow w.heap.size 5 1 v i (bcs ((xorPad key x).take i)) ∧ Below w.heap.size w wr) (fun _ iv_ _ => 64 - (intOf iv_).toNat)
    case atStart => exact ⟨0, by omega, rfl, World.ownsRow_nil _ _ _ _, hb⟩
    case round =>
      clear hb
      obtain ⟨i, hi, rfl, hown, hb⟩ := hrel
      by_cases hlt : i < 64
      · by_cases hik : i < key.length
        · have hnx := xorPad_next x (keyPad_lo hik)
          have HNX := Lib.hid hnx
          have hyl := key[i].toNat_lt
          clear hnx
          go_wp2_with (at_builtin; with_reducible refine app1 _ _ Tryd.sl_u8 (wn rfl) rfl rfl rfl hown hb (Nat.le_refl _) rfl (by omega) (by omega) ?_)
          intro v' w' h3 h4 _
          replace h3 : w'.ownsRow w.heap.size 5 1 v' (i + 1) (bcs ((xorPad key x).take (i + 1))) := by rw [show ((⟨key.toArray⟩ : ByteArray)[i]'(by simpa [ByteArray.size] using hik)) = key[i] from rfl, xor_bc, HNX.out] at h3; exact h3
          clear hown hb
          go_wp2_with fail
          go_roundw
          case rel => exact ⟨i + 1, by omega, by go_num, h3, h4⟩
          case measure => (simp [intOf]; try omega)
        · have hnx := xorPad_next x (keyPad_hi (i := i) (Nat.le_of_not_lt hik) hlt)
          have HNX := Lib.hid hnx
          clear hnx
          go_wp2_with (at_builtin; with_reducible refine app1 _ _ Tryd.sl_u8 (wn rfl) rfl rfl rfl hown hb (Nat.le_refl _) rfl (by omega) (by omega) ?_)
          intro v' w' h3 h4 _
          replace h3 : w'.ownsRow w.heap.size 5 1 v' (i + 1) (bcs ((xorPad key x).take (i + 1))) := by rw [show (Value.int .u8 (bits .xor .u8 0 (x.toNat : Int))) = bc (0 ^^^ x) from xor_bc 0 x, HNX.out] at h3; exact h3
          clear hown hb
          go_wp2_with fail
          go_roundw
          case rel => exact ⟨i + 1, by omega, by go_num, h3, h4⟩
          case measure => (simp [intOf]; try omega)
      · obtain rfl : i = 64 := by omega
        rw [List.take_of_length_le (by rw [P2.out]; exact Nat.le_refl _)] at hown
        go_wp2_with fail
        go_ret
        exact ⟨_, rfl, hown, hb⟩
set_option maxRecDepth 100000 in
set_option maxHeartbeats 1000000 in
theorem refMac_any (k t : List UInt8) (w : World) (ht : TabsR w) (hk : k.length ≤ 100000000) (htl : t.length ≤ 100000000) : Calls Tryd.prog 51 #[sv k, sv t] w fun e w' => e = .returned (sv (mac k t)) ∧ Below w.heap.size w w' := by
  unfold sv
  have q1 : Calls Tryd.prog 63 #[.string ⟨k.toArray⟩, .int .u8 54] w _ := padKey_any k 54 w ht hk
  have p1 := xorPad_len 54 (macKey_le k)
  have p2 := xorPad_len 92 (macKey_le k)
  have hmac : sha (xorPad (macKey k) 92 ++ sha (xorPad (macKey k) 54 ++ t)) = mac k t := rfl
  have HMAC := Lib.hid hmac
  have hsz : (⟨t.toArray⟩ : ByteArray).size = t.length := by simp [ByteArray.size]
  clear hmac
  generalize hM : mac k t = M at *
  clear hM
  have HS := Lib.hid (show ByteArray.size ⟨t.toArray⟩ = t.length from hsz)
  go_enter Tryd.func51, Tryd.ntmps51
  go_wp2_with fail
  refine q1.mono ?_
  rintro e w1 hret
  obtain ⟨A1, c1, rfl, hown, hr, hb⟩ := hret.open
  clear hret q1 hr
  go_wp2_with (at_builtin; with_reducible refine appS _ _ ⟨t.toArray⟩ Tryd.sl_u8 Tryd.und_str (wn rfl) rfl rfl rfl hown hb (Nat.le_refl _) (by rw [hsz]; omega) ?_)
  intro v2 w2 hown2 hb2 _
  clear hown hb
  obtain ⟨A2, c2, rfl, hr2⟩ := Rd.of_own hown2
  rw [← bcs_append] at hr2
  clear hown2
  have q2 : Calls Tryd.prog 63 #[.string ⟨k.toArray⟩, .int .u8 92] w2 _ := padKey_any k 92 w2 (ht.below hb2 ht.size) hk
  go_wp2_with fail
  refine q2.mono ?_
  rintro e w3 hret
  obtain ⟨A3, c3, rfl, hown3, _, hb3⟩ := hret.open
  replace hr2 := hr2.below hb3
  have hsz2 := hb3.size
  clear hret q2
  go_wp2_with fail
  refine (refSum_any (xorPad (macKey k) 54 ++ t) A2 _ c2 _ w3 (ht.below (hb2.trans (hb3.mono hb2.size)) ht.size) hr2 hsz2 (by omega)).mono ?_
  rintro e w4 ⟨rfl, hb4⟩
  have hown4 := ownsRow_below hown3 hb4 (Nat.le_refl _)
  replace hb3 := hb3.trans (hb4.mono hb3.size)
  have hi := sha_len (xorPad (macKey k) 54 ++ t)
  clear hb4 hown3 hr2
  generalize sha (xorPad (macKey k) 54 ++ t) = inner at *
  go_wp2_with fail
  refine (bytes32_any inner w4 hi).mono ?_
  rintro e w5 ⟨rfl, hb5⟩
  have hown5 := ownsRow_below hown4 hb5 (Nat.le_refl _)
  replace hb3 := hb3.trans (hb5.mono hb3.size)
  clear hb5 hown4
  have hsi : (⟨inner.toArray⟩ : ByteArray).size = 32 := by simp [ByteArray.size, hi]
  unfold sv
  go_wp2_with (at_builtin; with_reducible refine appS _ _ ⟨inner.toArray⟩ Tryd.sl_u8 Tryd.und_str (wn rfl) rfl rfl rfl hown5 hb3 (Nat.le_refl _) (by rw [hsi]; omega) ?_)
  intro v6 w6 hown6 hb6 _
  clear hown5 hb3
  obtain ⟨A6, c6, rfl, hr6⟩ := Rd.of_own hown6
  rw [← bcs_append] at hr6
  have hsz6 := hb6.size
  replace hb6 := hb2.trans (hb6.mono hb2.size)
  clear hown6
  go_wp2_with fail
  refine (refSum_any (xorPad (macKey k) 92 ++ inner) A6 _ c6 _ w6 (ht.below hb6 ht.size) hr6 (Nat.le_refl _) (by omega)).mono ?_
  rintro e w7 ⟨rfl, hb7⟩
  replace hb6 := hb6.trans (hb7.mono hb6.size)
  rw [HMAC.out]
  have hml : M.length = 32 := by rw [← HMAC.out]; exact sha_len _
  clear hb7 hr6
  go_wp2_with fail
  refine (bytes32_any M w7 hml).mono ?_
  rintro e w8 ⟨rfl, hb8⟩
  replace hb6 := hb6.trans (hb8.mono hb6.size)
  go_wp2_with fail
  go_ret
  exact ⟨rfl, hb6⟩
end Go.Proofs.YtienlndjhcmemaaDoor
/-
  Input, Short, Of and Few of the specification.
-/
namespace Go.Proofs.YtienlndjhcmemaaDoor
open Go.RowKit

set_option maxRecDepth 100000 in
set_option maxHeartbeats 1000000 in
theorem input_any (tag : Int) (l : List (List UInt8)) (A : Option Addr) (n c B : Nat) (w : World) (hr : Rd w B 1 A n c (l.map sv)) (hB : B ≤ w.heap.size) (hlen : (inputOf tag l).length ≤ 1000000000) (hlp : l.length ≤ 1000000000) :
    Calls Tryd.prog 57 #[.int .i64 tag, .slice A n c] w (RetRow w 5 1 (inputOf tag l).length (bcs (inputOf tag l))) := by
  obtain rfl : l.length = n := by have := hr.len; simpa using this
  have htb := tagByte_int tag
  have hin : inputOf tag l = [tagByte tag] ++ partsOf l := rfl
  have HIN := Lib.hid hin
  have HTB : Hid (bcs [tagByte tag] = [.int .u8 (tag % 256)]) := by show _ = _; rw [← htb]; rfl
  have HLEN := Lib.hid hlen
  clear htb hin hlen
  generalize tagByte tag = tb at *
  generalize inputOf tag l = inp at *
  have hown0 := World.ownsRow_lit (base := w.heap.size) (e := 5) (size := 1) w #[.int .u8 (tag % 256)] 1 (Nat.le_refl _) (by unfold maxLen; omega) rfl
  have hb0 : Below w.heap.size w (w.alloc (.cells #[.int .u8 (tag % 256)] 5)) := (Below.refl _ _).alloc (Nat.le_refl _) _
  replace hown0 := ownsRow_count (xs' := bcs ([tb] ++ partsOf (l.take 0))) (n' := ([tb] ++ partsOf (l.take 0)).length) hown0 rfl (by rw [show [tb] ++ partsOf (l.take 0) = [tb] from rfl, HTB.out])
  go_enter Tryd.func57, Tryd.ntmps57
  go_wp2_with fail
  go_loopw [5, 6] (fun v iv_ wr => ∃ i : Nat, i ≤ l.length ∧ iv_ = .int .i64 i ∧ wr.ownsRow w.heap.size 5 1 v ([tb] ++ partsOf (l.take i)).length (bcs ([tb] ++ partsOf (l.take i))) ∧ Below w.heap.size w wr) (fun _ iv_ _ => l.length - (intOf iv_).toNat)
  case atStart => exact ⟨0, by omega, rfl, hown0, hb0⟩
  case round =>
    clear hown0 hb0
    obtain ⟨i, hi, rfl, hown, hb⟩ := hrel
    by_cases hlt : i < l.length
    · obtain ⟨b, off, u, rfl, hbB, hu, hcell⟩ := (hr.below (hb.mono hB)).at1 hlt
      obtain ⟨p, hp, rfl⟩ : ∃ p : List UInt8, l[i]? = some p ∧ u = .string ⟨p.toArray⟩ := by
        rw [List.getElem?_map] at hu
        obtain ⟨x, hx, hxu⟩ := Option.map_eq_some_iff.1 hu
        exact ⟨x, hx, hxu.symm⟩
      have hnx := partsOf_next hp
      have hpl2 : ([tb] ++ partsOf (l.take i)).length + (encS p).length ≤ 1000000000 := by
        have h1 := partsOf_le l (i + 1)
        rw [hnx, List.length_append] at h1
        have h2 := HLEN.out
        rw [HIN.out, List.length_append] at h2
        rw [List.length_append]
        omega
      have hpp : p.length ≤ 1000000000 := by
        have : p.length ≤ (encS p).length := by unfold encS; rw [List.length_append]; omega
        omega
      have HNX : Hid (([tb] ++ partsOf (l.take i)) ++ encS p = [tb] ++ partsOf (l.take (i + 1))) := by show _ = _; rw [hnx, List.append_assoc]
      clear hnx hp hu
      generalize hmi : [tb] ++ partsOf (l.take i) = m at *
      clear hmi
      have q1 := refBytes_any p wr (by omega)
      unfold sv at q1
      go_wp2_with fail
      refine q1.mono ?_
      rintro e w2 hret
      obtain ⟨A5, c5, rfl, _, hrd, hb2⟩ := hret.open
      have hown2 := ownsRow_below hown hb2 (Nat.le_refl _)
      replace hb := hb.trans (hb2.mono hb.size)
      clear hown hb2 hret q1 hcell
      go_wp2_with (at_builtin; with_reducible refine appR _ _ Tryd.sl_u8 (wn rfl) rfl rfl rfl hown2 hrd (bcs_one _) hb (Nat.le_refl _) (by omega) (by omega) ?_)
      intro v3 w3 hown3 hb3 _
      clear hown2 hb hrd
      replace hown3 := ownsRow_count (xs' := bcs ([tb] ++ partsOf (l.take (i + 1)))) (n' := ([tb] ++ partsOf (l.take (i + 1))).length) hown3 (by rw [← HNX.out, List.length_append]) (by rw [← HNX.out, bcs_append])
      go_wp2_with fail
      go_roundw
      case rel => exact ⟨i + 1, by omega, by go_num, hown3, hb3⟩
      case measure => (simp [intOf]; try omega)
    · obtain rfl : i = l.length := by omega
      rw [List.take_of_length_le (Nat.le_refl _), ← HIN.out] at hown
      go_wp2_with fail
      go_ret
      exact ⟨_, rfl, hown, hb⟩
theorem set_pad {d : List UInt8} {n i : Nat} {b : UInt8} (hb : d[i]? = some b) (hn : i < n) : (bcs (d.take i ++ List.replicate (n - i) 0)).set i (bc b) = bcs (d.take (i + 1) ++ List.replicate (n - (i + 1)) 0) := by
  have hi := (List.getElem?_eq_some_iff.1 hb).1
  have e5 : ∀ (p q : List Value) (x y : Value), (p ++ x :: q).set p.length y = p ++ y :: q := by
    intro p q x y
    induction p with
    | nil => rfl
    | cons a p ih => simp
  have hl : (bcs (d.take i)).length = i := by rw [bcs_length, List.length_take]; omega
  have h3 := e5 (bcs (d.take i)) (bcs (List.replicate (n - (i + 1)) 0)) (bc 0) (bc b)
  rw [hl] at h3
  rw [show n - i = (n - (i + 1)) + 1 from by omega, List.replicate_succ, ← take_next hb, bcs_append, bcs_append, bcs_append, List.append_assoc]
  exact h3
theorem pad_at (d : List UInt8) (i n : Nat) (h1 : i ≤ d.length) (h2 : i < n) : (bcs (d.take i ++ List.replicate (n - i) 0))[i]? = some (.int .u8 0) := by
  have hl : (d.take i).length = i := by rw [List.length_take]; omega
  have h : (d.take i ++ List.replicate (n - i) 0)[i]? = some (0 : UInt8) := by
    rw [List.getElem?_append_right (by omega), hl, List.getElem?_replicate, if_pos (by omega)]
  unfold bcs
  rw [List.getElem?_map, h]
  rfl
theorem zeros_pad (d : List UInt8) : zerosB 16 = bcs (d.take 0 ++ List.replicate (16 - 0) 0) := rfl
set_option maxRecDepth 100000 in
set_option maxHeartbeats 1000000 in
theorem short_any (l : List UInt8) (A : Option Addr) (n c B : Nat) (w : World) (ht : TabsR w) (hr : Rd w B 1 A n c (bcs l)) (hB : B ≤ w.heap.size) (hn : n ≤ 1000000000) :
    Calls Tryd.prog 56 #[.slice A n c] w fun e w' => e = .returned (.agg (bcs ((sha l).take 16)).toArray) ∧ Below w.heap.size w w' := by
  have HS := Lib.hid (show (bcs (sha l)).length = 32 by rw [bcs_length]; exact sha_len l)
  have HD := Lib.hid (show (bcs ((sha l).take 16)).length = 16 by rw [bcs_length, List.length_take, sha_len]; rfl)
  go_enter Tryd.func56, Tryd.ntmps56
  go_wp2_with (with_reducible refine alArr (z := zerosB 16) Tryd.ag_b16 (wn rfl) rfl ?_)
  intro w1 h2 hb
  replace hr := hr.below (hb.mono hB)
  have hB1 := Nat.le_trans hB hb.size
  go_wp2_with fail
  refine (refSum_any l A n c B w1 (ht.below hb ht.size) hr hB1 (by omega)).mono ?_
  rintro e w2 ⟨rfl, hb2⟩
  replace h2 := h2.below hb2 h2.lt
  replace hb := hb.trans (hb2.mono hb.size)
  clear hb2 hr
  go_wp2_with (with_reducible refine alArr (z := zerosB 32) Tryd.ag_b32 (wn rfl) rfl ?_)
  intro w3 h3 hb3
  have n23 := h2.lt
  have n2 : w.heap.size ≤ w2.heap.size := hb.size
  replace h2 := h2.below hb3 h2.lt
  replace hb := hb.trans (hb3.mono hb.size)
  clear hb3
  generalize w2.heap.size = g3 at *
  go_wp2_with (with_reducible refine stArr (cs := bcs (sha l)) (.tmp 3) (.tmp 7) Tryd.ag_b32 (wn rfl) rfl rfl rfl h3 (zerosB_len _) HS.out (bcs_one _) ?_)
  intro w4 h3 hkeep hbel
  replace h2 := hkeep _ _ _ (by omega) h2
  replace hb := hb.trans (hbel _ (by omega))
  clear hkeep hbel
  have h4 : Arr (w4.alloc (.cells (zerosB 16).toArray 23)) w4.heap.size 23 (zerosB 16) := Arr.new w4 _ _
  have hb5 : Below w4.heap.size w4 (w4.alloc (.cells (zerosB 16).toArray 23)) := (Below.refl _ _).alloc (Nat.le_refl _) _
  have n34 := h3.lt
  replace h2 := h2.below hb5 h2.lt
  replace h3 := h3.below hb5 h3.lt
  have n4 : w.heap.size ≤ w4.heap.size := hb.size
  replace hb := hb.trans (hb5.mono hb.size)
  rw [zeros_pad (sha l)] at h4
  clear hb5
  go_wp2_with fail
  generalize w4.heap.size = g4 at *
  go_loopw [5] (fun iv_ wr => ∃ i : Nat, i ≤ 16 ∧ iv_ = .int .i64 i ∧ Arr wr w.heap.size 23 (zerosB 16) ∧ Arr wr g3 76 (bcs (sha l)) ∧ Arr wr g4 23 (bcs ((sha l).take i ++ List.replicate (16 - i) 0)) ∧ Below w.heap.size w wr) (fun iv_ _ => 16 - (intOf iv_).toNat)
  case atStart => exact ⟨0, by omega, rfl, h2, h3, h4, hb⟩
  case round =>
    clear h2 h3 h4 hb
    obtain ⟨i, hi, rfl, h2, h3, h4, hb⟩ := hrel
    by_cases hlt : i < 16
    · obtain ⟨b, hb1, hb2⟩ := bcs_at (l := sha l) (i := i) (by rw [sha_len]; omega)
      have hc : wr.cell? ⟨g3, i, none⟩ = some (.int .u8 (b.toNat : Int)) := h3.cell hb2
      have hc4 : wr.cell? ⟨g4, i, none⟩ = some (.int .u8 0) := h4.cell (pad_at (sha l) i 16 (by rw [sha_len]; omega) hlt)
      have hf := h4.thaw i
      have hnx := set_pad hb1 hlt
      have HNX := Lib.hid hnx
      clear hnx hb1 hb2
      go_wp2_with fail
      go_roundw
      case rel => exact ⟨i + 1, by omega, by go_num, h2.other (by omega) i _, h3.other (by omega) i _, by rw [← HNX.out]; exact h4.set i _, hb.setCell (p := ⟨g4, i, none⟩) (by show w.heap.size ≤ g4; omega) _⟩
      case measure => (simp [intOf]; try omega)
    · obtain rfl : i = 16 := by omega
      rw [show (sha l).take 16 ++ List.replicate (16 - 16) 0 = (sha l).take 16 from by simp] at h4
      go_wp2_with (first | (with_reducible refine ldArr (.tmp 4) Tryd.ag_b16 (wn rfl) rfl rfl HD.out h4 ?_) | (with_reducible refine stArr (cs := bcs ((sha l).take 16)) (.tmp 2) (.tmp 18) Tryd.ag_b16 (wn rfl) rfl rfl rfl h2 (zerosB_len _) HD.out (bcs_one _) ?_))
      intro w5 h2 hkeep hbel
      go_wp2_with fail
      refine bodyPost_ret (v := .agg (bcs ((sha l).take 16)).toArray) ?_ rfl ⟨rfl, hb.trans (hbel _ (Nat.le_refl _))⟩
      exact res_cell1 (bcs ((sha l).take 16)) Tryd.results56 Tryd.ag_b16 _ rfl HD.out (fun j u hu => by rw [Nat.zero_add]; exact h2.cell hu)
end Go.Proofs.YtienlndjhcmemaaDoor
/-
  wire.Ints and the reference's Ints return the bytes that the plain functions give, in a new row.
-/
namespace Go.Proofs.YtienlndjhcmemaaDoor
open Go.RowKit

set_option maxRecDepth 100000 in
set_option maxHeartbeats 400000 in
theorem listInt_any (l : List Int) (A : Option Addr) (n c B : Nat) (w : World) (hr : Rd w B 1 A n c (l.map iv)) (hB : B ≤ w.heap.size) (hl : ∀ x ∈ l, isI64 x) (hlen : (encI l).length ≤ 70368744177664) :
    Calls Tryd.prog 60 #[.slice A n c, .func (.func 26) #[] #[]] w (RetRow w 5 1 (encI l).length (bcs (encI l))) := by
  obtain rfl : l.length = n := by have := hr.len; simpa using this
  have hcap := hr.cap
  have hle := hr.le
  have hcb : (enc l.length).length + (l.map enc).flatten.length = (encI l).length := by simp [encI]
  have HCB := Lib.hid hcb
  unfold maxLen at hcap
  go_enter Tryd.func60, Tryd.ntmps60
  go_wp2_with fail
  refine (int_any _ _ (by omega) (by omega)).mono ?_
  rintro e w1 ⟨v, rfl, hown, hb⟩
  clear hcb
  go_wp2_with fail
  go_loopw [5, 13] (fun v i wr => ∃ k : Nat, k ≤ l.length ∧ i = .int .i64 k ∧ wr.ownsRow w.heap.size 5 1 v (enc l.length ++ ((l.take k).map enc).flatten).length (bcs (enc l.length ++ ((l.take k).map enc).flatten)) ∧ Below w.heap.size w wr)
    (fun _ i _ => l.length - (intOf i).toNat)
  case atStart => exact ⟨0, Nat.zero_le _, rfl, by simpa using hown, hb⟩
  case round =>
    clear hown hb
    obtain ⟨k, hk, rfl, hown, hb⟩ := hrel
    by_cases hlt : k < l.length
    · obtain ⟨b, off, u, rfl, hbB, hu, hcell⟩ := hr.at1 hlt
      obtain ⟨x, hx, rfl⟩ : ∃ x, l[k]? = some x ∧ u = .int .i64 x := by
        rw [List.getElem?_map] at hu
        obtain ⟨x, hx, hxu⟩ := Option.map_eq_some_iff.1 hu
        exact ⟨x, hx, hxu.symm⟩
      have hcell' := (hb.cell (p := ⟨b, off + k, none⟩) (by show b < _; omega)).trans hcell
      obtain ⟨hx1, hx2⟩ := hl x (List.mem_of_getElem? hx)
      have hft := flat_take enc l k x hx
      have hfl := flat_take_le enc l (k + 1)
      have HF := Lib.hid hft
      have HX := Lib.hid hx
      have hel := enc_len x
      have HN : (enc l.length ++ ((l.take k).map enc).flatten).length ≤ 70368744177664 - (enc x).length := by
        have := HCB.out; rw [hft, List.length_append] at hfl; rw [List.length_append]; omega
      clear hft hfl hx hu hcell
      go_wp2_with fail
      refine (int_any _ _ hx1 hx2).mono ?_
      rintro e w1 hret
      obtain ⟨A1, c1, rfl, hown1, hrd1, hb1⟩ := hret.open
      have hownw := ownsRow_below hown hb1 (Nat.le_refl _)
      have hbw := hb.trans (hb1.mono hb.size)
      clear hret hown hb hb1 hown1
      go_wp2_with (at_builtin; with_reducible refine appR _ _ Tryd.sl_u8 (wn rfl) rfl rfl rfl hownw hrd1 (bcs_one _) hbw (Nat.le_refl _) (by omega) (by omega) ?_)
      intro v' w' h3 h4 _
      clear hownw hbw hrd1 hcell'
      go_wp2
      go_roundw
      case rel =>
        refine ⟨k + 1, by omega, by go_num, ?_, h4⟩
        rw [HF.out]
        exact ownsRow_count h3 (by simp; omega) (by simp [bcs_append])
      case measure => simp [intOf]; omega
    · obtain rfl : k = l.length := by omega
      have HS := Lib.hid (show enc l.length ++ ((l.take l.length).map enc).flatten = encI l by simp [encI])
      clear hlt
      go_wp2
      go_ret
      rw [HS.out] at hown
      exact ⟨_, rfl, hown, hb⟩
set_option maxRecDepth 100000 in
set_option maxHeartbeats 400000 in
theorem refInts_any (l : List Int) (A : Option Addr) (n c B : Nat) (w : World) (hr : Rd w B 1 A n c (l.map iv)) (hB : B ≤ w.heap.size) (hl : ∀ x ∈ l, isI64 x) (hlen : (encI l).length ≤ 70368744177664) :
    Calls Tryd.prog 50 #[.slice A n c] w (RetRow w 5 1 (encI l).length (bcs (encI l))) := by
  obtain rfl : l.length = n := by have := hr.len; simpa using this
  have hcap := hr.cap
  have hle := hr.le
  have hcb : (enc l.length).length + (l.map enc).flatten.length = (encI l).length := by simp [encI]
  have HCB := Lib.hid hcb
  unfold maxLen at hcap
  go_enter Tryd.func50, Tryd.ntmps50
  go_wp2_with fail
  refine (refInt_any _ _ (by omega) (by omega)).mono ?_
  rintro e w1 ⟨v, rfl, hown, hb⟩
  clear hcb
  go_wp2_with fail
  go_loopw [3, 4] (fun v i wr => ∃ k : Nat, k ≤ l.length ∧ i = .int .i64 k ∧ wr.ownsRow w.heap.size 5 1 v (enc l.length ++ ((l.take k).map enc).flatten).length (bcs (enc l.length ++ ((l.take k).map enc).flatten)) ∧ Below w.heap.size w wr)
    (fun _ i _ => l.length - (intOf i).toNat)
  case atStart => exact ⟨0, Nat.zero_le _, rfl, by simpa using hown, hb⟩
  case round =>
    clear hown hb
    obtain ⟨k, hk, rfl, hown, hb⟩ := hrel
    by_cases hlt : k < l.length
    · obtain ⟨b, off, u, rfl, hbB, hu, hcell⟩ := hr.at1 hlt
      obtain ⟨x, hx, rfl⟩ : ∃ x, l[k]? = some x ∧ u = .int .i64 x := by
        rw [List.getElem?_map] at hu
        obtain ⟨x, hx, hxu⟩ := Option.map_eq_some_iff.1 hu
        exact ⟨x, hx, hxu.symm⟩
      have hcell' := (hb.cell (p := ⟨b, off + k, none⟩) (by show b < _; omega)).trans hcell
      obtain ⟨hx1, hx2⟩ := hl x (List.mem_of_getElem? hx)
      have hft := flat_take enc l k x hx
      have hfl := flat_take_le enc l (k + 1)
      have HF := Lib.hid hft
      have HX := Lib.hid hx
      have hel := enc_len x
      have HN : (enc l.length ++ ((l.take k).map enc).flatten).length ≤ 70368744177664 - (enc x).length := by
        have := HCB.out; rw [hft, List.length_append] at hfl; rw [List.length_append]; omega
      clear hft hfl hx hu hcell
      go_wp2_with fail
      refine (refInt_any _ _ hx1 hx2).mono ?_
      rintro e w1 hret
      obtain ⟨A1, c1, rfl, hown1, hrd1, hb1⟩ := hret.open
      have hownw := ownsRow_below hown hb1 (Nat.le_refl _)
      have hbw := hb.trans (hb1.mono hb.size)
      clear hret hown hb hb1 hown1
      go_wp2_with (at_builtin; with_reducible refine appR _ _ Tryd.sl_u8 (wn rfl) rfl rfl rfl hownw hrd1 (bcs_one _) hbw (Nat.le_refl _) (by omega) (by omega) ?_)
      intro v' w' h3 h4 _
      clear hownw hbw hrd1 hcell'
      go_wp2
      go_roundw
      case rel =>
        refine ⟨k + 1, by omega, by go_num, ?_, h4⟩
        rw [HF.out]
        exact ownsRow_count h3 (by simp; omega) (by simp [bcs_append])
      case measure => simp [intOf]; omega
    · obtain rfl : k = l.length := by omega
      have HS := Lib.hid (show enc l.length ++ ((l.take l.length).map enc).flatten = encI l by simp [encI])
      clear hlt
      go_wp2
      go_ret
      rw [HS.out] at hown
      exact ⟨_, rfl, hown, hb⟩
set_option maxRecDepth 100000 in
set_option maxHeartbeats 400000 in
theorem ints_any (l : List Int) (A : Option Addr) (n c B : Nat) (w : World) (hr : Rd w B 1 A n c (l.map iv)) (hB : B ≤ w.heap.size) (hl : ∀ x ∈ l, isI64 x) (hlen : (encI l).length ≤ 70368744177664) :
    Calls Tryd.prog 48 #[.slice A n c] w (RetRow w 5 1 (encI l).length (bcs (encI l))) := by
  have H := listInt_any l A n c B w hr hB hl hlen
  go_enter Tryd.func48, Tryd.ntmps48
  go_wp2_with fail
  refine H.mono ?_
  clear H
  rintro e w1 ⟨v, rfl, hown, hb⟩
  go_wp2_with fail
  go_ret
  exact ⟨_, rfl, hown, hb⟩

end Go.Proofs.YtienlndjhcmemaaDoor
/-
  slices.Clone, digest, list and Digests, and the reference's Digests return the bytes that the plain function gives, in a new row.
-/
namespace Go.Proofs.YtienlndjhcmemaaDoor
open Go.RowKit

set_option maxRecDepth 100000 in
set_option maxHeartbeats 400000 in
theorem clone_any (xs : List Value) (p : Addr) (n c B : Nat) (w : World) (hr : Rd w B 1 (some p) n c xs) (hB : B ≤ w.heap.size) (h1 : ∀ u ∈ xs, u.oneCell' = true) (hn : n ≤ 70368744177664) :
    Calls Tryd.prog 75 #[.slice (some p) n c] w (RetRow w 5 1 n xs) := by
  have hown : (w.alloc (.cells #[] 5)).ownsRow w.heap.size 5 1 (.slice (some ⟨w.heap.size, 0, none⟩) 0 0) 0 [] := World.ownsRow_lit w #[] 0 (Nat.le_refl _) (Nat.zero_le _) rfl
  have hb : Below w.heap.size w (w.alloc (.cells #[] 5)) := (Below.refl _ _).alloc (Nat.le_refl _) _
  have hr2 := hr.alloc hB (.cells #[] 5)
  have hnil := @Lib.run_eql_slice_nil Tryd.prog
  go_enter Tryd.func75, Tryd.ntmps75
  go_wp2_with (at_builtin; with_reducible refine appR _ _ Tryd.sl_u8 (wn rfl) rfl rfl rfl hown hr2 h1 hb (Nat.le_refl _) (by omega) (by omega) ?_)
  intro v' w' h3 h4 _
  clear hown hb hr2 hnil
  go_wp2
  go_ret
  exact ⟨_, rfl, ownsRow_count h3 (by simp) (by simp), h4⟩

def digZero : Array Value := Array.replicate 16 (.int .u8 0)
theorem Tryd.ag_dig : AgTy Tryd.prog 23 digZero 16 := ⟨by kernel_rfl, by kernel_rfl, by simp [digZero]⟩

theorem rd_agg (w : World) (cs : List Value) (t : TypeId) (h : cs.length ≤ maxLen) : Rd (w.alloc (.cells cs.toArray t)) (w.heap.size + 1) 1 (some ⟨w.heap.size, 0, none⟩) cs.length cs.length cs := by
  refine ⟨by simp, Nat.le_refl _, h, fun _ => ⟨w.heap.size, 0, rfl, by omega, fun j u hu => ?_⟩⟩
  rw [World.cell?_alloc_at _ t w.heap.size (0 + j) rfl]
  simpa using hu

set_option maxRecDepth 100000 in
set_option maxHeartbeats 400000 in
theorem digest_any (D : List UInt8) (hD : D.length = 16) (w : World) :
    Calls Tryd.prog 69 #[.agg (bcs D).toArray] w (RetRow w 5 1 16 (bcs D)) := by
  have hr := rd_agg w (bcs D) 23 (by rw [bcs_length, hD]; decide)
  rw [bcs_length, hD] at hr
  have HD := Lib.hid hD
  clear hD
  go_enter Tryd.func69, Tryd.ntmps69
  go_wp2_with fail
  refine (clone_any _ _ _ _ _ _ hr (by simp) (bcs_one _) (by omega)).mono ?_
  rintro e w1 ⟨v, rfl, hown, hb⟩
  clear hr
  go_wp2_with fail
  go_ret
  exact ⟨_, rfl, ownsRow_base hown (by simp), ((Below.refl _ _).alloc (Nat.le_refl _) _).trans (hb.mono (by simp))⟩

set_option maxRecDepth 100000 in
set_option maxHeartbeats 400000 in
theorem listDig_any (D : List UInt8) (A : Option Addr) (n c B : Nat) (w : World) (hr : Rd w B 16 A n c (bcs D)) (hB : B ≤ w.heap.size) (hlen : (encD n D).length ≤ 70368744177664) :
    Calls Tryd.prog 68 #[.slice A n c, .func (.func 69) #[] #[]] w (RetRow w 5 1 (encD n D).length (bcs (encD n D))) := by
  have hD : D.length = n * 16 := by have := hr.len; rwa [bcs_length] at this
  have hcap := hr.cap
  have hle := hr.le
  have hcb : (enc n).length + D.length = (encD n D).length := by simp [encD]
  unfold maxLen at hcap
  go_enter Tryd.func68, Tryd.ntmps68
  go_wp2_with fail
  refine (int_any _ _ (by omega) (by omega)).mono ?_
  rintro e w1 ⟨v, rfl, hown, hb⟩
  have HCB := Lib.hid hcb
  have HD := Lib.hid hD
  clear hcb hD
  go_wp2_with fail
  go_loopw [5, 13] (fun v i wr => ∃ k : Nat, k ≤ n ∧ i = .int .i64 k ∧ wr.ownsRow w.heap.size 5 1 v (enc n ++ D.take (k * 16)).length (bcs (enc n ++ D.take (k * 16))) ∧ Below w.heap.size w wr)
    (fun _ i _ => n - (intOf i).toNat)
  case atStart => exact ⟨0, Nat.zero_le _, rfl, by simpa using hown, hb⟩
  case round =>
    clear hown hb
    obtain ⟨k, hk, rfl, hown, hb⟩ := hrel
    by_cases hlt : k < n
    · obtain ⟨b, off, rfl, hbB, hcell⟩ := hr.cells (by omega)
      obtain ⟨Dk, hDk⟩ : ∃ x, x = (D.drop (k * 16)).take 16 := ⟨_, rfl⟩
      have hk16 : Dk.length = 16 := by have := HD.out; rw [hDk, List.length_take, List.length_drop]; omega
      have htk : D.take ((k + 1) * 16) = D.take (k * 16) ++ Dk := by
        rw [hDk, show (k + 1) * 16 = k * 16 + 16 from by omega, List.take_add]
      have hcs : ∀ j u, (bcs Dk)[j]? = some u → wr.cell? ⟨b, off + k * 16 + j, none⟩ = some u := by
        intro j u hj
        refine (hb.cell (p := ⟨b, off + k * 16 + j, none⟩) (by show b < _; omega)).trans ?_
        rw [Nat.add_assoc]
        refine hcell _ _ ?_
        rw [← hj, hDk, bcs, bcs, List.getElem?_map, List.getElem?_map, List.getElem?_take, List.getElem?_drop]
        have hjl := (List.getElem?_eq_some_iff.1 hj).1
        rw [bcs_length, hk16] at hjl
        rw [if_pos hjl]
      have HC := Lib.hid hcs
      have HT := Lib.hid htk
      have HK := Lib.hid hk16
      have HN : (enc n ++ D.take (k * 16)).length ≤ 70368744177664 - 16 := by
        have h1 := congrArg List.length htk
        have h2 : (D.take ((k + 1) * 16)).length ≤ D.length := by rw [List.length_take]; omega
        have := HCB.out
        rw [List.length_append] at h1 ⊢
        omega
      clear hcell hDk hcs htk hk16
      go_wp2_with (first | (with_reducible refine ldAgg (.tmp 15) (bcs Dk) Tryd.ag_dig (wn rfl) rfl rfl (by rw [bcs_length]; exact HK.out) HC.out ?_) | (with_reducible refine alAgg Tryd.ag_dig (wn rfl) rfl ?_) | (with_reducible refine stNew (.tmp 7) (.tmp 16) Tryd.ag_dig (wn rfl) rfl rfl rfl Tryd.ag_dig.zs (by rw [List.size_toArray, bcs_length]; exact HK.out) (by simpa using bcs_one Dk) ?_) | (with_reducible refine ldAgg (.tmp 7) (bcs Dk) Tryd.ag_dig (wn rfl) rfl rfl (by rw [bcs_length]; exact HK.out) (by intro j u hu; rw [World.cell?_alloc_at _ _ _ _ rfl]; simpa using hu) ?_))
      refine (digest_any Dk HK.out _).mono ?_
      rintro e w1 hret
      obtain ⟨A1, c1, rfl, hown1, hrd1, hb1⟩ := hret.open
      have hownw := ownsRow_below (hown.alloc _) hb1 (Nat.le_refl _)
      have hbw := (hb.alloc hb.size _).trans (hb1.mono (by have := hb.size; simp; omega))
      clear hret hown hb hb1 hown1 HC
      go_wp2_with (at_builtin; with_reducible refine appR _ _ Tryd.sl_u8 (wn rfl) rfl rfl rfl hownw hrd1 (bcs_one _) hbw (Nat.le_refl _) (by omega) (by omega) ?_)
      intro v' w' h3 h4 _
      clear hownw hbw hrd1
      go_wp2
      go_roundw
      case rel =>
        refine ⟨k + 1, by omega, by go_num, ?_, h4⟩
        rw [HT.out]
        exact ownsRow_count h3 (by have := HK.out; simp; omega) (by simp [bcs_append])
      case measure => simp [intOf]; omega
    · obtain rfl : k = n := by omega
      have HS := Lib.hid (show enc k ++ D.take (k * 16) = encD k D by rw [← HD.out, List.take_length]; rfl)
      clear hlt
      go_wp2
      go_ret
      rw [HS.out] at hown
      exact ⟨_, rfl, hown, hb⟩
end Go.Proofs.YtienlndjhcmemaaDoor
/-
  The reference's Digests and wire.Digests return the bytes that the plain function gives, in a new row.
-/
namespace Go.Proofs.YtienlndjhcmemaaDoor
open Go.RowKit

set_option maxRecDepth 100000 in
set_option maxHeartbeats 400000 in
theorem refDigs_any (D : List UInt8) (A : Option Addr) (n c B : Nat) (w : World) (hr : Rd w B 16 A n c (bcs D)) (hB : B ≤ w.heap.size) (hlen : (encD n D).length ≤ 70368744177664) :
    Calls Tryd.prog 59 #[.slice A n c] w (RetRow w 5 1 (encD n D).length (bcs (encD n D))) := by
  have hD : D.length = n * 16 := by have := hr.len; rwa [bcs_length] at this
  have hcap := hr.cap
  have hle := hr.le
  have hcb : (enc n).length + D.length = (encD n D).length := by simp [encD]
  unfold maxLen at hcap
  go_enter Tryd.func59, Tryd.ntmps59
  go_wp2_with fail
  refine (refInt_any _ _ (by omega) (by omega)).mono ?_
  rintro e w1 ⟨v, rfl, hown, hb⟩
  have HCB := Lib.hid hcb
  have HD := Lib.hid hD
  clear hcb hD
  go_wp2_with fail
  go_loopw [3, 4] (fun v i wr => ∃ k : Nat, k ≤ n ∧ i = .int .i64 k ∧ wr.ownsRow w.heap.size 5 1 v (enc n ++ D.take (k * 16)).length (bcs (enc n ++ D.take (k * 16))) ∧ Below w.heap.size w wr)
    (fun _ i _ => n - (intOf i).toNat)
  case atStart => exact ⟨0, Nat.zero_le _, rfl, by simpa using hown, hb⟩
  case round =>
    clear hown hb
    obtain ⟨k, hk, rfl, hown, hb⟩ := hrel
    by_cases hlt : k < n
    · obtain ⟨b, off, rfl, hbB, hcell⟩ := hr.cells (by omega)
      obtain ⟨Dk, hDk⟩ : ∃ x, x = (D.drop (k * 16)).take 16 := ⟨_, rfl⟩
      have hk16 : Dk.length = 16 := by have := HD.out; rw [hDk, List.length_take, List.length_drop]; omega
      have htk : D.take ((k + 1) * 16) = D.take (k * 16) ++ Dk := by
        rw [hDk, show (k + 1) * 16 = k * 16 + 16 from by omega, List.take_add]
      have hcs : ∀ j u, (bcs Dk)[j]? = some u → wr.cell? ⟨b, off + k * 16 + j, none⟩ = some u := by
        intro j u hj
        refine (hb.cell (p := ⟨b, off + k * 16 + j, none⟩) (by show b < _; omega)).trans ?_
        rw [Nat.add_assoc]
        refine hcell _ _ ?_
        rw [← hj, hDk, bcs, bcs, List.getElem?_map, List.getElem?_map, List.getElem?_take, List.getElem?_drop]
        have hjl := (List.getElem?_eq_some_iff.1 hj).1
        rw [bcs_length, hk16] at hjl
        rw [if_pos hjl]
      have HC := Lib.hid hcs
      have HT := Lib.hid htk
      have HK := Lib.hid hk16
      have HN : (enc n ++ D.take (k * 16)).length ≤ 70368744177664 - 16 := by
        have h1 := congrArg List.length htk
        have h2 : (D.take ((k + 1) * 16)).length ≤ D.length := by rw [List.length_take]; omega
        have := HCB.out
        rw [List.length_append] at h1 ⊢
        omega
      clear hcell hDk hcs htk hk16
      have hrd : Rd wr B 1 (some ⟨b, off + k * 16, none⟩) 16 16 (bcs Dk) := ⟨by rw [bcs_length]; exact HK.out, by omega, by decide, fun _ => ⟨b, off + k * 16, rfl, hbB, HC.out⟩⟩
      clear HC
      go_wp2_with (at_builtin; with_reducible refine appR _ _ Tryd.sl_u8 (wn rfl) rfl rfl rfl hown hrd (bcs_one _) hb (Nat.le_refl _) (by omega) (by omega) ?_)
      intro v' w' h3 h4 _
      clear hown hb hrd
      go_wp2
      go_roundw
      case rel =>
        refine ⟨k + 1, by omega, by go_num, ?_, h4⟩
        rw [HT.out]
        exact ownsRow_count h3 (by have := HK.out; simp; omega) (by simp [bcs_append])
      case measure => simp [intOf]; omega
    · obtain rfl : k = n := by omega
      have HS := Lib.hid (show enc k ++ D.take (k * 16) = encD k D by rw [← HD.out, List.take_length]; rfl)
      clear hlt
      go_wp2
      go_ret
      rw [HS.out] at hown
      exact ⟨_, rfl, hown, hb⟩

set_option maxRecDepth 100000 in
set_option maxHeartbeats 400000 in
theorem digs_any (D : List UInt8) (A : Option Addr) (n c B : Nat) (w : World) (hr : Rd w B 16 A n c (bcs D)) (hB : B ≤ w.heap.size) (hlen : (encD n D).length ≤ 70368744177664) :
    Calls Tryd.prog 58 #[.slice A n c] w (RetRow w 5 1 (encD n D).length (bcs (encD n D))) := by
  have H := listDig_any D A n c B w hr hB hlen
  go_enter Tryd.func58, Tryd.ntmps58
  go_wp2_with fail
  refine H.mono ?_
  clear H
  rintro e w1 ⟨v, rfl, hown, hb⟩
  go_wp2_with fail
  go_ret
  exact ⟨_, rfl, hown, hb⟩
end Go.Proofs.YtienlndjhcmemaaDoor
/-
  Plain functions for decoding: what GetInt and its like compute, on lists of bytes. No program in sight.
-/
namespace Go.Proofs.YtienlndjhcmemaaDoor
open Go.RowKit

def decGo : List UInt8 → Nat → Nat → Int × Int × Int
  | [], _, _ => (0, 0, 5)
  | c :: t, k, z => if (k = 9 ∧ 1 < c.toNat) ∨ (0 < k ∧ c.toNat = 0) then (0, 0, 6) else
    if c.toNat < 128 then (unzz (z + c.toNat % 128 * 128 ^ k), (k : Int) + 1, 0) else decGo t (k + 1) (z + c.toNat % 128 * 128 ^ k)
def dec (l : List UInt8) : Int × Int × Int := decGo l 0 0

theorem pow7 (k : Nat) : (128 : Nat) ^ k = 2 ^ (7 * k) := by rw [Nat.pow_mul]
theorem pow7_le {k : Nat} (h : k ≤ 8) : (128 : Nat) ^ k ≤ 72057594037927936 := Nat.le_trans (Nat.pow_le_pow_right (by omega) h) (by decide)
theorem get_or (x : UInt8) (z k : Nat) (hk : k < 9 ∨ (k ≤ 9 ∧ x.toNat ≤ 1)) (hz : z < 128 ^ k) :
    z + x.toNat % 128 * 128 ^ k < 18446744073709551616 ∧
    bits .or .u64 (z : Int) (IntKind.u64.wrap (IntKind.u64.wrap (bits .and .u8 (x.toNat : Int) 127) * 2 ^ (7 * k))) = ((z + x.toNat % 128 * 128 ^ k : Nat) : Int) := by
  have hprod : x.toNat % 128 * 128 ^ k ≤ 9223372036854775808 ∧ 128 ^ k ≤ 9223372036854775808 ∧ z + x.toNat % 128 * 128 ^ k < 18446744073709551616 := by
    rcases hk with hk | ⟨hk, hx⟩
    · have h1 := pow7_le (k := k) (by omega)
      have h2 : x.toNat % 128 * 128 ^ k ≤ 127 * 72057594037927936 := Nat.mul_le_mul (by omega) h1
      omega
    · have h1 : (128 : Nat) ^ k ≤ 9223372036854775808 := Nat.le_trans (Nat.pow_le_pow_right (by omega) hk) (by decide)
      have h2 : x.toNat % 128 * 128 ^ k ≤ 1 * 9223372036854775808 := Nat.mul_le_mul (by omega) h1
      omega
  refine ⟨hprod.2.2, ?_⟩
  rw [u8_and127, IntWalk.u64_in ((x.toNat % 128 : Nat) : Int) ⟨by omega, by omega⟩]
  have e : ((x.toNat % 128 : Nat) : Int) * 2 ^ (7 * k) = ((x.toNat % 128 * 128 ^ k : Nat) : Int) := by rw [pow7]; simp
  rw [e, IntWalk.u64_in _ ⟨by omega, by omega⟩, u64_or_nat _ _ (by omega) (by omega), pow7, nat_or_shift _ _ _ (by rw [← pow7]; exact hz)]
theorem get_and1 (Z : Nat) (h : Z < 18446744073709551616) : bits .and .u64 (Z : Int) 1 = (Z : Int) % 2 := by
  have h := u64_and_nat Z 1 h (by omega)
  rw [Nat.and_one_is_mod] at h
  exact h
theorem get_unzz (Z : Nat) (h : Z < 18446744073709551616) : bits .xor .i64 ((Z : Int) / 2) (-((Z : Int) % 2)) = unzz Z := by
  unfold unzz
  rcases Nat.mod_two_eq_zero_or_one Z with h0 | h0
  · rw [show (Z : Int) % 2 = 0 from by omega, if_neg (by omega)]
    have : bits .xor .i64 ((Z / 2 : Nat) : Int) ((0 : Nat) : Int) = _ := i64_xor_n (Z / 2) 0 (by omega) (by omega)
    rw [Nat.xor_zero] at this
    exact_mod_cast this
  · rw [show (Z : Int) % 2 = 1 from by omega, if_pos h0]
    have := i64_xor_m1 ((Z : Int) / 2) (by omega) (by omega)
    exact_mod_cast this
theorem dec_lt (l : List UInt8) (k : Nat) (x : UInt8) (h : l[k]? = some x) : l.drop k = x :: l.drop (k + 1) := by
  have hk : k < l.length := by
    rcases Nat.lt_or_ge k l.length with hh | hh
    · exact hh
    · rw [List.getElem?_eq_none hh] at h; cases h
  rw [List.drop_eq_getElem_cons hk]
  rw [List.getElem?_eq_getElem hk] at h
  rw [Option.some.inj h]
theorem dec_bad {l : List UInt8} {k z : Nat} {x : UInt8} {r : Int × Int × Int} (hx : l[k]? = some x) (hd : decGo (l.drop k) k z = r) (h : (9 ≤ k ∧ 1 < x.toNat ∧ k ≤ 9) ∨ (1 ≤ k ∧ x.toNat < 1)) : r = (0, 0, 6) := by
  rw [dec_lt l k x hx, decGo, if_pos (by omega)] at hd
  exact hd.symm
theorem dec_fin {l : List UInt8} {k z : Nat} {x : UInt8} {r : Int × Int × Int} (hx : l[k]? = some x) (hd : decGo (l.drop k) k z = r) (h : (k < 9 ∨ x.toNat ≤ 1) ∧ (k < 1 ∨ 0 < x.toNat)) (h2 : x.toNat < 128) :
    r = (unzz (z + x.toNat % 128 * 128 ^ k), (k : Int) + 1, 0) := by
  rw [dec_lt l k x hx, decGo, if_neg (by omega), if_pos h2] at hd
  exact hd.symm
theorem dec_more {l : List UInt8} {k z : Nat} {x : UInt8} {r : Int × Int × Int} (hx : l[k]? = some x) (hd : decGo (l.drop k) k z = r) (h : (k < 9 ∨ x.toNat ≤ 1) ∧ (k < 1 ∨ 0 < x.toNat)) (h2 : ¬ x.toNat < 128) :
    decGo (l.drop (k + 1)) (k + 1) (z + x.toNat % 128 * 128 ^ k) = r := by
  rw [dec_lt l k x hx, decGo, if_neg (by omega), if_neg h2] at hd
  exact hd
/-- The number that the low bits of the first k bytes make. -/
def valTo (l : List UInt8) : Nat → Nat
  | 0 => 0
  | k + 1 => valTo l k + (l.getD k 0).toNat % 128 * 128 ^ k
theorem valTo_lt (l : List UInt8) : ∀ k, valTo l k < 128 ^ k
  | 0 => by simp [valTo]
  | k + 1 => by
    have h := valTo_lt l k
    rw [valTo, Nat.pow_succ]
    have h2 : (l.getD k 0).toNat % 128 * 128 ^ k ≤ 127 * 128 ^ k := Nat.mul_le_mul_right _ (by omega)
    omega
theorem valTo_succ {l : List UInt8} {k : Nat} {x : UInt8} (h : l[k]? = some x) : valTo l (k + 1) = valTo l k + x.toNat % 128 * 128 ^ k := by
  rw [valTo, List.getD, h]; rfl
/-- What holds when the first k bytes have been found to go on. -/
def Lead (l : List UInt8) (k : Nat) : Prop := (k ≤ 9 → decGo (l.drop k) k (valTo l k) = dec l) ∧ (10 ≤ k → dec l = (0, 0, 6))
theorem lead_0 (l : List UInt8) : Lead l 0 := ⟨fun _ => rfl, fun h => absurd h (by omega)⟩
theorem lead_step {l : List UInt8} {k : Nat} {x : UInt8} (hk : k < 10) (hx : l[k]? = some x) (h2 : 128 ≤ x.toNat) (h : Lead l k) : Lead l (k + 1) := by
  refine ⟨fun h9 => ?_, fun h10 => ?_⟩
  · rw [valTo_succ hx]
    exact dec_more hx (h.1 (by omega)) ⟨by omega, by omega⟩ (by omega)
  · exact dec_bad hx (h.1 (by omega)) (by omega)
theorem lead_end {l : List UInt8} (h : Lead l l.length) (hl : l.length ≤ 9) : dec l = (0, 0, 5) := by
  rw [← h.1 hl, List.drop_length]; rfl
/-- The reference's way from the last byte to the first. -/
def Horner (l : List UInt8) (k m acc : Nat) : Prop := acc * 128 ^ m + valTo l m = valTo l k
theorem horner_step {l : List UInt8} {k m acc : Nat} {x : UInt8} (hx : l[m]? = some x) (h : Horner l k (m + 1) acc) : Horner l k m (acc * 128 + x.toNat % 128) := by
  unfold Horner at h ⊢
  rw [valTo_succ hx, Nat.pow_succ] at h
  rw [← h, Nat.add_mul, Nat.mul_assoc, Nat.mul_comm 128 (128 ^ m)]
  omega
theorem horner_le {l : List UInt8} {k m acc : Nat} (h : Horner l k m acc) : acc ≤ valTo l k := by
  unfold Horner at h
  have h1 : acc * 1 ≤ acc * 128 ^ m := Nat.mul_le_mul_left _ (Nat.one_le_pow _ _ (by omega))
  omega
theorem valTo_bound {l : List UInt8} {k : Nat} {x : UInt8} (hk : k < 9 ∨ (k ≤ 9 ∧ x.toNat ≤ 1)) (hx : l[k]? = some x) : valTo l (k + 1) < 18446744073709551616 := by
  rw [valTo_succ hx]
  exact (get_or x (valTo l k) k hk (valTo_lt l k)).1
theorem dec_step_lt (x : UInt8) (z k : Nat) (hz : z < 128 ^ k) : z + x.toNat % 128 * 128 ^ k < 128 ^ (k + 1) := by
  rw [Nat.pow_succ]
  have h : x.toNat % 128 * 128 ^ k ≤ 127 * 128 ^ k := Nat.mul_le_mul_right _ (by omega)
  omega

theorem decGo_facts : ∀ (l : List UInt8) (k z : Nat) (n u e : Int), k ≤ 9 → z < 128 ^ k → decGo l k z = (n, u, e) → (e = 0 ∧ (k : Int) + 1 ≤ u ∧ u ≤ 10 ∧ u ≤ k + l.length ∧ isI64 n) ∨ (n = 0 ∧ u = 0 ∧ (e = 5 ∨ e = 6))
  | [], k, z, n, u, e, hk, hz, h => by
    simp [decGo] at h; exact Or.inr (by omega)
  | c :: t, k, z, n, u, e, hk, hz, h => by
    rw [decGo] at h
    by_cases h1 : (k = 9 ∧ 1 < c.toNat) ∨ (0 < k ∧ c.toNat = 0)
    · rw [if_pos h1] at h; simp at h; exact Or.inr (by omega)
    · rw [if_neg h1] at h
      by_cases h2 : c.toNat < 128
      · rw [if_pos h2] at h
        simp only [Prod.mk.injEq] at h
        obtain ⟨h3, h4, h5⟩ := h
        have hZ := (get_or c z k (by omega) hz).1
        refine Or.inl ⟨h5.symm, by omega, by omega, by simp; omega, ?_⟩
        rw [← h3]
        exact ⟨unzz_lo _ hZ, unzz_hi _ hZ⟩
      · rw [if_neg h2] at h
        have hk9 : k + 1 ≤ 9 := by omega
        have := decGo_facts t (k + 1) _ n u e hk9 (dec_step_lt c z k hz) h
        simp only [List.length_cons]
        rcases this with ⟨a, b, c, d, f⟩ | h3
        · exact Or.inl ⟨a, by omega, c, by omega, f⟩
        · exact Or.inr h3
theorem dec_facts {l : List UInt8} {n u e : Int} (h : dec l = (n, u, e)) : (e = 0 ∧ 1 ≤ u ∧ u ≤ 10 ∧ u ≤ l.length ∧ isI64 n) ∨ (n = 0 ∧ u = 0 ∧ (e = 5 ∨ e = 6)) := by
  have := decGo_facts l 0 0 n u e (by omega) (by simp) h
  rcases this with ⟨a, b, c, d, f⟩ | h3
  · exact Or.inl ⟨a, by omega, c, by omega, f⟩
  · exact Or.inr h3

def lenDec (l : List UInt8) (least : Nat) : Int × Int × Int :=
  if (dec l).2.2 ≠ 0 then (0, 0, (dec l).2.2) else if (dec l).1 < 0 then (0, 0, 6) else if ((l.length : Int) - (dec l).2.1) / (least : Int) < (dec l).1 then (0, 0, 5) else ((dec l).1, (dec l).2.1, 0)
theorem lenDec_facts {l : List UInt8} {least : Nat} (hl : 1 ≤ least) {n u e : Int} (h : lenDec l least = (n, u, e)) : (e = 0 ∧ 1 ≤ u ∧ u ≤ 10 ∧ u ≤ l.length ∧ 0 ≤ n ∧ n * least + u ≤ l.length ∧ isI64 n) ∨ (n = 0 ∧ u = 0 ∧ (e = 5 ∨ e = 6)) := by
  obtain ⟨a, b, c, hd⟩ : ∃ a b c, dec l = (a, b, c) := ⟨_, _, _, rfl⟩
  have hf := dec_facts hd
  unfold lenDec at h
  rw [hd] at h
  simp only at h
  by_cases h1 : c ≠ 0
  · rw [if_pos h1] at h; simp only [Prod.mk.injEq] at h; exact Or.inr (by omega)
  · rw [if_neg h1] at h
    rcases hf with ⟨f1, f2, f3, f4, f5⟩ | hf
    · by_cases h2 : a < 0
      · rw [if_pos h2] at h; simp only [Prod.mk.injEq] at h; exact Or.inr (by omega)
      · rw [if_neg h2] at h
        by_cases h3 : ((l.length : Int) - b) / (least : Int) < a
        · rw [if_pos h3] at h; simp only [Prod.mk.injEq] at h; exact Or.inr (by omega)
        · rw [if_neg h3] at h; simp only [Prod.mk.injEq] at h
          obtain ⟨rfl, rfl, rfl⟩ := h
          refine Or.inl ⟨rfl, f2, f3, f4, by omega, ?_, f5⟩
          have hq : a ≤ ((l.length : Int) - b) / (least : Int) := by omega
          have h5 := (Int.le_ediv_iff_mul_le (by omega : (0 : Int) < least)).1 hq
          omega
    · omega

/-- What GetBytes computes. -/
def decS (l : List UInt8) : List UInt8 × Int × Int :=
  if (lenDec l 1).2.2 ≠ 0 then ([], 0, (lenDec l 1).2.2) else ((l.drop (lenDec l 1).2.1.toNat).take (lenDec l 1).1.toNat, (lenDec l 1).2.1 + (lenDec l 1).1, 0)
/-- What the decoders of lists compute: the elements one after the other. -/
def many {α : Type} (one : List UInt8 → α × Int × Int) (l : List UInt8) : Nat → Nat → List α → List α × Int × Int
  | 0, at_, acc => (acc, (at_ : Int), 0)
  | n + 1, at_, acc => if (one (l.drop at_)).2.2 ≠ 0 then ([], 0, (one (l.drop at_)).2.2) else many one l n (at_ + (one (l.drop at_)).2.1.toNat) (acc ++ [(one (l.drop at_)).1])
def decList {α : Type} (one : List UInt8 → α × Int × Int) (l : List UInt8) : List α × Int × Int :=
  if (lenDec l 1).2.2 ≠ 0 then ([], 0, (lenDec l 1).2.2) else many one l (lenDec l 1).1.toNat (lenDec l 1).2.1.toNat []
def decI (l : List UInt8) : List Int × Int × Int := decList dec l
def decT (l : List UInt8) : List (List UInt8) × Int × Int := decList decS l
/-- What GetDigests computes: the bytes of the digests, one behind the other. -/
def decD (l : List UInt8) : List UInt8 × Int × Int :=
  if (lenDec l 16).2.2 ≠ 0 then ([], 0, (lenDec l 16).2.2) else ((l.drop (lenDec l 16).2.1.toNat).take ((lenDec l 16).1.toNat * 16), (lenDec l 16).2.1 + (lenDec l 16).1 * 16, 0)
end Go.Proofs.YtienlndjhcmemaaDoor
/-
  wire.GetInt returns what the plain function dec gives, and makes nothing.
-/
namespace Go.Proofs.YtienlndjhcmemaaDoor
open Go.RowKit

/-- Three numbers are returned, the world is as it was. -/
def Ret3 (w : World) (r : Int × Int × Int) (en : Ending) (w' : World) : Prop := en = .returned (.tuple #[.int .i64 r.1, .int .i64 r.2.1, .int .i64 r.2.2]) ∧ w = w'

set_option maxRecDepth 100000 in
set_option maxHeartbeats 400000 in
theorem getInt_any (l : List UInt8) (A : Option Addr) (n c B : Nat) (w : World) (hr : Rd w B 1 A n c (bcs l)) :
    Calls Tryd.prog 37 #[.slice A n c] w (Ret3 w (dec l)) := by
  obtain rfl : l.length = n := by have := hr.len; simpa [bcs] using this
  have hcap := hr.cap
  have hle := hr.le
  unfold maxLen at hcap
  go_enter Tryd.func37, Tryd.ntmps37
  go_wp2
  go_step3
  go_wp2
  go_step3
  go_wp2
  go_loop [5, 6, 11] (fun zv uv iv => ∃ k z : Nat, uv = .int .i64 0 ∧ k ≤ l.length ∧ k ≤ 9 ∧ iv = .int .i64 k ∧ zv = .int .u64 z ∧ z < 18446744073709551616 ∧ Hid (z < 128 ^ k) ∧ Hid (decGo (l.drop k) k z = dec l))
    (fun _ _ i => l.length - (intOf i).toNat)
  case atStart => exact ⟨0, 0, rfl, Nat.zero_le _, by omega, rfl, rfl, by omega, (by show _ < _; decide), rfl⟩
  case round =>
    obtain ⟨k, z, rfl, hk, hk9, rfl, rfl, hz, hzk, hd⟩ := hrel
    by_cases hlt : k < l.length
    · obtain ⟨b, off, u, rfl, hbB, hu, hcell⟩ := hr.at1 hlt
      obtain ⟨x, hx, rfl⟩ : ∃ x, l[k]? = some x ∧ u = .int .u8 (x.toNat : Int) := by
        rw [bcs, List.getElem?_map] at hu
        obtain ⟨x, hx, hxu⟩ := Option.map_eq_some_iff.1 hu
        exact ⟨x, hx, hxu.symm⟩
      have hx256 := x.toNat_lt
      by_cases h1 : (k < 9 ∨ x.toNat ≤ 1) ∧ (k < 1 ∨ 0 < x.toNat)
      · obtain ⟨hZ, hor⟩ := get_or x z k (by omega) hzk.out
        have hstep := dec_step_lt x z k hzk.out
        by_cases h2 : x.toNat < 128
        · have hf := dec_fin hx hd.out h1 h2
          obtain ⟨Z, hZe⟩ : ∃ Z, Z = z + x.toNat % 128 * 128 ^ k := ⟨_, rfl⟩
          rw [← hZe] at hZ hor hstep hf
          have hand1 := get_and1 Z hZ
          have hfin := get_unzz Z hZ
          have HF := Lib.hid hf
          clear hx hu hstep hd hzk hZe hf
          by_cases h3 : k < 1
          · go_wp2
            (try rw [Exit.noGoto_ret]); go_ret3
            exact ⟨by rw [HF.out]; rfl, rfl⟩
          · by_cases h4 : k < 9
            · go_wp2
              (try rw [Exit.noGoto_ret]); go_ret3
              exact ⟨by rw [HF.out]; rfl, rfl⟩
            · obtain rfl : k = 9 := by omega
              rw [show (2 : Int) ^ (7 * 9) = 9223372036854775808 from by decide] at hor
              go_wp2
              (try rw [Exit.noGoto_ret]); go_ret3
              exact ⟨by rw [HF.out]; rfl, rfl⟩
        · have hm := dec_more hx hd.out h1 h2
          obtain ⟨Z, hZe⟩ : ∃ Z, Z = z + x.toNat % 128 * 128 ^ k := ⟨_, rfl⟩
          rw [← hZe] at hZ hor hstep hm
          have HM := Lib.hid hm
          have HS := Lib.hid hstep
          clear hx hu hstep hd hzk hZe hm
          by_cases h3 : k < 1
          all_goals
            go_wp2
            go_round
            case rel => exact ⟨k + 1, Z, rfl, by omega, by omega, by go_num, rfl, hZ, HS.out, HM.out⟩
            case measure => simp [intOf]; omega
      · have hf := dec_bad hx hd.out (by omega)
        have HF := Lib.hid hf
        clear hx hu hd hzk hf
        by_cases h3 : k < 9
        · have h4 : x.toNat < 1 := by omega
          go_wp2
          (try rw [Exit.noGoto_ret]); go_ret3
          exact ⟨by rw [HF.out]; rfl, rfl⟩
        · by_cases h4 : 1 < x.toNat
          all_goals
            go_wp2
            (try rw [Exit.noGoto_ret]); go_ret3
            exact ⟨by rw [HF.out]; rfl, rfl⟩
    · obtain rfl : k = l.length := by omega
      have HF : Hid (dec l = (0, 0, 5)) := by
        show _ = _
        rw [← hd.out, List.drop_length]; rfl
      clear hlt hd hzk
      go_wp2
      (try rw [Exit.noGoto_ret]); go_ret3
      exact ⟨by rw [HF.out]; rfl, rfl⟩
end Go.Proofs.YtienlndjhcmemaaDoor
/-
  The reference's GetInt returns what the plain function dec gives, and makes nothing.
-/
namespace Go.Proofs.YtienlndjhcmemaaDoor
open Go.RowKit

theorem gi_cell {l : List UInt8} {w : World} {B b off n c j : Nat} (hr : Rd w B 1 (some ⟨b, off, none⟩) n c (bcs l)) (hj : j < l.length) : ∃ y, l[j]? = some y ∧ w.cell? ⟨b, off + j, none⟩ = some (.int .u8 (y.toNat : Int)) := by
  have hn : n = l.length := by have := hr.len; rw [bcs_length] at this; omega
  obtain ⟨b', off', u, e, _, hu, hc⟩ := hr.at1 (show j < n by omega)
  injection e with e
  injection e with e1 e2 e3
  subst e1; subst e2
  rw [bcs, List.getElem?_map] at hu
  obtain ⟨y, hy, hyu⟩ := Option.map_eq_some_iff.1 hu
  exact ⟨y, hy, by rw [hc, ← hyu]; rfl⟩

set_option maxRecDepth 100000 in
set_option maxHeartbeats 1000000 in
theorem refGetInt_any (l : List UInt8) (A : Option Addr) (n c B : Nat) (w : World) (hr : Rd w B 1 A n c (bcs l)) :
    Calls Tryd.prog 43 #[.slice A n c] w (Ret3 w (dec l)) := by
  obtain rfl : l.length = n := by have := hr.len; simpa [bcs] using this
  have hcap := hr.cap
  have hle := hr.le
  unfold maxLen at hcap
  go_enter Tryd.func43, Tryd.ntmps43
  go_wp2
  go_loop [5] (fun kv => ∃ k : Nat, k ≤ l.length ∧ k ≤ 10 ∧ kv = .int .i64 k ∧ Lead l k) (fun i => l.length - (intOf i).toNat)
  case atStart => exact ⟨0, Nat.zero_le _, by omega, rfl, lead_0 l⟩
  case round =>
    obtain ⟨k, hk, hk10, rfl, hd⟩ := hrel
    by_cases hlt : k < l.length
    · obtain ⟨b, off, u, rfl, hbB, hu, hcell⟩ := hr.at1 hlt
      obtain ⟨x, hx, rfl⟩ : ∃ x, l[k]? = some x ∧ u = .int .u8 (x.toNat : Int) := by
        rw [bcs, List.getElem?_map] at hu
        obtain ⟨x, hx, hxu⟩ := Option.map_eq_some_iff.1 hu
        exact ⟨x, hx, hxu.symm⟩
      have hx256 := x.toNat_lt
      by_cases h10 : k < 10
      · by_cases h2 : x.toNat < 128
        · by_cases h1 : (k < 9 ∨ x.toNat ≤ 1) ∧ (k < 1 ∨ 0 < x.toNat)
          · have hf := dec_fin hx (hd.1 (by omega)) h1 h2
            rw [← valTo_succ hx] at hf
            have hV := valTo_bound (by omega) hx
            have HF := Lib.hid hf
            have HH : Horner l (k + 1) (k + 1) 0 := by show _ = _; simp
            clear hf hd hx hu
            have HV := Lib.hid hV
            clear hV
            by_cases h3 : k < 1
            · go_wp2
              go_loop [6, 7] (fun av iv => ∃ (i : Int) (acc : Nat), -1 ≤ i ∧ i ≤ k ∧ iv = .int .i64 i ∧ av = .int .u64 acc ∧ acc < 18446744073709551616 ∧ Hid (Horner l (k + 1) (i + 1).toNat acc)) (fun _ i => (intOf i + 1).toNat)
              case atStart => exact ⟨_, 0, by omega, by omega, rfl, rfl, by omega, HH⟩
              case round =>
                obtain ⟨i, acc, hi1, hi2, rfl, rfl, hacc, hho⟩ := hrel
                by_cases hi0 : 0 ≤ i
                · obtain ⟨j, rfl⟩ := Int.eq_ofNat_of_zero_le hi0
                  obtain ⟨y, hy, hyc⟩ := gi_cell hr (show j < l.length by omega)
                  have hy256 := y.toNat_lt
                  have hst := horner_step hy (show Horner l (k + 1) (j + 1) acc by have := hho.out; rwa [show ((j : Int) + 1).toNat = j + 1 from by omega] at this)
                  have hle2 := Nat.lt_of_le_of_lt (horner_le hst) HV.out
                  have HST := Lib.hid hst
                  clear hst hho hy hcell HH
                  go_wp2
                  go_round
                  case rel => exact ⟨_, acc * 128 + y.toNat % 128, by omega, by omega, rfl, by go_num, hle2, by rw [show ((j : Int) - 1 + 1).toNat = j from by omega]; exact HST.out⟩
                  case measure => (simp [intOf]; try omega)
                · obtain rfl : i = -1 := by omega
                  have hfin : acc = valTo l (k + 1) := by have := hho.out; unfold Horner at this; simpa [valTo] using this
                  have HFIN := Lib.hid hfin
                  clear hho hfin hcell HH
                  by_cases hodd : acc % 2 = 1
                  all_goals
                    go_wp2
                    go_ret3
                    refine ⟨?_, rfl⟩
                    rw [HF.out, ← HFIN.out]
                    unfold unzz
                    first | rw [if_pos hodd] | rw [if_neg hodd]
                    rfl
            · by_cases h4 : k < 9
              · go_wp2
                go_loop [6, 7] (fun av iv => ∃ (i : Int) (acc : Nat), -1 ≤ i ∧ i ≤ k ∧ iv = .int .i64 i ∧ av = .int .u64 acc ∧ acc < 18446744073709551616 ∧ Hid (Horner l (k + 1) (i + 1).toNat acc)) (fun _ i => (intOf i + 1).toNat)
                case atStart => exact ⟨_, 0, by omega, by omega, rfl, rfl, by omega, HH⟩
                case round =>
                  obtain ⟨i, acc, hi1, hi2, rfl, rfl, hacc, hho⟩ := hrel
                  by_cases hi0 : 0 ≤ i
                  · obtain ⟨j, rfl⟩ := Int.eq_ofNat_of_zero_le hi0
                    obtain ⟨y, hy, hyc⟩ := gi_cell hr (show j < l.length by omega)
                    have hy256 := y.toNat_lt
                    have hst := horner_step hy (show Horner l (k + 1) (j + 1) acc by have := hho.out; rwa [show ((j : Int) + 1).toNat = j + 1 from by omega] at this)
                    have hle2 := Nat.lt_of_le_of_lt (horner_le hst) HV.out
                    have HST := Lib.hid hst
                    clear hst hho hy hcell HH
                    go_wp2
                    go_round
                    case rel => exact ⟨_, acc * 128 + y.toNat % 128, by omega, by omega, rfl, by go_num, hle2, by rw [show ((j : Int) - 1 + 1).toNat = j from by omega]; exact HST.out⟩
                    case measure => (simp [intOf]; try omega)
                  · obtain rfl : i = -1 := by omega
                    have hfin : acc = valTo l (k + 1) := by have := hho.out; unfold Horner at this; simpa [valTo] using this
                    have HFIN := Lib.hid hfin
                    clear hho hfin hcell HH
                    by_cases hodd : acc % 2 = 1
                    all_goals
                      go_wp2
                      go_ret3
                      refine ⟨?_, rfl⟩
                      rw [HF.out, ← HFIN.out]
                      unfold unzz
                      first | rw [if_pos hodd] | rw [if_neg hodd]
                      rfl
              · obtain rfl : k = 9 := by omega
                have hb : ((x.toNat : Int) == 0) = false := by rw [beq_eq_false_iff_ne]; omega
                go_wp2
                go_loop [6, 7] (fun av iv => ∃ (i : Int) (acc : Nat), -1 ≤ i ∧ i ≤ 9 ∧ iv = .int .i64 i ∧ av = .int .u64 acc ∧ acc < 18446744073709551616 ∧ Hid (Horner l (9 + 1) (i + 1).toNat acc)) (fun _ i => (intOf i + 1).toNat)
                case atStart => exact ⟨_, 0, by omega, by omega, rfl, rfl, by omega, HH⟩
                case round =>
                  obtain ⟨i, acc, hi1, hi2, rfl, rfl, hacc, hho⟩ := hrel
                  by_cases hi0 : 0 ≤ i
                  · obtain ⟨j, rfl⟩ := Int.eq_ofNat_of_zero_le hi0
                    obtain ⟨y, hy, hyc⟩ := gi_cell hr (show j < l.length by omega)
                    have hy256 := y.toNat_lt
                    have hst := horner_step hy (show Horner l (9 + 1) (j + 1) acc by have := hho.out; rwa [show ((j : Int) + 1).toNat = j + 1 from by omega] at this)
                    have hle2 := Nat.lt_of_le_of_lt (horner_le hst) HV.out
                    have HST := Lib.hid hst
                    clear hst hho hy hcell HH
                    go_wp2
                    go_round
                    case rel => exact ⟨_, acc * 128 + y.toNat % 128, by omega, by omega, rfl, by go_num, hle2, by rw [show ((j : Int) - 1 + 1).toNat = j from by omega]; exact HST.out⟩
                    case measure => (simp [intOf]; try omega)
                  · obtain rfl : i = -1 := by omega
                    have hfin : acc = valTo l (9 + 1) := by have := hho.out; unfold Horner at this; simpa [valTo] using this
                    have HFIN := Lib.hid hfin
                    clear hho hfin hcell HH
                    by_cases hodd : acc % 2 = 1
                    all_goals
                      go_wp2
                      go_ret3
                      refine ⟨?_, rfl⟩
                      rw [HF.out, ← HFIN.out]
                      unfold unzz
                      first | rw [if_pos hodd] | rw [if_neg hodd]
                      rfl
          · have hf := dec_bad hx (hd.1 (by omega)) (by omega)
            have HF := Lib.hid hf
            clear hx hu hd hf
            by_cases h3 : k < 9
            · have h4 : x.toNat < 1 := by omega
              go_wp2
              go_ret3
              exact ⟨by rw [HF.out]; rfl, rfl⟩
            · by_cases h4 : 1 < x.toNat
              · obtain rfl : k = 9 := by omega
                go_wp2
                go_ret3
                exact ⟨by rw [HF.out]; rfl, rfl⟩
              · obtain rfl : k = 9 := by omega
                have hb : ((x.toNat : Int) == 0) = true := by rw [beq_iff_eq]; omega
                go_wp2
                go_ret3
                exact ⟨by rw [HF.out]; rfl, rfl⟩
        · have hm := lead_step h10 hx (by omega) hd
          clear hx hu hd
          go_wp2
          go_round
          case rel => exact ⟨k + 1, by omega, by omega, by go_num, hm⟩
          case measure => (simp [intOf]; try omega)
      · have HF := Lib.hid (hd.2 (by omega))
        obtain rfl : k = 10 := by omega
        clear hd hx hu
        go_wp2
        go_ret3
        exact ⟨by rw [HF.out]; rfl, rfl⟩
    · obtain rfl : k = l.length := by omega
      by_cases h10 : l.length < 10
      · have HF := Lib.hid (lead_end hd (by omega))
        clear hd hlt
        go_wp2
        go_ret3
        exact ⟨by rw [HF.out]; rfl, rfl⟩
      · have HF := Lib.hid (hd.2 (by omega))
        clear hd hlt
        go_wp2
        go_ret3
        exact ⟨by rw [HF.out]; rfl, rfl⟩
end Go.Proofs.YtienlndjhcmemaaDoor
/-
  Plain laws of the wire encoding: decoding an encoding, canonical encodings, proper prefixes, lengths. No program in sight.
-/
namespace Go.Proofs.YtienlndjhcmemaaDoor
open Go.RowKit

theorem decGo_enc (t : List UInt8) : ∀ (j k z acc : Nat), k + j = 9 → z * 128 ^ k < 18446744073709551616 → (k = 0 ∨ 0 < z) →
    decGo (encN j z ++ t) k acc = (unzz (acc + z * 128 ^ k), (k : Int) + (encN j z).length, 0)
  | 0, k, z, acc, hk, hz, h0 => by
    obtain rfl : k = 9 := by omega
    have hz1 : z < 2 := by
      rcases Nat.lt_or_ge z 2 with h | h
      · exact h
      · have := Nat.mul_le_mul_right (128 ^ 9) h; omega
    obtain rfl : z = 1 := by omega
    simp [encN, decGo]
  | j + 1, k, z, acc, hk, hz, h0 => by
    by_cases h : z < 128
    · rw [encN_last _ _ h]
      simp only [List.cons_append, List.nil_append, decGo]
      rw [ofNat_toNat8 z (by omega), if_neg (by omega), if_pos h, Nat.mod_eq_of_lt h]
      simp
    · rw [encN_step j z (by omega)]
      simp only [List.cons_append, decGo]
      rw [ofNat_toNat8 _ (by omega), if_neg (by omega), if_neg (by omega)]
      have hd : z / 128 * 128 ^ (k + 1) + z % 128 * 128 ^ k = z * 128 ^ k := by
        rw [Nat.pow_succ, Nat.mul_comm (128 ^ k) 128, ← Nat.mul_assoc, ← Nat.add_mul]
        congr 1; omega
      rw [decGo_enc t j (k + 1) (z / 128) _ (by omega) (by omega) (Or.inr (by omega))]
      have e : acc + (z % 128 + 128) % 128 * 128 ^ k + z / 128 * 128 ^ (k + 1) = acc + z * 128 ^ k := by
        rw [show (z % 128 + 128) % 128 = z % 128 from by omega]; omega
      rw [e]
      simp
      omega
theorem dec_enc (n : Int) (t : List UInt8) (h : isI64 n) : dec (enc n ++ t) = (n, ((enc n).length : Int), 0) := by
  unfold dec enc
  rw [decGo_enc t 9 0 (zz n) 0 rfl (by have := zz_lt n h.1 h.2; omega) (Or.inl rfl)]
  simp [unzz_zz]

theorem decGo_canon : ∀ (l : List UInt8) (k acc : Nat) (n u : Int), k ≤ 9 → decGo l k acc = (n, u, 0) →
    (k : Int) < u ∧ ∃ z, l.take (u.toNat - k) = encN (9 - k) z ∧ n = unzz (acc + z * 128 ^ k) ∧ (k = 0 ∨ 0 < z)
  | [], k, acc, n, u, hk, h => by simp [decGo] at h
  | c :: t, k, acc, n, u, hk, h => by
    rw [decGo] at h
    by_cases h1 : (k = 9 ∧ 1 < c.toNat) ∨ (0 < k ∧ c.toNat = 0)
    · rw [if_pos h1] at h; simp at h
    · rw [if_neg h1] at h
      by_cases h2 : c.toNat < 128
      · rw [if_pos h2] at h
        simp only [Prod.mk.injEq, and_true] at h
        obtain ⟨h3, h4⟩ := h
        refine ⟨by omega, c.toNat, ?_, ?_, by omega⟩
        · rw [encN_last _ _ h2, show u.toNat - k = 1 from by omega]
          simp
        · rw [← h3, Nat.mod_eq_of_lt h2]
      · rw [if_neg h2] at h
        have hk9 : k + 1 ≤ 9 := by omega
        obtain ⟨h5, z, h6, h7, h8⟩ := decGo_canon t (k + 1) _ n u hk9 h
        have hz : 0 < z := by omega
        have hc := c.toNat_lt
        refine ⟨by omega, z * 128 + (c.toNat - 128), ?_, ?_, by omega⟩
        · have e1 : 9 - k = (9 - (k + 1)) + 1 := by omega
          have e2 : u.toNat - k = (u.toNat - (k + 1)) + 1 := by omega
          rw [e2, List.take_succ_cons, h6, e1, encN_step _ _ (by omega)]
          have e3 : (z * 128 + (c.toNat - 128)) % 128 + 128 = c.toNat := by omega
          have e4 : (z * 128 + (c.toNat - 128)) / 128 = z := by omega
          rw [e3, e4]
          simp
        · rw [h7]
          congr 1
          rw [Nat.pow_succ, Nat.add_mul, show c.toNat % 128 = c.toNat - 128 from by omega, Nat.mul_assoc, Nat.mul_comm 128 (128 ^ k)]
          omega
theorem dec_canon {l : List UInt8} {n u : Int} (h : dec l = (n, u, 0)) : l.take u.toNat = enc n := by
  obtain ⟨h1, z, h2, h3, _⟩ := decGo_canon l 0 0 n u (by omega) h
  simp at h2 h3
  rw [h2, h3, enc, zz_unzz]

theorem lenDec_enc (n : Nat) (least : Nat) (t : List UInt8) (h1 : 1 ≤ least) (hn : n ≤ 9223372036854775807) (h : n * least ≤ t.length) : lenDec (enc n ++ t) least = ((n : Int), ((enc n).length : Int), 0) := by
  unfold lenDec
  rw [dec_enc n t ⟨by omega, by omega⟩]
  simp only [ne_eq, not_true_eq_false, if_false]
  rw [if_neg (by omega), if_neg]
  rw [List.length_append]
  have : (n : Int) ≤ (((enc n).length + t.length : Nat) - ((enc n).length : Int)) / (least : Int) := by
    rw [Int.le_ediv_iff_mul_le (by omega)]
    have h' : ((n * least : Nat) : Int) ≤ t.length := by omega
    rw [Int.natCast_mul] at h'
    omega
  omega
theorem lenDec_dec {l : List UInt8} {least : Nat} {n u : Int} (h : lenDec l least = (n, u, 0)) : dec l = (n, u, 0) := by
  obtain ⟨a, b, c, hd⟩ : ∃ a b c, dec l = (a, b, c) := ⟨_, _, _, rfl⟩
  unfold lenDec at h
  rw [hd] at h ⊢
  simp only at h
  split at h
  · rename_i hc; simp only [Prod.mk.injEq] at h; exact absurd h.2.2 hc
  · rename_i hc
    split at h
    · simp at h
    · split at h
      · simp at h
      · simp only [Prod.mk.injEq] at h
        obtain ⟨rfl, rfl, _⟩ := h
        have : c = 0 := by omega
        rw [this]

theorem decS_enc (s t : List UInt8) (hs : s.length ≤ 9223372036854775807) : decS (encS s ++ t) = (s, ((encS s).length : Int), 0) := by
  unfold decS encS
  rw [List.append_assoc, lenDec_enc s.length 1 (s ++ t) (by omega) hs (by simp)]
  simp
theorem decS_canon {l s : List UInt8} {u : Int} (h : decS l = (s, u, 0)) : l.take u.toNat = encS s ∧ 0 ≤ u ∧ u ≤ l.length := by
  obtain ⟨a, b, c, hd⟩ : ∃ a b c, lenDec l 1 = (a, b, c) := ⟨_, _, _, rfl⟩
  have hf := lenDec_facts (by omega) hd
  unfold decS at h
  rw [hd] at h
  by_cases h1 : c = 0
  · subst h1
    have hc := dec_canon (lenDec_dec hd)
    simp at h
    obtain ⟨rfl, rfl⟩ := h
    refine ⟨?_, by omega, by omega⟩
    unfold encS
    have e : ((l.drop b.toNat).take a.toNat).length = a.toNat := by rw [List.length_take, List.length_drop]; omega
    rw [e, show ((a.toNat : Nat) : Int) = a from by omega, ← hc, show (b + a).toNat = b.toNat + a.toNat from by omega, List.take_add]
  · simp [h1] at h

section
variable {α : Type} {one : List UInt8 → α × Int × Int} {e : α → List UInt8}
theorem many_enc (l t : List UInt8) : ∀ (xs : List α) (at_ : Nat) (acc : List α), (∀ x ∈ xs, ∀ t, one (e x ++ t) = (x, ((e x).length : Int), 0)) → l.drop at_ = (xs.map e).flatten ++ t →
    many one l xs.length at_ acc = (acc ++ xs, ((at_ + (xs.map e).flatten.length : Nat) : Int), 0)
  | [], at_, acc, _, _ => by simp [many]
  | x :: xs, at_, acc, h, hd => by
    have hx := h x (by simp)
    rw [List.length_cons, many, hd, List.map_cons, List.flatten_cons, List.append_assoc, hx]
    simp only [ne_eq, not_true_eq_false, if_false, Int.toNat_natCast]
    rw [many_enc l t xs (at_ + (e x).length) (acc ++ [x]) (fun y hy => h y (by simp [hy]))]
    · simp; omega
    · rw [← List.drop_drop, hd]
      simp
theorem many_canon (l : List UInt8) (hone : ∀ m x u, one m = (x, u, 0) → m.take u.toNat = e x ∧ 0 ≤ u ∧ u ≤ m.length) : ∀ (n at_ : Nat) (acc r : List α) (u : Int), at_ ≤ l.length → many one l n at_ acc = (r, u, 0) →
    ∃ xs : List α, r = acc ++ xs ∧ xs.length = n ∧ (at_ : Int) ≤ u ∧ u ≤ l.length ∧ l.take u.toNat = l.take at_ ++ (xs.map e).flatten
  | 0, at_, acc, r, u, hle, h => by
    rw [many] at h
    simp only [Prod.mk.injEq] at h
    obtain ⟨rfl, rfl, _⟩ := h
    exact ⟨[], by simp, rfl, by omega, by omega, by simp⟩
  | n + 1, at_, acc, r, u, hle, h => by
    obtain ⟨x, v, c, hx⟩ : ∃ x v c, one (l.drop at_) = (x, v, c) := ⟨_, _, _, rfl⟩
    rw [many, hx] at h
    by_cases hc : c = 0
    · subst hc
      simp only [ne_eq, not_true_eq_false, if_false] at h
      obtain ⟨h1, h2, h3⟩ := hone _ _ _ hx
      rw [List.length_drop] at h3
      obtain ⟨xs, rfl, h5, h6, h7, h8⟩ := many_canon l hone n (at_ + v.toNat) _ r u (by omega) h
      refine ⟨x :: xs, by simp, by simp [h5], by omega, h7, ?_⟩
      rw [h8, List.take_add, h1]
      simp
    · simp [hc] at h
end
theorem flat_ge {α : Type} (e : α → List UInt8) (xs : List α) (h : ∀ x, 0 < (e x).length) : xs.length ≤ (xs.map e).flatten.length := by
  induction xs with
  | nil => simp
  | cons x xs ih => have := h x; simp at ih ⊢; omega
theorem flat_le {α : Type} (e : α → List UInt8) (b : Nat) (h : ∀ x, (e x).length ≤ b) (xs : List α) : (xs.map e).flatten.length ≤ b * xs.length := by
  induction xs with
  | nil => simp
  | cons x xs ih => have := h x; rw [List.map_cons, List.flatten_cons, List.length_append, List.length_cons, Nat.mul_add]; omega
theorem cut_cat (a b : List UInt8) : ((bcs (a ++ b)).drop a.length).take b.length = bcs b := by
  rw [bcs_append, ← bcs_length a, List.drop_left, ← bcs_length b, List.take_length]
theorem rd_take {w : World} {B n c k : Nat} {A : Option Addr} {l : List UInt8} (h : Rd w B 1 A n c (bcs l)) (hk : k ≤ n) : Rd w B 1 A k c (bcs (l.take k)) := by
  have hl := h.len
  rw [bcs_length, Nat.mul_one] at hl
  refine ⟨by rw [bcs_length, List.length_take]; omega, Nat.le_trans hk h.le, h.cap, fun hn => ?_⟩
  obtain ⟨b, off, e, hb, hc⟩ := h.cells (by omega)
  refine ⟨b, off, e, hb, fun j u hu => hc j u ?_⟩
  rw [bcs, List.map_take, List.getElem?_take] at hu
  split at hu
  · exact hu
  · cases hu
theorem encS_pos (s : List UInt8) : 0 < (encS s).length := by unfold encS; have := enc_pos s.length; simp; omega
theorem decList_enc {α : Type} {one : List UInt8 → α × Int × Int} {e : α → List UInt8} (xs : List α) (t : List UInt8) (hl : xs.length ≤ 9223372036854775807) (h : ∀ x ∈ xs, ∀ t, one (e x ++ t) = (x, ((e x).length : Int), 0)) (hp : ∀ x, 0 < (e x).length) :
    decList one (enc xs.length ++ (xs.map e).flatten ++ t) = (xs, ((enc xs.length ++ (xs.map e).flatten).length : Int), 0) := by
  unfold decList
  rw [List.append_assoc, lenDec_enc xs.length 1 _ (by omega) hl (by have := flat_ge e xs hp; rw [List.length_append]; omega)]
  simp only [ne_eq, not_true_eq_false, if_false, Int.toNat_natCast]
  rw [many_enc (e := e) _ t xs (enc xs.length).length [] h (by simp)]
  simp
theorem decI_enc (l : List Int) (t : List UInt8) (hl : l.length ≤ 9223372036854775807) (h : ∀ x ∈ l, isI64 x) : decI (encI l ++ t) = (l, ((encI l).length : Int), 0) :=
  decList_enc l t hl (fun x hx t => dec_enc x t (h x hx)) enc_pos
theorem decT_enc (l : List (List UInt8)) (t : List UInt8) (hl : l.length ≤ 9223372036854775807) (h : ∀ x ∈ l, x.length ≤ 9223372036854775807) : decT (encT l ++ t) = (l, ((encT l).length : Int), 0) :=
  decList_enc l t hl (fun x hx t => decS_enc x t (h x hx)) encS_pos
theorem decD_enc (n : Nat) (D t : List UInt8) (hn : n ≤ 9223372036854775807) (hD : D.length = n * 16) : decD (encD n D ++ t) = (D, ((encD n D).length : Int), 0) := by
  unfold decD encD
  rw [List.append_assoc, lenDec_enc n 16 (D ++ t) (by omega) hn (by simp; omega)]
  simp [hD]
theorem decList_canon {α : Type} {one : List UInt8 → α × Int × Int} {e : α → List UInt8} (hone : ∀ m x u, one m = (x, u, 0) → m.take u.toNat = e x ∧ 0 ≤ u ∧ u ≤ m.length) {l : List UInt8} {r : List α} {u : Int} (h : decList one l = (r, u, 0)) :
    l.take u.toNat = enc r.length ++ (r.map e).flatten ∧ 0 ≤ u ∧ u ≤ l.length := by
  obtain ⟨a, b, c, hd⟩ : ∃ a b c, lenDec l 1 = (a, b, c) := ⟨_, _, _, rfl⟩
  have hf := lenDec_facts (by omega) hd
  unfold decList at h
  rw [hd] at h
  by_cases h1 : c = 0
  · subst h1
    have hc := dec_canon (lenDec_dec hd)
    simp only [ne_eq, not_true_eq_false, if_false] at h
    obtain ⟨xs, h2, h3, h4, h5, h6⟩ := many_canon l hone a.toNat b.toNat [] r u (by omega) h
    simp only [List.nil_append] at h2
    subst h2
    refine ⟨?_, by omega, h5⟩
    rw [h6, hc, h3, show ((a.toNat : Nat) : Int) = a from by omega]
  · simp [h1] at h
theorem dec_canon' (m : List UInt8) (x u : Int) (h : dec m = (x, u, 0)) : m.take u.toNat = enc x ∧ 0 ≤ u ∧ u ≤ m.length := by
  refine ⟨dec_canon h, ?_⟩
  rcases dec_facts h with ⟨_, h1, _, h2, _⟩ | ⟨_, h1, h2⟩ <;> omega
theorem decI_canon {l : List UInt8} {r : List Int} {u : Int} (h : decI l = (r, u, 0)) : l.take u.toNat = encI r ∧ 0 ≤ u ∧ u ≤ l.length := decList_canon dec_canon' h
theorem decT_canon {l : List UInt8} {r : List (List UInt8)} {u : Int} (h : decT l = (r, u, 0)) : l.take u.toNat = encT r ∧ 0 ≤ u ∧ u ≤ l.length := decList_canon (fun _ _ _ h => decS_canon h) h
theorem decD_canon {l D : List UInt8} {u : Int} (h : decD l = (D, u, 0)) : l.take u.toNat = encD (D.length / 16) D ∧ D.length % 16 = 0 ∧ 0 ≤ u ∧ u ≤ l.length := by
  obtain ⟨a, b, c, hd⟩ : ∃ a b c, lenDec l 16 = (a, b, c) := ⟨_, _, _, rfl⟩
  have hf := lenDec_facts (by omega) hd
  unfold decD at h
  rw [hd] at h
  by_cases h1 : c = 0
  · subst h1
    have hc := dec_canon (lenDec_dec hd)
    simp at h
    obtain ⟨rfl, rfl⟩ := h
    have e : ((l.drop b.toNat).take (a.toNat * 16)).length = a.toNat * 16 := by rw [List.length_take, List.length_drop]; omega
    refine ⟨?_, by rw [e]; omega, by omega, by omega⟩
    unfold encD
    rw [e, show ((a.toNat * 16 / 16 : Nat) : Int) = a from by omega, ← hc, show (b + a * 16).toNat = b.toNat + a.toNat * 16 from by omega, List.take_add]
  · simp [h1] at h

/-- The length of an encoding hangs on half of the number alone, and does not fall. -/
theorem encN_len_le : ∀ (j a b : Nat), a / 2 ≤ b / 2 → (encN j a).length ≤ (encN j b).length
  | 0, a, b, _ => by simp [encN]
  | j + 1, a, b, h => by
    by_cases ha : a < 128
    · rw [encN_last _ _ ha]; exact encN_pos (j + 1) b
    · have hb : ¬ b < 128 := by omega
      rw [encN_step _ _ (by omega), encN_step _ _ (by omega)]
      simp only [List.length_cons]
      have := encN_len_le j (a / 128) (b / 128) (by omega)
      omega
def far (n : Int) : Int := max n (-1 - n)
theorem far_zz (n : Int) : far n = ((zz n / 2 : Nat) : Int) := by unfold far zz; split <;> omega
theorem enc_len_le (m n : Int) (h : far m ≤ far n) : (enc m).length ≤ (enc n).length := by
  rw [far_zz, far_zz] at h
  exact encN_len_le 9 _ _ (by omega)
theorem enc_same_len (m : Int) : (enc (-1 - m)).length = (enc m).length := by
  have h : far (-1 - m) = far m := by unfold far; omega
  have h1 := enc_len_le (-1 - m) m (by omega)
  have h2 := enc_len_le m (-1 - m) (by omega)
  omega
theorem enc_one (m : Int) : (enc m).length = 1 ↔ far m < 64 := by
  rw [far_zz, enc]
  by_cases h : zz m < 128
  · rw [encN_last _ _ h]; simp; omega
  · rw [encN_step _ _ (by omega)]
    have := encN_pos 8 (zz m / 128)
    simp only [List.length_cons]
    omega
theorem enc_inj {m n : Int} (hm : isI64 m) (hn : isI64 n) (t u : List UInt8) (h : enc m ++ t = enc n ++ u) : m = n := by
  have h1 := dec_enc m t hm
  have h2 := dec_enc n u hn
  rw [h] at h1
  rw [h1] at h2
  injection h2
theorem enc_prefix {m n : Int} (hm : isI64 m) (hn : isI64 n) : ((enc m).take (min (enc m).length (enc n).length) = (enc n).take (min (enc m).length (enc n).length)) ↔ m = n := by
  constructor
  · intro h
    rcases Nat.le_total (enc m).length (enc n).length with hl | hl
    · rw [Nat.min_eq_left hl, List.take_length] at h
      refine enc_inj hm hn ((enc n).drop (enc m).length) [] ?_
      rw [List.append_nil]
      conv => lhs; rw [h]
      conv => rhs; rw [← List.take_append_drop (enc m).length (enc n)]
      rw [← h]
    · rw [Nat.min_eq_right hl, List.take_length] at h
      refine enc_inj hm hn [] ((enc m).drop (enc n).length) ?_
      rw [List.append_nil]
      rw [← h]
      have hl2 : ((enc m).take (enc n).length).length = (enc n).length := by rw [List.length_take]; omega
      rw [hl2]
      exact (List.take_append_drop _ _).symm
  · rintro rfl; rfl
end Go.Proofs.YtienlndjhcmemaaDoor
