/-
  From an argument as a claim reads it to the words of the walks: what a slice reads as, element by element. No statement is proved here.
-/
import Derived.Test.YtpbebmbkcpdbeaaBase
import Derived.ProofKit
import Derived.OpenShut
import Derived.Deep.Slices
import Derived.SizedLaws
import Derived.Deep.CondSized
namespace Go.Proofs.Ytpbebmbkcpdbeaa
open Go.RowKit Go.ChangeShapes Go.WideShapes

section
variable {H : Type} {enc : TypeId × Value → H} {P : Program} {w : World} {base : Nat} {held : Bool}

theorem chunk_get {α : Type} (f : Nat → List α) (n s : Nat) (hs : 0 < s) (hl : ∀ i, i < n → (f i).length = s) (j : Nat) (u : α) (h : ((List.range n).flatMap f)[j]? = some u) :
    j / s < n ∧ (f (j / s))[j % s]? = some u := by
  induction n generalizing j with
  | zero => simp at h
  | succ n ih =>
    rw [List.range_succ, List.flatMap_append] at h
    have hlen : ((List.range n).flatMap f).length = n * s := by
      clear h ih
      induction n with
      | zero => simp
      | succ n ih2 =>
        rw [List.range_succ, List.flatMap_append, List.length_append, ih2 (fun i hi => hl i (by omega))]
        simp [hl n (by omega), Nat.add_mul]
    rcases Nat.lt_or_ge j (n * s) with hj | hj
    · rw [List.getElem?_append_left (by omega)] at h
      obtain ⟨h1, h2⟩ := ih (fun i hi => hl i (by omega)) j h
      exact ⟨by omega, h2⟩
    · rw [List.getElem?_append_right (by omega), hlen] at h
      simp only [List.flatMap_cons, List.flatMap_nil, List.append_nil] at h
      have hlt : j - n * s < s := by
        have := (List.getElem?_eq_some_iff.1 h).1
        rw [hl n (by omega)] at this; exact this
      have hd : j / s = n := by
        rw [show j = (j - n * s) + n * s from by omega, Nat.add_mul_div_right _ _ hs, Nat.div_eq_of_lt hlt, Nat.zero_add]
      have hm : j % s = j - n * s := by
        rw [show j = (j - n * s) + n * s from by omega, Nat.add_mul_mod_self_right, Nat.mod_eq_of_lt hlt]; omega
      rw [hd, hm]
      exact ⟨by omega, h⟩

/-- A slice that came in, its elements of one type, each of s cells. -/
theorem br_slice {α : Type} {t e : TypeId} {s : Nat} (f : α → List Value) (R : α → DataW H → Prop) (ht : P.underlying t = some (.slice e)) (hs : P.cellsOf e = s) (hpos : 0 < s)
    (el : ∀ fuel cs' d pl, cs'.length = s → DataW.trod enc P w base (fun _ => true) held fuel e cs' = some (d, pl) → ∃ x : α, cs' = f x ∧ R x d)
    {fuel : Nat} {cs : List Value} {x : DataW H × List MemPlace} (h : DataW.trod enc P w base (fun _ => true) held fuel t cs = some x) :
    ∃ (A : Option Addr) (n c : Nat) (xs : List α) (D sp : List (DataW H)), cs = [.slice A n c] ∧ xs.length = n ∧ Rd w w.heap.size s A n c (xs.flatMap f) ∧
      (∀ y ∈ xs, (f y).length = s) ∧ (x.1 = .slice D sp ∨ x.1 = .nil ∧ n = 0) ∧ D.length = n ∧ (∀ (i : Nat) (y : α), xs[i]? = some y → ∃ d, D[i]? = some d ∧ R y d) := by
  rcases Deep.open_slice ht h with ⟨rfl, rfl⟩ | ⟨a, len, cap, m, k, D, Pl, rfl, hb, hl, hm, hmc, rfl, hel⟩
  · exact ⟨none, 0, 0, [], [], [], rfl, rfl, Rd.nil _ _ _, by simp, Or.inr ⟨rfl, rfl⟩, rfl, by simp⟩
  · simp only [if_true] at hmc
    subst hmc
    by_cases h0 : len = 0
    · subst h0
      exact ⟨some a, 0, m, [], [], _, rfl, rfl, ⟨by simp, Nat.zero_le _, hm, fun hh => absurd hh (by omega)⟩, by simp, Or.inl rfl, rfl, by simp⟩
    have each : ∀ i, i < len → ∃ y : α, w.cells? base (a.add (i * s)) s = some (f y) ∧ (f y).length = s ∧ R y (D i) := by
      intro i hi
      obtain ⟨cs', hc, ht'⟩ := hel i (by omega)
      rw [hs] at hc
      have hcl := (World.cells?_some hc).2.1
      obtain ⟨y, rfl, hR⟩ := el k cs' _ _ hcl ht'
      exact ⟨y, hc, hcl, hR⟩
    obtain ⟨y0, _⟩ := each 0 (by omega)
    have : Inhabited α := ⟨y0⟩
    obtain ⟨F, hF⟩ := Deep.choose_lt each
    obtain ⟨hc0, hl0, _⟩ := hF 0 (by omega)
    have hget : ∀ i, i < len → ∀ j u, (f (F i))[j]? = some u → w.cell? (a.add (i * s + j)) = some u := by
      intro i hi j u hj
      have hjl := (List.getElem?_eq_some_iff.1 hj).1
      rw [(hF i hi).2.1] at hjl
      have := (World.cells?_some (hF i hi).1).2.2 j hjl
      rw [hj, Deep.add_add] at this
      exact this
    have hspot : a = ⟨a.block, a.off, none⟩ := by
      obtain ⟨u, hu⟩ : ∃ u, (f (F 0))[0]? = some u := ⟨(f (F 0))[0]'(by omega), List.getElem?_eq_getElem (by omega)⟩
      have hc := hget 0 (by omega) 0 u hu
      rw [Nat.zero_mul, Nat.zero_add] at hc
      cases a with
      | mk b o spo =>
        cases spo with
        | none => rfl
        | some q =>
          exfalso
          simp only [Addr.add, if_true] at hc
          unfold World.cell? at hc
          split at hc <;> simp at hc
    have hadd : ∀ j, a.add j = ⟨a.block, a.off + j, none⟩ := by
      intro j
      unfold Addr.add
      split
      · rename_i hj; subst hj; exact hspot
      · rfl
    refine ⟨some a, len, m, (List.range len).map F, (List.range len).map D, _, rfl, by simp, ?_, ?_, Or.inl rfl, by simp, ?_⟩
    · have hfl : ((List.range len).map F).flatMap f = (List.range len).flatMap fun i => f (F i) := by rw [List.flatMap_map]
      rw [hfl]
      refine ⟨?_, hl, hm, fun _ => ⟨a.block, a.off, congrArg some hspot, ?_, fun j u hj => ?_⟩⟩
      · rw [List.length_flatMap]
        have e : (List.range len).map (fun i => (f (F i)).length) = (List.range len).map fun _ => s := List.map_congr_left fun i hi => (hF i (List.mem_range.1 hi)).2.1
        rw [e, List.map_const', List.length_range]; simp [List.sum_replicate_nat]
      · obtain ⟨u, hu⟩ : ∃ u, (f (F 0))[0]? = some u := ⟨(f (F 0))[0]'(by omega), List.getElem?_eq_getElem (by omega)⟩
        have hc := hget 0 (by omega) 0 u hu
        rw [hadd] at hc
        exact World.block_lt_of_cell? w ⟨a.block, _, none⟩ hc
      · obtain ⟨h1, h2⟩ := chunk_get (fun i => f (F i)) len s hpos (fun i hi => (hF i hi).2.1) j u hj
        have := hget _ h1 _ _ h2
        rw [hadd] at this
        rw [show j = j / s * s + j % s from (Nat.div_add_mod' j s).symm]
        exact this
    · intro y hy
      obtain ⟨i, hi, rfl⟩ := List.mem_map.1 hy
      exact (hF i (List.mem_range.1 hi)).2.1
    · intro i y hy
      rw [List.getElem?_map] at hy
      obtain ⟨i', hi', rfl⟩ := Option.map_eq_some_iff.1 hy
      have hlt : i < len := by
        have := (List.getElem?_eq_some_iff.1 hi').1
        simpa using this
      have : i' = i := by
        have h := List.getElem?_range hlt
        rw [h] at hi'; exact (Option.some.inj hi').symm
      subst this
      exact ⟨D i', by rw [List.getElem?_map, hi']; rfl, (hF i' hlt).2.2⟩

/-- An array of integers by value, or among cells. -/
theorem br_arr {t e : TypeId} {n : Nat} {k : IntKind} (ht : P.underlying t = some (.array n e)) (he : P.underlying e = some (.int k)) (hc : P.cellsOf e = 1) (hct : P.cellsOf t = n)
    {fuel : Nat} {cs : List Value} {x : DataW H × List MemPlace} {spare : Nat → Bool} (h : DataW.trod enc P w base spare held fuel t cs = some x) :
    ∃ zs : List Int, cs = zs.map (Value.int k) ∧ zs.length = n ∧ (∀ z ∈ zs, (Lit.int k z).wf = true) ∧ x = (.agg (zs.map fun z => .lit (.int k z)), []) := by
  obtain ⟨xs, m, _, rfl, hl, hxn, hel⟩ := DataW.trod_array ht h
  rw [hct] at hl
  have each : ∀ i, i < n → ∃ z, cs[i]? = some (.int k z) ∧ (Lit.int k z).wf = true ∧ xs[i]? = some (.lit (.int k z), []) := by
    intro i hi
    have h1 := hel i hi
    rw [hc, Nat.mul_one] at h1
    have hi' : i < cs.length := by omega
    have h2 : (cs.drop i).take 1 = [cs[i]] := by rw [List.drop_eq_getElem_cons hi']; rfl
    rw [h2] at h1
    have hi2 : i < xs.length := by omega
    rw [List.getElem?_eq_getElem hi2] at h1
    obtain ⟨z, hz1, hz2, hz3⟩ := DataW.trod_int he h1
    injection hz1 with hz1 _
    exact ⟨z, by rw [List.getElem?_eq_getElem hi', hz1], hz3, by rw [List.getElem?_eq_getElem hi2, hz2]⟩
  obtain ⟨F, hF⟩ := Deep.choose_lt each
  refine ⟨(List.range n).map F, ?_, by simp, ?_, ?_⟩
  · apply List.ext_getElem?
    intro i
    by_cases hi : i < n
    · rw [(hF i hi).1]; simp [hi]
    · rw [List.getElem?_eq_none (by omega), List.getElem?_eq_none (by simp; omega)]
  · intro z hz
    obtain ⟨i, hi, rfl⟩ := List.mem_map.1 hz
    exact (hF i (List.mem_range.1 hi)).2.1
  · have e : xs = (List.range n).map fun i => ((.lit (.int k (F i)), []) : DataW H × List MemPlace) := by
      apply List.ext_getElem?
      intro i
      by_cases hi : i < n
      · rw [(hF i hi).2.2]; simp [hi]
      · rw [List.getElem?_eq_none (by omega), List.getElem?_eq_none (by simp; omega)]
    rw [e]
    simp [Function.comp_def]

theorem flat_one {α β : Type} (f : α → β) : ∀ l : List α, l.map f = l.flatMap fun x => [f x]
  | [] => rfl
  | x :: l => by rw [List.map_cons, List.flatMap_cons, flat_one f l]; rfl
/-- A slice of integers that came in. -/
theorem br_ints {t e : TypeId} {k : IntKind} (ht : P.underlying t = some (.slice e)) (he : P.underlying e = some (.int k)) (hc : P.cellsOf e = 1) {a0 : Option Addr} {n0 c0 : Nat} {d : DataW H} {pl : List MemPlace}
    (h : DataW.Trod enc P w base (fun _ => true) held t (.slice a0 n0 c0) d pl) :
    ∃ (zs : List Int) (D sp : List (DataW H)), Rd w w.heap.size 1 a0 n0 c0 (zs.map (Value.int k)) ∧ (∀ z ∈ zs, (Lit.int k z).wf = true) ∧
      (d = .slice D sp ∨ d = .nil ∧ n0 = 0) ∧ D.length = n0 := by
  obtain ⟨fuel, hf⟩ := h
  obtain ⟨A, n, c, xs, D, sp, hcs, hn, hr, _, hd, hD, hR⟩ := br_slice (fun z => [Value.int k z]) (fun z (_ : DataW H) => (Lit.int k z).wf = true) ht hc (by decide)
    (fun fuel cs' d pl _ hh => by obtain ⟨z, rfl, _, hz⟩ := DataW.trod_int he hh; exact ⟨z, rfl, hz⟩) hf
  simp only [Value.cells, List.cons.injEq, Value.slice.injEq, and_true] at hcs
  obtain ⟨rfl, rfl, rfl⟩ := hcs
  refine ⟨xs, D, sp, ?_, ?_, hd, hD⟩
  · rw [show xs.map (Value.int k) = xs.flatMap fun z => [Value.int k z] from by rw [flat_one]]; exact hr
  · intro z hz
    obtain ⟨i, hi⟩ := List.getElem?_of_mem hz
    obtain ⟨_, _, h⟩ := hR i z hi
    exact h
theorem u8_list (zs : List Int) (h : ∀ z ∈ zs, (Lit.int .u8 z).wf = true) : zs.map (Value.int .u8) = bcs (zs.map fun z => UInt8.ofNat z.toNat) := by
  rw [bcs, List.map_map]
  refine List.map_congr_left fun z hz => ?_
  have hb := h z hz
  have hb' : 0 ≤ z ∧ z ≤ 255 := by simpa [Lit.wf, IntKind.min, IntKind.max, IntKind.signed, IntKind.bits] using hb
  simp only [Function.comp_def, bc]
  congr 1
  simp
  omega
/-- A slice of bytes that came in. -/
theorem br_bytes {t e : TypeId} (ht : P.underlying t = some (.slice e)) (he : P.underlying e = some (.int .u8)) (hc : P.cellsOf e = 1) {a0 : Option Addr} {n0 c0 : Nat} {d : DataW H} {pl : List MemPlace}
    (h : DataW.Trod enc P w base (fun _ => true) held t (.slice a0 n0 c0) d pl) :
    ∃ (l : List UInt8) (D sp : List (DataW H)), Rd w w.heap.size 1 a0 n0 c0 (bcs l) ∧ (d = .slice D sp ∨ d = .nil ∧ n0 = 0) ∧ D.length = n0 := by
  obtain ⟨zs, D, sp, hr, hz, hd, hD⟩ := br_ints ht he hc h
  exact ⟨_, D, sp, by rw [← u8_list zs hz]; exact hr, hd, hD⟩
/-- A slice of texts that came in. -/
theorem br_texts {t e : TypeId} (ht : P.underlying t = some (.slice e)) (he : P.underlying e = some .string) (hc : P.cellsOf e = 1) {a0 : Option Addr} {n0 c0 : Nat} {d : DataW H} {pl : List MemPlace}
    (h : DataW.Trod enc P w base (fun _ => true) held t (.slice a0 n0 c0) d pl) :
    ∃ (l : List (List UInt8)) (D sp : List (DataW H)), Rd w w.heap.size 1 a0 n0 c0 (l.map fun s => Value.string ⟨s.toArray⟩) ∧
      (d = .slice D sp ∨ d = .nil ∧ n0 = 0) ∧ D.length = n0 ∧ (∀ (i : Nat) (s : List UInt8), l[i]? = some s → D[i]? = some (.lit (.string s))) := by
  obtain ⟨fuel, hf⟩ := h
  obtain ⟨A, n, c, xs, D, sp, hcs, hn, hr, _, hd, hD, hR⟩ := br_slice (fun s : List UInt8 => [Value.string ⟨s.toArray⟩]) (fun s (d : DataW H) => d = .lit (.string s)) ht hc (by decide)
    (fun fuel cs' d pl _ hh => by
      obtain ⟨s, rfl, hx, _⟩ := DataW.trod_string he hh
      refine ⟨s.data.toList, by simp, ?_⟩
      injection hx) hf
  simp only [Value.cells, List.cons.injEq, Value.slice.injEq, and_true] at hcs
  obtain ⟨rfl, rfl, rfl⟩ := hcs
  refine ⟨xs, D, sp, ?_, hd, hD, ?_⟩
  · rw [show (xs.map fun s => Value.string ⟨s.toArray⟩) = xs.flatMap fun s => [Value.string ⟨s.toArray⟩] from by rw [flat_one]]; exact hr
  · intro i s hi
    obtain ⟨d', h1, rfl⟩ := hR i s hi
    exact h1
theorem bcs_flat (xs : List (List UInt8)) : xs.flatMap bcs = bcs xs.flatten := by
  rw [bcs, List.map_flatten, List.flatMap_def]; rfl
/-- A slice of digests that came in: its bytes, one digest behind the other. -/
theorem br_digs {t e b : TypeId} {s : Nat} (ht : P.underlying t = some (.slice e)) (he : P.underlying e = some (.array s b)) (hb : P.underlying b = some (.int .u8)) (hcb : P.cellsOf b = 1) (hc : P.cellsOf e = s) (hpos : 0 < s)
    {a0 : Option Addr} {n0 c0 : Nat} {d : DataW H} {pl : List MemPlace} (h : DataW.Trod enc P w base (fun _ => true) held t (.slice a0 n0 c0) d pl) :
    ∃ (l : List UInt8) (D sp : List (DataW H)), Rd w w.heap.size s a0 n0 c0 (bcs l) ∧ (d = .slice D sp ∨ d = .nil ∧ n0 = 0) ∧ D.length = n0 := by
  obtain ⟨fuel, hf⟩ := h
  obtain ⟨A, n, c, xs, D, sp, hcs, hn, hr, _, hd, hD, hR⟩ := br_slice bcs (fun _ (_ : DataW H) => True) ht hc hpos
    (fun fuel cs' d pl _ hh => by
      obtain ⟨zs, rfl, _, hz, _⟩ := br_arr he hb hcb hc hh
      exact ⟨_, u8_list zs hz, trivial⟩) hf
  simp only [Value.cells, List.cons.injEq, Value.slice.injEq, and_true] at hcs
  obtain ⟨rfl, rfl, rfl⟩ := hcs
  exact ⟨xs.flatten, D, sp, by rw [← bcs_flat]; exact hr, hd, hD⟩
/-- An array of bytes that came in by value. -/
theorem br_dig {t b : TypeId} {n : Nat} (ht : P.underlying t = some (.array n b)) (hb : P.underlying b = some (.int .u8)) (hcb : P.cellsOf b = 1) (hct : P.cellsOf t = n) {W : World} {r : Reach} {b0 : Nat} {v : Value} {d : DataW H} {pl : List MemPlace}
    (hval : Value.okWide P W r b0 t v) (h : DataW.Trod enc P w base (fun _ => true) held t v d pl) : ∃ l : List UInt8, v = .agg (bcs l).toArray ∧ l.length = n := by
  simp only [Value.okWide, ht] at hval
  obtain ⟨cs, rfl, _, _⟩ := hval
  obtain ⟨fuel, hf⟩ := h
  obtain ⟨zs, hcs, hl, hz, _⟩ := br_arr ht hb hcb hct hf
  refine ⟨zs.map fun z => UInt8.ofNat z.toNat, ?_, by rw [List.length_map]; exact hl⟩
  have h2 : cs.toList = zs.map (Value.int .u8) := hcs
  rw [← u8_list zs hz, ← h2]
/-- An array of integers that came in by value. -/
theorem br_arrI {t b : TypeId} {n : Nat} {k : IntKind} (ht : P.underlying t = some (.array n b)) (hb : P.underlying b = some (.int k)) (hcb : P.cellsOf b = 1) (hct : P.cellsOf t = n) {W : World} {r : Reach} {b0 : Nat} {v : Value} {d : DataW H} {pl : List MemPlace}
    (hval : Value.okWide P W r b0 t v) (h : DataW.Trod enc P w base (fun _ => true) held t v d pl) : ∃ l : List Int, v = .agg (l.map (Value.int k)).toArray ∧ l.length = n ∧ ∀ z ∈ l, (Lit.int k z).wf = true := by
  simp only [Value.okWide, ht] at hval
  obtain ⟨cs, rfl, _, _⟩ := hval
  obtain ⟨fuel, hf⟩ := h
  obtain ⟨zs, hcs, hl, hz, _⟩ := br_arr ht hb hcb hct hf
  have h2 : cs.toList = zs.map (Value.int k) := hcs
  exact ⟨zs, by rw [← h2], hl, hz⟩
end
end Go.Proofs.Ytpbebmbkcpdbeaa
