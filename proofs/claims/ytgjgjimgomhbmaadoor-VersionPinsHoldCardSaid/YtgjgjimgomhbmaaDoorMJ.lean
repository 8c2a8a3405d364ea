/-
  MJ: several texts in one. No statement is proved here.
-/
import Derived.Test.YtgjgjimgomhbmaaDoorMH
import Derived.Test.YtgjgjimgomhbmaaDoorME
import Derived.Test.YtgjgjimgomhbmaaDoorMC
import Derived.Test.YtgjgjimgomhbmaaDoorCards
import Derived.Test.YtgjgjimgomhbmaaDoorTie
import Derived.Test.YtgjgjimgomhbmaaDoorMA
import Derived.ProofKit
import Derived.OpenShut
import Derived.Deep.DeepHandedRow
import Derived.Lib.LaidTab
set_option linter.unusedVariables false
set_option linter.unusedSimpArgs false
namespace Go.Proofs.YtgjgjimgomhbmaaDoor
/-- A table, beside the headers that were added and their pins. -/
structure PinSt (T : List Vr) (nx : Int) (hs : List Hd) (ps : List Int) : Prop where
  nx : nx = (hs.length : Int) + 1
  len : ps.length = hs.length
  num : ∀ v ∈ T, 1 ≤ v.num ∧ v.num ≤ (hs.length : Int)
  hd : ∀ v ∈ T, hs[(v.num - 1).toNat]? = some v.h
  pn : ∀ v ∈ T, ps[(v.num - 1).toNat]? = some v.pins
  dist : (T.map (·.num)).Pairwise (· ≠ ·)
  has : ∀ (k : Nat) (p : Int), ps[k]? = some p → p ≠ 0 → ∃ v ∈ T, v.num = (k : Int) + 1
  sum : ps.sum = sumV T
theorem PinSt.start : PinSt [] 1 [] [] := ⟨rfl, rfl, fun _ h => (by cases h), fun _ h => (by cases h), fun _ h => (by cases h), .nil, fun _ _ h => (by simp at h), rfl⟩
theorem get_app {α : Type} {l : List α} {k : Nat} {x y : α} (h : l[k]? = some x) : (l ++ [y])[k]? = some x := by
  rw [List.getElem?_append_left (List.getElem?_eq_some_iff.1 h).1]; exact h
section
variable {T : List Vr} {nx m : Int} {hs : List Hd} {ps : List Int} {kind n : Int} {h : Hd}
theorem pins_add (g : PinSt T nx hs ps) (k1 : kind = 1) (he : (stepV T nx kind n h).2.2.2.2 = 0) :
    (stepV T nx kind n h).2.2.1 = (hs.length : Int) + 1 ∧ PinSt (stepV T nx kind n h).1 (stepV T nx kind n h).2.1 (hs ++ [h]) (ps ++ [0]) := by
  rw [stepV_1 k1] at he ⊢
  unfold addV at he ⊢
  by_cases h1 : ckH h ≠ 0
  · rw [if_pos h1] at he; simp at he
  · rw [if_neg h1] at he ⊢
    by_cases h2 : 0 < T.length ∧ ¬ covers h (T.getD (T.length - 1) vr0).h
    · rw [if_pos h2] at he; simp at he
    · rw [if_neg h2] at he ⊢
      by_cases h3 : 100 ≤ T.length
      · rw [if_pos h3] at he; simp at he
      · rw [if_neg h3]
        refine ⟨g.nx, by show nx + 1 = _; rw [List.length_append, g.nx]; simp, by simp [g.len], ?_, ?_, ?_, ?_, ?_, ?_⟩
        · intro v hv
          rw [List.length_append]
          rcases List.mem_append.1 hv with hv | hv
          · have := g.num v hv; simp; omega
          · simp at hv; subst hv; have := g.nx; simp; omega
        · intro v hv
          rcases List.mem_append.1 hv with hv | hv
          · exact get_app (g.hd v hv)
          · simp at hv; subst hv
            have e : (nx - 1).toNat = hs.length := by have := g.nx; omega
            show (hs ++ [h])[(nx - 1).toNat]? = some h
            rw [e]; simp
        · intro v hv
          rcases List.mem_append.1 hv with hv | hv
          · exact get_app (g.pn v hv)
          · simp at hv; subst hv
            have e : (nx - 1).toNat = ps.length := by have := g.nx; have := g.len; omega
            show (ps ++ [0])[(nx - 1).toNat]? = some 0
            rw [e]; simp
        · show (((T ++ [⟨nx, 0, h⟩] : List Vr)).map (·.num)).Pairwise (· ≠ ·)
          rw [List.map_append]
          refine List.pairwise_append.2 ⟨g.dist, by simp, fun a ha b hb => ?_⟩
          obtain ⟨v, hv, rfl⟩ := List.mem_map.1 ha
          simp at hb
          have h5 := g.num v hv
          have h6 := g.nx
          omega
        · intro k p hk hp
          rcases Nat.lt_or_ge k ps.length with hl | hl
          · rw [List.getElem?_append_left hl] at hk
            obtain ⟨v, hv, e⟩ := g.has k p hk hp
            exact ⟨v, List.mem_append_left _ hv, e⟩
          · rw [List.getElem?_append_right hl] at hk
            have h5 := List.mem_of_getElem? hk
            simp at h5
            exact absurd h5 hp
        · show (ps ++ [0]).sum = sumV (T ++ [⟨nx, 0, h⟩])
          have h7 := g.sum
          simp [sumV] at h7 ⊢
          exact h7
theorem pins_set (g : PinSt T nx hs ps) {i : Nat} {v : Vr} (hv : T[i]? = some v) (d : Int) :
    ∃ p, ps[(v.num - 1).toNat]? = some p ∧ PinSt (setPins T i d) nx hs (ps.set (v.num - 1).toNat (p + d)) := by
  have hm := List.mem_of_getElem? hv
  have hp := g.pn v hm
  have hn := g.num v hm
  have hil := (List.getElem?_eq_some_iff.1 hv).1
  have hpl := (List.getElem?_eq_some_iff.1 hp).1
  refine ⟨v.pins, hp, ?_⟩
  have e : setPins T i d = T.set i ⟨v.num, v.pins + d, v.h⟩ := by unfold setPins; rw [getD_some hv]
  rw [e]
  have hnum : (T.set i ⟨v.num, v.pins + d, v.h⟩).map (·.num) = T.map (·.num) := by
    rw [List.map_set]
    apply List.ext_getElem?
    intro j
    rw [List.getElem?_set]
    split
    · rename_i hj
      subst hj
      rw [if_pos (by simpa using hil), List.getElem?_map, hv]; rfl
    · rfl
  -- the others have other numbers
  have other : ∀ u ∈ T.set i ⟨v.num, v.pins + d, v.h⟩, u = ⟨v.num, v.pins + d, v.h⟩ ∨ (u ∈ T ∧ u.num ≠ v.num) := by
    intro u hu
    obtain ⟨j, hj, hje⟩ := List.getElem_of_mem hu
    rw [List.length_set] at hj
    by_cases hij : i = j
    · subst hij; left; rw [← hje]; simp
    · right
      rw [List.getElem_set_ne hij] at hje
      refine ⟨hje ▸ List.getElem_mem hj, fun e => ?_⟩
      have hd := g.dist
      rw [List.pairwise_iff_getElem] at hd
      have hvi : T[i] = v := (List.getElem?_eq_some_iff.1 hv).2
      rcases Nat.lt_or_gt_of_ne hij with hlt | hlt
      · have := hd i j (by simpa using hil) (by simpa using hj) hlt
        simp only [List.getElem_map, hvi, hje] at this
        exact this e.symm
      · have := hd j i (by simpa using hj) (by simpa using hil) hlt
        simp only [List.getElem_map, hvi, hje] at this
        exact this e
  refine ⟨g.nx, by rw [List.length_set]; exact g.len, ?_, ?_, ?_, by rw [hnum]; exact g.dist, ?_, ?_⟩
  · intro u hu
    rcases other u hu with rfl | ⟨hu, _⟩
    · exact hn
    · exact g.num u hu
  · intro u hu
    rcases other u hu with rfl | ⟨hu, _⟩
    · exact g.hd v hm
    · exact g.hd u hu
  · intro u hu
    rcases other u hu with rfl | ⟨hu, hne⟩
    · show (ps.set (v.num - 1).toNat (v.pins + d))[(v.num - 1).toNat]? = some (v.pins + d)
      rw [List.getElem?_set_self hpl]
    · have h1 := g.num u hu
      rw [List.getElem?_set_ne (by omega)]
      exact g.pn u hu
  · intro k p hk hp0
    by_cases hkk : (v.num - 1).toNat = k
    · exact ⟨⟨v.num, v.pins + d, v.h⟩, List.mem_of_getElem? (List.getElem?_set_self hil), by show v.num = _; omega⟩
    · rw [List.getElem?_set_ne hkk] at hk
      obtain ⟨u, hu, hun⟩ := g.has k p hk hp0
      obtain ⟨j, hj, hje⟩ := List.getElem_of_mem hu
      by_cases hij : i = j
      · subst hij
        have : u = v := by rw [← hje]; exact (List.getElem?_eq_some_iff.1 hv).2
        subst this
        exact ⟨⟨u.num, u.pins + d, u.h⟩, List.mem_of_getElem? (List.getElem?_set_self hil), hun⟩
      · refine ⟨u, ?_, hun⟩
        have h5 : (T.set i ⟨v.num, v.pins + d, v.h⟩)[j]? = some u := by
          rw [List.getElem?_set_ne hij, List.getElem?_eq_getElem hj, hje]
        exact List.mem_of_getElem? h5
  · rw [sumV_set hv]
    have h7 := g.sum
    have key : ∀ (l : List Int) (k : Nat) (x y : Int), l[k]? = some x → (l.set k y).sum = l.sum - x + y := by
      intro l
      induction l with
      | nil => intro k x y hk; simp at hk
      | cons a l ih =>
        intro k x y hk
        cases k with
        | zero => simp at hk; subst hk; simp; omega
        | succ k => have := ih k x y (by simpa using hk); simp; omega
    rw [key _ _ _ _ hp, h7]
theorem pins_pin (g : PinSt T nx hs ps) (k1 : ¬ kind = 1) (k2 : kind = 2) (he : (stepV T nx kind n h).2.2.2.2 = 0) :
    1 ≤ n ∧ n ≤ (ps.length : Int) ∧ ∃ p, ps[(n - 1).toNat]? = some p ∧ PinSt (stepV T nx kind n h).1 (stepV T nx kind n h).2.1 hs (ps.set (n - 1).toNat (p + 1)) := by
  rw [stepV_2 k1 k2] at he ⊢
  unfold pinV at he ⊢
  by_cases h1 : placeV T n < 0
  · rw [if_pos h1] at he; simp at he
  · rw [if_neg h1] at he ⊢
    by_cases h2 : 64 ≤ sumV T
    · rw [if_pos h2] at he; simp at he
    · rw [if_neg h2]
      rcases placeV_spec n T with h3 | ⟨i, v, h3, h4, rfl⟩
      · omega
      · have hn := g.num v (List.mem_of_getElem? h4)
        obtain ⟨p, hp, gp⟩ := pins_set g h4 1
        rw [h3]
        exact ⟨hn.1, by have := g.len; omega, p, hp, gp⟩
theorem pins_unpin (g : PinSt T nx hs ps) (k1 : ¬ kind = 1) (k2 : ¬ kind = 2) (k3 : kind = 3) (he : (stepV T nx kind n h).2.2.2.2 = 0) :
    1 ≤ n ∧ n ≤ (ps.length : Int) ∧ ∃ p, ps[(n - 1).toNat]? = some p ∧ PinSt (stepV T nx kind n h).1 (stepV T nx kind n h).2.1 hs (ps.set (n - 1).toNat (p - 1)) := by
  rw [stepV_3 k1 k2 k3] at he ⊢
  unfold unpinV at he ⊢
  by_cases h1 : placeV T n < 0 ∨ (T.getD (placeV T n).toNat vr0).pins = 0
  · rw [if_pos h1] at he; simp at he
  · rw [if_neg h1]
    rcases placeV_spec n T with h3 | ⟨i, v, h3, h4, rfl⟩
    · exact absurd (Or.inl (by omega)) h1
    · have hn := g.num v (List.mem_of_getElem? h4)
      obtain ⟨p, hp, gp⟩ := pins_set g h4 (-1)
      rw [h3]
      exact ⟨hn.1, by have := g.len; omega, p, hp, gp⟩
theorem mem_selV {N : Nat} {keep : Int} {v : Vr} : ∀ {l : List Vr} {i : Nat}, v ∈ l → 0 < v.pins → v ∈ selV N keep true i l
  | [], _, h, _ => by cases h
  | u :: l, i, h, hp => by
    unfold selV
    rcases List.mem_cons.1 h with rfl | h
    · rw [if_pos (by unfold kpV; simp [hp])]; exact List.mem_cons_self
    · split
      · exact List.mem_cons_of_mem _ (mem_selV h hp)
      · exact mem_selV h hp
theorem sum_selV {N : Nat} {keep : Int} : ∀ {l : List Vr} {i : Nat}, (∀ v ∈ l, 0 ≤ v.pins) → sumV (selV N keep true i l) = sumV l
  | [], _, _ => rfl
  | u :: l, i, h => by
    have ih := sum_selV (N := N) (keep := keep) (l := l) (i := i + 1) fun v hv => h v (List.mem_cons_of_mem _ hv)
    have h0 := h u List.mem_cons_self
    have e : ∀ m : List Vr, sumV (u :: m) = u.pins + sumV m := fun m => by simp [sumV]
    unfold selV
    split
    · rw [e, e, ih]
    · rename_i hk
      rw [e, ih]
      have : ¬ 0 < u.pins := fun h5 => hk (by unfold kpV; simp [h5])
      omega
theorem pins_coll (g : PinSt T nx hs ps) (gv : GoodV T nx m) (k1 : ¬ kind = 1) (k2 : ¬ kind = 2) (k3 : ¬ kind = 3) : PinSt (stepV T nx kind n h).1 (stepV T nx kind n h).2.1 hs ps := by
  rw [stepV_4 k1 k2 k3]
  unfold collV
  have hsub := selV_sub T.length n true 0 T
  refine ⟨g.nx, g.len, fun v hv => g.num v (hsub.subset hv), fun v hv => g.hd v (hsub.subset hv), fun v hv => g.pn v (hsub.subset hv), g.dist.sublist (hsub.map _), fun k p hk hp => ?_, ?_⟩
  · obtain ⟨v, hv, e⟩ := g.has k p hk hp
    have h1 := g.pn v hv
    rw [show (v.num - 1).toNat = k by omega, hk] at h1
    injection h1 with h1
    have h2 := gv.pos v hv
    exact ⟨v, mem_selV hv (by omega), e⟩
  · rw [g.sum]; exact (sum_selV gv.pos).symm
theorem pins_pos (g : PinSt T nx hs ps) (gv : GoodV T nx m) {k : Nat} {p : Int} (hk : ps[k]? = some p) : 0 ≤ p := by
  by_cases hp : p = 0
  · omega
  · obtain ⟨v, hv, e⟩ := g.has k p hk hp
    have h1 := g.pn v hv
    rw [show (v.num - 1).toNat = k by omega, hk] at h1
    injection h1 with h1
    have := gv.pos v hv
    omega
theorem sum_take {l : List Int} (h : ∀ x ∈ l, 0 ≤ x) : ∀ k, 0 ≤ (l.take k).sum ∧ (l.take k).sum ≤ l.sum := by
  induction l with
  | nil => intro k; simp
  | cons a l ih =>
    intro k
    have h0 := h a List.mem_cons_self
    have ih := ih fun x hx => h x (List.mem_cons_of_mem _ hx)
    cases k with
    | zero => have := ih l.length; simp at this ⊢; omega
    | succ k => have := ih k; simp; omega
theorem pins_sum (g : PinSt T nx hs ps) (gv : GoodV T nx m) (k : Nat) : 0 ≤ (ps.take k).sum ∧ (ps.take k).sum ≤ 64 := by
  have h1 := sum_take (l := ps) (fun x hx => by obtain ⟨i, hi⟩ := List.getElem?_of_mem hx; exact pins_pos g gv hi) k
  have h2 := g.sum
  have h3 := gv.sum
  omega
theorem pins_bd (g : PinSt T nx hs ps) (gv : GoodV T nx m) {k : Nat} {p : Int} (hk : ps[k]? = some p) : 0 ≤ p ∧ p ≤ 64 := by
  have h0 := pins_pos g gv hk
  by_cases hp : p = 0
  · omega
  · obtain ⟨v, hv, e⟩ := g.has k p hk hp
    have h1 := g.pn v hv
    rw [show (v.num - 1).toNat = k by omega, hk] at h1
    injection h1 with h1
    have h2 := le_sumV gv.pos v hv
    have h3 := gv.sum
    omega
end
theorem pins_find {l : List Lv} {nx : Int} {hs : List Hd} {ps : List Int} {k : Nat} {p : Int} {hh : Hd} (g : PinSt (vrs l) nx hs ps) (hk : ps[k]? = some p) (hp : p ≠ 0) (hx : hs[k]? = some hh) : findHd l ((k : Int) + 1) = (hh, 0) := by
  obtain ⟨v, hv, e⟩ := g.has k p hk hp
  rcases placeP_spec ((k : Int) + 1) l with ⟨_, h2⟩ | ⟨i, u, h1, h2, h3⟩
  · obtain ⟨u, hu, rfl⟩ := List.mem_map.1 hv
    exact absurd e (h2 u hu)
  · rw [findHd_yes h1 h2]
    have h4 := g.hd u.vr (List.mem_map.2 ⟨u, List.mem_of_getElem? h2, rfl⟩)
    have h5 : ((u.vr).num - 1).toNat = k := by show (u.num - 1).toNat = k; omega
    rw [h5, hx] at h4
    injection h4 with h4
    rw [h4]; rfl
theorem sum_take_succ {l : List Int} {k : Nat} {p : Int} (h : l[k]? = some p) : (l.take (k + 1)).sum = (l.take k).sum + p := by
  rw [List.take_add_one, h]; simp
end Go.Proofs.YtgjgjimgomhbmaaDoor
namespace Go.Proofs.YtgjgjimgomhbmaaDoor
open Go.RowKit Go.ChangeShapes Go.WideShapes
section
variable {H : Type} {enc : TypeId × Value → H} {P : Program} {w : World} {base : Nat} {held : Bool} {cs : List Value} {ls : List (Nat × TypeId)}
theorem leaf_at {o : Nat} {v : Value} (h : (cs.drop o).take 1 = [v]) : cs[o]? = some v := by
  have h2 : ((cs.drop o).take 1)[0]? = some v := by rw [h]; rfl
  rwa [List.getElem?_take, if_pos (by omega), List.getElem?_drop, Nat.add_zero] at h2
theorem leaf_ints64 {e : TypeId} (h : ∀ p ∈ ls, ∃ fuel' y, DataW.trod enc P w base (fun _ => true) held fuel' p.2 ((cs.drop p.1).take (P.cellsOf p.2)) = some y) {o : Nat} {t : TypeId} (hp : ls.contains (o, t) = true) (ht : P.underlying t = some (.slice e)) (he : P.underlying e = some (.int .i64)) (hce : P.cellsOf e = 1) (hc : P.cellsOf t = 1) :
    ∃ (A : Option Addr) (c : Nat) (zs : List Int), cs[o]? = some (.slice A zs.length c) ∧ Rd w w.heap.size 1 A zs.length c (ics zs) ∧ ∀ z ∈ zs, isI64 z := by
  obtain ⟨f, y, hy⟩ := h (o, t) (by simpa using hp)
  simp only [hc] at hy
  obtain ⟨A, n, c, xs, D, sp, hcs, hn, hr, _, _, _, hR⟩ := br_slice (fun z : Int => [Value.int .i64 z]) (fun z (_ : DataW H) => (Lit.int .i64 z).wf = true) ht hce (by decide)
    (fun fuel cs' d pl _ hh => by obtain ⟨z, rfl, _, hz⟩ := DataW.trod_int he hh; exact ⟨z, rfl, hz⟩) hy
  subst hn
  refine ⟨A, c, xs, leaf_at hcs, ?_, fun z hz => ?_⟩
  · have e1 : ics xs = xs.flatMap fun z => [Value.int .i64 z] := by unfold ics; rw [flat_one]
    rw [e1]; exact hr
  · obtain ⟨i, hi⟩ := List.getElem?_of_mem hz
    obtain ⟨_, _, h⟩ := hR i z hi
    exact bounds_i64 h
theorem leaf_digs {e b : TypeId} (h : ∀ p ∈ ls, ∃ fuel' y, DataW.trod enc P w base (fun _ => true) held fuel' p.2 ((cs.drop p.1).take (P.cellsOf p.2)) = some y) {o : Nat} {t : TypeId} (hp : ls.contains (o, t) = true) (ht : P.underlying t = some (.slice e)) (he : P.underlying e = some (.array 16 b)) (hb : P.underlying b = some (.int .u8)) (hcb : P.cellsOf b = 1) (hce : P.cellsOf e = 16) (hc : P.cellsOf t = 1) :
    ∃ (A : Option Addr) (n c : Nat) (D : List UInt8), cs[o]? = some (.slice A n c) ∧ Rd w w.heap.size 16 A n c (bcs D) := by
  obtain ⟨f, y, hy⟩ := h (o, t) (by simpa using hp)
  simp only [hc] at hy
  obtain ⟨A, n, c, xs, D, sp, hcs, hn, hr, _, _, _, hR⟩ := br_slice bcs (fun _ (_ : DataW H) => True) ht hce (by decide)
    (fun fuel cs' d pl _ hh => by
      obtain ⟨zs, rfl, _, hz, _⟩ := br_arr he hb hcb hce hh
      exact ⟨_, u8_list zs hz, trivial⟩) hy
  exact ⟨A, n, c, xs.flatten, leaf_at hcs, by rw [← bcs_flat]; exact hr⟩
end
section
variable {H : Type} {enc : TypeId × Value → H} {W : World} {held : Bool} {b0 : Nat} {r : Reach}
set_option maxRecDepth 100000 in
/-- A list of steps. -/
theorem br_steps {v : Value} {d : DataW H} {pl : List MemPlace} (hval : Value.okWide Tryd.prog W r b0 40 v) (h : DataW.Trod enc Tryd.prog W 0 (fun _ => true) held 40 v d pl) :
    ∃ (L : List Lv) (A : Option Addr) (c : Nat), v = .slice A L.length c ∧ Rd W W.heap.size 6 A L.length c (lvs L) ∧ AllAt L W ∧ ∀ x ∈ L, isI64 x.h.tick ∧ isI64 x.h.depth ∧ (∀ n ∈ x.h.counts, isI64 n) ∧ isI64 x.pins := by
  obtain ⟨a0, n0, c0, rfl⟩ := okWide_slice Tryd.underlying40 hval
  obtain ⟨fuel, hf⟩ := h
  obtain ⟨A, n, c, xs, D, sp, hcs, hn, hr, _, _, _, hR⟩ := br_slice lvc (fun x (_ : DataW H) => x.At W ∧ isI64 x.h.tick ∧ isI64 x.h.depth ∧ (∀ n ∈ x.h.counts, isI64 n) ∧ isI64 x.pins) Tryd.underlying40 (show Tryd.prog.cellsOf 49 = 6 by kernel_rfl) (by decide)
    (fun fuel cs' d pl hl hh => by
      have f := br_leaves 8 49 [(0, 3), (1, 3), (2, 3), (3, 22), (4, 3), (5, 23)] (by kernel_rfl) fuel cs' _ (by rw [hl]; kernel_rfl) hh
      obtain ⟨z0, e0, w0⟩ := leaf_int f (o := 0) (t := 3) (by kernel_rfl) Tryd.underlying3 (by kernel_rfl)
      obtain ⟨z1, e1, w1⟩ := leaf_int f (o := 1) (t := 3) (by kernel_rfl) Tryd.underlying3 (by kernel_rfl)
      obtain ⟨z2, e2, w2⟩ := leaf_int f (o := 2) (t := 3) (by kernel_rfl) Tryd.underlying3 (by kernel_rfl)
      obtain ⟨A, c, zs, e3, hr, hz⟩ := leaf_ints64 f (o := 3) (t := 22) (by kernel_rfl) Tryd.underlying22 Tryd.underlying3 (by kernel_rfl) (by kernel_rfl)
      obtain ⟨z4, e4, w4⟩ := leaf_int f (o := 4) (t := 3) (by kernel_rfl) Tryd.underlying3 (by kernel_rfl)
      obtain ⟨B, n, c2, D, e5, hr5⟩ := leaf_digs f (o := 5) (t := 23) (by kernel_rfl) Tryd.underlying23 Tryd.underlying37 Tryd.underlying5 (by kernel_rfl) (by kernel_rfl) (by kernel_rfl)
      exact ⟨⟨z0, z1, ⟨z2, zs, z4, n, D⟩, A, c, B, c2⟩, eq6 hl e0 e1 e2 e3 e4 e5, ⟨hr, hr5⟩, bounds_i64 w2, bounds_i64 w4, hz, bounds_i64 w1⟩) hf
  simp only [Value.cells, List.cons.injEq, Value.slice.injEq, and_true] at hcs
  obtain ⟨rfl, rfl, rfl⟩ := hcs
  subst hn
  refine ⟨xs, a0, c0, rfl, hr, fun x hx => ?_, fun x hx => ?_⟩
  · obtain ⟨i, hi⟩ := List.getElem?_of_mem hx
    obtain ⟨_, _, h⟩ := hR i x hi
    exact h.1
  · obtain ⟨i, hi⟩ := List.getElem?_of_mem hx
    obtain ⟨_, _, h⟩ := hR i x hi
    exact h.2
end
end Go.Proofs.YtgjgjimgomhbmaaDoor
namespace Go.Proofs.YtgjgjimgomhbmaaDoor
open Go.ChangeShapes Go.WideShapes Go.ChangeAt Go.RowKit
def shaZ : List Int := shaK.map fun x : Nat => (x : Int)
theorem gOwn : Tryd.prog.globalNamed "voxel/hash.constants" = some 0 := by kernel_rfl
theorem gRef : Tryd.prog.globalNamed "voxel/voxelref02.constants" = some 1 := by kernel_rfl
theorem gOwnT : (Tryd.prog.globals[0]?).map (·.type) = some 121 := by kernel_rfl
theorem gRefT : (Tryd.prog.globals[1]?).map (·.type) = some 121 := by kernel_rfl
theorem gUndA : Tryd.prog.underlying 121 = some (.array 64 100) := by kernel_rfl
theorem gUndE : Tryd.prog.underlying 100 = some (.int .u32) := by kernel_rfl
theorem gCellsA : Tryd.prog.cellsOf 121 = 64 := by kernel_rfl
theorem gCellsE : Tryd.prog.cellsOf 100 = 1 := by kernel_rfl
theorem tabs_cells {W : World} {g : Nat} {cs : Array Value} (h : ∀ i : Nat, i < 64 → W.cell? ⟨g, i, none⟩ = some (.int .u32 (shaZ.getD i 0))) (_hc : cs = cs) :
    ∀ j u, (wvs shaK)[j]? = some u → W.cell? ⟨g, 0 + j, none⟩ = some u := by
  intro j u hu
  have hj : j < 64 := by have := (List.getElem?_eq_some_iff.1 hu).1; rwa [wvs_len] at this
  rw [Nat.zero_add, h j hj, ← hu]
  unfold wvs shaZ
  rw [List.getElem?_map, List.getElem?_eq_getElem (show j < shaK.length from hj)]
  simp [List.getD, show j < shaK.length from hj, wv]
theorem blocks_there {W : World} {g : Nat} {v : Value} (h : W.cell? ⟨g, 0, none⟩ = some v) : g < W.heap.size := by
  unfold World.cell? at h
  rcases Nat.lt_or_ge g W.heap.size with h' | h'
  · exact h'
  · rw [show W.heap[(⟨g, 0, none⟩ : Addr).block]? = none from Array.getElem?_eq_none h'] at h
    simp at h
theorem laid_both {W : World} (h : laidMetH Tryd.prog [("voxel/voxelref02.constants", Rows.laid_voxel_voxelref02_constants), ("voxel/hash.constants", Rows.laid_voxel_hash_constants)] W) : Tabs W ∧ TabsR W := by
  have hr : Lib.TabIs Tryd.prog W "voxel/voxelref02.constants" .u32 shaZ := Lib.tabIs_of_head (rest := [("voxel/hash.constants", Rows.laid_voxel_hash_constants)]) gRef gRefT gUndA gUndE gCellsE gCellsA h
  have h' : laidMet Tryd.prog [("voxel/voxelref02.constants", Rows.laid_voxel_voxelref02_constants), ("voxel/hash.constants", Rows.laid_voxel_hash_constants)] W := h
  obtain ⟨ps, ⟨_, _, _, _, _, q1, _, _, _, _, ⟨g', t', cs, fuel, p, q, hg', ht', hvar, hd, _, _⟩, _⟩, _⟩ := h'
  obtain rfl := Option.some.inj (gOwn.symm.trans hg')
  obtain rfl := Option.some.inj (gOwnT.symm.trans ht')
  have ho : Lib.TabIs Tryd.prog W "voxel/hash.constants" .u32 shaZ := by
    unfold Lib.TabIs
    have hd' : DataW.trod (fun _ => ()) Tryd.prog W 0 (fun _ => true) false fuel 121 cs.toList = some (Lib.tabData .u32 shaZ, p) := hd
    rw [hvar, ← Lib.cells_of_tab gUndA gUndE gCellsE gCellsA hd']
  have hsz : 2 ≤ W.heap.size := blocks_there (hr.cell gRef 0 (by decide))
  exact ⟨⟨hsz, tabs_cells (cs := #[]) (fun i hi => ho.cell gOwn i hi) rfl⟩, ⟨hsz, tabs_cells (cs := #[]) (fun i hi => hr.cell gRef i hi) rfl⟩⟩
/-- A table's block, filled. -/
def fillTab : Obj → Obj
  | .cells _ t frozen => .cells (wvs shaK).toArray t frozen
  | o => o
/-- A world for the witnesses: the settled one, the tables (blocks 0 and 1) holding what their initialisers lay. -/
noncomputable def laidWorld (os : Os) : World :=
  { World.holding Tryd.prog os ⟨#[], #[], []⟩ with heap := ((World.holding Tryd.prog os ⟨#[], #[], []⟩).heap.modify 0 fillTab).modify 1 fillTab }
theorem laid_met2 (os : Os) (args : Array Value) : laidMet Tryd.prog [("voxel/voxelref02.constants", Rows.laid_voxel_voxelref02_constants), ("voxel/hash.constants", Rows.laid_voxel_hash_constants)] ((laidWorld os).forCall (fun _ _ => 0) ⟨#[], args, []⟩).memory :=
  laidMet_of_run' 8 (by kernel_rfl) (by kernel_rfl)
end Go.Proofs.YtgjgjimgomhbmaaDoor
