/-
  RI: several texts in one. No statement is proved here.
-/
import Derived.Test.YtopdcdjmiepdfaaRH
import Derived.Test.YtopdcdjmiepdfaaRB
import Derived.Test.YtopdcdjmiepdfaaRC
set_option linter.unusedVariables false
set_option linter.unusedSimpArgs false
namespace Go.Proofs.Ytopdcdjmiepdfaa
open Go.RowKit Go.ChangeShapes Go.WideShapes
section
variable {H : Type} {enc : TypeId × Value → H} {P : Program} {w : World} {base : Nat} {held : Bool} {spare : Nat → Bool} {cs : List Value} {ls : List (Nat × TypeId)}
theorem leaf_at {o : Nat} {v : Value} (h : (cs.drop o).take 1 = [v]) : cs[o]? = some v := by
  have h2 : ((cs.drop o).take 1)[0]? = some v := by rw [h]; rfl
  rwa [List.getElem?_take, if_pos (by omega), List.getElem?_drop, Nat.add_zero] at h2
theorem leaf_bool (h : ∀ p ∈ ls, ∃ fuel' y, DataW.trod enc P w base spare held fuel' p.2 ((cs.drop p.1).take (P.cellsOf p.2)) = some y) {o : Nat} {t : TypeId} (hp : ls.contains (o, t) = true) (ht : P.underlying t = some .bool) (hc : P.cellsOf t = 1) :
    ∃ b, cs[o]? = some (.bool b) := by
  obtain ⟨f, y, hy⟩ := h (o, t) (by simpa using hp)
  simp only [hc] at hy
  obtain ⟨b, hb, _⟩ := DataW.trod_bool ht hy
  exact ⟨b, leaf_at hb⟩
theorem leaf_str (h : ∀ p ∈ ls, ∃ fuel' y, DataW.trod enc P w base spare held fuel' p.2 ((cs.drop p.1).take (P.cellsOf p.2)) = some y) {o : Nat} {t : TypeId} (hp : ls.contains (o, t) = true) (ht : P.underlying t = some .string) (hc : P.cellsOf t = 1) :
    ∃ s : List UInt8, cs[o]? = some (.string ⟨s.toArray⟩) := by
  obtain ⟨f, y, hy⟩ := h (o, t) (by simpa using hp)
  simp only [hc] at hy
  obtain ⟨b, hb, _⟩ := DataW.trod_string ht hy
  refine ⟨b.data.toList, ?_⟩
  have : (⟨b.data.toList.toArray⟩ : ByteArray) = b := by cases b; simp
  rw [this]
  exact leaf_at hb
theorem leaf_ints {e : TypeId} (h : ∀ p ∈ ls, ∃ fuel' y, DataW.trod enc P w base (fun _ => true) held fuel' p.2 ((cs.drop p.1).take (P.cellsOf p.2)) = some y) {o : Nat} {t : TypeId} (hp : ls.contains (o, t) = true) (ht : P.underlying t = some (.slice e)) (he : P.underlying e = some (.int .i64)) (hce : P.cellsOf e = 1) (hc : P.cellsOf t = 1) :
    ∃ (A : Option Addr) (c : Nat) (zs : List Int), cs[o]? = some (.slice A zs.length c) ∧ Rd w w.heap.size 1 A zs.length c (ics zs) := by
  obtain ⟨f, y, hy⟩ := h (o, t) (by simpa using hp)
  simp only [hc] at hy
  obtain ⟨A, n, c, xs, D, sp, hcs, hn, hr, _, _, _, _⟩ := br_slice (fun z : Int => [Value.int .i64 z]) (fun _ (_ : DataW H) => True) ht hce (by decide)
    (fun fuel cs' d pl _ hh => by obtain ⟨z, rfl, _, hz⟩ := DataW.trod_int he hh; exact ⟨z, rfl, trivial⟩) hy
  subst hn
  refine ⟨A, c, xs, leaf_at hcs, ?_⟩
  have e1 : ics xs = xs.flatMap fun z => [Value.int .i64 z] := by unfold ics; rw [flat_one]
  rw [e1]; exact hr
end
theorem eq7 {cs : List Value} {a b c d e f g : Value} (hl : cs.length = 7) (h0 : cs[0]? = some a) (h1 : cs[1]? = some b) (h2 : cs[2]? = some c) (h3 : cs[3]? = some d) (h4 : cs[4]? = some e) (h5 : cs[5]? = some f) (h6 : cs[6]? = some g) : cs = [a, b, c, d, e, f, g] := by
  match cs, hl with
  | [x, y, z, u, v, w, q], _ => simp_all
theorem eq8 {cs : List Value} {a b c d e f g h : Value} (hl : cs.length = 8) (h0 : cs[0]? = some a) (h1 : cs[1]? = some b) (h2 : cs[2]? = some c) (h3 : cs[3]? = some d) (h4 : cs[4]? = some e) (h5 : cs[5]? = some f) (h6 : cs[6]? = some g) (h7 : cs[7]? = some h) : cs = [a, b, c, d, e, f, g, h] := by
  match cs, hl with
  | [x, y, z, u, v, w, q, r], _ => simp_all
section
variable {H : Type} {enc : TypeId × Value → H} {W : World} {held : Bool} {b0 : Nat} {r : Reach}
/-- A grid by value. -/
theorem br_grid {v : Value} {d : DataW H} {pl : List MemPlace} (hval : Value.okWide Try.prog W r b0 36 v) (h : DataW.Trod enc Try.prog W 0 (fun _ => true) held 36 v d pl) :
    ∃ (g : Gr) (A : Option Addr) (c : Nat), v = .agg (gcs g A c).toArray ∧ Rd W W.heap.size 1 A g.cells.length c (ics g.cells) := by
  obtain ⟨cs, rfl, hl, f⟩ := br_flat (m := 8) (n := 7) (ls := [(0, 3), (1, 3), (2, 3), (3, 3), (4, 3), (5, 3), (6, 34)]) (by kernel_rfl) (by kernel_rfl) (by kernel_rfl) hval h
  obtain ⟨z0, e0, _⟩ := leaf_int f (o := 0) (t := 3) (by kernel_rfl) Try.underlying3 (by kernel_rfl)
  obtain ⟨z1, e1, _⟩ := leaf_int f (o := 1) (t := 3) (by kernel_rfl) Try.underlying3 (by kernel_rfl)
  obtain ⟨z2, e2, _⟩ := leaf_int f (o := 2) (t := 3) (by kernel_rfl) Try.underlying3 (by kernel_rfl)
  obtain ⟨z3, e3, _⟩ := leaf_int f (o := 3) (t := 3) (by kernel_rfl) Try.underlying3 (by kernel_rfl)
  obtain ⟨z4, e4, _⟩ := leaf_int f (o := 4) (t := 3) (by kernel_rfl) Try.underlying3 (by kernel_rfl)
  obtain ⟨z5, e5, _⟩ := leaf_int f (o := 5) (t := 3) (by kernel_rfl) Try.underlying3 (by kernel_rfl)
  obtain ⟨A, c, zs, e6, hr⟩ := leaf_ints f (o := 6) (t := 34) (by kernel_rfl) Try.underlying34 Try.underlying3 (by kernel_rfl) (by kernel_rfl)
  obtain rfl := eq7 hl e0 e1 e2 e3 e4 e5 e6
  exact ⟨⟨⟨⟨z0, z1, z2⟩, ⟨z3, z4, z5⟩⟩, zs⟩, A, c, rfl, hr⟩
/-- A table of materials. -/
theorem br_table {v : Value} {d : DataW H} {pl : List MemPlace} (hval : Value.okWide Try.prog W r b0 37 v) (h : DataW.Trod enc Try.prog W 0 (fun _ => true) held 37 v d pl) :
    ∃ (T : List Mat) (A : Option Addr) (c : Nat), v = .slice A T.length c ∧ Rd W W.heap.size 8 A T.length c (mts T) := by
  obtain ⟨a0, n0, c0, rfl⟩ := okWide_slice Try.underlying37 hval
  obtain ⟨fuel, hf⟩ := h
  obtain ⟨A, n, c, xs, D, sp, hcs, hn, hr, _, _, _, _⟩ := br_slice mcs (fun _ (_ : DataW H) => True) Try.underlying37 (show Try.prog.cellsOf 83 = 8 by kernel_rfl) (by decide)
    (fun fuel cs' d pl hl hh => by
      have f := br_leaves 8 83 [(0, 9), (1, 4), (2, 4), (3, 4), (4, 3), (5, 3), (6, 3), (7, 3)] (by kernel_rfl) fuel cs' _ (by rw [hl]; kernel_rfl) hh
      obtain ⟨s, e0⟩ := leaf_str f (o := 0) (t := 9) (by kernel_rfl) Try.underlying9 (by kernel_rfl)
      obtain ⟨b1, e1⟩ := leaf_bool f (o := 1) (t := 4) (by kernel_rfl) Try.underlying4 (by kernel_rfl)
      obtain ⟨b2, e2⟩ := leaf_bool f (o := 2) (t := 4) (by kernel_rfl) Try.underlying4 (by kernel_rfl)
      obtain ⟨b3, e3⟩ := leaf_bool f (o := 3) (t := 4) (by kernel_rfl) Try.underlying4 (by kernel_rfl)
      obtain ⟨z4, e4, _⟩ := leaf_int f (o := 4) (t := 3) (by kernel_rfl) Try.underlying3 (by kernel_rfl)
      obtain ⟨z5, e5, _⟩ := leaf_int f (o := 5) (t := 3) (by kernel_rfl) Try.underlying3 (by kernel_rfl)
      obtain ⟨z6, e6, _⟩ := leaf_int f (o := 6) (t := 3) (by kernel_rfl) Try.underlying3 (by kernel_rfl)
      obtain ⟨z7, e7, _⟩ := leaf_int f (o := 7) (t := 3) (by kernel_rfl) Try.underlying3 (by kernel_rfl)
      exact ⟨⟨s, b1, b2, b3, z4, z5, z6, z7⟩, eq8 hl e0 e1 e2 e3 e4 e5 e6 e7, trivial⟩) hf
  simp only [Value.cells, List.cons.injEq, Value.slice.injEq, and_true] at hcs
  obtain ⟨rfl, rfl, rfl⟩ := hcs
  subst hn
  exact ⟨xs, a0, c0, rfl, hr⟩
end
end Go.Proofs.Ytopdcdjmiepdfaa
namespace Go.Proofs.Ytopdcdjmiepdfaa
open Go.RowKit
set_option linter.unusedVariables false
set_option linter.unusedSimpArgs false
theorem bxs_inj {b c : Bx} : bxs b = bxs c ↔ b = c := by
  obtain ⟨⟨a1, a2, a3⟩, ⟨a4, a5, a6⟩⟩ := b
  obtain ⟨⟨c1, c2, c3⟩, ⟨c4, c5, c6⟩⟩ := c
  simp [bxs, pcs, and_assoc]
theorem take_all_succ_ {P : Int → Prop} {l : List Int} {k : Nat} {p : Int} (hp : l[k]? = some p) (h : ∀ q ∈ l.take k, P q) (h1 : P p) : ∀ q ∈ l.take (k + 1), P q := by
  intro q hq
  rw [List.take_add_one, List.mem_append, hp] at hq
  rcases hq with hq | hq
  · exact h q hq
  · simp at hq; rw [hq]; exact h1
/-- Two slices that are read. -/
theorem memRd2 {w : World} {A B : Option Addr} {s1 n1 c1 s2 n2 c2 : Nat} {xs ys : List Value} (h1 : Rd w w.heap.size s1 A n1 c1 xs) (h2 : Rd w w.heap.size s2 B n2 c2 ys) : Mem w w [.rd A s1 n1 c1 xs, .rd B s2 n2 c2 ys] :=
  ⟨Below.refl _ _, fun r hr => by
    rcases List.mem_cons.1 hr with rfl | hr
    · exact h1
    · rw [List.mem_singleton] at hr; subst hr; exact h2, List.pairwise_cons.2 ⟨fun r hr => by rw [List.mem_singleton] at hr; subst hr; exact Or.inl ⟨rfl, rfl⟩, List.pairwise_singleton _ _⟩⟩
set_option maxRecDepth 100000 in
set_option maxHeartbeats 4000000 in
theorem valid_any (g : Gr) (A : Option Addr) (c : Nat) (w : World) (hrd : Rd w w.heap.size 1 A g.cells.length c (ics g.cells)) : Calls Try.prog 15 #[.agg (gcs g A c).toArray] w (RetV w (.bool (decide g.Valid))) := by
  have hcap := hrd.cap
  have hle := hrd.le
  unfold maxLen at hcap
  have hm0 := Mem.nil w
  go_enter Try.func15, Try.ntmps15
  refine litStart 57 [(0, .agg (gcs g A c).toArray)] (by kernel_rfl) (fun X0 => ?_)
  refine wp_seq_k fun K1 hK1 => ?_
  refine plStart ?_
  refine plBox hm0 (cs := gcs g A c) (i := 0) rfl (wn rfl) rfl (litEv (by kernel_rfl)) ?_
  intro g2 w4 hm3
  clear hm0
  try simp only [List.cons_append, List.nil_append, List.set_cons_succ, List.set_cons_zero] at hm3
  refine qP rfl ?_
  refine lk (v := .bool false) rfl rfl rfl ?_
  refine plD ?_
  refine then_normal (hK1 _ _ ?_)
  refine wp_seq_k fun K5 hK5 => ?_
  refine plStart ?_
  refine lk (v := .pointer (some ⟨g2, 0, none⟩)) rfl rfl rfl ?_
  refine lk (v := .pointer (some ⟨g2, 0, none⟩)) rfl rfl rfl ?_
  refine litVal (v := .agg (pcs g.box.mn).toArray) rfl (wn rfl) (gLoadAg (vs := pcs g.box.mn) (k := 0) 0 hm3 rfl (by kernel_rfl) (by kernel_rfl) (.tmp 9) Ty.ag_voxel_api_Point rfl (litEv (by kernel_rfl))) rfl (by decide) ?_
  refine plCall (i := 3) 38 [.agg (pcs g.box.mn).toArray] [] [] rfl (by kernel_rfl) (wn rfl) rfl (litEv (by kernel_rfl)) (litArgs (by kernel_rfl)) (ranged_any g.box.mn _) ?_
  rintro e w6 ⟨rfl, hbz⟩
  have hm7 := hm3.below hbz
  clear hbz hm3
  refine ⟨_, rfl, ?_⟩
  refine qP rfl ?_
  rcases bool_or (decide g.box.mn.rng) with h8 | h8
  · rw [h8]
    refine lk (v := .bool false) rfl rfl rfl ?_
    refine plD ?_
    refine then_normal (hK5 _ _ ?_)
    refine wp_seq_k fun K9 hK9 => ?_
    refine plStart ?_
    refine lk (v := .pointer (some ⟨g2, 0, none⟩)) rfl rfl rfl ?_
    refine lk (v := .pointer (some ⟨g2, 3, none⟩)) rfl rfl rfl ?_
    refine litVal (v := .agg (pcs g.box.mx).toArray) rfl (wn rfl) (gLoadAg (vs := pcs g.box.mx) (k := 3) 0 hm7 rfl (by kernel_rfl) (by kernel_rfl) (.tmp 13) Ty.ag_voxel_api_Point rfl (litEv (by kernel_rfl))) rfl (by decide) ?_
    refine plCall (i := 3) 38 [.agg (pcs g.box.mx).toArray] [] [] rfl (by kernel_rfl) (wn rfl) rfl (litEv (by kernel_rfl)) (litArgs (by kernel_rfl)) (ranged_any g.box.mx _) ?_
    rintro e w10 ⟨rfl, hbz⟩
    have hm11 := hm7.below hbz
    clear hbz hm7
    refine ⟨_, rfl, ?_⟩
    refine qP rfl ?_
    rcases bool_or (decide g.box.mx.rng) with h12 | h12
    · rw [h12]
      refine lk (v := .bool false) rfl rfl rfl ?_
      refine plD ?_
      refine then_normal (hK9 _ _ ?_)
      refine wp_seq_k fun K13 hK13 => ?_
      refine wp_seq_k fun K14 hK14 => ?_
      refine plStart ?_
      refine lk (v := .bool false) rfl rfl rfl ?_
      refine lk (v := .bool true) rfl rfl rfl ?_
      refine lk (v := .bool true) rfl rfl rfl ?_
      refine plSkip (i := 3) rfl (wgN rfl rfl rfl (by decide) (by kernel_rfl)) ?_
      refine qP rfl ?_
      refine plSkip (i := 4) rfl (wgN rfl rfl rfl (by decide) (by kernel_rfl)) ?_
      refine qP rfl ?_
      refine lk (v := .bool true) rfl rfl rfl ?_
      refine plD ?_
      refine then_normal (hK14 _ _ ?_)
      refine wpPrune [(1, .pointer (some ⟨g2, 0, none⟩)), (2, .bool false), (21, .bool true)] ⟨litGet (by kernel_rfl), ⟨litGet (by kernel_rfl), ⟨litGet (by kernel_rfl), trivial⟩⟩⟩ (fun X15 => ?_)
      refine wp_cond_true (litEv (by kernel_rfl)) ?_
      refine wp_seq_k fun K16 hK16 => ?_
      refine plStart ?_
      refine lk (v := .bool false) rfl rfl rfl ?_
      refine plD ?_
      refine then_normal (hK16 _ _ ?_)
      refine wp_ret ?_
      refine then_ret ?_
      refine bodyPost_ret (v := .bool false) (gRes1 rfl (gResTmp (t := 2) (v := .bool false) (litGet (by kernel_rfl)))) rfl ?_
      exact ⟨congrArg (fun b_ => Ending.returned (.bool b_)) (decide_eq_false (fun h_ => of_decide_eq_false h8 h_.1.1)).symm, hm11.bel⟩
    rw [h12]
    refine lk (v := .bool true) rfl rfl rfl ?_
    refine plD ?_
    refine then_normal (hK9 _ _ ?_)
    refine wp_seq_k fun K17 hK17 => ?_
    refine wp_seq_k fun K18 hK18 => ?_
    refine plStart ?_
    refine lk (v := .bool false) rfl rfl rfl ?_
    refine lk (v := .bool true) rfl rfl rfl ?_
    refine lk (v := .bool true) rfl rfl rfl ?_
    refine plSkip (i := 3) rfl (wgN rfl rfl rfl (by decide) (by kernel_rfl)) ?_
    refine qP rfl ?_
    refine plSkip (i := 4) rfl (wgN rfl rfl rfl (by decide) (by kernel_rfl)) ?_
    refine qP rfl ?_
    refine lk (v := .bool true) rfl rfl rfl ?_
    refine plD ?_
    refine then_normal (hK18 _ _ ?_)
    refine wpPrune [(1, .pointer (some ⟨g2, 0, none⟩)), (2, .bool false), (21, .bool true)] ⟨litGet (by kernel_rfl), ⟨litGet (by kernel_rfl), ⟨litGet (by kernel_rfl), trivial⟩⟩⟩ (fun X19 => ?_)
    refine wp_cond_true (litEv (by kernel_rfl)) ?_
    refine wp_seq_k fun K20 hK20 => ?_
    refine plStart ?_
    refine lk (v := .bool false) rfl rfl rfl ?_
    refine plD ?_
    refine then_normal (hK20 _ _ ?_)
    refine wp_ret ?_
    refine then_ret ?_
    refine bodyPost_ret (v := .bool false) (gRes1 rfl (gResTmp (t := 2) (v := .bool false) (litGet (by kernel_rfl)))) rfl ?_
    exact ⟨congrArg (fun b_ => Ending.returned (.bool b_)) (decide_eq_false (fun h_ => of_decide_eq_false h8 h_.1.1)).symm, hm11.bel⟩
  rw [h8]
  refine lk (v := .bool true) rfl rfl rfl ?_
  refine plD ?_
  refine then_normal (hK5 _ _ ?_)
  refine wp_seq_k fun K21 hK21 => ?_
  refine plStart ?_
  refine lk (v := .pointer (some ⟨g2, 0, none⟩)) rfl rfl rfl ?_
  refine lk (v := .pointer (some ⟨g2, 3, none⟩)) rfl rfl rfl ?_
  refine litVal (v := .agg (pcs g.box.mx).toArray) rfl (wn rfl) (gLoadAg (vs := pcs g.box.mx) (k := 3) 0 hm7 rfl (by kernel_rfl) (by kernel_rfl) (.tmp 13) Ty.ag_voxel_api_Point rfl (litEv (by kernel_rfl))) rfl (by decide) ?_
  refine plCall (i := 3) 38 [.agg (pcs g.box.mx).toArray] [] [] rfl (by kernel_rfl) (wn rfl) rfl (litEv (by kernel_rfl)) (litArgs (by kernel_rfl)) (ranged_any g.box.mx _) ?_
  rintro e w22 ⟨rfl, hbz⟩
  have hm23 := hm7.below hbz
  clear hbz hm7
  refine ⟨_, rfl, ?_⟩
  refine qP rfl ?_
  rcases bool_or (decide g.box.mx.rng) with h24 | h24
  · rw [h24]
    refine lk (v := .bool false) rfl rfl rfl ?_
    refine plD ?_
    refine then_normal (hK21 _ _ ?_)
    refine wp_seq_k fun K25 hK25 => ?_
    refine wp_seq_k fun K26 hK26 => ?_
    refine plStart ?_
    refine lk (v := .bool true) rfl rfl rfl ?_
    refine lk (v := .bool false) rfl rfl rfl ?_
    refine lk (v := .bool false) rfl rfl rfl ?_
    refine litVal (v := .bool false) rfl (wgY rfl rfl rfl (by decide) (by kernel_rfl)) (litRun (by kernel_rfl)) rfl (by decide) ?_
    refine litVal (v := .bool true) rfl (wgY rfl rfl rfl (by decide) (by kernel_rfl)) (litRun (by kernel_rfl)) rfl (by decide) ?_
    refine lk (v := .bool true) rfl rfl rfl ?_
    refine plD ?_
    refine then_normal (hK26 _ _ ?_)
    refine wpPrune [(1, .pointer (some ⟨g2, 0, none⟩)), (2, .bool false), (21, .bool true)] ⟨litGet (by kernel_rfl), ⟨litGet (by kernel_rfl), ⟨litGet (by kernel_rfl), trivial⟩⟩⟩ (fun X27 => ?_)
    refine wp_cond_true (litEv (by kernel_rfl)) ?_
    refine wp_seq_k fun K28 hK28 => ?_
    refine plStart ?_
    refine lk (v := .bool false) rfl rfl rfl ?_
    refine plD ?_
    refine then_normal (hK28 _ _ ?_)
    refine wp_ret ?_
    refine then_ret ?_
    refine bodyPost_ret (v := .bool false) (gRes1 rfl (gResTmp (t := 2) (v := .bool false) (litGet (by kernel_rfl)))) rfl ?_
    exact ⟨congrArg (fun b_ => Ending.returned (.bool b_)) (decide_eq_false (fun h_ => of_decide_eq_false h24 h_.1.2)).symm, hm23.bel⟩
  rw [h24]
  refine lk (v := .bool true) rfl rfl rfl ?_
  refine plD ?_
  refine then_normal (hK21 _ _ ?_)
  refine wp_seq_k fun K29 hK29 => ?_
  refine wp_seq_k fun K30 hK30 => ?_
  refine plStart ?_
  refine lk (v := .bool true) rfl rfl rfl ?_
  refine lk (v := .bool false) rfl rfl rfl ?_
  refine lk (v := .bool false) rfl rfl rfl ?_
  refine litVal (v := .bool true) rfl (wgY rfl rfl rfl (by decide) (by kernel_rfl)) (litRun (by kernel_rfl)) rfl (by decide) ?_
  refine litVal (v := .bool false) rfl (wgY rfl rfl rfl (by decide) (by kernel_rfl)) (litRun (by kernel_rfl)) rfl (by decide) ?_
  refine lk (v := .bool false) rfl rfl rfl ?_
  refine plD ?_
  refine then_normal (hK30 _ _ ?_)
  refine wpPrune [(1, .pointer (some ⟨g2, 0, none⟩)), (2, .bool false), (21, .bool false)] ⟨litGet (by kernel_rfl), ⟨litGet (by kernel_rfl), ⟨litGet (by kernel_rfl), trivial⟩⟩⟩ (fun X31 => ?_)
  refine wp_cond_false (litEv (by kernel_rfl)) ?_
  refine wp_skip ?_
  refine then_normal (hK29 _ _ ?_)
  refine wp_seq_k fun K32 hK32 => ?_
  refine plStart ?_
  refine lk (v := .pointer (some ⟨g2, 0, none⟩)) rfl rfl rfl ?_
  refine litVal (v := .agg (bxs g.box).toArray) rfl (wn rfl) (gLoadAg (vs := bxs g.box) (k := 0) 0 hm23 rfl (by kernel_rfl) (by kernel_rfl) (.tmp 22) Ty.ag_voxel_api_Box rfl (litEv (by kernel_rfl))) rfl (by decide) ?_
  refine plCall (i := 2) 39 [.agg (bxs g.box).toArray] [] [] rfl (by kernel_rfl) (wn rfl) rfl (litEv (by kernel_rfl)) (litArgs (by kernel_rfl)) (vol_any g.box ⟨of_decide_eq_true h8, of_decide_eq_true h24⟩ _) ?_
  rintro e w33 ⟨rfl, hbz⟩
  have hm34 := hm23.below hbz
  clear hbz hm23
  refine ⟨_, rfl, ?_⟩
  refine qP rfl ?_
  refine lk (v := .int .i64 g.box.vol) rfl rfl rfl ?_
  refine plD ?_
  refine then_normal (hK32 _ _ ?_)
  refine wp_seq_k fun K35 hK35 => ?_
  refine wp_seq_k fun K36 hK36 => ?_
  refine plStart ?_
  refine lk (v := .int .i64 g.box.vol) rfl rfl rfl ?_
  by_cases h37 : g.box.vol = 0
  · refine litVal (v := .bool true) rfl (wn rfl) (boolTo (decide_eq_true h37) (eqlRun (A := g.box.vol) (B := 0) (.tmp 25) (.const (.int .i64 0)) rfl (litEv (by kernel_rfl)) (litEv (by kernel_rfl)))) rfl (by decide) ?_
    refine lk (v := .bool true) rfl rfl rfl ?_
    refine litVal (v := .pointer (some ⟨g2, 0, none⟩)) rfl (wgY rfl rfl rfl (by decide) (by kernel_rfl)) (litRun (by kernel_rfl)) rfl (by decide) ?_
    refine litVal (v := .agg (bxs g.box).toArray) rfl (wgY rfl rfl rfl (by decide) (by kernel_rfl)) (gLoadAg (vs := bxs g.box) (k := 0) 0 hm34 rfl (by kernel_rfl) (by kernel_rfl) (.tmp 28) Ty.ag_voxel_api_Box rfl (litEv (by kernel_rfl))) rfl (by decide) ?_
    refine litVal (v := .agg ([.int .i64 0, .int .i64 0, .int .i64 0, .int .i64 0, .int .i64 0, .int .i64 0]).toArray) rfl (wgY rfl rfl rfl (by decide) (by kernel_rfl)) (litRun (by kernel_rfl)) rfl (by decide) ?_
    by_cases h38 : g.box = bx0
    · refine litVal (v := .bool false) rfl (wgY rfl rfl rfl (by decide) (by kernel_rfl)) (boolTo (by rw [decide_eq_true h38]; rfl) (neqAgRun 2 (.tmp 29) (.tmp 30) (bxs g.box) (bxs bx0) (decide (g.box = bx0)) (by rw [decide_eq_true_iff, bxs_inj]) (by kernel_rfl) rfl (by kernel_rfl) (by kernel_rfl) (by kernel_rfl) (by kernel_rfl) rfl (litEv (by kernel_rfl)) (litEv (by kernel_rfl)))) rfl (by decide) ?_
      refine lk (v := .bool false) rfl rfl rfl ?_
      refine lk (v := .bool false) rfl rfl rfl ?_
      refine litVal (v := .int .i64 g.box.vol) rfl (wgY rfl rfl rfl (by decide) (by kernel_rfl)) (litRun (by kernel_rfl)) rfl (by decide) ?_
      by_cases h39 : 2097152 < g.box.vol
      · refine litVal (v := .bool true) rfl (wgY rfl rfl rfl (by decide) (by kernel_rfl)) (boolTo (decide_eq_true h39) (gtrRun (A := g.box.vol) (B := 2097152) (.tmp 34) (.const (.int .i64 2097152)) rfl (litEv (by kernel_rfl)) (litEv (by kernel_rfl)))) rfl (by decide) ?_
        refine lk (v := .bool true) rfl rfl rfl ?_
        refine lk (v := .bool true) rfl rfl rfl ?_
        refine plSkip (i := 13) rfl (wgN rfl rfl rfl (by decide) (by kernel_rfl)) ?_
        refine qP rfl ?_
        refine plSkip (i := 14) rfl (wgN rfl rfl rfl (by decide) (by kernel_rfl)) ?_
        refine qP rfl ?_
        refine plSkip (i := 15) rfl (wgN rfl rfl rfl (by decide) (by kernel_rfl)) ?_
        refine qP rfl ?_
        refine plSkip (i := 16) rfl (wgN rfl rfl rfl (by decide) (by kernel_rfl)) ?_
        refine qP rfl ?_
        refine plSkip (i := 17) rfl (wgN rfl rfl rfl (by decide) (by kernel_rfl)) ?_
        refine qP rfl ?_
        refine lk (v := .bool true) rfl rfl rfl ?_
        refine plD ?_
        refine then_normal (hK36 _ _ ?_)
        refine wpPrune [(1, .pointer (some ⟨g2, 0, none⟩)), (2, .bool false), (5, .int .i64 g.box.vol), (43, .bool true)] ⟨litGet (by kernel_rfl), ⟨litGet (by kernel_rfl), ⟨litGet (by kernel_rfl), ⟨litGet (by kernel_rfl), trivial⟩⟩⟩⟩ (fun X40 => ?_)
        refine wp_cond_true (litEv (by kernel_rfl)) ?_
        refine wp_seq_k fun K41 hK41 => ?_
        refine plStart ?_
        refine lk (v := .bool false) rfl rfl rfl ?_
        refine plD ?_
        refine then_normal (hK41 _ _ ?_)
        refine wp_ret ?_
        refine then_ret ?_
        refine bodyPost_ret (v := .bool false) (gRes1 rfl (gResTmp (t := 2) (v := .bool false) (litGet (by kernel_rfl)))) rfl ?_
        exact ⟨congrArg (fun b_ => Ending.returned (.bool b_)) (decide_eq_false (fun h_ => h_.2.1 (Or.inr (Or.inl h39)))).symm, hm34.bel⟩
      refine litVal (v := .bool false) rfl (wgY rfl rfl rfl (by decide) (by kernel_rfl)) (boolTo (decide_eq_false h39) (gtrRun (A := g.box.vol) (B := 2097152) (.tmp 34) (.const (.int .i64 2097152)) rfl (litEv (by kernel_rfl)) (litEv (by kernel_rfl)))) rfl (by decide) ?_
      refine lk (v := .bool false) rfl rfl rfl ?_
      refine lk (v := .bool false) rfl rfl rfl ?_
      refine litVal (v := .pointer (some ⟨g2, 6, none⟩)) rfl (wgY rfl rfl rfl (by decide) (by kernel_rfl)) (litRun (by kernel_rfl)) rfl (by decide) ?_
      refine litVal (v := .slice A g.cells.length c) rfl (wgY rfl rfl rfl (by decide) (by kernel_rfl)) (gLoad (v := .slice A g.cells.length c) (k := 6) 0 hm34 rfl (by kernel_rfl) (.tmp 38) (by kernel_rfl) rfl (litEv (by kernel_rfl))) rfl (by decide) ?_
      refine litVal (v := .int .i64 (g.cells.length : Int)) rfl (wgY rfl rfl rfl (by decide) (by kernel_rfl)) (lenSlRun (A := A) (n := g.cells.length) (c := c) (.tmp 39) Ty.und_L_int rfl (litEv (by kernel_rfl))) rfl (by decide) ?_
      refine litVal (v := .int .i64 g.box.vol) rfl (wgY rfl rfl rfl (by decide) (by kernel_rfl)) (litRun (by kernel_rfl)) rfl (by decide) ?_
      by_cases h42 : (g.cells.length : Int) = g.box.vol
      · refine litVal (v := .bool false) rfl (wgY rfl rfl rfl (by decide) (by kernel_rfl)) (boolTo (by rw [decide_eq_true h42]; rfl) (neqRun (A := (g.cells.length : Int)) (B := g.box.vol) (.tmp 40) (.tmp 41) rfl (litEv (by kernel_rfl)) (litEv (by kernel_rfl)))) rfl (by decide) ?_
        refine lk (v := .bool false) rfl rfl rfl ?_
        refine plD ?_
        refine then_normal (hK36 _ _ ?_)
        refine wpPrune [(1, .pointer (some ⟨g2, 0, none⟩)), (2, .bool false), (5, .int .i64 g.box.vol), (43, .bool false)] ⟨litGet (by kernel_rfl), ⟨litGet (by kernel_rfl), ⟨litGet (by kernel_rfl), ⟨litGet (by kernel_rfl), trivial⟩⟩⟩⟩ (fun X43 => ?_)
        refine wp_cond_false (litEv (by kernel_rfl)) ?_
        refine wp_skip ?_
        refine then_normal (hK35 _ _ ?_)
        refine wp_seq_k fun K44 hK44 => ?_
        refine wp_seq_k fun K45 hK45 => ?_
        refine plStart ?_
        refine lk (v := .int .i64 0) rfl rfl rfl ?_
        refine plD ?_
        refine then_normal (hK45 _ _ ?_)
        refine wp_block ?_
        refine gwLoop (fun n_ a_ w_ => ∃ (k : Nat), n_ = g.cells.length - k ∧ (k ≤ g.cells.length) ∧ (∀ c ∈ g.cells.take k, 0 ≤ c ∧ c < 256) ∧ Fr a_ 57 [(1, .pointer (some ⟨g2, 0, none⟩)), (5, .int .i64 g.box.vol), (6, .int .i64 (k : Int))] ∧ Mem w w_ [.arr g2 36 (gcs g A c)]) (g.cells.length - 0) ⟨0, rfl, (Nat.zero_le _), (by simp), ⟨litSize, rfl, ⟨litGet (by kernel_rfl), ⟨litGet (by kernel_rfl), ⟨litGet (by kernel_rfl), trivial⟩⟩⟩⟩, (hm34.sub (.cons_cons _ .slnil))⟩ ?_
        clear hm34
        intro n_ a48 w46 hI_
        obtain ⟨k, rfl, hk_, hk2_, hF_, hm47⟩ := hI_
        obtain ⟨X49, rfl⟩ := frLit hF_
        clear hF_
        refine wp_seq_k fun K50 hK50 => ?_
        refine wp_seq_k fun K51 hK51 => ?_
        refine plStart ?_
        refine lk (v := .int .i64 (k : Int)) rfl rfl rfl ?_
        refine lk (v := .int .i64 g.box.vol) rfl rfl rfl ?_
        by_cases h52 : (k : Int) < g.box.vol
        · have hkl : k < g.cells.length := by omega
          obtain ⟨n, hn⟩ : ∃ n, g.cells[k]? = some n := ⟨_, List.getElem?_eq_getElem hkl⟩
          obtain ⟨b9_, off9_, rfl, _, _⟩ := hrd.cells (by omega)
          refine litVal (v := .bool true) rfl (wn rfl) (boolTo (decide_eq_true h52) (lssRun (A := (k : Int)) (B := g.box.vol) (.tmp 44) (.tmp 45) rfl (litEv (by kernel_rfl)) (litEv (by kernel_rfl)))) rfl (by decide) ?_
          refine plD ?_
          refine then_normal (hK51 _ _ ?_)
          refine wp_cond_true (litEv (by kernel_rfl)) ?_
          refine wp_skip ?_
          refine then_normal (hK50 _ _ ?_)
          refine wp_seq_k fun K53 hK53 => ?_
          refine wp_block ?_
          refine wp_seq_k fun K54 hK54 => ?_
          refine plStart ?_
          refine lk (v := .pointer (some ⟨g2, 6, none⟩)) rfl rfl rfl ?_
          refine litVal (v := .slice (some ⟨b9_, off9_, none⟩) g.cells.length c) rfl (wn rfl) (gLoad (v := .slice (some ⟨b9_, off9_, none⟩) g.cells.length c) (k := 6) 0 hm47 rfl (by kernel_rfl) (.tmp 49) (by kernel_rfl) rfl (litEv (by kernel_rfl))) rfl (by decide) ?_
          refine lk (v := .int .i64 (k : Int)) rfl rfl rfl ?_
          refine litVal (v := .pointer (some ⟨b9_, off9_ + k * 1, none⟩)) rfl (wn rfl) (gIaSl (b := b9_) (off := off9_) (n := g.cells.length) (c := c) (kk := .i64) (K := (k : Int)) (.tmp 50) (.tmp 51) k Ty.sl_L_int rfl (litEv (by kernel_rfl)) (litEv (by kernel_rfl)) (rfl) (hkl)) rfl (by decide) ?_
          refine litVal (v := .int .i64 n) rfl (wn rfl) (gLoadRd (v := .int .i64 n) (m := k * 1) ((Rd.below hrd hm47.bel).more hm47.bel.size) rfl (icsGet hn) (by omega) (.tmp 52) (by kernel_rfl) rfl (litEv (by kernel_rfl))) rfl (by decide) ?_
          refine plCall (i := 5) 40 [.int .i64 n] [] [] rfl (by kernel_rfl) (wn rfl) rfl (litEv (by kernel_rfl)) (litArgs (by kernel_rfl)) (isMat_any n _) ?_
          rintro e w55 ⟨rfl, hbz⟩
          have hm56 := hm47.below hbz
          clear hbz hm47
          refine ⟨_, rfl, ?_⟩
          refine qP rfl ?_
          rcases bool_or (decide (0 ≤ n ∧ n < 256)) with h57 | h57
          · rw [h57]
            refine lk (v := .bool false) rfl rfl rfl ?_
            refine plD ?_
            refine then_normal (hK54 _ _ ?_)
            refine wp_seq_k fun K58 hK58 => ?_
            refine plStart ?_
            refine lk (v := .bool false) rfl rfl rfl ?_
            refine lk (v := .bool true) rfl rfl rfl ?_
            refine plD ?_
            refine then_normal (hK58 _ _ ?_)
            refine wp_cond_true (litEv (by kernel_rfl)) ?_
            refine wp_seq_k fun K59 hK59 => ?_
            refine plStart ?_
            refine lk (v := .bool false) rfl rfl rfl ?_
            refine plD ?_
            refine then_normal (hK59 _ _ ?_)
            refine wp_ret ?_
            refine inBlock_ret ?_
            refine then_ret ?_
            refine then_ret ?_
            refine inBlock_ret ?_
            refine then_ret ?_
            refine bodyPost_ret (v := .bool false) (gRes1 rfl (gResTmp (t := 2) (v := .bool false) (litGet (by kernel_rfl)))) rfl ?_
            exact ⟨congrArg (fun b_ => Ending.returned (.bool b_)) (decide_eq_false (fun h_ => of_decide_eq_false h57 (h_.2.2 n (List.mem_of_getElem? hn)))).symm, hm56.bel⟩
          rw [h57]
          refine lk (v := .bool true) rfl rfl rfl ?_
          refine plD ?_
          refine then_normal (hK54 _ _ ?_)
          refine wp_seq_k fun K60 hK60 => ?_
          refine plStart ?_
          refine lk (v := .bool true) rfl rfl rfl ?_
          refine lk (v := .bool false) rfl rfl rfl ?_
          refine plD ?_
          refine then_normal (hK60 _ _ ?_)
          refine wp_cond_false (litEv (by kernel_rfl)) ?_
          refine wp_skip ?_
          refine inBlock_normal ?_
          refine then_normal (hK53 _ _ ?_)
          refine plStart ?_
          refine lk (v := .int .i64 (k : Int)) rfl rfl rfl ?_
          refine litVal (v := .int .i64 ((k : Int) + 1)) rfl (wn rfl) (addRun (A := (k : Int)) (B := 1) (C := (k : Int) + 1) (.tmp 47) (.const (.int .i64 1)) rfl (litEv (by kernel_rfl)) (litEv (by kernel_rfl)) rfl (by omega)) rfl (by decide) ?_
          refine lk (v := .int .i64 ((k : Int) + 1)) rfl rfl rfl ?_
          refine plD ?_
          refine then_normal ?_
          exact ⟨_, by omega, (k + 1), rfl, (by omega), (take_all_succ_ hn hk2_ (of_decide_eq_true h57)), ⟨litSize, rfl, ⟨litGet (by kernel_rfl), ⟨litGet (by kernel_rfl), ⟨litGet (by kernel_rfl), trivial⟩⟩⟩⟩, (hm56.sub (.cons_cons _ .slnil))⟩
        refine litVal (v := .bool false) rfl (wn rfl) (boolTo (decide_eq_false h52) (lssRun (A := (k : Int)) (B := g.box.vol) (.tmp 44) (.tmp 45) rfl (litEv (by kernel_rfl)) (litEv (by kernel_rfl)))) rfl (by decide) ?_
        refine plD ?_
        refine then_normal (hK51 _ _ ?_)
        refine wp_cond_false (litEv (by kernel_rfl)) ?_
        refine wp_exit ?_
        refine then_exit ?_
        refine then_exit ?_
        refine inBlock_exit ?_
        refine then_normal (hK44 _ _ ?_)
        refine wp_seq_k fun K61 hK61 => ?_
        refine plStart ?_
        refine lk (v := .bool true) rfl rfl rfl ?_
        refine plD ?_
        refine then_normal (hK61 _ _ ?_)
        refine wp_ret ?_
        refine bodyPost_ret (v := .bool true) (gRes1 rfl (gResTmp (t := 2) (v := .bool true) (litGet (by kernel_rfl)))) rfl ?_
        exact ⟨congrArg (fun b_ => Ending.returned (.bool b_)) (decide_eq_true ⟨⟨of_decide_eq_true h8, of_decide_eq_true h24⟩, (fun h_ => by rcases h_ with h1_ | h1_ | h1_; exact h1_.2 h38; exact h39 h1_; exact h1_ h42), (by rw [List.take_of_length_le (by omega)] at hk2_; exact hk2_)⟩).symm, hm47.bel⟩
      refine litVal (v := .bool true) rfl (wgY rfl rfl rfl (by decide) (by kernel_rfl)) (boolTo (by rw [decide_eq_false h42]; rfl) (neqRun (A := (g.cells.length : Int)) (B := g.box.vol) (.tmp 40) (.tmp 41) rfl (litEv (by kernel_rfl)) (litEv (by kernel_rfl)))) rfl (by decide) ?_
      refine lk (v := .bool true) rfl rfl rfl ?_
      refine plD ?_
      refine then_normal (hK36 _ _ ?_)
      refine wpPrune [(1, .pointer (some ⟨g2, 0, none⟩)), (2, .bool false), (5, .int .i64 g.box.vol), (43, .bool true)] ⟨litGet (by kernel_rfl), ⟨litGet (by kernel_rfl), ⟨litGet (by kernel_rfl), ⟨litGet (by kernel_rfl), trivial⟩⟩⟩⟩ (fun X62 => ?_)
      refine wp_cond_true (litEv (by kernel_rfl)) ?_
      refine wp_seq_k fun K63 hK63 => ?_
      refine plStart ?_
      refine lk (v := .bool false) rfl rfl rfl ?_
      refine plD ?_
      refine then_normal (hK63 _ _ ?_)
      refine wp_ret ?_
      refine then_ret ?_
      refine bodyPost_ret (v := .bool false) (gRes1 rfl (gResTmp (t := 2) (v := .bool false) (litGet (by kernel_rfl)))) rfl ?_
      exact ⟨congrArg (fun b_ => Ending.returned (.bool b_)) (decide_eq_false (fun h_ => h_.2.1 (Or.inr (Or.inr h42)))).symm, hm34.bel⟩
    refine litVal (v := .bool true) rfl (wgY rfl rfl rfl (by decide) (by kernel_rfl)) (boolTo (by rw [decide_eq_false h38]; rfl) (neqAgRun 2 (.tmp 29) (.tmp 30) (bxs g.box) (bxs bx0) (decide (g.box = bx0)) (by rw [decide_eq_true_iff, bxs_inj]) (by kernel_rfl) rfl (by kernel_rfl) (by kernel_rfl) (by kernel_rfl) (by kernel_rfl) rfl (litEv (by kernel_rfl)) (litEv (by kernel_rfl)))) rfl (by decide) ?_
    refine lk (v := .bool true) rfl rfl rfl ?_
    refine lk (v := .bool true) rfl rfl rfl ?_
    refine plSkip (i := 9) rfl (wgN rfl rfl rfl (by decide) (by kernel_rfl)) ?_
    refine qP rfl ?_
    refine plSkip (i := 10) rfl (wgN rfl rfl rfl (by decide) (by kernel_rfl)) ?_
    refine qP rfl ?_
    refine lk (v := .bool true) rfl rfl rfl ?_
    refine lk (v := .bool true) rfl rfl rfl ?_
    refine plSkip (i := 13) rfl (wgN rfl rfl rfl (by decide) (by kernel_rfl)) ?_
    refine qP rfl ?_
    refine plSkip (i := 14) rfl (wgN rfl rfl rfl (by decide) (by kernel_rfl)) ?_
    refine qP rfl ?_
    refine plSkip (i := 15) rfl (wgN rfl rfl rfl (by decide) (by kernel_rfl)) ?_
    refine qP rfl ?_
    refine plSkip (i := 16) rfl (wgN rfl rfl rfl (by decide) (by kernel_rfl)) ?_
    refine qP rfl ?_
    refine plSkip (i := 17) rfl (wgN rfl rfl rfl (by decide) (by kernel_rfl)) ?_
    refine qP rfl ?_
    refine lk (v := .bool true) rfl rfl rfl ?_
    refine plD ?_
    refine then_normal (hK36 _ _ ?_)
    refine wpPrune [(1, .pointer (some ⟨g2, 0, none⟩)), (2, .bool false), (5, .int .i64 g.box.vol), (43, .bool true)] ⟨litGet (by kernel_rfl), ⟨litGet (by kernel_rfl), ⟨litGet (by kernel_rfl), ⟨litGet (by kernel_rfl), trivial⟩⟩⟩⟩ (fun X64 => ?_)
    refine wp_cond_true (litEv (by kernel_rfl)) ?_
    refine wp_seq_k fun K65 hK65 => ?_
    refine plStart ?_
    refine lk (v := .bool false) rfl rfl rfl ?_
    refine plD ?_
    refine then_normal (hK65 _ _ ?_)
    refine wp_ret ?_
    refine then_ret ?_
    refine bodyPost_ret (v := .bool false) (gRes1 rfl (gResTmp (t := 2) (v := .bool false) (litGet (by kernel_rfl)))) rfl ?_
    exact ⟨congrArg (fun b_ => Ending.returned (.bool b_)) (decide_eq_false (fun h_ => h_.2.1 (Or.inl ⟨h37, h38⟩))).symm, hm34.bel⟩
  refine litVal (v := .bool false) rfl (wn rfl) (boolTo (decide_eq_false h37) (eqlRun (A := g.box.vol) (B := 0) (.tmp 25) (.const (.int .i64 0)) rfl (litEv (by kernel_rfl)) (litEv (by kernel_rfl)))) rfl (by decide) ?_
  refine lk (v := .bool false) rfl rfl rfl ?_
  refine plSkip (i := 3) rfl (wgN rfl rfl rfl (by decide) (by kernel_rfl)) ?_
  refine qP rfl ?_
  refine plSkip (i := 4) rfl (wgN rfl rfl rfl (by decide) (by kernel_rfl)) ?_
  refine qP rfl ?_
  refine plSkip (i := 5) rfl (wgN rfl rfl rfl (by decide) (by kernel_rfl)) ?_
  refine qP rfl ?_
  refine plSkip (i := 6) rfl (wgN rfl rfl rfl (by decide) (by kernel_rfl)) ?_
  refine qP rfl ?_
  refine lk (v := .bool false) rfl rfl rfl ?_
  refine lk (v := .bool false) rfl rfl rfl ?_
  refine litVal (v := .int .i64 g.box.vol) rfl (wgY rfl rfl rfl (by decide) (by kernel_rfl)) (litRun (by kernel_rfl)) rfl (by decide) ?_
  by_cases h66 : 2097152 < g.box.vol
  · refine litVal (v := .bool true) rfl (wgY rfl rfl rfl (by decide) (by kernel_rfl)) (boolTo (decide_eq_true h66) (gtrRun (A := g.box.vol) (B := 2097152) (.tmp 34) (.const (.int .i64 2097152)) rfl (litEv (by kernel_rfl)) (litEv (by kernel_rfl)))) rfl (by decide) ?_
    refine lk (v := .bool true) rfl rfl rfl ?_
    refine lk (v := .bool true) rfl rfl rfl ?_
    refine plSkip (i := 13) rfl (wgN rfl rfl rfl (by decide) (by kernel_rfl)) ?_
    refine qP rfl ?_
    refine plSkip (i := 14) rfl (wgN rfl rfl rfl (by decide) (by kernel_rfl)) ?_
    refine qP rfl ?_
    refine plSkip (i := 15) rfl (wgN rfl rfl rfl (by decide) (by kernel_rfl)) ?_
    refine qP rfl ?_
    refine plSkip (i := 16) rfl (wgN rfl rfl rfl (by decide) (by kernel_rfl)) ?_
    refine qP rfl ?_
    refine plSkip (i := 17) rfl (wgN rfl rfl rfl (by decide) (by kernel_rfl)) ?_
    refine qP rfl ?_
    refine lk (v := .bool true) rfl rfl rfl ?_
    refine plD ?_
    refine then_normal (hK36 _ _ ?_)
    refine wpPrune [(1, .pointer (some ⟨g2, 0, none⟩)), (2, .bool false), (5, .int .i64 g.box.vol), (43, .bool true)] ⟨litGet (by kernel_rfl), ⟨litGet (by kernel_rfl), ⟨litGet (by kernel_rfl), ⟨litGet (by kernel_rfl), trivial⟩⟩⟩⟩ (fun X67 => ?_)
    refine wp_cond_true (litEv (by kernel_rfl)) ?_
    refine wp_seq_k fun K68 hK68 => ?_
    refine plStart ?_
    refine lk (v := .bool false) rfl rfl rfl ?_
    refine plD ?_
    refine then_normal (hK68 _ _ ?_)
    refine wp_ret ?_
    refine then_ret ?_
    refine bodyPost_ret (v := .bool false) (gRes1 rfl (gResTmp (t := 2) (v := .bool false) (litGet (by kernel_rfl)))) rfl ?_
    exact ⟨congrArg (fun b_ => Ending.returned (.bool b_)) (decide_eq_false (fun h_ => h_.2.1 (Or.inr (Or.inl h66)))).symm, hm34.bel⟩
  refine litVal (v := .bool false) rfl (wgY rfl rfl rfl (by decide) (by kernel_rfl)) (boolTo (decide_eq_false h66) (gtrRun (A := g.box.vol) (B := 2097152) (.tmp 34) (.const (.int .i64 2097152)) rfl (litEv (by kernel_rfl)) (litEv (by kernel_rfl)))) rfl (by decide) ?_
  refine lk (v := .bool false) rfl rfl rfl ?_
  refine lk (v := .bool false) rfl rfl rfl ?_
  refine litVal (v := .pointer (some ⟨g2, 6, none⟩)) rfl (wgY rfl rfl rfl (by decide) (by kernel_rfl)) (litRun (by kernel_rfl)) rfl (by decide) ?_
  refine litVal (v := .slice A g.cells.length c) rfl (wgY rfl rfl rfl (by decide) (by kernel_rfl)) (gLoad (v := .slice A g.cells.length c) (k := 6) 0 hm34 rfl (by kernel_rfl) (.tmp 38) (by kernel_rfl) rfl (litEv (by kernel_rfl))) rfl (by decide) ?_
  refine litVal (v := .int .i64 (g.cells.length : Int)) rfl (wgY rfl rfl rfl (by decide) (by kernel_rfl)) (lenSlRun (A := A) (n := g.cells.length) (c := c) (.tmp 39) Ty.und_L_int rfl (litEv (by kernel_rfl))) rfl (by decide) ?_
  refine litVal (v := .int .i64 g.box.vol) rfl (wgY rfl rfl rfl (by decide) (by kernel_rfl)) (litRun (by kernel_rfl)) rfl (by decide) ?_
  by_cases h69 : (g.cells.length : Int) = g.box.vol
  · refine litVal (v := .bool false) rfl (wgY rfl rfl rfl (by decide) (by kernel_rfl)) (boolTo (by rw [decide_eq_true h69]; rfl) (neqRun (A := (g.cells.length : Int)) (B := g.box.vol) (.tmp 40) (.tmp 41) rfl (litEv (by kernel_rfl)) (litEv (by kernel_rfl)))) rfl (by decide) ?_
    refine lk (v := .bool false) rfl rfl rfl ?_
    refine plD ?_
    refine then_normal (hK36 _ _ ?_)
    refine wpPrune [(1, .pointer (some ⟨g2, 0, none⟩)), (2, .bool false), (5, .int .i64 g.box.vol), (43, .bool false)] ⟨litGet (by kernel_rfl), ⟨litGet (by kernel_rfl), ⟨litGet (by kernel_rfl), ⟨litGet (by kernel_rfl), trivial⟩⟩⟩⟩ (fun X70 => ?_)
    refine wp_cond_false (litEv (by kernel_rfl)) ?_
    refine wp_skip ?_
    refine then_normal (hK35 _ _ ?_)
    refine wp_seq_k fun K71 hK71 => ?_
    refine wp_seq_k fun K72 hK72 => ?_
    refine plStart ?_
    refine lk (v := .int .i64 0) rfl rfl rfl ?_
    refine plD ?_
    refine then_normal (hK72 _ _ ?_)
    refine wp_block ?_
    refine gwLoop (fun n_ a_ w_ => ∃ (k : Nat), n_ = g.cells.length - k ∧ (k ≤ g.cells.length) ∧ (∀ c ∈ g.cells.take k, 0 ≤ c ∧ c < 256) ∧ Fr a_ 57 [(1, .pointer (some ⟨g2, 0, none⟩)), (5, .int .i64 g.box.vol), (6, .int .i64 (k : Int))] ∧ Mem w w_ [.arr g2 36 (gcs g A c)]) (g.cells.length - 0) ⟨0, rfl, (Nat.zero_le _), (by simp), ⟨litSize, rfl, ⟨litGet (by kernel_rfl), ⟨litGet (by kernel_rfl), ⟨litGet (by kernel_rfl), trivial⟩⟩⟩⟩, (hm34.sub (.cons_cons _ .slnil))⟩ ?_
    clear hm34
    intro n_ a75 w73 hI_
    obtain ⟨k, rfl, hk_, hk2_, hF_, hm74⟩ := hI_
    obtain ⟨X76, rfl⟩ := frLit hF_
    clear hF_
    refine wp_seq_k fun K77 hK77 => ?_
    refine wp_seq_k fun K78 hK78 => ?_
    refine plStart ?_
    refine lk (v := .int .i64 (k : Int)) rfl rfl rfl ?_
    refine lk (v := .int .i64 g.box.vol) rfl rfl rfl ?_
    by_cases h79 : (k : Int) < g.box.vol
    · have hkl : k < g.cells.length := by omega
      obtain ⟨n, hn⟩ : ∃ n, g.cells[k]? = some n := ⟨_, List.getElem?_eq_getElem hkl⟩
      obtain ⟨b9_, off9_, rfl, _, _⟩ := hrd.cells (by omega)
      refine litVal (v := .bool true) rfl (wn rfl) (boolTo (decide_eq_true h79) (lssRun (A := (k : Int)) (B := g.box.vol) (.tmp 44) (.tmp 45) rfl (litEv (by kernel_rfl)) (litEv (by kernel_rfl)))) rfl (by decide) ?_
      refine plD ?_
      refine then_normal (hK78 _ _ ?_)
      refine wp_cond_true (litEv (by kernel_rfl)) ?_
      refine wp_skip ?_
      refine then_normal (hK77 _ _ ?_)
      refine wp_seq_k fun K80 hK80 => ?_
      refine wp_block ?_
      refine wp_seq_k fun K81 hK81 => ?_
      refine plStart ?_
      refine lk (v := .pointer (some ⟨g2, 6, none⟩)) rfl rfl rfl ?_
      refine litVal (v := .slice (some ⟨b9_, off9_, none⟩) g.cells.length c) rfl (wn rfl) (gLoad (v := .slice (some ⟨b9_, off9_, none⟩) g.cells.length c) (k := 6) 0 hm74 rfl (by kernel_rfl) (.tmp 49) (by kernel_rfl) rfl (litEv (by kernel_rfl))) rfl (by decide) ?_
      refine lk (v := .int .i64 (k : Int)) rfl rfl rfl ?_
      refine litVal (v := .pointer (some ⟨b9_, off9_ + k * 1, none⟩)) rfl (wn rfl) (gIaSl (b := b9_) (off := off9_) (n := g.cells.length) (c := c) (kk := .i64) (K := (k : Int)) (.tmp 50) (.tmp 51) k Ty.sl_L_int rfl (litEv (by kernel_rfl)) (litEv (by kernel_rfl)) (rfl) (hkl)) rfl (by decide) ?_
      refine litVal (v := .int .i64 n) rfl (wn rfl) (gLoadRd (v := .int .i64 n) (m := k * 1) ((Rd.below hrd hm74.bel).more hm74.bel.size) rfl (icsGet hn) (by omega) (.tmp 52) (by kernel_rfl) rfl (litEv (by kernel_rfl))) rfl (by decide) ?_
      refine plCall (i := 5) 40 [.int .i64 n] [] [] rfl (by kernel_rfl) (wn rfl) rfl (litEv (by kernel_rfl)) (litArgs (by kernel_rfl)) (isMat_any n _) ?_
      rintro e w82 ⟨rfl, hbz⟩
      have hm83 := hm74.below hbz
      clear hbz hm74
      refine ⟨_, rfl, ?_⟩
      refine qP rfl ?_
      rcases bool_or (decide (0 ≤ n ∧ n < 256)) with h84 | h84
      · rw [h84]
        refine lk (v := .bool false) rfl rfl rfl ?_
        refine plD ?_
        refine then_normal (hK81 _ _ ?_)
        refine wp_seq_k fun K85 hK85 => ?_
        refine plStart ?_
        refine lk (v := .bool false) rfl rfl rfl ?_
        refine lk (v := .bool true) rfl rfl rfl ?_
        refine plD ?_
        refine then_normal (hK85 _ _ ?_)
        refine wp_cond_true (litEv (by kernel_rfl)) ?_
        refine wp_seq_k fun K86 hK86 => ?_
        refine plStart ?_
        refine lk (v := .bool false) rfl rfl rfl ?_
        refine plD ?_
        refine then_normal (hK86 _ _ ?_)
        refine wp_ret ?_
        refine inBlock_ret ?_
        refine then_ret ?_
        refine then_ret ?_
        refine inBlock_ret ?_
        refine then_ret ?_
        refine bodyPost_ret (v := .bool false) (gRes1 rfl (gResTmp (t := 2) (v := .bool false) (litGet (by kernel_rfl)))) rfl ?_
        exact ⟨congrArg (fun b_ => Ending.returned (.bool b_)) (decide_eq_false (fun h_ => of_decide_eq_false h84 (h_.2.2 n (List.mem_of_getElem? hn)))).symm, hm83.bel⟩
      rw [h84]
      refine lk (v := .bool true) rfl rfl rfl ?_
      refine plD ?_
      refine then_normal (hK81 _ _ ?_)
      refine wp_seq_k fun K87 hK87 => ?_
      refine plStart ?_
      refine lk (v := .bool true) rfl rfl rfl ?_
      refine lk (v := .bool false) rfl rfl rfl ?_
      refine plD ?_
      refine then_normal (hK87 _ _ ?_)
      refine wp_cond_false (litEv (by kernel_rfl)) ?_
      refine wp_skip ?_
      refine inBlock_normal ?_
      refine then_normal (hK80 _ _ ?_)
      refine plStart ?_
      refine lk (v := .int .i64 (k : Int)) rfl rfl rfl ?_
      refine litVal (v := .int .i64 ((k : Int) + 1)) rfl (wn rfl) (addRun (A := (k : Int)) (B := 1) (C := (k : Int) + 1) (.tmp 47) (.const (.int .i64 1)) rfl (litEv (by kernel_rfl)) (litEv (by kernel_rfl)) rfl (by omega)) rfl (by decide) ?_
      refine lk (v := .int .i64 ((k : Int) + 1)) rfl rfl rfl ?_
      refine plD ?_
      refine then_normal ?_
      exact ⟨_, by omega, (k + 1), rfl, (by omega), (take_all_succ_ hn hk2_ (of_decide_eq_true h84)), ⟨litSize, rfl, ⟨litGet (by kernel_rfl), ⟨litGet (by kernel_rfl), ⟨litGet (by kernel_rfl), trivial⟩⟩⟩⟩, (hm83.sub (.cons_cons _ .slnil))⟩
    refine litVal (v := .bool false) rfl (wn rfl) (boolTo (decide_eq_false h79) (lssRun (A := (k : Int)) (B := g.box.vol) (.tmp 44) (.tmp 45) rfl (litEv (by kernel_rfl)) (litEv (by kernel_rfl)))) rfl (by decide) ?_
    refine plD ?_
    refine then_normal (hK78 _ _ ?_)
    refine wp_cond_false (litEv (by kernel_rfl)) ?_
    refine wp_exit ?_
    refine then_exit ?_
    refine then_exit ?_
    refine inBlock_exit ?_
    refine then_normal (hK71 _ _ ?_)
    refine wp_seq_k fun K88 hK88 => ?_
    refine plStart ?_
    refine lk (v := .bool true) rfl rfl rfl ?_
    refine plD ?_
    refine then_normal (hK88 _ _ ?_)
    refine wp_ret ?_
    refine bodyPost_ret (v := .bool true) (gRes1 rfl (gResTmp (t := 2) (v := .bool true) (litGet (by kernel_rfl)))) rfl ?_
    exact ⟨congrArg (fun b_ => Ending.returned (.bool b_)) (decide_eq_true ⟨⟨of_decide_eq_true h8, of_decide_eq_true h24⟩, (fun h_ => by rcases h_ with h1_ | h1_ | h1_; exact h37 h1_.1; exact h66 h1_; exact h1_ h69), (by rw [List.take_of_length_le (by omega)] at hk2_; exact hk2_)⟩).symm, hm74.bel⟩
  refine litVal (v := .bool true) rfl (wgY rfl rfl rfl (by decide) (by kernel_rfl)) (boolTo (by rw [decide_eq_false h69]; rfl) (neqRun (A := (g.cells.length : Int)) (B := g.box.vol) (.tmp 40) (.tmp 41) rfl (litEv (by kernel_rfl)) (litEv (by kernel_rfl)))) rfl (by decide) ?_
  refine lk (v := .bool true) rfl rfl rfl ?_
  refine plD ?_
  refine then_normal (hK36 _ _ ?_)
  refine wpPrune [(1, .pointer (some ⟨g2, 0, none⟩)), (2, .bool false), (5, .int .i64 g.box.vol), (43, .bool true)] ⟨litGet (by kernel_rfl), ⟨litGet (by kernel_rfl), ⟨litGet (by kernel_rfl), ⟨litGet (by kernel_rfl), trivial⟩⟩⟩⟩ (fun X89 => ?_)
  refine wp_cond_true (litEv (by kernel_rfl)) ?_
  refine wp_seq_k fun K90 hK90 => ?_
  refine plStart ?_
  refine lk (v := .bool false) rfl rfl rfl ?_
  refine plD ?_
  refine then_normal (hK90 _ _ ?_)
  refine wp_ret ?_
  refine then_ret ?_
  refine bodyPost_ret (v := .bool false) (gRes1 rfl (gResTmp (t := 2) (v := .bool false) (litGet (by kernel_rfl)))) rfl ?_
  exact ⟨congrArg (fun b_ => Ending.returned (.bool b_)) (decide_eq_false (fun h_ => h_.2.1 (Or.inr (Or.inr h69)))).symm, hm34.bel⟩
end Go.Proofs.Ytopdcdjmiepdfaa
