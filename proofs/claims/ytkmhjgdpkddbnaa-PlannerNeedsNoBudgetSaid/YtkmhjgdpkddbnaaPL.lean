/-
  PL: several texts in one. No statement is proved here.
-/
import Derived.Test.YtkmhjgdpkddbnaaPK
import Derived.Test.YtkmhjgdpkddbnaaPH
import Derived.Test.YtkmhjgdpkddbnaaPG
set_option linter.unusedVariables false
set_option linter.unusedSimpArgs false
namespace Go.Proofs.Ytkmhjgdpkddbnaa
theorem side_pow {l : Int} {m : Nat} (h : 0 ≤ l) : sideL (l + m) = sideL l * 2 ^ m := by
  unfold sideL
  rw [show (l + m).toNat = l.toNat + m by omega, Int.pow_add, Int.mul_assoc]
theorem div_in {a S q : Int} {m : Nat} (hS : 4 ≤ S) (ha : a % S = 0) (h1 : a ≤ q) (h2 : q < a + S) : q / (S * 2 ^ m) = a / (S * 2 ^ m) := by
  rw [← Int.ediv_ediv_of_nonneg (by omega), ← Int.ediv_ediv_of_nonneg (by omega)]
  have e : q / S = a / S := by
    obtain ⟨c, rfl⟩ := Int.dvd_of_emod_eq_zero ha
    rw [Int.mul_ediv_cancel_left _ (by omega)]
    have h3 : q = S * c + (q - S * c) := by omega
    rw [h3, Int.add_comm, Int.add_mul_ediv_left _ _ (by omega), Int.ediv_eq_zero_of_lt (by omega) (by omega), Int.zero_add]
  rw [e]
def Tl.holds (t : Tl) (q : Pt) : Prop := (t.p.x ≤ q.x ∧ q.x < t.p.x + sideL t.lv) ∧ (t.p.y ≤ q.y ∧ q.y < t.p.y + sideL t.lv) ∧ (t.p.z ≤ q.z ∧ q.z < t.p.z + sideL t.lv)
theorem box_has (t : Tl) (q : Pt) : t.box.has q ↔ t.holds q := by
  unfold Bx.has Tl.box Bx.shift cubeB Pt.add Tl.holds
  simp only
  constructor <;> intro h <;> omega
theorem tileAt_up {t : Tl} {q : Pt} {m : Int} (h : t.Ok) (hq : t.holds q) (hm : t.lv ≤ m) : tileAt m q = tileAt m t.p := by
  obtain ⟨n, rfl⟩ : ∃ n : Nat, m = t.lv + n := ⟨(m - t.lv).toNat, by omega⟩
  have hl := h.lv
  have hS := side_bd hl
  unfold tileAt
  rw [side_pow hl.1, div_in hS.1 h.x.2.2 hq.1.1 hq.1.2, div_in hS.1 h.y.2.2 hq.2.1.1 hq.2.1.2, div_in hS.1 h.z.2.2 hq.2.2.1 hq.2.2.2]
theorem tileAt_self {t : Tl} (h : t.Ok) : tileAt t.lv t.p = t := by
  have hx := Int.ediv_mul_cancel (Int.dvd_of_emod_eq_zero h.x.2.2)
  have hy := Int.ediv_mul_cancel (Int.dvd_of_emod_eq_zero h.y.2.2)
  have hz := Int.ediv_mul_cancel (Int.dvd_of_emod_eq_zero h.z.2.2)
  unfold tileAt
  rw [hx, hy, hz]
theorem tileAt_in {t : Tl} {q : Pt} (h : t.Ok) (hq : t.holds q) : tileAt t.lv q = t := by
  rw [tileAt_up h hq (Int.le_refl _), tileAt_self h]
theorem child_holds {t : Tl} (h : t.Ok) (h1 : 1 ≤ t.lv) (k : Nat) : t.holds (child t k).p := by
  have hc := child_in h h1 k
  have hs := side_bd (l := (child t k).lv) (by show 0 ≤ t.lv - 1 ∧ t.lv - 1 ≤ 12; have := h.lv; omega)
  unfold Tl.holds
  omega
/-- The greater tiles that contain a tile have errors greater than the tolerance. -/
def AncOk (v : Vw) (depth : Int) (l : List Tl) : Prop := ∀ t ∈ l, ∀ m, t.lv < m → m ≤ depth - 2 → v.tol < err v (tileAt m t.p)
theorem anc_split {v : Vw} {depth : Int} {l : List Tl} {k : Nat} {t : Tl} (hl : ∀ u ∈ l, u.Ok) (h : AncOk v depth l) (ht : l[k]? = some t) (h1 : 1 ≤ t.lv) (h2 : v.tol < err v t) : AncOk v depth (splitAt l k) := by
  intro u hu m hm hd
  rcases mem_splitAt ht hu with hu | hu
  · exact h u hu m hm hd
  · obtain ⟨i, _, rfl⟩ := List.mem_map.1 hu
    have htm := List.mem_of_getElem? ht
    have hto := hl t htm
    have hc := child_holds hto h1 i
    have hm' : t.lv - 1 < m := hm
    rcases (by omega : m = t.lv ∨ t.lv < m) with rfl | hm2
    · rw [tileAt_in hto hc]; exact h2
    · rw [tileAt_up hto hc (by omega)]
      exact h t htm m hm2 hd
theorem planR_anc {f : Tl → Int} {v : Vw} {depth : Int} (hE : planE f depth v = 0) : AncOk v depth (planR f depth v).tiles :=
  planR_ind hE (fun l _ => AncOk v depth l) (fun t ht m h1 h2 => by
    rw [List.mem_singleton] at ht
    subst ht
    have : depth - 2 < m := h1
    omega) fun _ _ _ _ _ hr h ht h1 h2 _ => anc_split hr.all h ht h1 h2
/-- A cell of the cube. -/
def InC (depth : Int) (q : Pt) : Prop := (0 ≤ q.x ∧ q.x < 2 ^ depth.toNat) ∧ (0 ≤ q.y ∧ q.y < 2 ^ depth.toNat) ∧ (0 ≤ q.z ∧ q.z < 2 ^ depth.toNat)
theorem halfOfTile {x q S : Int} (h1 : x ≤ q) (h2 : q < x + 2 * S) : ∃ i : Nat, i < 2 ∧ x + (i : Int) * S ≤ q ∧ q < x + (i : Int) * S + S := by
  by_cases h : q < x + S
  · exact ⟨0, by omega, by simp; omega, by simp; omega⟩
  · exact ⟨1, by omega, by simp; omega, by simp; omega⟩
theorem split_cover {t : Tl} {q : Pt} (h : t.Ok) (h1 : 1 ≤ t.lv) (hq : t.holds q) : ∃ u ∈ splitT t, u.holds q := by
  have hl := h.lv
  have e := side_half ⟨h1, hl.2⟩
  have hq2 := hq
  unfold Tl.holds at hq2
  rw [e] at hq2
  obtain ⟨i, hi, ix⟩ := halfOfTile hq2.1.1 hq2.1.2
  obtain ⟨j, hj, jx⟩ := halfOfTile hq2.2.1.1 hq2.2.1.2
  obtain ⟨k, hk, kx⟩ := halfOfTile hq2.2.2.1 hq2.2.2.2
  refine ⟨child t (i + 2 * j + 4 * k), List.mem_map.2 ⟨_, List.mem_range.2 (by omega), rfl⟩, ?_⟩
  unfold Tl.holds child Pt.add Pt.mul octP
  simp only
  rw [show (i + 2 * j + 4 * k) % 2 = i by omega, show (i + 2 * j + 4 * k) / 2 % 2 = j by omega, show (i + 2 * j + 4 * k) / 4 % 2 = k by omega]
  exact ⟨ix, jx, kx⟩
def Covers (depth : Int) (l : List Tl) : Prop := ∀ q : Pt, InC depth q → ∃ t ∈ l, t.holds q
theorem cover_split {depth : Int} {l : List Tl} {k : Nat} {t : Tl} (hl : ∀ u ∈ l, u.Ok) (h : Covers depth l) (ht : l[k]? = some t) (h1 : 1 ≤ t.lv) : Covers depth (splitAt l k) := by
  intro q hq
  obtain ⟨u, hu, hh⟩ := h q hq
  rw [splitAt_eq ht]
  rw [split_list ht] at hu
  rcases List.mem_append.1 hu with hu | hu
  · exact ⟨u, by simp [hu], hh⟩
  · rcases List.mem_cons.1 hu with rfl | hu
    · obtain ⟨c, hc, hch⟩ := split_cover (hl u (List.mem_of_getElem? ht)) h1 hh
      exact ⟨c, by simp [hc], hch⟩
    · exact ⟨u, by simp [hu], hh⟩
theorem planR_covers {f : Tl → Int} {v : Vw} {depth : Int} (hE : planE f depth v = 0) : Covers depth (planR f depth v).tiles := by
  refine planR_ind hE (fun l _ => Covers depth l) (fun q hq => ⟨wholeT depth, by simp, ?_⟩) fun _ _ _ _ _ hr h ht h1 _ _ => cover_split hr.all h ht h1
  have hd := (planE_dp hE).1
  have hs : sideL (depth - 2) = 2 ^ depth.toNat := by
    rcases (by omega : depth = 2 ∨ depth = 3 ∨ depth = 4 ∨ depth = 5 ∨ depth = 6 ∨ depth = 7 ∨ depth = 8 ∨ depth = 9 ∨ depth = 10 ∨ depth = 11 ∨ depth = 12 ∨ depth = 13 ∨ depth = 14) with rfl | rfl | rfl | rfl | rfl | rfl | rfl | rfl | rfl | rfl | rfl | rfl | rfl <;> decide
  unfold InC at hq
  unfold Tl.holds wholeT
  simp only
  rw [hs]
  omega
theorem planR_inC {f : Tl → Int} {v : Vw} {depth : Int} (hE : planE f depth v = 0) {t : Tl} (ht : t ∈ (planR f depth v).tiles) {q : Pt} (hq : t.holds q) : InC depth q := by
  have h1 := (planR_ok t ht)
  have h2 := (planR_valid hE).inD t ht
  have hx := h1.x
  have hy := h1.y
  have hz := h1.z
  unfold InD at h2
  unfold Tl.holds at hq
  unfold InC
  omega
open Classical in
noncomputable def findG (q : Pt) : Nat → List Tl → Int
  | _, [] => -1
  | k, t :: l => if t.box.has q then k else findG q (k + 1) l
noncomputable def findP (l : List Tl) (q : Pt) : Int := findG q 0 l
theorem findG_spec (q : Pt) (l0 : List Tl) : ∀ (l : List Tl) (k : Nat), l0.drop k = l → (findG q k l = -1 ∧ ∀ t ∈ l, ¬ t.box.has q) ∨ ∃ (i : Nat) (t : Tl), findG q k l = (i : Int) ∧ l0[i]? = some t ∧ t.box.has q
  | [], _, _ => Or.inl ⟨rfl, fun _ h => by cases h⟩
  | t :: l, k, hd => by
    have ht : l0[k]? = some t := by
      have h1 : (l0.drop k)[0]? = some t := by rw [hd]; rfl
      rw [List.getElem?_drop] at h1
      exact h1
    have hd2 : l0.drop (k + 1) = l := by rw [← List.drop_drop, hd]; rfl
    rw [findG]
    by_cases h : t.box.has q
    · rw [if_pos h]
      exact Or.inr ⟨k, t, rfl, ht, h⟩
    · rw [if_neg h]
      rcases findG_spec q l0 l (k + 1) hd2 with ⟨h1, h2⟩ | h1
      · left
        refine ⟨h1, fun u hu => ?_⟩
        rcases List.mem_cons.1 hu with rfl | hu
        · exact h
        · exact h2 u hu
      · exact Or.inr h1
theorem findP_spec (q : Pt) (l : List Tl) : (findP l q = -1 ∧ ∀ t ∈ l, ¬ t.box.has q) ∨ ∃ (i : Nat) (t : Tl), findP l q = (i : Int) ∧ l[i]? = some t ∧ t.box.has q := findG_spec q l l 0 rfl
theorem find_yes {q : Pt} {l : List Tl} {k : Nat} {t : Tl} {r : Int} (ht : l[k]? = some t) (hr : findG q k (l.drop k) = r) (h : t.box.has q) : (k : Int) = r := by
  obtain ⟨hl, he⟩ := List.getElem?_eq_some_iff.1 ht
  rw [List.drop_eq_getElem_cons hl, he, findG, if_pos h] at hr
  exact hr
theorem find_no {q : Pt} {l : List Tl} {k : Nat} {t : Tl} {r : Int} (ht : l[k]? = some t) (hr : findG q k (l.drop k) = r) (h : ¬ t.box.has q) : findG q (k + 1) (l.drop (k + 1)) = r := by
  obtain ⟨hl, he⟩ := List.getElem?_eq_some_iff.1 ht
  rw [List.drop_eq_getElem_cons hl, he, findG, if_neg h] at hr
  exact hr
theorem findP_in {f : Tl → Int} {v : Vw} {depth : Int} (hE : planE f depth v = 0) (q : Pt) : findP (planR f depth v).tiles q < 0 ↔ ¬ InC depth q := by
  rcases findP_spec q (planR f depth v).tiles with ⟨h1, h2⟩ | ⟨i, t, h1, h2, h3⟩
  · refine ⟨fun _ hq => ?_, fun _ => by omega⟩
    obtain ⟨t, ht, hh⟩ := planR_covers hE q hq
    exact h2 t ht ((box_has t q).2 hh)
  · refine ⟨fun h => by omega, fun h => ?_⟩
    exact absurd (planR_inC hE (List.mem_of_getElem? h2) ((box_has t q).1 h3)) h
/-- A viewer of a greater tolerance. -/
def Vw.more (v : Vw) (m : Int) : Vw := ⟨v.p, v.sc, min (v.tol + m) 1099511627776, v.bud⟩
theorem more_ck {v : Vw} {m : Int} (h : ckV v = 0) (hm : 0 ≤ m) : ckV (v.more m) = 0 := by
  have h1 := ckV_ok h
  unfold ckV Vw.more
  exact if_pos ⟨h1.1, h1.2.1, by simp only; omega, h1.2.2.2⟩
theorem free_E {v : Vw} {depth : Int} (hd : 2 ≤ depth ∧ depth ≤ 14) (h : ckV v = 0) : planE (fun _ => 0) depth v = 0 :=
  planE_0 hd h (by have := (ckV_ok h).2.2.2; show ¬ v.bud < 0; omega)
theorem free_total (l : List Tl) : totalP (fun _ => 0) l = 0 := by
  unfold totalP
  induction l with
  | nil => rfl
  | cons t l ih => simp only [List.map_cons, List.sum_cons, ih]; rfl
theorem free_none {v : Vw} {depth : Int} (hd : 2 ≤ depth ∧ depth ≤ 14) (h : ckV v = 0) (hl : (planR (fun _ => 0) depth v).tiles.length + 7 ≤ 4096) {t : Tl} (ht : t ∈ (planR (fun _ => 0) depth v).tiles) (h1 : 0 < t.lv) : err v t ≤ v.tol := by
  have h2 := planR_none (free_E hd h) hl ht
  rw [planR_cost (free_E hd h), free_total] at h2
  have h3 : moreP (fun _ => 0) t = 0 := by unfold moreP; rw [free_total]; rfl
  rw [h3] at h2
  have h4 := (ckV_ok h).2.2.2
  rcases Int.lt_or_le v.tol (err v t) with h5 | h5
  · exact absurd ⟨h1, h5, by omega⟩ h2
  · exact h5
/-- With a greater tolerance a cell lies in a tile that is not smaller. -/
theorem free_more {v : Vw} {depth m : Int} (hd : 2 ≤ depth ∧ depth ≤ 14) (h : ckV v = 0) (hm : 0 ≤ m) (hl : (planR (fun _ => 0) depth v).tiles.length + 7 ≤ 4096) {q : Pt} {t u : Tl} (ht : t ∈ (planR (fun _ => 0) depth v).tiles) (hu : u ∈ (planR (fun _ => 0) depth (v.more m)).tiles) (h1 : t.box.has q) (h2 : u.box.has q) : t.lv ≤ u.lv := by
  rcases Int.lt_or_le u.lv t.lv with hc | hc
  · have hto := planR_ok t ht
    have huo := planR_ok u hu
    have hE2 := free_E hd (more_ck h hm)
    have ha := planR_anc hE2 u hu t.lv hc ((planR_valid (free_E hd h)).inD t ht).1
    rw [← tileAt_up huo ((box_has u q).1 h2) (Int.le_of_lt hc), tileAt_in hto ((box_has t q).1 h1)] at ha
    have hn := free_none hd h hl ht (by have := huo.lv; omega)
    have hv := (ckV_ok h).2.2.1
    have e1 : err (v.more m) t = err v t := rfl
    have e2 : (v.more m).tol = min (v.tol + m) 1099511627776 := rfl
    rw [e1, e2] at ha
    omega
  · exact hc
end Go.Proofs.Ytkmhjgdpkddbnaa
namespace Go.Proofs.Ytkmhjgdpkddbnaa
open Go.RowKit
set_option linter.unusedVariables false
set_option linter.unusedSimpArgs false
set_option maxRecDepth 100000 in
set_option maxHeartbeats 4000000 in
theorem find_blk (l : List Tl) (q : Pt) (b off c : Nat) (w : World) (hr : Rd w w.heap.size 4 (some ⟨b, off, none⟩) l.length c (tlsC l)) (hall : ∀ t ∈ l, t.Ok) (hl : l.length ≤ 4096) : Calls Try.prog 25 #[.slice (some ⟨b, off, none⟩) l.length c, .agg (pcs q).toArray] w (RetV w (.int .i64 (findP l q))) := by
 have hm0 := Mem.nil w
 go_enter Try.func25, Try.ntmps25
 refine litStart 22 [(0, .slice (some ⟨b, off, none⟩) l.length c), (1, .agg (pcs q).toArray)] (by kernel_rfl) (fun X0 => ?_)
 refine wp_seq_k fun K1 hK1 => ?_
 refine plStart ?_
 refine plBox hm0 (cs := pcs q) (i := 0) rfl (wn rfl) rfl (litEv (by kernel_rfl)) ?_
 intro g2 w4 hm3
 clear hm0
 try simp only [List.cons_append, List.nil_append, List.set_cons_succ, List.set_cons_zero] at hm3
 refine qP rfl ?_
 refine lk (v := .int .i64 0) rfl rfl rfl ?_
 refine plD ?_
 refine then_normal (hK1 _ _ ?_)
 refine wp_seq_k fun K5 hK5 => ?_
 refine wp_seq_k fun K6 hK6 => ?_
 refine plStart ?_
 refine lk (v := .int .i64 0) rfl rfl rfl ?_
 refine plD ?_
 refine then_normal (hK6 _ _ ?_)
 refine wp_block ?_
 refine gwLoop (fun n_ a_ w_ => ∃ (j : Nat), n_ = l.length - j ∧ (j ≤ l.length) ∧ (findG q j (l.drop j) = findP l q) ∧ Fr a_ 22 [(0, .slice (some ⟨b, off, none⟩) l.length c), (3, .pointer (some ⟨g2, 0, none⟩)), (5, .int .i64 (j : Int))] ∧ Mem w w_ [.arr g2 23 (pcs q)]) (l.length - 0) ⟨0, rfl, (Nat.zero_le _), rfl, ⟨litSize, rfl, ⟨litGet (by kernel_rfl), ⟨litGet (by kernel_rfl), ⟨litGet (by kernel_rfl), trivial⟩⟩⟩⟩, (hm3.sub (.cons_cons _ .slnil))⟩ ?_
 clear hm3
 intro n_ a9 w7 hI_
 obtain ⟨j, rfl, hjl, hf, hF_, hm8⟩ := hI_
 obtain ⟨X10, rfl⟩ := frLit hF_
 clear hF_
 refine wp_seq_k fun K11 hK11 => ?_
 refine wp_seq_k fun K12 hK12 => ?_
 refine plStart ?_
 refine lk (v := .int .i64 (j : Int)) rfl rfl rfl ?_
 refine lk (v := .slice (some ⟨b, off, none⟩) l.length c) rfl rfl rfl ?_
 refine litVal (v := .int .i64 (l.length : Int)) rfl (wn rfl) (lenSlRun (A := some ⟨b, off, none⟩) (n := l.length) (c := c) (.tmp 8) Ty.und_L_api_Tile rfl (litEv (by kernel_rfl))) rfl (by decide) ?_
 by_cases h13 : (j : Int) < (l.length : Int)
 · obtain ⟨t, hkt⟩ : ∃ t, l[j]? = some t := ⟨_, List.getElem?_eq_getElem (by omega)⟩
   have htok : t.Ok := hall t (List.mem_of_getElem? hkt)
   refine litVal (v := .bool true) rfl (wn rfl) (boolTo (decide_eq_true h13) (lssRun (A := (j : Int)) (B := (l.length : Int)) (.tmp 7) (.tmp 9) rfl (litEv (by kernel_rfl)) (litEv (by kernel_rfl)))) rfl (by decide) ?_
   refine plD ?_
   refine then_normal (hK12 _ _ ?_)
   refine wp_cond_true (litEv (by kernel_rfl)) ?_
   refine wp_skip ?_
   refine then_normal (hK11 _ _ ?_)
   refine wp_seq_k fun K14 hK14 => ?_
   refine wp_block ?_
   refine wp_seq_k fun K15 hK15 => ?_
   refine mgStart hm8 (by kernel_rfl) ?_
   intro w17 hm16
   clear hm8
   refine mgTake (i := 0) (v := .agg (pcs q).toArray) rfl (by kernel_rfl) (wn rfl) (fun _ _ _ h => h) hm16 (fun w_ h_ => gLoadAg (vs := pcs q) (k := 0) 0 h_ rfl (by kernel_rfl) (by kernel_rfl) (.tmp 3) Ty.ag_voxel_api_Point rfl (litEv (by kernel_rfl))) ?_
   refine mP rfl ?_
   refine mk_ (i := 1) (v := .slice (some ⟨b, off, none⟩) l.length c) rfl rfl (fun _ _ _ h => h) hm16 rfl ?_
   refine mk_ (i := 2) (v := .int .i64 (j : Int)) rfl rfl (fun _ _ _ h => h) hm16 rfl ?_
   refine mgTake (i := 3) (v := .pointer (some ⟨b, off + j * 4, none⟩)) rfl (by kernel_rfl) (wn rfl) (fun _ _ _ h => h) hm16 (fun w_ h_ => gIaSl (b := b) (off := off) (n := l.length) (c := c) (kk := .i64) (K := (j : Int)) (.tmp 14) (.tmp 15) j Ty.sl_L_api_Tile rfl (litEv (by kernel_rfl)) (litEv (by kernel_rfl)) (rfl) (by omega)) ?_
   refine mP rfl ?_
   refine mgTake (i := 4) (v := .agg (tlc t).toArray) rfl (by kernel_rfl) (wn rfl) (fun _ _ _ h => h) hm16 (fun w_ h_ => gLoadAgRd (vs := tlc t) (m := j * 4) ((Rd.below hr h_.bel).more h_.bel.size) rfl (fun i_ u_ hu_ => tlsC_get hkt i_ u_ hu_) (by kernel_rfl) (by omega) (.tmp 16) Ty.ag_voxel_api_Tile rfl (litEv (by kernel_rfl))) ?_
   refine mP rfl ?_
   refine mgCall (i := 5) 37 [.agg (tlc t).toArray] [] [] (by kernel_rfl) rfl (by kernel_rfl) (wn rfl) rfl (litEv (by kernel_rfl)) (litArgs (by kernel_rfl)) (rbox_any t htok _) ?_
   rintro e w18 ⟨rfl, hbz⟩
   have hm19 := hm16.below hbz
   clear hbz hm16
   refine ⟨_, rfl, hm19, ?_⟩
   refine mP rfl ?_
   refine mgCall (i := 6) 26 [.agg (pcs q).toArray, .agg (bxs t.box).toArray] [] [] (by kernel_rfl) rfl (by kernel_rfl) (wn rfl) rfl (litEv (by kernel_rfl)) (litArgs (by kernel_rfl)) (rin_any q t.box _) ?_
   rintro e w20 ⟨rfl, hbz⟩
   have hm21 := hm19.below hbz
   clear hbz hm19
   refine ⟨_, rfl, hm21, ?_⟩
   refine mP rfl ?_
   rcases bool_or (decide (t.box.has q)) with h22 | h22
   · rw [h22]
     refine mk_ (i := 7) (v := .bool false) rfl rfl (fun _ _ _ h => h) hm21 rfl ?_
     refine mgDone (by kernel_rfl) ?_
     refine then_normal (hK15 _ _ ?_)
     refine wp_seq_k fun K23 hK23 => ?_
     refine plStart ?_
     refine lk (v := .bool false) rfl rfl rfl ?_
     refine plD ?_
     refine then_normal (hK23 _ _ ?_)
     refine wp_cond_false (litEv (by kernel_rfl)) ?_
     refine wp_skip ?_
     refine inBlock_normal ?_
     refine then_normal (hK14 _ _ ?_)
     refine plStart ?_
     refine lk (v := .int .i64 (j : Int)) rfl rfl rfl ?_
     refine litVal (v := .int .i64 ((j : Int) + 1)) rfl (wn rfl) (addRun (A := (j : Int)) (B := 1) (C := (j : Int) + 1) (.tmp 11) (.const (.int .i64 1)) rfl (litEv (by kernel_rfl)) (litEv (by kernel_rfl)) rfl (by omega)) rfl (by decide) ?_
     refine lk (v := .int .i64 ((j : Int) + 1)) rfl rfl rfl ?_
     refine plD ?_
     refine then_normal ?_
     exact ⟨_, by omega, (j + 1), rfl, (by omega), (find_no hkt hf (of_decide_eq_false h22)), ⟨litSize, rfl, ⟨litGet (by kernel_rfl), ⟨litGet (by kernel_rfl), ⟨litGet (by kernel_rfl), trivial⟩⟩⟩⟩, (hm21.sub (.cons_cons _ .slnil))⟩
   rw [h22]
   refine mk_ (i := 7) (v := .bool true) rfl rfl (fun _ _ _ h => h) hm21 rfl ?_
   refine mgDone (by kernel_rfl) ?_
   refine then_normal (hK15 _ _ ?_)
   refine wp_seq_k fun K24 hK24 => ?_
   refine plStart ?_
   refine lk (v := .bool true) rfl rfl rfl ?_
   refine plD ?_
   refine then_normal (hK24 _ _ ?_)
   refine wp_cond_true (litEv (by kernel_rfl)) ?_
   refine wp_seq_k fun K25 hK25 => ?_
   refine plStart ?_
   refine lk (v := .int .i64 (j : Int)) rfl rfl rfl ?_
   refine lk (v := .int .i64 (j : Int)) rfl rfl rfl ?_
   refine plD ?_
   refine then_normal (hK25 _ _ ?_)
   refine wp_ret ?_
   refine inBlock_ret ?_
   refine then_ret ?_
   refine then_ret ?_
   refine inBlock_ret ?_
   refine then_ret ?_
   refine bodyPost_ret (v := .int .i64 (j : Int)) (gRes1 rfl (gResTmp (t := 4) (v := .int .i64 (j : Int)) (litGet (by kernel_rfl)))) rfl ?_
   exact ⟨congrArg (fun n_ => Ending.returned (.int .i64 n_)) (find_yes hkt hf (of_decide_eq_true h22)), hm21.bel⟩
 refine litVal (v := .bool false) rfl (wn rfl) (boolTo (decide_eq_false h13) (lssRun (A := (j : Int)) (B := (l.length : Int)) (.tmp 7) (.tmp 9) rfl (litEv (by kernel_rfl)) (litEv (by kernel_rfl)))) rfl (by decide) ?_
 refine plD ?_
 refine then_normal (hK12 _ _ ?_)
 refine wp_cond_false (litEv (by kernel_rfl)) ?_
 refine wp_exit ?_
 refine then_exit ?_
 refine then_exit ?_
 refine inBlock_exit ?_
 refine then_normal (hK5 _ _ ?_)
 refine wp_seq_k fun K26 hK26 => ?_
 refine plStart ?_
 refine lk (v := .int .i64 (-1)) rfl rfl rfl ?_
 refine plD ?_
 refine then_normal (hK26 _ _ ?_)
 refine wp_ret ?_
 refine bodyPost_ret (v := .int .i64 (-1)) (gRes1 rfl (gResTmp (t := 4) (v := .int .i64 (-1)) (litGet (by kernel_rfl)))) rfl ?_
 rw [List.drop_of_length_le (by omega)] at hf
 exact ⟨congrArg (fun n_ => Ending.returned (.int .i64 n_)) hf, hm8.bel⟩
theorem side_8 {t : Tl} (h : t.Ok) : 8 * 2 ^ t.lv.toNat = sideL (t.lv + 1) := by
  have hl := h.lv
  unfold sideL
  rw [show (t.lv + 1).toNat = t.lv.toNat + 1 by omega, Int.pow_succ]
  omega
set_option maxRecDepth 100000 in
set_option maxHeartbeats 4000000 in
theorem parent_any (t : Tl) (h : t.Ok) (h1 : t.lv + 1 ≤ 12) (w : World) : Calls Try.prog 24 #[.agg (tlc t).toArray] w (RetV w (.agg (tlc (tileAt (t.lv + 1) t.p)).toArray)) := by
 have hl_ := h.lv
 have hk12 : 0 ≤ t.lv + 1 ∧ t.lv + 1 ≤ 12 := by omega
 have hS_ := side_bd hk12
 have hin_ : (0 ≤ t.p.x ∧ t.p.x < 16384) ∧ (0 ≤ t.p.y ∧ t.p.y < 16384) ∧ (0 ≤ t.p.z ∧ t.p.z < 16384) := h.inP
 have hax_ := al1 hS_.1 (side_dvd hk12) hin_.1
 have hay_ := al1 hS_.1 (side_dvd hk12) hin_.2.1
 have haz_ := al1 hS_.1 (side_dvd hk12) hin_.2.2
 have hm0 := Mem.nil w
 go_enter Try.func24, Try.ntmps24
 refine litStart 33 [(0, .agg (tlc t).toArray)] (by kernel_rfl) (fun X0 => ?_)
 refine wp_seq_k fun K1 hK1 => ?_
 refine plStart ?_
 refine plBox hm0 (cs := tlc t) (i := 0) rfl (wn rfl) rfl (litEv (by kernel_rfl)) ?_
 intro g2 w4 hm3
 clear hm0
 try simp only [List.cons_append, List.nil_append, List.set_cons_succ, List.set_cons_zero] at hm3
 refine qP rfl ?_
 refine plAlloc (z := [.int .i64 0, .int .i64 0, .int .i64 0, .int .i64 0]) Ty.ag_voxel_api_Tile hm3 (i := 1) rfl (wn rfl) rfl ?_
 intro g5 w7 hm6
 clear hm3
 try simp only [List.cons_append, List.nil_append, List.set_cons_succ, List.set_cons_zero] at hm6
 refine qP rfl ?_
 refine plD ?_
 refine then_normal (hK1 _ _ ?_)
 refine wp_seq_k fun K8 hK8 => ?_
 refine plStart ?_
 refine lk (v := .pointer (some ⟨g2, 0, none⟩)) rfl rfl rfl ?_
 refine litVal (v := .int .i64 t.lv) rfl (wn rfl) (gLoad (v := .int .i64 t.lv) (k := 0) 0 hm6 rfl (by kernel_rfl) (.tmp 4) (by kernel_rfl) rfl (litEv (by kernel_rfl))) rfl (by decide) ?_
 refine litVal (v := .int .i64 (sideL (t.lv + 1))) rfl (wn rfl) (gShl (A := 8) (N := t.lv) (C := sideL (t.lv + 1)) (.const (.int .i64 8)) (.tmp 5) rfl (litEv (by kernel_rfl)) (litEv (by kernel_rfl)) (side_8 h) (by omega) (by omega) (by omega)) rfl (by decide) ?_
 refine lk (v := .int .i64 (sideL (t.lv + 1))) rfl rfl rfl ?_
 refine plD ?_
 refine then_normal (hK8 _ _ ?_)
 refine wp_seq_k fun K9 hK9 => ?_
 refine aoStart (aoV [fun _ => .pointer (some ⟨g2, 0, none⟩), fun _ => .int .i64 t.lv, fun _ => .int .i64 (t.lv + 1), fun _ => .pointer (some ⟨g2, 1, none⟩), fun _ => .pointer (some ⟨g2, 1, none⟩), fun _ => .int .i64 t.p.x, fun _ => .int .i64 (sideL (t.lv + 1)), fun _ => .int .i64 (t.p.x / (sideL (t.lv + 1))), fun _ => .int .i64 (sideL (t.lv + 1)), fun _ => .int .i64 ((t.p.x / (sideL (t.lv + 1))) * (sideL (t.lv + 1))), fun _ => .pointer (some ⟨g2, 1, none⟩), fun _ => .pointer (some ⟨g2, 2, none⟩), fun _ => .int .i64 t.p.y, fun _ => .int .i64 (sideL (t.lv + 1)), fun _ => .int .i64 (t.p.y / (sideL (t.lv + 1))), fun _ => .int .i64 (sideL (t.lv + 1)), fun _ => .int .i64 ((t.p.y / (sideL (t.lv + 1))) * (sideL (t.lv + 1))), fun _ => .pointer (some ⟨g2, 1, none⟩), fun _ => .pointer (some ⟨g2, 3, none⟩), fun _ => .int .i64 t.p.z, fun _ => .int .i64 (sideL (t.lv + 1)), fun _ => .int .i64 (t.p.z / (sideL (t.lv + 1))), fun _ => .int .i64 (sideL (t.lv + 1)), fun _ => .int .i64 ((t.p.z / (sideL (t.lv + 1))) * (sideL (t.lv + 1))), fun _ => .agg (pcs ⟨(t.p.x / (sideL (t.lv + 1))) * (sideL (t.lv + 1)), (t.p.y / (sideL (t.lv + 1))) * (sideL (t.lv + 1)), (t.p.z / (sideL (t.lv + 1))) * (sideL (t.lv + 1))⟩).toArray, fun _ => .agg (tlc ⟨t.lv + 1, ⟨(t.p.x / (sideL (t.lv + 1))) * (sideL (t.lv + 1)), (t.p.y / (sideL (t.lv + 1))) * (sideL (t.lv + 1)), (t.p.z / (sideL (t.lv + 1))) * (sideL (t.lv + 1))⟩⟩).toArray, fun _ => undef]) (aoA [0, 1, 2, 3, 4, 5, 6, 7, 8, 9, 10, 11, 12, 13, 14, 15, 16, 17, 18, 19, 20, 21, 22, 23, 24, 25, 26]) (fun b_ g_ => ((.arr g2 38 (tlc t)) :: (.arr g5 38 (bsel (b_ 26) [.int .i64 (t.lv + 1), .int .i64 ((t.p.x / (sideL (t.lv + 1))) * (sideL (t.lv + 1))), .int .i64 ((t.p.y / (sideL (t.lv + 1))) * (sideL (t.lv + 1))), .int .i64 ((t.p.z / (sideL (t.lv + 1))) * (sideL (t.lv + 1)))] [.int .i64 0, .int .i64 0, .int .i64 0, .int .i64 0])) :: [])) hm6 (by kernel_rfl) (by kernel_rfl) (fun w_ h_ => h_) (fun b_ g_ h_ => by show (fun (x26_ : Bool) => (((.arr g2 38 (tlc t)) :: (.arr g5 38 (bsel x26_ [.int .i64 (t.lv + 1), .int .i64 ((t.p.x / (sideL (t.lv + 1))) * (sideL (t.lv + 1))), .int .i64 ((t.p.y / (sideL (t.lv + 1))) * (sideL (t.lv + 1))), .int .i64 ((t.p.z / (sideL (t.lv + 1))) * (sideL (t.lv + 1)))] [.int .i64 0, .int .i64 0, .int .i64 0, .int .i64 0])) :: []) : List Res)) (b_ 26) = _; rw [h_ 26 (by decide)]) ?_ ?_
 · refine aoNext rfl (aoVal (fun g_ => [(1, .pointer (some ⟨g2, 0, none⟩))]) (fun g_ a_ h_k => ⟨(h_k.out 1 (by kernel_rfl)).trans (litGet (by kernel_rfl)), trivial⟩) (fun g_ X_ => (wn rfl)) (fun b_ g_ => by kernel_rfl) (fun b_ g_ X_ w_ h_b h_ => valTo (b := .pointer (some ⟨g2, 0, none⟩)) (by kernel_rfl) (litRun (by kernel_rfl)))) ?_
   refine aoNext rfl (aoVal (fun g_ => [(7, .pointer (some ⟨g2, 0, none⟩))]) (fun g_ a_ h_k => ⟨(h_k.inn 0 _ _ (by kernel_rfl) rfl rfl).trans (by kernel_rfl), trivial⟩) (fun g_ X_ => (wn rfl)) (fun b_ g_ => by kernel_rfl) (fun b_ g_ X_ w_ h_b h_ => valTo (b := .int .i64 t.lv) (by kernel_rfl) ((fun (h_ : Mem _ w_ ((.arr g2 38 (tlc t)) :: (.arr g5 38 ([.int .i64 0, .int .i64 0, .int .i64 0, .int .i64 0])) :: [])) => gLoad (v := .int .i64 t.lv) (k := 0) 0 h_ rfl (by kernel_rfl) (.tmp 7) (by kernel_rfl) rfl (litEv (by kernel_rfl))) (by have h2_ : Mem w w_ ((.arr g2 38 (tlc t)) :: (.arr g5 38 (bsel (b_ 26) [.int .i64 (t.lv + 1), .int .i64 ((t.p.x / (sideL (t.lv + 1))) * (sideL (t.lv + 1))), .int .i64 ((t.p.y / (sideL (t.lv + 1))) * (sideL (t.lv + 1))), .int .i64 ((t.p.z / (sideL (t.lv + 1))) * (sideL (t.lv + 1)))] [.int .i64 0, .int .i64 0, .int .i64 0, .int .i64 0])) :: []) := h_; rw [bselF (h_b.post 26 (by kernel_rfl))] at h2_; exact h2_)))) ?_
   refine aoNext rfl (aoVal (fun g_ => [(8, .int .i64 t.lv)]) (fun g_ a_ h_k => ⟨(h_k.inn 1 _ _ (by kernel_rfl) rfl rfl).trans (by kernel_rfl), trivial⟩) (fun g_ X_ => (wn rfl)) (fun b_ g_ => by kernel_rfl) (fun b_ g_ X_ w_ h_b h_ => valTo (b := .int .i64 (t.lv + 1)) (by kernel_rfl) (addRun (A := t.lv) (B := 1) (C := t.lv + 1) (.tmp 8) (.const (.int .i64 1)) rfl (litEv (by kernel_rfl)) (litEv (by kernel_rfl)) rfl (by omega)))) ?_
   refine aoNext rfl (aoVal (fun g_ => [(1, .pointer (some ⟨g2, 0, none⟩))]) (fun g_ a_ h_k => ⟨(h_k.out 1 (by kernel_rfl)).trans (litGet (by kernel_rfl)), trivial⟩) (fun g_ X_ => (wn rfl)) (fun b_ g_ => by kernel_rfl) (fun b_ g_ X_ w_ h_b h_ => valTo (b := .pointer (some ⟨g2, 1, none⟩)) (by kernel_rfl) (litRun (by kernel_rfl)))) ?_
   refine aoNext rfl (aoVal (fun g_ => [(10, .pointer (some ⟨g2, 1, none⟩))]) (fun g_ a_ h_k => ⟨(h_k.inn 3 _ _ (by kernel_rfl) rfl rfl).trans (by kernel_rfl), trivial⟩) (fun g_ X_ => (wn rfl)) (fun b_ g_ => by kernel_rfl) (fun b_ g_ X_ w_ h_b h_ => valTo (b := .pointer (some ⟨g2, 1, none⟩)) (by kernel_rfl) (litRun (by kernel_rfl)))) ?_
   refine aoNext rfl (aoVal (fun g_ => [(11, .pointer (some ⟨g2, 1, none⟩))]) (fun g_ a_ h_k => ⟨(h_k.inn 4 _ _ (by kernel_rfl) rfl rfl).trans (by kernel_rfl), trivial⟩) (fun g_ X_ => (wn rfl)) (fun b_ g_ => by kernel_rfl) (fun b_ g_ X_ w_ h_b h_ => valTo (b := .int .i64 t.p.x) (by kernel_rfl) ((fun (h_ : Mem _ w_ ((.arr g2 38 (tlc t)) :: (.arr g5 38 ([.int .i64 0, .int .i64 0, .int .i64 0, .int .i64 0])) :: [])) => gLoad (v := .int .i64 t.p.x) (k := 1) 0 h_ rfl (by kernel_rfl) (.tmp 11) (by kernel_rfl) rfl (litEv (by kernel_rfl))) (by have h2_ : Mem w w_ ((.arr g2 38 (tlc t)) :: (.arr g5 38 (bsel (b_ 26) [.int .i64 (t.lv + 1), .int .i64 ((t.p.x / (sideL (t.lv + 1))) * (sideL (t.lv + 1))), .int .i64 ((t.p.y / (sideL (t.lv + 1))) * (sideL (t.lv + 1))), .int .i64 ((t.p.z / (sideL (t.lv + 1))) * (sideL (t.lv + 1)))] [.int .i64 0, .int .i64 0, .int .i64 0, .int .i64 0])) :: []) := h_; rw [bselF (h_b.post 26 (by kernel_rfl))] at h2_; exact h2_)))) ?_
   refine aoNext rfl (aoVal (fun g_ => [(3, .int .i64 (sideL (t.lv + 1)))]) (fun g_ a_ h_k => ⟨(h_k.out 3 (by kernel_rfl)).trans (litGet (by kernel_rfl)), trivial⟩) (fun g_ X_ => (wn rfl)) (fun b_ g_ => by kernel_rfl) (fun b_ g_ X_ w_ h_b h_ => valTo (b := .int .i64 (sideL (t.lv + 1))) (by kernel_rfl) (litRun (by kernel_rfl)))) ?_
   refine aoNext rfl (aoVal (fun g_ => [(12, .int .i64 t.p.x), (13, .int .i64 (sideL (t.lv + 1)))]) (fun g_ a_ h_k => ⟨(h_k.inn 5 _ _ (by kernel_rfl) rfl rfl).trans (by kernel_rfl), (h_k.inn 6 _ _ (by kernel_rfl) rfl rfl).trans (by kernel_rfl), trivial⟩) (fun g_ X_ => (wn rfl)) (fun b_ g_ => by kernel_rfl) (fun b_ g_ X_ w_ h_b h_ => valTo (b := .int .i64 (t.p.x / (sideL (t.lv + 1)))) (by kernel_rfl) (gQuo (A := t.p.x) (B := (sideL (t.lv + 1))) (C := t.p.x / (sideL (t.lv + 1))) (.tmp 12) (.tmp 13) rfl (litEv (by kernel_rfl)) (litEv (by kernel_rfl)) rfl (by omega) (by omega)))) ?_
   refine aoNext rfl (aoVal (fun g_ => [(3, .int .i64 (sideL (t.lv + 1)))]) (fun g_ a_ h_k => ⟨(h_k.out 3 (by kernel_rfl)).trans (litGet (by kernel_rfl)), trivial⟩) (fun g_ X_ => (wn rfl)) (fun b_ g_ => by kernel_rfl) (fun b_ g_ X_ w_ h_b h_ => valTo (b := .int .i64 (sideL (t.lv + 1))) (by kernel_rfl) (litRun (by kernel_rfl)))) ?_
   refine aoNext rfl (aoVal (fun g_ => [(14, .int .i64 (t.p.x / (sideL (t.lv + 1)))), (15, .int .i64 (sideL (t.lv + 1)))]) (fun g_ a_ h_k => ⟨(h_k.inn 7 _ _ (by kernel_rfl) rfl rfl).trans (by kernel_rfl), (h_k.inn 8 _ _ (by kernel_rfl) rfl rfl).trans (by kernel_rfl), trivial⟩) (fun g_ X_ => (wn rfl)) (fun b_ g_ => by kernel_rfl) (fun b_ g_ X_ w_ h_b h_ => valTo (b := .int .i64 ((t.p.x / (sideL (t.lv + 1))) * (sideL (t.lv + 1)))) (by kernel_rfl) (mulRun' (A := (t.p.x / (sideL (t.lv + 1)))) (B := (sideL (t.lv + 1))) (C := (t.p.x / (sideL (t.lv + 1))) * (sideL (t.lv + 1))) (.tmp 14) (.tmp 15) rfl (litEv (by kernel_rfl)) (litEv (by kernel_rfl)) rfl (by omega)))) ?_
   refine aoNext rfl (aoVal (fun g_ => [(1, .pointer (some ⟨g2, 0, none⟩))]) (fun g_ a_ h_k => ⟨(h_k.out 1 (by kernel_rfl)).trans (litGet (by kernel_rfl)), trivial⟩) (fun g_ X_ => (wn rfl)) (fun b_ g_ => by kernel_rfl) (fun b_ g_ X_ w_ h_b h_ => valTo (b := .pointer (some ⟨g2, 1, none⟩)) (by kernel_rfl) (litRun (by kernel_rfl)))) ?_
   refine aoNext rfl (aoVal (fun g_ => [(17, .pointer (some ⟨g2, 1, none⟩))]) (fun g_ a_ h_k => ⟨(h_k.inn 10 _ _ (by kernel_rfl) rfl rfl).trans (by kernel_rfl), trivial⟩) (fun g_ X_ => (wn rfl)) (fun b_ g_ => by kernel_rfl) (fun b_ g_ X_ w_ h_b h_ => valTo (b := .pointer (some ⟨g2, 2, none⟩)) (by kernel_rfl) (litRun (by kernel_rfl)))) ?_
   refine aoNext rfl (aoVal (fun g_ => [(18, .pointer (some ⟨g2, 2, none⟩))]) (fun g_ a_ h_k => ⟨(h_k.inn 11 _ _ (by kernel_rfl) rfl rfl).trans (by kernel_rfl), trivial⟩) (fun g_ X_ => (wn rfl)) (fun b_ g_ => by kernel_rfl) (fun b_ g_ X_ w_ h_b h_ => valTo (b := .int .i64 t.p.y) (by kernel_rfl) ((fun (h_ : Mem _ w_ ((.arr g2 38 (tlc t)) :: (.arr g5 38 ([.int .i64 0, .int .i64 0, .int .i64 0, .int .i64 0])) :: [])) => gLoad (v := .int .i64 t.p.y) (k := 2) 0 h_ rfl (by kernel_rfl) (.tmp 18) (by kernel_rfl) rfl (litEv (by kernel_rfl))) (by have h2_ : Mem w w_ ((.arr g2 38 (tlc t)) :: (.arr g5 38 (bsel (b_ 26) [.int .i64 (t.lv + 1), .int .i64 ((t.p.x / (sideL (t.lv + 1))) * (sideL (t.lv + 1))), .int .i64 ((t.p.y / (sideL (t.lv + 1))) * (sideL (t.lv + 1))), .int .i64 ((t.p.z / (sideL (t.lv + 1))) * (sideL (t.lv + 1)))] [.int .i64 0, .int .i64 0, .int .i64 0, .int .i64 0])) :: []) := h_; rw [bselF (h_b.post 26 (by kernel_rfl))] at h2_; exact h2_)))) ?_
   refine aoNext rfl (aoVal (fun g_ => [(3, .int .i64 (sideL (t.lv + 1)))]) (fun g_ a_ h_k => ⟨(h_k.out 3 (by kernel_rfl)).trans (litGet (by kernel_rfl)), trivial⟩) (fun g_ X_ => (wn rfl)) (fun b_ g_ => by kernel_rfl) (fun b_ g_ X_ w_ h_b h_ => valTo (b := .int .i64 (sideL (t.lv + 1))) (by kernel_rfl) (litRun (by kernel_rfl)))) ?_
   refine aoNext rfl (aoVal (fun g_ => [(19, .int .i64 t.p.y), (20, .int .i64 (sideL (t.lv + 1)))]) (fun g_ a_ h_k => ⟨(h_k.inn 12 _ _ (by kernel_rfl) rfl rfl).trans (by kernel_rfl), (h_k.inn 13 _ _ (by kernel_rfl) rfl rfl).trans (by kernel_rfl), trivial⟩) (fun g_ X_ => (wn rfl)) (fun b_ g_ => by kernel_rfl) (fun b_ g_ X_ w_ h_b h_ => valTo (b := .int .i64 (t.p.y / (sideL (t.lv + 1)))) (by kernel_rfl) (gQuo (A := t.p.y) (B := (sideL (t.lv + 1))) (C := t.p.y / (sideL (t.lv + 1))) (.tmp 19) (.tmp 20) rfl (litEv (by kernel_rfl)) (litEv (by kernel_rfl)) rfl (by omega) (by omega)))) ?_
   refine aoNext rfl (aoVal (fun g_ => [(3, .int .i64 (sideL (t.lv + 1)))]) (fun g_ a_ h_k => ⟨(h_k.out 3 (by kernel_rfl)).trans (litGet (by kernel_rfl)), trivial⟩) (fun g_ X_ => (wn rfl)) (fun b_ g_ => by kernel_rfl) (fun b_ g_ X_ w_ h_b h_ => valTo (b := .int .i64 (sideL (t.lv + 1))) (by kernel_rfl) (litRun (by kernel_rfl)))) ?_
   refine aoNext rfl (aoVal (fun g_ => [(21, .int .i64 (t.p.y / (sideL (t.lv + 1)))), (22, .int .i64 (sideL (t.lv + 1)))]) (fun g_ a_ h_k => ⟨(h_k.inn 14 _ _ (by kernel_rfl) rfl rfl).trans (by kernel_rfl), (h_k.inn 15 _ _ (by kernel_rfl) rfl rfl).trans (by kernel_rfl), trivial⟩) (fun g_ X_ => (wn rfl)) (fun b_ g_ => by kernel_rfl) (fun b_ g_ X_ w_ h_b h_ => valTo (b := .int .i64 ((t.p.y / (sideL (t.lv + 1))) * (sideL (t.lv + 1)))) (by kernel_rfl) (mulRun' (A := (t.p.y / (sideL (t.lv + 1)))) (B := (sideL (t.lv + 1))) (C := (t.p.y / (sideL (t.lv + 1))) * (sideL (t.lv + 1))) (.tmp 21) (.tmp 22) rfl (litEv (by kernel_rfl)) (litEv (by kernel_rfl)) rfl (by omega)))) ?_
   refine aoNext rfl (aoVal (fun g_ => [(1, .pointer (some ⟨g2, 0, none⟩))]) (fun g_ a_ h_k => ⟨(h_k.out 1 (by kernel_rfl)).trans (litGet (by kernel_rfl)), trivial⟩) (fun g_ X_ => (wn rfl)) (fun b_ g_ => by kernel_rfl) (fun b_ g_ X_ w_ h_b h_ => valTo (b := .pointer (some ⟨g2, 1, none⟩)) (by kernel_rfl) (litRun (by kernel_rfl)))) ?_
   refine aoNext rfl (aoVal (fun g_ => [(24, .pointer (some ⟨g2, 1, none⟩))]) (fun g_ a_ h_k => ⟨(h_k.inn 17 _ _ (by kernel_rfl) rfl rfl).trans (by kernel_rfl), trivial⟩) (fun g_ X_ => (wn rfl)) (fun b_ g_ => by kernel_rfl) (fun b_ g_ X_ w_ h_b h_ => valTo (b := .pointer (some ⟨g2, 3, none⟩)) (by kernel_rfl) (litRun (by kernel_rfl)))) ?_
   refine aoNext rfl (aoVal (fun g_ => [(25, .pointer (some ⟨g2, 3, none⟩))]) (fun g_ a_ h_k => ⟨(h_k.inn 18 _ _ (by kernel_rfl) rfl rfl).trans (by kernel_rfl), trivial⟩) (fun g_ X_ => (wn rfl)) (fun b_ g_ => by kernel_rfl) (fun b_ g_ X_ w_ h_b h_ => valTo (b := .int .i64 t.p.z) (by kernel_rfl) ((fun (h_ : Mem _ w_ ((.arr g2 38 (tlc t)) :: (.arr g5 38 ([.int .i64 0, .int .i64 0, .int .i64 0, .int .i64 0])) :: [])) => gLoad (v := .int .i64 t.p.z) (k := 3) 0 h_ rfl (by kernel_rfl) (.tmp 25) (by kernel_rfl) rfl (litEv (by kernel_rfl))) (by have h2_ : Mem w w_ ((.arr g2 38 (tlc t)) :: (.arr g5 38 (bsel (b_ 26) [.int .i64 (t.lv + 1), .int .i64 ((t.p.x / (sideL (t.lv + 1))) * (sideL (t.lv + 1))), .int .i64 ((t.p.y / (sideL (t.lv + 1))) * (sideL (t.lv + 1))), .int .i64 ((t.p.z / (sideL (t.lv + 1))) * (sideL (t.lv + 1)))] [.int .i64 0, .int .i64 0, .int .i64 0, .int .i64 0])) :: []) := h_; rw [bselF (h_b.post 26 (by kernel_rfl))] at h2_; exact h2_)))) ?_
   refine aoNext rfl (aoVal (fun g_ => [(3, .int .i64 (sideL (t.lv + 1)))]) (fun g_ a_ h_k => ⟨(h_k.out 3 (by kernel_rfl)).trans (litGet (by kernel_rfl)), trivial⟩) (fun g_ X_ => (wn rfl)) (fun b_ g_ => by kernel_rfl) (fun b_ g_ X_ w_ h_b h_ => valTo (b := .int .i64 (sideL (t.lv + 1))) (by kernel_rfl) (litRun (by kernel_rfl)))) ?_
   refine aoNext rfl (aoVal (fun g_ => [(26, .int .i64 t.p.z), (27, .int .i64 (sideL (t.lv + 1)))]) (fun g_ a_ h_k => ⟨(h_k.inn 19 _ _ (by kernel_rfl) rfl rfl).trans (by kernel_rfl), (h_k.inn 20 _ _ (by kernel_rfl) rfl rfl).trans (by kernel_rfl), trivial⟩) (fun g_ X_ => (wn rfl)) (fun b_ g_ => by kernel_rfl) (fun b_ g_ X_ w_ h_b h_ => valTo (b := .int .i64 (t.p.z / (sideL (t.lv + 1)))) (by kernel_rfl) (gQuo (A := t.p.z) (B := (sideL (t.lv + 1))) (C := t.p.z / (sideL (t.lv + 1))) (.tmp 26) (.tmp 27) rfl (litEv (by kernel_rfl)) (litEv (by kernel_rfl)) rfl (by omega) (by omega)))) ?_
   refine aoNext rfl (aoVal (fun g_ => [(3, .int .i64 (sideL (t.lv + 1)))]) (fun g_ a_ h_k => ⟨(h_k.out 3 (by kernel_rfl)).trans (litGet (by kernel_rfl)), trivial⟩) (fun g_ X_ => (wn rfl)) (fun b_ g_ => by kernel_rfl) (fun b_ g_ X_ w_ h_b h_ => valTo (b := .int .i64 (sideL (t.lv + 1))) (by kernel_rfl) (litRun (by kernel_rfl)))) ?_
   refine aoNext rfl (aoVal (fun g_ => [(28, .int .i64 (t.p.z / (sideL (t.lv + 1)))), (29, .int .i64 (sideL (t.lv + 1)))]) (fun g_ a_ h_k => ⟨(h_k.inn 21 _ _ (by kernel_rfl) rfl rfl).trans (by kernel_rfl), (h_k.inn 22 _ _ (by kernel_rfl) rfl rfl).trans (by kernel_rfl), trivial⟩) (fun g_ X_ => (wn rfl)) (fun b_ g_ => by kernel_rfl) (fun b_ g_ X_ w_ h_b h_ => valTo (b := .int .i64 ((t.p.z / (sideL (t.lv + 1))) * (sideL (t.lv + 1)))) (by kernel_rfl) (mulRun' (A := (t.p.z / (sideL (t.lv + 1)))) (B := (sideL (t.lv + 1))) (C := (t.p.z / (sideL (t.lv + 1))) * (sideL (t.lv + 1))) (.tmp 28) (.tmp 29) rfl (litEv (by kernel_rfl)) (litEv (by kernel_rfl)) rfl (by omega)))) ?_
   refine aoNext rfl (aoVal (fun g_ => [(16, .int .i64 ((t.p.x / (sideL (t.lv + 1))) * (sideL (t.lv + 1)))), (23, .int .i64 ((t.p.y / (sideL (t.lv + 1))) * (sideL (t.lv + 1)))), (30, .int .i64 ((t.p.z / (sideL (t.lv + 1))) * (sideL (t.lv + 1))))]) (fun g_ a_ h_k => ⟨(h_k.inn 9 _ _ (by kernel_rfl) rfl rfl).trans (by kernel_rfl), (h_k.inn 16 _ _ (by kernel_rfl) rfl rfl).trans (by kernel_rfl), (h_k.inn 23 _ _ (by kernel_rfl) rfl rfl).trans (by kernel_rfl), trivial⟩) (fun g_ X_ => (wn rfl)) (fun b_ g_ => by kernel_rfl) (fun b_ g_ X_ w_ h_b h_ => valTo (b := .agg (pcs ⟨(t.p.x / (sideL (t.lv + 1))) * (sideL (t.lv + 1)), (t.p.y / (sideL (t.lv + 1))) * (sideL (t.lv + 1)), (t.p.z / (sideL (t.lv + 1))) * (sideL (t.lv + 1))⟩).toArray) (by kernel_rfl) (litRun (by kernel_rfl)))) ?_
   refine aoNext rfl (aoVal (fun g_ => [(9, .int .i64 (t.lv + 1)), (31, .agg (pcs ⟨(t.p.x / (sideL (t.lv + 1))) * (sideL (t.lv + 1)), (t.p.y / (sideL (t.lv + 1))) * (sideL (t.lv + 1)), (t.p.z / (sideL (t.lv + 1))) * (sideL (t.lv + 1))⟩).toArray)]) (fun g_ a_ h_k => ⟨(h_k.inn 2 _ _ (by kernel_rfl) rfl rfl).trans (by kernel_rfl), (h_k.inn 24 _ _ (by kernel_rfl) rfl rfl).trans (by kernel_rfl), trivial⟩) (fun g_ X_ => (wn rfl)) (fun b_ g_ => by kernel_rfl) (fun b_ g_ X_ w_ h_b h_ => valTo (b := .agg (tlc ⟨t.lv + 1, ⟨(t.p.x / (sideL (t.lv + 1))) * (sideL (t.lv + 1)), (t.p.y / (sideL (t.lv + 1))) * (sideL (t.lv + 1)), (t.p.z / (sideL (t.lv + 1))) * (sideL (t.lv + 1))⟩⟩).toArray) (by kernel_rfl) (litRun (by kernel_rfl)))) ?_
   refine aoNext rfl (aoStore (gb := fun g_ => g5) (k := 0) (cur := fun g_ => [.int .i64 0, .int .i64 0, .int .i64 0, .int .i64 0]) (vs := fun g_ => tlc ⟨t.lv + 1, ⟨(t.p.x / (sideL (t.lv + 1))) * (sideL (t.lv + 1)), (t.p.y / (sideL (t.lv + 1))) * (sideL (t.lv + 1)), (t.p.z / (sideL (t.lv + 1))) * (sideL (t.lv + 1))⟩⟩) 1 (fun g_ => [(2, .pointer (some ⟨g5, 0, none⟩)), (32, .agg (tlc ⟨t.lv + 1, ⟨(t.p.x / (sideL (t.lv + 1))) * (sideL (t.lv + 1)), (t.p.y / (sideL (t.lv + 1))) * (sideL (t.lv + 1)), (t.p.z / (sideL (t.lv + 1))) * (sideL (t.lv + 1))⟩⟩).toArray)]) (fun g_ a_ h_k => ⟨(h_k.out 2 (by kernel_rfl)).trans (litGet (by kernel_rfl)), (h_k.inn 25 _ _ (by kernel_rfl) rfl rfl).trans (by kernel_rfl), trivial⟩) Ty.ag_voxel_api_Tile (fun b_ g_ h_b => by show some (Res.arr g5 38 (bsel (b_ 26) [.int .i64 (t.lv + 1), .int .i64 ((t.p.x / (sideL (t.lv + 1))) * (sideL (t.lv + 1))), .int .i64 ((t.p.y / (sideL (t.lv + 1))) * (sideL (t.lv + 1))), .int .i64 ((t.p.z / (sideL (t.lv + 1))) * (sideL (t.lv + 1)))] [.int .i64 0, .int .i64 0, .int .i64 0, .int .i64 0])) = some (Res.arr g5 38 ([.int .i64 0, .int .i64 0, .int .i64 0, .int .i64 0])); rw [bselF h_b.no]) (fun g_ X_ => (wn rfl)) rfl (fun g_ X_ => litEv (by kernel_rfl)) (fun g_ X_ => litEv (by kernel_rfl)) (fun _ => by kernel_rfl) (fun _ => by kernel_rfl) (fun _ => by kernel_rfl) (fun b_ g_ h_b => by kernel_rfl) rfl) ?_
   exact aoDone (by decide)
 intro g_ a_ w11 hF_ hm10
 obtain ⟨X12, rfl⟩ := frLit (⟨hF_.size, hF_.defers, ⟨(hF_.out 2 (by kernel_rfl)).trans (litGet (by kernel_rfl)), (hF_.inn 0 _ _ rfl rfl).trans (by kernel_rfl), (hF_.inn 1 _ _ rfl rfl).trans (by kernel_rfl), (hF_.inn 2 _ _ rfl rfl).trans (by kernel_rfl), (hF_.inn 3 _ _ rfl rfl).trans (by kernel_rfl), (hF_.inn 4 _ _ rfl rfl).trans (by kernel_rfl), (hF_.inn 5 _ _ rfl rfl).trans (by kernel_rfl), (hF_.inn 6 _ _ rfl rfl).trans (by kernel_rfl), (hF_.inn 7 _ _ rfl rfl).trans (by kernel_rfl), (hF_.inn 8 _ _ rfl rfl).trans (by kernel_rfl), (hF_.inn 9 _ _ rfl rfl).trans (by kernel_rfl), (hF_.inn 10 _ _ rfl rfl).trans (by kernel_rfl), (hF_.inn 11 _ _ rfl rfl).trans (by kernel_rfl), (hF_.inn 12 _ _ rfl rfl).trans (by kernel_rfl), (hF_.inn 13 _ _ rfl rfl).trans (by kernel_rfl), (hF_.inn 14 _ _ rfl rfl).trans (by kernel_rfl), (hF_.inn 15 _ _ rfl rfl).trans (by kernel_rfl), (hF_.inn 16 _ _ rfl rfl).trans (by kernel_rfl), (hF_.inn 17 _ _ rfl rfl).trans (by kernel_rfl), (hF_.inn 18 _ _ rfl rfl).trans (by kernel_rfl), (hF_.inn 19 _ _ rfl rfl).trans (by kernel_rfl), (hF_.inn 20 _ _ rfl rfl).trans (by kernel_rfl), (hF_.inn 21 _ _ rfl rfl).trans (by kernel_rfl), (hF_.inn 22 _ _ rfl rfl).trans (by kernel_rfl), (hF_.inn 23 _ _ rfl rfl).trans (by kernel_rfl), (hF_.inn 24 _ _ rfl rfl).trans (by kernel_rfl), (hF_.inn 25 _ _ rfl rfl).trans (by kernel_rfl), trivial⟩⟩ : Fr _ 33 [(2, .pointer (some ⟨g5, 0, none⟩)), (7, .pointer (some ⟨g2, 0, none⟩)), (8, .int .i64 t.lv), (9, .int .i64 (t.lv + 1)), (10, .pointer (some ⟨g2, 1, none⟩)), (11, .pointer (some ⟨g2, 1, none⟩)), (12, .int .i64 t.p.x), (13, .int .i64 (sideL (t.lv + 1))), (14, .int .i64 (t.p.x / (sideL (t.lv + 1)))), (15, .int .i64 (sideL (t.lv + 1))), (16, .int .i64 ((t.p.x / (sideL (t.lv + 1))) * (sideL (t.lv + 1)))), (17, .pointer (some ⟨g2, 1, none⟩)), (18, .pointer (some ⟨g2, 2, none⟩)), (19, .int .i64 t.p.y), (20, .int .i64 (sideL (t.lv + 1))), (21, .int .i64 (t.p.y / (sideL (t.lv + 1)))), (22, .int .i64 (sideL (t.lv + 1))), (23, .int .i64 ((t.p.y / (sideL (t.lv + 1))) * (sideL (t.lv + 1)))), (24, .pointer (some ⟨g2, 1, none⟩)), (25, .pointer (some ⟨g2, 3, none⟩)), (26, .int .i64 t.p.z), (27, .int .i64 (sideL (t.lv + 1))), (28, .int .i64 (t.p.z / (sideL (t.lv + 1)))), (29, .int .i64 (sideL (t.lv + 1))), (30, .int .i64 ((t.p.z / (sideL (t.lv + 1))) * (sideL (t.lv + 1)))), (31, .agg (pcs ⟨(t.p.x / (sideL (t.lv + 1))) * (sideL (t.lv + 1)), (t.p.y / (sideL (t.lv + 1))) * (sideL (t.lv + 1)), (t.p.z / (sideL (t.lv + 1))) * (sideL (t.lv + 1))⟩).toArray), (32, .agg (tlc ⟨t.lv + 1, ⟨(t.p.x / (sideL (t.lv + 1))) * (sideL (t.lv + 1)), (t.p.y / (sideL (t.lv + 1))) * (sideL (t.lv + 1)), (t.p.z / (sideL (t.lv + 1))) * (sideL (t.lv + 1))⟩⟩).toArray)])
 clear hF_
 have hm13 : Mem w w11 [.arr g2 38 (tlc t), .arr g5 38 (tlc ⟨t.lv + 1, ⟨(t.p.x / (sideL (t.lv + 1))) * (sideL (t.lv + 1)), (t.p.y / (sideL (t.lv + 1))) * (sideL (t.lv + 1)), (t.p.z / (sideL (t.lv + 1))) * (sideL (t.lv + 1))⟩⟩)] := hm10
 clear hm10 hm6
 refine then_normal (hK9 _ _ ?_)
 refine wpPrune [(2, .pointer (some ⟨g5, 0, none⟩))] ⟨litGet (by kernel_rfl), trivial⟩ (fun X14 => ?_)
 refine wp_ret ?_
 refine bodyPost_ret (v := .agg (tlc ⟨t.lv + 1, ⟨(t.p.x / (sideL (t.lv + 1))) * (sideL (t.lv + 1)), (t.p.y / (sideL (t.lv + 1))) * (sideL (t.lv + 1)), (t.p.z / (sideL (t.lv + 1))) * (sideL (t.lv + 1))⟩⟩).toArray) (gRes1 rfl (gResAg (cs := tlc ⟨t.lv + 1, ⟨(t.p.x / (sideL (t.lv + 1))) * (sideL (t.lv + 1)), (t.p.y / (sideL (t.lv + 1))) * (sideL (t.lv + 1)), (t.p.z / (sideL (t.lv + 1))) * (sideL (t.lv + 1))⟩⟩) 1 hm13 rfl Ty.ag_voxel_api_Tile rfl (litGet (by kernel_rfl)))) rfl ?_
 exact ⟨by rfl, hm13.bel⟩
theorem find_any (l : List Tl) (q : Pt) (A : Option Addr) (c : Nat) (w : World) (hr : Rd w w.heap.size 4 A l.length c (tlsC l)) (hall : ∀ t ∈ l, t.Ok) (hne : 0 < l.length) (hl : l.length ≤ 4096) : Calls Try.prog 25 #[.slice A l.length c, .agg (pcs q).toArray] w (RetV w (.int .i64 (findP l q))) := by
  obtain ⟨b, off, rfl, _, _⟩ := hr.cells (by omega)
  exact find_blk l q b off c w hr hall hl
theorem price_free (w : World) : Price (fun _ => 0) 22 [] [] w := ⟨by kernel_rfl, fun t _ w _ => free_any t w, fun _ _ => by omega⟩
theorem planR_pos {f : Tl → Int} {v : Vw} {depth : Int} (hE : planE f depth v = 0) : 0 < (planR f depth v).tiles.length := by
  obtain ⟨_, h, _⟩ := planR_round hE (planE_dp hE).1
  have h1 := h.len
  have h2 := h.fuel
  omega
end Go.Proofs.Ytkmhjgdpkddbnaa
