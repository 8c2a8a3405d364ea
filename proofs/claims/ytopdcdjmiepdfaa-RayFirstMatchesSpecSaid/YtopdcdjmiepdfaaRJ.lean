/-
  RJ: several texts in one. No statement is proved here.
-/
import Derived.Test.YtopdcdjmiepdfaaRI
set_option linter.unusedVariables false
set_option linter.unusedSimpArgs false
namespace Go.Proofs.Ytopdcdjmiepdfaa
open Go.RowKit
set_option linter.unusedVariables false
set_option linter.unusedSimpArgs false
theorem befOf_eq {l : List Pt} {a p : Pt} {i : Nat} (h0 : l[0]? = some a) (hp : l[i - 1]? = some p) : befOf l a i = p := by
  unfold befOf
  by_cases h : i = 0
  · rw [if_pos h]
    subst h
    exact Option.some.inj (h0.symm.trans hp)
  · rw [if_neg h, List.getD_eq_getElem?_getD, hp]; rfl
theorem mid_succ {f : Pt → Bool} {l : List Pt} {i : Nat} {q : Pt} (hq : l[i]? = some q) (h : ∀ (j : Nat) (q : Pt), 1 ≤ j → j < i → l[j]? = some q → f q = false) (h1 : f q = false) : ∀ (j : Nat) (q : Pt), 1 ≤ j → j < i + 1 → l[j]? = some q → f q = false := by
  intro j r hj1 hj2 hr
  by_cases e : j = i
  · subst e
    rw [hq] at hr
    injection hr with hr
    rw [← hr]; exact h1
  · exact h j r hj1 (by omega) hr
theorem vis_mid {g : Gr} {T : List Mat} {a b : Pt} (h1 : ckE a b = 0) (h : ∀ (j : Nat) (q : Pt), 1 ≤ j → j + 1 < (walk a b).length → (walk a b)[j]? = some q → solidAt g T q = false) : visR g T a b = true := by
  unfold visR
  rw [if_pos h1, List.all_eq_true]
  intro q hq
  obtain ⟨j, hj⟩ := List.getElem?_of_mem hq
  have hjl := (List.getElem?_eq_some_iff.1 hj).1
  unfold visB
  by_cases h0 : j = 0
  · subst h0
    rw [walk_head] at hj
    injection hj with hj
    rw [hj]; simp
  · by_cases h2 : j = (walk a b).length - 1
    · subst h2
      rw [walk_last] at hj
      injection hj with hj
      rw [hj]; simp
    · rw [h j q (by omega) (by omega) hj]; simp
theorem vis_mid_no {g : Gr} {T : List Mat} {a b : Pt} (h1 : ckE a b = 0) {j : Nat} {q : Pt} (hj1 : 1 ≤ j) (hj2 : j + 1 < (walk a b).length) (hq : (walk a b)[j]? = some q) (hs : solidAt g T q = true) : visR g T a b = false := by
  have hnd := walk_nodup a b
  have key : ∀ (i : Nat) (r : Pt), (walk a b)[i]? = some r → i ≠ j → q ≠ r := by
    intro i r hi hne e
    subst e
    obtain ⟨hi1, hi2⟩ := List.getElem?_eq_some_iff.1 hi
    obtain ⟨hj3, hj4⟩ := List.getElem?_eq_some_iff.1 hq
    rcases Nat.lt_or_gt_of_ne hne with hlt | hlt
    · exact List.pairwise_iff_getElem.1 hnd i j hi1 hj3 hlt (hi2.trans hj4.symm)
    · exact List.pairwise_iff_getElem.1 hnd j i hj3 hi1 hlt (hj4.trans hi2.symm)
  unfold visR
  rw [if_pos h1, Bool.eq_false_iff]
  intro h2
  have := List.all_eq_true.1 h2 q (List.mem_of_getElem? hq)
  unfold visB at this
  rw [hs, decide_eq_false (key 0 a (walk_head a b) (by omega)), decide_eq_false (key _ b (walk_last a b) (by omega))] at this
  cases this
set_option maxRecDepth 100000 in
set_option maxHeartbeats 4000000 in
theorem refFirst_any (g : Gr) (hv : g.Valid) (T : List Mat) (A : Option Addr) (c : Nat) (A2 : Option Addr) (c2 : Nat) (a b : Pt) (hS : ckE a b = 0 → a.dist b ≤ 12) (w : World) (hrd : Rd w w.heap.size 1 A g.cells.length c (ics g.cells)) (htb : Rd w w.heap.size 8 A2 T.length c2 (mts T)) : Calls Try.prog 17 #[.agg (gcs g A c).toArray, .slice A2 T.length c2, .agg (pcs a).toArray, .agg (pcs b).toArray] w (RetV w (.tuple #[.agg (firstH g T a b).toArray, .int .i64 (firstE g T a b)])) := by
  obtain ⟨l, hl⟩ : ∃ l, walkR a b = l := ⟨_, rfl⟩
  have hm0 := Mem.nil w
  go_enter Try.func17, Try.ntmps17
  refine litStart 51 [(0, .agg (gcs g A c).toArray), (1, .slice A2 T.length c2), (2, .agg (pcs a).toArray), (3, .agg (pcs b).toArray)] (by kernel_rfl) (fun X0 => ?_)
  refine wp_seq_k fun K1 hK1 => ?_
  refine plStart ?_
  refine plBox hm0 (cs := gcs g A c) (i := 0) rfl (wn rfl) rfl (litEv (by kernel_rfl)) ?_
  intro g2 w4 hm3
  clear hm0
  try simp only [List.cons_append, List.nil_append, List.set_cons_succ, List.set_cons_zero] at hm3
  refine qP rfl ?_
  refine plBox hm3 (cs := pcs a) (i := 1) rfl (wn rfl) rfl (litEv (by kernel_rfl)) ?_
  intro g5 w7 hm6
  clear hm3
  try simp only [List.cons_append, List.nil_append, List.set_cons_succ, List.set_cons_zero] at hm6
  refine qP rfl ?_
  refine plBox hm6 (cs := pcs b) (i := 2) rfl (wn rfl) rfl (litEv (by kernel_rfl)) ?_
  intro g8 w10 hm9
  clear hm6
  try simp only [List.cons_append, List.nil_append, List.set_cons_succ, List.set_cons_zero] at hm9
  refine qP rfl ?_
  refine plAlloc (z := [.int .i64 0, .int .i64 0, .int .i64 0, .int .i64 0, .int .i64 0, .int .i64 0, .int .i64 0]) Ty.ag_voxel_voxelref42_Hit hm9 (i := 3) rfl (wn rfl) rfl ?_
  intro g11 w13 hm12
  clear hm9
  try simp only [List.cons_append, List.nil_append, List.set_cons_succ, List.set_cons_zero] at hm12
  refine qP rfl ?_
  refine lk (v := .int .i64 0) rfl rfl rfl ?_
  refine plD ?_
  refine then_normal (hK1 _ _ ?_)
  refine wp_seq_k fun K14 hK14 => ?_
  refine plStart ?_
  refine litVal (v := .agg (pcs a).toArray) rfl (wn rfl) (gLoadAg (vs := pcs a) (k := 0) 1 hm12 rfl (by kernel_rfl) (by kernel_rfl) (.tmp 6) Ty.ag_voxel_api_Point rfl (litEv (by kernel_rfl))) rfl (by decide) ?_
  refine litVal (v := .agg (pcs b).toArray) rfl (wn rfl) (gLoadAg (vs := pcs b) (k := 0) 2 hm12 rfl (by kernel_rfl) (by kernel_rfl) (.tmp 7) Ty.ag_voxel_api_Point rfl (litEv (by kernel_rfl))) rfl (by decide) ?_
  refine plCall (i := 2) 11 [.agg (pcs a).toArray, .agg (pcs b).toArray] [] [] rfl (by kernel_rfl) (wn rfl) rfl (litEv (by kernel_rfl)) (litArgs (by kernel_rfl)) (by have h := refWalk_any a b hS w13; rw [hl] at h; exact h) ?_
  rintro e w15 ⟨v17, rfl, hown_, hbz⟩
  obtain ⟨A18, c19, rfl, hrd_⟩ := Rd.of_own hown_
  clear hrd_
  have hm16 := hm12.newRow hbz hown_
  clear hown_ hbz hm12
  try simp only [List.cons_append, List.nil_append, List.set_cons_succ, List.set_cons_zero] at hm16
  refine ⟨_, rfl, ?_⟩
  refine qP rfl ?_
  refine lk (v := .tuple #[.slice A18 l.length c19, .int .i64 (ckE a b)]) rfl rfl rfl ?_
  refine lk (v := .slice A18 l.length c19) rfl rfl rfl ?_
  refine lk (v := .int .i64 (ckE a b)) rfl rfl rfl ?_
  refine lk (v := .slice A18 l.length c19) rfl rfl rfl ?_
  refine lk (v := .int .i64 (ckE a b)) rfl rfl rfl ?_
  refine plD ?_
  refine then_normal (hK14 _ _ ?_)
  refine wp_seq_k fun K20 hK20 => ?_
  refine wp_seq_k fun K21 hK21 => ?_
  refine plStart ?_
  refine lk (v := .int .i64 (ckE a b)) rfl rfl rfl ?_
  by_cases h22 : (ckE a b) = 0
  · have hW : walk a b = l := by rw [← hl]; unfold walkR; rw [if_pos h22]
    have h0 := walk_head a b
    have hpos : 0 < (walk a b).length := (List.getElem?_eq_some_iff.1 h0).1
    rw [hW] at h0 hpos
    have hlw : l.length ≤ 1000000 := by have h1_ := walk_len a b; have h2_ := (ckE_ok h22).2.2; rw [hW] at h1_; omega
    obtain ⟨b23, rfl⟩ := hm16.rowBlk (A := A18) (n := l.length) (c := c19) 4 rfl (hpos)
    refine litVal (v := .bool false) rfl (wn rfl) (boolTo (by rw [decide_eq_true h22]; rfl) (neqRun (A := (ckE a b)) (B := 0) (.tmp 20) (.const (.int .i64 0)) rfl (litEv (by kernel_rfl)) (litEv (by kernel_rfl)))) rfl (by decide) ?_
    refine plD ?_
    refine then_normal (hK21 _ _ ?_)
    refine wp_cond_false (litEv (by kernel_rfl)) ?_
    refine wp_skip ?_
    refine then_normal (hK20 _ _ ?_)
    refine wpPrune [(1, .slice A2 T.length c2), (4, .pointer (some ⟨g2, 0, none⟩)), (8, .pointer (some ⟨g11, 0, none⟩)), (9, .int .i64 0), (10, .slice (some ⟨b23, 0, none⟩) l.length c19)] ⟨litGet (by kernel_rfl), ⟨litGet (by kernel_rfl), ⟨litGet (by kernel_rfl), ⟨litGet (by kernel_rfl), ⟨litGet (by kernel_rfl), trivial⟩⟩⟩⟩⟩ (fun X24 => ?_)
    refine wp_seq_k fun K25 hK25 => ?_
    refine wp_seq_k fun K26 hK26 => ?_
    refine plStart ?_
    refine lk (v := .int .i64 0) rfl rfl rfl ?_
    refine plD ?_
    refine then_normal (hK26 _ _ ?_)
    refine wp_block ?_
    refine gwLoop (fun n_ a_ w_ => ∃ (i : Nat), n_ = l.length - i ∧ (i ≤ l.length) ∧ (∀ q ∈ l.take i, solidAt g T q = false) ∧ Fr a_ 51 [(1, .slice A2 T.length c2), (4, .pointer (some ⟨g2, 0, none⟩)), (8, .pointer (some ⟨g11, 0, none⟩)), (10, .slice (some ⟨b23, 0, none⟩) l.length c19), (12, .int .i64 (i : Int))] ∧ Mem w w_ [.arr g2 36 (gcs g A c), .arr g11 46 ([.int .i64 0, .int .i64 0, .int .i64 0, .int .i64 0, .int .i64 0, .int .i64 0, .int .i64 0]), .row (.slice (some ⟨b23, 0, none⟩) l.length c19) 23 3 l.length (ptsC l)]) (l.length - 0) ⟨0, rfl, (Nat.zero_le _), (by simp), ⟨litSize, rfl, ⟨litGet (by kernel_rfl), ⟨litGet (by kernel_rfl), ⟨litGet (by kernel_rfl), ⟨litGet (by kernel_rfl), ⟨litGet (by kernel_rfl), trivial⟩⟩⟩⟩⟩⟩, (hm16.sub (.cons_cons _ (.cons _ (.cons _ (.cons_cons _ (.cons_cons _ .slnil))))))⟩ ?_
    clear hm16
    intro n_ a29 w27 hI_
    obtain ⟨i, rfl, hi_, hno, hF_, hm28⟩ := hI_
    obtain ⟨X30, rfl⟩ := frLit hF_
    clear hF_
    refine wp_seq_k fun K31 hK31 => ?_
    refine wp_seq_k fun K32 hK32 => ?_
    refine plStart ?_
    refine lk (v := .int .i64 (i : Int)) rfl rfl rfl ?_
    refine lk (v := .slice (some ⟨b23, 0, none⟩) l.length c19) rfl rfl rfl ?_
    refine litVal (v := .int .i64 (l.length : Int)) rfl (wn rfl) (lenSlRun (A := some ⟨b23, 0, none⟩) (n := l.length) (c := c19) (.tmp 25) Ty.und_L_api_Point rfl (litEv (by kernel_rfl))) rfl (by decide) ?_
    by_cases h33 : (i : Int) < (l.length : Int)
    · have hil : i < l.length := by omega
      obtain ⟨q, hq⟩ : ∃ q, l[i]? = some q := ⟨_, List.getElem?_eq_getElem hil⟩
      obtain ⟨p, hp⟩ : ∃ p, l[i - 1]? = some p := ⟨_, List.getElem?_eq_getElem (by omega)⟩
      refine litVal (v := .bool true) rfl (wn rfl) (boolTo (decide_eq_true h33) (lssRun (A := (i : Int)) (B := (l.length : Int)) (.tmp 24) (.tmp 26) rfl (litEv (by kernel_rfl)) (litEv (by kernel_rfl)))) rfl (by decide) ?_
      refine plD ?_
      refine then_normal (hK32 _ _ ?_)
      refine wp_cond_true (litEv (by kernel_rfl)) ?_
      refine wp_skip ?_
      refine then_normal (hK31 _ _ ?_)
      refine wp_seq_k fun K34 hK34 => ?_
      refine wp_block ?_
      refine wp_seq_k fun K35 hK35 => ?_
      refine mgStart hm28 (by kernel_rfl) ?_
      intro w37 hm36
      clear hm28
      refine mgTake (i := 0) (v := .agg (gcs g A c).toArray) rfl (by kernel_rfl) (wn rfl) (fun _ _ _ h => h) hm36 (fun w_ h_ => gLoadAg (vs := gcs g A c) (k := 0) 0 h_ rfl (by kernel_rfl) (by kernel_rfl) (.tmp 4) Ty.ag_voxel_api_Grid rfl (litEv (by kernel_rfl))) ?_
      refine mP rfl ?_
      refine mk_ (i := 1) (v := .slice A2 T.length c2) rfl rfl (fun _ _ _ h => h) hm36 rfl ?_
      refine mk_ (i := 2) (v := .slice (some ⟨b23, 0, none⟩) l.length c19) rfl rfl (fun _ _ _ h => h) hm36 rfl ?_
      refine mk_ (i := 3) (v := .int .i64 (i : Int)) rfl rfl (fun _ _ _ h => h) hm36 rfl ?_
      refine mgTake (i := 4) (v := .pointer (some ⟨b23, 0 + i * 3, none⟩)) rfl (by kernel_rfl) (wn rfl) (fun _ _ _ h => h) hm36 (fun w_ h_ => gIaSl (b := b23) (off := 0) (n := l.length) (c := c19) (kk := .i64) (K := (i : Int)) (.tmp 32) (.tmp 33) i Ty.sl_L_api_Point rfl (litEv (by kernel_rfl)) (litEv (by kernel_rfl)) (rfl) (hil)) ?_
      refine mP rfl ?_
      refine mgTake (i := 5) (v := .agg (pcs q).toArray) rfl (by kernel_rfl) (wn rfl) (fun _ _ _ h => h) hm36 (fun w_ h_ => gLoadAgRd (vs := pcs q) (m := i * 3) (h_.rdRow 2 rfl) rfl (ptsC_get hq) (by kernel_rfl) (by omega) (.tmp 34) Ty.ag_voxel_api_Point rfl (litEv (by kernel_rfl))) ?_
      refine mP rfl ?_
      refine mgCall (i := 6) 43 [.agg (gcs g A c).toArray, .slice A2 T.length c2, .agg (pcs q).toArray] [] [] (by kernel_rfl) rfl (by kernel_rfl) (wn rfl) rfl (litEv (by kernel_rfl)) (litArgs (by kernel_rfl)) (refSol_any g hv T A c A2 c2 q _ ((Rd.below hrd hm36.bel).more hm36.bel.size) ((Rd.below htb hm36.bel).more hm36.bel.size)) ?_
      rintro e w38 ⟨rfl, hbz⟩
      have hm39 := hm36.below hbz
      clear hbz hm36
      refine ⟨_, rfl, hm39, ?_⟩
      refine mP rfl ?_
      rcases bool_or (solidAt g T q) with h40 | h40
      · rw [h40]
        refine mk_ (i := 7) (v := .bool false) rfl rfl (fun _ _ _ h => h) hm39 rfl ?_
        refine mgDone (by kernel_rfl) ?_
        refine then_normal (hK35 _ _ ?_)
        refine wp_seq_k fun K41 hK41 => ?_
        refine plStart ?_
        refine lk (v := .bool false) rfl rfl rfl ?_
        refine plD ?_
        refine then_normal (hK41 _ _ ?_)
        refine wp_cond_false (litEv (by kernel_rfl)) ?_
        refine wp_skip ?_
        refine inBlock_normal ?_
        refine then_normal (hK34 _ _ ?_)
        refine plStart ?_
        refine lk (v := .int .i64 (i : Int)) rfl rfl rfl ?_
        refine litVal (v := .int .i64 ((i : Int) + 1)) rfl (wn rfl) (addRun (A := (i : Int)) (B := 1) (C := (i : Int) + 1) (.tmp 28) (.const (.int .i64 1)) rfl (litEv (by kernel_rfl)) (litEv (by kernel_rfl)) rfl (by omega)) rfl (by decide) ?_
        refine lk (v := .int .i64 ((i : Int) + 1)) rfl rfl rfl ?_
        refine plD ?_
        refine then_normal ?_
        exact ⟨_, by omega, (i + 1), rfl, (by omega), (take_all_succ hq hno h40), ⟨litSize, rfl, ⟨litGet (by kernel_rfl), ⟨litGet (by kernel_rfl), ⟨litGet (by kernel_rfl), ⟨litGet (by kernel_rfl), ⟨litGet (by kernel_rfl), trivial⟩⟩⟩⟩⟩⟩, (hm39.sub (.cons_cons _ (.cons_cons _ (.cons_cons _ .slnil))))⟩
      rw [h40]
      refine mk_ (i := 7) (v := .bool true) rfl rfl (fun _ _ _ h => h) hm39 rfl ?_
      refine mgDone (by kernel_rfl) ?_
      refine then_normal (hK35 _ _ ?_)
      refine wp_seq_k fun K42 hK42 => ?_
      refine plStart ?_
      refine lk (v := .bool true) rfl rfl rfl ?_
      refine plD ?_
      refine then_normal (hK42 _ _ ?_)
      refine wp_cond_true (litEv (by kernel_rfl)) ?_
      refine wp_seq_k fun K43 hK43 => ?_
      refine aoStart (aoV [fun _ => .slice (some ⟨b23, 0, none⟩) l.length c19, fun _ => .int .i64 (i : Int), fun _ => .pointer (some ⟨b23, 0 + i * 3, none⟩), fun _ => .agg (pcs q).toArray, fun _ => .slice (some ⟨b23, 0, none⟩) l.length c19, fun _ => .int .i64 (i : Int), fun _ => .int .i64 ((i : Int) - 1), fun _ => .int .i64 (max 0 ((i : Int) - 1)), fun _ => .pointer (some ⟨b23, 0 + (i - 1) * 3, none⟩), fun _ => .agg (pcs p).toArray, fun _ => .int .i64 (i : Int), fun _ => .agg ([.int .i64 q.x, .int .i64 q.y, .int .i64 q.z, .int .i64 p.x, .int .i64 p.y, .int .i64 p.z, .int .i64 (i : Int)]).toArray, fun _ => undef, fun _ => .int .i64 0]) (aoA [0, 1, 2, 3, 4, 5, 6, 7, 8, 9, 10, 11, 12, 13]) (fun b_ g_ => ((.arr g2 36 (gcs g A c)) :: (.arr g11 46 (bsel (b_ 12) [.int .i64 q.x, .int .i64 q.y, .int .i64 q.z, .int .i64 p.x, .int .i64 p.y, .int .i64 p.z, .int .i64 (i : Int)] [.int .i64 0, .int .i64 0, .int .i64 0, .int .i64 0, .int .i64 0, .int .i64 0, .int .i64 0])) :: (.row (.slice (some ⟨b23, 0, none⟩) l.length c19) 23 3 l.length (ptsC l)) :: [])) hm39 (by kernel_rfl) (by kernel_rfl) (fun w_ h_ => h_) (fun b_ g_ h_ => by show (fun (x12_ : Bool) => (((.arr g2 36 (gcs g A c)) :: (.arr g11 46 (bsel x12_ [.int .i64 q.x, .int .i64 q.y, .int .i64 q.z, .int .i64 p.x, .int .i64 p.y, .int .i64 p.z, .int .i64 (i : Int)] [.int .i64 0, .int .i64 0, .int .i64 0, .int .i64 0, .int .i64 0, .int .i64 0, .int .i64 0])) :: (.row (.slice (some ⟨b23, 0, none⟩) l.length c19) 23 3 l.length (ptsC l)) :: []) : List Res)) (b_ 12) = _; rw [h_ 12 (by decide)]) ?_ ?_
      · refine aoNext rfl (aoVal (fun g_ => [(10, .slice (some ⟨b23, 0, none⟩) l.length c19)]) (fun g_ a_ h_k => ⟨(h_k.out 10 (by kernel_rfl)).trans (litGet (by kernel_rfl)), trivial⟩) (fun g_ X_ => (wn rfl)) (fun b_ g_ => by kernel_rfl) (fun b_ g_ X_ w_ h_b h_ => valTo (b := .slice (some ⟨b23, 0, none⟩) l.length c19) (by kernel_rfl) (litRun (by kernel_rfl)))) ?_
        refine aoNext rfl (aoVal (fun g_ => [(12, .int .i64 (i : Int))]) (fun g_ a_ h_k => ⟨(h_k.out 12 (by kernel_rfl)).trans (litGet (by kernel_rfl)), trivial⟩) (fun g_ X_ => (wn rfl)) (fun b_ g_ => by kernel_rfl) (fun b_ g_ X_ w_ h_b h_ => valTo (b := .int .i64 (i : Int)) (by kernel_rfl) (litRun (by kernel_rfl)))) ?_
        refine aoNext rfl (aoVal (fun g_ => [(38, .slice (some ⟨b23, 0, none⟩) l.length c19), (39, .int .i64 (i : Int))]) (fun g_ a_ h_k => ⟨(h_k.inn 0 _ _ (by kernel_rfl) rfl rfl).trans (by kernel_rfl), (h_k.inn 1 _ _ (by kernel_rfl) rfl rfl).trans (by kernel_rfl), trivial⟩) (fun g_ X_ => (wn rfl)) (fun b_ g_ => by kernel_rfl) (fun b_ g_ X_ w_ h_b h_ => valTo (b := .pointer (some ⟨b23, 0 + i * 3, none⟩)) (by kernel_rfl) (gIaSl (b := b23) (off := 0) (n := l.length) (c := c19) (kk := .i64) (K := (i : Int)) (.tmp 38) (.tmp 39) i Ty.sl_L_api_Point rfl (litEv (by kernel_rfl)) (litEv (by kernel_rfl)) (rfl) (hil)))) ?_
        refine aoNext rfl (aoVal (fun g_ => [(40, .pointer (some ⟨b23, 0 + i * 3, none⟩))]) (fun g_ a_ h_k => ⟨(h_k.inn 2 _ _ (by kernel_rfl) rfl rfl).trans (by kernel_rfl), trivial⟩) (fun g_ X_ => (wn rfl)) (fun b_ g_ => by kernel_rfl) (fun b_ g_ X_ w_ h_b h_ => valTo (b := .agg (pcs q).toArray) (by kernel_rfl) ((fun (h_ : Mem _ w_ ((.arr g2 36 (gcs g A c)) :: (.arr g11 46 ([.int .i64 0, .int .i64 0, .int .i64 0, .int .i64 0, .int .i64 0, .int .i64 0, .int .i64 0])) :: (.row (.slice (some ⟨b23, 0, none⟩) l.length c19) 23 3 l.length (ptsC l)) :: [])) => gLoadAgRd (vs := pcs q) (m := i * 3) (h_.rdRow 2 rfl) rfl (ptsC_get hq) (by kernel_rfl) (by omega) (.tmp 40) Ty.ag_voxel_api_Point rfl (litEv (by kernel_rfl))) (by have h2_ : Mem w w_ ((.arr g2 36 (gcs g A c)) :: (.arr g11 46 (bsel (b_ 12) [.int .i64 q.x, .int .i64 q.y, .int .i64 q.z, .int .i64 p.x, .int .i64 p.y, .int .i64 p.z, .int .i64 (i : Int)] [.int .i64 0, .int .i64 0, .int .i64 0, .int .i64 0, .int .i64 0, .int .i64 0, .int .i64 0])) :: (.row (.slice (some ⟨b23, 0, none⟩) l.length c19) 23 3 l.length (ptsC l)) :: []) := h_; rw [bselF (h_b.post 12 (by kernel_rfl))] at h2_; exact h2_)))) ?_
        refine aoNext rfl (aoVal (fun g_ => [(10, .slice (some ⟨b23, 0, none⟩) l.length c19)]) (fun g_ a_ h_k => ⟨(h_k.out 10 (by kernel_rfl)).trans (litGet (by kernel_rfl)), trivial⟩) (fun g_ X_ => (wn rfl)) (fun b_ g_ => by kernel_rfl) (fun b_ g_ X_ w_ h_b h_ => valTo (b := .slice (some ⟨b23, 0, none⟩) l.length c19) (by kernel_rfl) (litRun (by kernel_rfl)))) ?_
        refine aoNext rfl (aoVal (fun g_ => [(12, .int .i64 (i : Int))]) (fun g_ a_ h_k => ⟨(h_k.out 12 (by kernel_rfl)).trans (litGet (by kernel_rfl)), trivial⟩) (fun g_ X_ => (wn rfl)) (fun b_ g_ => by kernel_rfl) (fun b_ g_ X_ w_ h_b h_ => valTo (b := .int .i64 (i : Int)) (by kernel_rfl) (litRun (by kernel_rfl)))) ?_
        refine aoNext rfl (aoVal (fun g_ => [(43, .int .i64 (i : Int))]) (fun g_ a_ h_k => ⟨(h_k.inn 5 _ _ (by kernel_rfl) rfl rfl).trans (by kernel_rfl), trivial⟩) (fun g_ X_ => (wn rfl)) (fun b_ g_ => by kernel_rfl) (fun b_ g_ X_ w_ h_b h_ => valTo (b := .int .i64 ((i : Int) - 1)) (by kernel_rfl) (subRun (A := (i : Int)) (B := 1) (C := (i : Int) - 1) (.tmp 43) (.const (.int .i64 1)) rfl (litEv (by kernel_rfl)) (litEv (by kernel_rfl)) rfl (by omega)))) ?_
        refine aoNext rfl (aoVal (fun g_ => [(44, .int .i64 ((i : Int) - 1))]) (fun g_ a_ h_k => ⟨(h_k.inn 6 _ _ (by kernel_rfl) rfl rfl).trans (by kernel_rfl), trivial⟩) (fun g_ X_ => (wn rfl)) (fun b_ g_ => by kernel_rfl) (fun b_ g_ X_ w_ h_b h_ => valTo (b := .int .i64 (max 0 ((i : Int) - 1))) (by kernel_rfl) (gMax (.const (.int .i64 0)) (.tmp 44) rfl (litEv (by kernel_rfl)) (litEv (by kernel_rfl))))) ?_
        refine aoNext rfl (aoVal (fun g_ => [(42, .slice (some ⟨b23, 0, none⟩) l.length c19), (45, .int .i64 (max 0 ((i : Int) - 1)))]) (fun g_ a_ h_k => ⟨(h_k.inn 4 _ _ (by kernel_rfl) rfl rfl).trans (by kernel_rfl), (h_k.inn 7 _ _ (by kernel_rfl) rfl rfl).trans (by kernel_rfl), trivial⟩) (fun g_ X_ => (wn rfl)) (fun b_ g_ => by kernel_rfl) (fun b_ g_ X_ w_ h_b h_ => valTo (b := .pointer (some ⟨b23, 0 + (i - 1) * 3, none⟩)) (by kernel_rfl) (gIaSl (b := b23) (off := 0) (n := l.length) (c := c19) (kk := .i64) (K := (max 0 ((i : Int) - 1))) (.tmp 42) (.tmp 45) (i - 1) Ty.sl_L_api_Point rfl (litEv (by kernel_rfl)) (litEv (by kernel_rfl)) ((by omega)) ((by omega))))) ?_
        refine aoNext rfl (aoVal (fun g_ => [(46, .pointer (some ⟨b23, 0 + (i - 1) * 3, none⟩))]) (fun g_ a_ h_k => ⟨(h_k.inn 8 _ _ (by kernel_rfl) rfl rfl).trans (by kernel_rfl), trivial⟩) (fun g_ X_ => (wn rfl)) (fun b_ g_ => by kernel_rfl) (fun b_ g_ X_ w_ h_b h_ => valTo (b := .agg (pcs p).toArray) (by kernel_rfl) ((fun (h_ : Mem _ w_ ((.arr g2 36 (gcs g A c)) :: (.arr g11 46 ([.int .i64 0, .int .i64 0, .int .i64 0, .int .i64 0, .int .i64 0, .int .i64 0, .int .i64 0])) :: (.row (.slice (some ⟨b23, 0, none⟩) l.length c19) 23 3 l.length (ptsC l)) :: [])) => gLoadAgRd (vs := pcs p) (m := (i - 1) * 3) (h_.rdRow 2 rfl) rfl (ptsC_get hp) (by kernel_rfl) (by omega) (.tmp 46) Ty.ag_voxel_api_Point rfl (litEv (by kernel_rfl))) (by have h2_ : Mem w w_ ((.arr g2 36 (gcs g A c)) :: (.arr g11 46 (bsel (b_ 12) [.int .i64 q.x, .int .i64 q.y, .int .i64 q.z, .int .i64 p.x, .int .i64 p.y, .int .i64 p.z, .int .i64 (i : Int)] [.int .i64 0, .int .i64 0, .int .i64 0, .int .i64 0, .int .i64 0, .int .i64 0, .int .i64 0])) :: (.row (.slice (some ⟨b23, 0, none⟩) l.length c19) 23 3 l.length (ptsC l)) :: []) := h_; rw [bselF (h_b.post 12 (by kernel_rfl))] at h2_; exact h2_)))) ?_
        refine aoNext rfl (aoVal (fun g_ => [(12, .int .i64 (i : Int))]) (fun g_ a_ h_k => ⟨(h_k.out 12 (by kernel_rfl)).trans (litGet (by kernel_rfl)), trivial⟩) (fun g_ X_ => (wn rfl)) (fun b_ g_ => by kernel_rfl) (fun b_ g_ X_ w_ h_b h_ => valTo (b := .int .i64 (i : Int)) (by kernel_rfl) (litRun (by kernel_rfl)))) ?_
        refine aoNext rfl (aoVal (fun g_ => [(41, .agg (pcs q).toArray), (47, .agg (pcs p).toArray), (48, .int .i64 (i : Int))]) (fun g_ a_ h_k => ⟨(h_k.inn 3 _ _ (by kernel_rfl) rfl rfl).trans (by kernel_rfl), (h_k.inn 9 _ _ (by kernel_rfl) rfl rfl).trans (by kernel_rfl), (h_k.inn 10 _ _ (by kernel_rfl) rfl rfl).trans (by kernel_rfl), trivial⟩) (fun g_ X_ => (wn rfl)) (fun b_ g_ => by kernel_rfl) (fun b_ g_ X_ w_ h_b h_ => valTo (b := .agg ([.int .i64 q.x, .int .i64 q.y, .int .i64 q.z, .int .i64 p.x, .int .i64 p.y, .int .i64 p.z, .int .i64 (i : Int)]).toArray) (by kernel_rfl) (litRun (by kernel_rfl)))) ?_
        refine aoNext rfl (aoStore (gb := fun g_ => g11) (k := 0) (cur := fun g_ => [.int .i64 0, .int .i64 0, .int .i64 0, .int .i64 0, .int .i64 0, .int .i64 0, .int .i64 0]) (vs := fun g_ => [.int .i64 q.x, .int .i64 q.y, .int .i64 q.z, .int .i64 p.x, .int .i64 p.y, .int .i64 p.z, .int .i64 (i : Int)]) 1 (fun g_ => [(8, .pointer (some ⟨g11, 0, none⟩)), (49, .agg ([.int .i64 q.x, .int .i64 q.y, .int .i64 q.z, .int .i64 p.x, .int .i64 p.y, .int .i64 p.z, .int .i64 (i : Int)]).toArray)]) (fun g_ a_ h_k => ⟨(h_k.out 8 (by kernel_rfl)).trans (litGet (by kernel_rfl)), (h_k.inn 11 _ _ (by kernel_rfl) rfl rfl).trans (by kernel_rfl), trivial⟩) Ty.ag_voxel_voxelref42_Hit (fun b_ g_ h_b => by show some (Res.arr g11 46 (bsel (b_ 12) [.int .i64 q.x, .int .i64 q.y, .int .i64 q.z, .int .i64 p.x, .int .i64 p.y, .int .i64 p.z, .int .i64 (i : Int)] [.int .i64 0, .int .i64 0, .int .i64 0, .int .i64 0, .int .i64 0, .int .i64 0, .int .i64 0])) = some (Res.arr g11 46 ([.int .i64 0, .int .i64 0, .int .i64 0, .int .i64 0, .int .i64 0, .int .i64 0, .int .i64 0])); rw [bselF h_b.no]) (fun g_ X_ => (wn rfl)) rfl (fun g_ X_ => litEv (by kernel_rfl)) (fun g_ X_ => litEv (by kernel_rfl)) (fun _ => by kernel_rfl) (fun _ => by kernel_rfl) (fun _ => by kernel_rfl) (fun b_ g_ h_b => by kernel_rfl) rfl) ?_
        refine aoNext rfl (aoVal (fun g_ => []) (fun _ _ _ => trivial) (fun g_ X_ => (wn rfl)) (fun b_ g_ => by kernel_rfl) (fun b_ g_ X_ w_ h_b h_ => valTo (b := .int .i64 0) (by kernel_rfl) (litRun (by kernel_rfl)))) ?_
        exact aoDone (by decide)
      intro g_ a_ w45 hF_ hm44
      obtain ⟨X46, rfl⟩ := frLit (⟨hF_.size, hF_.defers, ⟨(hF_.out 1 (by kernel_rfl)).trans (litGet (by kernel_rfl)), (hF_.out 4 (by kernel_rfl)).trans (litGet (by kernel_rfl)), (hF_.out 8 (by kernel_rfl)).trans (litGet (by kernel_rfl)), (hF_.inn 13 _ _ rfl rfl).trans (by kernel_rfl), (hF_.out 10 (by kernel_rfl)).trans (litGet (by kernel_rfl)), (hF_.out 12 (by kernel_rfl)).trans (litGet (by kernel_rfl)), (hF_.out 13 (by kernel_rfl)).trans (litGet (by kernel_rfl)), (hF_.out 24 (by kernel_rfl)).trans (litGet (by kernel_rfl)), (hF_.out 25 (by kernel_rfl)).trans (litGet (by kernel_rfl)), (hF_.out 26 (by kernel_rfl)).trans (litGet (by kernel_rfl)), (hF_.out 27 (by kernel_rfl)).trans (litGet (by kernel_rfl)), (hF_.out 30 (by kernel_rfl)).trans (litGet (by kernel_rfl)), (hF_.out 31 (by kernel_rfl)).trans (litGet (by kernel_rfl)), (hF_.out 32 (by kernel_rfl)).trans (litGet (by kernel_rfl)), (hF_.out 33 (by kernel_rfl)).trans (litGet (by kernel_rfl)), (hF_.out 34 (by kernel_rfl)).trans (litGet (by kernel_rfl)), (hF_.out 35 (by kernel_rfl)).trans (litGet (by kernel_rfl)), (hF_.out 36 (by kernel_rfl)).trans (litGet (by kernel_rfl)), (hF_.out 37 (by kernel_rfl)).trans (litGet (by kernel_rfl)), (hF_.inn 0 _ _ rfl rfl).trans (by kernel_rfl), (hF_.inn 1 _ _ rfl rfl).trans (by kernel_rfl), (hF_.inn 2 _ _ rfl rfl).trans (by kernel_rfl), (hF_.inn 3 _ _ rfl rfl).trans (by kernel_rfl), (hF_.inn 4 _ _ rfl rfl).trans (by kernel_rfl), (hF_.inn 5 _ _ rfl rfl).trans (by kernel_rfl), (hF_.inn 6 _ _ rfl rfl).trans (by kernel_rfl), (hF_.inn 7 _ _ rfl rfl).trans (by kernel_rfl), (hF_.inn 8 _ _ rfl rfl).trans (by kernel_rfl), (hF_.inn 9 _ _ rfl rfl).trans (by kernel_rfl), (hF_.inn 10 _ _ rfl rfl).trans (by kernel_rfl), (hF_.inn 11 _ _ rfl rfl).trans (by kernel_rfl), trivial⟩⟩ : Fr _ 51 [(1, .slice A2 T.length c2), (4, .pointer (some ⟨g2, 0, none⟩)), (8, .pointer (some ⟨g11, 0, none⟩)), (9, .int .i64 0), (10, .slice (some ⟨b23, 0, none⟩) l.length c19), (12, .int .i64 (i : Int)), (13, .bool true), (24, .int .i64 (i : Int)), (25, .slice (some ⟨b23, 0, none⟩) l.length c19), (26, .int .i64 (l.length : Int)), (27, .bool true), (30, .agg (gcs g A c).toArray), (31, .slice A2 T.length c2), (32, .slice (some ⟨b23, 0, none⟩) l.length c19), (33, .int .i64 (i : Int)), (34, .pointer (some ⟨b23, 0 + i * 3, none⟩)), (35, .agg (pcs q).toArray), (36, .bool true), (37, .bool true), (38, .slice (some ⟨b23, 0, none⟩) l.length c19), (39, .int .i64 (i : Int)), (40, .pointer (some ⟨b23, 0 + i * 3, none⟩)), (41, .agg (pcs q).toArray), (42, .slice (some ⟨b23, 0, none⟩) l.length c19), (43, .int .i64 (i : Int)), (44, .int .i64 ((i : Int) - 1)), (45, .int .i64 (max 0 ((i : Int) - 1))), (46, .pointer (some ⟨b23, 0 + (i - 1) * 3, none⟩)), (47, .agg (pcs p).toArray), (48, .int .i64 (i : Int)), (49, .agg ([.int .i64 q.x, .int .i64 q.y, .int .i64 q.z, .int .i64 p.x, .int .i64 p.y, .int .i64 p.z, .int .i64 (i : Int)]).toArray)])
      clear hF_
      have hm47 : Mem w w45 [.arr g2 36 (gcs g A c), .arr g11 46 ([.int .i64 q.x, .int .i64 q.y, .int .i64 q.z, .int .i64 p.x, .int .i64 p.y, .int .i64 p.z, .int .i64 (i : Int)]), .row (.slice (some ⟨b23, 0, none⟩) l.length c19) 23 3 l.length (ptsC l)] := hm44
      clear hm44 hm39
      refine then_normal (hK43 _ _ ?_)
      refine wp_ret ?_
      refine inBlock_ret ?_
      refine then_ret ?_
      refine then_ret ?_
      refine inBlock_ret ?_
      refine then_ret ?_
      refine bodyPost_ret (v := .tuple #[.agg ([.int .i64 q.x, .int .i64 q.y, .int .i64 q.z, .int .i64 p.x, .int .i64 p.y, .int .i64 p.z, .int .i64 (i : Int)]).toArray, .int .i64 0]) (gRes2 rfl (gResAg (cs := [.int .i64 q.x, .int .i64 q.y, .int .i64 q.z, .int .i64 p.x, .int .i64 p.y, .int .i64 p.z, .int .i64 (i : Int)]) 1 hm47 rfl Ty.ag_voxel_voxelref42_Hit rfl (litGet (by kernel_rfl))) (gResTmp (t := 9) (v := .int .i64 0) (litGet (by kernel_rfl)))) rfl ?_
      exact ⟨congrArg Ending.returned (by have e_ := firstSol_some (i := 0) hq h40 hno; rw [Nat.zero_add, ← hW] at e_; rw [firstH_some h22 e_, firstE_some h22 e_, hW, befOf_eq h0 hp]; rfl), hm47.bel⟩
    refine litVal (v := .bool false) rfl (wn rfl) (boolTo (decide_eq_false h33) (lssRun (A := (i : Int)) (B := (l.length : Int)) (.tmp 24) (.tmp 26) rfl (litEv (by kernel_rfl)) (litEv (by kernel_rfl)))) rfl (by decide) ?_
    refine plD ?_
    refine then_normal (hK32 _ _ ?_)
    refine wp_cond_false (litEv (by kernel_rfl)) ?_
    refine wp_exit ?_
    refine then_exit ?_
    refine then_exit ?_
    refine inBlock_exit ?_
    refine then_normal (hK25 _ _ ?_)
    refine wp_seq_k fun K48 hK48 => ?_
    refine plStart ?_
    refine lk (v := .agg ([.int .i64 0, .int .i64 0, .int .i64 0, .int .i64 0, .int .i64 0, .int .i64 0, .int .i64 0]).toArray) rfl rfl rfl ?_
    refine plStore 1 Ty.ag_voxel_voxelref42_Hit hm28 rfl (i := 1) (cs := [.int .i64 0, .int .i64 0, .int .i64 0, .int .i64 0, .int .i64 0, .int .i64 0, .int .i64 0]) rfl (wn rfl) rfl (litEv (by kernel_rfl)) (litEv (by kernel_rfl)) rfl rfl (by kernel_rfl) ?_
    intro w50 hm49
    clear hm28
    try simp only [List.cons_append, List.nil_append, List.set_cons_succ, List.set_cons_zero] at hm49
    refine qNone rfl ?_
    refine lk (v := .int .i64 9) rfl rfl rfl ?_
    refine plD ?_
    refine then_normal (hK48 _ _ ?_)
    refine wp_ret ?_
    refine bodyPost_ret (v := .tuple #[.agg ([.int .i64 0, .int .i64 0, .int .i64 0, .int .i64 0, .int .i64 0, .int .i64 0, .int .i64 0]).toArray, .int .i64 9]) (gRes2 rfl (gResAg (cs := [.int .i64 0, .int .i64 0, .int .i64 0, .int .i64 0, .int .i64 0, .int .i64 0, .int .i64 0]) 1 hm49 rfl Ty.ag_voxel_voxelref42_Hit rfl (litGet (by kernel_rfl))) (gResTmp (t := 9) (v := .int .i64 9) (litGet (by kernel_rfl)))) rfl ?_
    exact ⟨congrArg Ending.returned (by have e_ := firstSol_none (i := 0) (f := solidAt g T) (l := l) (by rw [List.take_of_length_le (by omega)] at hno; exact hno); rw [← hW] at e_; rw [firstH_none h22 e_, firstE_none h22 e_]; rfl), hm49.bel⟩
  refine litVal (v := .bool true) rfl (wn rfl) (boolTo (by rw [decide_eq_false h22]; rfl) (neqRun (A := (ckE a b)) (B := 0) (.tmp 20) (.const (.int .i64 0)) rfl (litEv (by kernel_rfl)) (litEv (by kernel_rfl)))) rfl (by decide) ?_
  refine plD ?_
  refine then_normal (hK21 _ _ ?_)
  refine wp_cond_true (litEv (by kernel_rfl)) ?_
  refine wp_seq_k fun K51 hK51 => ?_
  refine plStart ?_
  refine lk (v := .agg ([.int .i64 0, .int .i64 0, .int .i64 0, .int .i64 0, .int .i64 0, .int .i64 0, .int .i64 0]).toArray) rfl rfl rfl ?_
  refine lk (v := .int .i64 (ckE a b)) rfl rfl rfl ?_
  refine plStore 3 Ty.ag_voxel_voxelref42_Hit hm16 rfl (i := 2) (cs := [.int .i64 0, .int .i64 0, .int .i64 0, .int .i64 0, .int .i64 0, .int .i64 0, .int .i64 0]) rfl (wn rfl) rfl (litEv (by kernel_rfl)) (litEv (by kernel_rfl)) rfl rfl (by kernel_rfl) ?_
  intro w53 hm52
  clear hm16
  try simp only [List.cons_append, List.nil_append, List.set_cons_succ, List.set_cons_zero] at hm52
  refine qNone rfl ?_
  refine lk (v := .int .i64 (ckE a b)) rfl rfl rfl ?_
  refine plD ?_
  refine then_normal (hK51 _ _ ?_)
  refine wpPrune [(1, .slice A2 T.length c2), (4, .pointer (some ⟨g2, 0, none⟩)), (8, .pointer (some ⟨g11, 0, none⟩)), (9, .int .i64 (ckE a b)), (10, .slice A18 l.length c19)] ⟨litGet (by kernel_rfl), ⟨litGet (by kernel_rfl), ⟨litGet (by kernel_rfl), ⟨litGet (by kernel_rfl), ⟨litGet (by kernel_rfl), trivial⟩⟩⟩⟩⟩ (fun X54 => ?_)
  refine wp_ret ?_
  refine then_ret ?_
  refine bodyPost_ret (v := .tuple #[.agg ([.int .i64 0, .int .i64 0, .int .i64 0, .int .i64 0, .int .i64 0, .int .i64 0, .int .i64 0]).toArray, .int .i64 (ckE a b)]) (gRes2 rfl (gResAg (cs := [.int .i64 0, .int .i64 0, .int .i64 0, .int .i64 0, .int .i64 0, .int .i64 0, .int .i64 0]) 3 hm52 rfl Ty.ag_voxel_voxelref42_Hit rfl (litGet (by kernel_rfl))) (gResTmp (t := 9) (v := .int .i64 (ckE a b)) (litGet (by kernel_rfl)))) rfl ?_
  exact ⟨congrArg Ending.returned (by rw [firstH_err h22, firstE_err h22] <;> rfl), hm52.bel⟩
set_option maxRecDepth 100000 in
set_option maxHeartbeats 4000000 in
theorem refVisible_any (g : Gr) (hv : g.Valid) (T : List Mat) (A : Option Addr) (c : Nat) (A2 : Option Addr) (c2 : Nat) (a b : Pt) (hS : ckE a b = 0 → a.dist b ≤ 12) (w : World) (hrd : Rd w w.heap.size 1 A g.cells.length c (ics g.cells)) (htb : Rd w w.heap.size 8 A2 T.length c2 (mts T)) : Calls Try.prog 19 #[.agg (gcs g A c).toArray, .slice A2 T.length c2, .agg (pcs a).toArray, .agg (pcs b).toArray] w (RetV w (.tuple #[.bool (visR g T a b), .int .i64 (ckE a b)])) := by
  obtain ⟨l, hl⟩ : ∃ l, walkR a b = l := ⟨_, rfl⟩
  have hm0 := Mem.nil w
  go_enter Try.func19, Try.ntmps19
  refine litStart 38 [(0, .agg (gcs g A c).toArray), (1, .slice A2 T.length c2), (2, .agg (pcs a).toArray), (3, .agg (pcs b).toArray)] (by kernel_rfl) (fun X0 => ?_)
  refine wp_seq_k fun K1 hK1 => ?_
  refine plStart ?_
  refine plBox hm0 (cs := gcs g A c) (i := 0) rfl (wn rfl) rfl (litEv (by kernel_rfl)) ?_
  intro g2 w4 hm3
  clear hm0
  try simp only [List.cons_append, List.nil_append, List.set_cons_succ, List.set_cons_zero] at hm3
  refine qP rfl ?_
  refine plBox hm3 (cs := pcs a) (i := 1) rfl (wn rfl) rfl (litEv (by kernel_rfl)) ?_
  intro g5 w7 hm6
  clear hm3
  try simp only [List.cons_append, List.nil_append, List.set_cons_succ, List.set_cons_zero] at hm6
  refine qP rfl ?_
  refine plBox hm6 (cs := pcs b) (i := 2) rfl (wn rfl) rfl (litEv (by kernel_rfl)) ?_
  intro g8 w10 hm9
  clear hm6
  try simp only [List.cons_append, List.nil_append, List.set_cons_succ, List.set_cons_zero] at hm9
  refine qP rfl ?_
  refine lk (v := .bool false) rfl rfl rfl ?_
  refine lk (v := .int .i64 0) rfl rfl rfl ?_
  refine plD ?_
  refine then_normal (hK1 _ _ ?_)
  refine wp_seq_k fun K11 hK11 => ?_
  refine plStart ?_
  refine litVal (v := .agg (pcs a).toArray) rfl (wn rfl) (gLoadAg (vs := pcs a) (k := 0) 1 hm9 rfl (by kernel_rfl) (by kernel_rfl) (.tmp 6) Ty.ag_voxel_api_Point rfl (litEv (by kernel_rfl))) rfl (by decide) ?_
  refine litVal (v := .agg (pcs b).toArray) rfl (wn rfl) (gLoadAg (vs := pcs b) (k := 0) 2 hm9 rfl (by kernel_rfl) (by kernel_rfl) (.tmp 7) Ty.ag_voxel_api_Point rfl (litEv (by kernel_rfl))) rfl (by decide) ?_
  refine plCall (i := 2) 11 [.agg (pcs a).toArray, .agg (pcs b).toArray] [] [] rfl (by kernel_rfl) (wn rfl) rfl (litEv (by kernel_rfl)) (litArgs (by kernel_rfl)) (by have h := refWalk_any a b hS w10; rw [hl] at h; exact h) ?_
  rintro e w12 ⟨v14, rfl, hown_, hbz⟩
  obtain ⟨A15, c16, rfl, hrd_⟩ := Rd.of_own hown_
  clear hrd_
  have hm13 := hm9.newRow hbz hown_
  clear hown_ hbz hm9
  try simp only [List.cons_append, List.nil_append, List.set_cons_succ, List.set_cons_zero] at hm13
  refine ⟨_, rfl, ?_⟩
  refine qP rfl ?_
  refine lk (v := .tuple #[.slice A15 l.length c16, .int .i64 (ckE a b)]) rfl rfl rfl ?_
  refine lk (v := .slice A15 l.length c16) rfl rfl rfl ?_
  refine lk (v := .int .i64 (ckE a b)) rfl rfl rfl ?_
  refine lk (v := .slice A15 l.length c16) rfl rfl rfl ?_
  refine lk (v := .int .i64 (ckE a b)) rfl rfl rfl ?_
  refine plD ?_
  refine then_normal (hK11 _ _ ?_)
  refine wp_seq_k fun K17 hK17 => ?_
  refine wp_seq_k fun K18 hK18 => ?_
  refine plStart ?_
  refine lk (v := .int .i64 (ckE a b)) rfl rfl rfl ?_
  by_cases h19 : (ckE a b) = 0
  · have hW : walk a b = l := by rw [← hl]; unfold walkR; rw [if_pos h19]
    have h0 := walk_head a b
    have hpos : 0 < (walk a b).length := (List.getElem?_eq_some_iff.1 h0).1
    rw [hW] at h0 hpos
    have hlw : l.length ≤ 1000000 := by have h1_ := walk_len a b; have h2_ := (ckE_ok h19).2.2; rw [hW] at h1_; omega
    obtain ⟨b20, rfl⟩ := hm13.rowBlk (A := A15) (n := l.length) (c := c16) 3 rfl (hpos)
    refine litVal (v := .bool false) rfl (wn rfl) (boolTo (by rw [decide_eq_true h19]; rfl) (neqRun (A := (ckE a b)) (B := 0) (.tmp 20) (.const (.int .i64 0)) rfl (litEv (by kernel_rfl)) (litEv (by kernel_rfl)))) rfl (by decide) ?_
    refine plD ?_
    refine then_normal (hK18 _ _ ?_)
    refine wp_cond_false (litEv (by kernel_rfl)) ?_
    refine wp_skip ?_
    refine then_normal (hK17 _ _ ?_)
    refine wpPrune [(1, .slice A2 T.length c2), (4, .pointer (some ⟨g2, 0, none⟩)), (8, .bool false), (9, .int .i64 0), (10, .slice (some ⟨b20, 0, none⟩) l.length c16)] ⟨litGet (by kernel_rfl), ⟨litGet (by kernel_rfl), ⟨litGet (by kernel_rfl), ⟨litGet (by kernel_rfl), ⟨litGet (by kernel_rfl), trivial⟩⟩⟩⟩⟩ (fun X21 => ?_)
    refine wp_seq_k fun K22 hK22 => ?_
    refine wp_seq_k fun K23 hK23 => ?_
    refine plStart ?_
    refine lk (v := .int .i64 1) rfl rfl rfl ?_
    refine plD ?_
    refine then_normal (hK23 _ _ ?_)
    refine wp_block ?_
    refine gwLoop (fun n_ a_ w_ => ∃ (i : Nat), n_ = l.length - i ∧ (1 ≤ i ∧ i ≤ l.length) ∧ (∀ (j : Nat) (q : Pt), 1 ≤ j → j < i → l[j]? = some q → solidAt g T q = false) ∧ Fr a_ 38 [(1, .slice A2 T.length c2), (4, .pointer (some ⟨g2, 0, none⟩)), (10, .slice (some ⟨b20, 0, none⟩) l.length c16), (12, .int .i64 (i : Int))] ∧ Mem w w_ [.arr g2 36 (gcs g A c), .row (.slice (some ⟨b20, 0, none⟩) l.length c16) 23 3 l.length (ptsC l)]) (l.length - 1) ⟨1, rfl, ⟨Nat.le_refl _, hpos⟩, (fun j q h1_ h2_ => absurd h1_ (by omega)), ⟨litSize, rfl, ⟨litGet (by kernel_rfl), ⟨litGet (by kernel_rfl), ⟨litGet (by kernel_rfl), ⟨litGet (by kernel_rfl), trivial⟩⟩⟩⟩⟩, (hm13.sub (.cons_cons _ (.cons _ (.cons _ (.cons_cons _ .slnil)))))⟩ ?_
    clear hm13
    intro n_ a26 w24 hI_
    obtain ⟨i, rfl, hi1_, hno, hF_, hm25⟩ := hI_
    obtain ⟨X27, rfl⟩ := frLit hF_
    clear hF_
    refine wp_seq_k fun K28 hK28 => ?_
    refine wp_seq_k fun K29 hK29 => ?_
    refine plStart ?_
    refine lk (v := .int .i64 (i : Int)) rfl rfl rfl ?_
    refine lk (v := .slice (some ⟨b20, 0, none⟩) l.length c16) rfl rfl rfl ?_
    refine litVal (v := .int .i64 (l.length : Int)) rfl (wn rfl) (lenSlRun (A := some ⟨b20, 0, none⟩) (n := l.length) (c := c16) (.tmp 24) Ty.und_L_api_Point rfl (litEv (by kernel_rfl))) rfl (by decide) ?_
    refine litVal (v := .int .i64 ((l.length : Int) - 1)) rfl (wn rfl) (subRun (A := (l.length : Int)) (B := 1) (C := (l.length : Int) - 1) (.tmp 25) (.const (.int .i64 1)) rfl (litEv (by kernel_rfl)) (litEv (by kernel_rfl)) rfl (by omega)) rfl (by decide) ?_
    by_cases h30 : (i : Int) < ((l.length : Int) - 1)
    · have hil : i < l.length := by omega
      obtain ⟨q, hq⟩ : ∃ q, l[i]? = some q := ⟨_, List.getElem?_eq_getElem hil⟩
      obtain ⟨p, hp⟩ : ∃ p, l[i - 1]? = some p := ⟨_, List.getElem?_eq_getElem (by omega)⟩
      refine litVal (v := .bool true) rfl (wn rfl) (boolTo (decide_eq_true h30) (lssRun (A := (i : Int)) (B := ((l.length : Int) - 1)) (.tmp 23) (.tmp 26) rfl (litEv (by kernel_rfl)) (litEv (by kernel_rfl)))) rfl (by decide) ?_
      refine plD ?_
      refine then_normal (hK29 _ _ ?_)
      refine wp_cond_true (litEv (by kernel_rfl)) ?_
      refine wp_skip ?_
      refine then_normal (hK28 _ _ ?_)
      refine wp_seq_k fun K31 hK31 => ?_
      refine wp_block ?_
      refine wp_seq_k fun K32 hK32 => ?_
      refine mgStart hm25 (by kernel_rfl) ?_
      intro w34 hm33
      clear hm25
      refine mgTake (i := 0) (v := .agg (gcs g A c).toArray) rfl (by kernel_rfl) (wn rfl) (fun _ _ _ h => h) hm33 (fun w_ h_ => gLoadAg (vs := gcs g A c) (k := 0) 0 h_ rfl (by kernel_rfl) (by kernel_rfl) (.tmp 4) Ty.ag_voxel_api_Grid rfl (litEv (by kernel_rfl))) ?_
      refine mP rfl ?_
      refine mk_ (i := 1) (v := .slice A2 T.length c2) rfl rfl (fun _ _ _ h => h) hm33 rfl ?_
      refine mk_ (i := 2) (v := .slice (some ⟨b20, 0, none⟩) l.length c16) rfl rfl (fun _ _ _ h => h) hm33 rfl ?_
      refine mk_ (i := 3) (v := .int .i64 (i : Int)) rfl rfl (fun _ _ _ h => h) hm33 rfl ?_
      refine mgTake (i := 4) (v := .pointer (some ⟨b20, 0 + i * 3, none⟩)) rfl (by kernel_rfl) (wn rfl) (fun _ _ _ h => h) hm33 (fun w_ h_ => gIaSl (b := b20) (off := 0) (n := l.length) (c := c16) (kk := .i64) (K := (i : Int)) (.tmp 32) (.tmp 33) i Ty.sl_L_api_Point rfl (litEv (by kernel_rfl)) (litEv (by kernel_rfl)) (rfl) (hil)) ?_
      refine mP rfl ?_
      refine mgTake (i := 5) (v := .agg (pcs q).toArray) rfl (by kernel_rfl) (wn rfl) (fun _ _ _ h => h) hm33 (fun w_ h_ => gLoadAgRd (vs := pcs q) (m := i * 3) (h_.rdRow 1 rfl) rfl (ptsC_get hq) (by kernel_rfl) (by omega) (.tmp 34) Ty.ag_voxel_api_Point rfl (litEv (by kernel_rfl))) ?_
      refine mP rfl ?_
      refine mgCall (i := 6) 43 [.agg (gcs g A c).toArray, .slice A2 T.length c2, .agg (pcs q).toArray] [] [] (by kernel_rfl) rfl (by kernel_rfl) (wn rfl) rfl (litEv (by kernel_rfl)) (litArgs (by kernel_rfl)) (refSol_any g hv T A c A2 c2 q _ ((Rd.below hrd hm33.bel).more hm33.bel.size) ((Rd.below htb hm33.bel).more hm33.bel.size)) ?_
      rintro e w35 ⟨rfl, hbz⟩
      have hm36 := hm33.below hbz
      clear hbz hm33
      refine ⟨_, rfl, hm36, ?_⟩
      refine mP rfl ?_
      rcases bool_or (solidAt g T q) with h37 | h37
      · rw [h37]
        refine mk_ (i := 7) (v := .bool false) rfl rfl (fun _ _ _ h => h) hm36 rfl ?_
        refine mgDone (by kernel_rfl) ?_
        refine then_normal (hK32 _ _ ?_)
        refine wp_seq_k fun K38 hK38 => ?_
        refine plStart ?_
        refine lk (v := .bool false) rfl rfl rfl ?_
        refine plD ?_
        refine then_normal (hK38 _ _ ?_)
        refine wp_cond_false (litEv (by kernel_rfl)) ?_
        refine wp_skip ?_
        refine inBlock_normal ?_
        refine then_normal (hK31 _ _ ?_)
        refine plStart ?_
        refine lk (v := .int .i64 (i : Int)) rfl rfl rfl ?_
        refine litVal (v := .int .i64 ((i : Int) + 1)) rfl (wn rfl) (addRun (A := (i : Int)) (B := 1) (C := (i : Int) + 1) (.tmp 28) (.const (.int .i64 1)) rfl (litEv (by kernel_rfl)) (litEv (by kernel_rfl)) rfl (by omega)) rfl (by decide) ?_
        refine lk (v := .int .i64 ((i : Int) + 1)) rfl rfl rfl ?_
        refine plD ?_
        refine then_normal ?_
        exact ⟨_, by omega, (i + 1), rfl, ⟨by omega, by omega⟩, (mid_succ hq hno h37), ⟨litSize, rfl, ⟨litGet (by kernel_rfl), ⟨litGet (by kernel_rfl), ⟨litGet (by kernel_rfl), ⟨litGet (by kernel_rfl), trivial⟩⟩⟩⟩⟩, (hm36.sub (.cons_cons _ (.cons_cons _ .slnil)))⟩
      rw [h37]
      refine mk_ (i := 7) (v := .bool true) rfl rfl (fun _ _ _ h => h) hm36 rfl ?_
      refine mgDone (by kernel_rfl) ?_
      refine then_normal (hK32 _ _ ?_)
      refine wp_seq_k fun K39 hK39 => ?_
      refine plStart ?_
      refine lk (v := .bool true) rfl rfl rfl ?_
      refine plD ?_
      refine then_normal (hK39 _ _ ?_)
      refine wp_cond_true (litEv (by kernel_rfl)) ?_
      refine wp_seq_k fun K40 hK40 => ?_
      refine plStart ?_
      refine lk (v := .bool false) rfl rfl rfl ?_
      refine lk (v := .int .i64 0) rfl rfl rfl ?_
      refine plD ?_
      refine then_normal (hK40 _ _ ?_)
      refine wp_ret ?_
      refine inBlock_ret ?_
      refine then_ret ?_
      refine then_ret ?_
      refine inBlock_ret ?_
      refine then_ret ?_
      refine bodyPost_ret (v := .tuple #[.bool false, .int .i64 0]) (gRes2 rfl (gResTmp (t := 8) (v := .bool false) (litGet (by kernel_rfl))) (gResTmp (t := 9) (v := .int .i64 0) (litGet (by kernel_rfl)))) rfl ?_
      exact ⟨congrArg Ending.returned (by rw [vis_mid_no h19 (j := i) (q := q) (by omega) (by rw [hW]; omega) (by rw [hW]; exact hq) h37, h19]), hm36.bel⟩
    refine litVal (v := .bool false) rfl (wn rfl) (boolTo (decide_eq_false h30) (lssRun (A := (i : Int)) (B := ((l.length : Int) - 1)) (.tmp 23) (.tmp 26) rfl (litEv (by kernel_rfl)) (litEv (by kernel_rfl)))) rfl (by decide) ?_
    refine plD ?_
    refine then_normal (hK29 _ _ ?_)
    refine wp_cond_false (litEv (by kernel_rfl)) ?_
    refine wp_exit ?_
    refine then_exit ?_
    refine then_exit ?_
    refine inBlock_exit ?_
    refine then_normal (hK22 _ _ ?_)
    refine wp_seq_k fun K41 hK41 => ?_
    refine plStart ?_
    refine lk (v := .bool true) rfl rfl rfl ?_
    refine lk (v := .int .i64 0) rfl rfl rfl ?_
    refine plD ?_
    refine then_normal (hK41 _ _ ?_)
    refine wp_ret ?_
    refine bodyPost_ret (v := .tuple #[.bool true, .int .i64 0]) (gRes2 rfl (gResTmp (t := 8) (v := .bool true) (litGet (by kernel_rfl))) (gResTmp (t := 9) (v := .int .i64 0) (litGet (by kernel_rfl)))) rfl ?_
    exact ⟨congrArg Ending.returned (by rw [vis_mid h19 (fun j q h1_ h2_ h3_ => by rw [hW] at h2_ h3_; exact hno j q h1_ (by omega) h3_), h19]), hm25.bel⟩
  refine litVal (v := .bool true) rfl (wn rfl) (boolTo (by rw [decide_eq_false h19]; rfl) (neqRun (A := (ckE a b)) (B := 0) (.tmp 20) (.const (.int .i64 0)) rfl (litEv (by kernel_rfl)) (litEv (by kernel_rfl)))) rfl (by decide) ?_
  refine plD ?_
  refine then_normal (hK18 _ _ ?_)
  refine wp_cond_true (litEv (by kernel_rfl)) ?_
  refine wp_seq_k fun K42 hK42 => ?_
  refine plStart ?_
  refine lk (v := .int .i64 (ckE a b)) rfl rfl rfl ?_
  refine lk (v := .bool false) rfl rfl rfl ?_
  refine lk (v := .int .i64 (ckE a b)) rfl rfl rfl ?_
  refine plD ?_
  refine then_normal (hK42 _ _ ?_)
  refine wpPrune [(1, .slice A2 T.length c2), (4, .pointer (some ⟨g2, 0, none⟩)), (8, .bool false), (9, .int .i64 (ckE a b)), (10, .slice A15 l.length c16)] ⟨litGet (by kernel_rfl), ⟨litGet (by kernel_rfl), ⟨litGet (by kernel_rfl), ⟨litGet (by kernel_rfl), ⟨litGet (by kernel_rfl), trivial⟩⟩⟩⟩⟩ (fun X43 => ?_)
  refine wp_ret ?_
  refine then_ret ?_
  refine bodyPost_ret (v := .tuple #[.bool false, .int .i64 (ckE a b)]) (gRes2 rfl (gResTmp (t := 8) (v := .bool false) (litGet (by kernel_rfl))) (gResTmp (t := 9) (v := .int .i64 (ckE a b)) (litGet (by kernel_rfl)))) rfl ?_
  exact ⟨congrArg Ending.returned (by unfold visR; rw [if_neg h19]), hm13.bel⟩
end Go.Proofs.Ytopdcdjmiepdfaa
