/-
  MH: several texts in one. No statement is proved here.
-/
import Derived.Test.YtgjgjimgomhbmaaDoorMG
import Derived.Test.YtgjgjimgomhbmaaDoorMF
import Derived.Test.YtgjgjimgomhbmaaDoorME
set_option linter.unusedVariables false
set_option linter.unusedSimpArgs false
namespace Go.Proofs.YtgjgjimgomhbmaaDoor
open Go.RowKit
set_option linter.unusedVariables false
set_option linter.unusedSimpArgs false
theorem AllAt.sub {l m : List Lv} {w : World} (h : AllAt l w) (s : m.Sublist l) : AllAt m w := fun v hv => h v (s.subset hv)
theorem NewT.sub {B : Nat} {l m : List Lv} {S' : Option Addr} (h : NewA B S') (s : m.Sublist l) : NewT B l m S' := ⟨h, fun v hv => Or.inl ⟨v, s.subset hv, rfl, rfl, rfl⟩⟩
theorem vrs_num (l : List Lv) : (vrs l).map (·.num) = l.map (·.num) := by unfold vrs; rw [List.map_map]; rfl
theorem coll_kept (l : List Lv) (nx keep : Int) : vrs (selG l.length keep true 0 l) = (collV (vrs l) nx keep).1 := by
  rw [selG_vrs]; unfold collV; rw [vrs_len]
theorem coll_gone (l : List Lv) (nx keep : Int) : (selG l.length keep false 0 l).map (·.num) = (collV (vrs l) nx keep).2.2 := by
  rw [← vrs_num, selG_vrs]; unfold collV; rw [vrs_len]
theorem ics_push {X : List Value} {l : List Int} (h : X = ics l) (n : Int) : X ++ ([.int .i64 n] : List Value) = ics (l ++ [n]) := by
  subst h; unfold ics; rw [List.map_append]; rfl
theorem take_num {l : List Lv} {k : Nat} {v : Lv} (h : l[k]? = some v) : (l.take k).map (·.num) ++ [v.num] = (l.take (k + 1)).map (·.num) := by
  rw [List.take_add_one, h]; simp
theorem lvs_push {X : List Value} {l : List Lv} (h : X = lvs l) (v : Lv) : X ++ lvc v = lvs (l ++ [v]) := by
  subst h; rw [lvs_app]; show _ = lvs l ++ (lvc v ++ []); rw [List.append_nil]
theorem selG_len (n : Nat) (keep : Int) (b : Bool) (l : List Lv) : (selG n keep b 0 l).length ≤ l.length := (selG_sub n keep b 0 l).length_le
theorem Mem.newRd2 {w0 w w' : World} {L : List Res} {A B : Option Addr} {size n c size2 m d : Nat} {xs ys : List Value} (h : Mem w0 w L) (b : Below w.heap.size w w') (hr : Rd w' w'.heap.size size A n c xs) (hn : NewA w.heap.size A) (hr2 : Rd w' w'.heap.size size2 B m d ys) (hn2 : NewA w.heap.size B) : Mem w0 w' (L ++ [.rd A size n c xs, .rd B size2 m d ys]) := by
  have h1 := h.newRd b hr hn
  have h2 := h.newRd b hr2 hn2
  refine ⟨h1.bel, fun r hr => ?_, ?_⟩
  · rcases List.mem_append.1 hr with hr | hr
    · exact h1.each r (List.mem_append_left _ hr)
    · simp at hr
      rcases hr with rfl | rfl
      · exact h1.each _ (List.mem_append_right _ (by simp))
      · exact h2.each _ (List.mem_append_right _ (by simp))
  · refine List.pairwise_append.2 ⟨h.apart, ?_, fun r hr s hs => ?_⟩
    · refine List.pairwise_pair.2 (Or.inl ⟨rfl, rfl⟩)
    · simp at hs
      rcases hs with rfl | rfl
      · exact (List.pairwise_append.1 h1.apart).2.2 r hr _ (by simp)
      · exact (List.pairwise_append.1 h2.apart).2.2 r hr _ (by simp)
set_option maxRecDepth 100000 in
set_option maxHeartbeats 4000000 in
theorem coll1_any (l : List Lv) (S : Option Addr) (cS : Nat) (nx : Int) (keep : Int) (hkeep : -9223372036854775808 ≤ keep ∧ keep ≤ 9223372036854775807) (k : Nat) (hk : k ≤ l.length) (hl : l.length ≤ 1000) (v : Lv) (g g2 : Nat) (w : World) (hg : Rd w w.heap.size 2 (some ⟨g, 0, none⟩) 1 1 (tbs (.slice S l.length cS) nx)) (hg2 : Rd w w.heap.size 1 (some ⟨g2, 0, none⟩) 1 1 [.int .i64 keep]) : Calls Tryd.prog 65 #[.int .i64 (k : Int), .agg (lvc v).toArray, .pointer (some ⟨g, 0 + 0 * 2, none⟩), .pointer (some ⟨g2, 0 + 0 * 1, none⟩)] w (RetV w (.bool (kpV l.length keep k v.pins))) := by
 have hm0 := Mem.nil w
 go_enter Tryd.func65, Tryd.ntmps65
 refine litStart 19 [(0, .int .i64 (k : Int)), (1, .agg (lvc v).toArray), (2, .pointer (some ⟨g, 0 + 0 * 2, none⟩)), (3, .pointer (some ⟨g2, 0 + 0 * 1, none⟩))] (by kernel_rfl) (fun X0 => ?_)
 refine wp_seq_k fun K1 hK1 => ?_
 refine plStart ?_
 refine plBox hm0 (cs := lvc v) (i := 0) rfl (wn rfl) rfl (litEv (by kernel_rfl)) ?_
 intro g2 w4 hm3
 clear hm0
 try simp only [List.cons_append, List.nil_append, List.set_cons_succ, List.set_cons_zero] at hm3
 refine qP rfl ?_
 refine lk (v := .bool false) rfl rfl rfl ?_
 refine plD ?_
 refine then_normal (hK1 _ _ ?_)
 refine wp_seq_k fun K5 hK5 => ?_
 refine plStart ?_
 refine lk (v := .pointer (some ⟨g2, 1, none⟩)) rfl rfl rfl ?_
 refine litVal (v := .int .i64 v.pins) rfl (wn rfl) (gLoad (v := .int .i64 v.pins) (k := 1) 0 hm3 rfl (by kernel_rfl) (.tmp 7) (by kernel_rfl) rfl (litEv (by kernel_rfl))) rfl (by decide) ?_
 by_cases h6 : 0 < v.pins
 · refine litVal (v := .bool true) rfl (wn rfl) (boolTo (decide_eq_true h6) (gtrRun (A := v.pins) (B := 0) (.tmp 8) (.const (.int .i64 0)) rfl (litEv (by kernel_rfl)) (litEv (by kernel_rfl)))) rfl (by decide) ?_
   refine lk (v := .bool true) rfl rfl rfl ?_
   refine plSkip (i := 4) rfl (wgN rfl rfl rfl (by decide) (by kernel_rfl)) ?_
   refine qP rfl ?_
   refine plSkip (i := 5) rfl (wgN rfl rfl rfl (by decide) (by kernel_rfl)) ?_
   refine qP rfl ?_
   refine plSkip (i := 6) rfl (wgN rfl rfl rfl (by decide) (by kernel_rfl)) ?_
   refine qP rfl ?_
   refine plSkip (i := 7) rfl (wgN rfl rfl rfl (by decide) (by kernel_rfl)) ?_
   refine qP rfl ?_
   refine plSkip (i := 8) rfl (wgN rfl rfl rfl (by decide) (by kernel_rfl)) ?_
   refine qP rfl ?_
   refine plSkip (i := 9) rfl (wgN rfl rfl rfl (by decide) (by kernel_rfl)) ?_
   refine qP rfl ?_
   refine plSkip (i := 10) rfl (wgN rfl rfl rfl (by decide) (by kernel_rfl)) ?_
   refine qP rfl ?_
   refine lk (v := .bool true) rfl rfl rfl ?_
   refine lk (v := .bool true) rfl rfl rfl ?_
   refine plD ?_
   refine then_normal (hK5 _ _ ?_)
   refine wpPrune [(6, .bool true)] ⟨litGet (by kernel_rfl), trivial⟩ (fun X7 => ?_)
   refine wp_ret ?_
   refine bodyPost_ret (v := .bool true) (gRes1 rfl (gResTmp (t := 6) (v := .bool true) (litGet (by kernel_rfl)))) rfl ?_
   exact ⟨congrArg (fun b_ => Ending.returned (.bool b_)) (show true = kpV l.length keep k v.pins from (decide_eq_true (by omega)).symm), hm3.bel⟩
 refine litVal (v := .bool false) rfl (wn rfl) (boolTo (decide_eq_false h6) (gtrRun (A := v.pins) (B := 0) (.tmp 8) (.const (.int .i64 0)) rfl (litEv (by kernel_rfl)) (litEv (by kernel_rfl)))) rfl (by decide) ?_
 refine lk (v := .bool false) rfl rfl rfl ?_
 refine litVal (v := .pointer (some ⟨g, 0 + 0 * 2, none⟩)) rfl (wgY rfl rfl rfl (by decide) (by kernel_rfl)) (litRun (by kernel_rfl)) rfl (by decide) ?_
 refine litVal (v := .slice S l.length cS) rfl (wgY rfl rfl rfl (by decide) (by kernel_rfl)) (gLoadRd (v := .slice S l.length cS) (m := 0 * 2) ((Rd.below hg hm3.bel).more hm3.bel.size) rfl (rfl) (by decide) (.tmp 11) (by kernel_rfl) rfl (litEv (by kernel_rfl))) rfl (by decide) ?_
 refine litVal (v := .int .i64 (l.length : Int)) rfl (wgY rfl rfl rfl (by decide) (by kernel_rfl)) (lenSlRun (A := S) (n := l.length) (c := cS) (.tmp 12) Ty.und_L_api_Version rfl (litEv (by kernel_rfl))) rfl (by decide) ?_
 refine litVal (v := .int .i64 (k : Int)) rfl (wgY rfl rfl rfl (by decide) (by kernel_rfl)) (litRun (by kernel_rfl)) rfl (by decide) ?_
 refine litVal (v := .int .i64 ((l.length : Int) - (k : Int))) rfl (wgY rfl rfl rfl (by decide) (by kernel_rfl)) (subRun (A := (l.length : Int)) (B := (k : Int)) (C := (l.length : Int) - (k : Int)) (.tmp 13) (.tmp 14) rfl (litEv (by kernel_rfl)) (litEv (by kernel_rfl)) rfl (by omega)) rfl (by decide) ?_
 refine litVal (v := .int .i64 keep) rfl (wgY rfl rfl rfl (by decide) (by kernel_rfl)) (gLoadRd (v := .int .i64 keep) (m := 0 * 1) ((Rd.below hg2 hm3.bel).more hm3.bel.size) rfl (rfl) (by decide) (.tmp 3) (by kernel_rfl) rfl (litEv (by kernel_rfl))) rfl (by decide) ?_
 by_cases h8 : ((l.length : Int) - (k : Int)) ≤ keep
 · refine litVal (v := .bool true) rfl (wgY rfl rfl rfl (by decide) (by kernel_rfl)) (boolTo (decide_eq_true h8) (leqRun (A := ((l.length : Int) - (k : Int))) (B := keep) (.tmp 15) (.tmp 16) rfl (litEv (by kernel_rfl)) (litEv (by kernel_rfl)))) rfl (by decide) ?_
   refine lk (v := .bool true) rfl rfl rfl ?_
   refine lk (v := .bool true) rfl rfl rfl ?_
   refine plD ?_
   refine then_normal (hK5 _ _ ?_)
   refine wpPrune [(6, .bool true)] ⟨litGet (by kernel_rfl), trivial⟩ (fun X9 => ?_)
   refine wp_ret ?_
   refine bodyPost_ret (v := .bool true) (gRes1 rfl (gResTmp (t := 6) (v := .bool true) (litGet (by kernel_rfl)))) rfl ?_
   exact ⟨congrArg (fun b_ => Ending.returned (.bool b_)) (show true = kpV l.length keep k v.pins from (decide_eq_true (by omega)).symm), hm3.bel⟩
 refine litVal (v := .bool false) rfl (wgY rfl rfl rfl (by decide) (by kernel_rfl)) (boolTo (decide_eq_false h8) (leqRun (A := ((l.length : Int) - (k : Int))) (B := keep) (.tmp 15) (.tmp 16) rfl (litEv (by kernel_rfl)) (litEv (by kernel_rfl)))) rfl (by decide) ?_
 refine lk (v := .bool false) rfl rfl rfl ?_
 refine lk (v := .bool false) rfl rfl rfl ?_
 refine plD ?_
 refine then_normal (hK5 _ _ ?_)
 refine wpPrune [(6, .bool false)] ⟨litGet (by kernel_rfl), trivial⟩ (fun X10 => ?_)
 refine wp_ret ?_
 refine bodyPost_ret (v := .bool false) (gRes1 rfl (gResTmp (t := 6) (v := .bool false) (litGet (by kernel_rfl)))) rfl ?_
 exact ⟨congrArg (fun b_ => Ending.returned (.bool b_)) (show false = kpV l.length keep k v.pins from (decide_eq_false (by omega)).symm), hm3.bel⟩
set_option maxRecDepth 100000 in
set_option maxHeartbeats 4000000 in
theorem split_any (l : List Lv) (S : Option Addr) (cS : Nat) (nx : Int) (keep : Int) (hkeep : -9223372036854775808 ≤ keep ∧ keep ≤ 9223372036854775807) (g g2 : Nat) (w : World) (hS : Rd w w.heap.size 6 S l.length cS (lvs l)) (hl : l.length ≤ 1000) (hg : Rd w w.heap.size 2 (some ⟨g, 0, none⟩) 1 1 (tbs (.slice S l.length cS) nx)) (hg2 : Rd w w.heap.size 1 (some ⟨g2, 0, none⟩) 1 1 [.int .i64 keep]) : Calls Tryd.prog 64 #[.slice S l.length cS, .func (.func 65) #[] #[.pointer (some ⟨g, 0, none⟩), .pointer (some ⟨g2, 0, none⟩)]] w (fun e w' => ∃ (ya na : List Lv) (A1 : Option Addr) (c1 : Nat) (A2 : Option Addr) (c2 : Nat), ya = selG l.length keep true 0 l ∧ na = selG l.length keep false 0 l ∧ e = .returned (.tuple #[.slice A1 ya.length c1, .slice A2 na.length c2]) ∧ Rd w' w'.heap.size 6 A1 ya.length c1 (lvs ya) ∧ Rd w' w'.heap.size 6 A2 na.length c2 (lvs na) ∧ NewA w.heap.size A1 ∧ NewA w.heap.size A2 ∧ Below w.heap.size w w') := by
 have hm0 := Mem.nil w
 go_enter Tryd.func64, Tryd.ntmps64
 refine litStart 30 [(0, .slice S l.length cS), (1, .func (.func 65) #[] #[.pointer (some ⟨g, 0, none⟩), .pointer (some ⟨g2, 0, none⟩)])] (by kernel_rfl) (fun X0 => ?_)
 refine wp_seq_k fun K1 hK1 => ?_
 refine plStart ?_
 refine lk (v := .slice none 0 0) rfl rfl rfl ?_
 refine lk (v := .slice none 0 0) rfl rfl rfl ?_
 refine plD ?_
 refine then_normal (hK1 _ _ ?_)
 refine wp_seq_k fun K2 hK2 => ?_
 refine wp_seq_k fun K3 hK3 => ?_
 refine plStart ?_
 refine lk (v := .slice S l.length cS) rfl rfl rfl ?_
 refine litVal (v := .int .i64 (l.length : Int)) rfl (wn rfl) (lenSlRun (A := S) (n := l.length) (c := cS) (.tmp 8) Ty.und_L_api_Version rfl (litEv (by kernel_rfl))) rfl (by decide) ?_
 refine lk (v := .int .i64 0) rfl rfl rfl ?_
 refine plD ?_
 refine then_normal (hK3 _ _ ?_)
 refine wp_block ?_
 refine gwLoop (fun n_ a_ w_ => ∃ (k : Nat) (ya na : List Lv) (A1 A2 : Option Addr) (c1 c2 : Nat), n_ = l.length - k ∧ (k ≤ l.length) ∧ (ya ++ selG l.length keep true k (l.drop k) = selG l.length keep true 0 l) ∧ (na ++ selG l.length keep false k (l.drop k) = selG l.length keep false 0 l) ∧ (ya.length ≤ k ∧ na.length ≤ k) ∧ Fr a_ 30 [(1, .func (.func 65) #[] #[.pointer (some ⟨g, 0, none⟩), .pointer (some ⟨g2, 0, none⟩)]), (4, .slice A1 ya.length c1), (5, .slice A2 na.length c2), (8, .slice S l.length cS), (9, .int .i64 (l.length : Int)), (10, .int .i64 (k : Int))] ∧ Mem w w_ [.row (.slice A1 ya.length c1) 78 6 ya.length (lvs ya), .row (.slice A2 na.length c2) 78 6 na.length (lvs na)]) (l.length - 0) ⟨0, [], [], none, none, 0, 0, rfl, (Nat.zero_le _), rfl, rfl, ⟨Nat.zero_le _, Nat.zero_le _⟩, ⟨litSize, rfl, ⟨litGet (by kernel_rfl), ⟨litGet (by kernel_rfl), ⟨litGet (by kernel_rfl), ⟨litGet (by kernel_rfl), ⟨litGet (by kernel_rfl), ⟨litGet (by kernel_rfl), trivial⟩⟩⟩⟩⟩⟩⟩, ((hm0.nilRow 78 6).nilRow 78 6)⟩ ?_
 clear hm0
 intro n_ a6 w4 hI_
 obtain ⟨k, ya, na, A1, A2, c1, c2, rfl, hk, hy, hn, hlen_, hF_, hm5⟩ := hI_
 obtain ⟨X7, rfl⟩ := frLit hF_
 clear hF_
 refine wp_seq_k fun K8 hK8 => ?_
 refine plStart ?_
 by_cases h9 : (k : Int) < (l.length : Int)
 · obtain ⟨v, hkv⟩ : ∃ v, l[k]? = some v := ⟨_, List.getElem?_eq_getElem (by omega)⟩
   obtain ⟨bS_, oS_, rfl, _, _⟩ := hS.cells (by omega)
   refine litVal (v := .bool true) rfl (wn rfl) (boolTo (decide_eq_true h9) (lssRun (A := (k : Int)) (B := (l.length : Int)) (.tmp 10) (.tmp 9) rfl (litEv (by kernel_rfl)) (litEv (by kernel_rfl)))) rfl (by decide) ?_
   refine plD ?_
   refine then_normal (hK8 _ _ ?_)
   refine wp_seq_k fun K10 hK10 => ?_
   refine wp_cond_true (litEv (by kernel_rfl)) ?_
   refine wp_skip ?_
   refine then_normal (hK10 _ _ ?_)
   refine wp_seq_k fun K11 hK11 => ?_
   refine wp_block ?_
   refine wp_seq_k fun K12 hK12 => ?_
   refine plStart ?_
   refine lk (v := .int .i64 (k : Int)) rfl rfl rfl ?_
   refine litVal (v := .pointer (some ⟨bS_, oS_ + k * 6, none⟩)) rfl (wn rfl) (gIaSl (b := bS_) (off := oS_) (n := l.length) (c := cS) (kk := .i64) (K := (k : Int)) (.tmp 8) (.tmp 10) k Ty.sl_L_api_Version rfl (litEv (by kernel_rfl)) (litEv (by kernel_rfl)) (rfl) (by omega)) rfl (by decide) ?_
   refine litVal (v := .agg (lvc v).toArray) rfl (wn rfl) (gLoadAgRd (vs := lvc v) (m := k * 6) ((Rd.below hS hm5.bel).more hm5.bel.size) rfl (fun i_ u_ hu_ => lvs_get hkv i_ u_ hu_) (by kernel_rfl) (by omega) (.tmp 13) Ty.ag_voxel_api_Version rfl (litEv (by kernel_rfl))) rfl (by decide) ?_
   refine plAlloc (z := [.int .i64 0, .int .i64 0, .int .i64 0, .slice none 0 0, .int .i64 0, .slice none 0 0]) Ty.ag_voxel_api_Version hm5 (i := 3) rfl (wn rfl) rfl ?_
   intro g13 w15 hm14
   clear hm5
   try simp only [List.cons_append, List.nil_append, List.set_cons_succ, List.set_cons_zero] at hm14
   refine qP rfl ?_
   refine lk (v := .int .i64 (k : Int)) rfl rfl rfl ?_
   refine plStore 2 Ty.ag_voxel_api_Version hm14 rfl (i := 5) (cs := lvc v) rfl (wn rfl) rfl (litEv (by kernel_rfl)) (litEv (by kernel_rfl)) rfl rfl (by kernel_rfl) ?_
   intro w17 hm16
   clear hm14
   try simp only [List.cons_append, List.nil_append, List.set_cons_succ, List.set_cons_zero] at hm16
   refine qNone rfl ?_
   refine plD ?_
   refine then_normal (hK12 _ _ ?_)
   refine wp_seq_k fun K18 hK18 => ?_
   refine plStart ?_
   refine lk (v := .func (.func 65) #[] #[.pointer (some ⟨g, 0, none⟩), .pointer (some ⟨g2, 0, none⟩)]) rfl rfl rfl ?_
   refine lk (v := .int .i64 (k : Int)) rfl rfl rfl ?_
   refine litVal (v := .agg (lvc v).toArray) rfl (wn rfl) (gLoadAg (vs := lvc v) (k := 0) 2 hm16 rfl (by kernel_rfl) (by kernel_rfl) (.tmp 7) Ty.ag_voxel_api_Version rfl (litEv (by kernel_rfl))) rfl (by decide) ?_
   refine plCall (i := 3) 65 [.int .i64 (k : Int), .agg (lvc v).toArray] [] [.pointer (some ⟨g, 0, none⟩), .pointer (some ⟨g2, 0, none⟩)] rfl (by kernel_rfl) (wn rfl) rfl (litEv (by kernel_rfl)) (litArgs (by kernel_rfl)) (coll1_any l _ cS nx keep hkeep k (by omega) hl v g g2 _ ((Rd.below hg hm16.bel).more hm16.bel.size) ((Rd.below hg2 hm16.bel).more hm16.bel.size)) ?_
   rintro e w19 ⟨rfl, hbz⟩
   have hm20 := hm16.below hbz
   clear hbz hm16
   refine ⟨_, rfl, ?_⟩
   refine qP rfl ?_
   rcases bool_or (kpV l.length keep k v.pins) with h21 | h21
   · rw [h21]
     refine plD ?_
     refine then_normal (hK18 _ _ ?_)
     refine wp_cond_false (litEv (by kernel_rfl)) ?_
     refine plStart ?_
     refine lk (v := .slice A2 na.length c2) rfl rfl rfl ?_
     refine litVal (v := .agg (lvc v).toArray) rfl (wn rfl) (gLoadAg (vs := lvc v) (k := 0) 2 hm20 rfl (by kernel_rfl) (by kernel_rfl) (.tmp 7) Ty.ag_voxel_api_Version rfl (litEv (by kernel_rfl))) rfl (by decide) ?_
     refine plLit (cs := [.int .i64 v.num, .int .i64 v.pins, .int .i64 v.h.tick, .slice v.A v.h.counts.length v.c, .int .i64 v.h.depth, .slice v.B v.h.rn v.d]) (n := 1) Ty.sl_L_api_Version hm20 (i := 2) rfl (wn rfl) rfl (by decide) (by decide) (by rw [lit_eval]; kernel_rfl) ?_
     intro g22 w24 hm23
     clear hm20
     try simp only [List.cons_append, List.nil_append, List.set_cons_succ, List.set_cons_zero] at hm23
     refine qP rfl ?_
     refine plApp1 (v := .slice A2 na.length c2) (n := na.length) (xs := lvs na) (ys := [.int .i64 v.num, .int .i64 v.pins, .int .i64 v.h.tick, .slice v.A v.h.counts.length v.c, .int .i64 v.h.depth, .slice v.B v.h.rn v.d]) 1 3 Ty.sl_L_api_Version hm23 rfl rfl (i := 3) rfl (wn rfl) rfl (litEv (by kernel_rfl)) (litEv (by kernel_rfl)) (by kernel_rfl) (by kernel_rfl) (by omega) (by omega) ?_
     intro v29 w26 hm25
     clear hm23
     try simp only [List.cons_append, List.nil_append, List.set_cons_succ, List.set_cons_zero] at hm25
     replace hm25 := Mem.rowEq (v := v29) (e := 78) (size := 6) (n := na.length + 1) (n' := (na ++ [v]).length) (xs := (lvs na) ++ ([.int .i64 v.num, .int .i64 v.pins, .int .i64 v.h.tick, .slice v.A v.h.counts.length v.c, .int .i64 v.h.depth, .slice v.B v.h.rn v.d])) (xs' := lvs (na ++ [v])) 1 hm25 rfl (by rw [List.length_append]; rfl) (lvs_push rfl v)
     try simp only [List.cons_append, List.nil_append, List.set_cons_succ, List.set_cons_zero] at hm25
     obtain ⟨A27, c28, rfl⟩ := Mem.rowSl (v := v29) (e := 78) (size := 6) (n := (na ++ [v]).length) (xs := lvs (na ++ [v])) 1 hm25 rfl
     refine qP rfl ?_
     refine lk (v := .slice A27 ((na ++ [v]).length) c28) rfl rfl rfl ?_
     refine plD ?_
     refine inBlock_normal ?_
     refine then_normal (hK11 _ _ ?_)
     refine plStart ?_
     refine litVal (v := .int .i64 ((k : Int) + 1)) rfl (wn rfl) (addRun (A := (k : Int)) (B := 1) (C := (k : Int) + 1) (.tmp 10) (.const (.int .i64 1)) rfl (litEv (by kernel_rfl)) (litEv (by kernel_rfl)) rfl (by omega)) rfl (by decide) ?_
     refine lk (v := .int .i64 ((k : Int) + 1)) rfl rfl rfl ?_
     refine plD ?_
     refine then_normal ?_
     exact ⟨_, by omega, (k + 1), ya, (na ++ [v]), A1, A27, c1, c28, rfl, (by omega), (sel_no hkv hy (by rw [h21]; decide)), (sel_yes hkv hn h21), ⟨by omega, by rw [List.length_append]; show na.length + 1 ≤ _; omega⟩, ⟨litSize, rfl, ⟨litGet (by kernel_rfl), ⟨litGet (by kernel_rfl), ⟨litGet (by kernel_rfl), ⟨litGet (by kernel_rfl), ⟨litGet (by kernel_rfl), ⟨litGet (by kernel_rfl), trivial⟩⟩⟩⟩⟩⟩⟩, (hm25.sub (.cons_cons _ (.cons_cons _ (.cons _ (.cons _ .slnil)))))⟩
   rw [h21]
   refine plD ?_
   refine then_normal (hK18 _ _ ?_)
   refine wp_cond_true (litEv (by kernel_rfl)) ?_
   refine plStart ?_
   refine lk (v := .slice A1 ya.length c1) rfl rfl rfl ?_
   refine litVal (v := .agg (lvc v).toArray) rfl (wn rfl) (gLoadAg (vs := lvc v) (k := 0) 2 hm20 rfl (by kernel_rfl) (by kernel_rfl) (.tmp 7) Ty.ag_voxel_api_Version rfl (litEv (by kernel_rfl))) rfl (by decide) ?_
   refine plLit (cs := [.int .i64 v.num, .int .i64 v.pins, .int .i64 v.h.tick, .slice v.A v.h.counts.length v.c, .int .i64 v.h.depth, .slice v.B v.h.rn v.d]) (n := 1) Ty.sl_L_api_Version hm20 (i := 2) rfl (wn rfl) rfl (by decide) (by decide) (by rw [lit_eval]; kernel_rfl) ?_
   intro g30 w32 hm31
   clear hm20
   try simp only [List.cons_append, List.nil_append, List.set_cons_succ, List.set_cons_zero] at hm31
   refine qP rfl ?_
   refine plApp1 (v := .slice A1 ya.length c1) (n := ya.length) (xs := lvs ya) (ys := [.int .i64 v.num, .int .i64 v.pins, .int .i64 v.h.tick, .slice v.A v.h.counts.length v.c, .int .i64 v.h.depth, .slice v.B v.h.rn v.d]) 0 3 Ty.sl_L_api_Version hm31 rfl rfl (i := 3) rfl (wn rfl) rfl (litEv (by kernel_rfl)) (litEv (by kernel_rfl)) (by kernel_rfl) (by kernel_rfl) (by omega) (by omega) ?_
   intro v37 w34 hm33
   clear hm31
   try simp only [List.cons_append, List.nil_append, List.set_cons_succ, List.set_cons_zero] at hm33
   replace hm33 := Mem.rowEq (v := v37) (e := 78) (size := 6) (n := ya.length + 1) (n' := (ya ++ [v]).length) (xs := (lvs ya) ++ ([.int .i64 v.num, .int .i64 v.pins, .int .i64 v.h.tick, .slice v.A v.h.counts.length v.c, .int .i64 v.h.depth, .slice v.B v.h.rn v.d])) (xs' := lvs (ya ++ [v])) 0 hm33 rfl (by rw [List.length_append]; rfl) (lvs_push rfl v)
   try simp only [List.cons_append, List.nil_append, List.set_cons_succ, List.set_cons_zero] at hm33
   obtain ⟨A35, c36, rfl⟩ := Mem.rowSl (v := v37) (e := 78) (size := 6) (n := (ya ++ [v]).length) (xs := lvs (ya ++ [v])) 0 hm33 rfl
   refine qP rfl ?_
   refine lk (v := .slice A35 ((ya ++ [v]).length) c36) rfl rfl rfl ?_
   refine plD ?_
   refine inBlock_normal ?_
   refine then_normal (hK11 _ _ ?_)
   refine plStart ?_
   refine litVal (v := .int .i64 ((k : Int) + 1)) rfl (wn rfl) (addRun (A := (k : Int)) (B := 1) (C := (k : Int) + 1) (.tmp 10) (.const (.int .i64 1)) rfl (litEv (by kernel_rfl)) (litEv (by kernel_rfl)) rfl (by omega)) rfl (by decide) ?_
   refine lk (v := .int .i64 ((k : Int) + 1)) rfl rfl rfl ?_
   refine plD ?_
   refine then_normal ?_
   exact ⟨_, by omega, (k + 1), (ya ++ [v]), na, A35, A2, c36, c2, rfl, (by omega), (sel_yes hkv hy h21), (sel_no hkv hn (by rw [h21]; decide)), ⟨by rw [List.length_append]; show ya.length + 1 ≤ _; omega, by omega⟩, ⟨litSize, rfl, ⟨litGet (by kernel_rfl), ⟨litGet (by kernel_rfl), ⟨litGet (by kernel_rfl), ⟨litGet (by kernel_rfl), ⟨litGet (by kernel_rfl), ⟨litGet (by kernel_rfl), trivial⟩⟩⟩⟩⟩⟩⟩, (hm33.sub (.cons_cons _ (.cons_cons _ (.cons _ (.cons _ .slnil)))))⟩
 refine litVal (v := .bool false) rfl (wn rfl) (boolTo (decide_eq_false h9) (lssRun (A := (k : Int)) (B := (l.length : Int)) (.tmp 10) (.tmp 9) rfl (litEv (by kernel_rfl)) (litEv (by kernel_rfl)))) rfl (by decide) ?_
 refine plD ?_
 refine then_normal (hK8 _ _ ?_)
 refine wp_seq_k fun K38 hK38 => ?_
 refine wp_cond_false (litEv (by kernel_rfl)) ?_
 refine wp_exit ?_
 refine then_exit ?_
 refine then_exit ?_
 refine inBlock_exit ?_
 refine then_normal (hK2 _ _ ?_)
 refine wp_seq_k fun K39 hK39 => ?_
 refine plStart ?_
 refine lk (v := .slice A1 ya.length c1) rfl rfl rfl ?_
 refine lk (v := .slice A2 na.length c2) rfl rfl rfl ?_
 refine lk (v := .slice A1 ya.length c1) rfl rfl rfl ?_
 refine lk (v := .slice A2 na.length c2) rfl rfl rfl ?_
 refine plD ?_
 refine then_normal (hK39 _ _ ?_)
 refine wp_ret ?_
 refine bodyPost_ret (v := .tuple #[.slice A1 ya.length c1, .slice A2 na.length c2]) (gRes2 rfl (gResTmp (t := 4) (v := .slice A1 ya.length c1) (litGet (by kernel_rfl))) (gResTmp (t := 5) (v := .slice A2 na.length c2) (litGet (by kernel_rfl)))) rfl ?_
 have hy_ := sel_end (by omega) hy
 have hn_ := sel_end (by omega) hn
 exact ⟨ya, na, A1, c1, A2, c2, hy_, hn_, rfl, hm5.rdRow 0 rfl, hm5.rdRow 1 rfl, own_new (hm5.row 0 rfl), own_new (hm5.row 1 rfl), hm5.bel⟩
set_option maxRecDepth 100000 in
set_option maxHeartbeats 4000000 in
theorem collect_any (l : List Lv) (S : Option Addr) (cS : Nat) (nx : Int) (keep : Int) (hkeep : -9223372036854775808 ≤ keep ∧ keep ≤ 9223372036854775807) (w : World) (hT : TbAt w l S cS) (hl : l.length ≤ 1000) : Calls Tryd.prog 33 #[.agg (tbs (.slice S l.length cS) nx).toArray, .int .i64 keep] w (fun e w' => ∃ l' S' c' A c, e = .returned (.tuple #[.agg (tbs (.slice S' l'.length c') (collV (vrs l) nx keep).2.1).toArray, .slice A (collV (vrs l) nx keep).2.2.length c]) ∧ vrs l' = (collV (vrs l) nx keep).1 ∧ Rd w' w'.heap.size 1 A (collV (vrs l) nx keep).2.2.length c (ics (collV (vrs l) nx keep).2.2) ∧ NewA w.heap.size A ∧ TbAt w' l' S' c' ∧ NewT w.heap.size l l' S' ∧ Below w.heap.size w w') := by
 have hS := hT.rd
 have hall := hT.all
 have hm0 := Mem.nil w
 go_enter Tryd.func33, Tryd.ntmps33
 refine litStart 35 [(0, .agg (tbs (.slice S l.length cS) nx).toArray), (1, .int .i64 keep)] (by kernel_rfl) (fun X0 => ?_)
 refine wp_seq_k fun K1 hK1 => ?_
 refine plStart ?_
 refine plBox hm0 (cs := tbs (.slice S l.length cS) nx) (i := 0) rfl (wn rfl) rfl (litEv (by kernel_rfl)) ?_
 intro g2 w4 hm3
 clear hm0
 try simp only [List.cons_append, List.nil_append, List.set_cons_succ, List.set_cons_zero] at hm3
 refine qP rfl ?_
 refine plBox1 (v := .int .i64 keep) hm3 (i := 1) rfl (wn rfl) rfl (litEv (by kernel_rfl)) rfl ?_
 intro g5 w7 hm6
 clear hm3
 try simp only [List.cons_append, List.nil_append, List.set_cons_succ, List.set_cons_zero] at hm6
 refine qP rfl ?_
 refine plAlloc (z := [.slice none 0 0, .int .i64 0]) Ty.ag_voxel_api_Versions hm6 (i := 2) rfl (wn rfl) rfl ?_
 intro g8 w10 hm9
 clear hm6
 try simp only [List.cons_append, List.nil_append, List.set_cons_succ, List.set_cons_zero] at hm9
 refine qP rfl ?_
 refine lk (v := .slice none 0 0) rfl rfl rfl ?_
 refine plD ?_
 refine then_normal (hK1 _ _ ?_)
 refine wp_seq_k fun K11 hK11 => ?_
 refine plStart ?_
 refine lk (v := .pointer (some ⟨g2, 0, none⟩)) rfl rfl rfl ?_
 refine litVal (v := .slice S l.length cS) rfl (wn rfl) (gLoad (v := .slice S l.length cS) (k := 0) 0 hm9 rfl (by kernel_rfl) (.tmp 12) (by kernel_rfl) rfl (litEv (by kernel_rfl))) rfl (by decide) ?_
 refine lk (v := .func (.func 65) #[] #[.pointer (some ⟨g2, 0, none⟩), .pointer (some ⟨g5, 0, none⟩)]) rfl rfl rfl ?_
 refine plCall (i := 3) 64 [.slice S l.length cS, .func (.func 65) #[] #[.pointer (some ⟨g2, 0, none⟩), .pointer (some ⟨g5, 0, none⟩)]] [] [] rfl (by kernel_rfl) (wn rfl) rfl (litEv (by kernel_rfl)) (litArgs (by kernel_rfl)) (split_any l S cS nx keep hkeep g2 g5 _ ((Rd.below hS hm9.bel).more hm9.bel.size) hl (Rd.of_arr (n := 1) (size := 2) (hm9.arr 0 rfl) rfl (by decide)) (Rd.of_arr (n := 1) (size := 1) (hm9.arr 1 rfl) rfl (by decide))) ?_
 rintro e w12 ⟨ya, na, A1, c1, A2, c2, hy_, hn_, rfl, hr1_, hr2_, hw1_, hw2_, hbz⟩
 have hm13 := hm9.newRd2 hbz hr1_ hw1_ hr2_ hw2_
 replace hw1_ := hw1_.mono hm9.bel.size
 clear hbz hr1_ hr2_ hw2_ hm9
 try simp only [List.cons_append, List.nil_append, List.set_cons_succ, List.set_cons_zero] at hm13
 have hlen1_ := selG_len l.length keep true l
 rw [← hy_] at hlen1_
 have hlen2_ := selG_len l.length keep false l
 rw [← hn_] at hlen2_
 refine ⟨_, rfl, ?_⟩
 refine qP rfl ?_
 refine lk (v := .tuple #[.slice A1 ya.length c1, .slice A2 na.length c2]) rfl rfl rfl ?_
 refine lk (v := .slice A1 ya.length c1) rfl rfl rfl ?_
 refine lk (v := .slice A2 na.length c2) rfl rfl rfl ?_
 refine lk (v := .slice A1 ya.length c1) rfl rfl rfl ?_
 refine lk (v := .slice A2 na.length c2) rfl rfl rfl ?_
 refine plD ?_
 refine then_normal (hK11 _ _ ?_)
 refine wp_seq_k fun K14 hK14 => ?_
 refine plStart ?_
 refine lk (v := .slice none 0 0) rfl rfl rfl ?_
 refine plD ?_
 refine then_normal (hK14 _ _ ?_)
 refine wp_seq_k fun K15 hK15 => ?_
 refine wp_seq_k fun K16 hK16 => ?_
 refine plStart ?_
 refine lk (v := .slice A2 na.length c2) rfl rfl rfl ?_
 refine litVal (v := .int .i64 (na.length : Int)) rfl (wn rfl) (lenSlRun (A := A2) (n := na.length) (c := c2) (.tmp 18) Ty.und_L_api_Version rfl (litEv (by kernel_rfl))) rfl (by decide) ?_
 refine lk (v := .int .i64 0) rfl rfl rfl ?_
 refine plD ?_
 refine then_normal (hK16 _ _ ?_)
 refine wp_block ?_
 refine gwLoop (fun n_ a_ w_ => ∃ (k : Nat) (A3 : Option Addr) (c3 : Nat) (X3 : List Value), n_ = na.length - k ∧ (k ≤ na.length) ∧ (X3 = ics ((na.take k).map (·.num))) ∧ Fr a_ 35 [(2, .pointer (some ⟨g2, 0, none⟩)), (4, .pointer (some ⟨g8, 0, none⟩)), (5, .slice none 0 0), (6, .slice A1 ya.length c1), (8, .slice A3 k c3), (18, .slice A2 na.length c2), (19, .int .i64 (na.length : Int)), (20, .int .i64 (k : Int))] ∧ Mem w w_ [.arr g2 44 (tbs (.slice S l.length cS) nx), .arr g5 3 ([.int .i64 keep]), .arr g8 44 ([.slice none 0 0, .int .i64 0]), .rd A1 6 ya.length c1 (lvs ya), .rd A2 6 na.length c2 (lvs na), .row (.slice A3 k c3) 3 1 k X3]) (na.length - 0) ⟨0, none, 0, [], rfl, (Nat.zero_le _), rfl, ⟨litSize, rfl, ⟨litGet (by kernel_rfl), ⟨litGet (by kernel_rfl), ⟨litGet (by kernel_rfl), ⟨litGet (by kernel_rfl), ⟨litGet (by kernel_rfl), ⟨litGet (by kernel_rfl), ⟨litGet (by kernel_rfl), ⟨litGet (by kernel_rfl), trivial⟩⟩⟩⟩⟩⟩⟩⟩⟩, (hm13.nilRow 3 1)⟩ ?_
 clear hm13
 intro n_ a19 w17 hI_
 obtain ⟨k, A3, c3, X3, rfl, hk, hX3, hF_, hm18⟩ := hI_
 obtain ⟨X20, rfl⟩ := frLit hF_
 clear hF_
 refine wp_seq_k fun K21 hK21 => ?_
 refine plStart ?_
 by_cases h22 : (k : Int) < (na.length : Int)
 · obtain ⟨v, hkv⟩ : ∃ v, na[k]? = some v := ⟨_, List.getElem?_eq_getElem (by omega)⟩
   obtain ⟨b2_, o2_, rfl, _, _⟩ := (hm18.rd 4 rfl).cells (by omega)
   refine litVal (v := .bool true) rfl (wn rfl) (boolTo (decide_eq_true h22) (lssRun (A := (k : Int)) (B := (na.length : Int)) (.tmp 20) (.tmp 19) rfl (litEv (by kernel_rfl)) (litEv (by kernel_rfl)))) rfl (by decide) ?_
   refine plD ?_
   refine then_normal (hK21 _ _ ?_)
   refine wp_seq_k fun K23 hK23 => ?_
   refine wp_cond_true (litEv (by kernel_rfl)) ?_
   refine wp_skip ?_
   refine then_normal (hK23 _ _ ?_)
   refine wp_seq_k fun K24 hK24 => ?_
   refine wp_block ?_
   refine wp_seq_k fun K25 hK25 => ?_
   refine plStart ?_
   refine litVal (v := .pointer (some ⟨b2_, o2_ + k * 6, none⟩)) rfl (wn rfl) (gIaSl (b := b2_) (off := o2_) (n := na.length) (c := c2) (kk := .i64) (K := (k : Int)) (.tmp 18) (.tmp 20) k Ty.sl_L_api_Version rfl (litEv (by kernel_rfl)) (litEv (by kernel_rfl)) (rfl) (by omega)) rfl (by decide) ?_
   refine litVal (v := .agg (lvc v).toArray) rfl (wn rfl) (gLoadAgRd (vs := lvc v) (m := k * 6) (hm18.rd 4 rfl) rfl (fun i_ u_ hu_ => lvs_get hkv i_ u_ hu_) (by kernel_rfl) (by omega) (.tmp 22) Ty.ag_voxel_api_Version rfl (litEv (by kernel_rfl))) rfl (by decide) ?_
   refine plAlloc (z := [.int .i64 0, .int .i64 0, .int .i64 0, .slice none 0 0, .int .i64 0, .slice none 0 0]) Ty.ag_voxel_api_Version hm18 (i := 2) rfl (wn rfl) rfl ?_
   intro g26 w28 hm27
   clear hm18
   try simp only [List.cons_append, List.nil_append, List.set_cons_succ, List.set_cons_zero] at hm27
   refine qP rfl ?_
   refine plStore 6 Ty.ag_voxel_api_Version hm27 rfl (i := 3) (cs := lvc v) rfl (wn rfl) rfl (litEv (by kernel_rfl)) (litEv (by kernel_rfl)) rfl rfl (by kernel_rfl) ?_
   intro w30 hm29
   clear hm27
   try simp only [List.cons_append, List.nil_append, List.set_cons_succ, List.set_cons_zero] at hm29
   refine qNone rfl ?_
   refine plD ?_
   refine then_normal (hK25 _ _ ?_)
   refine plStart ?_
   refine lk (v := .slice A3 k c3) rfl rfl rfl ?_
   refine lk (v := .pointer (some ⟨g26, 0, none⟩)) rfl rfl rfl ?_
   refine litVal (v := .int .i64 v.num) rfl (wn rfl) (gLoad (v := .int .i64 v.num) (k := 0) 6 hm29 rfl (by kernel_rfl) (.tmp 25) (by kernel_rfl) rfl (litEv (by kernel_rfl))) rfl (by decide) ?_
   refine plLit (cs := [.int .i64 v.num]) (n := 1) Ty.sl_L_int hm29 (i := 3) rfl (wn rfl) rfl (by decide) (by decide) (by rw [lit_eval]; kernel_rfl) ?_
   intro g31 w33 hm32
   clear hm29
   try simp only [List.cons_append, List.nil_append, List.set_cons_succ, List.set_cons_zero] at hm32
   refine qP rfl ?_
   refine plApp1 (v := .slice A3 k c3) (n := k) (xs := X3) (ys := [.int .i64 v.num]) 5 7 Ty.sl_L_int hm32 rfl rfl (i := 4) rfl (wn rfl) rfl (litEv (by kernel_rfl)) (litEv (by kernel_rfl)) (by kernel_rfl) (by kernel_rfl) (by omega) (by omega) ?_
   intro v38 w35 hm34
   clear hm32
   try simp only [List.cons_append, List.nil_append, List.set_cons_succ, List.set_cons_zero] at hm34
   obtain ⟨A36, c37, rfl⟩ := Mem.rowSl (v := v38) (e := 3) (size := 1) (n := k + 1) (xs := X3 ++ ([.int .i64 v.num])) 5 hm34 rfl
   refine qP rfl ?_
   refine lk (v := .slice A36 (k + 1) c37) rfl rfl rfl ?_
   refine plD ?_
   refine inBlock_normal ?_
   refine then_normal (hK24 _ _ ?_)
   refine plStart ?_
   refine litVal (v := .int .i64 ((k : Int) + 1)) rfl (wn rfl) (addRun (A := (k : Int)) (B := 1) (C := (k : Int) + 1) (.tmp 20) (.const (.int .i64 1)) rfl (litEv (by kernel_rfl)) (litEv (by kernel_rfl)) rfl (by omega)) rfl (by decide) ?_
   refine lk (v := .int .i64 ((k : Int) + 1)) rfl rfl rfl ?_
   refine plD ?_
   refine then_normal ?_
   exact ⟨_, by omega, (k + 1), A36, c37, _, rfl, (by omega), ((ics_push hX3 v.num).trans (congrArg ics (take_num hkv))), ⟨litSize, rfl, ⟨litGet (by kernel_rfl), ⟨litGet (by kernel_rfl), ⟨litGet (by kernel_rfl), ⟨litGet (by kernel_rfl), ⟨litGet (by kernel_rfl), ⟨litGet (by kernel_rfl), ⟨litGet (by kernel_rfl), ⟨litGet (by kernel_rfl), trivial⟩⟩⟩⟩⟩⟩⟩⟩⟩, (hm34.sub (.cons_cons _ (.cons_cons _ (.cons_cons _ (.cons_cons _ (.cons_cons _ (.cons_cons _ (.cons _ (.cons _ .slnil)))))))))⟩
 refine litVal (v := .bool false) rfl (wn rfl) (boolTo (decide_eq_false h22) (lssRun (A := (k : Int)) (B := (na.length : Int)) (.tmp 20) (.tmp 19) rfl (litEv (by kernel_rfl)) (litEv (by kernel_rfl)))) rfl (by decide) ?_
 refine plD ?_
 refine then_normal (hK21 _ _ ?_)
 refine wp_seq_k fun K39 hK39 => ?_
 refine wp_cond_false (litEv (by kernel_rfl)) ?_
 refine wp_exit ?_
 refine then_exit ?_
 refine then_exit ?_
 refine inBlock_exit ?_
 refine then_normal (hK15 _ _ ?_)
 refine wp_seq_k fun K40 hK40 => ?_
 refine plStart ?_
 refine lk (v := .slice A1 ya.length c1) rfl rfl rfl ?_
 refine lk (v := .pointer (some ⟨g2, 1, none⟩)) rfl rfl rfl ?_
 refine litVal (v := .int .i64 nx) rfl (wn rfl) (gLoad (v := .int .i64 nx) (k := 1) 0 hm18 rfl (by kernel_rfl) (.tmp 31) (by kernel_rfl) rfl (litEv (by kernel_rfl))) rfl (by decide) ?_
 refine lk (v := .agg ([.slice A1 ya.length c1, .int .i64 nx]).toArray) rfl rfl rfl ?_
 refine lk (v := .slice A3 k c3) rfl rfl rfl ?_
 refine plStore 2 Ty.ag_voxel_api_Versions hm18 rfl (i := 5) (cs := [.slice A1 ya.length c1, .int .i64 nx]) rfl (wn rfl) rfl (litEv (by kernel_rfl)) (litEv (by kernel_rfl)) rfl rfl (by kernel_rfl) ?_
 intro w42 hm41
 clear hm18
 try simp only [List.cons_append, List.nil_append, List.set_cons_succ, List.set_cons_zero] at hm41
 refine qNone rfl ?_
 refine lk (v := .slice A3 k c3) rfl rfl rfl ?_
 refine plD ?_
 refine then_normal (hK40 _ _ ?_)
 refine wpPrune [(4, .pointer (some ⟨g8, 0, none⟩)), (5, .slice A3 k c3)] ⟨litGet (by kernel_rfl), ⟨litGet (by kernel_rfl), trivial⟩⟩ (fun X43 => ?_)
 refine wp_ret ?_
 refine bodyPost_ret (v := .tuple #[.agg ([.slice A1 ya.length c1, .int .i64 nx]).toArray, .slice A3 k c3]) (gRes2 rfl (gResAg (cs := [.slice A1 ya.length c1, .int .i64 nx]) 2 hm41 rfl Ty.ag_voxel_api_Versions rfl (litGet (by kernel_rfl))) (gResTmp (t := 5) (v := .slice A3 k c3) (litGet (by kernel_rfl)))) rfl ?_
 obtain rfl : k = na.length := by omega
 rw [List.take_length] at hX3
 have hc1_ := coll_kept l nx keep
 rw [← hy_] at hc1_
 have hc2_ := coll_gone l nx keep
 rw [← hn_] at hc2_
 have hc3_ : na.length = (collV (vrs l) nx keep).2.2.length := by rw [← hc2_, List.length_map]
 refine ⟨ya, A1, c1, A3, c3, ?_, hc1_, ?_, own_new (hm41.row 5 rfl), ⟨hm41.rd 3 rfl, (hall.sub (hy_ ▸ selG_sub _ _ _ _ _)).below hm41.bel⟩, NewT.sub hw1_ (hy_ ▸ selG_sub _ _ _ _ _), hm41.bel⟩
 · rw [← hc3_]; rfl
 · rw [← hc3_, ← hc2_, ← hX3]; exact hm41.rdRow 5 rfl
end Go.Proofs.YtgjgjimgomhbmaaDoor
namespace Go.Proofs.YtgjgjimgomhbmaaDoor
open Go.RowKit
set_option linter.unusedVariables false
set_option linter.unusedSimpArgs false
/-- What is held of a header's slices, of versions, of a table. -/
def hdRes (v : Lv) : List Res := [.rd v.A 1 v.h.counts.length v.c (ics v.h.counts), .rd v.B 16 v.h.rn v.d (bcs v.h.D)]
def lvRes (l : List Lv) : List Res := l.flatMap hdRes
def tbRes (l : List Lv) (S : Option Addr) (c : Nat) : List Res := .rd S 6 l.length c (lvs l) :: lvRes l
theorem lvRes_mem {l : List Lv} {v : Lv} {r : Res} (hv : v ∈ l) (hr : r ∈ hdRes v) : r ∈ lvRes l := List.mem_flatMap.2 ⟨v, hv, hr⟩
theorem tbRes_mem {l : List Lv} {S : Option Addr} {c : Nat} {v : Lv} {r : Res} (hv : v ∈ l) (hr : r ∈ hdRes v) : r ∈ tbRes l S c := List.mem_cons_of_mem _ (lvRes_mem hv hr)
theorem hdRes_mut {v : Lv} {r : Res} (h : r ∈ hdRes v) : r.mut = false := by
  unfold hdRes at h
  simp at h
  rcases h with rfl | rfl <;> rfl
theorem lvRes_mut {l : List Lv} {r : Res} (h : r ∈ lvRes l) : r.mut = false := by
  obtain ⟨v, _, hr⟩ := List.mem_flatMap.1 h
  exact hdRes_mut hr
theorem tbRes_mut {l : List Lv} {S : Option Addr} {c : Nat} {r : Res} (h : r ∈ tbRes l S c) : r.mut = false := by
  rcases List.mem_cons.1 h with rfl | h
  · rfl
  · exact lvRes_mut h
section
variable {w0 w w' : World} {l l' lx : List Lv} {S S' : Option Addr} {c c' : Nat} {M X : List Res}
theorem lvRes_at (h : AllAt l w) {B : Nat} {r : Res} (hr : r ∈ lvRes l) : r.At B w := by
  obtain ⟨v, hv, hr⟩ := List.mem_flatMap.1 hr
  unfold hdRes at hr
  simp at hr
  rcases hr with rfl | rfl
  · exact (h v hv).a
  · exact (h v hv).b
theorem tbRes_at (h : TbAt w l S c) {B : Nat} {r : Res} (hr : r ∈ tbRes l S c) : r.At B w := by
  rcases List.mem_cons.1 hr with rfl | hr
  · exact h.rd
  · exact lvRes_at h.all hr
theorem Mem.lv (h : Mem w0 w (lvRes l)) : AllAt l w := fun v hv => ⟨h.each (.rd v.A 1 v.h.counts.length v.c (ics v.h.counts)) (lvRes_mem hv (by simp [hdRes])), h.each (.rd v.B 16 v.h.rn v.d (bcs v.h.D)) (lvRes_mem hv (by simp [hdRes]))⟩
theorem Mem.tb (h : Mem w0 w (tbRes l S c)) : TbAt w l S c := ⟨h.each _ List.mem_cons_self, Mem.lv (h.sub (List.sublist_cons_self _ _))⟩
theorem Mem.ofRds (hM : ∀ r ∈ M, r.mut = false) (h : ∀ r ∈ M, r.At w.heap.size w) : Mem w w M :=
  ⟨Below.refl _ _, h, List.Pairwise.imp_of_mem (R := fun _ _ => True) (fun ha hb _ => Or.inl ⟨hM _ ha, hM _ hb⟩) (List.pairwise_of_forall (fun _ _ => trivial))⟩
theorem Mem.ofLv (h : AllAt l w) : Mem w w (lvRes l) := Mem.ofRds (fun _ hr => lvRes_mut hr) (fun _ hr => lvRes_at h hr)
theorem blk_new {A : Option Addr} {size n c B : Nat} {xs : List Value} (h : NewA B A) {g : Nat} (hg : (Res.rd A size n c xs).blk = some g) : B ≤ g := by
  simp only [Res.blk] at hg
  split at hg
  · cases hg
  · cases A with
    | none => cases hg
    | some a =>
      simp only [Option.map_some, Option.some.injEq] at hg
      exact hg ▸ h a rfl
/-- A table that a call has yielded takes its place among what is held. -/
theorem Mem.newTb (X : List Res) (h : Mem w0 w (X ++ M)) (b : Below w.heap.size w w') (hT : TbAt w' l' S' c') (hN : NewT w.heap.size lx l' S') (hx : ∀ u ∈ lx, ∀ r ∈ hdRes u, r ∈ M) (hM : ∀ r ∈ M, r.mut = false) : Mem w0 w' (X ++ (tbRes l' S' c' ++ M)) := by
  have hb := h.below b
  have key : ∀ r ∈ tbRes l' S' c', ∀ s ∈ X, ResApart s r := by
    have new : ∀ r : Res, (∀ g, r.blk = some g → w.heap.size ≤ g) → ∀ s ∈ X, ResApart s r := fun r hr s hs => by
      cases hbk : r.blk with
      | none => exact ResApart.symm (Or.inr (Or.inl hbk))
      | some g =>
        refine Or.inr (Or.inr fun e => ?_)
        have h1 := (h.each s (List.mem_append_left _ hs)).lt (g := g) (e.trans hbk)
        have h2 := hr g hbk
        omega
    have old : ∀ r ∈ M, ∀ s ∈ X, ResApart s r := fun r hr s hs => (List.pairwise_append.1 h.apart).2.2 s hs r hr
    intro r hr
    rcases List.mem_cons.1 hr with rfl | hr
    · exact new _ fun g hg => blk_new hN.s hg
    · obtain ⟨v, hv, hr⟩ := List.mem_flatMap.1 hr
      rcases hN.each v hv with ⟨u, hu, e1, e2, e3⟩ | ⟨h1, h2⟩
      · intro s hs
        unfold hdRes at hr
        simp at hr
        rcases hr with rfl | rfl
        · have := old _ (hx u hu _ (by unfold hdRes; exact List.mem_cons_self)) s hs
          rcases this with h4 | h4 | h4
          · exact Or.inl ⟨h4.1, rfl⟩
          · exact Or.inr (Or.inl h4)
          · refine Or.inr (Or.inr ?_)
            simpa only [Res.blk, e1, e3] using h4
        · have := old _ (hx u hu (.rd u.B 16 u.h.rn u.d (bcs u.h.D)) (by unfold hdRes; simp)) s hs
          rcases this with h4 | h4 | h4
          · exact Or.inl ⟨h4.1, rfl⟩
          · exact Or.inr (Or.inl h4)
          · refine Or.inr (Or.inr ?_)
            simpa only [Res.blk, e2, e3] using h4
      · unfold hdRes at hr
        simp at hr
        rcases hr with rfl | rfl
        · exact new _ fun g hg => blk_new h1 hg
        · exact new _ fun g hg => blk_new h2 hg
  obtain ⟨hX, hMp, hXM⟩ := List.pairwise_append.1 hb.apart
  refine ⟨hb.bel, fun r hr => ?_, List.pairwise_append.2 ⟨hX, List.pairwise_append.2 ⟨?_, hMp, fun r hr s hs => Or.inl ⟨tbRes_mut hr, hM s hs⟩⟩, fun s hs r hr => ?_⟩⟩
  · rcases List.mem_append.1 hr with hr | hr
    · exact hb.each r (List.mem_append_left _ hr)
    · rcases List.mem_append.1 hr with hr | hr
      · exact tbRes_at hT hr
      · exact hb.each r (List.mem_append_right _ hr)
  · exact List.Pairwise.imp_of_mem (R := fun _ _ => True) (fun ha hb _ => Or.inl ⟨tbRes_mut ha, tbRes_mut hb⟩) (List.pairwise_of_forall (fun _ _ => trivial))
  · rcases List.mem_append.1 hr with hr | hr
    · exact key r hr s hs
    · exact hXM s hs r hr
/-- A slice that a call has yielded in new blocks. -/
theorem Mem.newRdAt (X : List Res) {A : Option Addr} {size n c2 : Nat} {xs : List Value} (h : Mem w0 w (X ++ M)) (hr : Rd w w.heap.size size A n c2 xs) (hb : ∀ s ∈ X, ResApart s (.rd A size n c2 xs)) (hM : ∀ r ∈ M, r.mut = false) : Mem w0 w (X ++ (.rd A size n c2 xs :: M)) := by
  obtain ⟨hX, hMp, hXM⟩ := List.pairwise_append.1 h.apart
  refine ⟨h.bel, fun r hr2 => ?_, List.pairwise_append.2 ⟨hX, List.pairwise_cons.2 ⟨fun s hs => Or.inl ⟨rfl, hM s hs⟩, hMp⟩, fun s hs r hr2 => ?_⟩⟩
  · rcases List.mem_append.1 hr2 with hr2 | hr2
    · exact h.each r (List.mem_append_left _ hr2)
    · rcases List.mem_cons.1 hr2 with rfl | hr2
      · exact hr
      · exact h.each r (List.mem_append_right _ hr2)
  · rcases List.mem_cons.1 hr2 with rfl | hr2
    · exact hb s hs
    · exact hXM s hs r hr2
end
theorem Mem.tailN {w0 w : World} {L T : List Res} (n : Nat) (h : Mem w0 w L) (e : L.drop n = T) : Mem w0 w T := e ▸ h.sub (List.drop_sublist n L)
theorem mutApp {A B : List Res} (ha : ∀ r ∈ A, r.mut = false) (hb : ∀ r ∈ B, r.mut = false) : ∀ r ∈ A ++ B, r.mut = false := fun r hr => by
  rcases List.mem_append.1 hr with hr | hr
  · exact ha r hr
  · exact hb r hr
theorem mutCons {A : Option Addr} {size n c : Nat} {xs : List Value} {B : List Res} (hb : ∀ r ∈ B, r.mut = false) : ∀ r ∈ Res.rd A size n c xs :: B, r.mut = false := fun r hr => by
  rcases List.mem_cons.1 hr with rfl | hr
  · rfl
  · exact hb r hr
theorem Mem.newRdMid {w0 w w' : World} {M0 M : List Res} (X : List Res) {A : Option Addr} {size n c : Nat} {xs : List Value} (h0 : Mem w0 w (X ++ M0)) (h : Mem w0 w' (X ++ M)) (hr : Rd w' w'.heap.size size A n c xs) (hn : NewA w.heap.size A) (hM : ∀ r ∈ M, r.mut = false) : Mem w0 w' (X ++ (.rd A size n c xs :: M)) :=
  h.newRdAt X hr (fun s hs => by
    cases hbk : (Res.rd A size n c xs).blk with
    | none => exact ResApart.symm (Or.inr (Or.inl hbk))
    | some g =>
      refine Or.inr (Or.inr fun e => ?_)
      have h1 := (h0.each s (List.mem_append_left _ hs)).lt (g := g) (e.trans hbk)
      have h2 := blk_new hn hbk
      omega) hM
theorem good_small {l : List Lv} (h : ∀ v ∈ l, v.h.Good) : ∀ v ∈ l, v.h.counts.length ≤ 20 ∧ v.h.rn ≤ 20 := fun v hv => by
  have h1 := (h v hv).2.2
  omega
/-- What is only read, in new blocks or in blocks that are only read already, takes its place among what is held. -/
theorem Mem.newIm {w0 w w' : World} {M : List Res} (X N : List Res) (h : Mem w0 w (X ++ M)) (b : Below w.heap.size w w') (hat : ∀ r ∈ N, r.At w0.heap.size w') (hmut : ∀ r ∈ N, r.mut = false) (hblk : ∀ r ∈ N, (∀ g, r.blk = some g → w.heap.size ≤ g) ∨ ∃ s ∈ M, s.blk = r.blk) (hM : ∀ r ∈ M, r.mut = false) : Mem w0 w' (X ++ (N ++ M)) := by
  have hb := h.below b
  obtain ⟨hX, hMp, hXM⟩ := List.pairwise_append.1 hb.apart
  have key : ∀ r ∈ N, ∀ s ∈ X, ResApart s r := by
    intro r hr s hs
    rcases hblk r hr with h1 | ⟨t, ht, e⟩
    · cases hbk : r.blk with
      | none => exact ResApart.symm (Or.inr (Or.inl hbk))
      | some g =>
        refine Or.inr (Or.inr fun e => ?_)
        have h2 := (h.each s (List.mem_append_left _ hs)).lt (g := g) (e.trans hbk)
        have h3 := h1 g hbk
        omega
    · rcases hXM s hs t ht with h4 | h4 | h4
      · exact Or.inl ⟨h4.1, hmut r hr⟩
      · exact Or.inr (Or.inl h4)
      · exact Or.inr (Or.inr (e ▸ h4))
  refine ⟨hb.bel, fun r hr => ?_, List.pairwise_append.2 ⟨hX, List.pairwise_append.2 ⟨?_, hMp, fun r hr s hs => Or.inl ⟨hmut r hr, hM s hs⟩⟩, fun s hs r hr => ?_⟩⟩
  · rcases List.mem_append.1 hr with hr | hr
    · exact hb.each r (List.mem_append_left _ hr)
    · rcases List.mem_append.1 hr with hr | hr
      · exact hat r hr
      · exact hb.each r (List.mem_append_right _ hr)
  · exact List.Pairwise.imp_of_mem (R := fun _ _ => True) (fun ha hb _ => Or.inl ⟨hmut _ ha, hmut _ hb⟩) (List.pairwise_of_forall (fun _ _ => trivial))
  · rcases List.mem_append.1 hr with hr | hr
    · exact key r hr s hs
    · exact hXM s hs r hr
theorem Mem.newLv {w0 w w' : World} {M : List Res} (X : List Res) {lx : List Lv} {v : Lv} (h : Mem w0 w (X ++ M)) (b : Below w.heap.size w w') (hv : v.At w') (hN : NewV w.heap.size lx v) (hx : ∀ u ∈ lx, ∀ r ∈ hdRes u, r ∈ M) (hM : ∀ r ∈ M, r.mut = false) : Mem w0 w' (X ++ (lvRes [v] ++ M)) := by
  have hm : ∀ r ∈ lvRes [v], r ∈ hdRes v := fun r hr => by
    obtain ⟨u, hu, hr⟩ := List.mem_flatMap.1 hr
    rw [List.mem_singleton] at hu
    exact hu ▸ hr
  refine h.newIm X _ b (fun r hr => ?_) (fun r hr => lvRes_mut hr) (fun r hr => ?_) hM
  · exact lvRes_at (l := [v]) (fun u hu => by rw [List.mem_singleton] at hu; exact hu ▸ hv) hr
  · have hr2 := hm r hr
    unfold hdRes at hr2
    rcases hN with ⟨u, hu, e1, e2, e3⟩ | ⟨h1, h2⟩
    · right
      simp at hr2
      rcases hr2 with rfl | rfl
      · exact ⟨_, hx u hu (.rd u.A 1 u.h.counts.length u.c (ics u.h.counts)) (by unfold hdRes; simp), by simp only [Res.blk, e1, e3]⟩
      · exact ⟨_, hx u hu (.rd u.B 16 u.h.rn u.d (bcs u.h.D)) (by unfold hdRes; simp), by simp only [Res.blk, e2, e3]⟩
    · left
      simp at hr2
      rcases hr2 with rfl | rfl
      · exact fun g hg => blk_new h1 hg
      · exact fun g hg => blk_new h2 hg
theorem hdTb {l : List Lv} {S : Option Addr} {c : Nat} {M : List Res} (h2 : (tbRes l S c).Sublist M) : ∀ u ∈ l, ∀ r ∈ hdRes u, r ∈ M := fun u hu r hr => h2.subset (tbRes_mem hu hr)
theorem fit_of {h : Hd} (hs : h.counts.length ≤ 20 ∧ h.rn ≤ 20) (h1 : isI64 h.tick) (h2 : isI64 h.depth) (h3 : ∀ x ∈ h.counts, isI64 x) : h.Fit := ⟨hs.1, hs.2, h1, h2, h3⟩
/-- Steps that are few, with small headers. -/
def fewS (L : List Lv) : Prop := (∀ x ∈ L, x.h.counts.length ≤ 20 ∧ x.h.rn ≤ 20) ∧ L.length ≤ 250
instance (L : List Lv) : Decidable (fewS L) := by unfold fewS; infer_instance
end Go.Proofs.YtgjgjimgomhbmaaDoor
namespace Go.Proofs.YtgjgjimgomhbmaaDoor
open Go.RowKit
set_option linter.unusedVariables false
set_option linter.unusedSimpArgs false
set_option maxRecDepth 100000 in
set_option maxHeartbeats 4000000 in
theorem new_any (w : World) : Calls Tryd.prog 22 #[] w (RetV w (.agg (tbs (.slice none 0 0) 1).toArray)) := by
 have hm0 := Mem.nil w
 go_enter Tryd.func22, Tryd.ntmps22
 refine litStart 2 [] (by kernel_rfl) (fun X0 => ?_)
 refine wp_seq_k fun K1 hK1 => ?_
 refine plStart ?_
 refine plAlloc (z := [.slice none 0 0, .int .i64 0]) Ty.ag_voxel_api_Versions hm0 (i := 0) rfl (wn rfl) rfl ?_
 intro g2 w4 hm3
 clear hm0
 try simp only [List.cons_append, List.nil_append, List.set_cons_succ, List.set_cons_zero] at hm3
 refine qP rfl ?_
 refine plD ?_
 refine then_normal (hK1 _ _ ?_)
 refine wp_seq_k fun K5 hK5 => ?_
 refine plStart ?_
 refine lk (v := .agg ([.slice none 0 0, .int .i64 1]).toArray) rfl rfl rfl ?_
 refine plStore 0 Ty.ag_voxel_api_Versions hm3 rfl (i := 1) (cs := [.slice none 0 0, .int .i64 1]) rfl (wn rfl) rfl (litEv (by kernel_rfl)) (litEv (by kernel_rfl)) rfl rfl (by kernel_rfl) ?_
 intro w7 hm6
 clear hm3
 try simp only [List.cons_append, List.nil_append, List.set_cons_succ, List.set_cons_zero] at hm6
 refine qNone rfl ?_
 refine plD ?_
 refine then_normal (hK5 _ _ ?_)
 refine wp_ret ?_
 refine bodyPost_ret (v := .agg ([.slice none 0 0, .int .i64 1]).toArray) (gRes1 rfl (gResAg (cs := [.slice none 0 0, .int .i64 1]) 0 hm6 rfl Ty.ag_voxel_api_Versions rfl (litGet (by kernel_rfl)))) rfl ?_
 exact ⟨rfl, hm6.bel⟩
set_option maxRecDepth 100000 in
set_option maxHeartbeats 4000000 in
theorem few1_any (h : Hd) (A : Option Addr) (c : Nat) (B : Option Addr) (d : Nat) (w : World) : Calls Tryd.prog 7 #[.agg (hcs h A c B d).toArray] w (RetV w (.bool (decide (h.counts.length ≤ 20 ∧ h.rn ≤ 20)))) := by
 have hm0 := Mem.nil w
 go_enter Tryd.func7, Tryd.ntmps7
 refine litStart 13 [(0, .agg (hcs h A c B d).toArray)] (by kernel_rfl) (fun X0 => ?_)
 refine wp_seq_k fun K1 hK1 => ?_
 refine plStart ?_
 refine plBox hm0 (cs := hcs h A c B d) (i := 0) rfl (wn rfl) rfl (litEv (by kernel_rfl)) ?_
 intro g2 w4 hm3
 clear hm0
 try simp only [List.cons_append, List.nil_append, List.set_cons_succ, List.set_cons_zero] at hm3
 refine qP rfl ?_
 refine lk (v := .bool false) rfl rfl rfl ?_
 refine plD ?_
 refine then_normal (hK1 _ _ ?_)
 refine wp_seq_k fun K5 hK5 => ?_
 refine plStart ?_
 refine lk (v := .pointer (some ⟨g2, 1, none⟩)) rfl rfl rfl ?_
 refine litVal (v := .slice A h.counts.length c) rfl (wn rfl) (gLoad (v := .slice A h.counts.length c) (k := 1) 0 hm3 rfl (by kernel_rfl) (.tmp 3) (by kernel_rfl) rfl (litEv (by kernel_rfl))) rfl (by decide) ?_
 refine litVal (v := .int .i64 (h.counts.length : Int)) rfl (wn rfl) (lenSlRun (A := A) (n := h.counts.length) (c := c) (.tmp 4) Ty.und_L_int rfl (litEv (by kernel_rfl))) rfl (by decide) ?_
 by_cases h6 : (h.counts.length : Int) ≤ 20
 · refine litVal (v := .bool true) rfl (wn rfl) (boolTo (decide_eq_true h6) (leqRun (A := (h.counts.length : Int)) (B := 20) (.tmp 5) (.const (.int .i64 20)) rfl (litEv (by kernel_rfl)) (litEv (by kernel_rfl)))) rfl (by decide) ?_
   refine lk (v := .bool true) rfl rfl rfl ?_
   refine litVal (v := .pointer (some ⟨g2, 3, none⟩)) rfl (wgY rfl rfl rfl (by decide) (by kernel_rfl)) (litRun (by kernel_rfl)) rfl (by decide) ?_
   refine litVal (v := .slice B h.rn d) rfl (wgY rfl rfl rfl (by decide) (by kernel_rfl)) (gLoad (v := .slice B h.rn d) (k := 3) 0 hm3 rfl (by kernel_rfl) (.tmp 8) (by kernel_rfl) rfl (litEv (by kernel_rfl))) rfl (by decide) ?_
   refine litVal (v := .int .i64 (h.rn : Int)) rfl (wgY rfl rfl rfl (by decide) (by kernel_rfl)) (lenSlRun (A := B) (n := h.rn) (c := d) (.tmp 9) Ty.und_L_api_Digest rfl (litEv (by kernel_rfl))) rfl (by decide) ?_
   by_cases h7 : (h.rn : Int) ≤ 20
   · refine litVal (v := .bool true) rfl (wgY rfl rfl rfl (by decide) (by kernel_rfl)) (boolTo (decide_eq_true h7) (leqRun (A := (h.rn : Int)) (B := 20) (.tmp 10) (.const (.int .i64 20)) rfl (litEv (by kernel_rfl)) (litEv (by kernel_rfl)))) rfl (by decide) ?_
     refine lk (v := .bool true) rfl rfl rfl ?_
     refine lk (v := .bool true) rfl rfl rfl ?_
     refine plD ?_
     refine then_normal (hK5 _ _ ?_)
     refine wpPrune [(2, .bool true)] ⟨litGet (by kernel_rfl), trivial⟩ (fun X8 => ?_)
     refine wp_ret ?_
     refine bodyPost_ret (v := .bool true) (gRes1 rfl (gResTmp (t := 2) (v := .bool true) (litGet (by kernel_rfl)))) rfl ?_
     exact ⟨congrArg (fun b_ => Ending.returned (.bool b_)) (decide_eq_true (by omega)).symm, hm3.bel⟩
   refine litVal (v := .bool false) rfl (wgY rfl rfl rfl (by decide) (by kernel_rfl)) (boolTo (decide_eq_false h7) (leqRun (A := (h.rn : Int)) (B := 20) (.tmp 10) (.const (.int .i64 20)) rfl (litEv (by kernel_rfl)) (litEv (by kernel_rfl)))) rfl (by decide) ?_
   refine lk (v := .bool false) rfl rfl rfl ?_
   refine lk (v := .bool false) rfl rfl rfl ?_
   refine plD ?_
   refine then_normal (hK5 _ _ ?_)
   refine wpPrune [(2, .bool false)] ⟨litGet (by kernel_rfl), trivial⟩ (fun X9 => ?_)
   refine wp_ret ?_
   refine bodyPost_ret (v := .bool false) (gRes1 rfl (gResTmp (t := 2) (v := .bool false) (litGet (by kernel_rfl)))) rfl ?_
   exact ⟨congrArg (fun b_ => Ending.returned (.bool b_)) (decide_eq_false (by omega)).symm, hm3.bel⟩
 refine litVal (v := .bool false) rfl (wn rfl) (boolTo (decide_eq_false h6) (leqRun (A := (h.counts.length : Int)) (B := 20) (.tmp 5) (.const (.int .i64 20)) rfl (litEv (by kernel_rfl)) (litEv (by kernel_rfl)))) rfl (by decide) ?_
 refine lk (v := .bool false) rfl rfl rfl ?_
 refine plSkip (i := 5) rfl (wgN rfl rfl rfl (by decide) (by kernel_rfl)) ?_
 refine qP rfl ?_
 refine plSkip (i := 6) rfl (wgN rfl rfl rfl (by decide) (by kernel_rfl)) ?_
 refine qP rfl ?_
 refine plSkip (i := 7) rfl (wgN rfl rfl rfl (by decide) (by kernel_rfl)) ?_
 refine qP rfl ?_
 refine plSkip (i := 8) rfl (wgN rfl rfl rfl (by decide) (by kernel_rfl)) ?_
 refine qP rfl ?_
 refine lk (v := .bool false) rfl rfl rfl ?_
 refine lk (v := .bool false) rfl rfl rfl ?_
 refine plD ?_
 refine then_normal (hK5 _ _ ?_)
 refine wpPrune [(2, .bool false)] ⟨litGet (by kernel_rfl), trivial⟩ (fun X10 => ?_)
 refine wp_ret ?_
 refine bodyPost_ret (v := .bool false) (gRes1 rfl (gResTmp (t := 2) (v := .bool false) (litGet (by kernel_rfl)))) rfl ?_
 exact ⟨congrArg (fun b_ => Ending.returned (.bool b_)) (decide_eq_false (by omega)).symm, hm3.bel⟩
end Go.Proofs.YtgjgjimgomhbmaaDoor
namespace Go.Proofs.YtgjgjimgomhbmaaDoor
open Go.RowKit
section
variable {P : Program} {ops : Array Oper} {Q : Exit → Act → World → Prop} {a : Act} {w w0 : World} {o : Oper} {L M : List Res} {i j c fuel : Nat} {listed : Array Bool}
/-- Operation i comes up, one of several; what is held throughout. -/
structure MGI (P : Program) (ops : Array Oper) (Q : Exit → Act → World → Prop) (w0 : World) (M : List Res) (fuel : Nat) (listed : Array Bool) (i : Nat) (a : Act) (w : World) : Prop where
  out : ∀ o, ops.toList[i]? = some o → wpList P ops (Exit.then (fun a' w' => Mem w0 w' M ∧ wpAnyH P .any ops Q (fun w' => Mem w0 w' M) fuel (listed.setIfInBounds i true) a' w') Q) [o] a w
theorem mgFork (hr : Region.ready .any ops listed = [i, j]) (hi : (ops.toList[i]?).isSome = true) (hj : (ops.toList[j]?).isSome = true) (h1 : MGI P ops Q w0 M fuel listed i a w) (h2 : MGI P ops Q w0 M fuel listed j a w) : MG P ops Q w0 M (fuel + 1) listed a w := by
  refine ⟨wpAnyH_all hr (by simp) fun k hk => ?_⟩
  have hk2 : k = i ∨ k = j := by simpa using hk
  have go : ∀ k, (ops.toList[k]?).isSome = true → MGI P ops Q w0 M fuel listed k a w → wpOp P ops Q k (fun a' w' => Mem w0 w' M ∧ wpAnyH P .any ops Q (fun w' => Mem w0 w' M) fuel (listed.setIfInBounds k true) a' w') a w := by
    intro k hs h
    obtain ⟨o, ho⟩ := Option.isSome_iff_exists.1 hs
    have hi : ops[k]? = some o := by rw [← ho]; simp
    exact wpOp_of_list hi (h.out o ho)
  rcases hk2 with rfl | rfl
  · exact go _ hi h1
  · exact go _ hj h2
theorem mgiCall {x : Operand} {args : Array Operand} {argTypes : Array TypeId} {R : Ending → World → Prop} (f : FuncId) (vals first caps : List Value)
    (hi : ops.toList[i]? = some o) (hf : callable P f = true) (hw : Region.wanted o (yielded ops a.tmps) = true) (ho : o.op = .call { callee := .value x, args, argTypes }) (hc : a.eval x = .func (.func f) first.toArray caps.toArray) (hargs : args.toList.map a.eval = vals)
    (hC : Calls P f (first ++ vals ++ caps).toArray w R) (h : ∀ e w', R e w' → ∃ v, e = .returned v ∧ Mem w0 w' M ∧ MG P ops Q w0 M fuel (listed.setIfInBounds i true) (a.put o.dst v) w') : MGI P ops Q w0 M fuel listed i a w := by
  refine ⟨fun o' ho' => ?_⟩
  obtain rfl : o = o' := Option.some.inj (hi.symm.trans ho')
  exact callOp f vals first caps hf hw ho hc hargs (hC.mono fun e w' he => by
    obtain ⟨v, h1, h2, h3⟩ := h e w' he
    exact ⟨v, h1, h2, h3.out⟩)
theorem mgiAlloc {z : List Value} {ty : TypeId} {n : Nat} (T : AgTy P ty z.toArray n) (hm : Mem w0 w L) (hM : ∀ w', Mem w0 w' L → Mem w0 w' M) (hi : ops.toList[i]? = some o) (hw : Region.wanted o (yielded ops a.tmps) = true) (ho : o.op = .alloc ty)
    (h : ∀ g w', Mem w0 w' (L ++ [.arr g ty z]) → MG P ops Q w0 M fuel (listed.setIfInBounds i true) (a.put o.dst (.pointer (some ⟨g, 0, none⟩))) w') : MGI P ops Q w0 M fuel listed i a w := by
  refine ⟨fun o' ho' => ?_⟩
  obtain rfl : o = o' := Option.some.inj (hi.symm.trans ho')
  exact alArr T hw ho fun w' hA hb => ⟨hM _ (hm.below hb), (h _ w' (hm.new hb hA)).out⟩
theorem mgAlloc {z : List Value} {ty : TypeId} {n : Nat} (T : AgTy P ty z.toArray n) (hm : Mem w0 w L) (hM : ∀ w', Mem w0 w' L → Mem w0 w' M) (hr : Region.ready .any ops listed = [i]) (hi : ops.toList[i]? = some o) (hw : Region.wanted o (yielded ops a.tmps) = true) (ho : o.op = .alloc ty)
    (h : ∀ g w', Mem w0 w' (L ++ [.arr g ty z]) → MG P ops Q w0 M fuel (listed.setIfInBounds i true) (a.put o.dst (.pointer (some ⟨g, 0, none⟩))) w') : MG P ops Q w0 M (fuel + 1) listed a w :=
  ⟨rgNext hr hi (alArr T hw ho fun w' hA hb => ⟨hM _ (hm.below hb), (h _ w' (hm.new hb hA)).out⟩)⟩
/-- A store into a block that is not among what is held throughout. -/
theorem mgStore {x y : Operand} {ty : TypeId} {n g : Nat} {z : Array Value} {cur cs : List Value} {t : TypeId} (j : Nat) (T : AgTy P ty z n) (hm : Mem w0 w L) (hj : L[j]? = some (.arr g t cur)) (hr : Region.ready .any ops listed = [i]) (hi : ops.toList[i]? = some o) (hw : Region.wanted o (yielded ops a.tmps) = true) (ho : o.op = .store ty x y)
    (hx : a.eval x = .pointer (some ⟨g, 0, none⟩)) (hy : a.eval y = .agg cs.toArray) (hs : cur.length = n) (hl : cs.length = n) (h1 : (cs.all fun u => u.oneCell') = true) (hM : ∀ w', Mem w0 w' (L.set j (.arr g t cs)) → Mem w0 w' M)
    (h : ∀ w', Mem w0 w' (L.set j (.arr g t cs)) → MG P ops Q w0 M fuel (listed.setIfInBounds i true) (a.put o.dst undef) w') : MG P ops Q w0 M (fuel + 1) listed a w :=
  ⟨rgNext hr hi (stArrG x y T hw ho hx hy (hm.arr j hj) hs hl (fun u hu => List.all_eq_true.1 h1 u hu) fun w' hA hk => ⟨hM _ (hm.set j hj hA hk), (h w' (hm.set j hj hA hk)).out⟩)⟩
theorem glTurn_ {S S' : World → Prop} : ∀ (fuel : Nat) (listed : Array Bool) (a : Act) (w : World), listed.getD c true = true → wpAnyH P .any ops Q S' fuel listed a w → wpAnyL P ops Q S c fuel listed a w
  | 0, _, _, _, _, h => h
  | fuel + 1, listed, a, w, hc, h => by
    refine ⟨h.1, fun i hi => ?_⟩
    have h2 : (listed.setIfInBounds i true).getD c true = true := by
      by_cases hk : c = i
      · subst hk
        by_cases hlt : c < listed.size
        · simp [hlt]
        · simp [hlt]
      · rw [getD_set_ne true (Ne.symm hk)]; exact hc
    exact wpOp_mono (fun a' w' h' => ⟨fun h0 => (by rw [h2] at h0; cases h0), glTurn_ fuel _ a' w' h2 h'.2⟩) (h.2 i hi)
/-- Behind operation c something else is held throughout. -/
theorem glTurn (M' : List Res) (hc : listed.getD c true = true) (h : MG P ops Q w0 M' fuel listed a w) : MGL P ops Q w0 M c fuel listed a w := ⟨glTurn_ _ _ _ _ hc h.out⟩
end
end Go.Proofs.YtgjgjimgomhbmaaDoor
