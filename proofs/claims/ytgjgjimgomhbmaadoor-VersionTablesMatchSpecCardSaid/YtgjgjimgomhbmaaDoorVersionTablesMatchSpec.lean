/-
  VersionTablesMatchSpec: the law answers true. No statement is proved here.
-/
import Derived.Test.YtgjgjimgomhbmaaDoorMH
import Derived.Test.YtgjgjimgomhbmaaDoorMI
namespace Go.Proofs.YtgjgjimgomhbmaaDoor
open Go.RowKit
set_option linter.unusedVariables false
set_option linter.unusedSimpArgs false

theorem Mem.swapTb {w0 w : World} {r s : Res} {A B C : List Res} (h : Mem w0 w (r :: s :: (A ++ (B ++ C)))) : Mem w0 w (r :: s :: (B ++ (A ++ C))) :=
  h.perm (.cons _ (.cons _ (by rw [← List.append_assoc, ← List.append_assoc]; exact (List.perm_append_comm).append_right C)))
set_option maxRecDepth 100000 in
set_option maxHeartbeats 4000000 in
theorem walk_VersionTablesMatchSpec (L : List Lv) (S : Option Addr) (cS : Nat) (num : Int) (w : World) (ht : Tabs w) (htR : TabsR w) (hS : Rd w w.heap.size 6 S L.length cS (lvs L)) (hall_ : AllAt L w) (hfits : ∀ x ∈ L, isI64 x.h.tick ∧ isI64 x.h.depth ∧ (∀ n ∈ x.h.counts, isI64 n) ∧ isI64 x.pins) (hnum : -9223372036854775808 ≤ num ∧ num ≤ 9223372036854775807) : Calls Tryd.prog 4 #[.slice S L.length cS, .int .i64 num] w (RetV w (.bool true)) := by
 have hm0 := Mem.ofLv hall_
 go_enter Tryd.func4, Tryd.ntmps4
 refine litStart 117 [(0, .slice S L.length cS), (1, .int .i64 num)] (by kernel_rfl) (fun X0 => ?_)
 refine wp_seq_k fun K1 hK1 => ?_
 refine plStart ?_
 refine lk (v := .bool false) rfl rfl rfl ?_
 refine plD ?_
 refine then_normal (hK1 _ _ ?_)
 refine wp_seq_k fun K2 hK2 => ?_
 refine plStart ?_
 refine plCall (i := 0) 6 [] [] [] rfl (by kernel_rfl) (wn rfl) rfl (litEv (by kernel_rfl)) (litArgs (by kernel_rfl)) (sanity_any _ (ht.below hm0.bel ht.size) (htR.below hm0.bel htR.size)) ?_
 rintro e w3 ⟨rfl, hbz⟩
 have hm4 := hm0.below hbz
 clear hbz hm0
 refine ⟨_, rfl, ?_⟩
 refine qP rfl ?_
 refine lk (v := .bool true) rfl rfl rfl ?_
 refine plD ?_
 refine then_normal (hK2 _ _ ?_)
 refine wp_seq_k fun K5 hK5 => ?_
 refine wp_seq_k fun K6 hK6 => ?_
 refine plStart ?_
 refine lk (v := .slice S L.length cS) rfl rfl rfl ?_
 refine plCall (i := 1) 21 [.slice S L.length cS] [] [] rfl (by kernel_rfl) (wn rfl) rfl (litEv (by kernel_rfl)) (litArgs (by kernel_rfl)) (few_any L S cS _ ((Rd.below hS hm4.bel).more hm4.bel.size) (Mem.lv ((Mem.tailN (T := lvRes L) 0 hm4 rfl).sub (L' := lvRes L) (List.Sublist.refl _)))) ?_
 rintro e w7 ⟨rfl, hbz⟩
 have hm8 := hm4.below hbz
 clear hbz hm4
 refine ⟨_, rfl, ?_⟩
 refine qP rfl ?_
 rcases bool_or (decide (fewS L)) with h9 | h9
 · rw [h9]
   refine lk (v := .bool true) rfl rfl rfl ?_
   refine plD ?_
   refine then_normal (hK6 _ _ ?_)
   refine wp_cond_true (litEv (by kernel_rfl)) ?_
   refine wp_seq_k fun K10 hK10 => ?_
   refine plStart ?_
   refine lk (v := .bool true) rfl rfl rfl ?_
   refine lk (v := .bool true) rfl rfl rfl ?_
   refine plD ?_
   refine then_normal (hK10 _ _ ?_)
   refine wp_ret ?_
   refine then_ret ?_
   refine bodyPost_ret (v := .bool true) (gRes1 rfl (gResTmp (t := 4) (v := .bool true) (litGet (by kernel_rfl)))) rfl ?_
   exact ⟨by rfl, hm8.bel⟩
 rw [h9]
 have hfew := of_decide_eq_true h9
 refine lk (v := .bool false) rfl rfl rfl ?_
 refine plD ?_
 refine then_normal (hK6 _ _ ?_)
 refine wp_cond_false (litEv (by kernel_rfl)) ?_
 refine wp_skip ?_
 refine then_normal (hK5 _ _ ?_)
 refine wp_seq_k fun K11 hK11 => ?_
 refine plStart ?_
 refine plCall (i := 0) 22 [] [] [] rfl (by kernel_rfl) (wn rfl) rfl (litEv (by kernel_rfl)) (litArgs (by kernel_rfl)) (new_any _) ?_
 rintro e w12 ⟨rfl, hbz⟩
 have hm13 := hm8.below hbz
 clear hbz hm8
 refine ⟨_, rfl, ?_⟩
 refine qP rfl ?_
 refine plAlloc (z := [.slice none 0 0, .int .i64 0]) Ty.ag_voxel_api_Versions hm13 (i := 1) rfl (wn rfl) rfl ?_
 intro g14 w16 hm15
 clear hm13
 try simp only [List.cons_append, List.nil_append, List.set_cons_succ, List.set_cons_zero] at hm15
 replace hm15 := Mem.insAt (M := (lvRes L)) 0 hm15
 simp only [List.insertIdx_succ_cons, List.insertIdx_zero] at hm15
 refine qP rfl ?_
 refine plStore 0 Ty.ag_voxel_api_Versions hm15 rfl (i := 2) (cs := tbs (.slice none 0 0) 1) rfl (wn rfl) rfl (litEv (by kernel_rfl)) (litEv (by kernel_rfl)) rfl rfl (by kernel_rfl) ?_
 intro w18 hm17
 clear hm15
 try simp only [List.cons_append, List.nil_append, List.set_cons_succ, List.set_cons_zero] at hm17
 refine qNone rfl ?_
 refine plD ?_
 refine then_normal (hK11 _ _ ?_)
 refine wp_seq_k fun K19 hK19 => ?_
 refine plStart ?_
 refine plCall (i := 0) 23 [] [] [] rfl (by kernel_rfl) (wn rfl) rfl (litEv (by kernel_rfl)) (litArgs (by kernel_rfl)) (rnew_any _) ?_
 rintro e w20 ⟨rfl, hbz⟩
 have hm21 := hm17.below hbz
 clear hbz hm17
 refine ⟨_, rfl, ?_⟩
 refine qP rfl ?_
 refine plAlloc (z := [.slice none 0 0, .int .i64 0]) Ty.ag_voxel_api_Versions hm21 (i := 1) rfl (wn rfl) rfl ?_
 intro g22 w24 hm23
 clear hm21
 try simp only [List.cons_append, List.nil_append, List.set_cons_succ, List.set_cons_zero] at hm23
 replace hm23 := Mem.insAt (M := ((.arr g14 44 (tbs (.slice none 0 0) 1)) :: lvRes L)) 1 hm23
 simp only [List.insertIdx_succ_cons, List.insertIdx_zero] at hm23
 refine qP rfl ?_
 refine plStore 1 Ty.ag_voxel_api_Versions hm23 rfl (i := 2) (cs := tbs (.slice none 0 0) 1) rfl (wn rfl) rfl (litEv (by kernel_rfl)) (litEv (by kernel_rfl)) rfl rfl (by kernel_rfl) ?_
 intro w26 hm25
 clear hm23
 try simp only [List.cons_append, List.nil_append, List.set_cons_succ, List.set_cons_zero] at hm25
 refine qNone rfl ?_
 refine plD ?_
 refine then_normal (hK19 _ _ ?_)
 refine wp_seq_k fun K27 hK27 => ?_
 refine wp_seq_k fun K28 hK28 => ?_
 refine plStart ?_
 refine lk (v := .int .i64 0) rfl rfl rfl ?_
 refine plD ?_
 refine then_normal (hK28 _ _ ?_)
 refine wp_block ?_
 refine gwLoop (fun n_ a_ w_ => ∃ (k : Nat) (l1 l2 : List Lv) (S1 S2 : Option Addr) (c1 c2 : Nat) (nx : Int), n_ = L.length - k ∧ (k ≤ L.length) ∧ (vrs l1 = vrs l2) ∧ (GoodV (vrs l1) nx ((k : Int) + 1)) ∧ Fr a_ 117 [(0, .slice S L.length cS), (1, .int .i64 num), (5, .bool true), (6, .pointer (some ⟨g14, 0, none⟩)), (7, .pointer (some ⟨g22, 0, none⟩)), (8, .int .i64 (k : Int))] ∧ Mem w w_ ((.arr g14 44 (tbs (.slice S1 l1.length c1) nx)) :: (.arr g22 44 (tbs (.slice S2 l2.length c2) nx)) :: (tbRes l1 S1 c1 ++ (tbRes l2 S2 c2 ++ lvRes L)))) (L.length - 0) ⟨0, [], [], none, none, 0, 0, 1, rfl, (Nat.zero_le _), rfl, GoodV.nil, ⟨litSize, rfl, ⟨litGet (by kernel_rfl), ⟨litGet (by kernel_rfl), ⟨litGet (by kernel_rfl), ⟨litGet (by kernel_rfl), ⟨litGet (by kernel_rfl), ⟨litGet (by kernel_rfl), trivial⟩⟩⟩⟩⟩⟩⟩, (Mem.nilTb (M := tbRes [] none 0 ++ lvRes L) [.arr g14 44 (tbs (.slice none ([] : List Lv).length 0) 1), .arr g22 44 (tbs (.slice none ([] : List Lv).length 0) 1)] (Mem.nilTb (M := lvRes L) [.arr g14 44 (tbs (.slice none ([] : List Lv).length 0) 1), .arr g22 44 (tbs (.slice none ([] : List Lv).length 0) 1)] hm25 (fun _ h_ => lvRes_mut h_)) (mutApp (fun _ h_ => tbRes_mut h_) (fun _ h_ => lvRes_mut h_)))⟩ ?_
 clear hm25
 intro n_ a31 w29 hI_
 obtain ⟨k, l1, l2, S1, S2, c1, c2, nx, rfl, hk, hvm, hgv, hF_, hm30⟩ := hI_
 obtain ⟨X32, rfl⟩ := frLit hF_
 clear hF_
 refine wp_seq_k fun K33 hK33 => ?_
 refine wp_seq_k fun K34 hK34 => ?_
 refine plStart ?_
 refine lk (v := .int .i64 (k : Int)) rfl rfl rfl ?_
 refine lk (v := .slice S L.length cS) rfl rfl rfl ?_
 refine litVal (v := .int .i64 (L.length : Int)) rfl (wn rfl) (lenSlRun (A := S) (n := L.length) (c := cS) (.tmp 33) Ty.und_L_voxelref18_Step rfl (litEv (by kernel_rfl))) rfl (by decide) ?_
 by_cases h35 : (k : Int) < (L.length : Int)
 · obtain ⟨x, hkx⟩ : ∃ x, L[k]? = some x := ⟨_, List.getElem?_eq_getElem (by omega)⟩
   have hft_ := hfits x (List.mem_of_getElem? hkx)
   have hk250_ := hfew.2
   obtain ⟨bS_, oS_, rfl, _, _⟩ := hS.cells (by omega)
   refine litVal (v := .bool true) rfl (wn rfl) (boolTo (decide_eq_true h35) (lssRun (A := (k : Int)) (B := (L.length : Int)) (.tmp 32) (.tmp 34) rfl (litEv (by kernel_rfl)) (litEv (by kernel_rfl)))) rfl (by decide) ?_
   refine plD ?_
   refine then_normal (hK34 _ _ ?_)
   refine wp_cond_true (litEv (by kernel_rfl)) ?_
   refine wp_skip ?_
   refine then_normal (hK33 _ _ ?_)
   refine wp_seq_k fun K36 hK36 => ?_
   refine wp_block ?_
   refine gwCut (fun a_ w_ => ∃ (gga : Nat) (la : List Lv) (Sa : Option Addr) (ca : Nat) (Aa : Option Addr) (da : Nat), (vrs la = (stepV (vrs l1) nx x.num x.pins x.h).1) ∧ Fr a_ 117 [(0, .slice (some ⟨bS_, oS_, none⟩) L.length cS), (1, .int .i64 num), (5, .bool true), (6, .pointer (some ⟨g14, 0, none⟩)), (7, .pointer (some ⟨g22, 0, none⟩)), (8, .int .i64 (k : Int)), (9, .pointer (some ⟨gga, 0, none⟩)), (10, .int .i64 ((stepV (vrs l1) nx x.num x.pins x.h).2.2.1)), (11, .slice Aa ((stepV (vrs l1) nx x.num x.pins x.h).2.2.2.1.length) da), (12, .int .i64 ((stepV (vrs l1) nx x.num x.pins x.h).2.2.2.2)), (32, .int .i64 (k : Int)), (33, .slice (some ⟨bS_, oS_, none⟩) L.length cS), (34, .int .i64 (L.length : Int)), (35, .bool true)] ∧ Mem w w_ ((.arr g14 44 (tbs (.slice S1 l1.length c1) nx)) :: (.arr g22 44 (tbs (.slice S2 l2.length c2) nx)) :: (.arr gga 44 (tbs (.slice Sa la.length ca) ((stepV (vrs l1) nx x.num x.pins x.h).2.1))) :: ((.rd Aa 1 (stepV (vrs l1) nx x.num x.pins x.h).2.2.2.1.length da (ics (stepV (vrs l1) nx x.num x.pins x.h).2.2.2.1)) :: (tbRes la Sa ca ++ (tbRes l1 S1 c1 ++ (tbRes l2 S2 c2 ++ lvRes L)))))) ?_ ?_
   · refine mgStartM ((.arr g14 44 (tbs (.slice S1 l1.length c1) nx)) :: (.arr g22 44 (tbs (.slice S2 l2.length c2) nx)) :: (tbRes l1 S1 c1 ++ (tbRes l2 S2 c2 ++ lvRes L))) hm30 (by kernel_rfl) ?_
     intro w38 hm37
     clear hm30
     refine mgTake (i := 0) (v := .agg (tbs (.slice S1 l1.length c1) nx).toArray) rfl (by kernel_rfl) (wn rfl) (fun _ _ _ h => h) (hm37.sub (.cons_cons _ (.cons_cons _ (List.Sublist.refl _)))) (fun w_ h_ => gLoadAg (vs := tbs (.slice S1 l1.length c1) nx) (k := 0) 0 h_ rfl (by kernel_rfl) (by kernel_rfl) (.tmp 6) Ty.ag_voxel_api_Versions rfl (litEv (by kernel_rfl))) ?_
     refine mP rfl ?_
     refine mk_ (i := 1) (v := .slice (some ⟨bS_, oS_, none⟩) L.length cS) rfl rfl (fun _ _ _ h => h) (hm37.sub (.cons_cons _ (.cons_cons _ (List.Sublist.refl _)))) rfl ?_
     refine mk_ (i := 2) (v := .int .i64 (k : Int)) rfl rfl (fun _ _ _ h => h) (hm37.sub (.cons_cons _ (.cons_cons _ (List.Sublist.refl _)))) rfl ?_
     refine mgTake (i := 3) (v := .pointer (some ⟨bS_, oS_ + k * 6, none⟩)) rfl (by kernel_rfl) (wn rfl) (fun _ _ _ h => h) (hm37.sub (.cons_cons _ (.cons_cons _ (List.Sublist.refl _)))) (fun w_ h_ => gIaSl (b := bS_) (off := oS_) (n := L.length) (c := cS) (kk := .i64) (K := (k : Int)) (.tmp 40) (.tmp 41) k Ty.sl_L_voxelref18_Step rfl (litEv (by kernel_rfl)) (litEv (by kernel_rfl)) (rfl) (by omega)) ?_
     refine mP rfl ?_
     refine mgTake (i := 4) (v := .agg (lvc x).toArray) rfl (by kernel_rfl) (wn rfl) (fun _ _ _ h => h) (hm37.sub (.cons_cons _ (.cons_cons _ (List.Sublist.refl _)))) (fun w_ h_ => gLoadAgRd (vs := lvc x) (m := k * 6) ((Rd.below hS h_.bel).more h_.bel.size) rfl (fun i_ u_ hu_ => lvs_get hkx i_ u_ hu_) (by kernel_rfl) (by omega) (.tmp 42) Ty.ag_voxel_voxelref18_Step rfl (litEv (by kernel_rfl))) ?_
     refine mP rfl ?_
     refine mgFork (i := 5) (j := 11) (by kernel_rfl) (by kernel_rfl) (by kernel_rfl) ?_ ?_
     · refine mgiCall (i := 5) 24 [.agg (tbs (.slice S1 l1.length c1) nx).toArray, .agg (lvc x).toArray] [] [] rfl (by kernel_rfl) (wn rfl) rfl (litEv (by kernel_rfl)) (litArgs (by kernel_rfl)) (by exact played_any l1 S1 c1 nx x _ (Mem.tb ((Mem.tailN (T := (tbRes l1 S1 c1 ++ (tbRes l2 S2 c2 ++ lvRes L))) 2 hm37 rfl).sub (L' := tbRes l1 S1 c1) (List.sublist_append_left _ _))) ((Mem.lv ((Mem.tailN (T := (tbRes l1 S1 c1 ++ (tbRes l2 S2 c2 ++ lvRes L))) 2 hm37 rfl).sub (L' := lvRes L) (((List.Sublist.refl _).trans (List.sublist_append_right _ _)).trans (List.sublist_append_right _ _)))) x (List.mem_of_getElem? hkx)) (by have q_ := lenL hgv; omega) (fit_of (hfew.1 x (List.mem_of_getElem? hkx)) hft_.1 hft_.2.1 hft_.2.2.1) (pinsL hgv) (goodL hgv) ⟨by have q_ := (hgv).nx0; omega, by have q_ := (hgv).nxm; omega⟩ hft_.2.2.2) ?_
       rintro e w39 ⟨l41, S42, c43, A44, c45, rfl, hvl41, hrd_, hna_, hT_, hN_, hbz⟩
       have hm40 : Mem w w39 ([.arr g14 44 (tbs (.slice S1 l1.length c1) nx), .arr g22 44 (tbs (.slice S2 l2.length c2) nx)] ++ (tbRes l41 S42 c43 ++ (tbRes l1 S1 c1 ++ (tbRes l2 S2 c2 ++ lvRes L)))) := Mem.newTb (M := (tbRes l1 S1 c1 ++ (tbRes l2 S2 c2 ++ lvRes L))) [.arr g14 44 (tbs (.slice S1 l1.length c1) nx), .arr g22 44 (tbs (.slice S2 l2.length c2) nx)] hm37 hbz hT_ hN_ (hdOfL (List.mem_of_getElem? hkx) (((List.Sublist.refl _).trans (List.sublist_append_right _ _)).trans (List.sublist_append_right _ _)) (List.sublist_append_left _ _)) (mutApp (fun _ h_ => tbRes_mut h_) (mutApp (fun _ h_ => tbRes_mut h_) (fun _ h_ => lvRes_mut h_)))
       have hm46 : Mem w w39 ([.arr g14 44 (tbs (.slice S1 l1.length c1) nx), .arr g22 44 (tbs (.slice S2 l2.length c2) nx)] ++ ((.rd A44 1 (stepV (vrs l1) nx x.num x.pins x.h).2.2.2.1.length c45 (ics (stepV (vrs l1) nx x.num x.pins x.h).2.2.2.1)) :: (tbRes l41 S42 c43 ++ (tbRes l1 S1 c1 ++ (tbRes l2 S2 c2 ++ lvRes L))))) := Mem.newRdMid (M0 := (tbRes l1 S1 c1 ++ (tbRes l2 S2 c2 ++ lvRes L))) [.arr g14 44 (tbs (.slice S1 l1.length c1) nx), .arr g22 44 (tbs (.slice S2 l2.length c2) nx)] hm37 hm40 hrd_ hna_ (mutApp (fun _ h_ => tbRes_mut h_) (mutApp (fun _ h_ => tbRes_mut h_) (mutApp (fun _ h_ => tbRes_mut h_) (fun _ h_ => lvRes_mut h_))))
       clear hm40
       have hm47 : Mem w w39 ((.arr g14 44 (tbs (.slice S1 l1.length c1) nx)) :: (.arr g22 44 (tbs (.slice S2 l2.length c2) nx)) :: ((.rd A44 1 (stepV (vrs l1) nx x.num x.pins x.h).2.2.2.1.length c45 (ics (stepV (vrs l1) nx x.num x.pins x.h).2.2.2.1)) :: (tbRes l41 S42 c43 ++ (tbRes l1 S1 c1 ++ (tbRes l2 S2 c2 ++ lvRes L))))) := hm46
       clear hm46
       clear hT_ hN_ hbz hrd_ hna_
       refine ⟨_, rfl, (hm47.sub (.cons_cons _ (.cons_cons _ (List.Sublist.cons _ ((List.Sublist.refl _).trans (List.sublist_append_right _ _)))))), ?_⟩
       refine mP rfl ?_
       refine mk_ (i := 6) (v := .tuple #[.agg (tbs (.slice S42 l41.length c43) ((stepV (vrs l1) nx x.num x.pins x.h).2.1)).toArray, .int .i64 ((stepV (vrs l1) nx x.num x.pins x.h).2.2.1), .slice A44 ((stepV (vrs l1) nx x.num x.pins x.h).2.2.2.1.length) c45, .int .i64 ((stepV (vrs l1) nx x.num x.pins x.h).2.2.2.2)]) rfl rfl (fun _ _ _ h => h) (hm47.sub (.cons_cons _ (.cons_cons _ (List.Sublist.cons _ ((List.Sublist.refl _).trans (List.sublist_append_right _ _)))))) rfl ?_
       refine mk_ (i := 7) (v := .agg (tbs (.slice S42 l41.length c43) ((stepV (vrs l1) nx x.num x.pins x.h).2.1)).toArray) rfl rfl (fun _ _ _ h => h) (hm47.sub (.cons_cons _ (.cons_cons _ (List.Sublist.cons _ ((List.Sublist.refl _).trans (List.sublist_append_right _ _)))))) rfl ?_
       refine mk_ (i := 8) (v := .int .i64 ((stepV (vrs l1) nx x.num x.pins x.h).2.2.1)) rfl rfl (fun _ _ _ h => h) (hm47.sub (.cons_cons _ (.cons_cons _ (List.Sublist.cons _ ((List.Sublist.refl _).trans (List.sublist_append_right _ _)))))) rfl ?_
       refine mk_ (i := 9) (v := .slice A44 ((stepV (vrs l1) nx x.num x.pins x.h).2.2.2.1.length) c45) rfl rfl (fun _ _ _ h => h) (hm47.sub (.cons_cons _ (.cons_cons _ (List.Sublist.cons _ ((List.Sublist.refl _).trans (List.sublist_append_right _ _)))))) rfl ?_
       refine mk_ (i := 10) (v := .int .i64 ((stepV (vrs l1) nx x.num x.pins x.h).2.2.2.2)) rfl rfl (fun _ _ _ h => h) (hm47.sub (.cons_cons _ (.cons_cons _ (List.Sublist.cons _ ((List.Sublist.refl _).trans (List.sublist_append_right _ _)))))) rfl ?_
       refine mgAlloc (i := 11) (z := [.slice none 0 0, .int .i64 0]) Ty.ag_voxel_api_Versions hm47 (fun w_ h_ => (h_.sub (.cons_cons _ (.cons_cons _ (List.Sublist.cons _ ((List.Sublist.refl _).trans (List.sublist_append_right _ _))))))) (by kernel_rfl) rfl (wn rfl) rfl ?_
       intro g48 w50 hm49
       clear hm47
       try simp only [List.cons_append, List.nil_append, List.set_cons_succ, List.set_cons_zero] at hm49
       replace hm49 := Mem.insAt (M := ((.arr g14 44 (tbs (.slice S1 l1.length c1) nx)) :: (.arr g22 44 (tbs (.slice S2 l2.length c2) nx)) :: ((.rd A44 1 (stepV (vrs l1) nx x.num x.pins x.h).2.2.2.1.length c45 (ics (stepV (vrs l1) nx x.num x.pins x.h).2.2.2.1)) :: (tbRes l41 S42 c43 ++ (tbRes l1 S1 c1 ++ (tbRes l2 S2 c2 ++ lvRes L)))))) 2 hm49
       simp only [List.insertIdx_succ_cons, List.insertIdx_zero] at hm49
       refine mP rfl ?_
       refine mgStore 2 Ty.ag_voxel_api_Versions hm49 rfl (by kernel_rfl) (i := 12) (cs := tbs (.slice S42 l41.length c43) ((stepV (vrs l1) nx x.num x.pins x.h).2.1)) rfl (wn rfl) rfl (litEv (by kernel_rfl)) (litEv (by kernel_rfl)) rfl rfl (by kernel_rfl) (fun w_ h_ => (h_.sub (.cons_cons _ (.cons_cons _ (.cons _ (List.Sublist.cons _ ((List.Sublist.refl _).trans (List.sublist_append_right _ _)))))))) ?_
       intro w52 hm51
       clear hm49
       try simp only [List.cons_append, List.nil_append, List.set_cons_succ, List.set_cons_zero] at hm51
       refine mNone rfl ?_
       refine mk_ (i := 13) (v := .int .i64 ((stepV (vrs l1) nx x.num x.pins x.h).2.2.1)) rfl rfl (fun _ _ _ h => h) (hm51.sub (.cons_cons _ (.cons_cons _ (.cons _ (List.Sublist.cons _ ((List.Sublist.refl _).trans (List.sublist_append_right _ _))))))) rfl ?_
       refine mk_ (i := 14) (v := .slice A44 ((stepV (vrs l1) nx x.num x.pins x.h).2.2.2.1.length) c45) rfl rfl (fun _ _ _ h => h) (hm51.sub (.cons_cons _ (.cons_cons _ (.cons _ (List.Sublist.cons _ ((List.Sublist.refl _).trans (List.sublist_append_right _ _))))))) rfl ?_
       refine mk_ (i := 15) (v := .int .i64 ((stepV (vrs l1) nx x.num x.pins x.h).2.2.2.2)) rfl rfl (fun _ _ _ h => h) (hm51.sub (.cons_cons _ (.cons_cons _ (.cons _ (List.Sublist.cons _ ((List.Sublist.refl _).trans (List.sublist_append_right _ _))))))) rfl ?_
       refine mgDone (by kernel_rfl) ?_
       refine then_normal ?_
       exact ⟨g48, l41, S42, c43, A44, c45, hvl41, ⟨litSize, rfl, ⟨litGet (by kernel_rfl), ⟨litGet (by kernel_rfl), ⟨litGet (by kernel_rfl), ⟨litGet (by kernel_rfl), ⟨litGet (by kernel_rfl), ⟨litGet (by kernel_rfl), ⟨litGet (by kernel_rfl), ⟨litGet (by kernel_rfl), ⟨litGet (by kernel_rfl), ⟨litGet (by kernel_rfl), ⟨litGet (by kernel_rfl), ⟨litGet (by kernel_rfl), ⟨litGet (by kernel_rfl), ⟨litGet (by kernel_rfl), trivial⟩⟩⟩⟩⟩⟩⟩⟩⟩⟩⟩⟩⟩⟩⟩, hm51⟩
     refine mgiAlloc (i := 11) (z := [.slice none 0 0, .int .i64 0]) Ty.ag_voxel_api_Versions hm37 (fun w_ h_ => (h_.sub (.cons_cons _ (.cons_cons _ (List.Sublist.refl _))))) rfl (wn rfl) rfl ?_
     intro g53 w55 hm54
     clear hm37
     try simp only [List.cons_append, List.nil_append, List.set_cons_succ, List.set_cons_zero] at hm54
     replace hm54 := Mem.insAt (M := ((.arr g14 44 (tbs (.slice S1 l1.length c1) nx)) :: (.arr g22 44 (tbs (.slice S2 l2.length c2) nx)) :: (tbRes l1 S1 c1 ++ (tbRes l2 S2 c2 ++ lvRes L)))) 2 hm54
     simp only [List.insertIdx_succ_cons, List.insertIdx_zero] at hm54
     refine mP rfl ?_
     refine mgCall (i := 5) 24 [.agg (tbs (.slice S1 l1.length c1) nx).toArray, .agg (lvc x).toArray] [] [] (by kernel_rfl) rfl (by kernel_rfl) (wn rfl) rfl (litEv (by kernel_rfl)) (litArgs (by kernel_rfl)) (by exact played_any l1 S1 c1 nx x _ (Mem.tb ((Mem.tailN (T := (tbRes l1 S1 c1 ++ (tbRes l2 S2 c2 ++ lvRes L))) 3 hm54 rfl).sub (L' := tbRes l1 S1 c1) (List.sublist_append_left _ _))) ((Mem.lv ((Mem.tailN (T := (tbRes l1 S1 c1 ++ (tbRes l2 S2 c2 ++ lvRes L))) 3 hm54 rfl).sub (L' := lvRes L) (((List.Sublist.refl _).trans (List.sublist_append_right _ _)).trans (List.sublist_append_right _ _)))) x (List.mem_of_getElem? hkx)) (by have q_ := lenL hgv; omega) (fit_of (hfew.1 x (List.mem_of_getElem? hkx)) hft_.1 hft_.2.1 hft_.2.2.1) (pinsL hgv) (goodL hgv) ⟨by have q_ := (hgv).nx0; omega, by have q_ := (hgv).nxm; omega⟩ hft_.2.2.2) ?_
     rintro e w56 ⟨l58, S59, c60, A61, c62, rfl, hvl58, hrd_, hna_, hT_, hN_, hbz⟩
     have hm57 : Mem w w56 ([.arr g14 44 (tbs (.slice S1 l1.length c1) nx), .arr g22 44 (tbs (.slice S2 l2.length c2) nx), .arr g53 44 ([.slice none 0 0, .int .i64 0])] ++ (tbRes l58 S59 c60 ++ (tbRes l1 S1 c1 ++ (tbRes l2 S2 c2 ++ lvRes L)))) := Mem.newTb (M := (tbRes l1 S1 c1 ++ (tbRes l2 S2 c2 ++ lvRes L))) [.arr g14 44 (tbs (.slice S1 l1.length c1) nx), .arr g22 44 (tbs (.slice S2 l2.length c2) nx), .arr g53 44 ([.slice none 0 0, .int .i64 0])] hm54 hbz hT_ hN_ (hdOfL (List.mem_of_getElem? hkx) (((List.Sublist.refl _).trans (List.sublist_append_right _ _)).trans (List.sublist_append_right _ _)) (List.sublist_append_left _ _)) (mutApp (fun _ h_ => tbRes_mut h_) (mutApp (fun _ h_ => tbRes_mut h_) (fun _ h_ => lvRes_mut h_)))
     have hm63 : Mem w w56 ([.arr g14 44 (tbs (.slice S1 l1.length c1) nx), .arr g22 44 (tbs (.slice S2 l2.length c2) nx), .arr g53 44 ([.slice none 0 0, .int .i64 0])] ++ ((.rd A61 1 (stepV (vrs l1) nx x.num x.pins x.h).2.2.2.1.length c62 (ics (stepV (vrs l1) nx x.num x.pins x.h).2.2.2.1)) :: (tbRes l58 S59 c60 ++ (tbRes l1 S1 c1 ++ (tbRes l2 S2 c2 ++ lvRes L))))) := Mem.newRdMid (M0 := (tbRes l1 S1 c1 ++ (tbRes l2 S2 c2 ++ lvRes L))) [.arr g14 44 (tbs (.slice S1 l1.length c1) nx), .arr g22 44 (tbs (.slice S2 l2.length c2) nx), .arr g53 44 ([.slice none 0 0, .int .i64 0])] hm54 hm57 hrd_ hna_ (mutApp (fun _ h_ => tbRes_mut h_) (mutApp (fun _ h_ => tbRes_mut h_) (mutApp (fun _ h_ => tbRes_mut h_) (fun _ h_ => lvRes_mut h_))))
     clear hm57
     have hm64 : Mem w w56 ((.arr g14 44 (tbs (.slice S1 l1.length c1) nx)) :: (.arr g22 44 (tbs (.slice S2 l2.length c2) nx)) :: (.arr g53 44 ([.slice none 0 0, .int .i64 0])) :: ((.rd A61 1 (stepV (vrs l1) nx x.num x.pins x.h).2.2.2.1.length c62 (ics (stepV (vrs l1) nx x.num x.pins x.h).2.2.2.1)) :: (tbRes l58 S59 c60 ++ (tbRes l1 S1 c1 ++ (tbRes l2 S2 c2 ++ lvRes L))))) := hm63
     clear hm63
     clear hT_ hN_ hbz hrd_ hna_
     refine ⟨_, rfl, (hm64.sub (.cons_cons _ (.cons_cons _ (.cons _ (List.Sublist.cons _ ((List.Sublist.refl _).trans (List.sublist_append_right _ _))))))), ?_⟩
     refine mP rfl ?_
     refine mk_ (i := 6) (v := .tuple #[.agg (tbs (.slice S59 l58.length c60) ((stepV (vrs l1) nx x.num x.pins x.h).2.1)).toArray, .int .i64 ((stepV (vrs l1) nx x.num x.pins x.h).2.2.1), .slice A61 ((stepV (vrs l1) nx x.num x.pins x.h).2.2.2.1.length) c62, .int .i64 ((stepV (vrs l1) nx x.num x.pins x.h).2.2.2.2)]) rfl rfl (fun _ _ _ h => h) (hm64.sub (.cons_cons _ (.cons_cons _ (.cons _ (List.Sublist.cons _ ((List.Sublist.refl _).trans (List.sublist_append_right _ _))))))) rfl ?_
     refine mk_ (i := 7) (v := .agg (tbs (.slice S59 l58.length c60) ((stepV (vrs l1) nx x.num x.pins x.h).2.1)).toArray) rfl rfl (fun _ _ _ h => h) (hm64.sub (.cons_cons _ (.cons_cons _ (.cons _ (List.Sublist.cons _ ((List.Sublist.refl _).trans (List.sublist_append_right _ _))))))) rfl ?_
     refine mk_ (i := 8) (v := .int .i64 ((stepV (vrs l1) nx x.num x.pins x.h).2.2.1)) rfl rfl (fun _ _ _ h => h) (hm64.sub (.cons_cons _ (.cons_cons _ (.cons _ (List.Sublist.cons _ ((List.Sublist.refl _).trans (List.sublist_append_right _ _))))))) rfl ?_
     refine mk_ (i := 9) (v := .slice A61 ((stepV (vrs l1) nx x.num x.pins x.h).2.2.2.1.length) c62) rfl rfl (fun _ _ _ h => h) (hm64.sub (.cons_cons _ (.cons_cons _ (.cons _ (List.Sublist.cons _ ((List.Sublist.refl _).trans (List.sublist_append_right _ _))))))) rfl ?_
     refine mk_ (i := 10) (v := .int .i64 ((stepV (vrs l1) nx x.num x.pins x.h).2.2.2.2)) rfl rfl (fun _ _ _ h => h) (hm64.sub (.cons_cons _ (.cons_cons _ (.cons _ (List.Sublist.cons _ ((List.Sublist.refl _).trans (List.sublist_append_right _ _))))))) rfl ?_
     refine mgStore 2 Ty.ag_voxel_api_Versions hm64 rfl (by kernel_rfl) (i := 12) (cs := tbs (.slice S59 l58.length c60) ((stepV (vrs l1) nx x.num x.pins x.h).2.1)) rfl (wn rfl) rfl (litEv (by kernel_rfl)) (litEv (by kernel_rfl)) rfl rfl (by kernel_rfl) (fun w_ h_ => (h_.sub (.cons_cons _ (.cons_cons _ (.cons _ (List.Sublist.cons _ ((List.Sublist.refl _).trans (List.sublist_append_right _ _)))))))) ?_
     intro w66 hm65
     clear hm64
     try simp only [List.cons_append, List.nil_append, List.set_cons_succ, List.set_cons_zero] at hm65
     refine mNone rfl ?_
     refine mk_ (i := 13) (v := .int .i64 ((stepV (vrs l1) nx x.num x.pins x.h).2.2.1)) rfl rfl (fun _ _ _ h => h) (hm65.sub (.cons_cons _ (.cons_cons _ (.cons _ (List.Sublist.cons _ ((List.Sublist.refl _).trans (List.sublist_append_right _ _))))))) rfl ?_
     refine mk_ (i := 14) (v := .slice A61 ((stepV (vrs l1) nx x.num x.pins x.h).2.2.2.1.length) c62) rfl rfl (fun _ _ _ h => h) (hm65.sub (.cons_cons _ (.cons_cons _ (.cons _ (List.Sublist.cons _ ((List.Sublist.refl _).trans (List.sublist_append_right _ _))))))) rfl ?_
     refine mk_ (i := 15) (v := .int .i64 ((stepV (vrs l1) nx x.num x.pins x.h).2.2.2.2)) rfl rfl (fun _ _ _ h => h) (hm65.sub (.cons_cons _ (.cons_cons _ (.cons _ (List.Sublist.cons _ ((List.Sublist.refl _).trans (List.sublist_append_right _ _))))))) rfl ?_
     refine mgDone (by kernel_rfl) ?_
     refine then_normal ?_
     exact ⟨g53, l58, S59, c60, A61, c62, hvl58, ⟨litSize, rfl, ⟨litGet (by kernel_rfl), ⟨litGet (by kernel_rfl), ⟨litGet (by kernel_rfl), ⟨litGet (by kernel_rfl), ⟨litGet (by kernel_rfl), ⟨litGet (by kernel_rfl), ⟨litGet (by kernel_rfl), ⟨litGet (by kernel_rfl), ⟨litGet (by kernel_rfl), ⟨litGet (by kernel_rfl), ⟨litGet (by kernel_rfl), ⟨litGet (by kernel_rfl), ⟨litGet (by kernel_rfl), ⟨litGet (by kernel_rfl), trivial⟩⟩⟩⟩⟩⟩⟩⟩⟩⟩⟩⟩⟩⟩⟩, hm65⟩
   clear hm30
   intro a69 w67 hI_
   obtain ⟨gga, la, Sa, ca, Aa, da, hva, hF_, hm68⟩ := hI_
   obtain ⟨X70, rfl⟩ := frLit hF_
   clear hF_
   refine gwCut (fun a_ w_ => ∃ (ggb : Nat) (lb : List Lv) (Sb : Option Addr) (cb : Nat) (Ab : Option Addr) (db : Nat), (vrs lb = (stepV (vrs l1) nx x.num x.pins x.h).1) ∧ Fr a_ 117 [(0, .slice (some ⟨bS_, oS_, none⟩) L.length cS), (1, .int .i64 num), (5, .bool true), (6, .pointer (some ⟨g14, 0, none⟩)), (7, .pointer (some ⟨g22, 0, none⟩)), (8, .int .i64 (k : Int)), (9, .pointer (some ⟨gga, 0, none⟩)), (10, .int .i64 ((stepV (vrs l1) nx x.num x.pins x.h).2.2.1)), (11, .slice Aa ((stepV (vrs l1) nx x.num x.pins x.h).2.2.2.1.length) da), (12, .int .i64 ((stepV (vrs l1) nx x.num x.pins x.h).2.2.2.2)), (13, .pointer (some ⟨ggb, 0, none⟩)), (14, .int .i64 ((stepV (vrs l1) nx x.num x.pins x.h).2.2.1)), (15, .slice Ab ((stepV (vrs l1) nx x.num x.pins x.h).2.2.2.1.length) db), (16, .int .i64 ((stepV (vrs l1) nx x.num x.pins x.h).2.2.2.2)), (32, .int .i64 (k : Int)), (33, .slice (some ⟨bS_, oS_, none⟩) L.length cS), (34, .int .i64 (L.length : Int)), (35, .bool true)] ∧ Mem w w_ ((.arr g14 44 (tbs (.slice S1 l1.length c1) nx)) :: (.arr g22 44 (tbs (.slice S2 l2.length c2) nx)) :: (.arr gga 44 (tbs (.slice Sa la.length ca) ((stepV (vrs l1) nx x.num x.pins x.h).2.1))) :: (.arr ggb 44 (tbs (.slice Sb lb.length cb) ((stepV (vrs l1) nx x.num x.pins x.h).2.1))) :: ((.rd Ab 1 (stepV (vrs l1) nx x.num x.pins x.h).2.2.2.1.length db (ics (stepV (vrs l1) nx x.num x.pins x.h).2.2.2.1)) :: (tbRes lb Sb cb ++ ((.rd Aa 1 (stepV (vrs l1) nx x.num x.pins x.h).2.2.2.1.length da (ics (stepV (vrs l1) nx x.num x.pins x.h).2.2.2.1)) :: (tbRes la Sa ca ++ (tbRes l1 S1 c1 ++ (tbRes l2 S2 c2 ++ lvRes L)))))))) ?_ ?_
   · refine mgStartM ((.arr g14 44 (tbs (.slice S1 l1.length c1) nx)) :: (.arr g22 44 (tbs (.slice S2 l2.length c2) nx)) :: (.arr gga 44 (tbs (.slice Sa la.length ca) ((stepV (vrs l1) nx x.num x.pins x.h).2.1))) :: ((.rd Aa 1 (stepV (vrs l1) nx x.num x.pins x.h).2.2.2.1.length da (ics (stepV (vrs l1) nx x.num x.pins x.h).2.2.2.1)) :: (tbRes la Sa ca ++ (tbRes l1 S1 c1 ++ (tbRes l2 S2 c2 ++ lvRes L))))) hm68 (by kernel_rfl) ?_
     intro w72 hm71
     clear hm68
     refine mgTake (i := 0) (v := .agg (tbs (.slice S2 l2.length c2) nx).toArray) rfl (by kernel_rfl) (wn rfl) (fun _ _ _ h => h) (hm71.sub (.cons_cons _ (.cons_cons _ (.cons_cons _ (List.Sublist.refl _))))) (fun w_ h_ => gLoadAg (vs := tbs (.slice S2 l2.length c2) nx) (k := 0) 1 h_ rfl (by kernel_rfl) (by kernel_rfl) (.tmp 7) Ty.ag_voxel_api_Versions rfl (litEv (by kernel_rfl))) ?_
     refine mP rfl ?_
     refine mk_ (i := 1) (v := .slice (some ⟨bS_, oS_, none⟩) L.length cS) rfl rfl (fun _ _ _ h => h) (hm71.sub (.cons_cons _ (.cons_cons _ (.cons_cons _ (List.Sublist.refl _))))) rfl ?_
     refine mk_ (i := 2) (v := .int .i64 (k : Int)) rfl rfl (fun _ _ _ h => h) (hm71.sub (.cons_cons _ (.cons_cons _ (.cons_cons _ (List.Sublist.refl _))))) rfl ?_
     refine mgTake (i := 3) (v := .pointer (some ⟨bS_, oS_ + k * 6, none⟩)) rfl (by kernel_rfl) (wn rfl) (fun _ _ _ h => h) (hm71.sub (.cons_cons _ (.cons_cons _ (.cons_cons _ (List.Sublist.refl _))))) (fun w_ h_ => gIaSl (b := bS_) (off := oS_) (n := L.length) (c := cS) (kk := .i64) (K := (k : Int)) (.tmp 51) (.tmp 52) k Ty.sl_L_voxelref18_Step rfl (litEv (by kernel_rfl)) (litEv (by kernel_rfl)) (rfl) (by omega)) ?_
     refine mP rfl ?_
     refine mgTake (i := 4) (v := .agg (lvc x).toArray) rfl (by kernel_rfl) (wn rfl) (fun _ _ _ h => h) (hm71.sub (.cons_cons _ (.cons_cons _ (.cons_cons _ (List.Sublist.refl _))))) (fun w_ h_ => gLoadAgRd (vs := lvc x) (m := k * 6) ((Rd.below hS h_.bel).more h_.bel.size) rfl (fun i_ u_ hu_ => lvs_get hkx i_ u_ hu_) (by kernel_rfl) (by omega) (.tmp 53) Ty.ag_voxel_voxelref18_Step rfl (litEv (by kernel_rfl))) ?_
     refine mP rfl ?_
     refine mgFork (i := 5) (j := 11) (by kernel_rfl) (by kernel_rfl) (by kernel_rfl) ?_ ?_
     · refine mgiCall (i := 5) 25 [.agg (tbs (.slice S2 l2.length c2) nx).toArray, .agg (lvc x).toArray] [] [] rfl (by kernel_rfl) (wn rfl) rfl (litEv (by kernel_rfl)) (litArgs (by kernel_rfl)) (by have h_ := specified_any l2 S2 c2 nx x _ (Mem.tb ((Mem.tailN (T := ((.rd Aa 1 (stepV (vrs l1) nx x.num x.pins x.h).2.2.2.1.length da (ics (stepV (vrs l1) nx x.num x.pins x.h).2.2.2.1)) :: (tbRes la Sa ca ++ (tbRes l1 S1 c1 ++ (tbRes l2 S2 c2 ++ lvRes L))))) 3 hm71 rfl).sub (L' := tbRes l2 S2 c2) (List.Sublist.cons _ (((List.sublist_append_left _ _).trans (List.sublist_append_right _ _)).trans (List.sublist_append_right _ _))))) ((Mem.lv ((Mem.tailN (T := ((.rd Aa 1 (stepV (vrs l1) nx x.num x.pins x.h).2.2.2.1.length da (ics (stepV (vrs l1) nx x.num x.pins x.h).2.2.2.1)) :: (tbRes la Sa ca ++ (tbRes l1 S1 c1 ++ (tbRes l2 S2 c2 ++ lvRes L))))) 3 hm71 rfl).sub (L' := lvRes L) (List.Sublist.cons _ ((((List.Sublist.refl _).trans (List.sublist_append_right _ _)).trans (List.sublist_append_right _ _)).trans (List.sublist_append_right _ _))))) x (List.mem_of_getElem? hkx)) (by have q_ := lenL (hvm ▸ hgv); omega) (fit_of (hfew.1 x (List.mem_of_getElem? hkx)) hft_.1 hft_.2.1 hft_.2.2.1) (pinsL (hvm ▸ hgv)) (goodL (hvm ▸ hgv)) ⟨by have q_ := ((hvm ▸ hgv)).nx0; omega, by have q_ := ((hvm ▸ hgv)).nxm; omega⟩ hft_.2.2.2; rw [← hvm] at h_; exact h_) ?_
       rintro e w73 ⟨l75, S76, c77, A78, c79, rfl, hvl75, hrd_, hna_, hT_, hN_, hbz⟩
       have hm74 : Mem w w73 ([.arr g14 44 (tbs (.slice S1 l1.length c1) nx), .arr g22 44 (tbs (.slice S2 l2.length c2) nx), .arr gga 44 (tbs (.slice Sa la.length ca) ((stepV (vrs l1) nx x.num x.pins x.h).2.1))] ++ (tbRes l75 S76 c77 ++ ((.rd Aa 1 (stepV (vrs l1) nx x.num x.pins x.h).2.2.2.1.length da (ics (stepV (vrs l1) nx x.num x.pins x.h).2.2.2.1)) :: (tbRes la Sa ca ++ (tbRes l1 S1 c1 ++ (tbRes l2 S2 c2 ++ lvRes L)))))) := Mem.newTb (M := ((.rd Aa 1 (stepV (vrs l1) nx x.num x.pins x.h).2.2.2.1.length da (ics (stepV (vrs l1) nx x.num x.pins x.h).2.2.2.1)) :: (tbRes la Sa ca ++ (tbRes l1 S1 c1 ++ (tbRes l2 S2 c2 ++ lvRes L))))) [.arr g14 44 (tbs (.slice S1 l1.length c1) nx), .arr g22 44 (tbs (.slice S2 l2.length c2) nx), .arr gga 44 (tbs (.slice Sa la.length ca) ((stepV (vrs l1) nx x.num x.pins x.h).2.1))] hm71 hbz hT_ hN_ (hdOfL (List.mem_of_getElem? hkx) (List.Sublist.cons _ ((((List.Sublist.refl _).trans (List.sublist_append_right _ _)).trans (List.sublist_append_right _ _)).trans (List.sublist_append_right _ _))) (List.Sublist.cons _ (((List.sublist_append_left _ _).trans (List.sublist_append_right _ _)).trans (List.sublist_append_right _ _)))) (mutCons (mutApp (fun _ h_ => tbRes_mut h_) (mutApp (fun _ h_ => tbRes_mut h_) (mutApp (fun _ h_ => tbRes_mut h_) (fun _ h_ => lvRes_mut h_)))))
       have hm80 : Mem w w73 ([.arr g14 44 (tbs (.slice S1 l1.length c1) nx), .arr g22 44 (tbs (.slice S2 l2.length c2) nx), .arr gga 44 (tbs (.slice Sa la.length ca) ((stepV (vrs l1) nx x.num x.pins x.h).2.1))] ++ ((.rd A78 1 (stepV (vrs l1) nx x.num x.pins x.h).2.2.2.1.length c79 (ics (stepV (vrs l1) nx x.num x.pins x.h).2.2.2.1)) :: (tbRes l75 S76 c77 ++ ((.rd Aa 1 (stepV (vrs l1) nx x.num x.pins x.h).2.2.2.1.length da (ics (stepV (vrs l1) nx x.num x.pins x.h).2.2.2.1)) :: (tbRes la Sa ca ++ (tbRes l1 S1 c1 ++ (tbRes l2 S2 c2 ++ lvRes L))))))) := Mem.newRdMid (M0 := ((.rd Aa 1 (stepV (vrs l1) nx x.num x.pins x.h).2.2.2.1.length da (ics (stepV (vrs l1) nx x.num x.pins x.h).2.2.2.1)) :: (tbRes la Sa ca ++ (tbRes l1 S1 c1 ++ (tbRes l2 S2 c2 ++ lvRes L))))) [.arr g14 44 (tbs (.slice S1 l1.length c1) nx), .arr g22 44 (tbs (.slice S2 l2.length c2) nx), .arr gga 44 (tbs (.slice Sa la.length ca) ((stepV (vrs l1) nx x.num x.pins x.h).2.1))] hm71 hm74 hrd_ hna_ (mutApp (fun _ h_ => tbRes_mut h_) (mutCons (mutApp (fun _ h_ => tbRes_mut h_) (mutApp (fun _ h_ => tbRes_mut h_) (mutApp (fun _ h_ => tbRes_mut h_) (fun _ h_ => lvRes_mut h_))))))
       clear hm74
       have hm81 : Mem w w73 ((.arr g14 44 (tbs (.slice S1 l1.length c1) nx)) :: (.arr g22 44 (tbs (.slice S2 l2.length c2) nx)) :: (.arr gga 44 (tbs (.slice Sa la.length ca) ((stepV (vrs l1) nx x.num x.pins x.h).2.1))) :: ((.rd A78 1 (stepV (vrs l1) nx x.num x.pins x.h).2.2.2.1.length c79 (ics (stepV (vrs l1) nx x.num x.pins x.h).2.2.2.1)) :: (tbRes l75 S76 c77 ++ ((.rd Aa 1 (stepV (vrs l1) nx x.num x.pins x.h).2.2.2.1.length da (ics (stepV (vrs l1) nx x.num x.pins x.h).2.2.2.1)) :: (tbRes la Sa ca ++ (tbRes l1 S1 c1 ++ (tbRes l2 S2 c2 ++ lvRes L))))))) := hm80
       clear hm80
       clear hT_ hN_ hbz hrd_ hna_
       refine ⟨_, rfl, (hm81.sub (.cons_cons _ (.cons_cons _ (.cons_cons _ (List.Sublist.cons _ ((List.Sublist.refl _).trans (List.sublist_append_right _ _))))))), ?_⟩
       refine mP rfl ?_
       refine mk_ (i := 6) (v := .tuple #[.agg (tbs (.slice S76 l75.length c77) ((stepV (vrs l1) nx x.num x.pins x.h).2.1)).toArray, .int .i64 ((stepV (vrs l1) nx x.num x.pins x.h).2.2.1), .slice A78 ((stepV (vrs l1) nx x.num x.pins x.h).2.2.2.1.length) c79, .int .i64 ((stepV (vrs l1) nx x.num x.pins x.h).2.2.2.2)]) rfl rfl (fun _ _ _ h => h) (hm81.sub (.cons_cons _ (.cons_cons _ (.cons_cons _ (List.Sublist.cons _ ((List.Sublist.refl _).trans (List.sublist_append_right _ _))))))) rfl ?_
       refine mk_ (i := 7) (v := .agg (tbs (.slice S76 l75.length c77) ((stepV (vrs l1) nx x.num x.pins x.h).2.1)).toArray) rfl rfl (fun _ _ _ h => h) (hm81.sub (.cons_cons _ (.cons_cons _ (.cons_cons _ (List.Sublist.cons _ ((List.Sublist.refl _).trans (List.sublist_append_right _ _))))))) rfl ?_
       refine mk_ (i := 8) (v := .int .i64 ((stepV (vrs l1) nx x.num x.pins x.h).2.2.1)) rfl rfl (fun _ _ _ h => h) (hm81.sub (.cons_cons _ (.cons_cons _ (.cons_cons _ (List.Sublist.cons _ ((List.Sublist.refl _).trans (List.sublist_append_right _ _))))))) rfl ?_
       refine mk_ (i := 9) (v := .slice A78 ((stepV (vrs l1) nx x.num x.pins x.h).2.2.2.1.length) c79) rfl rfl (fun _ _ _ h => h) (hm81.sub (.cons_cons _ (.cons_cons _ (.cons_cons _ (List.Sublist.cons _ ((List.Sublist.refl _).trans (List.sublist_append_right _ _))))))) rfl ?_
       refine mk_ (i := 10) (v := .int .i64 ((stepV (vrs l1) nx x.num x.pins x.h).2.2.2.2)) rfl rfl (fun _ _ _ h => h) (hm81.sub (.cons_cons _ (.cons_cons _ (.cons_cons _ (List.Sublist.cons _ ((List.Sublist.refl _).trans (List.sublist_append_right _ _))))))) rfl ?_
       refine mgAlloc (i := 11) (z := [.slice none 0 0, .int .i64 0]) Ty.ag_voxel_api_Versions hm81 (fun w_ h_ => (h_.sub (.cons_cons _ (.cons_cons _ (.cons_cons _ (List.Sublist.cons _ ((List.Sublist.refl _).trans (List.sublist_append_right _ _)))))))) (by kernel_rfl) rfl (wn rfl) rfl ?_
       intro g82 w84 hm83
       clear hm81
       try simp only [List.cons_append, List.nil_append, List.set_cons_succ, List.set_cons_zero] at hm83
       replace hm83 := Mem.insAt (M := ((.arr g14 44 (tbs (.slice S1 l1.length c1) nx)) :: (.arr g22 44 (tbs (.slice S2 l2.length c2) nx)) :: (.arr gga 44 (tbs (.slice Sa la.length ca) ((stepV (vrs l1) nx x.num x.pins x.h).2.1))) :: ((.rd A78 1 (stepV (vrs l1) nx x.num x.pins x.h).2.2.2.1.length c79 (ics (stepV (vrs l1) nx x.num x.pins x.h).2.2.2.1)) :: (tbRes l75 S76 c77 ++ ((.rd Aa 1 (stepV (vrs l1) nx x.num x.pins x.h).2.2.2.1.length da (ics (stepV (vrs l1) nx x.num x.pins x.h).2.2.2.1)) :: (tbRes la Sa ca ++ (tbRes l1 S1 c1 ++ (tbRes l2 S2 c2 ++ lvRes L)))))))) 3 hm83
       simp only [List.insertIdx_succ_cons, List.insertIdx_zero] at hm83
       refine mP rfl ?_
       refine mgStore 3 Ty.ag_voxel_api_Versions hm83 rfl (by kernel_rfl) (i := 12) (cs := tbs (.slice S76 l75.length c77) ((stepV (vrs l1) nx x.num x.pins x.h).2.1)) rfl (wn rfl) rfl (litEv (by kernel_rfl)) (litEv (by kernel_rfl)) rfl rfl (by kernel_rfl) (fun w_ h_ => (h_.sub (.cons_cons _ (.cons_cons _ (.cons_cons _ (.cons _ (List.Sublist.cons _ ((List.Sublist.refl _).trans (List.sublist_append_right _ _))))))))) ?_
       intro w86 hm85
       clear hm83
       try simp only [List.cons_append, List.nil_append, List.set_cons_succ, List.set_cons_zero] at hm85
       refine mNone rfl ?_
       refine mk_ (i := 13) (v := .int .i64 ((stepV (vrs l1) nx x.num x.pins x.h).2.2.1)) rfl rfl (fun _ _ _ h => h) (hm85.sub (.cons_cons _ (.cons_cons _ (.cons_cons _ (.cons _ (List.Sublist.cons _ ((List.Sublist.refl _).trans (List.sublist_append_right _ _)))))))) rfl ?_
       refine mk_ (i := 14) (v := .slice A78 ((stepV (vrs l1) nx x.num x.pins x.h).2.2.2.1.length) c79) rfl rfl (fun _ _ _ h => h) (hm85.sub (.cons_cons _ (.cons_cons _ (.cons_cons _ (.cons _ (List.Sublist.cons _ ((List.Sublist.refl _).trans (List.sublist_append_right _ _)))))))) rfl ?_
       refine mk_ (i := 15) (v := .int .i64 ((stepV (vrs l1) nx x.num x.pins x.h).2.2.2.2)) rfl rfl (fun _ _ _ h => h) (hm85.sub (.cons_cons _ (.cons_cons _ (.cons_cons _ (.cons _ (List.Sublist.cons _ ((List.Sublist.refl _).trans (List.sublist_append_right _ _)))))))) rfl ?_
       refine mgDone (by kernel_rfl) ?_
       refine then_normal ?_
       exact ⟨g82, l75, S76, c77, A78, c79, hvl75, ⟨litSize, rfl, ⟨litGet (by kernel_rfl), ⟨litGet (by kernel_rfl), ⟨litGet (by kernel_rfl), ⟨litGet (by kernel_rfl), ⟨litGet (by kernel_rfl), ⟨litGet (by kernel_rfl), ⟨litGet (by kernel_rfl), ⟨litGet (by kernel_rfl), ⟨litGet (by kernel_rfl), ⟨litGet (by kernel_rfl), ⟨litGet (by kernel_rfl), ⟨litGet (by kernel_rfl), ⟨litGet (by kernel_rfl), ⟨litGet (by kernel_rfl), ⟨litGet (by kernel_rfl), ⟨litGet (by kernel_rfl), ⟨litGet (by kernel_rfl), ⟨litGet (by kernel_rfl), trivial⟩⟩⟩⟩⟩⟩⟩⟩⟩⟩⟩⟩⟩⟩⟩⟩⟩⟩⟩, hm85⟩
     refine mgiAlloc (i := 11) (z := [.slice none 0 0, .int .i64 0]) Ty.ag_voxel_api_Versions hm71 (fun w_ h_ => (h_.sub (.cons_cons _ (.cons_cons _ (.cons_cons _ (List.Sublist.refl _)))))) rfl (wn rfl) rfl ?_
     intro g87 w89 hm88
     clear hm71
     try simp only [List.cons_append, List.nil_append, List.set_cons_succ, List.set_cons_zero] at hm88
     replace hm88 := Mem.insAt (M := ((.arr g14 44 (tbs (.slice S1 l1.length c1) nx)) :: (.arr g22 44 (tbs (.slice S2 l2.length c2) nx)) :: (.arr gga 44 (tbs (.slice Sa la.length ca) ((stepV (vrs l1) nx x.num x.pins x.h).2.1))) :: ((.rd Aa 1 (stepV (vrs l1) nx x.num x.pins x.h).2.2.2.1.length da (ics (stepV (vrs l1) nx x.num x.pins x.h).2.2.2.1)) :: (tbRes la Sa ca ++ (tbRes l1 S1 c1 ++ (tbRes l2 S2 c2 ++ lvRes L)))))) 3 hm88
     simp only [List.insertIdx_succ_cons, List.insertIdx_zero] at hm88
     refine mP rfl ?_
     refine mgCall (i := 5) 25 [.agg (tbs (.slice S2 l2.length c2) nx).toArray, .agg (lvc x).toArray] [] [] (by kernel_rfl) rfl (by kernel_rfl) (wn rfl) rfl (litEv (by kernel_rfl)) (litArgs (by kernel_rfl)) (by have h_ := specified_any l2 S2 c2 nx x _ (Mem.tb ((Mem.tailN (T := ((.rd Aa 1 (stepV (vrs l1) nx x.num x.pins x.h).2.2.2.1.length da (ics (stepV (vrs l1) nx x.num x.pins x.h).2.2.2.1)) :: (tbRes la Sa ca ++ (tbRes l1 S1 c1 ++ (tbRes l2 S2 c2 ++ lvRes L))))) 4 hm88 rfl).sub (L' := tbRes l2 S2 c2) (List.Sublist.cons _ (((List.sublist_append_left _ _).trans (List.sublist_append_right _ _)).trans (List.sublist_append_right _ _))))) ((Mem.lv ((Mem.tailN (T := ((.rd Aa 1 (stepV (vrs l1) nx x.num x.pins x.h).2.2.2.1.length da (ics (stepV (vrs l1) nx x.num x.pins x.h).2.2.2.1)) :: (tbRes la Sa ca ++ (tbRes l1 S1 c1 ++ (tbRes l2 S2 c2 ++ lvRes L))))) 4 hm88 rfl).sub (L' := lvRes L) (List.Sublist.cons _ ((((List.Sublist.refl _).trans (List.sublist_append_right _ _)).trans (List.sublist_append_right _ _)).trans (List.sublist_append_right _ _))))) x (List.mem_of_getElem? hkx)) (by have q_ := lenL (hvm ▸ hgv); omega) (fit_of (hfew.1 x (List.mem_of_getElem? hkx)) hft_.1 hft_.2.1 hft_.2.2.1) (pinsL (hvm ▸ hgv)) (goodL (hvm ▸ hgv)) ⟨by have q_ := ((hvm ▸ hgv)).nx0; omega, by have q_ := ((hvm ▸ hgv)).nxm; omega⟩ hft_.2.2.2; rw [← hvm] at h_; exact h_) ?_
     rintro e w90 ⟨l92, S93, c94, A95, c96, rfl, hvl92, hrd_, hna_, hT_, hN_, hbz⟩
     have hm91 : Mem w w90 ([.arr g14 44 (tbs (.slice S1 l1.length c1) nx), .arr g22 44 (tbs (.slice S2 l2.length c2) nx), .arr gga 44 (tbs (.slice Sa la.length ca) ((stepV (vrs l1) nx x.num x.pins x.h).2.1)), .arr g87 44 ([.slice none 0 0, .int .i64 0])] ++ (tbRes l92 S93 c94 ++ ((.rd Aa 1 (stepV (vrs l1) nx x.num x.pins x.h).2.2.2.1.length da (ics (stepV (vrs l1) nx x.num x.pins x.h).2.2.2.1)) :: (tbRes la Sa ca ++ (tbRes l1 S1 c1 ++ (tbRes l2 S2 c2 ++ lvRes L)))))) := Mem.newTb (M := ((.rd Aa 1 (stepV (vrs l1) nx x.num x.pins x.h).2.2.2.1.length da (ics (stepV (vrs l1) nx x.num x.pins x.h).2.2.2.1)) :: (tbRes la Sa ca ++ (tbRes l1 S1 c1 ++ (tbRes l2 S2 c2 ++ lvRes L))))) [.arr g14 44 (tbs (.slice S1 l1.length c1) nx), .arr g22 44 (tbs (.slice S2 l2.length c2) nx), .arr gga 44 (tbs (.slice Sa la.length ca) ((stepV (vrs l1) nx x.num x.pins x.h).2.1)), .arr g87 44 ([.slice none 0 0, .int .i64 0])] hm88 hbz hT_ hN_ (hdOfL (List.mem_of_getElem? hkx) (List.Sublist.cons _ ((((List.Sublist.refl _).trans (List.sublist_append_right _ _)).trans (List.sublist_append_right _ _)).trans (List.sublist_append_right _ _))) (List.Sublist.cons _ (((List.sublist_append_left _ _).trans (List.sublist_append_right _ _)).trans (List.sublist_append_right _ _)))) (mutCons (mutApp (fun _ h_ => tbRes_mut h_) (mutApp (fun _ h_ => tbRes_mut h_) (mutApp (fun _ h_ => tbRes_mut h_) (fun _ h_ => lvRes_mut h_)))))
     have hm97 : Mem w w90 ([.arr g14 44 (tbs (.slice S1 l1.length c1) nx), .arr g22 44 (tbs (.slice S2 l2.length c2) nx), .arr gga 44 (tbs (.slice Sa la.length ca) ((stepV (vrs l1) nx x.num x.pins x.h).2.1)), .arr g87 44 ([.slice none 0 0, .int .i64 0])] ++ ((.rd A95 1 (stepV (vrs l1) nx x.num x.pins x.h).2.2.2.1.length c96 (ics (stepV (vrs l1) nx x.num x.pins x.h).2.2.2.1)) :: (tbRes l92 S93 c94 ++ ((.rd Aa 1 (stepV (vrs l1) nx x.num x.pins x.h).2.2.2.1.length da (ics (stepV (vrs l1) nx x.num x.pins x.h).2.2.2.1)) :: (tbRes la Sa ca ++ (tbRes l1 S1 c1 ++ (tbRes l2 S2 c2 ++ lvRes L))))))) := Mem.newRdMid (M0 := ((.rd Aa 1 (stepV (vrs l1) nx x.num x.pins x.h).2.2.2.1.length da (ics (stepV (vrs l1) nx x.num x.pins x.h).2.2.2.1)) :: (tbRes la Sa ca ++ (tbRes l1 S1 c1 ++ (tbRes l2 S2 c2 ++ lvRes L))))) [.arr g14 44 (tbs (.slice S1 l1.length c1) nx), .arr g22 44 (tbs (.slice S2 l2.length c2) nx), .arr gga 44 (tbs (.slice Sa la.length ca) ((stepV (vrs l1) nx x.num x.pins x.h).2.1)), .arr g87 44 ([.slice none 0 0, .int .i64 0])] hm88 hm91 hrd_ hna_ (mutApp (fun _ h_ => tbRes_mut h_) (mutCons (mutApp (fun _ h_ => tbRes_mut h_) (mutApp (fun _ h_ => tbRes_mut h_) (mutApp (fun _ h_ => tbRes_mut h_) (fun _ h_ => lvRes_mut h_))))))
     clear hm91
     have hm98 : Mem w w90 ((.arr g14 44 (tbs (.slice S1 l1.length c1) nx)) :: (.arr g22 44 (tbs (.slice S2 l2.length c2) nx)) :: (.arr gga 44 (tbs (.slice Sa la.length ca) ((stepV (vrs l1) nx x.num x.pins x.h).2.1))) :: (.arr g87 44 ([.slice none 0 0, .int .i64 0])) :: ((.rd A95 1 (stepV (vrs l1) nx x.num x.pins x.h).2.2.2.1.length c96 (ics (stepV (vrs l1) nx x.num x.pins x.h).2.2.2.1)) :: (tbRes l92 S93 c94 ++ ((.rd Aa 1 (stepV (vrs l1) nx x.num x.pins x.h).2.2.2.1.length da (ics (stepV (vrs l1) nx x.num x.pins x.h).2.2.2.1)) :: (tbRes la Sa ca ++ (tbRes l1 S1 c1 ++ (tbRes l2 S2 c2 ++ lvRes L))))))) := hm97
     clear hm97
     clear hT_ hN_ hbz hrd_ hna_
     refine ⟨_, rfl, (hm98.sub (.cons_cons _ (.cons_cons _ (.cons_cons _ (.cons _ (List.Sublist.cons _ ((List.Sublist.refl _).trans (List.sublist_append_right _ _)))))))), ?_⟩
     refine mP rfl ?_
     refine mk_ (i := 6) (v := .tuple #[.agg (tbs (.slice S93 l92.length c94) ((stepV (vrs l1) nx x.num x.pins x.h).2.1)).toArray, .int .i64 ((stepV (vrs l1) nx x.num x.pins x.h).2.2.1), .slice A95 ((stepV (vrs l1) nx x.num x.pins x.h).2.2.2.1.length) c96, .int .i64 ((stepV (vrs l1) nx x.num x.pins x.h).2.2.2.2)]) rfl rfl (fun _ _ _ h => h) (hm98.sub (.cons_cons _ (.cons_cons _ (.cons_cons _ (.cons _ (List.Sublist.cons _ ((List.Sublist.refl _).trans (List.sublist_append_right _ _)))))))) rfl ?_
     refine mk_ (i := 7) (v := .agg (tbs (.slice S93 l92.length c94) ((stepV (vrs l1) nx x.num x.pins x.h).2.1)).toArray) rfl rfl (fun _ _ _ h => h) (hm98.sub (.cons_cons _ (.cons_cons _ (.cons_cons _ (.cons _ (List.Sublist.cons _ ((List.Sublist.refl _).trans (List.sublist_append_right _ _)))))))) rfl ?_
     refine mk_ (i := 8) (v := .int .i64 ((stepV (vrs l1) nx x.num x.pins x.h).2.2.1)) rfl rfl (fun _ _ _ h => h) (hm98.sub (.cons_cons _ (.cons_cons _ (.cons_cons _ (.cons _ (List.Sublist.cons _ ((List.Sublist.refl _).trans (List.sublist_append_right _ _)))))))) rfl ?_
     refine mk_ (i := 9) (v := .slice A95 ((stepV (vrs l1) nx x.num x.pins x.h).2.2.2.1.length) c96) rfl rfl (fun _ _ _ h => h) (hm98.sub (.cons_cons _ (.cons_cons _ (.cons_cons _ (.cons _ (List.Sublist.cons _ ((List.Sublist.refl _).trans (List.sublist_append_right _ _)))))))) rfl ?_
     refine mk_ (i := 10) (v := .int .i64 ((stepV (vrs l1) nx x.num x.pins x.h).2.2.2.2)) rfl rfl (fun _ _ _ h => h) (hm98.sub (.cons_cons _ (.cons_cons _ (.cons_cons _ (.cons _ (List.Sublist.cons _ ((List.Sublist.refl _).trans (List.sublist_append_right _ _)))))))) rfl ?_
     refine mgStore 3 Ty.ag_voxel_api_Versions hm98 rfl (by kernel_rfl) (i := 12) (cs := tbs (.slice S93 l92.length c94) ((stepV (vrs l1) nx x.num x.pins x.h).2.1)) rfl (wn rfl) rfl (litEv (by kernel_rfl)) (litEv (by kernel_rfl)) rfl rfl (by kernel_rfl) (fun w_ h_ => (h_.sub (.cons_cons _ (.cons_cons _ (.cons_cons _ (.cons _ (List.Sublist.cons _ ((List.Sublist.refl _).trans (List.sublist_append_right _ _))))))))) ?_
     intro w100 hm99
     clear hm98
     try simp only [List.cons_append, List.nil_append, List.set_cons_succ, List.set_cons_zero] at hm99
     refine mNone rfl ?_
     refine mk_ (i := 13) (v := .int .i64 ((stepV (vrs l1) nx x.num x.pins x.h).2.2.1)) rfl rfl (fun _ _ _ h => h) (hm99.sub (.cons_cons _ (.cons_cons _ (.cons_cons _ (.cons _ (List.Sublist.cons _ ((List.Sublist.refl _).trans (List.sublist_append_right _ _)))))))) rfl ?_
     refine mk_ (i := 14) (v := .slice A95 ((stepV (vrs l1) nx x.num x.pins x.h).2.2.2.1.length) c96) rfl rfl (fun _ _ _ h => h) (hm99.sub (.cons_cons _ (.cons_cons _ (.cons_cons _ (.cons _ (List.Sublist.cons _ ((List.Sublist.refl _).trans (List.sublist_append_right _ _)))))))) rfl ?_
     refine mk_ (i := 15) (v := .int .i64 ((stepV (vrs l1) nx x.num x.pins x.h).2.2.2.2)) rfl rfl (fun _ _ _ h => h) (hm99.sub (.cons_cons _ (.cons_cons _ (.cons_cons _ (.cons _ (List.Sublist.cons _ ((List.Sublist.refl _).trans (List.sublist_append_right _ _)))))))) rfl ?_
     refine mgDone (by kernel_rfl) ?_
     refine then_normal ?_
     exact ⟨g87, l92, S93, c94, A95, c96, hvl92, ⟨litSize, rfl, ⟨litGet (by kernel_rfl), ⟨litGet (by kernel_rfl), ⟨litGet (by kernel_rfl), ⟨litGet (by kernel_rfl), ⟨litGet (by kernel_rfl), ⟨litGet (by kernel_rfl), ⟨litGet (by kernel_rfl), ⟨litGet (by kernel_rfl), ⟨litGet (by kernel_rfl), ⟨litGet (by kernel_rfl), ⟨litGet (by kernel_rfl), ⟨litGet (by kernel_rfl), ⟨litGet (by kernel_rfl), ⟨litGet (by kernel_rfl), ⟨litGet (by kernel_rfl), ⟨litGet (by kernel_rfl), ⟨litGet (by kernel_rfl), ⟨litGet (by kernel_rfl), trivial⟩⟩⟩⟩⟩⟩⟩⟩⟩⟩⟩⟩⟩⟩⟩⟩⟩⟩⟩, hm99⟩
   clear hm68
   intro a103 w101 hI_
   obtain ⟨ggb, lb, Sb, cb, Ab, db, hvb, hF_, hm102⟩ := hI_
   obtain ⟨X104, rfl⟩ := frLit hF_
   clear hF_
   have hga_ : ∀ v ∈ la, v.h.Good := fun v hv => by have q_ := stepV_goods (nx := nx) (kind := x.num) (n := x.pins) (h := x.h) hgv.good v.vr (by rw [← hva]; exact List.mem_map.2 ⟨v, hv, rfl⟩); exact q_
   have hla_ : la.length ≤ 1000 := by have q_ := (stepV_len (vrs l1) nx x.num x.pins x.h).1; rw [← hva, vrs_len, vrs_len] at q_; have q2_ := lenL hgv; omega
   refine wp_seq_k fun K105 hK105 => ?_
   refine plStart ?_
   refine litVal (v := .agg (tbs (.slice Sa la.length ca) ((stepV (vrs l1) nx x.num x.pins x.h).2.1)).toArray) rfl (wn rfl) (gLoadAg (vs := tbs (.slice Sa la.length ca) ((stepV (vrs l1) nx x.num x.pins x.h).2.1)) (k := 0) 2 hm102 rfl (by kernel_rfl) (by kernel_rfl) (.tmp 9) Ty.ag_voxel_api_Versions rfl (litEv (by kernel_rfl))) rfl (by decide) ?_
   refine litVal (v := .agg (tbs (.slice Sb lb.length cb) ((stepV (vrs l1) nx x.num x.pins x.h).2.1)).toArray) rfl (wn rfl) (gLoadAg (vs := tbs (.slice Sb lb.length cb) ((stepV (vrs l1) nx x.num x.pins x.h).2.1)) (k := 0) 3 hm102 rfl (by kernel_rfl) (by kernel_rfl) (.tmp 13) Ty.ag_voxel_api_Versions rfl (litEv (by kernel_rfl))) rfl (by decide) ?_
   refine plCall (i := 2) 26 [.agg (tbs (.slice Sa la.length ca) ((stepV (vrs l1) nx x.num x.pins x.h).2.1)).toArray, .agg (tbs (.slice Sb lb.length cb) ((stepV (vrs l1) nx x.num x.pins x.h).2.1)).toArray] [] [] rfl (by kernel_rfl) (wn rfl) rfl (litEv (by kernel_rfl)) (litArgs (by kernel_rfl)) (sameT_any la lb Sa Sb ca cb ((stepV (vrs l1) nx x.num x.pins x.h).2.1) _ (Mem.tb ((Mem.tailN (T := ((.rd Ab 1 (stepV (vrs l1) nx x.num x.pins x.h).2.2.2.1.length db (ics (stepV (vrs l1) nx x.num x.pins x.h).2.2.2.1)) :: (tbRes lb Sb cb ++ ((.rd Aa 1 (stepV (vrs l1) nx x.num x.pins x.h).2.2.2.1.length da (ics (stepV (vrs l1) nx x.num x.pins x.h).2.2.2.1)) :: (tbRes la Sa ca ++ (tbRes l1 S1 c1 ++ (tbRes l2 S2 c2 ++ lvRes L))))))) 4 hm102 rfl).sub (L' := tbRes la Sa ca) (List.Sublist.cons _ ((List.Sublist.cons _ (List.sublist_append_left _ _)).trans (List.sublist_append_right _ _))))) (Mem.tb ((Mem.tailN (T := ((.rd Ab 1 (stepV (vrs l1) nx x.num x.pins x.h).2.2.2.1.length db (ics (stepV (vrs l1) nx x.num x.pins x.h).2.2.2.1)) :: (tbRes lb Sb cb ++ ((.rd Aa 1 (stepV (vrs l1) nx x.num x.pins x.h).2.2.2.1.length da (ics (stepV (vrs l1) nx x.num x.pins x.h).2.2.2.1)) :: (tbRes la Sa ca ++ (tbRes l1 S1 c1 ++ (tbRes l2 S2 c2 ++ lvRes L))))))) 4 hm102 rfl).sub (L' := tbRes lb Sb cb) (List.Sublist.cons _ (List.sublist_append_left _ _)))) hla_ (hva.trans hvb.symm) hga_) ?_
   rintro e w106 ⟨rfl, hbz⟩
   have hm107 := hm102.below hbz
   clear hbz hm102
   refine ⟨_, rfl, ?_⟩
   refine qP rfl ?_
   refine lk (v := .bool true) rfl rfl rfl ?_
   refine plD ?_
   refine then_normal (hK105 _ _ ?_)
   refine wp_seq_k fun K108 hK108 => ?_
   refine plStart ?_
   refine litVal (v := .agg (tbs (.slice S1 l1.length c1) nx).toArray) rfl (wn rfl) (gLoadAg (vs := tbs (.slice S1 l1.length c1) nx) (k := 0) 0 hm107 rfl (by kernel_rfl) (by kernel_rfl) (.tmp 6) Ty.ag_voxel_api_Versions rfl (litEv (by kernel_rfl))) rfl (by decide) ?_
   refine litVal (v := .agg (tbs (.slice S2 l2.length c2) nx).toArray) rfl (wn rfl) (gLoadAg (vs := tbs (.slice S2 l2.length c2) nx) (k := 0) 1 hm107 rfl (by kernel_rfl) (by kernel_rfl) (.tmp 7) Ty.ag_voxel_api_Versions rfl (litEv (by kernel_rfl))) rfl (by decide) ?_
   refine plCall (i := 2) 26 [.agg (tbs (.slice S1 l1.length c1) nx).toArray, .agg (tbs (.slice S2 l2.length c2) nx).toArray] [] [] rfl (by kernel_rfl) (wn rfl) rfl (litEv (by kernel_rfl)) (litArgs (by kernel_rfl)) (sameT_any l1 l2 S1 S2 c1 c2 nx _ (Mem.tb ((Mem.tailN (T := ((.rd Ab 1 (stepV (vrs l1) nx x.num x.pins x.h).2.2.2.1.length db (ics (stepV (vrs l1) nx x.num x.pins x.h).2.2.2.1)) :: (tbRes lb Sb cb ++ ((.rd Aa 1 (stepV (vrs l1) nx x.num x.pins x.h).2.2.2.1.length da (ics (stepV (vrs l1) nx x.num x.pins x.h).2.2.2.1)) :: (tbRes la Sa ca ++ (tbRes l1 S1 c1 ++ (tbRes l2 S2 c2 ++ lvRes L))))))) 4 hm107 rfl).sub (L' := tbRes l1 S1 c1) (List.Sublist.cons _ ((List.Sublist.cons _ ((List.sublist_append_left _ _).trans (List.sublist_append_right _ _))).trans (List.sublist_append_right _ _))))) (Mem.tb ((Mem.tailN (T := ((.rd Ab 1 (stepV (vrs l1) nx x.num x.pins x.h).2.2.2.1.length db (ics (stepV (vrs l1) nx x.num x.pins x.h).2.2.2.1)) :: (tbRes lb Sb cb ++ ((.rd Aa 1 (stepV (vrs l1) nx x.num x.pins x.h).2.2.2.1.length da (ics (stepV (vrs l1) nx x.num x.pins x.h).2.2.2.1)) :: (tbRes la Sa ca ++ (tbRes l1 S1 c1 ++ (tbRes l2 S2 c2 ++ lvRes L))))))) 4 hm107 rfl).sub (L' := tbRes l2 S2 c2) (List.Sublist.cons _ ((List.Sublist.cons _ (((List.sublist_append_left _ _).trans (List.sublist_append_right _ _)).trans (List.sublist_append_right _ _))).trans (List.sublist_append_right _ _))))) (by have q_ := lenL hgv; omega) hvm (goodL hgv)) ?_
   rintro e w109 ⟨rfl, hbz⟩
   have hm110 := hm107.below hbz
   clear hbz hm107
   refine ⟨_, rfl, ?_⟩
   refine qP rfl ?_
   refine lk (v := .bool true) rfl rfl rfl ?_
   refine plD ?_
   refine then_normal (hK108 _ _ ?_)
   refine wp_seq_k fun K111 hK111 => ?_
   refine plStart ?_
   refine lk (v := .slice Aa ((stepV (vrs l1) nx x.num x.pins x.h).2.2.2.1.length) da) rfl rfl rfl ?_
   refine lk (v := .slice Ab ((stepV (vrs l1) nx x.num x.pins x.h).2.2.2.1.length) db) rfl rfl rfl ?_
   refine plCall (i := 2) 27 [.slice Aa ((stepV (vrs l1) nx x.num x.pins x.h).2.2.2.1.length) da, .slice Ab ((stepV (vrs l1) nx x.num x.pins x.h).2.2.2.1.length) db] [] [] rfl (by kernel_rfl) (wn rfl) rfl (litEv (by kernel_rfl)) (litArgs (by kernel_rfl)) (reqI_any _ _ Aa Ab da db _ (((Mem.tailN (T := ((.rd Ab 1 (stepV (vrs l1) nx x.num x.pins x.h).2.2.2.1.length db (ics (stepV (vrs l1) nx x.num x.pins x.h).2.2.2.1)) :: (tbRes lb Sb cb ++ ((.rd Aa 1 (stepV (vrs l1) nx x.num x.pins x.h).2.2.2.1.length da (ics (stepV (vrs l1) nx x.num x.pins x.h).2.2.2.1)) :: (tbRes la Sa ca ++ (tbRes l1 S1 c1 ++ (tbRes l2 S2 c2 ++ lvRes L))))))) 4 hm110 rfl).sub (L' := [.rd Aa 1 (stepV (vrs l1) nx x.num x.pins x.h).2.2.2.1.length da (ics (stepV (vrs l1) nx x.num x.pins x.h).2.2.2.1)]) (List.Sublist.cons _ ((List.Sublist.cons_cons _ (List.nil_sublist _)).trans (List.sublist_append_right _ _)))).rd 0 rfl) (((Mem.tailN (T := ((.rd Ab 1 (stepV (vrs l1) nx x.num x.pins x.h).2.2.2.1.length db (ics (stepV (vrs l1) nx x.num x.pins x.h).2.2.2.1)) :: (tbRes lb Sb cb ++ ((.rd Aa 1 (stepV (vrs l1) nx x.num x.pins x.h).2.2.2.1.length da (ics (stepV (vrs l1) nx x.num x.pins x.h).2.2.2.1)) :: (tbRes la Sa ca ++ (tbRes l1 S1 c1 ++ (tbRes l2 S2 c2 ++ lvRes L))))))) 4 hm110 rfl).sub (L' := [.rd Ab 1 (stepV (vrs l1) nx x.num x.pins x.h).2.2.2.1.length db (ics (stepV (vrs l1) nx x.num x.pins x.h).2.2.2.1)]) (List.Sublist.cons_cons _ (List.nil_sublist _))).rd 0 rfl) (by have q_ := (stepV_len (vrs l1) nx x.num x.pins x.h).2; rw [vrs_len] at q_; have q2_ := lenL hgv; omega)) ?_
   rintro e w112 ⟨rfl, hbz⟩
   have hm113 := hm110.below hbz
   clear hbz hm110
   rw [(decide_eq_true rfl)]
   refine ⟨_, rfl, ?_⟩
   refine qP rfl ?_
   refine lk (v := .bool true) rfl rfl rfl ?_
   refine plD ?_
   refine then_normal (hK111 _ _ ?_)
   refine wp_seq_k fun K114 hK114 => ?_
   refine wp_seq_k fun K115 hK115 => ?_
   refine plStart ?_
   refine lk (v := .bool true) rfl rfl rfl ?_
   refine lk (v := .bool false) rfl rfl rfl ?_
   refine lk (v := .bool false) rfl rfl rfl ?_
   refine litVal (v := .bool true) rfl (wgY rfl rfl rfl (by decide) (by kernel_rfl)) (litRun (by kernel_rfl)) rfl (by decide) ?_
   refine litVal (v := .bool false) rfl (wgY rfl rfl rfl (by decide) (by kernel_rfl)) (litRun (by kernel_rfl)) rfl (by decide) ?_
   refine lk (v := .bool false) rfl rfl rfl ?_
   refine lk (v := .bool false) rfl rfl rfl ?_
   refine litVal (v := .bool true) rfl (wgY rfl rfl rfl (by decide) (by kernel_rfl)) (litRun (by kernel_rfl)) rfl (by decide) ?_
   refine litVal (v := .bool false) rfl (wgY rfl rfl rfl (by decide) (by kernel_rfl)) (litRun (by kernel_rfl)) rfl (by decide) ?_
   refine lk (v := .bool false) rfl rfl rfl ?_
   refine lk (v := .bool false) rfl rfl rfl ?_
   refine litVal (v := .int .i64 ((stepV (vrs l1) nx x.num x.pins x.h).2.2.1)) rfl (wgY rfl rfl rfl (by decide) (by kernel_rfl)) (litRun (by kernel_rfl)) rfl (by decide) ?_
   refine litVal (v := .int .i64 ((stepV (vrs l1) nx x.num x.pins x.h).2.2.1)) rfl (wgY rfl rfl rfl (by decide) (by kernel_rfl)) (litRun (by kernel_rfl)) rfl (by decide) ?_
   refine litVal (v := .bool false) rfl (wgY rfl rfl rfl (by decide) (by kernel_rfl)) (boolTo (by simp) (neqRun (A := ((stepV (vrs l1) nx x.num x.pins x.h).2.2.1)) (B := ((stepV (vrs l1) nx x.num x.pins x.h).2.2.1)) (.tmp 80) (.tmp 81) rfl (litEv (by kernel_rfl)) (litEv (by kernel_rfl)))) rfl (by decide) ?_
   refine lk (v := .bool false) rfl rfl rfl ?_
   refine lk (v := .bool false) rfl rfl rfl ?_
   refine litVal (v := .int .i64 ((stepV (vrs l1) nx x.num x.pins x.h).2.2.2.2)) rfl (wgY rfl rfl rfl (by decide) (by kernel_rfl)) (litRun (by kernel_rfl)) rfl (by decide) ?_
   refine litVal (v := .int .i64 ((stepV (vrs l1) nx x.num x.pins x.h).2.2.2.2)) rfl (wgY rfl rfl rfl (by decide) (by kernel_rfl)) (litRun (by kernel_rfl)) rfl (by decide) ?_
   refine litVal (v := .bool false) rfl (wgY rfl rfl rfl (by decide) (by kernel_rfl)) (boolTo (by simp) (neqRun (A := ((stepV (vrs l1) nx x.num x.pins x.h).2.2.2.2)) (B := ((stepV (vrs l1) nx x.num x.pins x.h).2.2.2.2)) (.tmp 85) (.tmp 86) rfl (litEv (by kernel_rfl)) (litEv (by kernel_rfl)))) rfl (by decide) ?_
   refine lk (v := .bool false) rfl rfl rfl ?_
   refine plD ?_
   refine then_normal (hK115 _ _ ?_)
   refine wp_cond_false (litEv (by kernel_rfl)) ?_
   refine wp_skip ?_
   refine then_normal (hK114 _ _ ?_)
   refine wp_seq_k fun K116 hK116 => ?_
   refine plStart ?_
   refine lk (v := .int .i64 ((stepV (vrs l1) nx x.num x.pins x.h).2.2.2.2)) rfl rfl rfl ?_
   by_cases h117 : ((stepV (vrs l1) nx x.num x.pins x.h).2.2.2.2) = 0
   · refine litVal (v := .bool true) rfl (wn rfl) (boolTo (decide_eq_true h117) (eqlRun (A := ((stepV (vrs l1) nx x.num x.pins x.h).2.2.2.2)) (B := 0) (.tmp 89) (.const (.int .i64 0)) rfl (litEv (by kernel_rfl)) (litEv (by kernel_rfl)))) rfl (by decide) ?_
     refine plD ?_
     refine then_normal (hK116 _ _ ?_)
     refine wp_cond_true (litEv (by kernel_rfl)) ?_
     refine wp_seq_k fun K118 hK118 => ?_
     refine plStart ?_
     refine litVal (v := .agg (tbs (.slice Sa la.length ca) ((stepV (vrs l1) nx x.num x.pins x.h).2.1)).toArray) rfl (wn rfl) (gLoadAg (vs := tbs (.slice Sa la.length ca) ((stepV (vrs l1) nx x.num x.pins x.h).2.1)) (k := 0) 2 hm113 rfl (by kernel_rfl) (by kernel_rfl) (.tmp 9) Ty.ag_voxel_api_Versions rfl (litEv (by kernel_rfl))) rfl (by decide) ?_
     refine plStore 0 Ty.ag_voxel_api_Versions hm113 rfl (i := 1) (cs := tbs (.slice Sa la.length ca) ((stepV (vrs l1) nx x.num x.pins x.h).2.1)) rfl (wn rfl) rfl (litEv (by kernel_rfl)) (litEv (by kernel_rfl)) rfl rfl (by kernel_rfl) ?_
     intro w120 hm119
     clear hm113
     try simp only [List.cons_append, List.nil_append, List.set_cons_succ, List.set_cons_zero] at hm119
     refine qNone rfl ?_
     refine plD ?_
     refine then_normal (hK118 _ _ ?_)
     refine plStart ?_
     refine litVal (v := .agg (tbs (.slice Sb lb.length cb) ((stepV (vrs l1) nx x.num x.pins x.h).2.1)).toArray) rfl (wn rfl) (gLoadAg (vs := tbs (.slice Sb lb.length cb) ((stepV (vrs l1) nx x.num x.pins x.h).2.1)) (k := 0) 3 hm119 rfl (by kernel_rfl) (by kernel_rfl) (.tmp 13) Ty.ag_voxel_api_Versions rfl (litEv (by kernel_rfl))) rfl (by decide) ?_
     refine plStore 1 Ty.ag_voxel_api_Versions hm119 rfl (i := 1) (cs := tbs (.slice Sb lb.length cb) ((stepV (vrs l1) nx x.num x.pins x.h).2.1)) rfl (wn rfl) rfl (litEv (by kernel_rfl)) (litEv (by kernel_rfl)) rfl rfl (by kernel_rfl) ?_
     intro w122 hm121
     clear hm119
     try simp only [List.cons_append, List.nil_append, List.set_cons_succ, List.set_cons_zero] at hm121
     refine qNone rfl ?_
     refine plD ?_
     refine inBlock_normal ?_
     refine then_normal (hK36 _ _ ?_)
     refine plStart ?_
     refine lk (v := .int .i64 (k : Int)) rfl rfl rfl ?_
     refine litVal (v := .int .i64 ((k : Int) + 1)) rfl (wn rfl) (addRun (A := (k : Int)) (B := 1) (C := (k : Int) + 1) (.tmp 36) (.const (.int .i64 1)) rfl (litEv (by kernel_rfl)) (litEv (by kernel_rfl)) rfl (by omega)) rfl (by decide) ?_
     refine lk (v := .int .i64 ((k : Int) + 1)) rfl rfl rfl ?_
     refine plD ?_
     refine then_normal ?_
     exact ⟨_, by omega, (k + 1), la, lb, Sa, Sb, ca, cb, _, rfl, (by omega), (hva.trans hvb.symm), (by rw [hva]; exact stepV_good hgv h117), ⟨litSize, rfl, ⟨litGet (by kernel_rfl), ⟨litGet (by kernel_rfl), ⟨litGet (by kernel_rfl), ⟨litGet (by kernel_rfl), ⟨litGet (by kernel_rfl), ⟨litGet (by kernel_rfl), trivial⟩⟩⟩⟩⟩⟩⟩, (Mem.swapTb (hm121.sub (.cons_cons _ (.cons_cons _ (.cons _ (.cons _ (List.Sublist.cons _ (List.Sublist.append (List.Sublist.refl _) (List.Sublist.cons _ (List.Sublist.append (List.Sublist.refl _) (((List.Sublist.refl _).trans (List.sublist_append_right _ _)).trans (List.sublist_append_right _ _))))))))))))⟩
   refine litVal (v := .bool false) rfl (wn rfl) (boolTo (decide_eq_false h117) (eqlRun (A := ((stepV (vrs l1) nx x.num x.pins x.h).2.2.2.2)) (B := 0) (.tmp 89) (.const (.int .i64 0)) rfl (litEv (by kernel_rfl)) (litEv (by kernel_rfl)))) rfl (by decide) ?_
   refine plD ?_
   refine then_normal (hK116 _ _ ?_)
   refine wp_cond_false (litEv (by kernel_rfl)) ?_
   refine wp_skip ?_
   refine inBlock_normal ?_
   refine then_normal (hK36 _ _ ?_)
   refine plStart ?_
   refine lk (v := .int .i64 (k : Int)) rfl rfl rfl ?_
   refine litVal (v := .int .i64 ((k : Int) + 1)) rfl (wn rfl) (addRun (A := (k : Int)) (B := 1) (C := (k : Int) + 1) (.tmp 36) (.const (.int .i64 1)) rfl (litEv (by kernel_rfl)) (litEv (by kernel_rfl)) rfl (by omega)) rfl (by decide) ?_
   refine lk (v := .int .i64 ((k : Int) + 1)) rfl rfl rfl ?_
   refine plD ?_
   refine then_normal ?_
   exact ⟨_, by omega, (k + 1), l1, l2, S1, S2, c1, c2, nx, rfl, (by omega), hvm, (hgv.more (by omega)), ⟨litSize, rfl, ⟨litGet (by kernel_rfl), ⟨litGet (by kernel_rfl), ⟨litGet (by kernel_rfl), ⟨litGet (by kernel_rfl), ⟨litGet (by kernel_rfl), ⟨litGet (by kernel_rfl), trivial⟩⟩⟩⟩⟩⟩⟩, (hm113.sub (.cons_cons _ (.cons_cons _ (.cons _ (.cons _ (List.Sublist.cons _ ((List.Sublist.cons _ ((List.Sublist.append (List.Sublist.refl _) (List.Sublist.append (List.Sublist.refl _) (List.Sublist.refl _))).trans (List.sublist_append_right _ _))).trans (List.sublist_append_right _ _))))))))⟩
 refine litVal (v := .bool false) rfl (wn rfl) (boolTo (decide_eq_false h35) (lssRun (A := (k : Int)) (B := (L.length : Int)) (.tmp 32) (.tmp 34) rfl (litEv (by kernel_rfl)) (litEv (by kernel_rfl)))) rfl (by decide) ?_
 refine plD ?_
 refine then_normal (hK34 _ _ ?_)
 refine wp_cond_false (litEv (by kernel_rfl)) ?_
 refine wp_exit ?_
 refine then_exit ?_
 refine then_exit ?_
 refine inBlock_exit ?_
 refine then_normal (hK27 _ _ ?_)
 refine wp_seq_k fun K123 hK123 => ?_
 refine plStart ?_
 refine litVal (v := .agg (tbs (.slice S1 l1.length c1) nx).toArray) rfl (wn rfl) (gLoadAg (vs := tbs (.slice S1 l1.length c1) nx) (k := 0) 0 hm30 rfl (by kernel_rfl) (by kernel_rfl) (.tmp 6) Ty.ag_voxel_api_Versions rfl (litEv (by kernel_rfl))) rfl (by decide) ?_
 refine lk (v := .int .i64 num) rfl rfl rfl ?_
 refine plCall (i := 2) 28 [.agg (tbs (.slice S1 l1.length c1) nx).toArray, .int .i64 num] [] [] rfl (by kernel_rfl) (wn rfl) rfl (litEv (by kernel_rfl)) (litArgs (by kernel_rfl)) (by exact find_any l1 S1 c1 nx num _ ((Mem.tb ((Mem.tailN (T := (tbRes l1 S1 c1 ++ (tbRes l2 S2 c2 ++ lvRes L))) 2 hm30 rfl).sub (L' := tbRes l1 S1 c1) (List.sublist_append_left _ _)))).rd (by have q_ := lenL hgv; omega) ((Mem.tb ((Mem.tailN (T := (tbRes l1 S1 c1 ++ (tbRes l2 S2 c2 ++ lvRes L))) 2 hm30 rfl).sub (L' := tbRes l1 S1 c1) (List.sublist_append_left _ _)))).all (good_small (goodL hgv))) ?_
 rintro e w124 ⟨vx, hvx_, rfl, hat_, hN_, hbz⟩
 have hm125 : Mem w w124 ([.arr g14 44 (tbs (.slice S1 l1.length c1) nx), .arr g22 44 (tbs (.slice S2 l2.length c2) nx)] ++ (lvRes [vx] ++ (tbRes l1 S1 c1 ++ (tbRes l2 S2 c2 ++ lvRes L)))) := Mem.newLv (M := (tbRes l1 S1 c1 ++ (tbRes l2 S2 c2 ++ lvRes L))) [.arr g14 44 (tbs (.slice S1 l1.length c1) nx), .arr g22 44 (tbs (.slice S2 l2.length c2) nx)] hm30 hbz hat_ hN_ (hdTb (List.sublist_append_left _ _)) (mutApp (fun _ h_ => tbRes_mut h_) (mutApp (fun _ h_ => tbRes_mut h_) (fun _ h_ => lvRes_mut h_)))
 clear hat_ hN_ hbz hm30
 have hm126 : Mem w w124 ((.arr g14 44 (tbs (.slice S1 l1.length c1) nx)) :: (.arr g22 44 (tbs (.slice S2 l2.length c2) nx)) :: (lvRes [vx] ++ (tbRes l1 S1 c1 ++ (tbRes l2 S2 c2 ++ lvRes L)))) := hm125
 clear hm125
 refine ⟨_, rfl, ?_⟩
 refine qP rfl ?_
 refine lk (v := .tuple #[.agg (hcs vx.h vx.A vx.c vx.B vx.d).toArray, .int .i64 ((findHd l1 num).2)]) rfl rfl rfl ?_
 refine lk (v := .agg (hcs vx.h vx.A vx.c vx.B vx.d).toArray) rfl rfl rfl ?_
 refine lk (v := .int .i64 ((findHd l1 num).2)) rfl rfl rfl ?_
 refine plAlloc (z := [.int .i64 0, .slice none 0 0, .int .i64 0, .slice none 0 0]) Ty.ag_voxel_api_Header hm126 (i := 6) rfl (wn rfl) rfl ?_
 intro g127 w129 hm128
 clear hm126
 try simp only [List.cons_append, List.nil_append, List.set_cons_succ, List.set_cons_zero] at hm128
 replace hm128 := Mem.insAt (M := ((.arr g14 44 (tbs (.slice S1 l1.length c1) nx)) :: (.arr g22 44 (tbs (.slice S2 l2.length c2) nx)) :: (lvRes [vx] ++ (tbRes l1 S1 c1 ++ (tbRes l2 S2 c2 ++ lvRes L))))) 2 hm128
 simp only [List.insertIdx_succ_cons, List.insertIdx_zero] at hm128
 refine qP rfl ?_
 refine plStore 2 Ty.ag_voxel_api_Header hm128 rfl (i := 7) (cs := hcs vx.h vx.A vx.c vx.B vx.d) rfl (wn rfl) rfl (litEv (by kernel_rfl)) (litEv (by kernel_rfl)) rfl rfl (by kernel_rfl) ?_
 intro w131 hm130
 clear hm128
 try simp only [List.cons_append, List.nil_append, List.set_cons_succ, List.set_cons_zero] at hm130
 refine qNone rfl ?_
 refine lk (v := .int .i64 ((findHd l1 num).2)) rfl rfl rfl ?_
 refine plD ?_
 refine then_normal (hK123 _ _ ?_)
 refine wpPrune [(1, .int .i64 num), (5, .bool true), (7, .pointer (some ⟨g22, 0, none⟩)), (20, .pointer (some ⟨g127, 0, none⟩)), (21, .int .i64 ((findHd l1 num).2))] ⟨litGet (by kernel_rfl), ⟨litGet (by kernel_rfl), ⟨litGet (by kernel_rfl), ⟨litGet (by kernel_rfl), ⟨litGet (by kernel_rfl), trivial⟩⟩⟩⟩⟩ (fun X132 => ?_)
 refine wp_seq_k fun K133 hK133 => ?_
 refine plStart ?_
 refine litVal (v := .agg (tbs (.slice S2 l2.length c2) nx).toArray) rfl (wn rfl) (gLoadAg (vs := tbs (.slice S2 l2.length c2) nx) (k := 0) 1 hm130 rfl (by kernel_rfl) (by kernel_rfl) (.tmp 7) Ty.ag_voxel_api_Versions rfl (litEv (by kernel_rfl))) rfl (by decide) ?_
 refine lk (v := .int .i64 num) rfl rfl rfl ?_
 refine plCall (i := 2) 29 [.agg (tbs (.slice S2 l2.length c2) nx).toArray, .int .i64 num] [] [] rfl (by kernel_rfl) (wn rfl) rfl (litEv (by kernel_rfl)) (litArgs (by kernel_rfl)) (by exact rfind_any l2 S2 c2 nx num _ ((Mem.tb ((Mem.tailN (T := (lvRes [vx] ++ (tbRes l1 S1 c1 ++ (tbRes l2 S2 c2 ++ lvRes L)))) 3 hm130 rfl).sub (L' := tbRes l2 S2 c2) (((List.sublist_append_left _ _).trans (List.sublist_append_right _ _)).trans (List.sublist_append_right _ _))))).rd (by have q_ := lenL (hvm ▸ hgv); omega) ((Mem.tb ((Mem.tailN (T := (lvRes [vx] ++ (tbRes l1 S1 c1 ++ (tbRes l2 S2 c2 ++ lvRes L)))) 3 hm130 rfl).sub (L' := tbRes l2 S2 c2) (((List.sublist_append_left _ _).trans (List.sublist_append_right _ _)).trans (List.sublist_append_right _ _))))).all (good_small (goodL (hvm ▸ hgv)))) ?_
 rintro e w134 ⟨vy, hvy_, rfl, hat_, hN_, hbz⟩
 have hm135 : Mem w w134 ([.arr g14 44 (tbs (.slice S1 l1.length c1) nx), .arr g22 44 (tbs (.slice S2 l2.length c2) nx), .arr g127 25 (hcs vx.h vx.A vx.c vx.B vx.d)] ++ (lvRes [vy] ++ (lvRes [vx] ++ (tbRes l1 S1 c1 ++ (tbRes l2 S2 c2 ++ lvRes L))))) := Mem.newLv (M := (lvRes [vx] ++ (tbRes l1 S1 c1 ++ (tbRes l2 S2 c2 ++ lvRes L)))) [.arr g14 44 (tbs (.slice S1 l1.length c1) nx), .arr g22 44 (tbs (.slice S2 l2.length c2) nx), .arr g127 25 (hcs vx.h vx.A vx.c vx.B vx.d)] hm130 hbz hat_ hN_ (hdTb (((List.sublist_append_left _ _).trans (List.sublist_append_right _ _)).trans (List.sublist_append_right _ _))) (mutApp (fun _ h_ => lvRes_mut h_) (mutApp (fun _ h_ => tbRes_mut h_) (mutApp (fun _ h_ => tbRes_mut h_) (fun _ h_ => lvRes_mut h_))))
 clear hat_ hN_ hbz hm130
 have hm136 : Mem w w134 ((.arr g14 44 (tbs (.slice S1 l1.length c1) nx)) :: (.arr g22 44 (tbs (.slice S2 l2.length c2) nx)) :: (.arr g127 25 (hcs vx.h vx.A vx.c vx.B vx.d)) :: (lvRes [vy] ++ (lvRes [vx] ++ (tbRes l1 S1 c1 ++ (tbRes l2 S2 c2 ++ lvRes L))))) := hm135
 clear hm135
 refine ⟨_, rfl, ?_⟩
 refine qP rfl ?_
 refine lk (v := .tuple #[.agg (hcs vy.h vy.A vy.c vy.B vy.d).toArray, .int .i64 ((findHd l2 num).2)]) rfl rfl rfl ?_
 refine lk (v := .agg (hcs vy.h vy.A vy.c vy.B vy.d).toArray) rfl rfl rfl ?_
 refine lk (v := .int .i64 ((findHd l2 num).2)) rfl rfl rfl ?_
 refine plAlloc (z := [.int .i64 0, .slice none 0 0, .int .i64 0, .slice none 0 0]) Ty.ag_voxel_api_Header hm136 (i := 6) rfl (wn rfl) rfl ?_
 intro g137 w139 hm138
 clear hm136
 try simp only [List.cons_append, List.nil_append, List.set_cons_succ, List.set_cons_zero] at hm138
 replace hm138 := Mem.insAt (M := ((.arr g14 44 (tbs (.slice S1 l1.length c1) nx)) :: (.arr g22 44 (tbs (.slice S2 l2.length c2) nx)) :: (.arr g127 25 (hcs vx.h vx.A vx.c vx.B vx.d)) :: (lvRes [vy] ++ (lvRes [vx] ++ (tbRes l1 S1 c1 ++ (tbRes l2 S2 c2 ++ lvRes L)))))) 3 hm138
 simp only [List.insertIdx_succ_cons, List.insertIdx_zero] at hm138
 refine qP rfl ?_
 refine plStore 3 Ty.ag_voxel_api_Header hm138 rfl (i := 7) (cs := hcs vy.h vy.A vy.c vy.B vy.d) rfl (wn rfl) rfl (litEv (by kernel_rfl)) (litEv (by kernel_rfl)) rfl rfl (by kernel_rfl) ?_
 intro w141 hm140
 clear hm138
 try simp only [List.cons_append, List.nil_append, List.set_cons_succ, List.set_cons_zero] at hm140
 refine qNone rfl ?_
 refine lk (v := .int .i64 ((findHd l2 num).2)) rfl rfl rfl ?_
 refine plD ?_
 refine then_normal (hK133 _ _ ?_)
 refine wp_seq_k fun K142 hK142 => ?_
 refine plStart ?_
 refine litVal (v := .agg (hcs vx.h vx.A vx.c vx.B vx.d).toArray) rfl (wn rfl) (gLoadAg (vs := hcs vx.h vx.A vx.c vx.B vx.d) (k := 0) 2 hm140 rfl (by kernel_rfl) (by kernel_rfl) (.tmp 20) Ty.ag_voxel_api_Header rfl (litEv (by kernel_rfl))) rfl (by decide) ?_
 refine litVal (v := .agg (hcs vy.h vy.A vy.c vy.B vy.d).toArray) rfl (wn rfl) (gLoadAg (vs := hcs vy.h vy.A vy.c vy.B vy.d) (k := 0) 3 hm140 rfl (by kernel_rfl) (by kernel_rfl) (.tmp 22) Ty.ag_voxel_api_Header rfl (litEv (by kernel_rfl))) rfl (by decide) ?_
 refine plCall (i := 2) 10 [.agg (hcs vx.h vx.A vx.c vx.B vx.d).toArray, .agg (hcs vy.h vy.A vy.c vy.B vy.d).toArray] [] [] rfl (by kernel_rfl) (wn rfl) rfl (litEv (by kernel_rfl)) (litArgs (by kernel_rfl)) (rsame_any vx.h vx.A vx.c vx.B vx.d vy.h vy.A vy.c vy.B vy.d _ ((Mem.lv ((Mem.tailN (T := (lvRes [vy] ++ (lvRes [vx] ++ (tbRes l1 S1 c1 ++ (tbRes l2 S2 c2 ++ lvRes L))))) 4 hm140 rfl).sub (L' := lvRes [vx]) ((List.sublist_append_left _ _).trans (List.sublist_append_right _ _)))) vx List.mem_cons_self).a ((Mem.lv ((Mem.tailN (T := (lvRes [vy] ++ (lvRes [vx] ++ (tbRes l1 S1 c1 ++ (tbRes l2 S2 c2 ++ lvRes L))))) 4 hm140 rfl).sub (L' := lvRes [vx]) ((List.sublist_append_left _ _).trans (List.sublist_append_right _ _)))) vx List.mem_cons_self).b ((Mem.lv ((Mem.tailN (T := (lvRes [vy] ++ (lvRes [vx] ++ (tbRes l1 S1 c1 ++ (tbRes l2 S2 c2 ++ lvRes L))))) 4 hm140 rfl).sub (L' := lvRes [vy]) (List.sublist_append_left _ _))) vy List.mem_cons_self).a ((Mem.lv ((Mem.tailN (T := (lvRes [vy] ++ (lvRes [vx] ++ (tbRes l1 S1 c1 ++ (tbRes l2 S2 c2 ++ lvRes L))))) 4 hm140 rfl).sub (L' := lvRes [vy]) (List.sublist_append_left _ _))) vy List.mem_cons_self).b (by have q_ := findHd_small (goodL hgv) num; rw [← hvx_] at q_; omega) (by have q_ := findHd_small (goodL hgv) num; rw [← hvx_] at q_; omega)) ?_
 rintro e w143 ⟨rfl, hbz⟩
 have hm144 := hm140.below hbz
 clear hbz hm140
 rw [(decide_eq_true (hvx_.trans ((congrArg Prod.fst (findHd_congr hvm num)).trans hvy_.symm)))]
 refine ⟨_, rfl, ?_⟩
 refine qP rfl ?_
 refine lk (v := .bool true) rfl rfl rfl ?_
 refine plD ?_
 refine then_normal (hK142 _ _ ?_)
 refine wpPrune [(5, .bool true), (21, .int .i64 ((findHd l1 num).2)), (23, .int .i64 ((findHd l2 num).2)), (24, .bool true)] ⟨litGet (by kernel_rfl), ⟨litGet (by kernel_rfl), ⟨litGet (by kernel_rfl), ⟨litGet (by kernel_rfl), trivial⟩⟩⟩⟩ (fun X145 => ?_)
 refine wp_seq_k fun K146 hK146 => ?_
 refine plStart ?_
 refine lk (v := .bool true) rfl rfl rfl ?_
 refine lk (v := .bool true) rfl rfl rfl ?_
 refine litVal (v := .bool true) rfl (wgY rfl rfl rfl (by decide) (by kernel_rfl)) (litRun (by kernel_rfl)) rfl (by decide) ?_
 refine lk (v := .bool true) rfl rfl rfl ?_
 refine lk (v := .bool true) rfl rfl rfl ?_
 refine litVal (v := .int .i64 ((findHd l1 num).2)) rfl (wgY rfl rfl rfl (by decide) (by kernel_rfl)) (litRun (by kernel_rfl)) rfl (by decide) ?_
 refine litVal (v := .int .i64 ((findHd l2 num).2)) rfl (wgY rfl rfl rfl (by decide) (by kernel_rfl)) (litRun (by kernel_rfl)) rfl (by decide) ?_
 refine litVal (v := .bool true) rfl (wgY rfl rfl rfl (by decide) (by kernel_rfl)) (boolTo (decide_eq_true (congrArg Prod.snd (findHd_congr hvm num))) (eqlRun (A := ((findHd l1 num).2)) (B := ((findHd l2 num).2)) (.tmp 113) (.tmp 114) rfl (litEv (by kernel_rfl)) (litEv (by kernel_rfl)))) rfl (by decide) ?_
 refine lk (v := .bool true) rfl rfl rfl ?_
 refine lk (v := .bool true) rfl rfl rfl ?_
 refine plD ?_
 refine then_normal (hK146 _ _ ?_)
 refine wpPrune [(4, .bool true)] ⟨litGet (by kernel_rfl), trivial⟩ (fun X147 => ?_)
 refine wp_ret ?_
 refine bodyPost_ret (v := .bool true) (gRes1 rfl (gResTmp (t := 4) (v := .bool true) (litGet (by kernel_rfl)))) rfl ?_
 exact ⟨by rfl, hm144.bel⟩
end Go.Proofs.YtgjgjimgomhbmaaDoor
