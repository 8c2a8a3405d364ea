/-
  VersionPinsHold: the law answers true. No statement is proved here.
-/
import Derived.Test.YtgjgjimgomhbmaaDoorMH
import Derived.Test.YtgjgjimgomhbmaaDoorMI
import Derived.Test.YtgjgjimgomhbmaaDoorMJ
namespace Go.Proofs.YtgjgjimgomhbmaaDoor
open Go.RowKit
set_option linter.unusedVariables false
set_option linter.unusedSimpArgs false

theorem Mem.nilRows2 {w0 w : World} {r : Res} {M : List Res} (h : Mem w0 w (r :: M)) (e1 : TypeId) (s1 : Nat) (e2 : TypeId) (s2 : Nat) : Mem w0 w ([r, .row (.slice none 0 0) e1 s1 0 [], .row (.slice none 0 0) e2 s2 0 []] ++ M) := by
  refine ((h.nilRow e1 s1).nilRow e2 s2).perm ?_
  rw [List.append_assoc]
  show (r :: (M ++ _)).Perm (r :: _)
  refine .cons _ ?_
  exact List.perm_append_comm
def hds (l : List Lv) : List Value := l.flatMap fun v => hcs v.h v.A v.c v.B v.d
theorem hds_app (l : List Lv) (x : Lv) : hds l ++ hcs x.h x.A x.c x.B x.d = hds (l ++ [x]) := by unfold hds; rw [List.flatMap_append]; simp
theorem hds_get {p : Lv} : ∀ {l : List Lv} {k : Nat}, l[k]? = some p → ∀ (i : Nat) (u : Value), (hcs p.h p.A p.c p.B p.d)[i]? = some u → (hds l)[k * 4 + i]? = some u
  | [], k, h, _, _, _ => by simp at h
  | q :: l, 0, h, i, u, hu => by
    simp at h; subst h
    have hi : i < 4 := (List.getElem?_eq_some_iff.1 hu).1
    show (hcs q.h q.A q.c q.B q.d ++ hds l)[_]? = _
    rw [List.getElem?_append_left (by show _ < 4; omega), Nat.zero_mul, Nat.zero_add]
    exact hu
  | q :: l, k + 1, h, i, u, hu => by
    show (hcs q.h q.A q.c q.B q.d ++ hds l)[_]? = _
    rw [List.getElem?_append_right (by show 4 ≤ _; omega)]
    have e : (k + 1) * 4 + i - (hcs q.h q.A q.c q.B q.d).length = k * 4 + i := by show (k + 1) * 4 + i - 4 = _; omega
    rw [e]
    exact hds_get (l := l) (by simpa using h) i u hu
theorem ics_set {l : List Int} {k : Nat} (x : Int) : (ics l).set k (.int .i64 x) = ics (l.set k x) := by unfold ics; rw [List.map_set]
theorem map_push (l : List Lv) (x : Lv) : (l ++ [x]).map (·.h) = l.map (·.h) ++ [x.h] := by simp
theorem same_fst {a b : Hd} {e f : Int} (h : (a, e) = (b, f)) : a = b := congrArg Prod.fst h
set_option maxRecDepth 100000 in
set_option maxHeartbeats 4000000 in
theorem walk_VersionPinsHold (L : List Lv) (S : Option Addr) (cS : Nat) (w : World) (ht : Tabs w) (htR : TabsR w) (hS : Rd w w.heap.size 6 S L.length cS (lvs L)) (hall_ : AllAt L w) (hfits : ∀ x ∈ L, isI64 x.h.tick ∧ isI64 x.h.depth ∧ (∀ n ∈ x.h.counts, isI64 n) ∧ isI64 x.pins) : Calls Tryd.prog 5 #[.slice S L.length cS] w (RetV w (.bool true)) := by
 have hm0 := Mem.ofLv hall_
 go_enter Tryd.func5, Tryd.ntmps5
 refine litStart 160 [(0, .slice S L.length cS)] (by kernel_rfl) (fun X0 => ?_)
 refine wp_seq_k fun K1 hK1 => ?_
 refine plStart ?_
 refine lk (v := .bool false) rfl rfl rfl ?_
 refine plD ?_
 refine then_normal (hK1 _ _ ?_)
 refine wp_seq_k fun K2 hK2 => ?_
 refine plStart ?_
 refine plCall (i := 0) 6 [] [] [] rfl (by kernel_rfl) (wn rfl) rfl (litEv (by kernel_rfl)) (litArgs (by kernel_rfl)) (sanity_any _ (ht.below hm0.bel ht.size) (htR.below hm0.bel htR.size)) ?_
 rintro e w3 ⟨rfl, hbz⟩
 have hm4 := hm0.below hbz
 clear hbz hm0
 refine ⟨_, rfl, ?_⟩
 refine qP rfl ?_
 refine lk (v := .bool true) rfl rfl rfl ?_
 refine plD ?_
 refine then_normal (hK2 _ _ ?_)
 refine wp_seq_k fun K5 hK5 => ?_
 refine wp_seq_k fun K6 hK6 => ?_
 refine plStart ?_
 refine lk (v := .slice S L.length cS) rfl rfl rfl ?_
 refine plCall (i := 1) 21 [.slice S L.length cS] [] [] rfl (by kernel_rfl) (wn rfl) rfl (litEv (by kernel_rfl)) (litArgs (by kernel_rfl)) (few_any L S cS _ ((Rd.below hS hm4.bel).more hm4.bel.size) (Mem.lv ((Mem.tailN (T := lvRes L) 0 hm4 rfl).sub (L' := lvRes L) (List.Sublist.refl _)))) ?_
 rintro e w7 ⟨rfl, hbz⟩
 have hm8 := hm4.below hbz
 clear hbz hm4
 refine ⟨_, rfl, ?_⟩
 refine qP rfl ?_
 rcases bool_or (decide (fewS L)) with h9 | h9
 · rw [h9]
   refine lk (v := .bool true) rfl rfl rfl ?_
   refine plD ?_
   refine then_normal (hK6 _ _ ?_)
   refine wp_cond_true (litEv (by kernel_rfl)) ?_
   refine wp_seq_k fun K10 hK10 => ?_
   refine plStart ?_
   refine lk (v := .bool true) rfl rfl rfl ?_
   refine lk (v := .bool true) rfl rfl rfl ?_
   refine plD ?_
   refine then_normal (hK10 _ _ ?_)
   refine wp_ret ?_
   refine then_ret ?_
   refine bodyPost_ret (v := .bool true) (gRes1 rfl (gResTmp (t := 2) (v := .bool true) (litGet (by kernel_rfl)))) rfl ?_
   exact ⟨by rfl, hm8.bel⟩
 rw [h9]
 have hfew := of_decide_eq_true h9
 refine lk (v := .bool false) rfl rfl rfl ?_
 refine plD ?_
 refine then_normal (hK6 _ _ ?_)
 refine wp_cond_false (litEv (by kernel_rfl)) ?_
 refine wp_skip ?_
 refine then_normal (hK5 _ _ ?_)
 refine wp_seq_k fun K11 hK11 => ?_
 refine plStart ?_
 refine plCall (i := 0) 22 [] [] [] rfl (by kernel_rfl) (wn rfl) rfl (litEv (by kernel_rfl)) (litArgs (by kernel_rfl)) (new_any _) ?_
 rintro e w12 ⟨rfl, hbz⟩
 have hm13 := hm8.below hbz
 clear hbz hm8
 refine ⟨_, rfl, ?_⟩
 refine qP rfl ?_
 refine plAlloc (z := [.slice none 0 0, .int .i64 0]) Ty.ag_voxel_api_Versions hm13 (i := 1) rfl (wn rfl) rfl ?_
 intro g14 w16 hm15
 clear hm13
 try simp only [List.cons_append, List.nil_append, List.set_cons_succ, List.set_cons_zero] at hm15
 replace hm15 := Mem.insAt (M := (lvRes L)) 0 hm15
 simp only [List.insertIdx_succ_cons, List.insertIdx_zero] at hm15
 refine qP rfl ?_
 refine plStore 0 Ty.ag_voxel_api_Versions hm15 rfl (i := 2) (cs := tbs (.slice none 0 0) 1) rfl (wn rfl) rfl (litEv (by kernel_rfl)) (litEv (by kernel_rfl)) rfl rfl (by kernel_rfl) ?_
 intro w18 hm17
 clear hm15
 try simp only [List.cons_append, List.nil_append, List.set_cons_succ, List.set_cons_zero] at hm17
 refine qNone rfl ?_
 refine plD ?_
 refine then_normal (hK11 _ _ ?_)
 refine wp_seq_k fun K19 hK19 => ?_
 refine plStart ?_
 refine lk (v := .slice none 0 0) rfl rfl rfl ?_
 refine plD ?_
 refine then_normal (hK19 _ _ ?_)
 refine wp_seq_k fun K20 hK20 => ?_
 refine plStart ?_
 refine lk (v := .slice none 0 0) rfl rfl rfl ?_
 refine plD ?_
 refine then_normal (hK20 _ _ ?_)
 refine wp_seq_k fun K21 hK21 => ?_
 refine wp_seq_k fun K22 hK22 => ?_
 refine plStart ?_
 refine lk (v := .int .i64 0) rfl rfl rfl ?_
 refine plD ?_
 refine then_normal (hK22 _ _ ?_)
 refine wp_block ?_
 refine gwLoop (fun n_ a_ w_ => ∃ (k : Nat) (l1 hl : List Lv) (ps : List Int) (X6 : List Value) (n6 : Nat) (S1 A5 A6 : Option Addr) (c1 c5 c6 : Nat) (nx : Int), n_ = L.length - k ∧ (k ≤ L.length) ∧ (GoodV (vrs l1) nx ((k : Int) + 1)) ∧ (PinSt (vrs l1) nx (hl.map (·.h)) ps) ∧ (∀ v ∈ hl, v ∈ L) ∧ (n6 = ps.length) ∧ (X6 = ics ps) ∧ Fr a_ 160 [(0, .slice S L.length cS), (3, .bool true), (4, .pointer (some ⟨g14, 0, none⟩)), (5, .slice A5 hl.length c5), (6, .slice A6 n6 c6), (7, .int .i64 (k : Int))] ∧ Mem w w_ ((.arr g14 44 (tbs (.slice S1 l1.length c1) nx)) :: (.row (.slice A5 hl.length c5) 25 4 hl.length (hds hl)) :: (.row (.slice A6 n6 c6) 3 1 n6 X6) :: (tbRes l1 S1 c1 ++ lvRes L))) (L.length - 0) ⟨0, [], [], [], [], 0, none, none, none, 0, 0, 0, 1, rfl, (Nat.zero_le _), GoodV.nil, PinSt.start, (fun _ h_ => by cases h_), rfl, rfl, ⟨litSize, rfl, ⟨litGet (by kernel_rfl), ⟨litGet (by kernel_rfl), ⟨litGet (by kernel_rfl), ⟨litGet (by kernel_rfl), ⟨litGet (by kernel_rfl), ⟨litGet (by kernel_rfl), trivial⟩⟩⟩⟩⟩⟩⟩, (Mem.nilTb (M := lvRes L) [.arr g14 44 (tbs (.slice none ([] : List Lv).length 0) 1), .row (.slice none ([] : List Lv).length 0) 25 4 ([] : List Lv).length (hds []), .row (.slice none 0 0) 3 1 0 []] (Mem.nilRows2 hm17 25 4 3 1) (fun _ h_ => lvRes_mut h_))⟩ ?_
 clear hm17
 intro n_ a25 w23 hI_
 obtain ⟨k, l1, hl, ps, X6, n6, S1, A5, A6, c1, c5, c6, nx, rfl, hk, hgv, hps, hhl, hn6, hX6, hF_, hm24⟩ := hI_
 obtain ⟨X26, rfl⟩ := frLit hF_
 clear hF_
 refine wp_seq_k fun K27 hK27 => ?_
 refine wp_seq_k fun K28 hK28 => ?_
 refine plStart ?_
 refine lk (v := .int .i64 (k : Int)) rfl rfl rfl ?_
 refine lk (v := .slice S L.length cS) rfl rfl rfl ?_
 refine litVal (v := .int .i64 (L.length : Int)) rfl (wn rfl) (lenSlRun (A := S) (n := L.length) (c := cS) (.tmp 23) Ty.und_L_voxelref18_Step rfl (litEv (by kernel_rfl))) rfl (by decide) ?_
 by_cases h29 : (k : Int) < (L.length : Int)
 · obtain ⟨x, hkx⟩ : ∃ x, L[k]? = some x := ⟨_, List.getElem?_eq_getElem (by omega)⟩
   have hft_ := hfits x (List.mem_of_getElem? hkx)
   have hk250_ := hfew.2
   have hlk_ := hps.len
   have hlx_ := hps.nx
   have hlm_ := hgv.nxm
   rw [List.length_map] at hlk_ hlx_
   obtain ⟨bS_, oS_, rfl, _, _⟩ := hS.cells (by omega)
   refine litVal (v := .bool true) rfl (wn rfl) (boolTo (decide_eq_true h29) (lssRun (A := (k : Int)) (B := (L.length : Int)) (.tmp 22) (.tmp 24) rfl (litEv (by kernel_rfl)) (litEv (by kernel_rfl)))) rfl (by decide) ?_
   refine plD ?_
   refine then_normal (hK28 _ _ ?_)
   refine wp_cond_true (litEv (by kernel_rfl)) ?_
   refine wp_skip ?_
   refine then_normal (hK27 _ _ ?_)
   refine wp_seq_k fun K30 hK30 => ?_
   refine wp_block ?_
   refine gwCut (fun a_ w_ => ∃ (gga : Nat) (la : List Lv) (Sa : Option Addr) (ca : Nat) (Aa : Option Addr) (da : Nat), (vrs la = (stepV (vrs l1) nx x.num x.pins x.h).1) ∧ Fr a_ 160 [(0, .slice (some ⟨bS_, oS_, none⟩) L.length cS), (3, .bool true), (4, .pointer (some ⟨g14, 0, none⟩)), (5, .slice A5 hl.length c5), (6, .slice A6 n6 c6), (7, .int .i64 (k : Int)), (8, .pointer (some ⟨gga, 0, none⟩)), (9, .int .i64 ((stepV (vrs l1) nx x.num x.pins x.h).2.2.1)), (10, .slice Aa ((stepV (vrs l1) nx x.num x.pins x.h).2.2.2.1.length) da), (11, .int .i64 ((stepV (vrs l1) nx x.num x.pins x.h).2.2.2.2)), (22, .int .i64 (k : Int)), (23, .slice (some ⟨bS_, oS_, none⟩) L.length cS), (24, .int .i64 (L.length : Int)), (25, .bool true)] ∧ Mem w w_ ((.arr g14 44 (tbs (.slice S1 l1.length c1) nx)) :: (.row (.slice A5 hl.length c5) 25 4 hl.length (hds hl)) :: (.row (.slice A6 n6 c6) 3 1 n6 X6) :: (.arr gga 44 (tbs (.slice Sa la.length ca) ((stepV (vrs l1) nx x.num x.pins x.h).2.1))) :: ((.rd Aa 1 (stepV (vrs l1) nx x.num x.pins x.h).2.2.2.1.length da (ics (stepV (vrs l1) nx x.num x.pins x.h).2.2.2.1)) :: (tbRes la Sa ca ++ (tbRes l1 S1 c1 ++ lvRes L))))) ?_ ?_
   · refine mgStartM ((.arr g14 44 (tbs (.slice S1 l1.length c1) nx)) :: (.row (.slice A5 hl.length c5) 25 4 hl.length (hds hl)) :: (.row (.slice A6 n6 c6) 3 1 n6 X6) :: (tbRes l1 S1 c1 ++ lvRes L)) hm24 (by kernel_rfl) ?_
     intro w32 hm31
     clear hm24
     refine mgTake (i := 0) (v := .agg (tbs (.slice S1 l1.length c1) nx).toArray) rfl (by kernel_rfl) (wn rfl) (fun _ _ _ h => h) (hm31.sub (.cons_cons _ (.cons_cons _ (.cons_cons _ (List.Sublist.refl _))))) (fun w_ h_ => gLoadAg (vs := tbs (.slice S1 l1.length c1) nx) (k := 0) 0 h_ rfl (by kernel_rfl) (by kernel_rfl) (.tmp 4) Ty.ag_voxel_api_Versions rfl (litEv (by kernel_rfl))) ?_
     refine mP rfl ?_
     refine mk_ (i := 1) (v := .slice (some ⟨bS_, oS_, none⟩) L.length cS) rfl rfl (fun _ _ _ h => h) (hm31.sub (.cons_cons _ (.cons_cons _ (.cons_cons _ (List.Sublist.refl _))))) rfl ?_
     refine mk_ (i := 2) (v := .int .i64 (k : Int)) rfl rfl (fun _ _ _ h => h) (hm31.sub (.cons_cons _ (.cons_cons _ (.cons_cons _ (List.Sublist.refl _))))) rfl ?_
     refine mgTake (i := 3) (v := .pointer (some ⟨bS_, oS_ + k * 6, none⟩)) rfl (by kernel_rfl) (wn rfl) (fun _ _ _ h => h) (hm31.sub (.cons_cons _ (.cons_cons _ (.cons_cons _ (List.Sublist.refl _))))) (fun w_ h_ => gIaSl (b := bS_) (off := oS_) (n := L.length) (c := cS) (kk := .i64) (K := (k : Int)) (.tmp 30) (.tmp 31) k Ty.sl_L_voxelref18_Step rfl (litEv (by kernel_rfl)) (litEv (by kernel_rfl)) (rfl) (by omega)) ?_
     refine mP rfl ?_
     refine mgTake (i := 4) (v := .agg (lvc x).toArray) rfl (by kernel_rfl) (wn rfl) (fun _ _ _ h => h) (hm31.sub (.cons_cons _ (.cons_cons _ (.cons_cons _ (List.Sublist.refl _))))) (fun w_ h_ => gLoadAgRd (vs := lvc x) (m := k * 6) ((Rd.below hS h_.bel).more h_.bel.size) rfl (fun i_ u_ hu_ => lvs_get hkx i_ u_ hu_) (by kernel_rfl) (by omega) (.tmp 32) Ty.ag_voxel_voxelref18_Step rfl (litEv (by kernel_rfl))) ?_
     refine mP rfl ?_
     refine mgFork (i := 5) (j := 11) (by kernel_rfl) (by kernel_rfl) (by kernel_rfl) ?_ ?_
     · refine mgiCall (i := 5) 24 [.agg (tbs (.slice S1 l1.length c1) nx).toArray, .agg (lvc x).toArray] [] [] rfl (by kernel_rfl) (wn rfl) rfl (litEv (by kernel_rfl)) (litArgs (by kernel_rfl)) (by exact played_any l1 S1 c1 nx x _ (Mem.tb ((Mem.tailN (T := (tbRes l1 S1 c1 ++ lvRes L)) 3 hm31 rfl).sub (L' := tbRes l1 S1 c1) (List.sublist_append_left _ _))) ((Mem.lv ((Mem.tailN (T := (tbRes l1 S1 c1 ++ lvRes L)) 3 hm31 rfl).sub (L' := lvRes L) ((List.Sublist.refl _).trans (List.sublist_append_right _ _)))) x (List.mem_of_getElem? hkx)) (by have q_ := lenL hgv; omega) (fit_of (hfew.1 x (List.mem_of_getElem? hkx)) hft_.1 hft_.2.1 hft_.2.2.1) (pinsL hgv) (goodL hgv) ⟨by have q_ := (hgv).nx0; omega, by have q_ := (hgv).nxm; omega⟩ hft_.2.2.2) ?_
       rintro e w33 ⟨l35, S36, c37, A38, c39, rfl, hvl35, hrd_, hna_, hT_, hN_, hbz⟩
       have hm34 : Mem w w33 ([.arr g14 44 (tbs (.slice S1 l1.length c1) nx), .row (.slice A5 hl.length c5) 25 4 hl.length (hds hl), .row (.slice A6 n6 c6) 3 1 n6 X6] ++ (tbRes l35 S36 c37 ++ (tbRes l1 S1 c1 ++ lvRes L))) := Mem.newTb (M := (tbRes l1 S1 c1 ++ lvRes L)) [.arr g14 44 (tbs (.slice S1 l1.length c1) nx), .row (.slice A5 hl.length c5) 25 4 hl.length (hds hl), .row (.slice A6 n6 c6) 3 1 n6 X6] hm31 hbz hT_ hN_ (hdOfL (List.mem_of_getElem? hkx) ((List.Sublist.refl _).trans (List.sublist_append_right _ _)) (List.sublist_append_left _ _)) (mutApp (fun _ h_ => tbRes_mut h_) (fun _ h_ => lvRes_mut h_))
       have hm40 : Mem w w33 ([.arr g14 44 (tbs (.slice S1 l1.length c1) nx), .row (.slice A5 hl.length c5) 25 4 hl.length (hds hl), .row (.slice A6 n6 c6) 3 1 n6 X6] ++ ((.rd A38 1 (stepV (vrs l1) nx x.num x.pins x.h).2.2.2.1.length c39 (ics (stepV (vrs l1) nx x.num x.pins x.h).2.2.2.1)) :: (tbRes l35 S36 c37 ++ (tbRes l1 S1 c1 ++ lvRes L)))) := Mem.newRdMid (M0 := (tbRes l1 S1 c1 ++ lvRes L)) [.arr g14 44 (tbs (.slice S1 l1.length c1) nx), .row (.slice A5 hl.length c5) 25 4 hl.length (hds hl), .row (.slice A6 n6 c6) 3 1 n6 X6] hm31 hm34 hrd_ hna_ (mutApp (fun _ h_ => tbRes_mut h_) (mutApp (fun _ h_ => tbRes_mut h_) (fun _ h_ => lvRes_mut h_)))
       clear hm34
       have hm41 : Mem w w33 ((.arr g14 44 (tbs (.slice S1 l1.length c1) nx)) :: (.row (.slice A5 hl.length c5) 25 4 hl.length (hds hl)) :: (.row (.slice A6 n6 c6) 3 1 n6 X6) :: ((.rd A38 1 (stepV (vrs l1) nx x.num x.pins x.h).2.2.2.1.length c39 (ics (stepV (vrs l1) nx x.num x.pins x.h).2.2.2.1)) :: (tbRes l35 S36 c37 ++ (tbRes l1 S1 c1 ++ lvRes L)))) := hm40
       clear hm40
       clear hT_ hN_ hbz hrd_ hna_
       refine ⟨_, rfl, (hm41.sub (.cons_cons _ (.cons_cons _ (.cons_cons _ (List.Sublist.cons _ ((List.Sublist.refl _).trans (List.sublist_append_right _ _))))))), ?_⟩
       refine mP rfl ?_
       refine mk_ (i := 6) (v := .tuple #[.agg (tbs (.slice S36 l35.length c37) ((stepV (vrs l1) nx x.num x.pins x.h).2.1)).toArray, .int .i64 ((stepV (vrs l1) nx x.num x.pins x.h).2.2.1), .slice A38 ((stepV (vrs l1) nx x.num x.pins x.h).2.2.2.1.length) c39, .int .i64 ((stepV (vrs l1) nx x.num x.pins x.h).2.2.2.2)]) rfl rfl (fun _ _ _ h => h) (hm41.sub (.cons_cons _ (.cons_cons _ (.cons_cons _ (List.Sublist.cons _ ((List.Sublist.refl _).trans (List.sublist_append_right _ _))))))) rfl ?_
       refine mk_ (i := 7) (v := .agg (tbs (.slice S36 l35.length c37) ((stepV (vrs l1) nx x.num x.pins x.h).2.1)).toArray) rfl rfl (fun _ _ _ h => h) (hm41.sub (.cons_cons _ (.cons_cons _ (.cons_cons _ (List.Sublist.cons _ ((List.Sublist.refl _).trans (List.sublist_append_right _ _))))))) rfl ?_
       refine mk_ (i := 8) (v := .int .i64 ((stepV (vrs l1) nx x.num x.pins x.h).2.2.1)) rfl rfl (fun _ _ _ h => h) (hm41.sub (.cons_cons _ (.cons_cons _ (.cons_cons _ (List.Sublist.cons _ ((List.Sublist.refl _).trans (List.sublist_append_right _ _))))))) rfl ?_
       refine mk_ (i := 9) (v := .slice A38 ((stepV (vrs l1) nx x.num x.pins x.h).2.2.2.1.length) c39) rfl rfl (fun _ _ _ h => h) (hm41.sub (.cons_cons _ (.cons_cons _ (.cons_cons _ (List.Sublist.cons _ ((List.Sublist.refl _).trans (List.sublist_append_right _ _))))))) rfl ?_
       refine mk_ (i := 10) (v := .int .i64 ((stepV (vrs l1) nx x.num x.pins x.h).2.2.2.2)) rfl rfl (fun _ _ _ h => h) (hm41.sub (.cons_cons _ (.cons_cons _ (.cons_cons _ (List.Sublist.cons _ ((List.Sublist.refl _).trans (List.sublist_append_right _ _))))))) rfl ?_
       refine mgAlloc (i := 11) (z := [.slice none 0 0, .int .i64 0]) Ty.ag_voxel_api_Versions hm41 (fun w_ h_ => (h_.sub (.cons_cons _ (.cons_cons _ (.cons_cons _ (List.Sublist.cons _ ((List.Sublist.refl _).trans (List.sublist_append_right _ _)))))))) (by kernel_rfl) rfl (wn rfl) rfl ?_
       intro g42 w44 hm43
       clear hm41
       try simp only [List.cons_append, List.nil_append, List.set_cons_succ, List.set_cons_zero] at hm43
       replace hm43 := Mem.insAt (M := ((.arr g14 44 (tbs (.slice S1 l1.length c1) nx)) :: (.row (.slice A5 hl.length c5) 25 4 hl.length (hds hl)) :: (.row (.slice A6 n6 c6) 3 1 n6 X6) :: ((.rd A38 1 (stepV (vrs l1) nx x.num x.pins x.h).2.2.2.1.length c39 (ics (stepV (vrs l1) nx x.num x.pins x.h).2.2.2.1)) :: (tbRes l35 S36 c37 ++ (tbRes l1 S1 c1 ++ lvRes L))))) 3 hm43
       simp only [List.insertIdx_succ_cons, List.insertIdx_zero] at hm43
       refine mP rfl ?_
       refine mgStore 3 Ty.ag_voxel_api_Versions hm43 rfl (by kernel_rfl) (i := 12) (cs := tbs (.slice S36 l35.length c37) ((stepV (vrs l1) nx x.num x.pins x.h).2.1)) rfl (wn rfl) rfl (litEv (by kernel_rfl)) (litEv (by kernel_rfl)) rfl rfl (by kernel_rfl) (fun w_ h_ => (h_.sub (.cons_cons _ (.cons_cons _ (.cons_cons _ (.cons _ (List.Sublist.cons _ ((List.Sublist.refl _).trans (List.sublist_append_right _ _))))))))) ?_
       intro w46 hm45
       clear hm43
       try simp only [List.cons_append, List.nil_append, List.set_cons_succ, List.set_cons_zero] at hm45
       refine mNone rfl ?_
       refine mk_ (i := 13) (v := .int .i64 ((stepV (vrs l1) nx x.num x.pins x.h).2.2.1)) rfl rfl (fun _ _ _ h => h) (hm45.sub (.cons_cons _ (.cons_cons _ (.cons_cons _ (.cons _ (List.Sublist.cons _ ((List.Sublist.refl _).trans (List.sublist_append_right _ _)))))))) rfl ?_
       refine mk_ (i := 14) (v := .slice A38 ((stepV (vrs l1) nx x.num x.pins x.h).2.2.2.1.length) c39) rfl rfl (fun _ _ _ h => h) (hm45.sub (.cons_cons _ (.cons_cons _ (.cons_cons _ (.cons _ (List.Sublist.cons _ ((List.Sublist.refl _).trans (List.sublist_append_right _ _)))))))) rfl ?_
       refine mk_ (i := 15) (v := .int .i64 ((stepV (vrs l1) nx x.num x.pins x.h).2.2.2.2)) rfl rfl (fun _ _ _ h => h) (hm45.sub (.cons_cons _ (.cons_cons _ (.cons_cons _ (.cons _ (List.Sublist.cons _ ((List.Sublist.refl _).trans (List.sublist_append_right _ _)))))))) rfl ?_
       refine mgDone (by kernel_rfl) ?_
       refine then_normal ?_
       exact ⟨g42, l35, S36, c37, A38, c39, hvl35, ⟨litSize, rfl, ⟨litGet (by kernel_rfl), ⟨litGet (by kernel_rfl), ⟨litGet (by kernel_rfl), ⟨litGet (by kernel_rfl), ⟨litGet (by kernel_rfl), ⟨litGet (by kernel_rfl), ⟨litGet (by kernel_rfl), ⟨litGet (by kernel_rfl), ⟨litGet (by kernel_rfl), ⟨litGet (by kernel_rfl), ⟨litGet (by kernel_rfl), ⟨litGet (by kernel_rfl), ⟨litGet (by kernel_rfl), ⟨litGet (by kernel_rfl), trivial⟩⟩⟩⟩⟩⟩⟩⟩⟩⟩⟩⟩⟩⟩⟩, hm45⟩
     refine mgiAlloc (i := 11) (z := [.slice none 0 0, .int .i64 0]) Ty.ag_voxel_api_Versions hm31 (fun w_ h_ => (h_.sub (.cons_cons _ (.cons_cons _ (.cons_cons _ (List.Sublist.refl _)))))) rfl (wn rfl) rfl ?_
     intro g47 w49 hm48
     clear hm31
     try simp only [List.cons_append, List.nil_append, List.set_cons_succ, List.set_cons_zero] at hm48
     replace hm48 := Mem.insAt (M := ((.arr g14 44 (tbs (.slice S1 l1.length c1) nx)) :: (.row (.slice A5 hl.length c5) 25 4 hl.length (hds hl)) :: (.row (.slice A6 n6 c6) 3 1 n6 X6) :: (tbRes l1 S1 c1 ++ lvRes L))) 3 hm48
     simp only [List.insertIdx_succ_cons, List.insertIdx_zero] at hm48
     refine mP rfl ?_
     refine mgCall (i := 5) 24 [.agg (tbs (.slice S1 l1.length c1) nx).toArray, .agg (lvc x).toArray] [] [] (by kernel_rfl) rfl (by kernel_rfl) (wn rfl) rfl (litEv (by kernel_rfl)) (litArgs (by kernel_rfl)) (by exact played_any l1 S1 c1 nx x _ (Mem.tb ((Mem.tailN (T := (tbRes l1 S1 c1 ++ lvRes L)) 4 hm48 rfl).sub (L' := tbRes l1 S1 c1) (List.sublist_append_left _ _))) ((Mem.lv ((Mem.tailN (T := (tbRes l1 S1 c1 ++ lvRes L)) 4 hm48 rfl).sub (L' := lvRes L) ((List.Sublist.refl _).trans (List.sublist_append_right _ _)))) x (List.mem_of_getElem? hkx)) (by have q_ := lenL hgv; omega) (fit_of (hfew.1 x (List.mem_of_getElem? hkx)) hft_.1 hft_.2.1 hft_.2.2.1) (pinsL hgv) (goodL hgv) ⟨by have q_ := (hgv).nx0; omega, by have q_ := (hgv).nxm; omega⟩ hft_.2.2.2) ?_
     rintro e w50 ⟨l52, S53, c54, A55, c56, rfl, hvl52, hrd_, hna_, hT_, hN_, hbz⟩
     have hm51 : Mem w w50 ([.arr g14 44 (tbs (.slice S1 l1.length c1) nx), .row (.slice A5 hl.length c5) 25 4 hl.length (hds hl), .row (.slice A6 n6 c6) 3 1 n6 X6, .arr g47 44 ([.slice none 0 0, .int .i64 0])] ++ (tbRes l52 S53 c54 ++ (tbRes l1 S1 c1 ++ lvRes L))) := Mem.newTb (M := (tbRes l1 S1 c1 ++ lvRes L)) [.arr g14 44 (tbs (.slice S1 l1.length c1) nx), .row (.slice A5 hl.length c5) 25 4 hl.length (hds hl), .row (.slice A6 n6 c6) 3 1 n6 X6, .arr g47 44 ([.slice none 0 0, .int .i64 0])] hm48 hbz hT_ hN_ (hdOfL (List.mem_of_getElem? hkx) ((List.Sublist.refl _).trans (List.sublist_append_right _ _)) (List.sublist_append_left _ _)) (mutApp (fun _ h_ => tbRes_mut h_) (fun _ h_ => lvRes_mut h_))
     have hm57 : Mem w w50 ([.arr g14 44 (tbs (.slice S1 l1.length c1) nx), .row (.slice A5 hl.length c5) 25 4 hl.length (hds hl), .row (.slice A6 n6 c6) 3 1 n6 X6, .arr g47 44 ([.slice none 0 0, .int .i64 0])] ++ ((.rd A55 1 (stepV (vrs l1) nx x.num x.pins x.h).2.2.2.1.length c56 (ics (stepV (vrs l1) nx x.num x.pins x.h).2.2.2.1)) :: (tbRes l52 S53 c54 ++ (tbRes l1 S1 c1 ++ lvRes L)))) := Mem.newRdMid (M0 := (tbRes l1 S1 c1 ++ lvRes L)) [.arr g14 44 (tbs (.slice S1 l1.length c1) nx), .row (.slice A5 hl.length c5) 25 4 hl.length (hds hl), .row (.slice A6 n6 c6) 3 1 n6 X6, .arr g47 44 ([.slice none 0 0, .int .i64 0])] hm48 hm51 hrd_ hna_ (mutApp (fun _ h_ => tbRes_mut h_) (mutApp (fun _ h_ => tbRes_mut h_) (fun _ h_ => lvRes_mut h_)))
     clear hm51
     have hm58 : Mem w w50 ((.arr g14 44 (tbs (.slice S1 l1.length c1) nx)) :: (.row (.slice A5 hl.length c5) 25 4 hl.length (hds hl)) :: (.row (.slice A6 n6 c6) 3 1 n6 X6) :: (.arr g47 44 ([.slice none 0 0, .int .i64 0])) :: ((.rd A55 1 (stepV (vrs l1) nx x.num x.pins x.h).2.2.2.1.length c56 (ics (stepV (vrs l1) nx x.num x.pins x.h).2.2.2.1)) :: (tbRes l52 S53 c54 ++ (tbRes l1 S1 c1 ++ lvRes L)))) := hm57
     clear hm57
     clear hT_ hN_ hbz hrd_ hna_
     refine ⟨_, rfl, (hm58.sub (.cons_cons _ (.cons_cons _ (.cons_cons _ (.cons _ (List.Sublist.cons _ ((List.Sublist.refl _).trans (List.sublist_append_right _ _)))))))), ?_⟩
     refine mP rfl ?_
     refine mk_ (i := 6) (v := .tuple #[.agg (tbs (.slice S53 l52.length c54) ((stepV (vrs l1) nx x.num x.pins x.h).2.1)).toArray, .int .i64 ((stepV (vrs l1) nx x.num x.pins x.h).2.2.1), .slice A55 ((stepV (vrs l1) nx x.num x.pins x.h).2.2.2.1.length) c56, .int .i64 ((stepV (vrs l1) nx x.num x.pins x.h).2.2.2.2)]) rfl rfl (fun _ _ _ h => h) (hm58.sub (.cons_cons _ (.cons_cons _ (.cons_cons _ (.cons _ (List.Sublist.cons _ ((List.Sublist.refl _).trans (List.sublist_append_right _ _)))))))) rfl ?_
     refine mk_ (i := 7) (v := .agg (tbs (.slice S53 l52.length c54) ((stepV (vrs l1) nx x.num x.pins x.h).2.1)).toArray) rfl rfl (fun _ _ _ h => h) (hm58.sub (.cons_cons _ (.cons_cons _ (.cons_cons _ (.cons _ (List.Sublist.cons _ ((List.Sublist.refl _).trans (List.sublist_append_right _ _)))))))) rfl ?_
     refine mk_ (i := 8) (v := .int .i64 ((stepV (vrs l1) nx x.num x.pins x.h).2.2.1)) rfl rfl (fun _ _ _ h => h) (hm58.sub (.cons_cons _ (.cons_cons _ (.cons_cons _ (.cons _ (List.Sublist.cons _ ((List.Sublist.refl _).trans (List.sublist_append_right _ _)))))))) rfl ?_
     refine mk_ (i := 9) (v := .slice A55 ((stepV (vrs l1) nx x.num x.pins x.h).2.2.2.1.length) c56) rfl rfl (fun _ _ _ h => h) (hm58.sub (.cons_cons _ (.cons_cons _ (.cons_cons _ (.cons _ (List.Sublist.cons _ ((List.Sublist.refl _).trans (List.sublist_append_right _ _)))))))) rfl ?_
     refine mk_ (i := 10) (v := .int .i64 ((stepV (vrs l1) nx x.num x.pins x.h).2.2.2.2)) rfl rfl (fun _ _ _ h => h) (hm58.sub (.cons_cons _ (.cons_cons _ (.cons_cons _ (.cons _ (List.Sublist.cons _ ((List.Sublist.refl _).trans (List.sublist_append_right _ _)))))))) rfl ?_
     refine mgStore 3 Ty.ag_voxel_api_Versions hm58 rfl (by kernel_rfl) (i := 12) (cs := tbs (.slice S53 l52.length c54) ((stepV (vrs l1) nx x.num x.pins x.h).2.1)) rfl (wn rfl) rfl (litEv (by kernel_rfl)) (litEv (by kernel_rfl)) rfl rfl (by kernel_rfl) (fun w_ h_ => (h_.sub (.cons_cons _ (.cons_cons _ (.cons_cons _ (.cons _ (List.Sublist.cons _ ((List.Sublist.refl _).trans (List.sublist_append_right _ _))))))))) ?_
     intro w60 hm59
     clear hm58
     try simp only [List.cons_append, List.nil_append, List.set_cons_succ, List.set_cons_zero] at hm59
     refine mNone rfl ?_
     refine mk_ (i := 13) (v := .int .i64 ((stepV (vrs l1) nx x.num x.pins x.h).2.2.1)) rfl rfl (fun _ _ _ h => h) (hm59.sub (.cons_cons _ (.cons_cons _ (.cons_cons _ (.cons _ (List.Sublist.cons _ ((List.Sublist.refl _).trans (List.sublist_append_right _ _)))))))) rfl ?_
     refine mk_ (i := 14) (v := .slice A55 ((stepV (vrs l1) nx x.num x.pins x.h).2.2.2.1.length) c56) rfl rfl (fun _ _ _ h => h) (hm59.sub (.cons_cons _ (.cons_cons _ (.cons_cons _ (.cons _ (List.Sublist.cons _ ((List.Sublist.refl _).trans (List.sublist_append_right _ _)))))))) rfl ?_
     refine mk_ (i := 15) (v := .int .i64 ((stepV (vrs l1) nx x.num x.pins x.h).2.2.2.2)) rfl rfl (fun _ _ _ h => h) (hm59.sub (.cons_cons _ (.cons_cons _ (.cons_cons _ (.cons _ (List.Sublist.cons _ ((List.Sublist.refl _).trans (List.sublist_append_right _ _)))))))) rfl ?_
     refine mgDone (by kernel_rfl) ?_
     refine then_normal ?_
     exact ⟨g47, l52, S53, c54, A55, c56, hvl52, ⟨litSize, rfl, ⟨litGet (by kernel_rfl), ⟨litGet (by kernel_rfl), ⟨litGet (by kernel_rfl), ⟨litGet (by kernel_rfl), ⟨litGet (by kernel_rfl), ⟨litGet (by kernel_rfl), ⟨litGet (by kernel_rfl), ⟨litGet (by kernel_rfl), ⟨litGet (by kernel_rfl), ⟨litGet (by kernel_rfl), ⟨litGet (by kernel_rfl), ⟨litGet (by kernel_rfl), ⟨litGet (by kernel_rfl), ⟨litGet (by kernel_rfl), trivial⟩⟩⟩⟩⟩⟩⟩⟩⟩⟩⟩⟩⟩⟩⟩, hm59⟩
   clear hm24
   intro a63 w61 hI_
   obtain ⟨gga, la, Sa, ca, Aa, da, hva, hF_, hm62⟩ := hI_
   obtain ⟨X64, rfl⟩ := frLit hF_
   clear hF_
   refine wp_seq_k fun K65 hK65 => ?_
   refine wp_seq_k fun K66 hK66 => ?_
   refine plStart ?_
   refine lk (v := .int .i64 ((stepV (vrs l1) nx x.num x.pins x.h).2.2.2.2)) rfl rfl rfl ?_
   by_cases h67 : ((stepV (vrs l1) nx x.num x.pins x.h).2.2.2.2) = 0
   · refine litVal (v := .bool false) rfl (wn rfl) (boolTo (by rw [decide_eq_true h67]; rfl) (neqRun (A := ((stepV (vrs l1) nx x.num x.pins x.h).2.2.2.2)) (B := 0) (.tmp 39) (.const (.int .i64 0)) rfl (litEv (by kernel_rfl)) (litEv (by kernel_rfl)))) rfl (by decide) ?_
     refine plD ?_
     refine then_normal (hK66 _ _ ?_)
     refine wp_cond_false (litEv (by kernel_rfl)) ?_
     refine wp_skip ?_
     refine then_normal (hK65 _ _ ?_)
     refine wp_seq_k fun K68 hK68 => ?_
     refine plStart ?_
     refine litVal (v := .agg (tbs (.slice Sa la.length ca) ((stepV (vrs l1) nx x.num x.pins x.h).2.1)).toArray) rfl (wn rfl) (gLoadAg (vs := tbs (.slice Sa la.length ca) ((stepV (vrs l1) nx x.num x.pins x.h).2.1)) (k := 0) 3 hm62 rfl (by kernel_rfl) (by kernel_rfl) (.tmp 8) Ty.ag_voxel_api_Versions rfl (litEv (by kernel_rfl))) rfl (by decide) ?_
     refine plStore 0 Ty.ag_voxel_api_Versions hm62 rfl (i := 1) (cs := tbs (.slice Sa la.length ca) ((stepV (vrs l1) nx x.num x.pins x.h).2.1)) rfl (wn rfl) rfl (litEv (by kernel_rfl)) (litEv (by kernel_rfl)) rfl rfl (by kernel_rfl) ?_
     intro w70 hm69
     clear hm62
     try simp only [List.cons_append, List.nil_append, List.set_cons_succ, List.set_cons_zero] at hm69
     refine qNone rfl ?_
     refine plD ?_
     refine then_normal (hK68 _ _ ?_)
     refine gwCut (fun a_ w_ => ∃ (l1b hlb : List Lv) (psb : List Int) (X6b : List Value) (n6b : Nat) (S1b A5b A6b : Option Addr) (c1b c5b c6b : Nat), (GoodV (vrs l1b) (stepV (vrs l1) nx x.num x.pins x.h).2.1 ((k : Int) + 1 + 1)) ∧ (PinSt (vrs l1b) ((stepV (vrs l1) nx x.num x.pins x.h).2.1) (hlb.map (·.h)) psb) ∧ (∀ v ∈ hlb, v ∈ L) ∧ (n6b = psb.length) ∧ (X6b = ics psb) ∧ Fr a_ 160 [(0, .slice (some ⟨bS_, oS_, none⟩) L.length cS), (3, .bool true), (4, .pointer (some ⟨g14, 0, none⟩)), (5, .slice A5b hlb.length c5b), (6, .slice A6b n6b c6b), (7, .int .i64 (k : Int)), (8, .pointer (some ⟨gga, 0, none⟩)), (9, .int .i64 ((stepV (vrs l1) nx x.num x.pins x.h).2.2.1)), (11, .int .i64 ((stepV (vrs l1) nx x.num x.pins x.h).2.2.2.2)), (22, .int .i64 (k : Int)), (23, .slice (some ⟨bS_, oS_, none⟩) L.length cS), (24, .int .i64 (L.length : Int)), (25, .bool true), (39, .int .i64 ((stepV (vrs l1) nx x.num x.pins x.h).2.2.2.2)), (40, .bool false), (41, .agg (tbs (.slice Sa la.length ca) ((stepV (vrs l1) nx x.num x.pins x.h).2.1)).toArray)] ∧ Mem w w_ ((.arr g14 44 (tbs (.slice S1b l1b.length c1b) ((stepV (vrs l1) nx x.num x.pins x.h).2.1))) :: (.row (.slice A5b hlb.length c5b) 25 4 hlb.length (hds hlb)) :: (.row (.slice A6b n6b c6b) 3 1 n6b X6b) :: (tbRes l1b S1b c1b ++ lvRes L))) ?_ ?_
     · refine wp_seq_k fun K71 hK71 => ?_
       refine plStart ?_
       refine lk (v := .slice (some ⟨bS_, oS_, none⟩) L.length cS) rfl rfl rfl ?_
       refine lk (v := .int .i64 (k : Int)) rfl rfl rfl ?_
       refine litVal (v := .pointer (some ⟨bS_, oS_ + k * 6, none⟩)) rfl (wn rfl) (gIaSl (b := bS_) (off := oS_) (n := L.length) (c := cS) (kk := .i64) (K := (k : Int)) (.tmp 42) (.tmp 43) k Ty.sl_L_voxelref18_Step rfl (litEv (by kernel_rfl)) (litEv (by kernel_rfl)) (rfl) (by omega)) rfl (by decide) ?_
       refine lk (v := .pointer (some ⟨bS_, oS_ + k * 6, none⟩)) rfl rfl rfl ?_
       refine litVal (v := .int .i64 x.num) rfl (wn rfl) (gLoadRd (v := .int .i64 x.num) (m := k * 6) ((Rd.below hS hm69.bel).more hm69.bel.size) rfl (lvs_get hkx 0 _ rfl) (by omega) (.tmp 45) (by kernel_rfl) rfl (litEv (by kernel_rfl))) rfl (by decide) ?_
       refine plD ?_
       refine then_normal (hK71 _ _ ?_)
       refine wp_block ?_
       refine wp_seq_k fun K72 hK72 => ?_
       refine plStart ?_
       by_cases h73 : x.num = 1
       · refine litVal (v := .bool true) rfl (wn rfl) (boolTo (decide_eq_true h73) (eqlRun (A := x.num) (B := 1) (.tmp 46) (.const (.int .i64 1)) rfl (litEv (by kernel_rfl)) (litEv (by kernel_rfl)))) rfl (by decide) ?_
         refine lk (v := .bool true) rfl rfl rfl ?_
         refine plD ?_
         refine then_normal (hK72 _ _ ?_)
         refine wp_cond_true (litEv (by kernel_rfl)) ?_
         refine wp_seq_k fun K74 hK74 => ?_
         refine plStart ?_
         refine lk (v := .slice A5 hl.length c5) rfl rfl rfl ?_
         refine lk (v := .slice (some ⟨bS_, oS_, none⟩) L.length cS) rfl rfl rfl ?_
         refine lk (v := .int .i64 (k : Int)) rfl rfl rfl ?_
         refine litVal (v := .pointer (some ⟨bS_, oS_ + k * 6, none⟩)) rfl (wn rfl) (gIaSl (b := bS_) (off := oS_) (n := L.length) (c := cS) (kk := .i64) (K := (k : Int)) (.tmp 50) (.tmp 51) k Ty.sl_L_voxelref18_Step rfl (litEv (by kernel_rfl)) (litEv (by kernel_rfl)) (rfl) (by omega)) rfl (by decide) ?_
         refine lk (v := .pointer (some ⟨bS_, oS_ + k * 6 + 2, none⟩)) rfl rfl rfl ?_
         refine litVal (v := .agg (hcs x.h x.A x.c x.B x.d).toArray) rfl (wn rfl) (gLoadAgRd (vs := hcs x.h x.A x.c x.B x.d) (m := k * 6 + 2) ((Rd.below hS hm69.bel).more hm69.bel.size) rfl (fun i_ u_ hu_ => by have := lvs_get hkx (2 + i_) u_ (by rw [Nat.add_comm]; exact hu_); rw [← Nat.add_assoc] at this; exact this) (by kernel_rfl) (by omega) (.tmp 53) Ty.ag_voxel_api_Header rfl (litEv (by kernel_rfl))) rfl (by decide) ?_
         refine plLit (cs := [.int .i64 x.h.tick, .slice x.A x.h.counts.length x.c, .int .i64 x.h.depth, .slice x.B x.h.rn x.d]) (n := 1) Ty.sl_L_api_Header hm69 (i := 6) rfl (wn rfl) rfl (by decide) (by decide) (by rw [lit_eval]; kernel_rfl) ?_
         intro g75 w77 hm76
         clear hm69
         try simp only [List.cons_append, List.nil_append, List.set_cons_succ, List.set_cons_zero] at hm76
         replace hm76 := Mem.insAt (M := ((.arr g14 44 (tbs (.slice Sa la.length ca) ((stepV (vrs l1) nx x.num x.pins x.h).2.1))) :: (.row (.slice A5 hl.length c5) 25 4 hl.length (hds hl)) :: (.row (.slice A6 n6 c6) 3 1 n6 X6) :: (.arr gga 44 (tbs (.slice Sa la.length ca) ((stepV (vrs l1) nx x.num x.pins x.h).2.1))) :: ((.rd Aa 1 (stepV (vrs l1) nx x.num x.pins x.h).2.2.2.1.length da (ics (stepV (vrs l1) nx x.num x.pins x.h).2.2.2.1)) :: (tbRes la Sa ca ++ (tbRes l1 S1 c1 ++ lvRes L))))) 4 hm76
         simp only [List.insertIdx_succ_cons, List.insertIdx_zero] at hm76
         refine qP rfl ?_
         refine plApp1 (v := .slice A5 hl.length c5) (n := hl.length) (xs := hds hl) (ys := [.int .i64 x.h.tick, .slice x.A x.h.counts.length x.c, .int .i64 x.h.depth, .slice x.B x.h.rn x.d]) 1 4 Ty.sl_L_api_Header hm76 rfl rfl (i := 7) rfl (wn rfl) rfl (litEv (by kernel_rfl)) (litEv (by kernel_rfl)) (by kernel_rfl) (by kernel_rfl) (by omega) (by omega) ?_
         intro v82 w79 hm78
         clear hm76
         try simp only [List.cons_append, List.nil_append, List.set_cons_succ, List.set_cons_zero] at hm78
         replace hm78 := Mem.rowEq (v := v82) (e := 25) (size := 4) (n := hl.length + 1) (n' := (hl ++ [x]).length) (xs := (hds hl) ++ ([.int .i64 x.h.tick, .slice x.A x.h.counts.length x.c, .int .i64 x.h.depth, .slice x.B x.h.rn x.d])) (xs' := hds (hl ++ [x])) 1 hm78 rfl (by rw [List.length_append]; rfl) (hds_app hl x)
         try simp only [List.cons_append, List.nil_append, List.set_cons_succ, List.set_cons_zero] at hm78
         obtain ⟨A80, c81, rfl⟩ := Mem.rowSl (v := v82) (e := 25) (size := 4) (n := (hl ++ [x]).length) (xs := hds (hl ++ [x])) 1 hm78 rfl
         refine qP rfl ?_
         refine lk (v := .slice A80 ((hl ++ [x]).length) c81) rfl rfl rfl ?_
         refine plD ?_
         refine then_normal (hK74 _ _ ?_)
         refine wp_seq_k fun K83 hK83 => ?_
         refine plStart ?_
         refine lk (v := .slice A6 n6 c6) rfl rfl rfl ?_
         refine plLit (cs := [.int .i64 0]) (n := 1) Ty.sl_L_int hm78 (i := 1) rfl (wn rfl) rfl (by decide) (by decide) (by rw [lit_eval]; kernel_rfl) ?_
         intro g84 w86 hm85
         clear hm78
         try simp only [List.cons_append, List.nil_append, List.set_cons_succ, List.set_cons_zero] at hm85
         replace hm85 := Mem.insAt (M := ((.arr g14 44 (tbs (.slice Sa la.length ca) ((stepV (vrs l1) nx x.num x.pins x.h).2.1))) :: (.row (.slice A80 ((hl ++ [x]).length) c81) 25 4 ((hl ++ [x]).length) (hds (hl ++ [x]))) :: (.row (.slice A6 n6 c6) 3 1 n6 X6) :: (.arr gga 44 (tbs (.slice Sa la.length ca) ((stepV (vrs l1) nx x.num x.pins x.h).2.1))) :: (.arr g75 25 ([.int .i64 x.h.tick, .slice x.A x.h.counts.length x.c, .int .i64 x.h.depth, .slice x.B x.h.rn x.d])) :: ((.rd Aa 1 (stepV (vrs l1) nx x.num x.pins x.h).2.2.2.1.length da (ics (stepV (vrs l1) nx x.num x.pins x.h).2.2.2.1)) :: (tbRes la Sa ca ++ (tbRes l1 S1 c1 ++ lvRes L))))) 5 hm85
         simp only [List.insertIdx_succ_cons, List.insertIdx_zero] at hm85
         refine qP rfl ?_
         refine plApp1 (v := .slice A6 n6 c6) (n := n6) (xs := X6) (ys := [.int .i64 0]) 2 5 Ty.sl_L_int hm85 rfl rfl (i := 2) rfl (wn rfl) rfl (litEv (by kernel_rfl)) (litEv (by kernel_rfl)) (by kernel_rfl) (by kernel_rfl) (by omega) (by omega) ?_
         intro v91 w88 hm87
         clear hm85
         try simp only [List.cons_append, List.nil_append, List.set_cons_succ, List.set_cons_zero] at hm87
         replace hm87 := Mem.rowEq (v := v91) (e := 3) (size := 1) (n := n6 + 1) (n' := (n6 + 1)) (xs := X6 ++ ([.int .i64 0])) (xs' := (X6 ++ ([.int .i64 0] : List Value))) 2 hm87 rfl (rfl) (rfl)
         try simp only [List.cons_append, List.nil_append, List.set_cons_succ, List.set_cons_zero] at hm87
         obtain ⟨A89, c90, rfl⟩ := Mem.rowSl (v := v91) (e := 3) (size := 1) (n := (n6 + 1)) (xs := (X6 ++ ([.int .i64 0] : List Value))) 2 hm87 rfl
         refine qP rfl ?_
         refine lk (v := .slice A89 (n6 + 1) c90) rfl rfl rfl ?_
         refine plD ?_
         refine then_normal (hK83 _ _ ?_)
         refine wp_seq_k fun K92 hK92 => ?_
         refine plStart ?_
         refine lk (v := .int .i64 ((stepV (vrs l1) nx x.num x.pins x.h).2.2.1)) rfl rfl rfl ?_
         refine lk (v := .slice A80 ((hl ++ [x]).length) c81) rfl rfl rfl ?_
         refine litVal (v := .int .i64 ((hl ++ [x]).length : Int)) rfl (wn rfl) (lenSlRun (A := A80) (n := (hl ++ [x]).length) (c := c81) (.tmp 61) Ty.und_L_api_Header rfl (litEv (by kernel_rfl))) rfl (by decide) ?_
         refine litVal (v := .bool false) rfl (wn rfl) (boolTo (by rw [decide_eq_true (by have q_ := (pins_add hps h73 h67).1; rw [List.length_map] at q_; rw [q_, List.length_append]; simp)]; rfl) (neqRun (A := ((stepV (vrs l1) nx x.num x.pins x.h).2.2.1)) (B := ((hl ++ [x]).length : Int)) (.tmp 60) (.tmp 62) rfl (litEv (by kernel_rfl)) (litEv (by kernel_rfl)))) rfl (by decide) ?_
         refine plD ?_
         refine then_normal (hK92 _ _ ?_)
         refine wp_cond_false (litEv (by kernel_rfl)) ?_
         refine wp_skip ?_
         refine inBlock_normal ?_
         refine then_normal ?_
         exact ⟨la, (hl ++ [x]), (ps ++ [0]), _, (n6 + 1), Sa, A80, A89, ca, c81, c90, (by rw [hva]; exact stepV_good hgv h67), (by rw [hva, map_push]; exact (pins_add hps h73 h67).2), (fun v_ hv_ => by rcases List.mem_append.1 hv_ with hv_ | hv_; exact hhl v_ hv_; (rw [List.mem_singleton] at hv_; subst hv_; exact List.mem_of_getElem? hkx)), (by rw [List.length_append, hn6]; rfl), (by rw [hX6]; exact ics_push rfl 0), ⟨litSize, rfl, ⟨litGet (by kernel_rfl), ⟨litGet (by kernel_rfl), ⟨litGet (by kernel_rfl), ⟨litGet (by kernel_rfl), ⟨litGet (by kernel_rfl), ⟨litGet (by kernel_rfl), ⟨litGet (by kernel_rfl), ⟨litGet (by kernel_rfl), ⟨litGet (by kernel_rfl), ⟨litGet (by kernel_rfl), ⟨litGet (by kernel_rfl), ⟨litGet (by kernel_rfl), ⟨litGet (by kernel_rfl), ⟨litGet (by kernel_rfl), ⟨litGet (by kernel_rfl), ⟨litGet (by kernel_rfl), trivial⟩⟩⟩⟩⟩⟩⟩⟩⟩⟩⟩⟩⟩⟩⟩⟩⟩, (hm87.sub (List.Sublist.cons_cons _ (List.Sublist.cons_cons _ (List.Sublist.cons_cons _ (List.Sublist.cons _ (List.Sublist.cons _ (List.Sublist.cons _ (List.Sublist.cons _ (List.Sublist.append (List.Sublist.refl _) ((List.Sublist.refl _).trans (List.sublist_append_right _ _)))))))))))⟩
       refine litVal (v := .bool false) rfl (wn rfl) (boolTo (decide_eq_false h73) (eqlRun (A := x.num) (B := 1) (.tmp 46) (.const (.int .i64 1)) rfl (litEv (by kernel_rfl)) (litEv (by kernel_rfl)))) rfl (by decide) ?_
       refine lk (v := .bool false) rfl rfl rfl ?_
       refine plD ?_
       refine then_normal (hK72 _ _ ?_)
       refine wp_cond_false (litEv (by kernel_rfl)) ?_
       refine wp_seq_k fun K93 hK93 => ?_
       refine wp_seq_k fun K94 hK94 => ?_
       refine plStart ?_
       by_cases h95 : x.num = 2
       · obtain ⟨hlo_, hhi_, p, hpk_, hpp_⟩ := pins_pin hps h73 h95 h67
         have hpb_ := pins_bd hps hgv hpk_
         have hpl_ := (List.getElem?_eq_some_iff.1 hpk_).1
         have hXp_ : X6[(x.pins - 1).toNat * 1]? = some (.int .i64 p) := by rw [hX6]; exact ics_at hpk_
         obtain ⟨b96, rfl⟩ := hm69.rowBlk (A := A6) (n := n6) (c := c6) 2 rfl (by omega)
         refine litVal (v := .bool true) rfl (wn rfl) (boolTo (decide_eq_true h95) (eqlRun (A := x.num) (B := 2) (.tmp 46) (.const (.int .i64 2)) rfl (litEv (by kernel_rfl)) (litEv (by kernel_rfl)))) rfl (by decide) ?_
         refine lk (v := .bool true) rfl rfl rfl ?_
         refine plD ?_
         refine then_normal (hK94 _ _ ?_)
         refine wp_cond_true (litEv (by kernel_rfl)) ?_
         refine wp_skip ?_
         refine then_normal (hK93 _ _ ?_)
         refine wp_cond_true (litEv (by kernel_rfl)) ?_
         refine wp_seq_k fun K97 hK97 => ?_
         refine wp_seq_k fun K98 hK98 => ?_
         refine plStart ?_
         refine lk (v := .slice (some ⟨bS_, oS_, none⟩) L.length cS) rfl rfl rfl ?_
         refine lk (v := .int .i64 (k : Int)) rfl rfl rfl ?_
         refine litVal (v := .pointer (some ⟨bS_, oS_ + k * 6, none⟩)) rfl (wn rfl) (gIaSl (b := bS_) (off := oS_) (n := L.length) (c := cS) (kk := .i64) (K := (k : Int)) (.tmp 67) (.tmp 68) k Ty.sl_L_voxelref18_Step rfl (litEv (by kernel_rfl)) (litEv (by kernel_rfl)) (rfl) (by omega)) rfl (by decide) ?_
         refine lk (v := .pointer (some ⟨bS_, oS_ + k * 6 + 1, none⟩)) rfl rfl rfl ?_
         refine litVal (v := .int .i64 x.pins) rfl (wn rfl) (gLoadRd (v := .int .i64 x.pins) (m := k * 6 + 1) ((Rd.below hS hm69.bel).more hm69.bel.size) rfl (lvs_get hkx 1 _ rfl) (by omega) (.tmp 70) (by kernel_rfl) rfl (litEv (by kernel_rfl))) rfl (by decide) ?_
         refine litVal (v := .bool false) rfl (wn rfl) (boolTo (decide_eq_false (by omega)) (lssRun (A := x.pins) (B := 1) (.tmp 71) (.const (.int .i64 1)) rfl (litEv (by kernel_rfl)) (litEv (by kernel_rfl)))) rfl (by decide) ?_
         refine lk (v := .bool false) rfl rfl rfl ?_
         refine litVal (v := .slice (some ⟨bS_, oS_, none⟩) L.length cS) rfl (wgY rfl rfl rfl (by decide) (by kernel_rfl)) (litRun (by kernel_rfl)) rfl (by decide) ?_
         refine litVal (v := .int .i64 (k : Int)) rfl (wgY rfl rfl rfl (by decide) (by kernel_rfl)) (litRun (by kernel_rfl)) rfl (by decide) ?_
         refine litVal (v := .pointer (some ⟨bS_, oS_ + k * 6, none⟩)) rfl (wgY rfl rfl rfl (by decide) (by kernel_rfl)) (gIaSl (b := bS_) (off := oS_) (n := L.length) (c := cS) (kk := .i64) (K := (k : Int)) (.tmp 74) (.tmp 75) k Ty.sl_L_voxelref18_Step rfl (litEv (by kernel_rfl)) (litEv (by kernel_rfl)) (rfl) (by omega)) rfl (by decide) ?_
         refine litVal (v := .pointer (some ⟨bS_, oS_ + k * 6 + 1, none⟩)) rfl (wgY rfl rfl rfl (by decide) (by kernel_rfl)) (litRun (by kernel_rfl)) rfl (by decide) ?_
         refine litVal (v := .int .i64 x.pins) rfl (wgY rfl rfl rfl (by decide) (by kernel_rfl)) (gLoadRd (v := .int .i64 x.pins) (m := k * 6 + 1) ((Rd.below hS hm69.bel).more hm69.bel.size) rfl (lvs_get hkx 1 _ rfl) (by omega) (.tmp 77) (by kernel_rfl) rfl (litEv (by kernel_rfl))) rfl (by decide) ?_
         refine litVal (v := .slice (some ⟨b96, 0, none⟩) n6 c6) rfl (wgY rfl rfl rfl (by decide) (by kernel_rfl)) (litRun (by kernel_rfl)) rfl (by decide) ?_
         refine litVal (v := .int .i64 (n6 : Int)) rfl (wgY rfl rfl rfl (by decide) (by kernel_rfl)) (lenSlRun (A := some ⟨b96, 0, none⟩) (n := n6) (c := c6) (.tmp 79) Ty.und_L_int rfl (litEv (by kernel_rfl))) rfl (by decide) ?_
         refine litVal (v := .bool false) rfl (wgY rfl rfl rfl (by decide) (by kernel_rfl)) (boolTo (decide_eq_false (by omega)) (gtrRun (A := x.pins) (B := (n6 : Int)) (.tmp 78) (.tmp 80) rfl (litEv (by kernel_rfl)) (litEv (by kernel_rfl)))) rfl (by decide) ?_
         refine lk (v := .bool false) rfl rfl rfl ?_
         refine plD ?_
         refine then_normal (hK98 _ _ ?_)
         refine wp_cond_false (litEv (by kernel_rfl)) ?_
         refine wp_skip ?_
         refine then_normal (hK97 _ _ ?_)
         refine wp_seq_k fun K99 hK99 => ?_
         refine plStart ?_
         refine lk (v := .slice (some ⟨bS_, oS_, none⟩) L.length cS) rfl rfl rfl ?_
         refine lk (v := .int .i64 (k : Int)) rfl rfl rfl ?_
         refine litVal (v := .pointer (some ⟨bS_, oS_ + k * 6, none⟩)) rfl (wn rfl) (gIaSl (b := bS_) (off := oS_) (n := L.length) (c := cS) (kk := .i64) (K := (k : Int)) (.tmp 83) (.tmp 84) k Ty.sl_L_voxelref18_Step rfl (litEv (by kernel_rfl)) (litEv (by kernel_rfl)) (rfl) (by omega)) rfl (by decide) ?_
         refine lk (v := .pointer (some ⟨bS_, oS_ + k * 6, none⟩)) rfl rfl rfl ?_
         refine litVal (v := .int .i64 x.num) rfl (wn rfl) (gLoadRd (v := .int .i64 x.num) (m := k * 6) ((Rd.below hS hm69.bel).more hm69.bel.size) rfl (lvs_get hkx 0 _ rfl) (by omega) (.tmp 86) (by kernel_rfl) rfl (litEv (by kernel_rfl))) rfl (by decide) ?_
         refine litVal (v := .bool true) rfl (wn rfl) (boolTo (decide_eq_true h95) (eqlRun (A := x.num) (B := 2) (.tmp 87) (.const (.int .i64 2)) rfl (litEv (by kernel_rfl)) (litEv (by kernel_rfl)))) rfl (by decide) ?_
         refine plD ?_
         refine then_normal (hK99 _ _ ?_)
         refine wp_cond_true (litEv (by kernel_rfl)) ?_
         refine plStart ?_
         refine lk (v := .slice (some ⟨b96, 0, none⟩) n6 c6) rfl rfl rfl ?_
         refine lk (v := .slice (some ⟨bS_, oS_, none⟩) L.length cS) rfl rfl rfl ?_
         refine lk (v := .int .i64 (k : Int)) rfl rfl rfl ?_
         refine litVal (v := .pointer (some ⟨bS_, oS_ + k * 6, none⟩)) rfl (wn rfl) (gIaSl (b := bS_) (off := oS_) (n := L.length) (c := cS) (kk := .i64) (K := (k : Int)) (.tmp 90) (.tmp 91) k Ty.sl_L_voxelref18_Step rfl (litEv (by kernel_rfl)) (litEv (by kernel_rfl)) (rfl) (by omega)) rfl (by decide) ?_
         refine lk (v := .pointer (some ⟨bS_, oS_ + k * 6 + 1, none⟩)) rfl rfl rfl ?_
         refine litVal (v := .int .i64 x.pins) rfl (wn rfl) (gLoadRd (v := .int .i64 x.pins) (m := k * 6 + 1) ((Rd.below hS hm69.bel).more hm69.bel.size) rfl (lvs_get hkx 1 _ rfl) (by omega) (.tmp 93) (by kernel_rfl) rfl (litEv (by kernel_rfl))) rfl (by decide) ?_
         refine litVal (v := .int .i64 (x.pins - 1)) rfl (wn rfl) (subRun (A := x.pins) (B := 1) (C := x.pins - 1) (.tmp 94) (.const (.int .i64 1)) rfl (litEv (by kernel_rfl)) (litEv (by kernel_rfl)) rfl (by omega)) rfl (by decide) ?_
         refine litVal (v := .pointer (some ⟨b96, 0 + ((x.pins - 1).toNat) * 1, none⟩)) rfl (wn rfl) (gIaSl (b := b96) (off := 0) (n := n6) (c := c6) (kk := .i64) (K := (x.pins - 1)) (.tmp 89) (.tmp 95) ((x.pins - 1).toNat) Ty.sl_L_int rfl (litEv (by kernel_rfl)) (litEv (by kernel_rfl)) (by omega) (by omega)) rfl (by decide) ?_
         refine litVal (v := .int .i64 p) rfl (wn rfl) (gLoadRd (v := .int .i64 p) (m := ((x.pins - 1).toNat) * 1) (hm69.rdRow 2 rfl) rfl (hXp_) (by omega) (.tmp 96) (by kernel_rfl) rfl (litEv (by kernel_rfl))) rfl (by decide) ?_
         refine litVal (v := .int .i64 (p + 1)) rfl (wn rfl) (addRun (A := p) (B := 1) (C := p + 1) (.tmp 97) (.const (.int .i64 1)) rfl (litEv (by kernel_rfl)) (litEv (by kernel_rfl)) rfl (by omega)) rfl (by decide) ?_
         refine litVal (v := .pointer (some ⟨b96, 0 + ((x.pins - 1).toNat) * 1, none⟩)) rfl (wn rfl) (gIaSl (b := b96) (off := 0) (n := n6) (c := c6) (kk := .i64) (K := (x.pins - 1)) (.tmp 89) (.tmp 95) ((x.pins - 1).toNat) Ty.sl_L_int rfl (litEv (by kernel_rfl)) (litEv (by kernel_rfl)) (by omega) (by omega)) rfl (by decide) ?_
         refine plStoreRow (v := .int .i64 (p + 1)) (g := b96) (k := (x.pins - 1).toNat * 1) 2 (by kernel_rfl) hm69 rfl (i := 11) rfl (wn rfl) rfl ((litEv (v := .pointer (some ⟨b96, 0 + ((x.pins - 1).toNat) * 1, none⟩)) (by kernel_rfl)).trans (by rw [Nat.zero_add])) (litEv (by kernel_rfl)) hXp_ (by omega) rfl rfl ?_
         intro w101 hm100
         clear hm69
         try simp only [List.cons_append, List.nil_append, List.set_cons_succ, List.set_cons_zero] at hm100
         rw [Nat.mul_one] at hm100
         refine qNone rfl ?_
         refine plD ?_
         refine inBlock_normal ?_
         refine then_normal ?_
         exact ⟨la, hl, (ps.set (x.pins - 1).toNat (p + 1)), _, n6, Sa, A5, some ⟨b96, 0, none⟩, ca, c5, c6, (by rw [hva]; exact stepV_good hgv h67), (by rw [hva]; exact hpp_), hhl, (by rw [List.length_set]; exact hn6), (by rw [hX6]; exact ics_set _), ⟨litSize, rfl, ⟨litGet (by kernel_rfl), ⟨litGet (by kernel_rfl), ⟨litGet (by kernel_rfl), ⟨litGet (by kernel_rfl), ⟨litGet (by kernel_rfl), ⟨litGet (by kernel_rfl), ⟨litGet (by kernel_rfl), ⟨litGet (by kernel_rfl), ⟨litGet (by kernel_rfl), ⟨litGet (by kernel_rfl), ⟨litGet (by kernel_rfl), ⟨litGet (by kernel_rfl), ⟨litGet (by kernel_rfl), ⟨litGet (by kernel_rfl), ⟨litGet (by kernel_rfl), ⟨litGet (by kernel_rfl), trivial⟩⟩⟩⟩⟩⟩⟩⟩⟩⟩⟩⟩⟩⟩⟩⟩⟩, (hm100.sub (List.Sublist.cons_cons _ (List.Sublist.cons_cons _ (List.Sublist.cons_cons _ (List.Sublist.cons _ (List.Sublist.cons _ (List.Sublist.append (List.Sublist.refl _) ((List.Sublist.refl _).trans (List.sublist_append_right _ _)))))))))⟩
       refine litVal (v := .bool false) rfl (wn rfl) (boolTo (decide_eq_false h95) (eqlRun (A := x.num) (B := 2) (.tmp 46) (.const (.int .i64 2)) rfl (litEv (by kernel_rfl)) (litEv (by kernel_rfl)))) rfl (by decide) ?_
       refine lk (v := .bool false) rfl rfl rfl ?_
       refine plD ?_
       refine then_normal (hK94 _ _ ?_)
       refine wp_cond_false (litEv (by kernel_rfl)) ?_
       refine plStart ?_
       by_cases h102 : x.num = 3
       · obtain ⟨hlo_, hhi_, p, hpk_, hpp_⟩ := pins_unpin hps h73 h95 h102 h67
         have hpb_ := pins_bd hps hgv hpk_
         have hpl_ := (List.getElem?_eq_some_iff.1 hpk_).1
         have hXp_ : X6[(x.pins - 1).toNat * 1]? = some (.int .i64 p) := by rw [hX6]; exact ics_at hpk_
         obtain ⟨b103, rfl⟩ := hm69.rowBlk (A := A6) (n := n6) (c := c6) 2 rfl (by omega)
         refine litVal (v := .bool true) rfl (wn rfl) (boolTo (decide_eq_true h102) (eqlRun (A := x.num) (B := 3) (.tmp 46) (.const (.int .i64 3)) rfl (litEv (by kernel_rfl)) (litEv (by kernel_rfl)))) rfl (by decide) ?_
         refine lk (v := .bool true) rfl rfl rfl ?_
         refine plD ?_
         refine then_normal (hK93 _ _ ?_)
         refine wp_cond_true (litEv (by kernel_rfl)) ?_
         refine wp_seq_k fun K104 hK104 => ?_
         refine wp_seq_k fun K105 hK105 => ?_
         refine plStart ?_
         refine lk (v := .slice (some ⟨bS_, oS_, none⟩) L.length cS) rfl rfl rfl ?_
         refine lk (v := .int .i64 (k : Int)) rfl rfl rfl ?_
         refine litVal (v := .pointer (some ⟨bS_, oS_ + k * 6, none⟩)) rfl (wn rfl) (gIaSl (b := bS_) (off := oS_) (n := L.length) (c := cS) (kk := .i64) (K := (k : Int)) (.tmp 67) (.tmp 68) k Ty.sl_L_voxelref18_Step rfl (litEv (by kernel_rfl)) (litEv (by kernel_rfl)) (rfl) (by omega)) rfl (by decide) ?_
         refine lk (v := .pointer (some ⟨bS_, oS_ + k * 6 + 1, none⟩)) rfl rfl rfl ?_
         refine litVal (v := .int .i64 x.pins) rfl (wn rfl) (gLoadRd (v := .int .i64 x.pins) (m := k * 6 + 1) ((Rd.below hS hm69.bel).more hm69.bel.size) rfl (lvs_get hkx 1 _ rfl) (by omega) (.tmp 70) (by kernel_rfl) rfl (litEv (by kernel_rfl))) rfl (by decide) ?_
         refine litVal (v := .bool false) rfl (wn rfl) (boolTo (decide_eq_false (by omega)) (lssRun (A := x.pins) (B := 1) (.tmp 71) (.const (.int .i64 1)) rfl (litEv (by kernel_rfl)) (litEv (by kernel_rfl)))) rfl (by decide) ?_
         refine lk (v := .bool false) rfl rfl rfl ?_
         refine litVal (v := .slice (some ⟨bS_, oS_, none⟩) L.length cS) rfl (wgY rfl rfl rfl (by decide) (by kernel_rfl)) (litRun (by kernel_rfl)) rfl (by decide) ?_
         refine litVal (v := .int .i64 (k : Int)) rfl (wgY rfl rfl rfl (by decide) (by kernel_rfl)) (litRun (by kernel_rfl)) rfl (by decide) ?_
         refine litVal (v := .pointer (some ⟨bS_, oS_ + k * 6, none⟩)) rfl (wgY rfl rfl rfl (by decide) (by kernel_rfl)) (gIaSl (b := bS_) (off := oS_) (n := L.length) (c := cS) (kk := .i64) (K := (k : Int)) (.tmp 74) (.tmp 75) k Ty.sl_L_voxelref18_Step rfl (litEv (by kernel_rfl)) (litEv (by kernel_rfl)) (rfl) (by omega)) rfl (by decide) ?_
         refine litVal (v := .pointer (some ⟨bS_, oS_ + k * 6 + 1, none⟩)) rfl (wgY rfl rfl rfl (by decide) (by kernel_rfl)) (litRun (by kernel_rfl)) rfl (by decide) ?_
         refine litVal (v := .int .i64 x.pins) rfl (wgY rfl rfl rfl (by decide) (by kernel_rfl)) (gLoadRd (v := .int .i64 x.pins) (m := k * 6 + 1) ((Rd.below hS hm69.bel).more hm69.bel.size) rfl (lvs_get hkx 1 _ rfl) (by omega) (.tmp 77) (by kernel_rfl) rfl (litEv (by kernel_rfl))) rfl (by decide) ?_
         refine litVal (v := .slice (some ⟨b103, 0, none⟩) n6 c6) rfl (wgY rfl rfl rfl (by decide) (by kernel_rfl)) (litRun (by kernel_rfl)) rfl (by decide) ?_
         refine litVal (v := .int .i64 (n6 : Int)) rfl (wgY rfl rfl rfl (by decide) (by kernel_rfl)) (lenSlRun (A := some ⟨b103, 0, none⟩) (n := n6) (c := c6) (.tmp 79) Ty.und_L_int rfl (litEv (by kernel_rfl))) rfl (by decide) ?_
         refine litVal (v := .bool false) rfl (wgY rfl rfl rfl (by decide) (by kernel_rfl)) (boolTo (decide_eq_false (by omega)) (gtrRun (A := x.pins) (B := (n6 : Int)) (.tmp 78) (.tmp 80) rfl (litEv (by kernel_rfl)) (litEv (by kernel_rfl)))) rfl (by decide) ?_
         refine lk (v := .bool false) rfl rfl rfl ?_
         refine plD ?_
         refine then_normal (hK105 _ _ ?_)
         refine wp_cond_false (litEv (by kernel_rfl)) ?_
         refine wp_skip ?_
         refine then_normal (hK104 _ _ ?_)
         refine wp_seq_k fun K106 hK106 => ?_
         refine plStart ?_
         refine lk (v := .slice (some ⟨bS_, oS_, none⟩) L.length cS) rfl rfl rfl ?_
         refine lk (v := .int .i64 (k : Int)) rfl rfl rfl ?_
         refine litVal (v := .pointer (some ⟨bS_, oS_ + k * 6, none⟩)) rfl (wn rfl) (gIaSl (b := bS_) (off := oS_) (n := L.length) (c := cS) (kk := .i64) (K := (k : Int)) (.tmp 83) (.tmp 84) k Ty.sl_L_voxelref18_Step rfl (litEv (by kernel_rfl)) (litEv (by kernel_rfl)) (rfl) (by omega)) rfl (by decide) ?_
         refine lk (v := .pointer (some ⟨bS_, oS_ + k * 6, none⟩)) rfl rfl rfl ?_
         refine litVal (v := .int .i64 x.num) rfl (wn rfl) (gLoadRd (v := .int .i64 x.num) (m := k * 6) ((Rd.below hS hm69.bel).more hm69.bel.size) rfl (lvs_get hkx 0 _ rfl) (by omega) (.tmp 86) (by kernel_rfl) rfl (litEv (by kernel_rfl))) rfl (by decide) ?_
         refine litVal (v := .bool false) rfl (wn rfl) (boolTo (decide_eq_false h95) (eqlRun (A := x.num) (B := 2) (.tmp 87) (.const (.int .i64 2)) rfl (litEv (by kernel_rfl)) (litEv (by kernel_rfl)))) rfl (by decide) ?_
         refine plD ?_
         refine then_normal (hK106 _ _ ?_)
         refine wp_cond_false (litEv (by kernel_rfl)) ?_
         refine plStart ?_
         refine lk (v := .slice (some ⟨b103, 0, none⟩) n6 c6) rfl rfl rfl ?_
         refine lk (v := .slice (some ⟨bS_, oS_, none⟩) L.length cS) rfl rfl rfl ?_
         refine lk (v := .int .i64 (k : Int)) rfl rfl rfl ?_
         refine litVal (v := .pointer (some ⟨bS_, oS_ + k * 6, none⟩)) rfl (wn rfl) (gIaSl (b := bS_) (off := oS_) (n := L.length) (c := cS) (kk := .i64) (K := (k : Int)) (.tmp 101) (.tmp 102) k Ty.sl_L_voxelref18_Step rfl (litEv (by kernel_rfl)) (litEv (by kernel_rfl)) (rfl) (by omega)) rfl (by decide) ?_
         refine lk (v := .pointer (some ⟨bS_, oS_ + k * 6 + 1, none⟩)) rfl rfl rfl ?_
         refine litVal (v := .int .i64 x.pins) rfl (wn rfl) (gLoadRd (v := .int .i64 x.pins) (m := k * 6 + 1) ((Rd.below hS hm69.bel).more hm69.bel.size) rfl (lvs_get hkx 1 _ rfl) (by omega) (.tmp 104) (by kernel_rfl) rfl (litEv (by kernel_rfl))) rfl (by decide) ?_
         refine litVal (v := .int .i64 (x.pins - 1)) rfl (wn rfl) (subRun (A := x.pins) (B := 1) (C := x.pins - 1) (.tmp 105) (.const (.int .i64 1)) rfl (litEv (by kernel_rfl)) (litEv (by kernel_rfl)) rfl (by omega)) rfl (by decide) ?_
         refine litVal (v := .pointer (some ⟨b103, 0 + ((x.pins - 1).toNat) * 1, none⟩)) rfl (wn rfl) (gIaSl (b := b103) (off := 0) (n := n6) (c := c6) (kk := .i64) (K := (x.pins - 1)) (.tmp 100) (.tmp 106) ((x.pins - 1).toNat) Ty.sl_L_int rfl (litEv (by kernel_rfl)) (litEv (by kernel_rfl)) (by omega) (by omega)) rfl (by decide) ?_
         refine litVal (v := .int .i64 p) rfl (wn rfl) (gLoadRd (v := .int .i64 p) (m := ((x.pins - 1).toNat) * 1) (hm69.rdRow 2 rfl) rfl (hXp_) (by omega) (.tmp 107) (by kernel_rfl) rfl (litEv (by kernel_rfl))) rfl (by decide) ?_
         refine litVal (v := .int .i64 (p - 1)) rfl (wn rfl) (subRun (A := p) (B := 1) (C := p - 1) (.tmp 108) (.const (.int .i64 1)) rfl (litEv (by kernel_rfl)) (litEv (by kernel_rfl)) rfl (by omega)) rfl (by decide) ?_
         refine litVal (v := .pointer (some ⟨b103, 0 + ((x.pins - 1).toNat) * 1, none⟩)) rfl (wn rfl) (gIaSl (b := b103) (off := 0) (n := n6) (c := c6) (kk := .i64) (K := (x.pins - 1)) (.tmp 100) (.tmp 106) ((x.pins - 1).toNat) Ty.sl_L_int rfl (litEv (by kernel_rfl)) (litEv (by kernel_rfl)) (by omega) (by omega)) rfl (by decide) ?_
         refine plStoreRow (v := .int .i64 (p - 1)) (g := b103) (k := (x.pins - 1).toNat * 1) 2 (by kernel_rfl) hm69 rfl (i := 11) rfl (wn rfl) rfl ((litEv (v := .pointer (some ⟨b103, 0 + ((x.pins - 1).toNat) * 1, none⟩)) (by kernel_rfl)).trans (by rw [Nat.zero_add])) (litEv (by kernel_rfl)) hXp_ (by omega) rfl rfl ?_
         intro w108 hm107
         clear hm69
         try simp only [List.cons_append, List.nil_append, List.set_cons_succ, List.set_cons_zero] at hm107
         rw [Nat.mul_one] at hm107
         refine qNone rfl ?_
         refine plD ?_
         refine inBlock_normal ?_
         refine then_normal ?_
         exact ⟨la, hl, (ps.set (x.pins - 1).toNat (p - 1)), _, n6, Sa, A5, some ⟨b103, 0, none⟩, ca, c5, c6, (by rw [hva]; exact stepV_good hgv h67), (by rw [hva]; exact hpp_), hhl, (by rw [List.length_set]; exact hn6), (by rw [hX6]; exact ics_set _), ⟨litSize, rfl, ⟨litGet (by kernel_rfl), ⟨litGet (by kernel_rfl), ⟨litGet (by kernel_rfl), ⟨litGet (by kernel_rfl), ⟨litGet (by kernel_rfl), ⟨litGet (by kernel_rfl), ⟨litGet (by kernel_rfl), ⟨litGet (by kernel_rfl), ⟨litGet (by kernel_rfl), ⟨litGet (by kernel_rfl), ⟨litGet (by kernel_rfl), ⟨litGet (by kernel_rfl), ⟨litGet (by kernel_rfl), ⟨litGet (by kernel_rfl), ⟨litGet (by kernel_rfl), ⟨litGet (by kernel_rfl), trivial⟩⟩⟩⟩⟩⟩⟩⟩⟩⟩⟩⟩⟩⟩⟩⟩⟩, (hm107.sub (List.Sublist.cons_cons _ (List.Sublist.cons_cons _ (List.Sublist.cons_cons _ (List.Sublist.cons _ (List.Sublist.cons _ (List.Sublist.append (List.Sublist.refl _) ((List.Sublist.refl _).trans (List.sublist_append_right _ _)))))))))⟩
       refine litVal (v := .bool false) rfl (wn rfl) (boolTo (decide_eq_false h102) (eqlRun (A := x.num) (B := 3) (.tmp 46) (.const (.int .i64 3)) rfl (litEv (by kernel_rfl)) (litEv (by kernel_rfl)))) rfl (by decide) ?_
       refine lk (v := .bool false) rfl rfl rfl ?_
       refine plD ?_
       refine then_normal (hK93 _ _ ?_)
       refine wp_cond_false (litEv (by kernel_rfl)) ?_
       refine wp_skip ?_
       refine inBlock_normal ?_
       refine then_normal ?_
       exact ⟨la, hl, ps, X6, n6, Sa, A5, A6, ca, c5, c6, (by rw [hva]; exact stepV_good hgv h67), (by rw [hva]; exact pins_coll hps hgv h73 h95 h102), hhl, hn6, hX6, ⟨litSize, rfl, ⟨litGet (by kernel_rfl), ⟨litGet (by kernel_rfl), ⟨litGet (by kernel_rfl), ⟨litGet (by kernel_rfl), ⟨litGet (by kernel_rfl), ⟨litGet (by kernel_rfl), ⟨litGet (by kernel_rfl), ⟨litGet (by kernel_rfl), ⟨litGet (by kernel_rfl), ⟨litGet (by kernel_rfl), ⟨litGet (by kernel_rfl), ⟨litGet (by kernel_rfl), ⟨litGet (by kernel_rfl), ⟨litGet (by kernel_rfl), ⟨litGet (by kernel_rfl), ⟨litGet (by kernel_rfl), trivial⟩⟩⟩⟩⟩⟩⟩⟩⟩⟩⟩⟩⟩⟩⟩⟩⟩, (hm69.sub (List.Sublist.cons_cons _ (List.Sublist.cons_cons _ (List.Sublist.cons_cons _ (List.Sublist.cons _ (List.Sublist.cons _ (List.Sublist.append (List.Sublist.refl _) ((List.Sublist.refl _).trans (List.sublist_append_right _ _)))))))))⟩
     clear hm69
     intro a111 w109 hI_
     obtain ⟨l1b, hlb, psb, X6b, n6b, S1b, A5b, A6b, c1b, c5b, c6b, hgvb, hpsb, hhlb, hn6b, hX6b, hF_, hm110⟩ := hI_
     obtain ⟨X112, rfl⟩ := frLit hF_
     clear hF_
     have hlkb_ := hpsb.len
     have hlxb_ := hpsb.nx
     have hlmb_ := hgvb.nxm
     rw [List.length_map] at hlkb_ hlxb_
     refine wp_seq_k fun K113 hK113 => ?_
     refine plStart ?_
     refine lk (v := .int .i64 0) rfl rfl rfl ?_
     refine plD ?_
     refine then_normal (hK113 _ _ ?_)
     refine wp_seq_k fun K114 hK114 => ?_
     refine wp_seq_k fun K115 hK115 => ?_
     refine plStart ?_
     refine lk (v := .int .i64 0) rfl rfl rfl ?_
     refine plD ?_
     refine then_normal (hK115 _ _ ?_)
     refine wp_block ?_
     refine gwLoop (fun n_ a_ w_ => ∃ (k2 : Nat), n_ = psb.length - k2 ∧ (k2 ≤ psb.length) ∧ Fr a_ 160 [(0, .slice (some ⟨bS_, oS_, none⟩) L.length cS), (3, .bool true), (4, .pointer (some ⟨g14, 0, none⟩)), (5, .slice A5b hlb.length c5b), (6, .slice A6b n6b c6b), (7, .int .i64 (k : Int)), (8, .pointer (some ⟨gga, 0, none⟩)), (9, .int .i64 ((stepV (vrs l1) nx x.num x.pins x.h).2.2.1)), (11, .int .i64 ((stepV (vrs l1) nx x.num x.pins x.h).2.2.2.2)), (12, .int .i64 ((psb.take k2).sum)), (13, .int .i64 (k2 : Int)), (22, .int .i64 (k : Int)), (23, .slice (some ⟨bS_, oS_, none⟩) L.length cS), (24, .int .i64 (L.length : Int)), (25, .bool true), (39, .int .i64 ((stepV (vrs l1) nx x.num x.pins x.h).2.2.2.2)), (40, .bool false), (41, .agg (tbs (.slice Sa la.length ca) ((stepV (vrs l1) nx x.num x.pins x.h).2.1)).toArray)] ∧ Mem w w_ ((.arr g14 44 (tbs (.slice S1b l1b.length c1b) ((stepV (vrs l1) nx x.num x.pins x.h).2.1))) :: (.row (.slice A5b hlb.length c5b) 25 4 hlb.length (hds hlb)) :: (.row (.slice A6b n6b c6b) 3 1 n6b X6b) :: (tbRes l1b S1b c1b ++ lvRes L))) (psb.length - 0) ⟨0, rfl, (Nat.zero_le _), ⟨litSize, rfl, ⟨litGet (by kernel_rfl), ⟨litGet (by kernel_rfl), ⟨litGet (by kernel_rfl), ⟨litGet (by kernel_rfl), ⟨litGet (by kernel_rfl), ⟨litGet (by kernel_rfl), ⟨litGet (by kernel_rfl), ⟨litGet (by kernel_rfl), ⟨litGet (by kernel_rfl), ⟨litGet (by kernel_rfl), ⟨litGet (by kernel_rfl), ⟨litGet (by kernel_rfl), ⟨litGet (by kernel_rfl), ⟨litGet (by kernel_rfl), ⟨litGet (by kernel_rfl), ⟨litGet (by kernel_rfl), ⟨litGet (by kernel_rfl), ⟨litGet (by kernel_rfl), trivial⟩⟩⟩⟩⟩⟩⟩⟩⟩⟩⟩⟩⟩⟩⟩⟩⟩⟩⟩, hm110⟩ ?_
     clear hm110
     intro n_ a118 w116 hI_
     obtain ⟨k2, rfl, hk2, hF_, hm117⟩ := hI_
     obtain ⟨X119, rfl⟩ := frLit hF_
     clear hF_
     refine wp_seq_k fun K120 hK120 => ?_
     refine wp_seq_k fun K121 hK121 => ?_
     refine plStart ?_
     refine lk (v := .int .i64 (k2 : Int)) rfl rfl rfl ?_
     refine lk (v := .slice A6b n6b c6b) rfl rfl rfl ?_
     refine litVal (v := .int .i64 (n6b : Int)) rfl (wn rfl) (lenSlRun (A := A6b) (n := n6b) (c := c6b) (.tmp 112) Ty.und_L_int rfl (litEv (by kernel_rfl))) rfl (by decide) ?_
     by_cases h122 : (k2 : Int) < (n6b : Int)
     · obtain ⟨p, hp2_⟩ : ∃ p, psb[k2]? = some p := ⟨_, List.getElem?_eq_getElem (by omega)⟩
       have hXp_ : X6b[k2 * 1]? = some (.int .i64 p) := by rw [hX6b]; exact ics_at hp2_
       have hpb_ := pins_bd hpsb hgvb hp2_
       have hsm_ := pins_sum hpsb hgvb k2
       obtain ⟨b123, rfl⟩ := hm117.rowBlk (A := A6b) (n := n6b) (c := c6b) 2 rfl (by omega)
       refine litVal (v := .bool true) rfl (wn rfl) (boolTo (decide_eq_true h122) (lssRun (A := (k2 : Int)) (B := (n6b : Int)) (.tmp 111) (.tmp 113) rfl (litEv (by kernel_rfl)) (litEv (by kernel_rfl)))) rfl (by decide) ?_
       refine plD ?_
       refine then_normal (hK121 _ _ ?_)
       refine wp_cond_true (litEv (by kernel_rfl)) ?_
       refine wp_skip ?_
       refine then_normal (hK120 _ _ ?_)
       refine wp_seq_k fun K124 hK124 => ?_
       refine wp_block ?_
       refine wp_seq_k fun K125 hK125 => ?_
       refine plStart ?_
       refine lk (v := .int .i64 ((psb.take k2).sum)) rfl rfl rfl ?_
       refine lk (v := .slice (some ⟨b123, 0, none⟩) n6b c6b) rfl rfl rfl ?_
       refine lk (v := .int .i64 (k2 : Int)) rfl rfl rfl ?_
       refine litVal (v := .pointer (some ⟨b123, 0 + k2 * 1, none⟩)) rfl (wn rfl) (gIaSl (b := b123) (off := 0) (n := n6b) (c := c6b) (kk := .i64) (K := (k2 : Int)) (.tmp 118) (.tmp 119) k2 Ty.sl_L_int rfl (litEv (by kernel_rfl)) (litEv (by kernel_rfl)) (rfl) (by omega)) rfl (by decide) ?_
       refine litVal (v := .int .i64 p) rfl (wn rfl) (gLoadRd (v := .int .i64 p) (m := k2 * 1) (hm117.rdRow 2 rfl) rfl (hXp_) (by omega) (.tmp 120) (by kernel_rfl) rfl (litEv (by kernel_rfl))) rfl (by decide) ?_
       refine litVal (v := .int .i64 ((psb.take (k2 + 1)).sum)) rfl (wn rfl) (addRun (A := ((psb.take k2).sum)) (B := p) (C := (psb.take (k2 + 1)).sum) (.tmp 117) (.tmp 121) rfl (litEv (by kernel_rfl)) (litEv (by kernel_rfl)) (sum_take_succ hp2_).symm (by rw [sum_take_succ hp2_]; omega)) rfl (by decide) ?_
       refine lk (v := .int .i64 ((psb.take (k2 + 1)).sum)) rfl rfl rfl ?_
       refine plD ?_
       refine then_normal (hK125 _ _ ?_)
       refine wp_seq_k fun K126 hK126 => ?_
       refine wp_seq_k fun K127 hK127 => ?_
       refine plStart ?_
       refine lk (v := .slice (some ⟨b123, 0, none⟩) n6b c6b) rfl rfl rfl ?_
       refine lk (v := .int .i64 (k2 : Int)) rfl rfl rfl ?_
       refine litVal (v := .pointer (some ⟨b123, 0 + k2 * 1, none⟩)) rfl (wn rfl) (gIaSl (b := b123) (off := 0) (n := n6b) (c := c6b) (kk := .i64) (K := (k2 : Int)) (.tmp 123) (.tmp 124) k2 Ty.sl_L_int rfl (litEv (by kernel_rfl)) (litEv (by kernel_rfl)) (rfl) (by omega)) rfl (by decide) ?_
       refine litVal (v := .int .i64 p) rfl (wn rfl) (gLoadRd (v := .int .i64 p) (m := k2 * 1) (hm117.rdRow 2 rfl) rfl (hXp_) (by omega) (.tmp 125) (by kernel_rfl) rfl (litEv (by kernel_rfl))) rfl (by decide) ?_
       refine litVal (v := .bool false) rfl (wn rfl) (boolTo (decide_eq_false (by omega)) (lssRun (A := p) (B := 0) (.tmp 126) (.const (.int .i64 0)) rfl (litEv (by kernel_rfl)) (litEv (by kernel_rfl)))) rfl (by decide) ?_
       refine plD ?_
       refine then_normal (hK127 _ _ ?_)
       refine wp_cond_false (litEv (by kernel_rfl)) ?_
       refine wp_skip ?_
       refine then_normal (hK126 _ _ ?_)
       refine wp_seq_k fun K128 hK128 => ?_
       refine wp_seq_k fun K129 hK129 => ?_
       refine plStart ?_
       refine lk (v := .slice (some ⟨b123, 0, none⟩) n6b c6b) rfl rfl rfl ?_
       refine lk (v := .int .i64 (k2 : Int)) rfl rfl rfl ?_
       refine litVal (v := .pointer (some ⟨b123, 0 + k2 * 1, none⟩)) rfl (wn rfl) (gIaSl (b := b123) (off := 0) (n := n6b) (c := c6b) (kk := .i64) (K := (k2 : Int)) (.tmp 128) (.tmp 129) k2 Ty.sl_L_int rfl (litEv (by kernel_rfl)) (litEv (by kernel_rfl)) (rfl) (by omega)) rfl (by decide) ?_
       refine litVal (v := .int .i64 p) rfl (wn rfl) (gLoadRd (v := .int .i64 p) (m := k2 * 1) (hm117.rdRow 2 rfl) rfl (hXp_) (by omega) (.tmp 130) (by kernel_rfl) rfl (litEv (by kernel_rfl))) rfl (by decide) ?_
       by_cases h130 : p = 0
       · refine litVal (v := .bool true) rfl (wn rfl) (boolTo (decide_eq_true h130) (eqlRun (A := p) (B := 0) (.tmp 131) (.const (.int .i64 0)) rfl (litEv (by kernel_rfl)) (litEv (by kernel_rfl)))) rfl (by decide) ?_
         refine plD ?_
         refine then_normal (hK129 _ _ ?_)
         refine wp_cond_true (litEv (by kernel_rfl)) ?_
         refine wp_exit ?_
         refine then_exit ?_
         refine inBlock_exit ?_
         refine then_normal (hK124 _ _ ?_)
         refine plStart ?_
         refine lk (v := .int .i64 (k2 : Int)) rfl rfl rfl ?_
         refine litVal (v := .int .i64 ((k2 : Int) + 1)) rfl (wn rfl) (addRun (A := (k2 : Int)) (B := 1) (C := (k2 : Int) + 1) (.tmp 115) (.const (.int .i64 1)) rfl (litEv (by kernel_rfl)) (litEv (by kernel_rfl)) rfl (by omega)) rfl (by decide) ?_
         refine lk (v := .int .i64 ((k2 : Int) + 1)) rfl rfl rfl ?_
         refine plD ?_
         refine then_normal ?_
         exact ⟨_, by omega, (k2 + 1), rfl, (by omega), ⟨litSize, rfl, ⟨litGet (by kernel_rfl), ⟨litGet (by kernel_rfl), ⟨litGet (by kernel_rfl), ⟨litGet (by kernel_rfl), ⟨litGet (by kernel_rfl), ⟨litGet (by kernel_rfl), ⟨litGet (by kernel_rfl), ⟨litGet (by kernel_rfl), ⟨litGet (by kernel_rfl), ⟨litGet (by kernel_rfl), ⟨litGet (by kernel_rfl), ⟨litGet (by kernel_rfl), ⟨litGet (by kernel_rfl), ⟨litGet (by kernel_rfl), ⟨litGet (by kernel_rfl), ⟨litGet (by kernel_rfl), ⟨litGet (by kernel_rfl), ⟨litGet (by kernel_rfl), trivial⟩⟩⟩⟩⟩⟩⟩⟩⟩⟩⟩⟩⟩⟩⟩⟩⟩⟩⟩, (hm117.sub (List.Sublist.cons_cons _ (List.Sublist.cons_cons _ (List.Sublist.cons_cons _ (List.Sublist.refl _)))))⟩
       obtain ⟨u, hku⟩ : ∃ u, hlb[k2]? = some u := ⟨_, List.getElem?_eq_getElem (by have q_ := hpsb.len; rw [List.length_map] at q_; omega)⟩
       have hul_ := hhlb u (List.mem_of_getElem? hku)
       have hhx_ : (hlb.map (·.h))[k2]? = some u.h := by rw [List.getElem?_map, hku]; rfl
       have hfd_ := pins_find hpsb hp2_ h130 hhx_
       have hkl2_ := (List.getElem?_eq_some_iff.1 hku).1
       obtain ⟨b131, rfl⟩ := hm117.rowBlk (A := A5b) (n := hlb.length) (c := c5b) 1 rfl (by omega)
       refine litVal (v := .bool false) rfl (wn rfl) (boolTo (decide_eq_false h130) (eqlRun (A := p) (B := 0) (.tmp 131) (.const (.int .i64 0)) rfl (litEv (by kernel_rfl)) (litEv (by kernel_rfl)))) rfl (by decide) ?_
       refine plD ?_
       refine then_normal (hK129 _ _ ?_)
       refine wp_cond_false (litEv (by kernel_rfl)) ?_
       refine wp_skip ?_
       refine then_normal (hK128 _ _ ?_)
       refine wp_seq_k fun K132 hK132 => ?_
       refine plStart ?_
       refine litVal (v := .agg (tbs (.slice S1b l1b.length c1b) ((stepV (vrs l1) nx x.num x.pins x.h).2.1)).toArray) rfl (wn rfl) (gLoadAg (vs := tbs (.slice S1b l1b.length c1b) ((stepV (vrs l1) nx x.num x.pins x.h).2.1)) (k := 0) 0 hm117 rfl (by kernel_rfl) (by kernel_rfl) (.tmp 4) Ty.ag_voxel_api_Versions rfl (litEv (by kernel_rfl))) rfl (by decide) ?_
       refine lk (v := .int .i64 (k2 : Int)) rfl rfl rfl ?_
       refine litVal (v := .int .i64 ((k2 : Int) + 1)) rfl (wn rfl) (addRun (A := (k2 : Int)) (B := 1) (C := (k2 : Int) + 1) (.tmp 135) (.const (.int .i64 1)) rfl (litEv (by kernel_rfl)) (litEv (by kernel_rfl)) rfl (by omega)) rfl (by decide) ?_
       refine plCall (i := 3) 28 [.agg (tbs (.slice S1b l1b.length c1b) ((stepV (vrs l1) nx x.num x.pins x.h).2.1)).toArray, .int .i64 ((k2 : Int) + 1)] [] [] rfl (by kernel_rfl) (wn rfl) rfl (litEv (by kernel_rfl)) (litArgs (by kernel_rfl)) (by exact find_any l1b S1b c1b ((stepV (vrs l1) nx x.num x.pins x.h).2.1) ((k2 : Int) + 1) _ ((Mem.tb ((Mem.tailN (T := (tbRes l1b S1b c1b ++ lvRes L)) 3 hm117 rfl).sub (L' := tbRes l1b S1b c1b) (List.sublist_append_left _ _)))).rd (by have q_ := lenL hgvb; omega) ((Mem.tb ((Mem.tailN (T := (tbRes l1b S1b c1b ++ lvRes L)) 3 hm117 rfl).sub (L' := tbRes l1b S1b c1b) (List.sublist_append_left _ _)))).all (good_small (goodL hgvb))) ?_
       rintro e w133 ⟨v135, hv135_, rfl, hat_, hN_, hbz⟩
       rw [hfd_] at hv135_ ⊢
       have hm134 : Mem w w133 ([.arr g14 44 (tbs (.slice S1b l1b.length c1b) ((stepV (vrs l1) nx x.num x.pins x.h).2.1)), .row (.slice (some ⟨b131, 0, none⟩) hlb.length c5b) 25 4 hlb.length (hds hlb), .row (.slice (some ⟨b123, 0, none⟩) n6b c6b) 3 1 n6b X6b] ++ (lvRes [v135] ++ (tbRes l1b S1b c1b ++ lvRes L))) := Mem.newLv (M := (tbRes l1b S1b c1b ++ lvRes L)) [.arr g14 44 (tbs (.slice S1b l1b.length c1b) ((stepV (vrs l1) nx x.num x.pins x.h).2.1)), .row (.slice (some ⟨b131, 0, none⟩) hlb.length c5b) 25 4 hlb.length (hds hlb), .row (.slice (some ⟨b123, 0, none⟩) n6b c6b) 3 1 n6b X6b] hm117 hbz hat_ hN_ (hdTb (List.sublist_append_left _ _)) (mutApp (fun _ h_ => tbRes_mut h_) (fun _ h_ => lvRes_mut h_))
       clear hat_ hN_ hbz hm117
       have hm136 : Mem w w133 ((.arr g14 44 (tbs (.slice S1b l1b.length c1b) ((stepV (vrs l1) nx x.num x.pins x.h).2.1))) :: (.row (.slice (some ⟨b131, 0, none⟩) hlb.length c5b) 25 4 hlb.length (hds hlb)) :: (.row (.slice (some ⟨b123, 0, none⟩) n6b c6b) 3 1 n6b X6b) :: (lvRes [v135] ++ (tbRes l1b S1b c1b ++ lvRes L))) := hm134
       clear hm134
       refine ⟨_, rfl, ?_⟩
       refine qP rfl ?_
       refine lk (v := .tuple #[.agg (hcs v135.h v135.A v135.c v135.B v135.d).toArray, .int .i64 0]) rfl rfl rfl ?_
       refine lk (v := .agg (hcs v135.h v135.A v135.c v135.B v135.d).toArray) rfl rfl rfl ?_
       refine lk (v := .int .i64 0) rfl rfl rfl ?_
       refine plAlloc (z := [.int .i64 0, .slice none 0 0, .int .i64 0, .slice none 0 0]) Ty.ag_voxel_api_Header hm136 (i := 7) rfl (wn rfl) rfl ?_
       intro g137 w139 hm138
       clear hm136
       try simp only [List.cons_append, List.nil_append, List.set_cons_succ, List.set_cons_zero] at hm138
       replace hm138 := Mem.insAt (M := ((.arr g14 44 (tbs (.slice S1b l1b.length c1b) ((stepV (vrs l1) nx x.num x.pins x.h).2.1))) :: (.row (.slice (some ⟨b131, 0, none⟩) hlb.length c5b) 25 4 hlb.length (hds hlb)) :: (.row (.slice (some ⟨b123, 0, none⟩) n6b c6b) 3 1 n6b X6b) :: (lvRes [v135] ++ (tbRes l1b S1b c1b ++ lvRes L)))) 3 hm138
       simp only [List.insertIdx_succ_cons, List.insertIdx_zero] at hm138
       refine qP rfl ?_
       refine plStore 3 Ty.ag_voxel_api_Header hm138 rfl (i := 8) (cs := hcs v135.h v135.A v135.c v135.B v135.d) rfl (wn rfl) rfl (litEv (by kernel_rfl)) (litEv (by kernel_rfl)) rfl rfl (by kernel_rfl) ?_
       intro w141 hm140
       clear hm138
       try simp only [List.cons_append, List.nil_append, List.set_cons_succ, List.set_cons_zero] at hm140
       refine qNone rfl ?_
       refine lk (v := .int .i64 0) rfl rfl rfl ?_
       refine plD ?_
       refine then_normal (hK132 _ _ ?_)
       refine wp_seq_k fun K142 hK142 => ?_
       refine mgStartM ((.arr g14 44 (tbs (.slice S1b l1b.length c1b) ((stepV (vrs l1) nx x.num x.pins x.h).2.1))) :: (.row (.slice (some ⟨b131, 0, none⟩) hlb.length c5b) 25 4 hlb.length (hds hlb)) :: (.row (.slice (some ⟨b123, 0, none⟩) n6b c6b) 3 1 n6b X6b) :: (.arr g137 25 (hcs v135.h v135.A v135.c v135.B v135.d)) :: (lvRes [v135] ++ (tbRes l1b S1b c1b ++ lvRes L))) hm140 (by kernel_rfl) ?_
       intro w144 hm143
       clear hm140
       refine mk_ (i := 0) (v := .int .i64 0) rfl rfl (fun _ _ _ h => h) (hm143.sub (.cons_cons _ (.cons_cons _ (.cons_cons _ (.cons_cons _ (List.Sublist.refl _)))))) rfl ?_
       refine mk_ (i := 1) (v := .bool false) rfl rfl (fun _ _ _ h => h) (hm143.sub (.cons_cons _ (.cons_cons _ (.cons_cons _ (.cons_cons _ (List.Sublist.refl _)))))) rfl ?_
       refine mk_ (i := 2) (v := .bool false) rfl rfl (fun _ _ _ h => h) (hm143.sub (.cons_cons _ (.cons_cons _ (.cons_cons _ (.cons_cons _ (List.Sublist.refl _)))))) rfl ?_
       refine mgTake (i := 3) (v := .agg (hcs v135.h v135.A v135.c v135.B v135.d).toArray) rfl (by kernel_rfl) (wgY rfl rfl rfl (by decide) (by kernel_rfl)) (fun _ _ _ h => h) (hm143.sub (.cons_cons _ (.cons_cons _ (.cons_cons _ (.cons_cons _ (List.Sublist.refl _)))))) (fun w_ h_ => gLoadAg (vs := hcs v135.h v135.A v135.c v135.B v135.d) (k := 0) 3 h_ rfl (by kernel_rfl) (by kernel_rfl) (.tmp 14) Ty.ag_voxel_api_Header rfl (litEv (by kernel_rfl))) ?_
       refine mP rfl ?_
       refine mgTake (i := 4) (v := .slice (some ⟨b131, 0, none⟩) hlb.length c5b) rfl (by kernel_rfl) (wgY rfl rfl rfl (by decide) (by kernel_rfl)) (fun _ _ _ h => h) (hm143.sub (.cons_cons _ (.cons_cons _ (.cons_cons _ (.cons_cons _ (List.Sublist.refl _)))))) (fun w_ h_ => litRun (by kernel_rfl)) ?_
       refine mP rfl ?_
       refine mgTake (i := 5) (v := .int .i64 (k2 : Int)) rfl (by kernel_rfl) (wgY rfl rfl rfl (by decide) (by kernel_rfl)) (fun _ _ _ h => h) (hm143.sub (.cons_cons _ (.cons_cons _ (.cons_cons _ (.cons_cons _ (List.Sublist.refl _)))))) (fun w_ h_ => litRun (by kernel_rfl)) ?_
       refine mP rfl ?_
       refine mgTake (i := 6) (v := .pointer (some ⟨b131, 0 + k2 * 4, none⟩)) rfl (by kernel_rfl) (wgY rfl rfl rfl (by decide) (by kernel_rfl)) (fun _ _ _ h => h) (hm143.sub (.cons_cons _ (.cons_cons _ (.cons_cons _ (.cons_cons _ (List.Sublist.refl _)))))) (fun w_ h_ => gIaSl (b := b131) (off := 0) (n := hlb.length) (c := c5b) (kk := .i64) (K := (k2 : Int)) (.tmp 144) (.tmp 145) k2 Ty.sl_L_api_Header rfl (litEv (by kernel_rfl)) (litEv (by kernel_rfl)) (rfl) (by omega)) ?_
       refine mP rfl ?_
       refine mgTake (i := 7) (v := .agg (hcs u.h u.A u.c u.B u.d).toArray) rfl (by kernel_rfl) (wgY rfl rfl rfl (by decide) (by kernel_rfl)) (fun _ _ _ h => h) (hm143.sub (.cons_cons _ (.cons_cons _ (.cons_cons _ (.cons_cons _ (List.Sublist.refl _)))))) (fun w_ h_ => gLoadAgRd (vs := hcs u.h u.A u.c u.B u.d) (m := k2 * 4) (h_.rdRow 1 rfl) rfl (fun i_ u_ hu_ => hds_get hku i_ u_ hu_) (by kernel_rfl) (by omega) (.tmp 146) Ty.ag_voxel_api_Header rfl (litEv (by kernel_rfl))) ?_
       refine mP rfl ?_
       refine mgCall (i := 8) 18 [.agg (hcs v135.h v135.A v135.c v135.B v135.d).toArray, .agg (hcs u.h u.A u.c u.B u.d).toArray] [] [] (by kernel_rfl) rfl (by kernel_rfl) (wgY rfl rfl rfl (by decide) (by kernel_rfl)) rfl (litEv (by kernel_rfl)) (litArgs (by kernel_rfl)) (by have h_ := same_any v135.h v135.A v135.c v135.B v135.d u.h u.A u.c u.B u.d _ ((Mem.lv ((Mem.tailN (T := (lvRes [v135] ++ (tbRes l1b S1b c1b ++ lvRes L))) 4 hm143 rfl).sub (L' := lvRes [v135]) (List.sublist_append_left _ _))) v135 List.mem_cons_self).a ((Mem.lv ((Mem.tailN (T := (lvRes [v135] ++ (tbRes l1b S1b c1b ++ lvRes L))) 4 hm143 rfl).sub (L' := lvRes [v135]) (List.sublist_append_left _ _))) v135 List.mem_cons_self).b ((Mem.lv ((Mem.tailN (T := (lvRes [v135] ++ (tbRes l1b S1b c1b ++ lvRes L))) 4 hm143 rfl).sub (L' := lvRes L) (((List.Sublist.refl _).trans (List.sublist_append_right _ _)).trans (List.sublist_append_right _ _)))) u hul_).a ((Mem.lv ((Mem.tailN (T := (lvRes [v135] ++ (tbRes l1b S1b c1b ++ lvRes L))) 4 hm143 rfl).sub (L' := lvRes L) (((List.Sublist.refl _).trans (List.sublist_append_right _ _)).trans (List.sublist_append_right _ _)))) u hul_).b (by have q_ := hfew.1 u hul_; rw [hv135_]; show u.h.counts.length ≤ _; omega) (by have q_ := hfew.1 u hul_; rw [hv135_]; show u.h.rn ≤ _; omega); rw [decide_eq_true (show v135.h = u.h from hv135_)] at h_; exact h_) ?_
       rintro e w145 ⟨rfl, hbz⟩
       have hm146 := hm143.below hbz
       clear hbz hm143
       refine ⟨_, rfl, (hm146.sub (.cons_cons _ (.cons_cons _ (.cons_cons _ (.cons_cons _ (List.Sublist.refl _)))))), ?_⟩
       refine mP rfl ?_
       refine mgTake (i := 9) (v := .bool false) rfl (by kernel_rfl) (wgY rfl rfl rfl (by decide) (by kernel_rfl)) (fun _ _ _ h => h) (hm146.sub (.cons_cons _ (.cons_cons _ (.cons_cons _ (.cons_cons _ (List.Sublist.refl _)))))) (fun w_ h_ => litRun (by kernel_rfl)) ?_
       refine mP rfl ?_
       refine mk_ (i := 10) (v := .bool false) rfl rfl (fun _ _ _ h => h) (hm146.sub (.cons_cons _ (.cons_cons _ (.cons_cons _ (.cons_cons _ (List.Sublist.refl _)))))) rfl ?_
       refine mgDone (by kernel_rfl) ?_
       refine then_normal (hK142 _ _ ?_)
       refine wp_cond_false (litEv (by kernel_rfl)) ?_
       refine wp_skip ?_
       refine inBlock_normal ?_
       refine then_normal (hK124 _ _ ?_)
       refine plStart ?_
       refine lk (v := .int .i64 (k2 : Int)) rfl rfl rfl ?_
       refine litVal (v := .int .i64 ((k2 : Int) + 1)) rfl (wn rfl) (addRun (A := (k2 : Int)) (B := 1) (C := (k2 : Int) + 1) (.tmp 115) (.const (.int .i64 1)) rfl (litEv (by kernel_rfl)) (litEv (by kernel_rfl)) rfl (by omega)) rfl (by decide) ?_
       refine lk (v := .int .i64 ((k2 : Int) + 1)) rfl rfl rfl ?_
       refine plD ?_
       refine then_normal ?_
       exact ⟨_, by omega, (k2 + 1), rfl, (by omega), ⟨litSize, rfl, ⟨litGet (by kernel_rfl), ⟨litGet (by kernel_rfl), ⟨litGet (by kernel_rfl), ⟨litGet (by kernel_rfl), ⟨litGet (by kernel_rfl), ⟨litGet (by kernel_rfl), ⟨litGet (by kernel_rfl), ⟨litGet (by kernel_rfl), ⟨litGet (by kernel_rfl), ⟨litGet (by kernel_rfl), ⟨litGet (by kernel_rfl), ⟨litGet (by kernel_rfl), ⟨litGet (by kernel_rfl), ⟨litGet (by kernel_rfl), ⟨litGet (by kernel_rfl), ⟨litGet (by kernel_rfl), ⟨litGet (by kernel_rfl), ⟨litGet (by kernel_rfl), trivial⟩⟩⟩⟩⟩⟩⟩⟩⟩⟩⟩⟩⟩⟩⟩⟩⟩⟩⟩, (hm146.sub (List.Sublist.cons_cons _ (List.Sublist.cons_cons _ (List.Sublist.cons_cons _ (List.Sublist.cons _ ((List.Sublist.refl _).trans (List.sublist_append_right _ _)))))))⟩
     refine litVal (v := .bool false) rfl (wn rfl) (boolTo (decide_eq_false h122) (lssRun (A := (k2 : Int)) (B := (n6b : Int)) (.tmp 111) (.tmp 113) rfl (litEv (by kernel_rfl)) (litEv (by kernel_rfl)))) rfl (by decide) ?_
     refine plD ?_
     refine then_normal (hK121 _ _ ?_)
     refine wp_cond_false (litEv (by kernel_rfl)) ?_
     refine wp_exit ?_
     refine then_exit ?_
     refine then_exit ?_
     refine inBlock_exit ?_
     refine then_normal (hK114 _ _ ?_)
     refine wp_seq_k fun K147 hK147 => ?_
     refine plStart ?_
     refine lk (v := .int .i64 ((psb.take k2).sum)) rfl rfl rfl ?_
     refine litVal (v := .bool false) rfl (wn rfl) (boolTo (decide_eq_false (by have q_ := pins_sum hpsb hgvb k2; omega)) (gtrRun (A := ((psb.take k2).sum)) (B := 64) (.tmp 151) (.const (.int .i64 64)) rfl (litEv (by kernel_rfl)) (litEv (by kernel_rfl)))) rfl (by decide) ?_
     refine lk (v := .bool false) rfl rfl rfl ?_
     refine litVal (v := .pointer (some ⟨g14, 0, none⟩)) rfl (wgY rfl rfl rfl (by decide) (by kernel_rfl)) (litRun (by kernel_rfl)) rfl (by decide) ?_
     refine litVal (v := .slice S1b l1b.length c1b) rfl (wgY rfl rfl rfl (by decide) (by kernel_rfl)) (gLoad (v := .slice S1b l1b.length c1b) (k := 0) 0 hm117 rfl (by kernel_rfl) (.tmp 154) (by kernel_rfl) rfl (litEv (by kernel_rfl))) rfl (by decide) ?_
     refine litVal (v := .int .i64 (l1b.length : Int)) rfl (wgY rfl rfl rfl (by decide) (by kernel_rfl)) (lenSlRun (A := S1b) (n := l1b.length) (c := c1b) (.tmp 155) Ty.und_L_api_Version rfl (litEv (by kernel_rfl))) rfl (by decide) ?_
     refine litVal (v := .bool false) rfl (wgY rfl rfl rfl (by decide) (by kernel_rfl)) (boolTo (decide_eq_false (by have q_ := lenL hgvb; omega)) (gtrRun (A := (l1b.length : Int)) (B := 100) (.tmp 156) (.const (.int .i64 100)) rfl (litEv (by kernel_rfl)) (litEv (by kernel_rfl)))) rfl (by decide) ?_
     refine lk (v := .bool false) rfl rfl rfl ?_
     refine plD ?_
     refine then_normal (hK147 _ _ ?_)
     refine wp_cond_false (litEv (by kernel_rfl)) ?_
     refine wp_skip ?_
     refine inBlock_normal ?_
     refine then_normal (hK30 _ _ ?_)
     refine plStart ?_
     refine lk (v := .int .i64 (k : Int)) rfl rfl rfl ?_
     refine litVal (v := .int .i64 ((k : Int) + 1)) rfl (wn rfl) (addRun (A := (k : Int)) (B := 1) (C := (k : Int) + 1) (.tmp 26) (.const (.int .i64 1)) rfl (litEv (by kernel_rfl)) (litEv (by kernel_rfl)) rfl (by omega)) rfl (by decide) ?_
     refine lk (v := .int .i64 ((k : Int) + 1)) rfl rfl rfl ?_
     refine plD ?_
     refine then_normal ?_
     exact ⟨_, by omega, (k + 1), l1b, hlb, psb, X6b, n6b, S1b, A5b, A6b, c1b, c5b, c6b, _, rfl, (by omega), (hgvb.more (by omega)), hpsb, hhlb, hn6b, hX6b, ⟨litSize, rfl, ⟨litGet (by kernel_rfl), ⟨litGet (by kernel_rfl), ⟨litGet (by kernel_rfl), ⟨litGet (by kernel_rfl), ⟨litGet (by kernel_rfl), ⟨litGet (by kernel_rfl), trivial⟩⟩⟩⟩⟩⟩⟩, (hm117.sub (List.Sublist.cons_cons _ (List.Sublist.cons_cons _ (List.Sublist.cons_cons _ (List.Sublist.append (List.Sublist.refl _) (List.Sublist.refl _))))))⟩
   refine litVal (v := .bool true) rfl (wn rfl) (boolTo (by rw [decide_eq_false h67]; rfl) (neqRun (A := ((stepV (vrs l1) nx x.num x.pins x.h).2.2.2.2)) (B := 0) (.tmp 39) (.const (.int .i64 0)) rfl (litEv (by kernel_rfl)) (litEv (by kernel_rfl)))) rfl (by decide) ?_
   refine plD ?_
   refine then_normal (hK66 _ _ ?_)
   refine wp_cond_true (litEv (by kernel_rfl)) ?_
   refine wp_exit ?_
   refine then_exit ?_
   refine inBlock_exit ?_
   refine then_normal (hK30 _ _ ?_)
   refine plStart ?_
   refine lk (v := .int .i64 (k : Int)) rfl rfl rfl ?_
   refine litVal (v := .int .i64 ((k : Int) + 1)) rfl (wn rfl) (addRun (A := (k : Int)) (B := 1) (C := (k : Int) + 1) (.tmp 26) (.const (.int .i64 1)) rfl (litEv (by kernel_rfl)) (litEv (by kernel_rfl)) rfl (by omega)) rfl (by decide) ?_
   refine lk (v := .int .i64 ((k : Int) + 1)) rfl rfl rfl ?_
   refine plD ?_
   refine then_normal ?_
   exact ⟨_, by omega, (k + 1), l1, hl, ps, X6, n6, S1, A5, A6, c1, c5, c6, nx, rfl, (by omega), (hgv.more (by omega)), hps, hhl, hn6, hX6, ⟨litSize, rfl, ⟨litGet (by kernel_rfl), ⟨litGet (by kernel_rfl), ⟨litGet (by kernel_rfl), ⟨litGet (by kernel_rfl), ⟨litGet (by kernel_rfl), ⟨litGet (by kernel_rfl), trivial⟩⟩⟩⟩⟩⟩⟩, (hm62.sub (List.Sublist.cons_cons _ (List.Sublist.cons_cons _ (List.Sublist.cons_cons _ (List.Sublist.cons _ ((List.Sublist.cons _ ((List.Sublist.append (List.Sublist.refl _) (List.Sublist.refl _)).trans (List.sublist_append_right _ _)))))))))⟩
 refine litVal (v := .bool false) rfl (wn rfl) (boolTo (decide_eq_false h29) (lssRun (A := (k : Int)) (B := (L.length : Int)) (.tmp 22) (.tmp 24) rfl (litEv (by kernel_rfl)) (litEv (by kernel_rfl)))) rfl (by decide) ?_
 refine plD ?_
 refine then_normal (hK28 _ _ ?_)
 refine wp_cond_false (litEv (by kernel_rfl)) ?_
 refine wp_exit ?_
 refine then_exit ?_
 refine then_exit ?_
 refine inBlock_exit ?_
 refine then_normal (hK21 _ _ ?_)
 refine wp_seq_k fun K148 hK148 => ?_
 refine plStart ?_
 refine lk (v := .bool true) rfl rfl rfl ?_
 refine lk (v := .bool true) rfl rfl rfl ?_
 refine plD ?_
 refine then_normal (hK148 _ _ ?_)
 refine wp_ret ?_
 refine bodyPost_ret (v := .bool true) (gRes1 rfl (gResTmp (t := 2) (v := .bool true) (litGet (by kernel_rfl)))) rfl ?_
 exact ⟨by rfl, hm24.bel⟩
end Go.Proofs.YtgjgjimgomhbmaaDoor
