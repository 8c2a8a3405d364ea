/-
  MG: several texts in one. No statement is proved here.
-/
import Derived.Test.YtgjgjimgomhbmaaDoorMF
set_option linter.unusedVariables false
set_option linter.unusedSimpArgs false
namespace Go.Proofs.YtgjgjimgomhbmaaDoor
open Go.RowKit
set_option linter.unusedVariables false
set_option linter.unusedSimpArgs false
section
variable {l : List Lv} {nx : Int} {h : Hd} {k : Nat} {v : Lv}
theorem addV_bad (hb : ¬ ckH h = 0) : addV (vrs l) nx h = ([], 0, 0, 1) := by unfold addV; rw [if_pos hb]
theorem addV_stale (hb : ckH h = 0) (hn : 0 < l.length) (hv : l[l.length - 1]? = some v) (hc : ¬ covers h v.h) : addV (vrs l) nx h = ([], 0, 0, 22) := by
  unfold addV
  rw [if_neg (fun h2 => h2 hb), if_pos]
  rw [vrs_len, getD_some (vrs_get hv)]
  exact ⟨hn, hc⟩
theorem addV_full (hb : ckH h = 0) (hc : ¬ 0 < l.length ∨ ∃ v, l[l.length - 1]? = some v ∧ covers h v.h) (hf : 100 ≤ l.length) : addV (vrs l) nx h = ([], 0, 0, 21) := by
  unfold addV
  rw [if_neg (fun h2 => h2 hb), if_neg, if_pos (by rw [vrs_len]; exact hf)]
  rintro ⟨h1, h2⟩
  rw [vrs_len] at h1 h2
  rcases hc with hc | ⟨v, hv, hc⟩
  · exact hc h1
  · rw [getD_some (vrs_get hv)] at h2; exact h2 hc
theorem addV_yes (hb : ckH h = 0) (hc : ¬ 0 < l.length ∨ ∃ v, l[l.length - 1]? = some v ∧ covers h v.h) (hf : ¬ 100 ≤ l.length) (A : Option Addr) (c : Nat) (B : Option Addr) (d : Nat) : addV (vrs l) nx h = (vrs (l ++ [⟨nx, 0, h, A, c, B, d⟩]), nx + 1, nx, 0) := by
  unfold addV
  rw [if_neg (fun h2 => h2 hb), if_neg, if_neg (by rw [vrs_len]; exact hf), vrs_app]
  · rfl
  · rintro ⟨h1, h2⟩
    rw [vrs_len] at h1 h2
    rcases hc with hc | ⟨v, hv, hc⟩
    · exact hc h1
    · rw [getD_some (vrs_get hv)] at h2; exact h2 hc
end
theorem NewT.push {B : Nat} {l : List Lv} {v : Lv} {S' : Option Addr} (h : NewA B S') (ha : NewA B v.A) (hb : NewA B v.B) : NewT B l (l ++ [v]) S' := by
  refine ⟨h, fun u hu => ?_⟩
  rcases List.mem_append.1 hu with hu | hu
  · exact Or.inl ⟨u, hu, rfl, rfl, rfl⟩
  · simp at hu; subst hu; exact Or.inr ⟨ha, hb⟩
theorem AllAt.push {l : List Lv} {w : World} {v : Lv} (h : AllAt l w) (hv : v.At w) : AllAt (l ++ [v]) w := by
  intro u hu
  rcases List.mem_append.1 hu with hu | hu
  · exact h u hu
  · simp at hu; subst hu; exact hv
set_option maxRecDepth 100000 in
set_option maxHeartbeats 4000000 in
theorem vadd_any (l : List Lv) (S : Option Addr) (cS : Nat) (nx : Int) (h : Hd) (A : Option Addr) (c : Nat) (B : Option Addr) (d : Nat) (w : World) (hT : TbAt w l S cS) (hl : l.length ≤ 1000) (hA : Rd w w.heap.size 1 A h.counts.length c (ics h.counts)) (hB : Rd w w.heap.size 16 B h.rn d (bcs h.D)) (hfit : h.Fit) (hgood : ∀ v ∈ l, v.h.Good) (hnx : 0 ≤ nx ∧ nx ≤ 1000000) : Calls Tryd.prog 31 #[.agg (tbs (.slice S l.length cS) nx).toArray, .agg (hcs h A c B d).toArray] w (fun e w' => ∃ l' S' c', e = .returned (.tuple #[.agg (tbs (.slice S' l'.length c') (addV (vrs l) nx h).2.1).toArray, .int .i64 (addV (vrs l) nx h).2.2.1, .int .i64 (addV (vrs l) nx h).2.2.2]) ∧ vrs l' = (addV (vrs l) nx h).1 ∧ TbAt w' l' S' c' ∧ NewT w.heap.size l l' S' ∧ Below w.heap.size w w') := by
 have hS := hT.rd
 have hall := hT.all
 have hcl := hfit.c20
 have hrl := hfit.r20
 have hm0 := Mem.nil w
 go_enter Tryd.func31, Tryd.ntmps31
 refine litStart 65 [(0, .agg (tbs (.slice S l.length cS) nx).toArray), (1, .agg (hcs h A c B d).toArray)] (by kernel_rfl) (fun X0 => ?_)
 refine wp_seq_k fun K1 hK1 => ?_
 refine plStart ?_
 refine plBox hm0 (cs := tbs (.slice S l.length cS) nx) (i := 0) rfl (wn rfl) rfl (litEv (by kernel_rfl)) ?_
 intro g2 w4 hm3
 clear hm0
 try simp only [List.cons_append, List.nil_append, List.set_cons_succ, List.set_cons_zero] at hm3
 refine qP rfl ?_
 refine plBox hm3 (cs := hcs h A c B d) (i := 1) rfl (wn rfl) rfl (litEv (by kernel_rfl)) ?_
 intro g5 w7 hm6
 clear hm3
 try simp only [List.cons_append, List.nil_append, List.set_cons_succ, List.set_cons_zero] at hm6
 refine qP rfl ?_
 refine plAlloc (z := [.slice none 0 0, .int .i64 0]) Ty.ag_voxel_api_Versions hm6 (i := 2) rfl (wn rfl) rfl ?_
 intro g8 w10 hm9
 clear hm6
 try simp only [List.cons_append, List.nil_append, List.set_cons_succ, List.set_cons_zero] at hm9
 refine qP rfl ?_
 refine lk (v := .int .i64 0) rfl rfl rfl ?_
 refine lk (v := .int .i64 0) rfl rfl rfl ?_
 refine plD ?_
 refine then_normal (hK1 _ _ ?_)
 refine gwCut (fun a_ w_ => (ckH h = 0) ∧ (¬ 0 < l.length ∨ ∃ v, l[l.length - 1]? = some v ∧ covers h v.h) ∧ (¬ 100 ≤ (l.length : Int)) ∧ Fr a_ 65 [(2, .pointer (some ⟨g2, 0, none⟩)), (3, .pointer (some ⟨g5, 0, none⟩)), (4, .pointer (some ⟨g8, 0, none⟩))] ∧ Mem w w_ [.arr g2 44 (tbs (.slice S l.length cS) nx), .arr g5 25 (hcs h A c B d), .arr g8 44 ([.slice none 0 0, .int .i64 0])]) ?_ ?_
 · refine wp_seq_k fun K11 hK11 => ?_
   refine plStart ?_
   refine lk (v := .pointer (some ⟨g2, 0, none⟩)) rfl rfl rfl ?_
   refine litVal (v := .slice S l.length cS) rfl (wn rfl) (gLoad (v := .slice S l.length cS) (k := 0) 0 hm9 rfl (by kernel_rfl) (.tmp 10) (by kernel_rfl) rfl (litEv (by kernel_rfl))) rfl (by decide) ?_
   refine litVal (v := .int .i64 (l.length : Int)) rfl (wn rfl) (lenSlRun (A := S) (n := l.length) (c := cS) (.tmp 11) Ty.und_L_api_Version rfl (litEv (by kernel_rfl))) rfl (by decide) ?_
   refine lk (v := .int .i64 (l.length : Int)) rfl rfl rfl ?_
   refine plD ?_
   refine then_normal (hK11 _ _ ?_)
   refine wp_block ?_
   refine wp_seq_k fun K12 hK12 => ?_
   refine plStart ?_
   refine litVal (v := .agg (hcs h A c B d).toArray) rfl (wn rfl) (gLoadAg (vs := hcs h A c B d) (k := 0) 1 hm9 rfl (by kernel_rfl) (by kernel_rfl) (.tmp 3) Ty.ag_voxel_api_Header rfl (litEv (by kernel_rfl))) rfl (by decide) ?_
   refine plCall (i := 1) 14 [.agg (hcs h A c B d).toArray] [] [] rfl (by kernel_rfl) (wn rfl) rfl (litEv (by kernel_rfl)) (litArgs (by kernel_rfl)) (check_any h A c B d _ ((Rd.below hA hm9.bel).more hm9.bel.size) ((Rd.below hB hm9.bel).more hm9.bel.size) (by omega) (by omega) hfit.depth) ?_
   rintro e w13 ⟨rfl, hbz⟩
   have hm14 := hm9.below hbz
   clear hbz hm9
   refine ⟨_, rfl, ?_⟩
   refine qP rfl ?_
   by_cases h15 : (ckH h) = 0
   · have hg_ := ckH_good.1 h15
     have h8_ : h.counts.length = 8 := by have q_ := hg_.2.2.1; omega
     refine litVal (v := .bool false) rfl (wn rfl) (boolTo (by rw [decide_eq_true h15]; rfl) (neqRun (A := (ckH h)) (B := 0) (.tmp 15) (.const (.int .i64 0)) rfl (litEv (by kernel_rfl)) (litEv (by kernel_rfl)))) rfl (by decide) ?_
     refine lk (v := .bool false) rfl rfl rfl ?_
     refine plD ?_
     refine then_normal (hK12 _ _ ?_)
     refine wp_cond_false (litEv (by kernel_rfl)) ?_
     refine wp_seq_k fun K16 hK16 => ?_
     refine mgStart hm14 (by kernel_rfl) ?_
     intro w18 hm17
     clear hm14
     refine mk_ (i := 0) (v := .int .i64 (l.length : Int)) rfl rfl (fun _ _ _ h => h) hm17 rfl ?_
     by_cases h19 : 0 < (l.length : Int)
     · obtain ⟨v, hkv⟩ : ∃ v, l[l.length - 1]? = some v := ⟨_, List.getElem?_eq_getElem (by omega)⟩
       have hv_ := hall v (List.mem_of_getElem? hkv)
       have hgv_ := hgood v (List.mem_of_getElem? hkv)
       have g8_ : v.h.counts.length = 8 := by have q_ := hgv_.2.2.1; omega
       obtain ⟨bS_, oS_, rfl, _, _⟩ := hS.cells (by omega)
       refine mgTake (i := 1) (v := .bool true) rfl (by kernel_rfl) (wn rfl) (fun _ _ _ h => h) hm17 (fun w_ h_ => boolTo (decide_eq_true h19) (gtrRun (A := (l.length : Int)) (B := 0) (.tmp 19) (.const (.int .i64 0)) rfl (litEv (by kernel_rfl)) (litEv (by kernel_rfl)))) ?_
       refine mP rfl ?_
       refine mk_ (i := 2) (v := .bool true) rfl rfl (fun _ _ _ h => h) hm17 rfl ?_
       refine mgTake (i := 3) (v := .agg (hcs h A c B d).toArray) rfl (by kernel_rfl) (wgY rfl rfl rfl (by decide) (by kernel_rfl)) (fun _ _ _ h => h) hm17 (fun w_ h_ => gLoadAg (vs := hcs h A c B d) (k := 0) 1 h_ rfl (by kernel_rfl) (by kernel_rfl) (.tmp 3) Ty.ag_voxel_api_Header rfl (litEv (by kernel_rfl))) ?_
       refine mP rfl ?_
       refine mgTake (i := 4) (v := .pointer (some ⟨g2, 0, none⟩)) rfl (by kernel_rfl) (wgY rfl rfl rfl (by decide) (by kernel_rfl)) (fun _ _ _ h => h) hm17 (fun w_ h_ => litRun (by kernel_rfl)) ?_
       refine mP rfl ?_
       refine mgTake (i := 5) (v := .slice (some ⟨bS_, oS_, none⟩) l.length cS) rfl (by kernel_rfl) (wgY rfl rfl rfl (by decide) (by kernel_rfl)) (fun _ _ _ h => h) hm17 (fun w_ h_ => gLoad (v := .slice (some ⟨bS_, oS_, none⟩) l.length cS) (k := 0) 0 h_ rfl (by kernel_rfl) (.tmp 23) (by kernel_rfl) rfl (litEv (by kernel_rfl))) ?_
       refine mP rfl ?_
       refine mgTake (i := 6) (v := .int .i64 (l.length : Int)) rfl (by kernel_rfl) (wgY rfl rfl rfl (by decide) (by kernel_rfl)) (fun _ _ _ h => h) hm17 (fun w_ h_ => litRun (by kernel_rfl)) ?_
       refine mP rfl ?_
       refine mgTake (i := 7) (v := .int .i64 ((l.length : Int) - 1)) rfl (by kernel_rfl) (wgY rfl rfl rfl (by decide) (by kernel_rfl)) (fun _ _ _ h => h) hm17 (fun w_ h_ => subRun (A := (l.length : Int)) (B := 1) (C := (l.length : Int) - 1) (.tmp 25) (.const (.int .i64 1)) rfl (litEv (by kernel_rfl)) (litEv (by kernel_rfl)) rfl (by omega)) ?_
       refine mP rfl ?_
       refine mgTake (i := 8) (v := .pointer (some ⟨bS_, oS_ + (l.length - 1) * 6, none⟩)) rfl (by kernel_rfl) (wgY rfl rfl rfl (by decide) (by kernel_rfl)) (fun _ _ _ h => h) hm17 (fun w_ h_ => gIaSl (b := bS_) (off := oS_) (n := l.length) (c := cS) (kk := .i64) (K := ((l.length : Int) - 1)) (.tmp 24) (.tmp 26) (l.length - 1) Ty.sl_L_api_Version rfl (litEv (by kernel_rfl)) (litEv (by kernel_rfl)) (by omega) (by omega)) ?_
       refine mP rfl ?_
       refine mgTake (i := 9) (v := .pointer (some ⟨bS_, oS_ + (l.length - 1) * 6 + 2, none⟩)) rfl (by kernel_rfl) (wgY rfl rfl rfl (by decide) (by kernel_rfl)) (fun _ _ _ h => h) hm17 (fun w_ h_ => litRun (by kernel_rfl)) ?_
       refine mP rfl ?_
       refine mgTake (i := 10) (v := .agg (hcs v.h v.A v.c v.B v.d).toArray) rfl (by kernel_rfl) (wgY rfl rfl rfl (by decide) (by kernel_rfl)) (fun _ _ _ h => h) hm17 (fun w_ h_ => gLoadAgRd (vs := hcs v.h v.A v.c v.B v.d) (m := (l.length - 1) * 6 + 2) ((Rd.below hS h_.bel).more h_.bel.size) rfl (fun i_ u_ hu_ => by have := lvs_get hkv (2 + i_) u_ (by rw [Nat.add_comm]; exact hu_); rw [← Nat.add_assoc] at this; exact this) (by kernel_rfl) (by omega) (.tmp 28) Ty.ag_voxel_api_Header rfl (litEv (by kernel_rfl))) ?_
       refine mP rfl ?_
       refine mgCall (i := 11) 19 [.agg (hcs h A c B d).toArray, .agg (hcs v.h v.A v.c v.B v.d).toArray] [] [] (by kernel_rfl) rfl (by kernel_rfl) (wgY rfl rfl rfl (by decide) (by kernel_rfl)) rfl (litEv (by kernel_rfl)) (litArgs (by kernel_rfl)) (covers_any h A c B d v.h v.A v.c v.B v.d _ ((Rd.below hA hm17.bel).more hm17.bel.size) ((Rd.below hB hm17.bel).more hm17.bel.size) ((hv_.below hm17.bel).a) ((hv_.below hm17.bel).b) (by omega) (by omega) h8_ g8_) ?_
       rintro e w20 ⟨rfl, hbz⟩
       have hm21 := hm17.below hbz
       clear hbz hm17
       refine ⟨_, rfl, hm21, ?_⟩
       refine mP rfl ?_
       rcases bool_or (decide (covers h v.h)) with h22 | h22
       · rw [h22]
         refine mgTake (i := 12) (v := .bool true) rfl (by kernel_rfl) (wgY rfl rfl rfl (by decide) (by kernel_rfl)) (fun _ _ _ h => h) hm21 (fun w_ h_ => litRun (by kernel_rfl)) ?_
         refine mP rfl ?_
         refine mk_ (i := 13) (v := .bool true) rfl rfl (fun _ _ _ h => h) hm21 rfl ?_
         refine mk_ (i := 14) (v := .bool true) rfl rfl (fun _ _ _ h => h) hm21 rfl ?_
         refine mgDone (by kernel_rfl) ?_
         refine then_normal (hK16 _ _ ?_)
         refine wpPrune [(2, .pointer (some ⟨g2, 0, none⟩)), (3, .pointer (some ⟨g5, 0, none⟩)), (4, .pointer (some ⟨g8, 0, none⟩)), (5, .int .i64 0), (6, .int .i64 0), (7, .int .i64 (l.length : Int)), (18, .bool true)] ⟨litGet (by kernel_rfl), ⟨litGet (by kernel_rfl), ⟨litGet (by kernel_rfl), ⟨litGet (by kernel_rfl), ⟨litGet (by kernel_rfl), ⟨litGet (by kernel_rfl), ⟨litGet (by kernel_rfl), trivial⟩⟩⟩⟩⟩⟩⟩ (fun X23 => ?_)
         refine wp_cond_true (litEv (by kernel_rfl)) ?_
         refine wp_seq_k fun K24 hK24 => ?_
         refine plStart ?_
         refine lk (v := .agg ([.slice none 0 0, .int .i64 0]).toArray) rfl rfl rfl ?_
         refine plStore 2 Ty.ag_voxel_api_Versions hm21 rfl (i := 1) (cs := [.slice none 0 0, .int .i64 0]) rfl (wn rfl) rfl (litEv (by kernel_rfl)) (litEv (by kernel_rfl)) rfl rfl (by kernel_rfl) ?_
         intro w26 hm25
         clear hm21
         try simp only [List.cons_append, List.nil_append, List.set_cons_succ, List.set_cons_zero] at hm25
         refine qNone rfl ?_
         refine lk (v := .int .i64 0) rfl rfl rfl ?_
         refine lk (v := .int .i64 22) rfl rfl rfl ?_
         refine plD ?_
         refine then_normal (hK24 _ _ ?_)
         refine wp_ret ?_
         refine inBlock_ret ?_
         refine then_ret ?_
         refine bodyPost_ret (v := .tuple #[.agg ([.slice none 0 0, .int .i64 0]).toArray, .int .i64 0, .int .i64 22]) (gRes3 rfl (gResAg (cs := [.slice none 0 0, .int .i64 0]) 2 hm25 rfl Ty.ag_voxel_api_Versions rfl (litGet (by kernel_rfl))) (gResTmp (t := 5) (v := .int .i64 0) (litGet (by kernel_rfl))) (gResTmp (t := 6) (v := .int .i64 22) (litGet (by kernel_rfl)))) rfl ?_
         have hfin_ := addV_stale (l := l) (nx := nx) h15 (by omega) hkv (of_decide_eq_false h22)
         exact ⟨[], none, 0, by rw [hfin_]; rfl, by rw [hfin_]; rfl, TbAt.nil _, NewT.nil _ _, hm25.bel⟩
       rw [h22]
       refine mgTake (i := 12) (v := .bool false) rfl (by kernel_rfl) (wgY rfl rfl rfl (by decide) (by kernel_rfl)) (fun _ _ _ h => h) hm21 (fun w_ h_ => litRun (by kernel_rfl)) ?_
       refine mP rfl ?_
       refine mk_ (i := 13) (v := .bool false) rfl rfl (fun _ _ _ h => h) hm21 rfl ?_
       refine mk_ (i := 14) (v := .bool false) rfl rfl (fun _ _ _ h => h) hm21 rfl ?_
       refine mgDone (by kernel_rfl) ?_
       refine then_normal (hK16 _ _ ?_)
       refine wpPrune [(2, .pointer (some ⟨g2, 0, none⟩)), (3, .pointer (some ⟨g5, 0, none⟩)), (4, .pointer (some ⟨g8, 0, none⟩)), (5, .int .i64 0), (6, .int .i64 0), (7, .int .i64 (l.length : Int)), (18, .bool false)] ⟨litGet (by kernel_rfl), ⟨litGet (by kernel_rfl), ⟨litGet (by kernel_rfl), ⟨litGet (by kernel_rfl), ⟨litGet (by kernel_rfl), ⟨litGet (by kernel_rfl), ⟨litGet (by kernel_rfl), trivial⟩⟩⟩⟩⟩⟩⟩ (fun X27 => ?_)
       refine wp_cond_false (litEv (by kernel_rfl)) ?_
       refine wp_seq_k fun K28 hK28 => ?_
       refine plStart ?_
       refine lk (v := .int .i64 (l.length : Int)) rfl rfl rfl ?_
       by_cases h29 : 100 ≤ (l.length : Int)
       · refine litVal (v := .bool true) rfl (wn rfl) (boolTo (decide_eq_true h29) (gGeq (A := (l.length : Int)) (B := 100) (.tmp 35) (.const (.int .i64 100)) rfl (litEv (by kernel_rfl)) (litEv (by kernel_rfl)))) rfl (by decide) ?_
         refine lk (v := .bool true) rfl rfl rfl ?_
         refine plD ?_
         refine then_normal (hK28 _ _ ?_)
         refine wp_cond_true (litEv (by kernel_rfl)) ?_
         refine wp_seq_k fun K30 hK30 => ?_
         refine plStart ?_
         refine lk (v := .agg ([.slice none 0 0, .int .i64 0]).toArray) rfl rfl rfl ?_
         refine plStore 2 Ty.ag_voxel_api_Versions hm21 rfl (i := 1) (cs := [.slice none 0 0, .int .i64 0]) rfl (wn rfl) rfl (litEv (by kernel_rfl)) (litEv (by kernel_rfl)) rfl rfl (by kernel_rfl) ?_
         intro w32 hm31
         clear hm21
         try simp only [List.cons_append, List.nil_append, List.set_cons_succ, List.set_cons_zero] at hm31
         refine qNone rfl ?_
         refine lk (v := .int .i64 0) rfl rfl rfl ?_
         refine lk (v := .int .i64 21) rfl rfl rfl ?_
         refine plD ?_
         refine then_normal (hK30 _ _ ?_)
         refine wp_ret ?_
         refine inBlock_ret ?_
         refine then_ret ?_
         refine bodyPost_ret (v := .tuple #[.agg ([.slice none 0 0, .int .i64 0]).toArray, .int .i64 0, .int .i64 21]) (gRes3 rfl (gResAg (cs := [.slice none 0 0, .int .i64 0]) 2 hm31 rfl Ty.ag_voxel_api_Versions rfl (litGet (by kernel_rfl))) (gResTmp (t := 5) (v := .int .i64 0) (litGet (by kernel_rfl))) (gResTmp (t := 6) (v := .int .i64 21) (litGet (by kernel_rfl)))) rfl ?_
         have hfin_ := addV_full (l := l) (nx := nx) h15 (Or.inr ⟨v, hkv, of_decide_eq_true h22⟩) (by omega)
         exact ⟨[], none, 0, by rw [hfin_]; rfl, by rw [hfin_]; rfl, TbAt.nil _, NewT.nil _ _, hm31.bel⟩
       refine litVal (v := .bool false) rfl (wn rfl) (boolTo (decide_eq_false h29) (gGeq (A := (l.length : Int)) (B := 100) (.tmp 35) (.const (.int .i64 100)) rfl (litEv (by kernel_rfl)) (litEv (by kernel_rfl)))) rfl (by decide) ?_
       refine lk (v := .bool false) rfl rfl rfl ?_
       refine plD ?_
       refine then_normal (hK28 _ _ ?_)
       refine wp_cond_false (litEv (by kernel_rfl)) ?_
       refine wp_skip ?_
       refine inBlock_normal ?_
       refine then_normal ?_
       exact ⟨h15, (Or.inr ⟨v, hkv, of_decide_eq_true h22⟩), h29, ⟨litSize, rfl, ⟨litGet (by kernel_rfl), ⟨litGet (by kernel_rfl), ⟨litGet (by kernel_rfl), trivial⟩⟩⟩⟩, hm21⟩
     refine mgTake (i := 1) (v := .bool false) rfl (by kernel_rfl) (wn rfl) (fun _ _ _ h => h) hm17 (fun w_ h_ => boolTo (decide_eq_false h19) (gtrRun (A := (l.length : Int)) (B := 0) (.tmp 19) (.const (.int .i64 0)) rfl (litEv (by kernel_rfl)) (litEv (by kernel_rfl)))) ?_
     refine mP rfl ?_
     refine mk_ (i := 2) (v := .bool false) rfl rfl (fun _ _ _ h => h) hm17 rfl ?_
     refine mgSkip (i := 3) rfl (by kernel_rfl) (wgN rfl rfl rfl (by decide) (by kernel_rfl)) (fun _ _ _ h => h) hm17 ?_
     refine mP rfl ?_
     refine mgSkip (i := 4) rfl (by kernel_rfl) (wgN rfl rfl rfl (by decide) (by kernel_rfl)) (fun _ _ _ h => h) hm17 ?_
     refine mP rfl ?_
     refine mgSkip (i := 5) rfl (by kernel_rfl) (wgN rfl rfl rfl (by decide) (by kernel_rfl)) (fun _ _ _ h => h) hm17 ?_
     refine mP rfl ?_
     refine mgSkip (i := 6) rfl (by kernel_rfl) (wgN rfl rfl rfl (by decide) (by kernel_rfl)) (fun _ _ _ h => h) hm17 ?_
     refine mP rfl ?_
     refine mgSkip (i := 7) rfl (by kernel_rfl) (wgN rfl rfl rfl (by decide) (by kernel_rfl)) (fun _ _ _ h => h) hm17 ?_
     refine mP rfl ?_
     refine mgSkip (i := 8) rfl (by kernel_rfl) (wgN rfl rfl rfl (by decide) (by kernel_rfl)) (fun _ _ _ h => h) hm17 ?_
     refine mP rfl ?_
     refine mgSkip (i := 9) rfl (by kernel_rfl) (wgN rfl rfl rfl (by decide) (by kernel_rfl)) (fun _ _ _ h => h) hm17 ?_
     refine mP rfl ?_
     refine mgSkip (i := 10) rfl (by kernel_rfl) (wgN rfl rfl rfl (by decide) (by kernel_rfl)) (fun _ _ _ h => h) hm17 ?_
     refine mP rfl ?_
     refine mgSkip (i := 11) rfl (by kernel_rfl) (wgN rfl rfl rfl (by decide) (by kernel_rfl)) (fun _ _ _ h => h) hm17 ?_
     refine mP rfl ?_
     refine mgSkip (i := 12) rfl (by kernel_rfl) (wgN rfl rfl rfl (by decide) (by kernel_rfl)) (fun _ _ _ h => h) hm17 ?_
     refine mP rfl ?_
     refine mk_ (i := 13) (v := .bool false) rfl rfl (fun _ _ _ h => h) hm17 rfl ?_
     refine mk_ (i := 14) (v := .bool false) rfl rfl (fun _ _ _ h => h) hm17 rfl ?_
     refine mgDone (by kernel_rfl) ?_
     refine then_normal (hK16 _ _ ?_)
     refine wpPrune [(2, .pointer (some ⟨g2, 0, none⟩)), (3, .pointer (some ⟨g5, 0, none⟩)), (4, .pointer (some ⟨g8, 0, none⟩)), (5, .int .i64 0), (6, .int .i64 0), (7, .int .i64 (l.length : Int)), (18, .bool false)] ⟨litGet (by kernel_rfl), ⟨litGet (by kernel_rfl), ⟨litGet (by kernel_rfl), ⟨litGet (by kernel_rfl), ⟨litGet (by kernel_rfl), ⟨litGet (by kernel_rfl), ⟨litGet (by kernel_rfl), trivial⟩⟩⟩⟩⟩⟩⟩ (fun X33 => ?_)
     refine wp_cond_false (litEv (by kernel_rfl)) ?_
     refine wp_seq_k fun K34 hK34 => ?_
     refine plStart ?_
     refine lk (v := .int .i64 (l.length : Int)) rfl rfl rfl ?_
     by_cases h35 : 100 ≤ (l.length : Int)
     · refine litVal (v := .bool true) rfl (wn rfl) (boolTo (decide_eq_true h35) (gGeq (A := (l.length : Int)) (B := 100) (.tmp 35) (.const (.int .i64 100)) rfl (litEv (by kernel_rfl)) (litEv (by kernel_rfl)))) rfl (by decide) ?_
       refine lk (v := .bool true) rfl rfl rfl ?_
       refine plD ?_
       refine then_normal (hK34 _ _ ?_)
       refine wp_cond_true (litEv (by kernel_rfl)) ?_
       refine wp_seq_k fun K36 hK36 => ?_
       refine plStart ?_
       refine lk (v := .agg ([.slice none 0 0, .int .i64 0]).toArray) rfl rfl rfl ?_
       refine plStore 2 Ty.ag_voxel_api_Versions hm17 rfl (i := 1) (cs := [.slice none 0 0, .int .i64 0]) rfl (wn rfl) rfl (litEv (by kernel_rfl)) (litEv (by kernel_rfl)) rfl rfl (by kernel_rfl) ?_
       intro w38 hm37
       clear hm17
       try simp only [List.cons_append, List.nil_append, List.set_cons_succ, List.set_cons_zero] at hm37
       refine qNone rfl ?_
       refine lk (v := .int .i64 0) rfl rfl rfl ?_
       refine lk (v := .int .i64 21) rfl rfl rfl ?_
       refine plD ?_
       refine then_normal (hK36 _ _ ?_)
       refine wp_ret ?_
       refine inBlock_ret ?_
       refine then_ret ?_
       refine bodyPost_ret (v := .tuple #[.agg ([.slice none 0 0, .int .i64 0]).toArray, .int .i64 0, .int .i64 21]) (gRes3 rfl (gResAg (cs := [.slice none 0 0, .int .i64 0]) 2 hm37 rfl Ty.ag_voxel_api_Versions rfl (litGet (by kernel_rfl))) (gResTmp (t := 5) (v := .int .i64 0) (litGet (by kernel_rfl))) (gResTmp (t := 6) (v := .int .i64 21) (litGet (by kernel_rfl)))) rfl ?_
       have hfin_ := addV_full (l := l) (nx := nx) h15 (Or.inl (by omega)) (by omega)
       exact ⟨[], none, 0, by rw [hfin_]; rfl, by rw [hfin_]; rfl, TbAt.nil _, NewT.nil _ _, hm37.bel⟩
     refine litVal (v := .bool false) rfl (wn rfl) (boolTo (decide_eq_false h35) (gGeq (A := (l.length : Int)) (B := 100) (.tmp 35) (.const (.int .i64 100)) rfl (litEv (by kernel_rfl)) (litEv (by kernel_rfl)))) rfl (by decide) ?_
     refine lk (v := .bool false) rfl rfl rfl ?_
     refine plD ?_
     refine then_normal (hK34 _ _ ?_)
     refine wp_cond_false (litEv (by kernel_rfl)) ?_
     refine wp_skip ?_
     refine inBlock_normal ?_
     refine then_normal ?_
     exact ⟨h15, (Or.inl (by omega)), h35, ⟨litSize, rfl, ⟨litGet (by kernel_rfl), ⟨litGet (by kernel_rfl), ⟨litGet (by kernel_rfl), trivial⟩⟩⟩⟩, hm17⟩
   refine litVal (v := .bool true) rfl (wn rfl) (boolTo (by rw [decide_eq_false h15]; rfl) (neqRun (A := (ckH h)) (B := 0) (.tmp 15) (.const (.int .i64 0)) rfl (litEv (by kernel_rfl)) (litEv (by kernel_rfl)))) rfl (by decide) ?_
   refine lk (v := .bool true) rfl rfl rfl ?_
   refine plD ?_
   refine then_normal (hK12 _ _ ?_)
   refine wp_cond_true (litEv (by kernel_rfl)) ?_
   refine wp_seq_k fun K39 hK39 => ?_
   refine plStart ?_
   refine lk (v := .agg ([.slice none 0 0, .int .i64 0]).toArray) rfl rfl rfl ?_
   refine plStore 2 Ty.ag_voxel_api_Versions hm14 rfl (i := 1) (cs := [.slice none 0 0, .int .i64 0]) rfl (wn rfl) rfl (litEv (by kernel_rfl)) (litEv (by kernel_rfl)) rfl rfl (by kernel_rfl) ?_
   intro w41 hm40
   clear hm14
   try simp only [List.cons_append, List.nil_append, List.set_cons_succ, List.set_cons_zero] at hm40
   refine qNone rfl ?_
   refine lk (v := .int .i64 0) rfl rfl rfl ?_
   refine lk (v := .int .i64 1) rfl rfl rfl ?_
   refine plD ?_
   refine then_normal (hK39 _ _ ?_)
   refine wpPrune [(2, .pointer (some ⟨g2, 0, none⟩)), (3, .pointer (some ⟨g5, 0, none⟩)), (4, .pointer (some ⟨g8, 0, none⟩)), (5, .int .i64 0), (6, .int .i64 1)] ⟨litGet (by kernel_rfl), ⟨litGet (by kernel_rfl), ⟨litGet (by kernel_rfl), ⟨litGet (by kernel_rfl), ⟨litGet (by kernel_rfl), trivial⟩⟩⟩⟩⟩ (fun X42 => ?_)
   refine wp_ret ?_
   refine inBlock_ret ?_
   refine then_ret ?_
   refine bodyPost_ret (v := .tuple #[.agg ([.slice none 0 0, .int .i64 0]).toArray, .int .i64 0, .int .i64 1]) (gRes3 rfl (gResAg (cs := [.slice none 0 0, .int .i64 0]) 2 hm40 rfl Ty.ag_voxel_api_Versions rfl (litGet (by kernel_rfl))) (gResTmp (t := 5) (v := .int .i64 0) (litGet (by kernel_rfl))) (gResTmp (t := 6) (v := .int .i64 1) (litGet (by kernel_rfl)))) rfl ?_
   have hfin_ := addV_bad (l := l) (nx := nx) h15
   exact ⟨[], none, 0, by rw [hfin_]; rfl, by rw [hfin_]; rfl, TbAt.nil _, NewT.nil _ _, hm40.bel⟩
 clear hm9
 intro a45 w43 hI_
 obtain ⟨hck_, hcov_, hfull_, hF_, hm44⟩ := hI_
 obtain ⟨X46, rfl⟩ := frLit hF_
 clear hF_
 refine wp_seq_k fun K47 hK47 => ?_
 refine aoStart (aoV [fun _ => .pointer (some ⟨g5, 0, none⟩), fun _ => .int .i64 h.tick, fun _ => .pointer (some ⟨g5, 1, none⟩), fun _ => .slice A h.counts.length c, fun γ_ => .slice (rA (γ_.getD 0 0)) h.counts.length (rC (γ_.getD 0 0)), fun _ => .pointer (some ⟨g5, 2, none⟩), fun _ => .int .i64 h.depth, fun _ => .pointer (some ⟨g5, 3, none⟩), fun _ => .slice B h.rn d, fun γ_ => .slice (rA (γ_.getD 0 0)) h.rn (rC (γ_.getD 0 0)), fun γ_ => .agg ([.int .i64 h.tick, .slice (rA (γ_.getD 0 0)) h.counts.length (rC (γ_.getD 0 0)), .int .i64 h.depth, .slice (rA (γ_.getD 1 0)) h.rn (rC (γ_.getD 1 0))]).toArray, fun γ_ => .pointer (some ⟨(γ_.getD 0 0), 0, none⟩), fun _ => undef]) (aoA [[], [], [], [], [4], [], [], [], [], [9], [4, 9], [11], []]) (fun b_ g_ => ((.arr g2 44 (tbs (.slice S l.length cS) nx)) :: (.arr g5 25 (hcs h A c B d)) :: (.arr g8 44 ([.slice none 0 0, .int .i64 0])) :: (bsel (b_ 4) (.row (.slice (rA (g_ 4)) h.counts.length (rC (g_ 4))) 3 1 h.counts.length (ics h.counts)) (.free)) :: (bsel (b_ 9) (.row (.slice (rA (g_ 9)) h.rn (rC (g_ 9))) 37 16 h.rn (bcs h.D)) (.free)) :: (bsel (b_ 11) (.arr (g_ 11) 25 (bsel (b_ 12) [.int .i64 h.tick, .slice (rA (g_ 4)) h.counts.length (rC (g_ 4)), .int .i64 h.depth, .slice (rA (g_ 9)) h.rn (rC (g_ 9))] [.int .i64 0, .slice none 0 0, .int .i64 0, .slice none 0 0])) .free) :: [])) hm44 (by kernel_rfl) (by kernel_rfl) (fun w_ h_ => h_.pushFree.pushFree.pushFree) (fun b_ g_ h_ => by show (fun (x4_ x9_ x11_ x12_ : Bool) => (((.arr g2 44 (tbs (.slice S l.length cS) nx)) :: (.arr g5 25 (hcs h A c B d)) :: (.arr g8 44 ([.slice none 0 0, .int .i64 0])) :: (bsel x4_ (.row (.slice (rA (g_ 4)) h.counts.length (rC (g_ 4))) 3 1 h.counts.length (ics h.counts)) (.free)) :: (bsel x9_ (.row (.slice (rA (g_ 9)) h.rn (rC (g_ 9))) 37 16 h.rn (bcs h.D)) (.free)) :: (bsel x11_ (.arr (g_ 11) 25 (bsel x12_ [.int .i64 h.tick, .slice (rA (g_ 4)) h.counts.length (rC (g_ 4)), .int .i64 h.depth, .slice (rA (g_ 9)) h.rn (rC (g_ 9))] [.int .i64 0, .slice none 0 0, .int .i64 0, .slice none 0 0])) .free) :: []) : List Res)) (b_ 4) (b_ 9) (b_ 11) (b_ 12) = _; rw [h_ 4 (by decide), h_ 9 (by decide), h_ 11 (by decide), h_ 12 (by decide)]) ?_ ?_
 · refine aoNext rfl (aoVal (fun g_ => [(3, .pointer (some ⟨g5, 0, none⟩))]) (fun g_ a_ h_k => ⟨(h_k.out 3 (by kernel_rfl)).trans (litGet (by kernel_rfl)), trivial⟩) (fun g_ X_ => (wn rfl)) (fun b_ g_ => by kernel_rfl) (fun b_ g_ X_ w_ h_b h_ => valTo (b := .pointer (some ⟨g5, 0, none⟩)) (by kernel_rfl) (litRun (by kernel_rfl)))) ?_
   refine aoNext rfl (aoVal (fun g_ => [(38, .pointer (some ⟨g5, 0, none⟩))]) (fun g_ a_ h_k => ⟨(h_k.inn 0 _ _ (by kernel_rfl) rfl rfl).trans (by kernel_rfl), trivial⟩) (fun g_ X_ => (wn rfl)) (fun b_ g_ => by kernel_rfl) (fun b_ g_ X_ w_ h_b h_ => valTo (b := .int .i64 h.tick) (by kernel_rfl) (gLoad (v := .int .i64 h.tick) (k := 0) 1 h_ rfl (by kernel_rfl) (.tmp 38) (by kernel_rfl) rfl (litEv (by kernel_rfl))))) ?_
   refine aoNext rfl (aoVal (fun g_ => [(3, .pointer (some ⟨g5, 0, none⟩))]) (fun g_ a_ h_k => ⟨(h_k.out 3 (by kernel_rfl)).trans (litGet (by kernel_rfl)), trivial⟩) (fun g_ X_ => (wn rfl)) (fun b_ g_ => by kernel_rfl) (fun b_ g_ X_ w_ h_b h_ => valTo (b := .pointer (some ⟨g5, 1, none⟩)) (by kernel_rfl) (litRun (by kernel_rfl)))) ?_
   refine aoNext rfl (aoVal (fun g_ => [(40, .pointer (some ⟨g5, 1, none⟩))]) (fun g_ a_ h_k => ⟨(h_k.inn 2 _ _ (by kernel_rfl) rfl rfl).trans (by kernel_rfl), trivial⟩) (fun g_ X_ => (wn rfl)) (fun b_ g_ => by kernel_rfl) (fun b_ g_ X_ w_ h_b h_ => valTo (b := .slice A h.counts.length c) (by kernel_rfl) (gLoad (v := .slice A h.counts.length c) (k := 1) 1 h_ rfl (by kernel_rfl) (.tmp 40) (by kernel_rfl) rfl (litEv (by kernel_rfl))))) ?_
   refine aoNext rfl (aoCallRow 3 (fun g_ => [(41, .slice A h.counts.length c)]) (fun g_ a_ h_k => ⟨(h_k.inn 3 _ _ (by kernel_rfl) rfl rfl).trans (by kernel_rfl), trivial⟩) 59 (fun g_ => [.slice A h.counts.length c]) [] [] (by kernel_rfl) (fun g_ X_ => (wn rfl)) rfl (fun g_ X_ => litEv (by kernel_rfl)) (fun g_ X_ => litArgs (by kernel_rfl)) (fun b_ g_ w_ h_b h_ => cloneI_any h.counts h.counts.length A c _ ((Rd.below hA h_.bel).more h_.bel.size) (by omega)) (fun _ _ _ => ⟨_, rfl⟩) (fun b_ g_ γ_ h_b => Eq.trans (b := ((.arr g2 44 (tbs (.slice S l.length cS) nx)) :: (.arr g5 25 (hcs h A c B d)) :: (.arr g8 44 ([.slice none 0 0, .int .i64 0])) :: (bsel true (.row (.slice (rA γ_) h.counts.length (rC γ_)) 3 1 h.counts.length (ics h.counts)) (.free)) :: (bsel (b_ 9) (.row (.slice (rA (g_ 9)) h.rn (rC (g_ 9))) 37 16 h.rn (bcs h.D)) (.free)) :: (bsel (b_ 11) (.arr (g_ 11) 25 (bsel (b_ 12) [.int .i64 h.tick, .slice (rA γ_) h.counts.length (rC γ_), .int .i64 h.depth, .slice (rA (g_ 9)) h.rn (rC (g_ 9))] [.int .i64 0, .slice none 0 0, .int .i64 0, .slice none 0 0])) .free) :: [])) (by kernel_rfl) (by simp only [bselF (h_b.post 9 (by kernel_rfl)), bselF (h_b.post 12 (by kernel_rfl))] <;> kernel_rfl)) (fun _ => by kernel_rfl) (by kernel_rfl)) ?_
   refine aoNext rfl (aoVal (fun g_ => [(3, .pointer (some ⟨g5, 0, none⟩))]) (fun g_ a_ h_k => ⟨(h_k.out 3 (by kernel_rfl)).trans (litGet (by kernel_rfl)), trivial⟩) (fun g_ X_ => (wn rfl)) (fun b_ g_ => by kernel_rfl) (fun b_ g_ X_ w_ h_b h_ => valTo (b := .pointer (some ⟨g5, 2, none⟩)) (by kernel_rfl) (litRun (by kernel_rfl)))) ?_
   refine aoNext rfl (aoVal (fun g_ => [(43, .pointer (some ⟨g5, 2, none⟩))]) (fun g_ a_ h_k => ⟨(h_k.inn 5 _ _ (by kernel_rfl) rfl rfl).trans (by kernel_rfl), trivial⟩) (fun g_ X_ => (wn rfl)) (fun b_ g_ => by kernel_rfl) (fun b_ g_ X_ w_ h_b h_ => valTo (b := .int .i64 h.depth) (by kernel_rfl) (gLoad (v := .int .i64 h.depth) (k := 2) 1 h_ rfl (by kernel_rfl) (.tmp 43) (by kernel_rfl) rfl (litEv (by kernel_rfl))))) ?_
   refine aoNext rfl (aoVal (fun g_ => [(3, .pointer (some ⟨g5, 0, none⟩))]) (fun g_ a_ h_k => ⟨(h_k.out 3 (by kernel_rfl)).trans (litGet (by kernel_rfl)), trivial⟩) (fun g_ X_ => (wn rfl)) (fun b_ g_ => by kernel_rfl) (fun b_ g_ X_ w_ h_b h_ => valTo (b := .pointer (some ⟨g5, 3, none⟩)) (by kernel_rfl) (litRun (by kernel_rfl)))) ?_
   refine aoNext rfl (aoVal (fun g_ => [(45, .pointer (some ⟨g5, 3, none⟩))]) (fun g_ a_ h_k => ⟨(h_k.inn 7 _ _ (by kernel_rfl) rfl rfl).trans (by kernel_rfl), trivial⟩) (fun g_ X_ => (wn rfl)) (fun b_ g_ => by kernel_rfl) (fun b_ g_ X_ w_ h_b h_ => valTo (b := .slice B h.rn d) (by kernel_rfl) (gLoad (v := .slice B h.rn d) (k := 3) 1 h_ rfl (by kernel_rfl) (.tmp 45) (by kernel_rfl) rfl (litEv (by kernel_rfl))))) ?_
   refine aoNext rfl (aoCallRow 4 (fun g_ => [(46, .slice B h.rn d)]) (fun g_ a_ h_k => ⟨(h_k.inn 8 _ _ (by kernel_rfl) rfl rfl).trans (by kernel_rfl), trivial⟩) 60 (fun g_ => [.slice B h.rn d]) [] [] (by kernel_rfl) (fun g_ X_ => (wn rfl)) rfl (fun g_ X_ => litEv (by kernel_rfl)) (fun g_ X_ => litArgs (by kernel_rfl)) (fun b_ g_ w_ h_b h_ => cloneD_any h.D h.rn B d _ ((Rd.below hB h_.bel).more h_.bel.size) (by omega)) (fun _ _ _ => ⟨_, rfl⟩) (fun b_ g_ γ_ h_b => Eq.trans (b := ((.arr g2 44 (tbs (.slice S l.length cS) nx)) :: (.arr g5 25 (hcs h A c B d)) :: (.arr g8 44 ([.slice none 0 0, .int .i64 0])) :: (bsel (b_ 4) (.row (.slice (rA (g_ 4)) h.counts.length (rC (g_ 4))) 3 1 h.counts.length (ics h.counts)) (.free)) :: (bsel true (.row (.slice (rA γ_) h.rn (rC γ_)) 37 16 h.rn (bcs h.D)) (.free)) :: (bsel (b_ 11) (.arr (g_ 11) 25 (bsel (b_ 12) [.int .i64 h.tick, .slice (rA (g_ 4)) h.counts.length (rC (g_ 4)), .int .i64 h.depth, .slice (rA γ_) h.rn (rC γ_)] [.int .i64 0, .slice none 0 0, .int .i64 0, .slice none 0 0])) .free) :: [])) (by kernel_rfl) (by simp only [bselF (h_b.post 12 (by kernel_rfl))] <;> kernel_rfl)) (fun _ => by kernel_rfl) (by kernel_rfl)) ?_
   refine aoNext rfl (aoVal (fun g_ => [(39, .int .i64 h.tick), (42, .slice (rA (g_ 4)) h.counts.length (rC (g_ 4))), (44, .int .i64 h.depth), (47, .slice (rA (g_ 9)) h.rn (rC (g_ 9)))]) (fun g_ a_ h_k => ⟨(h_k.inn 1 _ _ (by kernel_rfl) rfl rfl).trans (by kernel_rfl), (h_k.inn 4 _ _ (by kernel_rfl) rfl rfl).trans (by kernel_rfl), (h_k.inn 6 _ _ (by kernel_rfl) rfl rfl).trans (by kernel_rfl), (h_k.inn 9 _ _ (by kernel_rfl) rfl rfl).trans (by kernel_rfl), trivial⟩) (fun g_ X_ => (wn rfl)) (fun b_ g_ => by kernel_rfl) (fun b_ g_ X_ w_ h_b h_ => valTo (b := .agg ([.int .i64 h.tick, .slice (rA (g_ 4)) h.counts.length (rC (g_ 4)), .int .i64 h.depth, .slice (rA (g_ 9)) h.rn (rC (g_ 9))]).toArray) (by kernel_rfl) (litRun (by kernel_rfl)))) ?_
   refine aoNext rfl (aoNewAg (z := [.int .i64 0, .slice none 0 0, .int .i64 0, .slice none 0 0]) 5 Ty.ag_voxel_api_Header rfl rfl (fun _ _ _ => ⟨_, rfl⟩) (fun b_ g_ γ_ h_b => Eq.trans (by kernel_rfl) (congrArg (fun x_ => List.set _ 5 (Res.arr γ_ 25 x_)) (bselF (α := List Value) (h_b.post 12 (by kernel_rfl)) [.int .i64 h.tick, .slice (rA (g_ 4)) h.counts.length (rC (g_ 4)), .int .i64 h.depth, .slice (rA (g_ 9)) h.rn (rC (g_ 9))] [.int .i64 0, .slice none 0 0, .int .i64 0, .slice none 0 0]))) (fun _ => by kernel_rfl) (by kernel_rfl)) ?_
   refine aoNext rfl (aoStore (gb := fun g_ => (g_ 11)) (k := 0) (cur := fun g_ => [.int .i64 0, .slice none 0 0, .int .i64 0, .slice none 0 0]) (vs := fun g_ => [.int .i64 h.tick, .slice (rA (g_ 4)) h.counts.length (rC (g_ 4)), .int .i64 h.depth, .slice (rA (g_ 9)) h.rn (rC (g_ 9))]) 5 (fun g_ => [(8, .pointer (some ⟨(g_ 11), 0, none⟩)), (48, .agg ([.int .i64 h.tick, .slice (rA (g_ 4)) h.counts.length (rC (g_ 4)), .int .i64 h.depth, .slice (rA (g_ 9)) h.rn (rC (g_ 9))]).toArray)]) (fun g_ a_ h_k => ⟨(h_k.inn 11 _ _ (by kernel_rfl) rfl rfl).trans (by kernel_rfl), (h_k.inn 10 _ _ (by kernel_rfl) rfl rfl).trans (by kernel_rfl), trivial⟩) Ty.ag_voxel_api_Header (fun b_ g_ h_b => by show some (bsel (b_ 11) (Res.arr (g_ 11) 25 (bsel (b_ 12) [.int .i64 h.tick, .slice (rA (g_ 4)) h.counts.length (rC (g_ 4)), .int .i64 h.depth, .slice (rA (g_ 9)) h.rn (rC (g_ 9))] [.int .i64 0, .slice none 0 0, .int .i64 0, .slice none 0 0])) Res.free) = some (Res.arr (g_ 11) 25 ([.int .i64 0, .slice none 0 0, .int .i64 0, .slice none 0 0])); rw [bselT (h_b.pre 11 (by kernel_rfl)), bselF h_b.no]) (fun g_ X_ => (wn rfl)) rfl (fun g_ X_ => litEv (by kernel_rfl)) (fun g_ X_ => litEv (by kernel_rfl)) (fun _ => by kernel_rfl) (fun _ => by kernel_rfl) (fun _ => by kernel_rfl) (fun b_ g_ h_b => Eq.trans (b := List.set (((.arr g2 44 (tbs (.slice S l.length cS) nx)) :: (.arr g5 25 (hcs h A c B d)) :: (.arr g8 44 ([.slice none 0 0, .int .i64 0])) :: (bsel (b_ 4) (.row (.slice (rA (g_ 4)) h.counts.length (rC (g_ 4))) 3 1 h.counts.length (ics h.counts)) (.free)) :: (bsel (b_ 9) (.row (.slice (rA (g_ 9)) h.rn (rC (g_ 9))) 37 16 h.rn (bcs h.D)) (.free)) :: (bsel (b_ 11) (.arr (g_ 11) 25 (bsel (b_ 12) [.int .i64 h.tick, .slice (rA (g_ 4)) h.counts.length (rC (g_ 4)), .int .i64 h.depth, .slice (rA (g_ 9)) h.rn (rC (g_ 9))] [.int .i64 0, .slice none 0 0, .int .i64 0, .slice none 0 0])) .free) :: [])) 5 (bsel (b_ 11) (Res.arr (g_ 11) 25 ([.int .i64 h.tick, .slice (rA (g_ 4)) h.counts.length (rC (g_ 4)), .int .i64 h.depth, .slice (rA (g_ 9)) h.rn (rC (g_ 9))])) Res.free)) (by kernel_rfl) (congrArg (fun x_ => List.set _ 5 x_) (bselT (h_b.pre 11 (by kernel_rfl)) _ _))) rfl) ?_
   exact aoDone (by decide)
 intro g_ a_ w49 hF_ hm48
 obtain ⟨X50, rfl⟩ := frLit (⟨hF_.size, hF_.defers, ⟨(hF_.out 2 (by kernel_rfl)).trans (litGet (by kernel_rfl)), (hF_.out 4 (by kernel_rfl)).trans (litGet (by kernel_rfl)), (hF_.inn 11 _ _ rfl rfl).trans (by kernel_rfl), (hF_.inn 0 _ _ rfl rfl).trans (by kernel_rfl), (hF_.inn 1 _ _ rfl rfl).trans (by kernel_rfl), (hF_.inn 2 _ _ rfl rfl).trans (by kernel_rfl), (hF_.inn 3 _ _ rfl rfl).trans (by kernel_rfl), (hF_.inn 4 _ _ rfl rfl).trans (by kernel_rfl), (hF_.inn 5 _ _ rfl rfl).trans (by kernel_rfl), (hF_.inn 6 _ _ rfl rfl).trans (by kernel_rfl), (hF_.inn 7 _ _ rfl rfl).trans (by kernel_rfl), (hF_.inn 8 _ _ rfl rfl).trans (by kernel_rfl), (hF_.inn 9 _ _ rfl rfl).trans (by kernel_rfl), (hF_.inn 10 _ _ rfl rfl).trans (by kernel_rfl), trivial⟩⟩ : Fr _ 65 [(2, .pointer (some ⟨g2, 0, none⟩)), (4, .pointer (some ⟨g8, 0, none⟩)), (8, .pointer (some ⟨(g_ 11), 0, none⟩)), (38, .pointer (some ⟨g5, 0, none⟩)), (39, .int .i64 h.tick), (40, .pointer (some ⟨g5, 1, none⟩)), (41, .slice A h.counts.length c), (42, .slice (rA (g_ 4)) h.counts.length (rC (g_ 4))), (43, .pointer (some ⟨g5, 2, none⟩)), (44, .int .i64 h.depth), (45, .pointer (some ⟨g5, 3, none⟩)), (46, .slice B h.rn d), (47, .slice (rA (g_ 9)) h.rn (rC (g_ 9))), (48, .agg ([.int .i64 h.tick, .slice (rA (g_ 4)) h.counts.length (rC (g_ 4)), .int .i64 h.depth, .slice (rA (g_ 9)) h.rn (rC (g_ 9))]).toArray)])
 clear hF_
 have hm51 : Mem w w49 [.arr g2 44 (tbs (.slice S l.length cS) nx), .arr g5 25 (hcs h A c B d), .arr g8 44 ([.slice none 0 0, .int .i64 0]), .row (.slice (rA (g_ 4)) h.counts.length (rC (g_ 4))) 3 1 h.counts.length (ics h.counts), .row (.slice (rA (g_ 9)) h.rn (rC (g_ 9))) 37 16 h.rn (bcs h.D), .arr (g_ 11) 25 ([.int .i64 h.tick, .slice (rA (g_ 4)) h.counts.length (rC (g_ 4)), .int .i64 h.depth, .slice (rA (g_ 9)) h.rn (rC (g_ 9))])] := hm48
 clear hm48 hm44
 generalize rA (g_ 4) = A52 at hm51 ⊢
 generalize rC (g_ 4) = c53 at hm51 ⊢
 generalize rA (g_ 9) = A54 at hm51 ⊢
 generalize rC (g_ 9) = c55 at hm51 ⊢
 generalize g_ 11 = g56 at hm51 ⊢
 clear g_
 refine then_normal (hK47 _ _ ?_)
 refine wp_seq_k fun K57 hK57 => ?_
 refine aoStart (aoV [fun _ => .pointer (some ⟨g2, 0, none⟩), fun _ => .slice S l.length cS, fun γ_ => .slice (rA (γ_.getD 0 0)) l.length (rC (γ_.getD 0 0)), fun _ => .pointer (some ⟨g2, 1, none⟩), fun _ => .int .i64 nx, fun _ => .agg ([.int .i64 h.tick, .slice A52 h.counts.length c53, .int .i64 h.depth, .slice A54 h.rn c55]).toArray, fun _ => .agg ([.int .i64 nx, .int .i64 0, .int .i64 h.tick, .slice A52 h.counts.length c53, .int .i64 h.depth, .slice A54 h.rn c55]).toArray, fun γ_ => .slice (some ⟨(γ_.getD 0 0), 0, none⟩) 1 1, fun γ_ => .slice (rA (γ_.getD 0 0)) (l.length + 1) (rC (γ_.getD 0 0)), fun γ_ => .slice (rA (γ_.getD 0 0)) (l.length + 1) (rC (γ_.getD 0 0))]) (aoA [[], [], [2], [], [], [], [], [7], [8], [8]]) (fun b_ g_ => ((.arr g2 44 (tbs (.slice S l.length cS) nx)) :: (.arr g5 25 (hcs h A c B d)) :: (.arr g8 44 ([.slice none 0 0, .int .i64 0])) :: (.row (.slice A52 h.counts.length c53) 3 1 h.counts.length (ics h.counts)) :: (.row (.slice A54 h.rn c55) 37 16 h.rn (bcs h.D)) :: (.arr g56 25 ([.int .i64 h.tick, .slice A52 h.counts.length c53, .int .i64 h.depth, .slice A54 h.rn c55])) :: (bsel (b_ 8) (.row (.slice (rA (g_ 8)) (l.length + 1) (rC (g_ 8))) 78 6 (l.length + 1) ((lvs l) ++ ([.int .i64 nx, .int .i64 0, .int .i64 h.tick, .slice A52 h.counts.length c53, .int .i64 h.depth, .slice A54 h.rn c55] : List Value))) (bsel (b_ 2) (.row (.slice (rA (g_ 2)) l.length (rC (g_ 2))) 78 6 l.length (lvs l)) (.free))) :: (bsel (b_ 7) (.arr (g_ 7) 78 ([.int .i64 nx, .int .i64 0, .int .i64 h.tick, .slice A52 h.counts.length c53, .int .i64 h.depth, .slice A54 h.rn c55])) .free) :: [])) hm51 (by kernel_rfl) (by kernel_rfl) (fun w_ h_ => h_.pushFree.pushFree) (fun b_ g_ h_ => by show (fun (x2_ x7_ x8_ : Bool) => (((.arr g2 44 (tbs (.slice S l.length cS) nx)) :: (.arr g5 25 (hcs h A c B d)) :: (.arr g8 44 ([.slice none 0 0, .int .i64 0])) :: (.row (.slice A52 h.counts.length c53) 3 1 h.counts.length (ics h.counts)) :: (.row (.slice A54 h.rn c55) 37 16 h.rn (bcs h.D)) :: (.arr g56 25 ([.int .i64 h.tick, .slice A52 h.counts.length c53, .int .i64 h.depth, .slice A54 h.rn c55])) :: (bsel x8_ (.row (.slice (rA (g_ 8)) (l.length + 1) (rC (g_ 8))) 78 6 (l.length + 1) ((lvs l) ++ ([.int .i64 nx, .int .i64 0, .int .i64 h.tick, .slice A52 h.counts.length c53, .int .i64 h.depth, .slice A54 h.rn c55] : List Value))) (bsel x2_ (.row (.slice (rA (g_ 2)) l.length (rC (g_ 2))) 78 6 l.length (lvs l)) (.free))) :: (bsel x7_ (.arr (g_ 7) 78 ([.int .i64 nx, .int .i64 0, .int .i64 h.tick, .slice A52 h.counts.length c53, .int .i64 h.depth, .slice A54 h.rn c55])) .free) :: []) : List Res)) (b_ 2) (b_ 7) (b_ 8) = _; rw [h_ 2 (by decide), h_ 7 (by decide), h_ 8 (by decide)]) ?_ ?_
 · refine aoNext rfl (aoVal (fun g_ => [(2, .pointer (some ⟨g2, 0, none⟩))]) (fun g_ a_ h_k => ⟨(h_k.out 2 (by kernel_rfl)).trans (litGet (by kernel_rfl)), trivial⟩) (fun g_ X_ => (wn rfl)) (fun b_ g_ => by kernel_rfl) (fun b_ g_ X_ w_ h_b h_ => valTo (b := .pointer (some ⟨g2, 0, none⟩)) (by kernel_rfl) (litRun (by kernel_rfl)))) ?_
   refine aoNext rfl (aoVal (fun g_ => [(49, .pointer (some ⟨g2, 0, none⟩))]) (fun g_ a_ h_k => ⟨(h_k.inn 0 _ _ (by kernel_rfl) rfl rfl).trans (by kernel_rfl), trivial⟩) (fun g_ X_ => (wn rfl)) (fun b_ g_ => by kernel_rfl) (fun b_ g_ X_ w_ h_b h_ => valTo (b := .slice S l.length cS) (by kernel_rfl) (gLoad (v := .slice S l.length cS) (k := 0) 0 h_ rfl (by kernel_rfl) (.tmp 49) (by kernel_rfl) rfl (litEv (by kernel_rfl))))) ?_
   refine aoNext rfl (aoCallRow 6 (fun g_ => [(50, .slice S l.length cS)]) (fun g_ a_ h_k => ⟨(h_k.inn 1 _ _ (by kernel_rfl) rfl rfl).trans (by kernel_rfl), trivial⟩) 62 (fun g_ => [.slice S l.length cS]) [] [] (by kernel_rfl) (fun g_ X_ => (wn rfl)) rfl (fun g_ X_ => litEv (by kernel_rfl)) (fun g_ X_ => litArgs (by kernel_rfl)) (fun b_ g_ w_ h_b h_ => cloneV_any l l.length S cS _ ((Rd.below hS h_.bel).more h_.bel.size) (by omega)) (fun _ _ _ => ⟨_, rfl⟩) (fun b_ g_ γ_ h_b => Eq.trans (by kernel_rfl) (congrArg (fun x_ => List.set _ 6 x_) (bselF (α := Res) (h_b.post 8 (by kernel_rfl)) (.row (.slice (rA (g_ 8)) (l.length + 1) (rC (g_ 8))) 78 6 (l.length + 1) ((lvs l) ++ ([.int .i64 nx, .int .i64 0, .int .i64 h.tick, .slice A52 h.counts.length c53, .int .i64 h.depth, .slice A54 h.rn c55] : List Value))) (.row (.slice (rA γ_) l.length (rC γ_)) 78 6 l.length (lvs l))))) (fun _ => by kernel_rfl) (by kernel_rfl)) ?_
   refine aoNext rfl (aoVal (fun g_ => [(2, .pointer (some ⟨g2, 0, none⟩))]) (fun g_ a_ h_k => ⟨(h_k.out 2 (by kernel_rfl)).trans (litGet (by kernel_rfl)), trivial⟩) (fun g_ X_ => (wn rfl)) (fun b_ g_ => by kernel_rfl) (fun b_ g_ X_ w_ h_b h_ => valTo (b := .pointer (some ⟨g2, 1, none⟩)) (by kernel_rfl) (litRun (by kernel_rfl)))) ?_
   refine aoNext rfl (aoVal (fun g_ => [(52, .pointer (some ⟨g2, 1, none⟩))]) (fun g_ a_ h_k => ⟨(h_k.inn 3 _ _ (by kernel_rfl) rfl rfl).trans (by kernel_rfl), trivial⟩) (fun g_ X_ => (wn rfl)) (fun b_ g_ => by kernel_rfl) (fun b_ g_ X_ w_ h_b h_ => valTo (b := .int .i64 nx) (by kernel_rfl) (gLoad (v := .int .i64 nx) (k := 1) 0 h_ rfl (by kernel_rfl) (.tmp 52) (by kernel_rfl) rfl (litEv (by kernel_rfl))))) ?_
   refine aoNext rfl (aoVal (fun g_ => [(8, .pointer (some ⟨g56, 0, none⟩))]) (fun g_ a_ h_k => ⟨(h_k.out 8 (by kernel_rfl)).trans (litGet (by kernel_rfl)), trivial⟩) (fun g_ X_ => (wn rfl)) (fun b_ g_ => by kernel_rfl) (fun b_ g_ X_ w_ h_b h_ => valTo (b := .agg ([.int .i64 h.tick, .slice A52 h.counts.length c53, .int .i64 h.depth, .slice A54 h.rn c55]).toArray) (by kernel_rfl) (gLoadAg (vs := [.int .i64 h.tick, .slice A52 h.counts.length c53, .int .i64 h.depth, .slice A54 h.rn c55]) (k := 0) 5 h_ rfl (by kernel_rfl) (by kernel_rfl) (.tmp 8) Ty.ag_voxel_api_Header rfl (litEv (by kernel_rfl))))) ?_
   refine aoNext rfl (aoVal (fun g_ => [(53, .int .i64 nx), (54, .agg ([.int .i64 h.tick, .slice A52 h.counts.length c53, .int .i64 h.depth, .slice A54 h.rn c55]).toArray)]) (fun g_ a_ h_k => ⟨(h_k.inn 4 _ _ (by kernel_rfl) rfl rfl).trans (by kernel_rfl), (h_k.inn 5 _ _ (by kernel_rfl) rfl rfl).trans (by kernel_rfl), trivial⟩) (fun g_ X_ => (wn rfl)) (fun b_ g_ => by kernel_rfl) (fun b_ g_ X_ w_ h_b h_ => valTo (b := .agg ([.int .i64 nx, .int .i64 0, .int .i64 h.tick, .slice A52 h.counts.length c53, .int .i64 h.depth, .slice A54 h.rn c55]).toArray) (by kernel_rfl) (litRun (by kernel_rfl)))) ?_
   refine aoNext rfl (aoLit (cs := fun g_ => [.int .i64 nx, .int .i64 0, .int .i64 h.tick, .slice A52 h.counts.length c53, .int .i64 h.depth, .slice A54 h.rn c55]) (n := 1) 7 (fun g_ => [(55, .agg ([.int .i64 nx, .int .i64 0, .int .i64 h.tick, .slice A52 h.counts.length c53, .int .i64 h.depth, .slice A54 h.rn c55]).toArray)]) (fun g_ a_ h_k => ⟨(h_k.inn 6 _ _ (by kernel_rfl) rfl rfl).trans (by kernel_rfl), trivial⟩) Ty.sl_L_api_Version (fun g_ X_ => (wn rfl)) rfl (by decide) (by decide) (fun g_ X_ => by rw [lit_eval]; kernel_rfl) (fun _ _ _ => ⟨_, rfl⟩) (fun b_ g_ γ_ h_b => by kernel_rfl) (fun _ => by kernel_rfl) (by kernel_rfl)) ?_
   refine aoNext rfl (aoApp1 (v := fun g_ => .slice (rA (g_ 2)) l.length (rC (g_ 2))) (gb := fun g_ => (g_ 7)) (n := l.length) (xs := lvs l) (ys := ([.int .i64 nx, .int .i64 0, .int .i64 h.tick, .slice A52 h.counts.length c53, .int .i64 h.depth, .slice A54 h.rn c55] : List Value)) 6 7 (fun g_ => [(51, .slice (rA (g_ 2)) l.length (rC (g_ 2))), (56, .slice (some ⟨(g_ 7), 0, none⟩) 1 1)]) (fun g_ a_ h_k => ⟨(h_k.inn 2 _ _ (by kernel_rfl) rfl rfl).trans (by kernel_rfl), (h_k.inn 7 _ _ (by kernel_rfl) rfl rfl).trans (by kernel_rfl), trivial⟩) Ty.sl_L_api_Version (fun b_ g_ h_b => by show some ((bsel (b_ 8) (.row (.slice (rA (g_ 8)) (l.length + 1) (rC (g_ 8))) 78 6 (l.length + 1) ((lvs l) ++ ([.int .i64 nx, .int .i64 0, .int .i64 h.tick, .slice A52 h.counts.length c53, .int .i64 h.depth, .slice A54 h.rn c55] : List Value))) ((bsel (b_ 2) (.row (.slice (rA (g_ 2)) l.length (rC (g_ 2))) 78 6 l.length (lvs l)) (Res.free))))) = some (.row (.slice (rA (g_ 2)) l.length (rC (g_ 2))) 78 6 l.length (lvs l) : Res); rw [bselF h_b.no, bselT (h_b.pre 2 (by kernel_rfl))]) (fun b_ g_ h_b => by show some (bsel (b_ 7) (Res.arr (g_ 7) 78 ([.int .i64 nx, .int .i64 0, .int .i64 h.tick, .slice A52 h.counts.length c53, .int .i64 h.depth, .slice A54 h.rn c55] : List Value)) Res.free) = some (Res.arr (g_ 7) 78 ([.int .i64 nx, .int .i64 0, .int .i64 h.tick, .slice A52 h.counts.length c53, .int .i64 h.depth, .slice A54 h.rn c55] : List Value)); rw [bselT (h_b.pre 7 (by kernel_rfl))]) (fun g_ X_ => (wn rfl)) rfl (fun g_ X_ => litEv (by kernel_rfl)) (fun g_ X_ => litEv (by kernel_rfl)) (by kernel_rfl) (by kernel_rfl) (by omega) (by omega) (fun b_ g_ γ_ h_b => by kernel_rfl) (fun _ => by kernel_rfl) (by kernel_rfl)) ?_
   refine aoNext rfl (aoVal (fun g_ => [(57, .slice (rA (g_ 8)) (l.length + 1) (rC (g_ 8)))]) (fun g_ a_ h_k => ⟨(h_k.inn 8 _ _ (by kernel_rfl) rfl rfl).trans (by kernel_rfl), trivial⟩) (fun g_ X_ => (wn rfl)) (fun b_ g_ => by kernel_rfl) (fun b_ g_ X_ w_ h_b h_ => valTo (b := .slice (rA (g_ 8)) (l.length + 1) (rC (g_ 8))) (by kernel_rfl) (litRun (by kernel_rfl)))) ?_
   exact aoDone (by decide)
 intro g_ a_ w59 hF_ hm58
 obtain ⟨X60, rfl⟩ := frLit (⟨hF_.size, hF_.defers, ⟨(hF_.out 2 (by kernel_rfl)).trans (litGet (by kernel_rfl)), (hF_.out 4 (by kernel_rfl)).trans (litGet (by kernel_rfl)), (hF_.inn 9 _ _ rfl rfl).trans (by kernel_rfl), (hF_.inn 0 _ _ rfl rfl).trans (by kernel_rfl), (hF_.inn 1 _ _ rfl rfl).trans (by kernel_rfl), (hF_.inn 2 _ _ rfl rfl).trans (by kernel_rfl), (hF_.inn 3 _ _ rfl rfl).trans (by kernel_rfl), (hF_.inn 4 _ _ rfl rfl).trans (by kernel_rfl), (hF_.inn 5 _ _ rfl rfl).trans (by kernel_rfl), (hF_.inn 6 _ _ rfl rfl).trans (by kernel_rfl), (hF_.inn 7 _ _ rfl rfl).trans (by kernel_rfl), (hF_.inn 8 _ _ rfl rfl).trans (by kernel_rfl), trivial⟩⟩ : Fr _ 65 [(2, .pointer (some ⟨g2, 0, none⟩)), (4, .pointer (some ⟨g8, 0, none⟩)), (9, .slice (rA (g_ 8)) (l.length + 1) (rC (g_ 8))), (49, .pointer (some ⟨g2, 0, none⟩)), (50, .slice S l.length cS), (51, .slice (rA (g_ 2)) l.length (rC (g_ 2))), (52, .pointer (some ⟨g2, 1, none⟩)), (53, .int .i64 nx), (54, .agg ([.int .i64 h.tick, .slice A52 h.counts.length c53, .int .i64 h.depth, .slice A54 h.rn c55]).toArray), (55, .agg ([.int .i64 nx, .int .i64 0, .int .i64 h.tick, .slice A52 h.counts.length c53, .int .i64 h.depth, .slice A54 h.rn c55]).toArray), (56, .slice (some ⟨(g_ 7), 0, none⟩) 1 1), (57, .slice (rA (g_ 8)) (l.length + 1) (rC (g_ 8)))])
 clear hF_
 have hm61 : Mem w w59 [.arr g2 44 (tbs (.slice S l.length cS) nx), .arr g5 25 (hcs h A c B d), .arr g8 44 ([.slice none 0 0, .int .i64 0]), .row (.slice A52 h.counts.length c53) 3 1 h.counts.length (ics h.counts), .row (.slice A54 h.rn c55) 37 16 h.rn (bcs h.D), .arr g56 25 ([.int .i64 h.tick, .slice A52 h.counts.length c53, .int .i64 h.depth, .slice A54 h.rn c55]), .row (.slice (rA (g_ 8)) (l.length + 1) (rC (g_ 8))) 78 6 (l.length + 1) ((lvs l) ++ ([.int .i64 nx, .int .i64 0, .int .i64 h.tick, .slice A52 h.counts.length c53, .int .i64 h.depth, .slice A54 h.rn c55] : List Value)), .arr (g_ 7) 78 ([.int .i64 nx, .int .i64 0, .int .i64 h.tick, .slice A52 h.counts.length c53, .int .i64 h.depth, .slice A54 h.rn c55])] := hm58
 clear hm58 hm51
 generalize rA (g_ 2) = A62 at hm61 ⊢
 generalize rC (g_ 2) = c63 at hm61 ⊢
 generalize rA (g_ 8) = A64 at hm61 ⊢
 generalize rC (g_ 8) = c65 at hm61 ⊢
 generalize g_ 7 = g66 at hm61 ⊢
 clear g_
 refine then_normal (hK57 _ _ ?_)
 refine wp_seq_k fun K67 hK67 => ?_
 refine aoStart (aoV [fun _ => .slice A64 (l.length + 1) c65, fun _ => .pointer (some ⟨g2, 1, none⟩), fun _ => .int .i64 nx, fun _ => .int .i64 (nx + 1), fun _ => .agg ([.slice A64 (l.length + 1) c65, .int .i64 (nx + 1)]).toArray, fun _ => .pointer (some ⟨g2, 1, none⟩), fun _ => .int .i64 nx, fun _ => undef, fun _ => .int .i64 nx, fun _ => .int .i64 0]) (aoA [[], [], [], [], [], [], [], [], [], []]) (fun b_ g_ => ((.arr g2 44 (tbs (.slice S l.length cS) nx)) :: (.arr g5 25 (hcs h A c B d)) :: (.arr g8 44 (bsel (b_ 7) [.slice A64 (l.length + 1) c65, .int .i64 (nx + 1)] [.slice none 0 0, .int .i64 0])) :: (.row (.slice A52 h.counts.length c53) 3 1 h.counts.length (ics h.counts)) :: (.row (.slice A54 h.rn c55) 37 16 h.rn (bcs h.D)) :: (.arr g56 25 ([.int .i64 h.tick, .slice A52 h.counts.length c53, .int .i64 h.depth, .slice A54 h.rn c55])) :: (.row (.slice A64 (l.length + 1) c65) 78 6 (l.length + 1) ((lvs l) ++ ([.int .i64 nx, .int .i64 0, .int .i64 h.tick, .slice A52 h.counts.length c53, .int .i64 h.depth, .slice A54 h.rn c55] : List Value))) :: (.arr g66 78 ([.int .i64 nx, .int .i64 0, .int .i64 h.tick, .slice A52 h.counts.length c53, .int .i64 h.depth, .slice A54 h.rn c55])) :: [])) hm61 (by kernel_rfl) (by kernel_rfl) (fun w_ h_ => h_) (fun b_ g_ h_ => by show (fun (x7_ : Bool) => (((.arr g2 44 (tbs (.slice S l.length cS) nx)) :: (.arr g5 25 (hcs h A c B d)) :: (.arr g8 44 (bsel x7_ [.slice A64 (l.length + 1) c65, .int .i64 (nx + 1)] [.slice none 0 0, .int .i64 0])) :: (.row (.slice A52 h.counts.length c53) 3 1 h.counts.length (ics h.counts)) :: (.row (.slice A54 h.rn c55) 37 16 h.rn (bcs h.D)) :: (.arr g56 25 ([.int .i64 h.tick, .slice A52 h.counts.length c53, .int .i64 h.depth, .slice A54 h.rn c55])) :: (.row (.slice A64 (l.length + 1) c65) 78 6 (l.length + 1) ((lvs l) ++ ([.int .i64 nx, .int .i64 0, .int .i64 h.tick, .slice A52 h.counts.length c53, .int .i64 h.depth, .slice A54 h.rn c55] : List Value))) :: (.arr g66 78 ([.int .i64 nx, .int .i64 0, .int .i64 h.tick, .slice A52 h.counts.length c53, .int .i64 h.depth, .slice A54 h.rn c55])) :: []) : List Res)) (b_ 7) = _; rw [h_ 7 (by decide)]) ?_ ?_
 · refine aoNext rfl (aoVal (fun g_ => [(9, .slice A64 (l.length + 1) c65)]) (fun g_ a_ h_k => ⟨(h_k.out 9 (by kernel_rfl)).trans (litGet (by kernel_rfl)), trivial⟩) (fun g_ X_ => (wn rfl)) (fun b_ g_ => by kernel_rfl) (fun b_ g_ X_ w_ h_b h_ => valTo (b := .slice A64 (l.length + 1) c65) (by kernel_rfl) (litRun (by kernel_rfl)))) ?_
   refine aoNext rfl (aoVal (fun g_ => [(2, .pointer (some ⟨g2, 0, none⟩))]) (fun g_ a_ h_k => ⟨(h_k.out 2 (by kernel_rfl)).trans (litGet (by kernel_rfl)), trivial⟩) (fun g_ X_ => (wn rfl)) (fun b_ g_ => by kernel_rfl) (fun b_ g_ X_ w_ h_b h_ => valTo (b := .pointer (some ⟨g2, 1, none⟩)) (by kernel_rfl) (litRun (by kernel_rfl)))) ?_
   refine aoNext rfl (aoVal (fun g_ => [(59, .pointer (some ⟨g2, 1, none⟩))]) (fun g_ a_ h_k => ⟨(h_k.inn 1 _ _ (by kernel_rfl) rfl rfl).trans (by kernel_rfl), trivial⟩) (fun g_ X_ => (wn rfl)) (fun b_ g_ => by kernel_rfl) (fun b_ g_ X_ w_ h_b h_ => valTo (b := .int .i64 nx) (by kernel_rfl) ((fun (h_ : Mem _ w_ ((.arr g2 44 (tbs (.slice S l.length cS) nx)) :: (.arr g5 25 (hcs h A c B d)) :: (.arr g8 44 ([.slice none 0 0, .int .i64 0])) :: (.row (.slice A52 h.counts.length c53) 3 1 h.counts.length (ics h.counts)) :: (.row (.slice A54 h.rn c55) 37 16 h.rn (bcs h.D)) :: (.arr g56 25 ([.int .i64 h.tick, .slice A52 h.counts.length c53, .int .i64 h.depth, .slice A54 h.rn c55])) :: (.row (.slice A64 (l.length + 1) c65) 78 6 (l.length + 1) ((lvs l) ++ ([.int .i64 nx, .int .i64 0, .int .i64 h.tick, .slice A52 h.counts.length c53, .int .i64 h.depth, .slice A54 h.rn c55] : List Value))) :: (.arr g66 78 ([.int .i64 nx, .int .i64 0, .int .i64 h.tick, .slice A52 h.counts.length c53, .int .i64 h.depth, .slice A54 h.rn c55])) :: [])) => gLoad (v := .int .i64 nx) (k := 1) 0 h_ rfl (by kernel_rfl) (.tmp 59) (by kernel_rfl) rfl (litEv (by kernel_rfl))) (by have h2_ : Mem w w_ ((.arr g2 44 (tbs (.slice S l.length cS) nx)) :: (.arr g5 25 (hcs h A c B d)) :: (.arr g8 44 (bsel (b_ 7) [.slice A64 (l.length + 1) c65, .int .i64 (nx + 1)] [.slice none 0 0, .int .i64 0])) :: (.row (.slice A52 h.counts.length c53) 3 1 h.counts.length (ics h.counts)) :: (.row (.slice A54 h.rn c55) 37 16 h.rn (bcs h.D)) :: (.arr g56 25 ([.int .i64 h.tick, .slice A52 h.counts.length c53, .int .i64 h.depth, .slice A54 h.rn c55])) :: (.row (.slice A64 (l.length + 1) c65) 78 6 (l.length + 1) ((lvs l) ++ ([.int .i64 nx, .int .i64 0, .int .i64 h.tick, .slice A52 h.counts.length c53, .int .i64 h.depth, .slice A54 h.rn c55] : List Value))) :: (.arr g66 78 ([.int .i64 nx, .int .i64 0, .int .i64 h.tick, .slice A52 h.counts.length c53, .int .i64 h.depth, .slice A54 h.rn c55])) :: []) := h_; rw [bselF (h_b.post 7 (by kernel_rfl))] at h2_; exact h2_)))) ?_
   refine aoNext rfl (aoVal (fun g_ => [(60, .int .i64 nx)]) (fun g_ a_ h_k => ⟨(h_k.inn 2 _ _ (by kernel_rfl) rfl rfl).trans (by kernel_rfl), trivial⟩) (fun g_ X_ => (wn rfl)) (fun b_ g_ => by kernel_rfl) (fun b_ g_ X_ w_ h_b h_ => valTo (b := .int .i64 (nx + 1)) (by kernel_rfl) (addRun (A := nx) (B := 1) (C := nx + 1) (.tmp 60) (.const (.int .i64 1)) rfl (litEv (by kernel_rfl)) (litEv (by kernel_rfl)) rfl (by omega)))) ?_
   refine aoNext rfl (aoVal (fun g_ => [(58, .slice A64 (l.length + 1) c65), (61, .int .i64 (nx + 1))]) (fun g_ a_ h_k => ⟨(h_k.inn 0 _ _ (by kernel_rfl) rfl rfl).trans (by kernel_rfl), (h_k.inn 3 _ _ (by kernel_rfl) rfl rfl).trans (by kernel_rfl), trivial⟩) (fun g_ X_ => (wn rfl)) (fun b_ g_ => by kernel_rfl) (fun b_ g_ X_ w_ h_b h_ => valTo (b := .agg ([.slice A64 (l.length + 1) c65, .int .i64 (nx + 1)]).toArray) (by kernel_rfl) (litRun (by kernel_rfl)))) ?_
   refine aoNext rfl (aoVal (fun g_ => [(2, .pointer (some ⟨g2, 0, none⟩))]) (fun g_ a_ h_k => ⟨(h_k.out 2 (by kernel_rfl)).trans (litGet (by kernel_rfl)), trivial⟩) (fun g_ X_ => (wn rfl)) (fun b_ g_ => by kernel_rfl) (fun b_ g_ X_ w_ h_b h_ => valTo (b := .pointer (some ⟨g2, 1, none⟩)) (by kernel_rfl) (litRun (by kernel_rfl)))) ?_
   refine aoNext rfl (aoVal (fun g_ => [(63, .pointer (some ⟨g2, 1, none⟩))]) (fun g_ a_ h_k => ⟨(h_k.inn 5 _ _ (by kernel_rfl) rfl rfl).trans (by kernel_rfl), trivial⟩) (fun g_ X_ => (wn rfl)) (fun b_ g_ => by kernel_rfl) (fun b_ g_ X_ w_ h_b h_ => valTo (b := .int .i64 nx) (by kernel_rfl) (gLoad (v := .int .i64 nx) (k := 1) 0 h_ rfl (by kernel_rfl) (.tmp 63) (by kernel_rfl) rfl (litEv (by kernel_rfl))))) ?_
   refine aoNext rfl (aoStore (gb := fun g_ => g8) (k := 0) (cur := fun g_ => [.slice none 0 0, .int .i64 0]) (vs := fun g_ => [.slice A64 (l.length + 1) c65, .int .i64 (nx + 1)]) 2 (fun g_ => [(4, .pointer (some ⟨g8, 0, none⟩)), (62, .agg ([.slice A64 (l.length + 1) c65, .int .i64 (nx + 1)]).toArray)]) (fun g_ a_ h_k => ⟨(h_k.out 4 (by kernel_rfl)).trans (litGet (by kernel_rfl)), (h_k.inn 4 _ _ (by kernel_rfl) rfl rfl).trans (by kernel_rfl), trivial⟩) Ty.ag_voxel_api_Versions (fun b_ g_ h_b => by show some (Res.arr g8 44 (bsel (b_ 7) [.slice A64 (l.length + 1) c65, .int .i64 (nx + 1)] [.slice none 0 0, .int .i64 0])) = some (Res.arr g8 44 ([.slice none 0 0, .int .i64 0])); rw [bselF h_b.no]) (fun g_ X_ => (wn rfl)) rfl (fun g_ X_ => litEv (by kernel_rfl)) (fun g_ X_ => litEv (by kernel_rfl)) (fun _ => by kernel_rfl) (fun _ => by kernel_rfl) (fun _ => by kernel_rfl) (fun b_ g_ h_b => by kernel_rfl) rfl) ?_
   refine aoNext rfl (aoVal (fun g_ => [(64, .int .i64 nx)]) (fun g_ a_ h_k => ⟨(h_k.inn 6 _ _ (by kernel_rfl) rfl rfl).trans (by kernel_rfl), trivial⟩) (fun g_ X_ => (wn rfl)) (fun b_ g_ => by kernel_rfl) (fun b_ g_ X_ w_ h_b h_ => valTo (b := .int .i64 nx) (by kernel_rfl) (litRun (by kernel_rfl)))) ?_
   refine aoNext rfl (aoVal (fun g_ => []) (fun _ _ _ => trivial) (fun g_ X_ => (wn rfl)) (fun b_ g_ => by kernel_rfl) (fun b_ g_ X_ w_ h_b h_ => valTo (b := .int .i64 0) (by kernel_rfl) (litRun (by kernel_rfl)))) ?_
   exact aoDone (by decide)
 intro g_ a_ w69 hF_ hm68
 obtain ⟨X70, rfl⟩ := frLit (⟨hF_.size, hF_.defers, ⟨(hF_.out 4 (by kernel_rfl)).trans (litGet (by kernel_rfl)), (hF_.inn 8 _ _ rfl rfl).trans (by kernel_rfl), (hF_.inn 9 _ _ rfl rfl).trans (by kernel_rfl), (hF_.inn 0 _ _ rfl rfl).trans (by kernel_rfl), (hF_.inn 1 _ _ rfl rfl).trans (by kernel_rfl), (hF_.inn 2 _ _ rfl rfl).trans (by kernel_rfl), (hF_.inn 3 _ _ rfl rfl).trans (by kernel_rfl), (hF_.inn 4 _ _ rfl rfl).trans (by kernel_rfl), (hF_.inn 5 _ _ rfl rfl).trans (by kernel_rfl), (hF_.inn 6 _ _ rfl rfl).trans (by kernel_rfl), trivial⟩⟩ : Fr _ 65 [(4, .pointer (some ⟨g8, 0, none⟩)), (5, .int .i64 nx), (6, .int .i64 0), (58, .slice A64 (l.length + 1) c65), (59, .pointer (some ⟨g2, 1, none⟩)), (60, .int .i64 nx), (61, .int .i64 (nx + 1)), (62, .agg ([.slice A64 (l.length + 1) c65, .int .i64 (nx + 1)]).toArray), (63, .pointer (some ⟨g2, 1, none⟩)), (64, .int .i64 nx)])
 clear hF_
 have hm71 : Mem w w69 [.arr g2 44 (tbs (.slice S l.length cS) nx), .arr g5 25 (hcs h A c B d), .arr g8 44 ([.slice A64 (l.length + 1) c65, .int .i64 (nx + 1)]), .row (.slice A52 h.counts.length c53) 3 1 h.counts.length (ics h.counts), .row (.slice A54 h.rn c55) 37 16 h.rn (bcs h.D), .arr g56 25 ([.int .i64 h.tick, .slice A52 h.counts.length c53, .int .i64 h.depth, .slice A54 h.rn c55]), .row (.slice A64 (l.length + 1) c65) 78 6 (l.length + 1) ((lvs l) ++ ([.int .i64 nx, .int .i64 0, .int .i64 h.tick, .slice A52 h.counts.length c53, .int .i64 h.depth, .slice A54 h.rn c55] : List Value)), .arr g66 78 ([.int .i64 nx, .int .i64 0, .int .i64 h.tick, .slice A52 h.counts.length c53, .int .i64 h.depth, .slice A54 h.rn c55])] := hm68
 clear hm68 hm61
 refine then_normal (hK67 _ _ ?_)
 refine wp_ret ?_
 refine bodyPost_ret (v := .tuple #[.agg ([.slice A64 (l.length + 1) c65, .int .i64 (nx + 1)]).toArray, .int .i64 nx, .int .i64 0]) (gRes3 rfl (gResAg (cs := [.slice A64 (l.length + 1) c65, .int .i64 (nx + 1)]) 2 hm71 rfl Ty.ag_voxel_api_Versions rfl (litGet (by kernel_rfl))) (gResTmp (t := 5) (v := .int .i64 nx) (litGet (by kernel_rfl))) (gResTmp (t := 6) (v := .int .i64 0) (litGet (by kernel_rfl)))) rfl ?_
 have hfin_ := addV_yes (l := l) (nx := nx) hck_ hcov_ (by omega) A52 c53 A54 c55
 have hx_ : lvs ((l ++ [⟨nx, 0, h, A52, c53, A54, c55⟩]) : List Lv) = (lvs l) ++ ([.int .i64 nx, .int .i64 0, .int .i64 h.tick, .slice A52 h.counts.length c53, .int .i64 h.depth, .slice A54 h.rn c55] : List Value) := lvs_app _ _
 have hlen_ : ((l ++ [⟨nx, 0, h, A52, c53, A54, c55⟩]) : List Lv).length = l.length + 1 := by rw [List.length_append]; show l.length + 1 = _; omega
 refine ⟨((l ++ [⟨nx, 0, h, A52, c53, A54, c55⟩]) : List Lv), A64, c65, by first | (rw [hfin_, hlen_]; done) | (rw [hfin_, hlen_]; rfl), by rw [hfin_], ⟨?_, AllAt.push (hall.below hm71.bel) ⟨(hm71.rdRow 3 rfl), (hm71.rdRow 4 rfl)⟩⟩, NewT.push (own_new (hm71.row 6 rfl)) (own_new (hm71.row 3 rfl)) (own_new (hm71.row 4 rfl)), hm71.bel⟩
 rw [hlen_, hx_]
 exact hm71.rdRow 6 rfl
end Go.Proofs.YtgjgjimgomhbmaaDoor
