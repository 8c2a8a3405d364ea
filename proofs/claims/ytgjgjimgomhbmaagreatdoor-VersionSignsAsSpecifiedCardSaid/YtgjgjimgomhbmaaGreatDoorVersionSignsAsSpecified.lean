/-
  VersionSignsAsSpecified: the law answers true. No statement is proved here.
-/
import Derived.Test.YtgjgjimgomhbmaaGreatDoorMI
import Derived.Test.YtgjgjimgomhbmaaGreatDoorMG
set_option maxRecDepth 100000
set_option maxHeartbeats 4000000
set_option linter.unusedVariables false
set_option linter.unusedSimpArgs false
namespace Go.Proofs.YtgjgjimgomhbmaaGreatDoor
open Go.RowKit

theorem vfV_small (p : List UInt8) (hh : Int) (t : List UInt8) : (vfV p hh t).1.counts.length ≤ 20 ∧ (vfV p hh t).1.rn ≤ 20 := by
  have h0 : hd0.counts.length ≤ 20 ∧ hd0.rn ≤ 20 := by decide
  unfold vfV
  split
  · exact h0
  · split
    · exact h0
    · split
      · exact h0
      · exact decH_small _
theorem walk_VersionSignsAsSpecified (x : Lv) (seed : List UInt8) (hh ii : Int) (p t : List UInt8) (w : World) (ht : Tabs w) (htR : TabsR w) (hx : x.At w) (hix : x.h.I64) (hseed : seed.length ≤ 140737488351232) (hhb : -9223372036854775808 ≤ hh ∧ hh ≤ 9223372036854775807) (hib : -9223372036854775808 ≤ ii ∧ ii ≤ 9223372036854775807) (hp : p.length = 16) (htl : t.length ≤ 140737488351232) : Calls Tryz.prog 3 #[.agg (hcs x.h x.A x.c x.B x.d).toArray, .string ⟨seed.toArray⟩, .int .i64 hh, .int .i64 ii, .agg (bcs p).toArray, .string ⟨t.toArray⟩] w (RetV w (.bool true)) := by
 have hm0 := Mem.ofLv (l := [x]) (fun v_ hv_ => by rw [List.mem_singleton] at hv_; subst hv_; exact hx)
 go_enter Tryz.func3, Tryz.ntmps3
 refine litStart 104 [(0, .agg (hcs x.h x.A x.c x.B x.d).toArray), (1, .string ⟨seed.toArray⟩), (2, .int .i64 hh), (3, .int .i64 ii), (4, .agg (bcs p).toArray), (5, .string ⟨t.toArray⟩)] kr_ (fun X0 => ?_)
 refine wp_seq_k fun K1 hK1 => ?_
 refine plStart ?_
 refine plBox hm0 (cs := hcs x.h x.A x.c x.B x.d) (i := 0) rfl (wn rfl) rfl le_ ?_
 intro g2 w4 hm3
 clear hm0
 try simp only [lc1_, lc2_, lc3_, lc4_] at hm3
 replace hm3 := Mem.insAt (M := (lvRes [x])) 0 hm3
 simp only [List.insertIdx_succ_cons, List.insertIdx_zero] at hm3
 refine qP rfl ?_
 refine plBox hm3 (cs := bcs p) (i := 1) rfl (wn rfl) rfl le_ ?_
 intro g5 w7 hm6
 clear hm3
 try simp only [lc1_, lc2_, lc3_, lc4_] at hm6
 replace hm6 := Mem.insAt (M := ((.arr g2 25 (hcs x.h x.A x.c x.B x.d)) :: lvRes [x])) 1 hm6
 simp only [List.insertIdx_succ_cons, List.insertIdx_zero] at hm6
 refine qP rfl ?_
 refine lk_ (.bool false) ?_
 refine plD ?_
 refine tn_ hK1 ?_
 refine wp_seq_k fun K8 hK8 => ?_
 refine plStart ?_
 refine plCall (i := 0) 5 [] [] [] rfl kr_ (wn rfl) rfl le_ (litArgs kr_) (sanity_any _ (ht.below hm6.bel ht.size) (htR.below hm6.bel htR.size)) ?_
 rintro e w9 ⟨rfl, hbz⟩
 have hm10 := hm6.below hbz
 clear hbz hm6
 refine ⟨_, rfl, ?_⟩
 refine qP rfl ?_
 refine lk_ (.bool true) ?_
 refine plD ?_
 refine tn_ hK8 ?_
 refine wp_seq_k fun K11 hK11 => ?_
 refine wp_seq_k fun K12 hK12 => ?_
 refine plStart ?_
 refine litVal (v := .agg (hcs x.h x.A x.c x.B x.d).toArray) rfl (wn rfl) (gLoadAg (vs := hcs x.h x.A x.c x.B x.d) (k := 0) 0 hm10 rfl kr_ kr_ (.tmp 6) Ty.ag_voxel_api_Header rfl le_) rfl (by decide) ?_
 refine plCall (i := 1) 6 [.agg (hcs x.h x.A x.c x.B x.d).toArray] [] [] rfl kr_ (wn rfl) rfl le_ (litArgs kr_) (few1_any x.h x.A x.c x.B x.d _) ?_
 rintro e w13 ⟨rfl, hbz⟩
 have hm14 := hm10.below hbz
 clear hbz hm10
 refine ⟨_, rfl, ?_⟩
 refine qP rfl ?_
 rcases bool_or (decide (x.h.counts.length ≤ 20 ∧ x.h.rn ≤ 20)) with h15 | h15
 · rw [h15]
   refine lk_ (.bool true) ?_
   refine lk_ (.bool true) ?_
   refine ps_ (i := 4) ?_
   refine ps_ (i := 5) ?_
   refine ps_ (i := 6) ?_
   refine lk_ (.bool true) ?_
   refine lk_ (.bool true) ?_
   refine ps_ (i := 9) ?_
   refine ps_ (i := 10) ?_
   refine ps_ (i := 11) ?_
   refine plSkip (i := 12) rfl (wgU rfl rfl rfl (by decide) kr_) ?_
   refine qP rfl ?_
   refine plSkip (i := 13) rfl (wgU rfl rfl rfl (by decide) kr_) ?_
   refine qP rfl ?_
   refine ps_ (i := 14) ?_
   refine lk_ (.bool true) ?_
   refine lk_ (.bool true) ?_
   refine ps_ (i := 17) ?_
   refine ps_ (i := 18) ?_
   refine ps_ (i := 19) ?_
   refine lk_ (.bool true) ?_
   refine plD ?_
   refine tn_ hK12 ?_
   refine wpPrune [(1, .string ⟨seed.toArray⟩), (2, .int .i64 hh), (3, .int .i64 ii), (5, .string ⟨t.toArray⟩), (6, .pointer (some ⟨g2, 0, none⟩)), (10, .pointer (some ⟨g5, 0, none⟩)), (12, .bool false), (13, .bool true), (44, .bool true)] ⟨lg_, ⟨lg_, ⟨lg_, ⟨lg_, ⟨lg_, ⟨lg_, ⟨lg_, ⟨lg_, ⟨lg_, trivial⟩⟩⟩⟩⟩⟩⟩⟩⟩ (fun X16 => ?_)
   refine wp_cond_true le_ ?_
   refine wp_seq_k fun K17 hK17 => ?_
   refine plStart ?_
   refine lk_ (.bool true) ?_
   refine lk_ (.bool true) ?_
   refine plD ?_
   refine tn_ hK17 ?_
   refine wp_ret ?_
   refine then_ret ?_
   refine bodyPost_ret (v := .bool true) (gRes1 rfl (gResTmp (t := 12) (v := .bool true) (lg_))) rfl ?_
   exact ⟨by rfl, hm14.bel⟩
 rw [h15]
 refine lk_ (.bool false) ?_
 refine lk_ (.bool false) ?_
 refine litVal (v := .string ⟨seed.toArray⟩) rfl (wgY rfl rfl rfl (by decide) kr_) (litRun kr_) rfl (by decide) ?_
 refine litVal (v := .int .i64 (seed.length : Int)) rfl (wgY rfl rfl rfl (by decide) kr_) (lenStrRun (.tmp 28) seed Ty.und_string rfl le_) rfl (by decide) ?_
 by_cases h18 : 100 < (seed.length : Int)
 · refine litVal (v := .bool true) rfl (wgY rfl rfl rfl (by decide) kr_) (boolTo (decide_eq_true h18) (gtrRun (A := (seed.length : Int)) (B := 100) (.tmp 29) (.const (.int .i64 100)) rfl le_ le_)) rfl (by decide) ?_
   refine lk_ (.bool true) ?_
   refine lk_ (.bool true) ?_
   refine ps_ (i := 9) ?_
   refine ps_ (i := 10) ?_
   refine ps_ (i := 11) ?_
   refine plSkip (i := 12) rfl (wgU rfl rfl rfl (by decide) kr_) ?_
   refine qP rfl ?_
   refine plSkip (i := 13) rfl (wgU rfl rfl rfl (by decide) kr_) ?_
   refine qP rfl ?_
   refine ps_ (i := 14) ?_
   refine lk_ (.bool true) ?_
   refine lk_ (.bool true) ?_
   refine ps_ (i := 17) ?_
   refine ps_ (i := 18) ?_
   refine ps_ (i := 19) ?_
   refine lk_ (.bool true) ?_
   refine plD ?_
   refine tn_ hK12 ?_
   refine wpPrune [(1, .string ⟨seed.toArray⟩), (2, .int .i64 hh), (3, .int .i64 ii), (5, .string ⟨t.toArray⟩), (6, .pointer (some ⟨g2, 0, none⟩)), (10, .pointer (some ⟨g5, 0, none⟩)), (12, .bool false), (13, .bool true), (44, .bool true)] ⟨lg_, ⟨lg_, ⟨lg_, ⟨lg_, ⟨lg_, ⟨lg_, ⟨lg_, ⟨lg_, ⟨lg_, trivial⟩⟩⟩⟩⟩⟩⟩⟩⟩ (fun X19 => ?_)
   refine wp_cond_true le_ ?_
   refine wp_seq_k fun K20 hK20 => ?_
   refine plStart ?_
   refine lk_ (.bool true) ?_
   refine lk_ (.bool true) ?_
   refine plD ?_
   refine tn_ hK20 ?_
   refine wp_ret ?_
   refine then_ret ?_
   refine bodyPost_ret (v := .bool true) (gRes1 rfl (gResTmp (t := 12) (v := .bool true) (lg_))) rfl ?_
   exact ⟨by rfl, hm14.bel⟩
 refine litVal (v := .bool false) rfl (wgY rfl rfl rfl (by decide) kr_) (boolTo (decide_eq_false h18) (gtrRun (A := (seed.length : Int)) (B := 100) (.tmp 29) (.const (.int .i64 100)) rfl le_ le_)) rfl (by decide) ?_
 refine lk_ (.bool false) ?_
 refine lk_ (.bool false) ?_
 refine litVal (v := .int .i64 hh) rfl (wgY rfl rfl rfl (by decide) kr_) (litRun kr_) rfl (by decide) ?_
 by_cases h21 : 1 < hh
 · refine litVal (v := .bool true) rfl (wgY rfl rfl rfl (by decide) kr_) (boolTo (decide_eq_true h21) (gtrRun (A := hh) (B := 1) (.tmp 33) (.const (.int .i64 1)) rfl le_ le_)) rfl (by decide) ?_
   refine litVal (v := .bool true) rfl (wgY rfl rfl rfl (by decide) kr_) (litRun kr_) rfl (by decide) ?_
   refine litVal (v := .int .i64 hh) rfl (wgY rfl rfl rfl (by decide) kr_) (litRun kr_) rfl (by decide) ?_
   by_cases h22 : hh ≤ 6
   · refine litVal (v := .bool true) rfl (wgY rfl rfl rfl (by decide) kr_) (boolTo (decide_eq_true h22) (leqRun (A := hh) (B := 6) (.tmp 36) (.const (.int .i64 6)) rfl le_ le_)) rfl (by decide) ?_
     refine litVal (v := .bool true) rfl (wgY rfl rfl rfl (by decide) kr_) (litRun kr_) rfl (by decide) ?_
     refine lk_ (.bool true) ?_
     refine lk_ (.bool true) ?_
     refine ps_ (i := 17) ?_
     refine ps_ (i := 18) ?_
     refine ps_ (i := 19) ?_
     refine lk_ (.bool true) ?_
     refine plD ?_
     refine tn_ hK12 ?_
     refine wpPrune [(1, .string ⟨seed.toArray⟩), (2, .int .i64 hh), (3, .int .i64 ii), (5, .string ⟨t.toArray⟩), (6, .pointer (some ⟨g2, 0, none⟩)), (10, .pointer (some ⟨g5, 0, none⟩)), (12, .bool false), (13, .bool true), (44, .bool true)] ⟨lg_, ⟨lg_, ⟨lg_, ⟨lg_, ⟨lg_, ⟨lg_, ⟨lg_, ⟨lg_, ⟨lg_, trivial⟩⟩⟩⟩⟩⟩⟩⟩⟩ (fun X23 => ?_)
     refine wp_cond_true le_ ?_
     refine wp_seq_k fun K24 hK24 => ?_
     refine plStart ?_
     refine lk_ (.bool true) ?_
     refine lk_ (.bool true) ?_
     refine plD ?_
     refine tn_ hK24 ?_
     refine wp_ret ?_
     refine then_ret ?_
     refine bodyPost_ret (v := .bool true) (gRes1 rfl (gResTmp (t := 12) (v := .bool true) (lg_))) rfl ?_
     exact ⟨by rfl, hm14.bel⟩
   refine litVal (v := .bool false) rfl (wgY rfl rfl rfl (by decide) kr_) (boolTo (decide_eq_false h22) (leqRun (A := hh) (B := 6) (.tmp 36) (.const (.int .i64 6)) rfl le_ le_)) rfl (by decide) ?_
   refine litVal (v := .bool false) rfl (wgY rfl rfl rfl (by decide) kr_) (litRun kr_) rfl (by decide) ?_
   refine lk_ (.bool false) ?_
   refine lk_ (.bool false) ?_
   refine litVal (v := .string ⟨t.toArray⟩) rfl (wgY rfl rfl rfl (by decide) kr_) (litRun kr_) rfl (by decide) ?_
   refine litVal (v := .int .i64 (t.length : Int)) rfl (wgY rfl rfl rfl (by decide) kr_) (lenStrRun (.tmp 41) t Ty.und_string rfl le_) rfl (by decide) ?_
   by_cases h25 : 1200 < (t.length : Int)
   · refine litVal (v := .bool true) rfl (wgY rfl rfl rfl (by decide) kr_) (boolTo (decide_eq_true h25) (gtrRun (A := (t.length : Int)) (B := 1200) (.tmp 42) (.const (.int .i64 1200)) rfl le_ le_)) rfl (by decide) ?_
     refine lk_ (.bool true) ?_
     refine plD ?_
     refine tn_ hK12 ?_
     refine wpPrune [(1, .string ⟨seed.toArray⟩), (2, .int .i64 hh), (3, .int .i64 ii), (5, .string ⟨t.toArray⟩), (6, .pointer (some ⟨g2, 0, none⟩)), (10, .pointer (some ⟨g5, 0, none⟩)), (12, .bool false), (13, .bool true), (44, .bool true)] ⟨lg_, ⟨lg_, ⟨lg_, ⟨lg_, ⟨lg_, ⟨lg_, ⟨lg_, ⟨lg_, ⟨lg_, trivial⟩⟩⟩⟩⟩⟩⟩⟩⟩ (fun X26 => ?_)
     refine wp_cond_true le_ ?_
     refine wp_seq_k fun K27 hK27 => ?_
     refine plStart ?_
     refine lk_ (.bool true) ?_
     refine lk_ (.bool true) ?_
     refine plD ?_
     refine tn_ hK27 ?_
     refine wp_ret ?_
     refine then_ret ?_
     refine bodyPost_ret (v := .bool true) (gRes1 rfl (gResTmp (t := 12) (v := .bool true) (lg_))) rfl ?_
     exact ⟨by rfl, hm14.bel⟩
   refine litVal (v := .bool false) rfl (wgY rfl rfl rfl (by decide) kr_) (boolTo (decide_eq_false h25) (gtrRun (A := (t.length : Int)) (B := 1200) (.tmp 42) (.const (.int .i64 1200)) rfl le_ le_)) rfl (by decide) ?_
   refine lk_ (.bool false) ?_
   refine plD ?_
   refine tn_ hK12 ?_
   refine wpPrune [(1, .string ⟨seed.toArray⟩), (2, .int .i64 hh), (3, .int .i64 ii), (5, .string ⟨t.toArray⟩), (6, .pointer (some ⟨g2, 0, none⟩)), (10, .pointer (some ⟨g5, 0, none⟩)), (12, .bool false), (13, .bool true), (44, .bool false)] ⟨lg_, ⟨lg_, ⟨lg_, ⟨lg_, ⟨lg_, ⟨lg_, ⟨lg_, ⟨lg_, ⟨lg_, trivial⟩⟩⟩⟩⟩⟩⟩⟩⟩ (fun X28 => ?_)
   refine wp_cond_false le_ ?_
   refine wp_skip ?_
   refine tn_ hK11 ?_
   refine wp_seq_k fun K29 hK29 => ?_
   refine plStart ?_
   refine lk_ (.string ⟨seed.toArray⟩) ?_
   refine lk_ (.int .i64 hh) ?_
   refine lk_ (.int .i64 ii) ?_
   refine litVal (v := .agg (hcs x.h x.A x.c x.B x.d).toArray) rfl (wn rfl) (gLoadAg (vs := hcs x.h x.A x.c x.B x.d) (k := 0) 0 hm14 rfl kr_ kr_ (.tmp 6) Ty.ag_voxel_api_Header rfl le_) rfl (by decide) ?_
   refine plCall (i := 4) 7 [.string ⟨seed.toArray⟩, .int .i64 hh, .int .i64 ii, .agg (hcs x.h x.A x.c x.B x.d).toArray] [] [] rfl kr_ (wn rfl) rfl le_ (litArgs kr_) (vsign_any seed hh ii x _ (ht.below hm14.bel ht.size) ((Mem.lv ((Mem.tailN (T := lvRes [x]) 2 hm14 rfl).sub (L' := lvRes [x]) (rf_))) x List.mem_cons_self) (fit_of (of_decide_eq_true h15) hix.tick hix.depth hix.counts) (by omega)) ?_
   rintro e w30 ⟨rfl, hbz⟩
   have hm31 := hm14.below hbz
   clear hbz hm14
   refine ⟨_, rfl, ?_⟩
   refine qP rfl ?_
   refine lk_ (.tuple #[.string ⟨((sgV seed hh ii x.h).1).toArray⟩, .int .i64 ((sgV seed hh ii x.h).2)]) ?_
   refine lk_ (.string ⟨((sgV seed hh ii x.h).1).toArray⟩) ?_
   refine lk_ (.int .i64 ((sgV seed hh ii x.h).2)) ?_
   refine lk_ (.string ⟨((sgV seed hh ii x.h).1).toArray⟩) ?_
   refine lk_ (.int .i64 ((sgV seed hh ii x.h).2)) ?_
   refine plD ?_
   refine tn_ hK29 ?_
   refine wp_seq_k fun K32 hK32 => ?_
   refine plStart ?_
   refine lk_ (.string ⟨seed.toArray⟩) ?_
   refine lk_ (.int .i64 hh) ?_
   refine lk_ (.int .i64 ii) ?_
   refine litVal (v := .agg (hcs x.h x.A x.c x.B x.d).toArray) rfl (wn rfl) (gLoadAg (vs := hcs x.h x.A x.c x.B x.d) (k := 0) 0 hm31 rfl kr_ kr_ (.tmp 6) Ty.ag_voxel_api_Header rfl le_) rfl (by decide) ?_
   refine plCall (i := 4) 8 [.string ⟨seed.toArray⟩, .int .i64 hh, .int .i64 ii, .agg (hcs x.h x.A x.c x.B x.d).toArray] [] [] rfl kr_ (wn rfl) rfl le_ (litArgs kr_) (rvsign_any seed hh ii x _ (htR.below hm31.bel htR.size) ((Mem.lv ((Mem.tailN (T := lvRes [x]) 2 hm31 rfl).sub (L' := lvRes [x]) (rf_))) x List.mem_cons_self) (fit_of (of_decide_eq_true h15) hix.tick hix.depth hix.counts) (by omega)) ?_
   rintro e w33 ⟨rfl, hbz⟩
   have hm34 := hm31.below hbz
   clear hbz hm31
   refine ⟨_, rfl, ?_⟩
   refine qP rfl ?_
   refine lk_ (.tuple #[.string ⟨((sgV seed hh ii x.h).1).toArray⟩, .int .i64 ((sgV seed hh ii x.h).2)]) ?_
   refine lk_ (.string ⟨((sgV seed hh ii x.h).1).toArray⟩) ?_
   refine lk_ (.int .i64 ((sgV seed hh ii x.h).2)) ?_
   refine lk_ (.string ⟨((sgV seed hh ii x.h).1).toArray⟩) ?_
   refine lk_ (.int .i64 ((sgV seed hh ii x.h).2)) ?_
   refine plD ?_
   refine tn_ hK32 ?_
   refine wpPrune [(2, .int .i64 hh), (5, .string ⟨t.toArray⟩), (10, .pointer (some ⟨g5, 0, none⟩)), (12, .bool false), (13, .bool true), (14, .string ⟨((sgV seed hh ii x.h).1).toArray⟩), (15, .int .i64 ((sgV seed hh ii x.h).2)), (16, .string ⟨((sgV seed hh ii x.h).1).toArray⟩), (17, .int .i64 ((sgV seed hh ii x.h).2))] ⟨lg_, ⟨lg_, ⟨lg_, ⟨lg_, ⟨lg_, ⟨lg_, ⟨lg_, ⟨lg_, ⟨lg_, trivial⟩⟩⟩⟩⟩⟩⟩⟩⟩ (fun X35 => ?_)
   refine wp_seq_k fun K36 hK36 => ?_
   refine plStart ?_
   refine litVal (v := .agg (bcs p).toArray) rfl (wn rfl) (gLoadAg (vs := bcs p) (k := 0) 1 hm34 rfl (by rw [List.drop_zero]; exact List.take_of_length_le (Nat.le_of_eq (by rw [bcs_length]; exact hp))) (by rw [bcs_length]; exact hp) (.tmp 10) Ty.ag_voxel_api_Digest rfl le_) rfl (by decide) ?_
   refine lk_ (.int .i64 hh) ?_
   refine lk_ (.string ⟨t.toArray⟩) ?_
   refine plCall (i := 3) 9 [.agg (bcs p).toArray, .int .i64 hh, .string ⟨t.toArray⟩] [] [] rfl kr_ (wn rfl) rfl le_ (litArgs kr_) (vverify_any p hh t _ (ht.below hm34.bel ht.size) hp (by omega)) ?_
   rintro e w37 ⟨v39, hv39_, rfl, hat_, hA_, hB_, hbz⟩
   have hm38 := Mem.newLv (lx := []) (M := lvRes [x]) [.arr g2 25 (hcs x.h x.A x.c x.B x.d), .arr g5 27 (bcs p)] hm34 hbz hat_ (Or.inr ⟨hA_, hB_⟩) hdNone (fun _ h_ => lvRes_mut h_)
   simp only [List.cons_append, List.nil_append] at hm38
   clear hm34
   clear hat_ hA_ hB_ hbz
   refine ⟨_, rfl, ?_⟩
   refine qP rfl ?_
   refine lk_ (.tuple #[.agg (hcs v39.h v39.A v39.c v39.B v39.d).toArray, .int .i64 ((vfV p hh t).2.1), .int .i64 ((vfV p hh t).2.2)]) ?_
   refine lk_ (.agg (hcs v39.h v39.A v39.c v39.B v39.d).toArray) ?_
   refine lk_ (.int .i64 ((vfV p hh t).2.1)) ?_
   refine lk_ (.int .i64 ((vfV p hh t).2.2)) ?_
   refine plAlloc (z := [.int .i64 0, .slice none 0 0, .int .i64 0, .slice none 0 0]) Ty.ag_voxel_api_Header hm38 (i := 8) rfl (wn rfl) rfl ?_
   intro g40 w42 hm41
   clear hm38
   try simp only [lc1_, lc2_, lc3_, lc4_] at hm41
   replace hm41 := Mem.insAt (M := ((.arr g2 25 (hcs x.h x.A x.c x.B x.d)) :: (.arr g5 27 (bcs p)) :: (lvRes [v39] ++ lvRes [x]))) 2 hm41
   simp only [List.insertIdx_succ_cons, List.insertIdx_zero] at hm41
   refine qP rfl ?_
   refine plStore 2 Ty.ag_voxel_api_Header hm41 rfl (i := 9) (cs := hcs v39.h v39.A v39.c v39.B v39.d) rfl (wn rfl) rfl le_ le_ rfl rfl kr_ ?_
   intro w44 hm43
   clear hm41
   try simp only [lc1_, lc2_, lc3_, lc4_] at hm43
   refine qNone rfl ?_
   refine lk_ (.int .i64 ((vfV p hh t).2.1)) ?_
   refine lk_ (.int .i64 ((vfV p hh t).2.2)) ?_
   refine plD ?_
   refine tn_ hK36 ?_
   refine wp_seq_k fun K45 hK45 => ?_
   refine plStart ?_
   refine litVal (v := .agg (bcs p).toArray) rfl (wn rfl) (gLoadAg (vs := bcs p) (k := 0) 1 hm43 rfl (by rw [List.drop_zero]; exact List.take_of_length_le (Nat.le_of_eq (by rw [bcs_length]; exact hp))) (by rw [bcs_length]; exact hp) (.tmp 10) Ty.ag_voxel_api_Digest rfl le_) rfl (by decide) ?_
   refine lk_ (.int .i64 hh) ?_
   refine lk_ (.string ⟨t.toArray⟩) ?_
   refine plCall (i := 3) 10 [.agg (bcs p).toArray, .int .i64 hh, .string ⟨t.toArray⟩] [] [] rfl kr_ (wn rfl) rfl le_ (litArgs kr_) (rvverify_any p hh t _ (htR.below hm43.bel htR.size) hp (by omega)) ?_
   rintro e w46 ⟨v48, hv48_, rfl, hat_, hA_, hB_, hbz⟩
   have hm47 := Mem.newLv (lx := []) (M := (lvRes [v39] ++ lvRes [x])) [.arr g2 25 (hcs x.h x.A x.c x.B x.d), .arr g5 27 (bcs p), .arr g40 25 (hcs v39.h v39.A v39.c v39.B v39.d)] hm43 hbz hat_ (Or.inr ⟨hA_, hB_⟩) hdNone (mutApp (fun _ h_ => lvRes_mut h_) (fun _ h_ => lvRes_mut h_))
   simp only [List.cons_append, List.nil_append] at hm47
   clear hm43
   clear hat_ hA_ hB_ hbz
   refine ⟨_, rfl, ?_⟩
   refine qP rfl ?_
   refine plAlloc (z := [.int .i64 0, .slice none 0 0, .int .i64 0, .slice none 0 0, .int .i64 0, .int .i64 0]) Ty.ag_voxel_voxelref18_Verified hm47 (i := 4) rfl (wn rfl) rfl ?_
   intro g49 w51 hm50
   clear hm47
   try simp only [lc1_, lc2_, lc3_, lc4_] at hm50
   replace hm50 := Mem.insAt (M := ((.arr g2 25 (hcs x.h x.A x.c x.B x.d)) :: (.arr g5 27 (bcs p)) :: (.arr g40 25 (hcs v39.h v39.A v39.c v39.B v39.d)) :: (lvRes [v48] ++ (lvRes [v39] ++ lvRes [x])))) 3 hm50
   simp only [List.insertIdx_succ_cons, List.insertIdx_zero] at hm50
   refine qP rfl ?_
   refine plStore 3 Ty.ag_voxel_voxelref18_Verified hm50 rfl (i := 5) (cs := hcs v48.h v48.A v48.c v48.B v48.d ++ ([.int .i64 ((vfV p hh t).2.1), .int .i64 ((vfV p hh t).2.2)] : List Value)) rfl (wn rfl) rfl le_ le_ rfl rfl kr_ ?_
   intro w53 hm52
   clear hm50
   try simp only [lc1_, lc2_, lc3_, lc4_] at hm52
   refine qNone rfl ?_
   refine plD ?_
   refine tn_ hK45 ?_
   refine wpPrune [(12, .bool false), (13, .bool true), (14, .string ⟨((sgV seed hh ii x.h).1).toArray⟩), (15, .int .i64 ((sgV seed hh ii x.h).2)), (16, .string ⟨((sgV seed hh ii x.h).1).toArray⟩), (17, .int .i64 ((sgV seed hh ii x.h).2)), (18, .pointer (some ⟨g40, 0, none⟩)), (19, .int .i64 ((vfV p hh t).2.1)), (20, .int .i64 ((vfV p hh t).2.2)), (21, .pointer (some ⟨g49, 0, none⟩))] ⟨lg_, ⟨lg_, ⟨lg_, ⟨lg_, ⟨lg_, ⟨lg_, ⟨lg_, ⟨lg_, ⟨lg_, ⟨lg_, trivial⟩⟩⟩⟩⟩⟩⟩⟩⟩⟩ (fun X54 => ?_)
   refine wp_seq_k fun K55 hK55 => ?_
   refine plStart ?_
   refine litVal (v := .agg (hcs v39.h v39.A v39.c v39.B v39.d).toArray) rfl (wn rfl) (gLoadAg (vs := hcs v39.h v39.A v39.c v39.B v39.d) (k := 0) 2 hm52 rfl kr_ kr_ (.tmp 18) Ty.ag_voxel_api_Header rfl le_) rfl (by decide) ?_
   refine lk_ (.pointer (some ⟨g49, 0, none⟩)) ?_
   refine litVal (v := .agg ([.int .i64 v48.h.tick, .slice v48.A v48.h.counts.length v48.c, .int .i64 v48.h.depth, .slice v48.B v48.h.rn v48.d]).toArray) rfl (wn rfl) (gLoadAg (vs := [.int .i64 v48.h.tick, .slice v48.A v48.h.counts.length v48.c, .int .i64 v48.h.depth, .slice v48.B v48.h.rn v48.d]) (k := 0) 3 hm52 rfl kr_ kr_ (.tmp 75) Ty.ag_voxel_api_Header rfl le_) rfl (by decide) ?_
   refine plCall (i := 3) 11 [.agg (hcs v39.h v39.A v39.c v39.B v39.d).toArray, .agg ([.int .i64 v48.h.tick, .slice v48.A v48.h.counts.length v48.c, .int .i64 v48.h.depth, .slice v48.B v48.h.rn v48.d]).toArray] [] [] rfl kr_ (wn rfl) rfl le_ (litArgs kr_) (by exact rsame_any v39.h v39.A v39.c v39.B v39.d v48.h v48.A v48.c v48.B v48.d _ ((Mem.lv ((Mem.tailN (T := (lvRes [v48] ++ (lvRes [v39] ++ lvRes [x]))) 4 hm52 rfl).sub (L' := lvRes [v39]) (up_ (lf_)))) v39 List.mem_cons_self).a ((Mem.lv ((Mem.tailN (T := (lvRes [v48] ++ (lvRes [v39] ++ lvRes [x]))) 4 hm52 rfl).sub (L' := lvRes [v39]) (up_ (lf_)))) v39 List.mem_cons_self).b ((Mem.lv ((Mem.tailN (T := (lvRes [v48] ++ (lvRes [v39] ++ lvRes [x]))) 4 hm52 rfl).sub (L' := lvRes [v48]) (lf_))) v48 List.mem_cons_self).a ((Mem.lv ((Mem.tailN (T := (lvRes [v48] ++ (lvRes [v39] ++ lvRes [x]))) 4 hm52 rfl).sub (L' := lvRes [v48]) (lf_))) v48 List.mem_cons_self).b (by have q_ := vfV_small p hh t; rw [← hv39_] at q_; omega) (by have q_ := vfV_small p hh t; rw [← hv39_] at q_; omega)) ?_
   rintro e w56 ⟨rfl, hbz⟩
   have hm57 := hm52.below hbz
   clear hbz hm52
   rw [(decide_eq_true (hv39_.trans hv48_.symm))]
   refine ⟨_, rfl, ?_⟩
   refine qP rfl ?_
   refine lk_ (.bool true) ?_
   refine plD ?_
   refine tn_ hK55 ?_
   refine wp_seq_k fun K58 hK58 => ?_
   refine plStart ?_
   refine lk_ (.bool true) ?_
   refine lk_ (.bool true) ?_
   refine litVal (v := .string ⟨((sgV seed hh ii x.h).1).toArray⟩) rfl (wgY rfl rfl rfl (by decide) kr_) (litRun kr_) rfl (by decide) ?_
   refine litVal (v := .string ⟨((sgV seed hh ii x.h).1).toArray⟩) rfl (wgY rfl rfl rfl (by decide) kr_) (litRun kr_) rfl (by decide) ?_
   refine litVal (v := .bool true) rfl (wgY rfl rfl rfl (by decide) kr_) (eqStrRun (.tmp 80) (.tmp 81) ((sgV seed hh ii x.h).1) ((sgV seed hh ii x.h).1) true (by simp) rfl le_ le_) rfl (by decide) ?_
   refine lk_ (.bool true) ?_
   refine lk_ (.bool true) ?_
   refine litVal (v := .int .i64 ((sgV seed hh ii x.h).2)) rfl (wgY rfl rfl rfl (by decide) kr_) (litRun kr_) rfl (by decide) ?_
   refine litVal (v := .int .i64 ((sgV seed hh ii x.h).2)) rfl (wgY rfl rfl rfl (by decide) kr_) (litRun kr_) rfl (by decide) ?_
   refine litVal (v := .bool true) rfl (wgY rfl rfl rfl (by decide) kr_) (boolTo (by simp) (eqlRun (A := ((sgV seed hh ii x.h).2)) (B := ((sgV seed hh ii x.h).2)) (.tmp 85) (.tmp 86) rfl le_ le_)) rfl (by decide) ?_
   refine lk_ (.bool true) ?_
   refine lk_ (.bool true) ?_
   refine litVal (v := .bool true) rfl (wgY rfl rfl rfl (by decide) kr_) (litRun kr_) rfl (by decide) ?_
   refine lk_ (.bool true) ?_
   refine lk_ (.bool true) ?_
   refine litVal (v := .int .i64 ((vfV p hh t).2.1)) rfl (wgY rfl rfl rfl (by decide) kr_) (litRun kr_) rfl (by decide) ?_
   refine litVal (v := .pointer (some ⟨g49, 4, none⟩)) rfl (wgY rfl rfl rfl (by decide) kr_) (litRun kr_) rfl (by decide) ?_
   refine litVal (v := .int .i64 ((vfV p hh t).2.1)) rfl (wgY rfl rfl rfl (by decide) kr_) (gLoad (v := .int .i64 ((vfV p hh t).2.1)) (k := 4) 3 hm57 rfl kr_ (.tmp 94) kr_ rfl le_) rfl (by decide) ?_
   refine litVal (v := .bool true) rfl (wgY rfl rfl rfl (by decide) kr_) (boolTo (by simp) (eqlRun (A := ((vfV p hh t).2.1)) (B := ((vfV p hh t).2.1)) (.tmp 93) (.tmp 95) rfl le_ le_)) rfl (by decide) ?_
   refine lk_ (.bool true) ?_
   refine lk_ (.bool true) ?_
   refine litVal (v := .int .i64 ((vfV p hh t).2.2)) rfl (wgY rfl rfl rfl (by decide) kr_) (litRun kr_) rfl (by decide) ?_
   refine litVal (v := .pointer (some ⟨g49, 5, none⟩)) rfl (wgY rfl rfl rfl (by decide) kr_) (litRun kr_) rfl (by decide) ?_
   refine litVal (v := .int .i64 ((vfV p hh t).2.2)) rfl (wgY rfl rfl rfl (by decide) kr_) (gLoad (v := .int .i64 ((vfV p hh t).2.2)) (k := 5) 3 hm57 rfl kr_ (.tmp 100) kr_ rfl le_) rfl (by decide) ?_
   refine litVal (v := .bool true) rfl (wgY rfl rfl rfl (by decide) kr_) (boolTo (by simp) (eqlRun (A := ((vfV p hh t).2.2)) (B := ((vfV p hh t).2.2)) (.tmp 99) (.tmp 101) rfl le_ le_)) rfl (by decide) ?_
   refine lk_ (.bool true) ?_
   refine lk_ (.bool true) ?_
   refine plD ?_
   refine tn_ hK58 ?_
   refine wpPrune [(12, .bool true)] ⟨lg_, trivial⟩ (fun X59 => ?_)
   refine wp_ret ?_
   refine bodyPost_ret (v := .bool true) (gRes1 rfl (gResTmp (t := 12) (v := .bool true) (lg_))) rfl ?_
   exact ⟨by rfl, hm57.bel⟩
 refine litVal (v := .bool false) rfl (wgY rfl rfl rfl (by decide) kr_) (boolTo (decide_eq_false h21) (gtrRun (A := hh) (B := 1) (.tmp 33) (.const (.int .i64 1)) rfl le_ le_)) rfl (by decide) ?_
 refine litVal (v := .bool false) rfl (wgY rfl rfl rfl (by decide) kr_) (litRun kr_) rfl (by decide) ?_
 refine ps_ (i := 12) ?_
 refine ps_ (i := 13) ?_
 refine litVal (v := .bool false) rfl (wgY rfl rfl rfl (by decide) kr_) (litRun kr_) rfl (by decide) ?_
 refine lk_ (.bool false) ?_
 refine lk_ (.bool false) ?_
 refine litVal (v := .string ⟨t.toArray⟩) rfl (wgY rfl rfl rfl (by decide) kr_) (litRun kr_) rfl (by decide) ?_
 refine litVal (v := .int .i64 (t.length : Int)) rfl (wgY rfl rfl rfl (by decide) kr_) (lenStrRun (.tmp 41) t Ty.und_string rfl le_) rfl (by decide) ?_
 by_cases h60 : 1200 < (t.length : Int)
 · refine litVal (v := .bool true) rfl (wgY rfl rfl rfl (by decide) kr_) (boolTo (decide_eq_true h60) (gtrRun (A := (t.length : Int)) (B := 1200) (.tmp 42) (.const (.int .i64 1200)) rfl le_ le_)) rfl (by decide) ?_
   refine lk_ (.bool true) ?_
   refine plD ?_
   refine tn_ hK12 ?_
   refine wpPrune [(1, .string ⟨seed.toArray⟩), (2, .int .i64 hh), (3, .int .i64 ii), (5, .string ⟨t.toArray⟩), (6, .pointer (some ⟨g2, 0, none⟩)), (10, .pointer (some ⟨g5, 0, none⟩)), (12, .bool false), (13, .bool true), (44, .bool true)] ⟨lg_, ⟨lg_, ⟨lg_, ⟨lg_, ⟨lg_, ⟨lg_, ⟨lg_, ⟨lg_, ⟨lg_, trivial⟩⟩⟩⟩⟩⟩⟩⟩⟩ (fun X61 => ?_)
   refine wp_cond_true le_ ?_
   refine wp_seq_k fun K62 hK62 => ?_
   refine plStart ?_
   refine lk_ (.bool true) ?_
   refine lk_ (.bool true) ?_
   refine plD ?_
   refine tn_ hK62 ?_
   refine wp_ret ?_
   refine then_ret ?_
   refine bodyPost_ret (v := .bool true) (gRes1 rfl (gResTmp (t := 12) (v := .bool true) (lg_))) rfl ?_
   exact ⟨by rfl, hm14.bel⟩
 refine litVal (v := .bool false) rfl (wgY rfl rfl rfl (by decide) kr_) (boolTo (decide_eq_false h60) (gtrRun (A := (t.length : Int)) (B := 1200) (.tmp 42) (.const (.int .i64 1200)) rfl le_ le_)) rfl (by decide) ?_
 refine lk_ (.bool false) ?_
 refine plD ?_
 refine tn_ hK12 ?_
 refine wpPrune [(1, .string ⟨seed.toArray⟩), (2, .int .i64 hh), (3, .int .i64 ii), (5, .string ⟨t.toArray⟩), (6, .pointer (some ⟨g2, 0, none⟩)), (10, .pointer (some ⟨g5, 0, none⟩)), (12, .bool false), (13, .bool true), (44, .bool false)] ⟨lg_, ⟨lg_, ⟨lg_, ⟨lg_, ⟨lg_, ⟨lg_, ⟨lg_, ⟨lg_, ⟨lg_, trivial⟩⟩⟩⟩⟩⟩⟩⟩⟩ (fun X63 => ?_)
 refine wp_cond_false le_ ?_
 refine wp_skip ?_
 refine tn_ hK11 ?_
 refine wp_seq_k fun K64 hK64 => ?_
 refine plStart ?_
 refine lk_ (.string ⟨seed.toArray⟩) ?_
 refine lk_ (.int .i64 hh) ?_
 refine lk_ (.int .i64 ii) ?_
 refine litVal (v := .agg (hcs x.h x.A x.c x.B x.d).toArray) rfl (wn rfl) (gLoadAg (vs := hcs x.h x.A x.c x.B x.d) (k := 0) 0 hm14 rfl kr_ kr_ (.tmp 6) Ty.ag_voxel_api_Header rfl le_) rfl (by decide) ?_
 refine plCall (i := 4) 7 [.string ⟨seed.toArray⟩, .int .i64 hh, .int .i64 ii, .agg (hcs x.h x.A x.c x.B x.d).toArray] [] [] rfl kr_ (wn rfl) rfl le_ (litArgs kr_) (vsign_any seed hh ii x _ (ht.below hm14.bel ht.size) ((Mem.lv ((Mem.tailN (T := lvRes [x]) 2 hm14 rfl).sub (L' := lvRes [x]) (rf_))) x List.mem_cons_self) (fit_of (of_decide_eq_true h15) hix.tick hix.depth hix.counts) (by omega)) ?_
 rintro e w65 ⟨rfl, hbz⟩
 have hm66 := hm14.below hbz
 clear hbz hm14
 refine ⟨_, rfl, ?_⟩
 refine qP rfl ?_
 refine lk_ (.tuple #[.string ⟨((sgV seed hh ii x.h).1).toArray⟩, .int .i64 ((sgV seed hh ii x.h).2)]) ?_
 refine lk_ (.string ⟨((sgV seed hh ii x.h).1).toArray⟩) ?_
 refine lk_ (.int .i64 ((sgV seed hh ii x.h).2)) ?_
 refine lk_ (.string ⟨((sgV seed hh ii x.h).1).toArray⟩) ?_
 refine lk_ (.int .i64 ((sgV seed hh ii x.h).2)) ?_
 refine plD ?_
 refine tn_ hK64 ?_
 refine wp_seq_k fun K67 hK67 => ?_
 refine plStart ?_
 refine lk_ (.string ⟨seed.toArray⟩) ?_
 refine lk_ (.int .i64 hh) ?_
 refine lk_ (.int .i64 ii) ?_
 refine litVal (v := .agg (hcs x.h x.A x.c x.B x.d).toArray) rfl (wn rfl) (gLoadAg (vs := hcs x.h x.A x.c x.B x.d) (k := 0) 0 hm66 rfl kr_ kr_ (.tmp 6) Ty.ag_voxel_api_Header rfl le_) rfl (by decide) ?_
 refine plCall (i := 4) 8 [.string ⟨seed.toArray⟩, .int .i64 hh, .int .i64 ii, .agg (hcs x.h x.A x.c x.B x.d).toArray] [] [] rfl kr_ (wn rfl) rfl le_ (litArgs kr_) (rvsign_any seed hh ii x _ (htR.below hm66.bel htR.size) ((Mem.lv ((Mem.tailN (T := lvRes [x]) 2 hm66 rfl).sub (L' := lvRes [x]) (rf_))) x List.mem_cons_self) (fit_of (of_decide_eq_true h15) hix.tick hix.depth hix.counts) (by omega)) ?_
 rintro e w68 ⟨rfl, hbz⟩
 have hm69 := hm66.below hbz
 clear hbz hm66
 refine ⟨_, rfl, ?_⟩
 refine qP rfl ?_
 refine lk_ (.tuple #[.string ⟨((sgV seed hh ii x.h).1).toArray⟩, .int .i64 ((sgV seed hh ii x.h).2)]) ?_
 refine lk_ (.string ⟨((sgV seed hh ii x.h).1).toArray⟩) ?_
 refine lk_ (.int .i64 ((sgV seed hh ii x.h).2)) ?_
 refine lk_ (.string ⟨((sgV seed hh ii x.h).1).toArray⟩) ?_
 refine lk_ (.int .i64 ((sgV seed hh ii x.h).2)) ?_
 refine plD ?_
 refine tn_ hK67 ?_
 refine wpPrune [(2, .int .i64 hh), (5, .string ⟨t.toArray⟩), (10, .pointer (some ⟨g5, 0, none⟩)), (12, .bool false), (13, .bool true), (14, .string ⟨((sgV seed hh ii x.h).1).toArray⟩), (15, .int .i64 ((sgV seed hh ii x.h).2)), (16, .string ⟨((sgV seed hh ii x.h).1).toArray⟩), (17, .int .i64 ((sgV seed hh ii x.h).2))] ⟨lg_, ⟨lg_, ⟨lg_, ⟨lg_, ⟨lg_, ⟨lg_, ⟨lg_, ⟨lg_, ⟨lg_, trivial⟩⟩⟩⟩⟩⟩⟩⟩⟩ (fun X70 => ?_)
 refine wp_seq_k fun K71 hK71 => ?_
 refine plStart ?_
 refine litVal (v := .agg (bcs p).toArray) rfl (wn rfl) (gLoadAg (vs := bcs p) (k := 0) 1 hm69 rfl (by rw [List.drop_zero]; exact List.take_of_length_le (Nat.le_of_eq (by rw [bcs_length]; exact hp))) (by rw [bcs_length]; exact hp) (.tmp 10) Ty.ag_voxel_api_Digest rfl le_) rfl (by decide) ?_
 refine lk_ (.int .i64 hh) ?_
 refine lk_ (.string ⟨t.toArray⟩) ?_
 refine plCall (i := 3) 9 [.agg (bcs p).toArray, .int .i64 hh, .string ⟨t.toArray⟩] [] [] rfl kr_ (wn rfl) rfl le_ (litArgs kr_) (vverify_any p hh t _ (ht.below hm69.bel ht.size) hp (by omega)) ?_
 rintro e w72 ⟨v74, hv74_, rfl, hat_, hA_, hB_, hbz⟩
 have hm73 := Mem.newLv (lx := []) (M := lvRes [x]) [.arr g2 25 (hcs x.h x.A x.c x.B x.d), .arr g5 27 (bcs p)] hm69 hbz hat_ (Or.inr ⟨hA_, hB_⟩) hdNone (fun _ h_ => lvRes_mut h_)
 simp only [List.cons_append, List.nil_append] at hm73
 clear hm69
 clear hat_ hA_ hB_ hbz
 refine ⟨_, rfl, ?_⟩
 refine qP rfl ?_
 refine lk_ (.tuple #[.agg (hcs v74.h v74.A v74.c v74.B v74.d).toArray, .int .i64 ((vfV p hh t).2.1), .int .i64 ((vfV p hh t).2.2)]) ?_
 refine lk_ (.agg (hcs v74.h v74.A v74.c v74.B v74.d).toArray) ?_
 refine lk_ (.int .i64 ((vfV p hh t).2.1)) ?_
 refine lk_ (.int .i64 ((vfV p hh t).2.2)) ?_
 refine plAlloc (z := [.int .i64 0, .slice none 0 0, .int .i64 0, .slice none 0 0]) Ty.ag_voxel_api_Header hm73 (i := 8) rfl (wn rfl) rfl ?_
 intro g75 w77 hm76
 clear hm73
 try simp only [lc1_, lc2_, lc3_, lc4_] at hm76
 replace hm76 := Mem.insAt (M := ((.arr g2 25 (hcs x.h x.A x.c x.B x.d)) :: (.arr g5 27 (bcs p)) :: (lvRes [v74] ++ lvRes [x]))) 2 hm76
 simp only [List.insertIdx_succ_cons, List.insertIdx_zero] at hm76
 refine qP rfl ?_
 refine plStore 2 Ty.ag_voxel_api_Header hm76 rfl (i := 9) (cs := hcs v74.h v74.A v74.c v74.B v74.d) rfl (wn rfl) rfl le_ le_ rfl rfl kr_ ?_
 intro w79 hm78
 clear hm76
 try simp only [lc1_, lc2_, lc3_, lc4_] at hm78
 refine qNone rfl ?_
 refine lk_ (.int .i64 ((vfV p hh t).2.1)) ?_
 refine lk_ (.int .i64 ((vfV p hh t).2.2)) ?_
 refine plD ?_
 refine tn_ hK71 ?_
 refine wp_seq_k fun K80 hK80 => ?_
 refine plStart ?_
 refine litVal (v := .agg (bcs p).toArray) rfl (wn rfl) (gLoadAg (vs := bcs p) (k := 0) 1 hm78 rfl (by rw [List.drop_zero]; exact List.take_of_length_le (Nat.le_of_eq (by rw [bcs_length]; exact hp))) (by rw [bcs_length]; exact hp) (.tmp 10) Ty.ag_voxel_api_Digest rfl le_) rfl (by decide) ?_
 refine lk_ (.int .i64 hh) ?_
 refine lk_ (.string ⟨t.toArray⟩) ?_
 refine plCall (i := 3) 10 [.agg (bcs p).toArray, .int .i64 hh, .string ⟨t.toArray⟩] [] [] rfl kr_ (wn rfl) rfl le_ (litArgs kr_) (rvverify_any p hh t _ (htR.below hm78.bel htR.size) hp (by omega)) ?_
 rintro e w81 ⟨v83, hv83_, rfl, hat_, hA_, hB_, hbz⟩
 have hm82 := Mem.newLv (lx := []) (M := (lvRes [v74] ++ lvRes [x])) [.arr g2 25 (hcs x.h x.A x.c x.B x.d), .arr g5 27 (bcs p), .arr g75 25 (hcs v74.h v74.A v74.c v74.B v74.d)] hm78 hbz hat_ (Or.inr ⟨hA_, hB_⟩) hdNone (mutApp (fun _ h_ => lvRes_mut h_) (fun _ h_ => lvRes_mut h_))
 simp only [List.cons_append, List.nil_append] at hm82
 clear hm78
 clear hat_ hA_ hB_ hbz
 refine ⟨_, rfl, ?_⟩
 refine qP rfl ?_
 refine plAlloc (z := [.int .i64 0, .slice none 0 0, .int .i64 0, .slice none 0 0, .int .i64 0, .int .i64 0]) Ty.ag_voxel_voxelref18_Verified hm82 (i := 4) rfl (wn rfl) rfl ?_
 intro g84 w86 hm85
 clear hm82
 try simp only [lc1_, lc2_, lc3_, lc4_] at hm85
 replace hm85 := Mem.insAt (M := ((.arr g2 25 (hcs x.h x.A x.c x.B x.d)) :: (.arr g5 27 (bcs p)) :: (.arr g75 25 (hcs v74.h v74.A v74.c v74.B v74.d)) :: (lvRes [v83] ++ (lvRes [v74] ++ lvRes [x])))) 3 hm85
 simp only [List.insertIdx_succ_cons, List.insertIdx_zero] at hm85
 refine qP rfl ?_
 refine plStore 3 Ty.ag_voxel_voxelref18_Verified hm85 rfl (i := 5) (cs := hcs v83.h v83.A v83.c v83.B v83.d ++ ([.int .i64 ((vfV p hh t).2.1), .int .i64 ((vfV p hh t).2.2)] : List Value)) rfl (wn rfl) rfl le_ le_ rfl rfl kr_ ?_
 intro w88 hm87
 clear hm85
 try simp only [lc1_, lc2_, lc3_, lc4_] at hm87
 refine qNone rfl ?_
 refine plD ?_
 refine tn_ hK80 ?_
 refine wpPrune [(12, .bool false), (13, .bool true), (14, .string ⟨((sgV seed hh ii x.h).1).toArray⟩), (15, .int .i64 ((sgV seed hh ii x.h).2)), (16, .string ⟨((sgV seed hh ii x.h).1).toArray⟩), (17, .int .i64 ((sgV seed hh ii x.h).2)), (18, .pointer (some ⟨g75, 0, none⟩)), (19, .int .i64 ((vfV p hh t).2.1)), (20, .int .i64 ((vfV p hh t).2.2)), (21, .pointer (some ⟨g84, 0, none⟩))] ⟨lg_, ⟨lg_, ⟨lg_, ⟨lg_, ⟨lg_, ⟨lg_, ⟨lg_, ⟨lg_, ⟨lg_, ⟨lg_, trivial⟩⟩⟩⟩⟩⟩⟩⟩⟩⟩ (fun X89 => ?_)
 refine wp_seq_k fun K90 hK90 => ?_
 refine plStart ?_
 refine litVal (v := .agg (hcs v74.h v74.A v74.c v74.B v74.d).toArray) rfl (wn rfl) (gLoadAg (vs := hcs v74.h v74.A v74.c v74.B v74.d) (k := 0) 2 hm87 rfl kr_ kr_ (.tmp 18) Ty.ag_voxel_api_Header rfl le_) rfl (by decide) ?_
 refine lk_ (.pointer (some ⟨g84, 0, none⟩)) ?_
 refine litVal (v := .agg ([.int .i64 v83.h.tick, .slice v83.A v83.h.counts.length v83.c, .int .i64 v83.h.depth, .slice v83.B v83.h.rn v83.d]).toArray) rfl (wn rfl) (gLoadAg (vs := [.int .i64 v83.h.tick, .slice v83.A v83.h.counts.length v83.c, .int .i64 v83.h.depth, .slice v83.B v83.h.rn v83.d]) (k := 0) 3 hm87 rfl kr_ kr_ (.tmp 75) Ty.ag_voxel_api_Header rfl le_) rfl (by decide) ?_
 refine plCall (i := 3) 11 [.agg (hcs v74.h v74.A v74.c v74.B v74.d).toArray, .agg ([.int .i64 v83.h.tick, .slice v83.A v83.h.counts.length v83.c, .int .i64 v83.h.depth, .slice v83.B v83.h.rn v83.d]).toArray] [] [] rfl kr_ (wn rfl) rfl le_ (litArgs kr_) (by exact rsame_any v74.h v74.A v74.c v74.B v74.d v83.h v83.A v83.c v83.B v83.d _ ((Mem.lv ((Mem.tailN (T := (lvRes [v83] ++ (lvRes [v74] ++ lvRes [x]))) 4 hm87 rfl).sub (L' := lvRes [v74]) (up_ (lf_)))) v74 List.mem_cons_self).a ((Mem.lv ((Mem.tailN (T := (lvRes [v83] ++ (lvRes [v74] ++ lvRes [x]))) 4 hm87 rfl).sub (L' := lvRes [v74]) (up_ (lf_)))) v74 List.mem_cons_self).b ((Mem.lv ((Mem.tailN (T := (lvRes [v83] ++ (lvRes [v74] ++ lvRes [x]))) 4 hm87 rfl).sub (L' := lvRes [v83]) (lf_))) v83 List.mem_cons_self).a ((Mem.lv ((Mem.tailN (T := (lvRes [v83] ++ (lvRes [v74] ++ lvRes [x]))) 4 hm87 rfl).sub (L' := lvRes [v83]) (lf_))) v83 List.mem_cons_self).b (by have q_ := vfV_small p hh t; rw [← hv74_] at q_; omega) (by have q_ := vfV_small p hh t; rw [← hv74_] at q_; omega)) ?_
 rintro e w91 ⟨rfl, hbz⟩
 have hm92 := hm87.below hbz
 clear hbz hm87
 rw [(decide_eq_true (hv74_.trans hv83_.symm))]
 refine ⟨_, rfl, ?_⟩
 refine qP rfl ?_
 refine lk_ (.bool true) ?_
 refine plD ?_
 refine tn_ hK90 ?_
 refine wp_seq_k fun K93 hK93 => ?_
 refine plStart ?_
 refine lk_ (.bool true) ?_
 refine lk_ (.bool true) ?_
 refine litVal (v := .string ⟨((sgV seed hh ii x.h).1).toArray⟩) rfl (wgY rfl rfl rfl (by decide) kr_) (litRun kr_) rfl (by decide) ?_
 refine litVal (v := .string ⟨((sgV seed hh ii x.h).1).toArray⟩) rfl (wgY rfl rfl rfl (by decide) kr_) (litRun kr_) rfl (by decide) ?_
 refine litVal (v := .bool true) rfl (wgY rfl rfl rfl (by decide) kr_) (eqStrRun (.tmp 80) (.tmp 81) ((sgV seed hh ii x.h).1) ((sgV seed hh ii x.h).1) true (by simp) rfl le_ le_) rfl (by decide) ?_
 refine lk_ (.bool true) ?_
 refine lk_ (.bool true) ?_
 refine litVal (v := .int .i64 ((sgV seed hh ii x.h).2)) rfl (wgY rfl rfl rfl (by decide) kr_) (litRun kr_) rfl (by decide) ?_
 refine litVal (v := .int .i64 ((sgV seed hh ii x.h).2)) rfl (wgY rfl rfl rfl (by decide) kr_) (litRun kr_) rfl (by decide) ?_
 refine litVal (v := .bool true) rfl (wgY rfl rfl rfl (by decide) kr_) (boolTo (by simp) (eqlRun (A := ((sgV seed hh ii x.h).2)) (B := ((sgV seed hh ii x.h).2)) (.tmp 85) (.tmp 86) rfl le_ le_)) rfl (by decide) ?_
 refine lk_ (.bool true) ?_
 refine lk_ (.bool true) ?_
 refine litVal (v := .bool true) rfl (wgY rfl rfl rfl (by decide) kr_) (litRun kr_) rfl (by decide) ?_
 refine lk_ (.bool true) ?_
 refine lk_ (.bool true) ?_
 refine litVal (v := .int .i64 ((vfV p hh t).2.1)) rfl (wgY rfl rfl rfl (by decide) kr_) (litRun kr_) rfl (by decide) ?_
 refine litVal (v := .pointer (some ⟨g84, 4, none⟩)) rfl (wgY rfl rfl rfl (by decide) kr_) (litRun kr_) rfl (by decide) ?_
 refine litVal (v := .int .i64 ((vfV p hh t).2.1)) rfl (wgY rfl rfl rfl (by decide) kr_) (gLoad (v := .int .i64 ((vfV p hh t).2.1)) (k := 4) 3 hm92 rfl kr_ (.tmp 94) kr_ rfl le_) rfl (by decide) ?_
 refine litVal (v := .bool true) rfl (wgY rfl rfl rfl (by decide) kr_) (boolTo (by simp) (eqlRun (A := ((vfV p hh t).2.1)) (B := ((vfV p hh t).2.1)) (.tmp 93) (.tmp 95) rfl le_ le_)) rfl (by decide) ?_
 refine lk_ (.bool true) ?_
 refine lk_ (.bool true) ?_
 refine litVal (v := .int .i64 ((vfV p hh t).2.2)) rfl (wgY rfl rfl rfl (by decide) kr_) (litRun kr_) rfl (by decide) ?_
 refine litVal (v := .pointer (some ⟨g84, 5, none⟩)) rfl (wgY rfl rfl rfl (by decide) kr_) (litRun kr_) rfl (by decide) ?_
 refine litVal (v := .int .i64 ((vfV p hh t).2.2)) rfl (wgY rfl rfl rfl (by decide) kr_) (gLoad (v := .int .i64 ((vfV p hh t).2.2)) (k := 5) 3 hm92 rfl kr_ (.tmp 100) kr_ rfl le_) rfl (by decide) ?_
 refine litVal (v := .bool true) rfl (wgY rfl rfl rfl (by decide) kr_) (boolTo (by simp) (eqlRun (A := ((vfV p hh t).2.2)) (B := ((vfV p hh t).2.2)) (.tmp 99) (.tmp 101) rfl le_ le_)) rfl (by decide) ?_
 refine lk_ (.bool true) ?_
 refine lk_ (.bool true) ?_
 refine plD ?_
 refine tn_ hK93 ?_
 refine wpPrune [(12, .bool true)] ⟨lg_, trivial⟩ (fun X94 => ?_)
 refine wp_ret ?_
 refine bodyPost_ret (v := .bool true) (gRes1 rfl (gResTmp (t := 12) (v := .bool true) (lg_))) rfl ?_
 exact ⟨by rfl, hm92.bel⟩
end Go.Proofs.YtgjgjimgomhbmaaGreatDoor
