/-
  VersionRoundTrips: the law answers true. No statement is proved here.
-/
import Derived.Test.YtgjgjimgomhbmaaGreatDoorMK
import Derived.Test.YtgjgjimgomhbmaaGreatDoorMG
import Derived.Test.YtgjgjimgomhbmaaGreatDoorMB
set_option maxRecDepth 100000
set_option maxHeartbeats 4000000
set_option linter.unusedVariables false
set_option linter.unusedSimpArgs false
namespace Go.Proofs.YtgjgjimgomhbmaaGreatDoor
open Go.RowKit

theorem walk_VersionRoundTrips (x : Lv) (l : List UInt8) (A : Option Addr) (n c : Nat) (seed : List UInt8) (b : Bool) (w : World) (ht : Tabs w) (htR : TabsR w) (hx : x.At w) (hix : x.h.I64) (hr : Rd w w.heap.size 1 A n c (bcs l)) (hn : n ≤ 140737488351232) (hseed : seed.length ≤ 140737488351232) : Calls Tryz.prog 4 #[.agg (hcs x.h x.A x.c x.B x.d).toArray, .slice A n c, .string ⟨seed.toArray⟩, .bool b] w (RetV w (.bool true)) := by
 have hxl_ := hx.len
 obtain rfl : n = l.length := by have q_ := hr.len; rw [bcs_length] at q_; omega
 have hm0 := Mem.ofLv (l := [x]) (fun v_ hv_ => by rw [List.mem_singleton] at hv_; subst hv_; exact hx)
 go_enter Tryz.func4, Tryz.ntmps4
 refine litStart 121 [(0, .agg (hcs x.h x.A x.c x.B x.d).toArray), (1, .slice A l.length c), (2, .string ⟨seed.toArray⟩), (3, .bool b)] kr_ (fun X0 => ?_)
 refine wp_seq_k fun K1 hK1 => ?_
 refine plStart ?_
 refine plBox hm0 (cs := hcs x.h x.A x.c x.B x.d) (i := 0) rfl (wn rfl) rfl le_ ?_
 intro g2 w4 hm3
 clear hm0
 try simp only [lc1_, lc2_, lc3_, lc4_] at hm3
 replace hm3 := Mem.insAt (M := (lvRes [x])) 0 hm3
 simp only [List.insertIdx_succ_cons, List.insertIdx_zero] at hm3
 refine qP rfl ?_
 refine lk_ (.bool false) ?_
 refine plD ?_
 refine tn_ hK1 ?_
 refine wp_seq_k fun K5 hK5 => ?_
 refine plStart ?_
 refine plCall (i := 0) 5 [] [] [] rfl kr_ (wn rfl) rfl le_ (litArgs kr_) (sanity_any _ (ht.below hm3.bel ht.size) (htR.below hm3.bel htR.size)) ?_
 rintro e w6 ⟨rfl, hbz⟩
 have hm7 := hm3.below hbz
 clear hbz hm3
 refine ⟨_, rfl, ?_⟩
 refine qP rfl ?_
 refine lk_ (.bool true) ?_
 refine plD ?_
 refine tn_ hK5 ?_
 refine wp_seq_k fun K8 hK8 => ?_
 refine wp_seq_k fun K9 hK9 => ?_
 refine plStart ?_
 refine litVal (v := .agg (hcs x.h x.A x.c x.B x.d).toArray) rfl (wn rfl) (gLoadAg (vs := hcs x.h x.A x.c x.B x.d) (k := 0) 0 hm7 rfl kr_ kr_ (.tmp 4) Ty.ag_voxel_api_Header rfl le_) rfl (by decide) ?_
 refine plCall (i := 1) 6 [.agg (hcs x.h x.A x.c x.B x.d).toArray] [] [] rfl kr_ (wn rfl) rfl le_ (litArgs kr_) (few1_any x.h x.A x.c x.B x.d _) ?_
 rintro e w10 ⟨rfl, hbz⟩
 have hm11 := hm7.below hbz
 clear hbz hm7
 refine ⟨_, rfl, ?_⟩
 refine qP rfl ?_
 rcases bool_or (decide (x.h.counts.length ≤ 20 ∧ x.h.rn ≤ 20)) with h12 | h12
 · rw [h12]
   refine lk_ (.bool true) ?_
   refine lk_ (.bool true) ?_
   refine ps_ (i := 4) ?_
   refine ps_ (i := 5) ?_
   refine ps_ (i := 6) ?_
   refine lk_ (.bool true) ?_
   refine lk_ (.bool true) ?_
   refine ps_ (i := 9) ?_
   refine ps_ (i := 10) ?_
   refine ps_ (i := 11) ?_
   refine lk_ (.bool true) ?_
   refine plD ?_
   refine tn_ hK9 ?_
   refine wpPrune [(1, .slice A l.length c), (2, .string ⟨seed.toArray⟩), (3, .bool b), (4, .pointer (some ⟨g2, 0, none⟩)), (8, .bool false), (9, .bool true), (36, .bool true)] ⟨lg_, ⟨lg_, ⟨lg_, ⟨lg_, ⟨lg_, ⟨lg_, ⟨lg_, trivial⟩⟩⟩⟩⟩⟩⟩ (fun X13 => ?_)
   refine wp_cond_true le_ ?_
   refine wp_seq_k fun K14 hK14 => ?_
   refine plStart ?_
   refine lk_ (.bool true) ?_
   refine lk_ (.bool true) ?_
   refine plD ?_
   refine tn_ hK14 ?_
   refine wp_ret ?_
   refine then_ret ?_
   refine bodyPost_ret (v := .bool true) (gRes1 rfl (gResTmp (t := 8) (v := .bool true) (lg_))) rfl ?_
   exact ⟨by rfl, hm11.bel⟩
 rw [h12]
 refine lk_ (.bool false) ?_
 refine lk_ (.bool false) ?_
 refine litVal (v := .slice A l.length c) rfl (wgY rfl rfl rfl (by decide) kr_) (litRun kr_) rfl (by decide) ?_
 refine litVal (v := .int .i64 (l.length : Int)) rfl (wgY rfl rfl rfl (by decide) kr_) (lenSlRun (A := A) (n := l.length) (c := c) (.tmp 28) Ty.und_L_uint8 rfl le_) rfl (by decide) ?_
 by_cases h15 : 600 < (l.length : Int)
 · refine litVal (v := .bool true) rfl (wgY rfl rfl rfl (by decide) kr_) (boolTo (decide_eq_true h15) (gtrRun (A := (l.length : Int)) (B := 600) (.tmp 29) (.const (.int .i64 600)) rfl le_ le_)) rfl (by decide) ?_
   refine lk_ (.bool true) ?_
   refine lk_ (.bool true) ?_
   refine ps_ (i := 9) ?_
   refine ps_ (i := 10) ?_
   refine ps_ (i := 11) ?_
   refine lk_ (.bool true) ?_
   refine plD ?_
   refine tn_ hK9 ?_
   refine wpPrune [(1, .slice A l.length c), (2, .string ⟨seed.toArray⟩), (3, .bool b), (4, .pointer (some ⟨g2, 0, none⟩)), (8, .bool false), (9, .bool true), (36, .bool true)] ⟨lg_, ⟨lg_, ⟨lg_, ⟨lg_, ⟨lg_, ⟨lg_, ⟨lg_, trivial⟩⟩⟩⟩⟩⟩⟩ (fun X16 => ?_)
   refine wp_cond_true le_ ?_
   refine wp_seq_k fun K17 hK17 => ?_
   refine plStart ?_
   refine lk_ (.bool true) ?_
   refine lk_ (.bool true) ?_
   refine plD ?_
   refine tn_ hK17 ?_
   refine wp_ret ?_
   refine then_ret ?_
   refine bodyPost_ret (v := .bool true) (gRes1 rfl (gResTmp (t := 8) (v := .bool true) (lg_))) rfl ?_
   exact ⟨by rfl, hm11.bel⟩
 refine litVal (v := .bool false) rfl (wgY rfl rfl rfl (by decide) kr_) (boolTo (decide_eq_false h15) (gtrRun (A := (l.length : Int)) (B := 600) (.tmp 29) (.const (.int .i64 600)) rfl le_ le_)) rfl (by decide) ?_
 refine lk_ (.bool false) ?_
 refine lk_ (.bool false) ?_
 refine litVal (v := .string ⟨seed.toArray⟩) rfl (wgY rfl rfl rfl (by decide) kr_) (litRun kr_) rfl (by decide) ?_
 refine litVal (v := .int .i64 (seed.length : Int)) rfl (wgY rfl rfl rfl (by decide) kr_) (lenStrRun (.tmp 33) seed Ty.und_string rfl le_) rfl (by decide) ?_
 by_cases h18 : 100 < (seed.length : Int)
 · refine litVal (v := .bool true) rfl (wgY rfl rfl rfl (by decide) kr_) (boolTo (decide_eq_true h18) (gtrRun (A := (seed.length : Int)) (B := 100) (.tmp 34) (.const (.int .i64 100)) rfl le_ le_)) rfl (by decide) ?_
   refine lk_ (.bool true) ?_
   refine plD ?_
   refine tn_ hK9 ?_
   refine wpPrune [(1, .slice A l.length c), (2, .string ⟨seed.toArray⟩), (3, .bool b), (4, .pointer (some ⟨g2, 0, none⟩)), (8, .bool false), (9, .bool true), (36, .bool true)] ⟨lg_, ⟨lg_, ⟨lg_, ⟨lg_, ⟨lg_, ⟨lg_, ⟨lg_, trivial⟩⟩⟩⟩⟩⟩⟩ (fun X19 => ?_)
   refine wp_cond_true le_ ?_
   refine wp_seq_k fun K20 hK20 => ?_
   refine plStart ?_
   refine lk_ (.bool true) ?_
   refine lk_ (.bool true) ?_
   refine plD ?_
   refine tn_ hK20 ?_
   refine wp_ret ?_
   refine then_ret ?_
   refine bodyPost_ret (v := .bool true) (gRes1 rfl (gResTmp (t := 8) (v := .bool true) (lg_))) rfl ?_
   exact ⟨by rfl, hm11.bel⟩
 refine litVal (v := .bool false) rfl (wgY rfl rfl rfl (by decide) kr_) (boolTo (decide_eq_false h18) (gtrRun (A := (seed.length : Int)) (B := 100) (.tmp 34) (.const (.int .i64 100)) rfl le_ le_)) rfl (by decide) ?_
 refine lk_ (.bool false) ?_
 refine plD ?_
 refine tn_ hK9 ?_
 refine wpPrune [(1, .slice A l.length c), (2, .string ⟨seed.toArray⟩), (3, .bool b), (4, .pointer (some ⟨g2, 0, none⟩)), (8, .bool false), (9, .bool true), (36, .bool false)] ⟨lg_, ⟨lg_, ⟨lg_, ⟨lg_, ⟨lg_, ⟨lg_, ⟨lg_, trivial⟩⟩⟩⟩⟩⟩⟩ (fun X21 => ?_)
 refine wp_cond_false le_ ?_
 refine wp_skip ?_
 refine tn_ hK8 ?_
 refine wp_seq_k fun K22 hK22 => ?_
 refine plStart ?_
 refine litVal (v := .agg (hcs x.h x.A x.c x.B x.d).toArray) rfl (wn rfl) (gLoadAg (vs := hcs x.h x.A x.c x.B x.d) (k := 0) 0 hm11 rfl kr_ kr_ (.tmp 4) Ty.ag_voxel_api_Header rfl le_) rfl (by decide) ?_
 refine plCall (i := 1) 13 [.agg (hcs x.h x.A x.c x.B x.d).toArray] [] [] rfl kr_ (wn rfl) rfl le_ (litArgs kr_) (encode_any x.h x.A x.c x.B x.d _ ((Mem.lv ((Mem.tailN (T := lvRes [x]) 1 hm11 rfl).sub (L' := lvRes [x]) (rf_))) x List.mem_cons_self).a ((Mem.lv ((Mem.tailN (T := lvRes [x]) 1 hm11 rfl).sub (L' := lvRes [x]) (rf_))) x List.mem_cons_self).b (fit_of (of_decide_eq_true h12) hix.tick hix.depth hix.counts)) ?_
 rintro e w23 ⟨v25, rfl, hown_, hbz⟩
 obtain ⟨A26, c27, rfl, hrd_⟩ := Rd.of_own hown_
 clear hrd_
 have hm24 := hm11.newRow hbz hown_
 clear hown_ hbz
 clear hm11
 try simp only [lc1_, lc2_, lc3_, lc4_] at hm24
 replace hm24 := Mem.insAt (M := ((.arr g2 25 (hcs x.h x.A x.c x.B x.d)) :: lvRes [x])) 1 hm24
 simp only [List.insertIdx_succ_cons, List.insertIdx_zero] at hm24
 refine ⟨_, rfl, ?_⟩
 refine qP rfl ?_
 refine plCall (i := 2) 12 [.slice A26 ((encH x.h).length) c27] [] [] rfl kr_ (wn rfl) rfl le_ (litArgs kr_) (by exact LD.decode_any (encH x.h) A26 c27 _ (hm24.rdRow 1 rfl) (by have q_ := encH_le (fit_of (of_decide_eq_true h12) hix.tick hix.depth hix.counts) hxl_; omega)) ?_
 rintro e w28 ⟨A_, c_, B_, d_, rfl, ha_, hb_, hA_, hB_, hbz⟩
 obtain ⟨v30, hv30_, rfl, rfl, rfl, rfl, hat_⟩ : ∃ v_ : Lv, v_.h = (decH (encH x.h)).1 ∧ v_.A = A_ ∧ v_.c = c_ ∧ v_.B = B_ ∧ v_.d = d_ ∧ v_.At w28 := ⟨⟨0, 0, (decH (encH x.h)).1, A_, c_, B_, d_⟩, rfl, rfl, rfl, rfl, rfl, ⟨ha_, hb_⟩⟩
 rw [← hv30_] at ha_ hb_ ⊢
 rw [rt2 (fit_of (of_decide_eq_true h12) hix.tick hix.depth hix.counts) hxl_]
 have hm29 := Mem.newLv (lx := []) (M := lvRes [x]) [.arr g2 25 (hcs x.h x.A x.c x.B x.d), .row (.slice A26 ((encH x.h).length) c27) 5 1 ((encH x.h).length) (bcs (encH x.h))] hm24 hbz hat_ (Or.inr ⟨hA_, hB_⟩) hdNone (fun _ h_ => lvRes_mut h_)
 simp only [List.cons_append, List.nil_append] at hm29
 clear hm24
 clear hat_ hA_ hB_ hbz ha_ hb_
 refine ⟨_, rfl, ?_⟩
 refine qP rfl ?_
 refine lk_ (.tuple #[.agg (hcs v30.h v30.A v30.c v30.B v30.d).toArray, .int .i64 (ckH x.h)]) ?_
 refine lk_ (.agg (hcs v30.h v30.A v30.c v30.B v30.d).toArray) ?_
 refine lk_ (.int .i64 (ckH x.h)) ?_
 refine plAlloc (z := [.int .i64 0, .slice none 0 0, .int .i64 0, .slice none 0 0]) Ty.ag_voxel_api_Header hm29 (i := 6) rfl (wn rfl) rfl ?_
 intro g31 w33 hm32
 clear hm29
 try simp only [lc1_, lc2_, lc3_, lc4_] at hm32
 replace hm32 := Mem.insAt (M := ((.arr g2 25 (hcs x.h x.A x.c x.B x.d)) :: (.row (.slice A26 ((encH x.h).length) c27) 5 1 ((encH x.h).length) (bcs (encH x.h))) :: (lvRes [v30] ++ lvRes [x]))) 2 hm32
 simp only [List.insertIdx_succ_cons, List.insertIdx_zero] at hm32
 refine qP rfl ?_
 refine plStore 2 Ty.ag_voxel_api_Header hm32 rfl (i := 7) (cs := hcs v30.h v30.A v30.c v30.B v30.d) rfl (wn rfl) rfl le_ le_ rfl rfl kr_ ?_
 intro w35 hm34
 clear hm32
 try simp only [lc1_, lc2_, lc3_, lc4_] at hm34
 refine qNone rfl ?_
 refine lk_ (.int .i64 (ckH x.h)) ?_
 refine plD ?_
 refine tn_ hK22 ?_
 refine wp_seq_k fun K36 hK36 => ?_
 refine plStart ?_
 refine litVal (v := .agg (hcs x.h x.A x.c x.B x.d).toArray) rfl (wn rfl) (gLoadAg (vs := hcs x.h x.A x.c x.B x.d) (k := 0) 0 hm34 rfl kr_ kr_ (.tmp 4) Ty.ag_voxel_api_Header rfl le_) rfl (by decide) ?_
 refine plCall (i := 1) 14 [.agg (hcs x.h x.A x.c x.B x.d).toArray] [] [] rfl kr_ (wn rfl) rfl le_ (litArgs kr_) (check_any x.h x.A x.c x.B x.d _ ((Mem.lv ((Mem.tailN (T := (lvRes [v30] ++ lvRes [x])) 3 hm34 rfl).sub (L' := lvRes [x]) (up_ (rf_)))) x List.mem_cons_self).a ((Mem.lv ((Mem.tailN (T := (lvRes [v30] ++ lvRes [x])) 3 hm34 rfl).sub (L' := lvRes [x]) (up_ (rf_)))) x List.mem_cons_self).b (by have q_ := (fit_of (of_decide_eq_true h12) hix.tick hix.depth hix.counts).c20; omega) (by have q_ := (fit_of (of_decide_eq_true h12) hix.tick hix.depth hix.counts).r20; omega) (fit_of (of_decide_eq_true h12) hix.tick hix.depth hix.counts).depth) ?_
 rintro e w37 ⟨rfl, hbz⟩
 have hm38 := hm34.below hbz
 clear hbz hm34
 refine ⟨_, rfl, ?_⟩
 refine qP rfl ?_
 by_cases h39 : (ckH x.h) = 0
 · refine litVal (v := .bool true) rfl (wn rfl) (boolTo (decide_eq_true h39) (eqlRun (A := (ckH x.h)) (B := 0) (.tmp 45) (.const (.int .i64 0)) rfl le_ le_)) rfl (by decide) ?_
   refine lk_ (.bool true) ?_
   refine plD ?_
   refine tn_ hK36 ?_
   refine wp_seq_k fun K40 hK40 => ?_
   refine wp_seq_k fun K41 hK41 => ?_
   refine plStart ?_
   refine lk_ (.int .i64 (ckH x.h)) ?_
   refine litVal (v := .bool true) rfl (wn rfl) (boolTo (decide_eq_true h39) (eqlRun (A := (ckH x.h)) (B := 0) (.tmp 47) (.const (.int .i64 0)) rfl le_ le_)) rfl (by decide) ?_
   refine lk_ (.bool true) ?_
   refine lk_ (.bool false) ?_
   refine lk_ (.bool false) ?_
   refine litVal (v := .bool true) rfl (wgY rfl rfl rfl (by decide) kr_) (litRun kr_) rfl (by decide) ?_
   refine litVal (v := .bool true) rfl (wgY rfl rfl rfl (by decide) kr_) (litRun kr_) rfl (by decide) ?_
   refine litVal (v := .agg (hcs v30.h v30.A v30.c v30.B v30.d).toArray) rfl (wgY rfl rfl rfl (by decide) kr_) (gLoadAg (vs := hcs v30.h v30.A v30.c v30.B v30.d) (k := 0) 2 hm38 rfl kr_ kr_ (.tmp 10) Ty.ag_voxel_api_Header rfl le_) rfl (by decide) ?_
   refine litVal (v := .agg (hcs x.h x.A x.c x.B x.d).toArray) rfl (wgY rfl rfl rfl (by decide) kr_) (gLoadAg (vs := hcs x.h x.A x.c x.B x.d) (k := 0) 0 hm38 rfl kr_ kr_ (.tmp 4) Ty.ag_voxel_api_Header rfl le_) rfl (by decide) ?_
   refine plCall (i := 9) 15 [.agg (hcs v30.h v30.A v30.c v30.B v30.d).toArray, .agg (hcs x.h x.A x.c x.B x.d).toArray] [] [] rfl kr_ (wgY rfl rfl rfl (by decide) kr_) rfl le_ (litArgs kr_) (by exact same_any v30.h v30.A v30.c v30.B v30.d x.h x.A x.c x.B x.d _ ((Mem.lv ((Mem.tailN (T := (lvRes [v30] ++ lvRes [x])) 3 hm38 rfl).sub (L' := lvRes [v30]) (lf_))) v30 List.mem_cons_self).a ((Mem.lv ((Mem.tailN (T := (lvRes [v30] ++ lvRes [x])) 3 hm38 rfl).sub (L' := lvRes [v30]) (lf_))) v30 List.mem_cons_self).b ((Mem.lv ((Mem.tailN (T := (lvRes [v30] ++ lvRes [x])) 3 hm38 rfl).sub (L' := lvRes [x]) (up_ (rf_)))) x List.mem_cons_self).a ((Mem.lv ((Mem.tailN (T := (lvRes [v30] ++ lvRes [x])) 3 hm38 rfl).sub (L' := lvRes [x]) (up_ (rf_)))) x List.mem_cons_self).b (by have q_ := (fit_of (of_decide_eq_true h12) hix.tick hix.depth hix.counts).c20; rw [show v30.h = x.h from (hv30_.trans (rt1 (fit_of (of_decide_eq_true h12) hix.tick hix.depth hix.counts) hxl_ h39))]; omega) (by have q_ := (fit_of (of_decide_eq_true h12) hix.tick hix.depth hix.counts).r20; rw [show v30.h = x.h from (hv30_.trans (rt1 (fit_of (of_decide_eq_true h12) hix.tick hix.depth hix.counts) hxl_ h39))]; omega)) ?_
   rintro e w42 ⟨rfl, hbz⟩
   have hm43 := hm38.below hbz
   clear hbz hm38
   rw [(decide_eq_true (hv30_.trans (rt1 (fit_of (of_decide_eq_true h12) hix.tick hix.depth hix.counts) hxl_ h39)))]
   refine ⟨_, rfl, ?_⟩
   refine qP rfl ?_
   refine litVal (v := .bool false) rfl (wgY rfl rfl rfl (by decide) kr_) (litRun kr_) rfl (by decide) ?_
   refine litVal (v := .bool false) rfl (wgY rfl rfl rfl (by decide) kr_) (litRun kr_) rfl (by decide) ?_
   refine lk_ (.bool false) ?_
   refine plD ?_
   refine tn_ hK41 ?_
   refine wpPrune [(1, .slice A l.length c), (2, .string ⟨seed.toArray⟩), (3, .bool b), (4, .pointer (some ⟨g2, 0, none⟩)), (8, .bool false), (9, .bool true), (12, .bool true), (59, .bool false)] ⟨lg_, ⟨lg_, ⟨lg_, ⟨lg_, ⟨lg_, ⟨lg_, ⟨lg_, ⟨lg_, trivial⟩⟩⟩⟩⟩⟩⟩⟩ (fun X44 => ?_)
   refine wp_cond_false le_ ?_
   refine wp_skip ?_
   refine tn_ hK40 ?_
   refine wp_seq_k fun K45 hK45 => ?_
   refine plStart ?_
   refine lk_ (.slice A l.length c) ?_
   refine plCall (i := 1) 12 [.slice A l.length c] [] [] rfl kr_ (wn rfl) rfl le_ (litArgs kr_) (by exact LD.decode_any l A c _ ((Rd.below hr hm43.bel).more hm43.bel.size) (by omega)) ?_
   rintro e w46 ⟨A_, c_, B_, d_, rfl, ha_, hb_, hA_, hB_, hbz⟩
   obtain ⟨v48, hv48_, rfl, rfl, rfl, rfl, hat_⟩ : ∃ v_ : Lv, v_.h = (decH l).1 ∧ v_.A = A_ ∧ v_.c = c_ ∧ v_.B = B_ ∧ v_.d = d_ ∧ v_.At w46 := ⟨⟨0, 0, (decH l).1, A_, c_, B_, d_⟩, rfl, rfl, rfl, rfl, rfl, ⟨ha_, hb_⟩⟩
   rw [← hv48_] at ha_ hb_ ⊢
   have hm47 := Mem.newLv (lx := []) (M := (lvRes [v30] ++ lvRes [x])) [.arr g2 25 (hcs x.h x.A x.c x.B x.d), .row (.slice A26 ((encH x.h).length) c27) 5 1 ((encH x.h).length) (bcs (encH x.h)), .arr g31 25 (hcs v30.h v30.A v30.c v30.B v30.d)] hm43 hbz hat_ (Or.inr ⟨hA_, hB_⟩) hdNone (mutApp (fun _ h_ => lvRes_mut h_) (fun _ h_ => lvRes_mut h_))
   simp only [List.cons_append, List.nil_append] at hm47
   clear hm43
   clear hat_ hA_ hB_ hbz ha_ hb_
   refine ⟨_, rfl, ?_⟩
   refine qP rfl ?_
   refine lk_ (.tuple #[.agg (hcs v48.h v48.A v48.c v48.B v48.d).toArray, .int .i64 ((decH l).2)]) ?_
   refine lk_ (.agg (hcs v48.h v48.A v48.c v48.B v48.d).toArray) ?_
   refine lk_ (.int .i64 ((decH l).2)) ?_
   refine plAlloc (z := [.int .i64 0, .slice none 0 0, .int .i64 0, .slice none 0 0]) Ty.ag_voxel_api_Header hm47 (i := 5) rfl (wn rfl) rfl ?_
   intro g49 w51 hm50
   clear hm47
   try simp only [lc1_, lc2_, lc3_, lc4_] at hm50
   replace hm50 := Mem.insAt (M := ((.arr g2 25 (hcs x.h x.A x.c x.B x.d)) :: (.row (.slice A26 ((encH x.h).length) c27) 5 1 ((encH x.h).length) (bcs (encH x.h))) :: (.arr g31 25 (hcs v30.h v30.A v30.c v30.B v30.d)) :: (lvRes [v48] ++ (lvRes [v30] ++ lvRes [x])))) 3 hm50
   simp only [List.insertIdx_succ_cons, List.insertIdx_zero] at hm50
   refine qP rfl ?_
   refine plStore 3 Ty.ag_voxel_api_Header hm50 rfl (i := 6) (cs := hcs v48.h v48.A v48.c v48.B v48.d) rfl (wn rfl) rfl le_ le_ rfl rfl kr_ ?_
   intro w53 hm52
   clear hm50
   try simp only [lc1_, lc2_, lc3_, lc4_] at hm52
   refine qNone rfl ?_
   refine lk_ (.int .i64 ((decH l).2)) ?_
   refine plD ?_
   refine tn_ hK45 ?_
   refine wp_seq_k fun K54 hK54 => ?_
   refine wp_seq_k fun K55 hK55 => ?_
   refine plStart ?_
   refine lk_ (.int .i64 ((decH l).2)) ?_
   by_cases h56 : ((decH l).2) = 0
   · refine litVal (v := .bool true) rfl (wn rfl) (boolTo (decide_eq_true h56) (eqlRun (A := ((decH l).2)) (B := 0) (.tmp 65) (.const (.int .i64 0)) rfl le_ le_)) rfl (by decide) ?_
     refine lk_ (.bool true) ?_
     refine litVal (v := .agg (hcs v48.h v48.A v48.c v48.B v48.d).toArray) rfl (wgY rfl rfl rfl (by decide) kr_) (gLoadAg (vs := hcs v48.h v48.A v48.c v48.B v48.d) (k := 0) 3 hm52 rfl kr_ kr_ (.tmp 13) Ty.ag_voxel_api_Header rfl le_) rfl (by decide) ?_
     refine plCall (i := 4) 14 [.agg (hcs v48.h v48.A v48.c v48.B v48.d).toArray] [] [] rfl kr_ (wgY rfl rfl rfl (by decide) kr_) rfl le_ (litArgs kr_) (check_any v48.h v48.A v48.c v48.B v48.d _ ((Mem.lv ((Mem.tailN (T := (lvRes [v48] ++ (lvRes [v30] ++ lvRes [x]))) 4 hm52 rfl).sub (L' := lvRes [v48]) (lf_))) v48 List.mem_cons_self).a ((Mem.lv ((Mem.tailN (T := (lvRes [v48] ++ (lvRes [v30] ++ lvRes [x]))) 4 hm52 rfl).sub (L' := lvRes [v48]) (lf_))) v48 List.mem_cons_self).b (by have q_ := (by rw [hv48_]; exact canon_fit h56 : Hd.Fit v48.h).c20; omega) (by have q_ := (by rw [hv48_]; exact canon_fit h56 : Hd.Fit v48.h).r20; omega) (by rw [hv48_]; exact canon_fit h56 : Hd.Fit v48.h).depth) ?_
     rintro e w57 ⟨rfl, hbz⟩
     have hm58 := hm52.below hbz
     clear hbz hm52
     refine ⟨_, rfl, ?_⟩
     refine qP rfl ?_
     refine litVal (v := .bool false) rfl (wgY rfl rfl rfl (by decide) kr_) (boolTo (by rw [decide_eq_true (by rw [hv48_]; exact (decH_canon h56).1)]; rfl) (neqRun (A := (ckH v48.h)) (B := 0) (.tmp 69) (.const (.int .i64 0)) rfl le_ le_)) rfl (by decide) ?_
     refine litVal (v := .bool false) rfl (wgY rfl rfl rfl (by decide) kr_) (litRun kr_) rfl (by decide) ?_
     refine litVal (v := .agg (hcs v48.h v48.A v48.c v48.B v48.d).toArray) rfl (wgY rfl rfl rfl (by decide) kr_) (gLoadAg (vs := hcs v48.h v48.A v48.c v48.B v48.d) (k := 0) 3 hm58 rfl kr_ kr_ (.tmp 13) Ty.ag_voxel_api_Header rfl le_) rfl (by decide) ?_
     refine plCall (i := 8) 13 [.agg (hcs v48.h v48.A v48.c v48.B v48.d).toArray] [] [] rfl kr_ (wgY rfl rfl rfl (by decide) kr_) rfl le_ (litArgs kr_) (by have h_ := encode_any v48.h v48.A v48.c v48.B v48.d _ ((Mem.lv ((Mem.tailN (T := (lvRes [v48] ++ (lvRes [v30] ++ lvRes [x]))) 4 hm58 rfl).sub (L' := lvRes [v48]) (lf_))) v48 List.mem_cons_self).a ((Mem.lv ((Mem.tailN (T := (lvRes [v48] ++ (lvRes [v30] ++ lvRes [x]))) 4 hm58 rfl).sub (L' := lvRes [v48]) (lf_))) v48 List.mem_cons_self).b (by rw [hv48_]; exact canon_fit h56 : Hd.Fit v48.h); rw [show encH v48.h = l by rw [hv48_]; exact (decH_canon h56).2] at h_; exact h_) ?_
     rintro e w59 ⟨v61, rfl, hown_, hbz⟩
     obtain ⟨A62, c63, rfl, hrd_⟩ := Rd.of_own hown_
     clear hrd_
     have hm60 := hm58.newRow hbz hown_
     clear hown_ hbz
     clear hm58
     try simp only [lc1_, lc2_, lc3_, lc4_] at hm60
     replace hm60 := Mem.insAt (M := ((.arr g2 25 (hcs x.h x.A x.c x.B x.d)) :: (.row (.slice A26 ((encH x.h).length) c27) 5 1 ((encH x.h).length) (bcs (encH x.h))) :: (.arr g31 25 (hcs v30.h v30.A v30.c v30.B v30.d)) :: (.arr g49 25 (hcs v48.h v48.A v48.c v48.B v48.d)) :: (lvRes [v48] ++ (lvRes [v30] ++ lvRes [x])))) 4 hm60
     simp only [List.insertIdx_succ_cons, List.insertIdx_zero] at hm60
     refine ⟨_, rfl, ?_⟩
     refine qP rfl ?_
     refine litVal (v := .slice A l.length c) rfl (wgY rfl rfl rfl (by decide) kr_) (litRun kr_) rfl (by decide) ?_
     refine plCall (i := 10) 16 [.slice A62 l.length c63, .slice A l.length c] [] [] rfl kr_ (wgY rfl rfl rfl (by decide) kr_) rfl le_ (litArgs kr_) (same_true l A62 A _ _ c63 c _ _ _ (hm60.rdRow 4 rfl) ((Rd.below hr hm60.bel).more hm60.bel.size)) ?_
     rintro e w64 ⟨rfl, rfl⟩
     refine ⟨_, rfl, ?_⟩
     refine qP rfl ?_
     refine litVal (v := .bool false) rfl (wgY rfl rfl rfl (by decide) kr_) (litRun kr_) rfl (by decide) ?_
     refine litVal (v := .bool false) rfl (wgY rfl rfl rfl (by decide) kr_) (litRun kr_) rfl (by decide) ?_
     refine lk_ (.bool false) ?_
     refine plD ?_
     refine tn_ hK55 ?_
     refine wpPrune [(2, .string ⟨seed.toArray⟩), (3, .bool b), (4, .pointer (some ⟨g2, 0, none⟩)), (8, .bool false), (9, .bool true), (12, .bool true), (78, .bool false)] ⟨lg_, ⟨lg_, ⟨lg_, ⟨lg_, ⟨lg_, ⟨lg_, ⟨lg_, trivial⟩⟩⟩⟩⟩⟩⟩ (fun X66 => ?_)
     refine wp_cond_false le_ ?_
     refine wp_skip ?_
     refine tn_ hK54 ?_
     refine wp_seq_k fun K67 hK67 => ?_
     refine wp_seq_k fun K68 hK68 => ?_
     refine plStart ?_
     refine lk_ (.bool true) ?_
     refine lk_ (.bool false) ?_
     refine plD ?_
     refine tn_ hK68 ?_
     refine wp_cond_false le_ ?_
     refine wp_skip ?_
     refine tn_ hK67 ?_
     refine wp_seq_k fun K69 hK69 => ?_
     refine plStart ?_
     refine lk_ (.int .i64 0) ?_
     refine plD ?_
     refine tn_ hK69 ?_
     refine wp_seq_k fun K70 hK70 => ?_
     refine wp_seq_k fun K71 hK71 => ?_
     refine plStart ?_
     rcases b with _ | _
     · refine lk_ (.bool false) ?_
       refine plD ?_
       refine tn_ hK71 ?_
       refine wp_cond_false le_ ?_
       refine wp_skip ?_
       refine tn_ hK70 ?_
       refine wp_seq_k fun K72 hK72 => ?_
       refine plStart ?_
       refine lk_ (.string ⟨seed.toArray⟩) ?_
       refine plCall (i := 1) 17 [.string ⟨seed.toArray⟩, .int .i64 1] [] [] rfl kr_ (wn rfl) rfl le_ (litArgs kr_) (refPublic_any seed 1 _ (htR.below hm60.bel htR.size) (by omega)) ?_
       rintro e w73 ⟨rfl, hbz⟩
       have hm74 := hm60.below hbz
       clear hbz hm60
       refine ⟨_, rfl, ?_⟩
       refine qP rfl ?_
       refine lk_ (.tuple #[.agg (bcs (publicD seed 1).1).toArray, .int .i64 ((publicD seed 1).2)]) ?_
       refine lk_ (.agg (bcs (publicD seed 1).1).toArray) ?_
       refine lk_ (.int .i64 ((publicD seed 1).2)) ?_
       refine plAlloc (z := [.int .u8 0, .int .u8 0, .int .u8 0, .int .u8 0, .int .u8 0, .int .u8 0, .int .u8 0, .int .u8 0, .int .u8 0, .int .u8 0, .int .u8 0, .int .u8 0, .int .u8 0, .int .u8 0, .int .u8 0, .int .u8 0]) Ty.ag_voxel_api_Digest hm74 (i := 5) rfl (wn rfl) rfl ?_
       intro g75 w77 hm76
       clear hm74
       try simp only [lc1_, lc2_, lc3_, lc4_] at hm76
       replace hm76 := Mem.insAt (M := ((.arr g2 25 (hcs x.h x.A x.c x.B x.d)) :: (.row (.slice A26 ((encH x.h).length) c27) 5 1 ((encH x.h).length) (bcs (encH x.h))) :: (.arr g31 25 (hcs v30.h v30.A v30.c v30.B v30.d)) :: (.arr g49 25 (hcs v48.h v48.A v48.c v48.B v48.d)) :: (.row (.slice A62 l.length c63) 5 1 l.length (bcs l)) :: (lvRes [v48] ++ (lvRes [v30] ++ lvRes [x])))) 5 hm76
       simp only [List.insertIdx_succ_cons, List.insertIdx_zero] at hm76
       refine qP rfl ?_
       refine plStore 5 Ty.ag_voxel_api_Digest hm76 rfl (i := 6) (cs := bcs (publicD seed 1).1) rfl (wn rfl) rfl le_ le_ rfl rfl kr_ ?_
       intro w79 hm78
       clear hm76
       try simp only [lc1_, lc2_, lc3_, lc4_] at hm78
       refine qNone rfl ?_
       refine lk_ (.int .i64 ((publicD seed 1).2)) ?_
       refine plD ?_
       refine tn_ hK72 ?_
       refine wp_seq_k fun K80 hK80 => ?_
       refine plStart ?_
       refine lk_ (.string ⟨seed.toArray⟩) ?_
       refine lk_ (.int .i64 0) ?_
       refine litVal (v := .agg (hcs x.h x.A x.c x.B x.d).toArray) rfl (wn rfl) (gLoadAg (vs := hcs x.h x.A x.c x.B x.d) (k := 0) 0 hm78 rfl kr_ kr_ (.tmp 4) Ty.ag_voxel_api_Header rfl le_) rfl (by decide) ?_
       refine plCall (i := 3) 7 [.string ⟨seed.toArray⟩, .int .i64 1, .int .i64 0, .agg (hcs x.h x.A x.c x.B x.d).toArray] [] [] rfl kr_ (wn rfl) rfl le_ (litArgs kr_) (vsign_any seed 1 0 x _ (ht.below hm78.bel ht.size) ((Mem.lv ((Mem.tailN (T := (lvRes [v48] ++ (lvRes [v30] ++ lvRes [x]))) 6 hm78 rfl).sub (L' := lvRes [x]) (up_ (up_ (rf_))))) x List.mem_cons_self) (fit_of (of_decide_eq_true h12) hix.tick hix.depth hix.counts) (by omega)) ?_
       rintro e w81 ⟨rfl, hbz⟩
       have hm82 := hm78.below hbz
       clear hbz hm78
       refine ⟨_, rfl, ?_⟩
       refine qP rfl ?_
       refine lk_ (.tuple #[.string ⟨((sgV seed 1 0 x.h).1).toArray⟩, .int .i64 ((sgV seed 1 0 x.h).2)]) ?_
       refine lk_ (.string ⟨((sgV seed 1 0 x.h).1).toArray⟩) ?_
       refine lk_ (.int .i64 ((sgV seed 1 0 x.h).2)) ?_
       refine lk_ (.string ⟨((sgV seed 1 0 x.h).1).toArray⟩) ?_
       refine lk_ (.int .i64 ((sgV seed 1 0 x.h).2)) ?_
       refine plD ?_
       refine tn_ hK80 ?_
       refine wpPrune [(4, .pointer (some ⟨g2, 0, none⟩)), (8, .bool false), (9, .bool true), (15, .int .i64 0), (16, .pointer (some ⟨g75, 0, none⟩)), (18, .string ⟨((sgV seed 1 0 x.h).1).toArray⟩), (19, .int .i64 ((sgV seed 1 0 x.h).2))] ⟨lg_, ⟨lg_, ⟨lg_, ⟨lg_, ⟨lg_, ⟨lg_, ⟨lg_, trivial⟩⟩⟩⟩⟩⟩⟩ (fun X83 => ?_)
       refine wp_seq_k fun K84 hK84 => ?_
       refine plStart ?_
       refine litVal (v := .agg (bcs (publicD seed 1).1).toArray) rfl (wn rfl) (gLoadAg (vs := bcs (publicD seed 1).1) (k := 0) 5 hm82 rfl (by rw [List.drop_zero]; exact List.take_of_length_le (Nat.le_of_eq (by rw [bcs_length]; exact publicD_len seed))) (by rw [bcs_length]; exact publicD_len seed) (.tmp 16) Ty.ag_voxel_api_Digest rfl le_) rfl (by decide) ?_
       refine lk_ (.string ⟨((sgV seed 1 0 x.h).1).toArray⟩) ?_
       refine plCall (i := 2) 9 [.agg (bcs (publicD seed 1).1).toArray, .int .i64 1, .string ⟨((sgV seed 1 0 x.h).1).toArray⟩] [] [] rfl kr_ (wn rfl) rfl le_ (litArgs kr_) (vverify_any (publicD seed 1).1 1 (sgV seed 1 0 x.h).1 _ (ht.below hm82.bel ht.size) (publicD_len seed) (by have q_ := sgV_le (seed := seed) (i := 0) (fit_of (of_decide_eq_true h12) hix.tick hix.depth hix.counts) hxl_; omega)) ?_
       rintro e w85 ⟨v87, hv87_, rfl, hat_, hA_, hB_, hbz⟩
       have hm86 := Mem.newLv (lx := []) (M := (lvRes [v48] ++ (lvRes [v30] ++ lvRes [x]))) [.arr g2 25 (hcs x.h x.A x.c x.B x.d), .row (.slice A26 ((encH x.h).length) c27) 5 1 ((encH x.h).length) (bcs (encH x.h)), .arr g31 25 (hcs v30.h v30.A v30.c v30.B v30.d), .arr g49 25 (hcs v48.h v48.A v48.c v48.B v48.d), .row (.slice A62 l.length c63) 5 1 l.length (bcs l), .arr g75 27 (bcs (publicD seed 1).1)] hm82 hbz hat_ (Or.inr ⟨hA_, hB_⟩) hdNone (mutApp (fun _ h_ => lvRes_mut h_) (mutApp (fun _ h_ => lvRes_mut h_) (fun _ h_ => lvRes_mut h_)))
       simp only [List.cons_append, List.nil_append] at hm86
       clear hm82
       clear hat_ hA_ hB_ hbz
       refine ⟨_, rfl, ?_⟩
       refine qP rfl ?_
       refine lk_ (.tuple #[.agg (hcs v87.h v87.A v87.c v87.B v87.d).toArray, .int .i64 ((vfV (publicD seed 1).1 1 (sgV seed 1 0 x.h).1).2.1), .int .i64 ((vfV (publicD seed 1).1 1 (sgV seed 1 0 x.h).1).2.2)]) ?_
       refine lk_ (.agg (hcs v87.h v87.A v87.c v87.B v87.d).toArray) ?_
       refine lk_ (.int .i64 ((vfV (publicD seed 1).1 1 (sgV seed 1 0 x.h).1).2.1)) ?_
       refine lk_ (.int .i64 ((vfV (publicD seed 1).1 1 (sgV seed 1 0 x.h).1).2.2)) ?_
       refine plAlloc (z := [.int .i64 0, .slice none 0 0, .int .i64 0, .slice none 0 0]) Ty.ag_voxel_api_Header hm86 (i := 7) rfl (wn rfl) rfl ?_
       intro g88 w90 hm89
       clear hm86
       try simp only [lc1_, lc2_, lc3_, lc4_] at hm89
       replace hm89 := Mem.insAt (M := ((.arr g2 25 (hcs x.h x.A x.c x.B x.d)) :: (.row (.slice A26 ((encH x.h).length) c27) 5 1 ((encH x.h).length) (bcs (encH x.h))) :: (.arr g31 25 (hcs v30.h v30.A v30.c v30.B v30.d)) :: (.arr g49 25 (hcs v48.h v48.A v48.c v48.B v48.d)) :: (.row (.slice A62 l.length c63) 5 1 l.length (bcs l)) :: (.arr g75 27 (bcs (publicD seed 1).1)) :: (lvRes [v87] ++ (lvRes [v48] ++ (lvRes [v30] ++ lvRes [x]))))) 6 hm89
       simp only [List.insertIdx_succ_cons, List.insertIdx_zero] at hm89
       refine qP rfl ?_
       refine plStore 6 Ty.ag_voxel_api_Header hm89 rfl (i := 8) (cs := hcs v87.h v87.A v87.c v87.B v87.d) rfl (wn rfl) rfl le_ le_ rfl rfl kr_ ?_
       intro w92 hm91
       clear hm89
       try simp only [lc1_, lc2_, lc3_, lc4_] at hm91
       refine qNone rfl ?_
       refine lk_ (.int .i64 ((vfV (publicD seed 1).1 1 (sgV seed 1 0 x.h).1).2.1)) ?_
       refine lk_ (.int .i64 ((vfV (publicD seed 1).1 1 (sgV seed 1 0 x.h).1).2.2)) ?_
       refine plD ?_
       refine tn_ hK84 ?_
       refine wp_seq_k fun K93 hK93 => ?_
       refine plStart ?_
       refine lk_ (.bool true) ?_
       refine lk_ (.bool true) ?_
       refine litVal (v := .int .i64 ((sgV seed 1 0 x.h).2)) rfl (wgY rfl rfl rfl (by decide) kr_) (litRun kr_) rfl (by decide) ?_
       refine litVal (v := .bool true) rfl (wgY rfl rfl rfl (by decide) kr_) (boolTo (decide_eq_true (sg_two (seed := seed) (i := 0) h39 (fit_of (of_decide_eq_true h12) hix.tick hix.depth hix.counts) hxl_ (Or.inl rfl)).1) (eqlRun (A := ((sgV seed 1 0 x.h).2)) (B := 0) (.tmp 104) (.const (.int .i64 0)) rfl le_ le_)) rfl (by decide) ?_
       refine lk_ (.bool true) ?_
       refine lk_ (.bool true) ?_
       refine litVal (v := .int .i64 ((vfV (publicD seed 1).1 1 (sgV seed 1 0 x.h).1).2.2)) rfl (wgY rfl rfl rfl (by decide) kr_) (litRun kr_) rfl (by decide) ?_
       refine litVal (v := .bool true) rfl (wgY rfl rfl rfl (by decide) kr_) (boolTo (decide_eq_true (by rw [(sg_two (seed := seed) (i := 0) h39 (fit_of (of_decide_eq_true h12) hix.tick hix.depth hix.counts) hxl_ (Or.inl rfl)).2])) (eqlRun (A := ((vfV (publicD seed 1).1 1 (sgV seed 1 0 x.h).1).2.2)) (B := 0) (.tmp 108) (.const (.int .i64 0)) rfl le_ le_)) rfl (by decide) ?_
       refine lk_ (.bool true) ?_
       refine lk_ (.bool true) ?_
       refine litVal (v := .int .i64 ((vfV (publicD seed 1).1 1 (sgV seed 1 0 x.h).1).2.1)) rfl (wgY rfl rfl rfl (by decide) kr_) (litRun kr_) rfl (by decide) ?_
       refine litVal (v := .int .i64 0) rfl (wgY rfl rfl rfl (by decide) kr_) (litRun kr_) rfl (by decide) ?_
       refine litVal (v := .bool true) rfl (wgY rfl rfl rfl (by decide) kr_) (boolTo (decide_eq_true (by rw [(sg_two (seed := seed) (i := 0) h39 (fit_of (of_decide_eq_true h12) hix.tick hix.depth hix.counts) hxl_ (Or.inl rfl)).2])) (eqlRun (A := ((vfV (publicD seed 1).1 1 (sgV seed 1 0 x.h).1).2.1)) (B := 0) (.tmp 112) (.tmp 113) rfl le_ le_)) rfl (by decide) ?_
       refine lk_ (.bool true) ?_
       refine lk_ (.bool true) ?_
       refine litVal (v := .agg (hcs v87.h v87.A v87.c v87.B v87.d).toArray) rfl (wgY rfl rfl rfl (by decide) kr_) (gLoadAg (vs := hcs v87.h v87.A v87.c v87.B v87.d) (k := 0) 6 hm91 rfl kr_ kr_ (.tmp 20) Ty.ag_voxel_api_Header rfl le_) rfl (by decide) ?_
       refine litVal (v := .agg (hcs x.h x.A x.c x.B x.d).toArray) rfl (wgY rfl rfl rfl (by decide) kr_) (gLoadAg (vs := hcs x.h x.A x.c x.B x.d) (k := 0) 0 hm91 rfl kr_ kr_ (.tmp 4) Ty.ag_voxel_api_Header rfl le_) rfl (by decide) ?_
       refine plCall (i := 17) 15 [.agg (hcs v87.h v87.A v87.c v87.B v87.d).toArray, .agg (hcs x.h x.A x.c x.B x.d).toArray] [] [] rfl kr_ (wgY rfl rfl rfl (by decide) kr_) rfl le_ (litArgs kr_) (by exact same_any v87.h v87.A v87.c v87.B v87.d x.h x.A x.c x.B x.d _ ((Mem.lv ((Mem.tailN (T := (lvRes [v87] ++ (lvRes [v48] ++ (lvRes [v30] ++ lvRes [x])))) 7 hm91 rfl).sub (L' := lvRes [v87]) (lf_))) v87 List.mem_cons_self).a ((Mem.lv ((Mem.tailN (T := (lvRes [v87] ++ (lvRes [v48] ++ (lvRes [v30] ++ lvRes [x])))) 7 hm91 rfl).sub (L' := lvRes [v87]) (lf_))) v87 List.mem_cons_self).b ((Mem.lv ((Mem.tailN (T := (lvRes [v87] ++ (lvRes [v48] ++ (lvRes [v30] ++ lvRes [x])))) 7 hm91 rfl).sub (L' := lvRes [x]) (up_ (up_ (up_ (rf_)))))) x List.mem_cons_self).a ((Mem.lv ((Mem.tailN (T := (lvRes [v87] ++ (lvRes [v48] ++ (lvRes [v30] ++ lvRes [x])))) 7 hm91 rfl).sub (L' := lvRes [x]) (up_ (up_ (up_ (rf_)))))) x List.mem_cons_self).b (by have q_ := (fit_of (of_decide_eq_true h12) hix.tick hix.depth hix.counts).c20; rw [show v87.h = x.h from (hv87_.trans (by rw [(sg_two (seed := seed) (i := 0) h39 (fit_of (of_decide_eq_true h12) hix.tick hix.depth hix.counts) hxl_ (Or.inl rfl)).2]))]; omega) (by have q_ := (fit_of (of_decide_eq_true h12) hix.tick hix.depth hix.counts).r20; rw [show v87.h = x.h from (hv87_.trans (by rw [(sg_two (seed := seed) (i := 0) h39 (fit_of (of_decide_eq_true h12) hix.tick hix.depth hix.counts) hxl_ (Or.inl rfl)).2]))]; omega)) ?_
       rintro e w94 ⟨rfl, hbz⟩
       have hm95 := hm91.below hbz
       clear hbz hm91
       rw [(decide_eq_true (hv87_.trans (by rw [(sg_two (seed := seed) (i := 0) h39 (fit_of (of_decide_eq_true h12) hix.tick hix.depth hix.counts) hxl_ (Or.inl rfl)).2])))]
       refine ⟨_, rfl, ?_⟩
       refine qP rfl ?_
       refine lk_ (.bool true) ?_
       refine lk_ (.bool true) ?_
       refine plD ?_
       refine tn_ hK93 ?_
       refine wpPrune [(8, .bool true)] ⟨lg_, trivial⟩ (fun X96 => ?_)
       refine wp_ret ?_
       refine bodyPost_ret (v := .bool true) (gRes1 rfl (gResTmp (t := 8) (v := .bool true) (lg_))) rfl ?_
       exact ⟨by rfl, hm95.bel⟩
     refine lk_ (.bool true) ?_
     refine plD ?_
     refine tn_ hK71 ?_
     refine wp_cond_true le_ ?_
     refine plStart ?_
     refine lk_ (.int .i64 1) ?_
     refine plD ?_
     refine tn_ hK70 ?_
     refine wp_seq_k fun K97 hK97 => ?_
     refine plStart ?_
     refine lk_ (.string ⟨seed.toArray⟩) ?_
     refine plCall (i := 1) 17 [.string ⟨seed.toArray⟩, .int .i64 1] [] [] rfl kr_ (wn rfl) rfl le_ (litArgs kr_) (refPublic_any seed 1 _ (htR.below hm60.bel htR.size) (by omega)) ?_
     rintro e w98 ⟨rfl, hbz⟩
     have hm99 := hm60.below hbz
     clear hbz hm60
     refine ⟨_, rfl, ?_⟩
     refine qP rfl ?_
     refine lk_ (.tuple #[.agg (bcs (publicD seed 1).1).toArray, .int .i64 ((publicD seed 1).2)]) ?_
     refine lk_ (.agg (bcs (publicD seed 1).1).toArray) ?_
     refine lk_ (.int .i64 ((publicD seed 1).2)) ?_
     refine plAlloc (z := [.int .u8 0, .int .u8 0, .int .u8 0, .int .u8 0, .int .u8 0, .int .u8 0, .int .u8 0, .int .u8 0, .int .u8 0, .int .u8 0, .int .u8 0, .int .u8 0, .int .u8 0, .int .u8 0, .int .u8 0, .int .u8 0]) Ty.ag_voxel_api_Digest hm99 (i := 5) rfl (wn rfl) rfl ?_
     intro g100 w102 hm101
     clear hm99
     try simp only [lc1_, lc2_, lc3_, lc4_] at hm101
     replace hm101 := Mem.insAt (M := ((.arr g2 25 (hcs x.h x.A x.c x.B x.d)) :: (.row (.slice A26 ((encH x.h).length) c27) 5 1 ((encH x.h).length) (bcs (encH x.h))) :: (.arr g31 25 (hcs v30.h v30.A v30.c v30.B v30.d)) :: (.arr g49 25 (hcs v48.h v48.A v48.c v48.B v48.d)) :: (.row (.slice A62 l.length c63) 5 1 l.length (bcs l)) :: (lvRes [v48] ++ (lvRes [v30] ++ lvRes [x])))) 5 hm101
     simp only [List.insertIdx_succ_cons, List.insertIdx_zero] at hm101
     refine qP rfl ?_
     refine plStore 5 Ty.ag_voxel_api_Digest hm101 rfl (i := 6) (cs := bcs (publicD seed 1).1) rfl (wn rfl) rfl le_ le_ rfl rfl kr_ ?_
     intro w104 hm103
     clear hm101
     try simp only [lc1_, lc2_, lc3_, lc4_] at hm103
     refine qNone rfl ?_
     refine lk_ (.int .i64 ((publicD seed 1).2)) ?_
     refine plD ?_
     refine tn_ hK97 ?_
     refine wpPrune [(2, .string ⟨seed.toArray⟩), (4, .pointer (some ⟨g2, 0, none⟩)), (8, .bool false), (9, .bool true), (15, .int .i64 1), (16, .pointer (some ⟨g100, 0, none⟩))] ⟨lg_, ⟨lg_, ⟨lg_, ⟨lg_, ⟨lg_, ⟨lg_, trivial⟩⟩⟩⟩⟩⟩ (fun X105 => ?_)
     refine wp_seq_k fun K106 hK106 => ?_
     refine plStart ?_
     refine lk_ (.string ⟨seed.toArray⟩) ?_
     refine lk_ (.int .i64 1) ?_
     refine litVal (v := .agg (hcs x.h x.A x.c x.B x.d).toArray) rfl (wn rfl) (gLoadAg (vs := hcs x.h x.A x.c x.B x.d) (k := 0) 0 hm103 rfl kr_ kr_ (.tmp 4) Ty.ag_voxel_api_Header rfl le_) rfl (by decide) ?_
     refine plCall (i := 3) 7 [.string ⟨seed.toArray⟩, .int .i64 1, .int .i64 1, .agg (hcs x.h x.A x.c x.B x.d).toArray] [] [] rfl kr_ (wn rfl) rfl le_ (litArgs kr_) (vsign_any seed 1 1 x _ (ht.below hm103.bel ht.size) ((Mem.lv ((Mem.tailN (T := (lvRes [v48] ++ (lvRes [v30] ++ lvRes [x]))) 6 hm103 rfl).sub (L' := lvRes [x]) (up_ (up_ (rf_))))) x List.mem_cons_self) (fit_of (of_decide_eq_true h12) hix.tick hix.depth hix.counts) (by omega)) ?_
     rintro e w107 ⟨rfl, hbz⟩
     have hm108 := hm103.below hbz
     clear hbz hm103
     refine ⟨_, rfl, ?_⟩
     refine qP rfl ?_
     refine lk_ (.tuple #[.string ⟨((sgV seed 1 1 x.h).1).toArray⟩, .int .i64 ((sgV seed 1 1 x.h).2)]) ?_
     refine lk_ (.string ⟨((sgV seed 1 1 x.h).1).toArray⟩) ?_
     refine lk_ (.int .i64 ((sgV seed 1 1 x.h).2)) ?_
     refine lk_ (.string ⟨((sgV seed 1 1 x.h).1).toArray⟩) ?_
     refine lk_ (.int .i64 ((sgV seed 1 1 x.h).2)) ?_
     refine plD ?_
     refine tn_ hK106 ?_
     refine wp_seq_k fun K109 hK109 => ?_
     refine plStart ?_
     refine litVal (v := .agg (bcs (publicD seed 1).1).toArray) rfl (wn rfl) (gLoadAg (vs := bcs (publicD seed 1).1) (k := 0) 5 hm108 rfl (by rw [List.drop_zero]; exact List.take_of_length_le (Nat.le_of_eq (by rw [bcs_length]; exact publicD_len seed))) (by rw [bcs_length]; exact publicD_len seed) (.tmp 16) Ty.ag_voxel_api_Digest rfl le_) rfl (by decide) ?_
     refine lk_ (.string ⟨((sgV seed 1 1 x.h).1).toArray⟩) ?_
     refine plCall (i := 2) 9 [.agg (bcs (publicD seed 1).1).toArray, .int .i64 1, .string ⟨((sgV seed 1 1 x.h).1).toArray⟩] [] [] rfl kr_ (wn rfl) rfl le_ (litArgs kr_) (vverify_any (publicD seed 1).1 1 (sgV seed 1 1 x.h).1 _ (ht.below hm108.bel ht.size) (publicD_len seed) (by have q_ := sgV_le (seed := seed) (i := 1) (fit_of (of_decide_eq_true h12) hix.tick hix.depth hix.counts) hxl_; omega)) ?_
     rintro e w110 ⟨v112, hv112_, rfl, hat_, hA_, hB_, hbz⟩
     have hm111 := Mem.newLv (lx := []) (M := (lvRes [v48] ++ (lvRes [v30] ++ lvRes [x]))) [.arr g2 25 (hcs x.h x.A x.c x.B x.d), .row (.slice A26 ((encH x.h).length) c27) 5 1 ((encH x.h).length) (bcs (encH x.h)), .arr g31 25 (hcs v30.h v30.A v30.c v30.B v30.d), .arr g49 25 (hcs v48.h v48.A v48.c v48.B v48.d), .row (.slice A62 l.length c63) 5 1 l.length (bcs l), .arr g100 27 (bcs (publicD seed 1).1)] hm108 hbz hat_ (Or.inr ⟨hA_, hB_⟩) hdNone (mutApp (fun _ h_ => lvRes_mut h_) (mutApp (fun _ h_ => lvRes_mut h_) (fun _ h_ => lvRes_mut h_)))
     simp only [List.cons_append, List.nil_append] at hm111
     clear hm108
     clear hat_ hA_ hB_ hbz
     refine ⟨_, rfl, ?_⟩
     refine qP rfl ?_
     refine lk_ (.tuple #[.agg (hcs v112.h v112.A v112.c v112.B v112.d).toArray, .int .i64 ((vfV (publicD seed 1).1 1 (sgV seed 1 1 x.h).1).2.1), .int .i64 ((vfV (publicD seed 1).1 1 (sgV seed 1 1 x.h).1).2.2)]) ?_
     refine lk_ (.agg (hcs v112.h v112.A v112.c v112.B v112.d).toArray) ?_
     refine lk_ (.int .i64 ((vfV (publicD seed 1).1 1 (sgV seed 1 1 x.h).1).2.1)) ?_
     refine lk_ (.int .i64 ((vfV (publicD seed 1).1 1 (sgV seed 1 1 x.h).1).2.2)) ?_
     refine plAlloc (z := [.int .i64 0, .slice none 0 0, .int .i64 0, .slice none 0 0]) Ty.ag_voxel_api_Header hm111 (i := 7) rfl (wn rfl) rfl ?_
     intro g113 w115 hm114
     clear hm111
     try simp only [lc1_, lc2_, lc3_, lc4_] at hm114
     replace hm114 := Mem.insAt (M := ((.arr g2 25 (hcs x.h x.A x.c x.B x.d)) :: (.row (.slice A26 ((encH x.h).length) c27) 5 1 ((encH x.h).length) (bcs (encH x.h))) :: (.arr g31 25 (hcs v30.h v30.A v30.c v30.B v30.d)) :: (.arr g49 25 (hcs v48.h v48.A v48.c v48.B v48.d)) :: (.row (.slice A62 l.length c63) 5 1 l.length (bcs l)) :: (.arr g100 27 (bcs (publicD seed 1).1)) :: (lvRes [v112] ++ (lvRes [v48] ++ (lvRes [v30] ++ lvRes [x]))))) 6 hm114
     simp only [List.insertIdx_succ_cons, List.insertIdx_zero] at hm114
     refine qP rfl ?_
     refine plStore 6 Ty.ag_voxel_api_Header hm114 rfl (i := 8) (cs := hcs v112.h v112.A v112.c v112.B v112.d) rfl (wn rfl) rfl le_ le_ rfl rfl kr_ ?_
     intro w117 hm116
     clear hm114
     try simp only [lc1_, lc2_, lc3_, lc4_] at hm116
     refine qNone rfl ?_
     refine lk_ (.int .i64 ((vfV (publicD seed 1).1 1 (sgV seed 1 1 x.h).1).2.1)) ?_
     refine lk_ (.int .i64 ((vfV (publicD seed 1).1 1 (sgV seed 1 1 x.h).1).2.2)) ?_
     refine plD ?_
     refine tn_ hK109 ?_
     refine wpPrune [(4, .pointer (some ⟨g2, 0, none⟩)), (8, .bool false), (9, .bool true), (15, .int .i64 1), (19, .int .i64 ((sgV seed 1 1 x.h).2)), (20, .pointer (some ⟨g113, 0, none⟩)), (21, .int .i64 ((vfV (publicD seed 1).1 1 (sgV seed 1 1 x.h).1).2.1)), (22, .int .i64 ((vfV (publicD seed 1).1 1 (sgV seed 1 1 x.h).1).2.2))] ⟨lg_, ⟨lg_, ⟨lg_, ⟨lg_, ⟨lg_, ⟨lg_, ⟨lg_, ⟨lg_, trivial⟩⟩⟩⟩⟩⟩⟩⟩ (fun X118 => ?_)
     refine wp_seq_k fun K119 hK119 => ?_
     refine plStart ?_
     refine lk_ (.bool true) ?_
     refine lk_ (.bool true) ?_
     refine litVal (v := .int .i64 ((sgV seed 1 1 x.h).2)) rfl (wgY rfl rfl rfl (by decide) kr_) (litRun kr_) rfl (by decide) ?_
     refine litVal (v := .bool true) rfl (wgY rfl rfl rfl (by decide) kr_) (boolTo (decide_eq_true (sg_two (seed := seed) (i := 1) h39 (fit_of (of_decide_eq_true h12) hix.tick hix.depth hix.counts) hxl_ (Or.inr rfl)).1) (eqlRun (A := ((sgV seed 1 1 x.h).2)) (B := 0) (.tmp 104) (.const (.int .i64 0)) rfl le_ le_)) rfl (by decide) ?_
     refine lk_ (.bool true) ?_
     refine lk_ (.bool true) ?_
     refine litVal (v := .int .i64 ((vfV (publicD seed 1).1 1 (sgV seed 1 1 x.h).1).2.2)) rfl (wgY rfl rfl rfl (by decide) kr_) (litRun kr_) rfl (by decide) ?_
     refine litVal (v := .bool true) rfl (wgY rfl rfl rfl (by decide) kr_) (boolTo (decide_eq_true (by rw [(sg_two (seed := seed) (i := 1) h39 (fit_of (of_decide_eq_true h12) hix.tick hix.depth hix.counts) hxl_ (Or.inr rfl)).2])) (eqlRun (A := ((vfV (publicD seed 1).1 1 (sgV seed 1 1 x.h).1).2.2)) (B := 0) (.tmp 108) (.const (.int .i64 0)) rfl le_ le_)) rfl (by decide) ?_
     refine lk_ (.bool true) ?_
     refine lk_ (.bool true) ?_
     refine litVal (v := .int .i64 ((vfV (publicD seed 1).1 1 (sgV seed 1 1 x.h).1).2.1)) rfl (wgY rfl rfl rfl (by decide) kr_) (litRun kr_) rfl (by decide) ?_
     refine litVal (v := .int .i64 1) rfl (wgY rfl rfl rfl (by decide) kr_) (litRun kr_) rfl (by decide) ?_
     refine litVal (v := .bool true) rfl (wgY rfl rfl rfl (by decide) kr_) (boolTo (decide_eq_true (by rw [(sg_two (seed := seed) (i := 1) h39 (fit_of (of_decide_eq_true h12) hix.tick hix.depth hix.counts) hxl_ (Or.inr rfl)).2])) (eqlRun (A := ((vfV (publicD seed 1).1 1 (sgV seed 1 1 x.h).1).2.1)) (B := 1) (.tmp 112) (.tmp 113) rfl le_ le_)) rfl (by decide) ?_
     refine lk_ (.bool true) ?_
     refine lk_ (.bool true) ?_
     refine litVal (v := .agg (hcs v112.h v112.A v112.c v112.B v112.d).toArray) rfl (wgY rfl rfl rfl (by decide) kr_) (gLoadAg (vs := hcs v112.h v112.A v112.c v112.B v112.d) (k := 0) 6 hm116 rfl kr_ kr_ (.tmp 20) Ty.ag_voxel_api_Header rfl le_) rfl (by decide) ?_
     refine litVal (v := .agg (hcs x.h x.A x.c x.B x.d).toArray) rfl (wgY rfl rfl rfl (by decide) kr_) (gLoadAg (vs := hcs x.h x.A x.c x.B x.d) (k := 0) 0 hm116 rfl kr_ kr_ (.tmp 4) Ty.ag_voxel_api_Header rfl le_) rfl (by decide) ?_
     refine plCall (i := 17) 15 [.agg (hcs v112.h v112.A v112.c v112.B v112.d).toArray, .agg (hcs x.h x.A x.c x.B x.d).toArray] [] [] rfl kr_ (wgY rfl rfl rfl (by decide) kr_) rfl le_ (litArgs kr_) (by exact same_any v112.h v112.A v112.c v112.B v112.d x.h x.A x.c x.B x.d _ ((Mem.lv ((Mem.tailN (T := (lvRes [v112] ++ (lvRes [v48] ++ (lvRes [v30] ++ lvRes [x])))) 7 hm116 rfl).sub (L' := lvRes [v112]) (lf_))) v112 List.mem_cons_self).a ((Mem.lv ((Mem.tailN (T := (lvRes [v112] ++ (lvRes [v48] ++ (lvRes [v30] ++ lvRes [x])))) 7 hm116 rfl).sub (L' := lvRes [v112]) (lf_))) v112 List.mem_cons_self).b ((Mem.lv ((Mem.tailN (T := (lvRes [v112] ++ (lvRes [v48] ++ (lvRes [v30] ++ lvRes [x])))) 7 hm116 rfl).sub (L' := lvRes [x]) (up_ (up_ (up_ (rf_)))))) x List.mem_cons_self).a ((Mem.lv ((Mem.tailN (T := (lvRes [v112] ++ (lvRes [v48] ++ (lvRes [v30] ++ lvRes [x])))) 7 hm116 rfl).sub (L' := lvRes [x]) (up_ (up_ (up_ (rf_)))))) x List.mem_cons_self).b (by have q_ := (fit_of (of_decide_eq_true h12) hix.tick hix.depth hix.counts).c20; rw [show v112.h = x.h from (hv112_.trans (by rw [(sg_two (seed := seed) (i := 1) h39 (fit_of (of_decide_eq_true h12) hix.tick hix.depth hix.counts) hxl_ (Or.inr rfl)).2]))]; omega) (by have q_ := (fit_of (of_decide_eq_true h12) hix.tick hix.depth hix.counts).r20; rw [show v112.h = x.h from (hv112_.trans (by rw [(sg_two (seed := seed) (i := 1) h39 (fit_of (of_decide_eq_true h12) hix.tick hix.depth hix.counts) hxl_ (Or.inr rfl)).2]))]; omega)) ?_
     rintro e w120 ⟨rfl, hbz⟩
     have hm121 := hm116.below hbz
     clear hbz hm116
     rw [(decide_eq_true (hv112_.trans (by rw [(sg_two (seed := seed) (i := 1) h39 (fit_of (of_decide_eq_true h12) hix.tick hix.depth hix.counts) hxl_ (Or.inr rfl)).2])))]
     refine ⟨_, rfl, ?_⟩
     refine qP rfl ?_
     refine lk_ (.bool true) ?_
     refine lk_ (.bool true) ?_
     refine plD ?_
     refine tn_ hK119 ?_
     refine wpPrune [(8, .bool true)] ⟨lg_, trivial⟩ (fun X122 => ?_)
     refine wp_ret ?_
     refine bodyPost_ret (v := .bool true) (gRes1 rfl (gResTmp (t := 8) (v := .bool true) (lg_))) rfl ?_
     exact ⟨by rfl, hm121.bel⟩
   refine litVal (v := .bool false) rfl (wn rfl) (boolTo (decide_eq_false h56) (eqlRun (A := ((decH l).2)) (B := 0) (.tmp 65) (.const (.int .i64 0)) rfl le_ le_)) rfl (by decide) ?_
   refine lk_ (.bool false) ?_
   refine ps_ (i := 3) ?_
   refine ps_ (i := 4) ?_
   refine ps_ (i := 5) ?_
   refine ps_ (i := 6) ?_
   refine plSkip (i := 7) rfl (wgU rfl rfl rfl (by decide) kr_) ?_
   refine qP rfl ?_
   refine plSkip (i := 8) rfl (wgU rfl rfl rfl (by decide) kr_) ?_
   refine qP rfl ?_
   refine plSkip (i := 9) rfl (wgU rfl rfl rfl (by decide) kr_) ?_
   refine qP rfl ?_
   refine plSkip (i := 10) rfl (wgU rfl rfl rfl (by decide) kr_) ?_
   refine qP rfl ?_
   refine plSkip (i := 11) rfl (wgU rfl rfl rfl (by decide) kr_) ?_
   refine qP rfl ?_
   refine ps_ (i := 12) ?_
   refine lk_ (.bool false) ?_
   refine plD ?_
   refine tn_ hK55 ?_
   refine wpPrune [(2, .string ⟨seed.toArray⟩), (3, .bool b), (4, .pointer (some ⟨g2, 0, none⟩)), (8, .bool false), (9, .bool true), (12, .bool true), (78, .bool false)] ⟨lg_, ⟨lg_, ⟨lg_, ⟨lg_, ⟨lg_, ⟨lg_, ⟨lg_, trivial⟩⟩⟩⟩⟩⟩⟩ (fun X123 => ?_)
   refine wp_cond_false le_ ?_
   refine wp_skip ?_
   refine tn_ hK54 ?_
   refine wp_seq_k fun K124 hK124 => ?_
   refine wp_seq_k fun K125 hK125 => ?_
   refine plStart ?_
   refine lk_ (.bool true) ?_
   refine lk_ (.bool false) ?_
   refine plD ?_
   refine tn_ hK125 ?_
   refine wp_cond_false le_ ?_
   refine wp_skip ?_
   refine tn_ hK124 ?_
   refine wp_seq_k fun K126 hK126 => ?_
   refine plStart ?_
   refine lk_ (.int .i64 0) ?_
   refine plD ?_
   refine tn_ hK126 ?_
   refine wp_seq_k fun K127 hK127 => ?_
   refine wp_seq_k fun K128 hK128 => ?_
   refine plStart ?_
   rcases b with _ | _
   · refine lk_ (.bool false) ?_
     refine plD ?_
     refine tn_ hK128 ?_
     refine wp_cond_false le_ ?_
     refine wp_skip ?_
     refine tn_ hK127 ?_
     refine wp_seq_k fun K129 hK129 => ?_
     refine plStart ?_
     refine lk_ (.string ⟨seed.toArray⟩) ?_
     refine plCall (i := 1) 17 [.string ⟨seed.toArray⟩, .int .i64 1] [] [] rfl kr_ (wn rfl) rfl le_ (litArgs kr_) (refPublic_any seed 1 _ (htR.below hm52.bel htR.size) (by omega)) ?_
     rintro e w130 ⟨rfl, hbz⟩
     have hm131 := hm52.below hbz
     clear hbz hm52
     refine ⟨_, rfl, ?_⟩
     refine qP rfl ?_
     refine lk_ (.tuple #[.agg (bcs (publicD seed 1).1).toArray, .int .i64 ((publicD seed 1).2)]) ?_
     refine lk_ (.agg (bcs (publicD seed 1).1).toArray) ?_
     refine lk_ (.int .i64 ((publicD seed 1).2)) ?_
     refine plAlloc (z := [.int .u8 0, .int .u8 0, .int .u8 0, .int .u8 0, .int .u8 0, .int .u8 0, .int .u8 0, .int .u8 0, .int .u8 0, .int .u8 0, .int .u8 0, .int .u8 0, .int .u8 0, .int .u8 0, .int .u8 0, .int .u8 0]) Ty.ag_voxel_api_Digest hm131 (i := 5) rfl (wn rfl) rfl ?_
     intro g132 w134 hm133
     clear hm131
     try simp only [lc1_, lc2_, lc3_, lc4_] at hm133
     replace hm133 := Mem.insAt (M := ((.arr g2 25 (hcs x.h x.A x.c x.B x.d)) :: (.row (.slice A26 ((encH x.h).length) c27) 5 1 ((encH x.h).length) (bcs (encH x.h))) :: (.arr g31 25 (hcs v30.h v30.A v30.c v30.B v30.d)) :: (.arr g49 25 (hcs v48.h v48.A v48.c v48.B v48.d)) :: (lvRes [v48] ++ (lvRes [v30] ++ lvRes [x])))) 4 hm133
     simp only [List.insertIdx_succ_cons, List.insertIdx_zero] at hm133
     refine qP rfl ?_
     refine plStore 4 Ty.ag_voxel_api_Digest hm133 rfl (i := 6) (cs := bcs (publicD seed 1).1) rfl (wn rfl) rfl le_ le_ rfl rfl kr_ ?_
     intro w136 hm135
     clear hm133
     try simp only [lc1_, lc2_, lc3_, lc4_] at hm135
     refine qNone rfl ?_
     refine lk_ (.int .i64 ((publicD seed 1).2)) ?_
     refine plD ?_
     refine tn_ hK129 ?_
     refine wp_seq_k fun K137 hK137 => ?_
     refine plStart ?_
     refine lk_ (.string ⟨seed.toArray⟩) ?_
     refine lk_ (.int .i64 0) ?_
     refine litVal (v := .agg (hcs x.h x.A x.c x.B x.d).toArray) rfl (wn rfl) (gLoadAg (vs := hcs x.h x.A x.c x.B x.d) (k := 0) 0 hm135 rfl kr_ kr_ (.tmp 4) Ty.ag_voxel_api_Header rfl le_) rfl (by decide) ?_
     refine plCall (i := 3) 7 [.string ⟨seed.toArray⟩, .int .i64 1, .int .i64 0, .agg (hcs x.h x.A x.c x.B x.d).toArray] [] [] rfl kr_ (wn rfl) rfl le_ (litArgs kr_) (vsign_any seed 1 0 x _ (ht.below hm135.bel ht.size) ((Mem.lv ((Mem.tailN (T := (lvRes [v48] ++ (lvRes [v30] ++ lvRes [x]))) 5 hm135 rfl).sub (L' := lvRes [x]) (up_ (up_ (rf_))))) x List.mem_cons_self) (fit_of (of_decide_eq_true h12) hix.tick hix.depth hix.counts) (by omega)) ?_
     rintro e w138 ⟨rfl, hbz⟩
     have hm139 := hm135.below hbz
     clear hbz hm135
     refine ⟨_, rfl, ?_⟩
     refine qP rfl ?_
     refine lk_ (.tuple #[.string ⟨((sgV seed 1 0 x.h).1).toArray⟩, .int .i64 ((sgV seed 1 0 x.h).2)]) ?_
     refine lk_ (.string ⟨((sgV seed 1 0 x.h).1).toArray⟩) ?_
     refine lk_ (.int .i64 ((sgV seed 1 0 x.h).2)) ?_
     refine lk_ (.string ⟨((sgV seed 1 0 x.h).1).toArray⟩) ?_
     refine lk_ (.int .i64 ((sgV seed 1 0 x.h).2)) ?_
     refine plD ?_
     refine tn_ hK137 ?_
     refine wpPrune [(4, .pointer (some ⟨g2, 0, none⟩)), (8, .bool false), (9, .bool true), (15, .int .i64 0), (16, .pointer (some ⟨g132, 0, none⟩)), (18, .string ⟨((sgV seed 1 0 x.h).1).toArray⟩), (19, .int .i64 ((sgV seed 1 0 x.h).2))] ⟨lg_, ⟨lg_, ⟨lg_, ⟨lg_, ⟨lg_, ⟨lg_, ⟨lg_, trivial⟩⟩⟩⟩⟩⟩⟩ (fun X140 => ?_)
     refine wp_seq_k fun K141 hK141 => ?_
     refine plStart ?_
     refine litVal (v := .agg (bcs (publicD seed 1).1).toArray) rfl (wn rfl) (gLoadAg (vs := bcs (publicD seed 1).1) (k := 0) 4 hm139 rfl (by rw [List.drop_zero]; exact List.take_of_length_le (Nat.le_of_eq (by rw [bcs_length]; exact publicD_len seed))) (by rw [bcs_length]; exact publicD_len seed) (.tmp 16) Ty.ag_voxel_api_Digest rfl le_) rfl (by decide) ?_
     refine lk_ (.string ⟨((sgV seed 1 0 x.h).1).toArray⟩) ?_
     refine plCall (i := 2) 9 [.agg (bcs (publicD seed 1).1).toArray, .int .i64 1, .string ⟨((sgV seed 1 0 x.h).1).toArray⟩] [] [] rfl kr_ (wn rfl) rfl le_ (litArgs kr_) (vverify_any (publicD seed 1).1 1 (sgV seed 1 0 x.h).1 _ (ht.below hm139.bel ht.size) (publicD_len seed) (by have q_ := sgV_le (seed := seed) (i := 0) (fit_of (of_decide_eq_true h12) hix.tick hix.depth hix.counts) hxl_; omega)) ?_
     rintro e w142 ⟨v144, hv144_, rfl, hat_, hA_, hB_, hbz⟩
     have hm143 := Mem.newLv (lx := []) (M := (lvRes [v48] ++ (lvRes [v30] ++ lvRes [x]))) [.arr g2 25 (hcs x.h x.A x.c x.B x.d), .row (.slice A26 ((encH x.h).length) c27) 5 1 ((encH x.h).length) (bcs (encH x.h)), .arr g31 25 (hcs v30.h v30.A v30.c v30.B v30.d), .arr g49 25 (hcs v48.h v48.A v48.c v48.B v48.d), .arr g132 27 (bcs (publicD seed 1).1)] hm139 hbz hat_ (Or.inr ⟨hA_, hB_⟩) hdNone (mutApp (fun _ h_ => lvRes_mut h_) (mutApp (fun _ h_ => lvRes_mut h_) (fun _ h_ => lvRes_mut h_)))
     simp only [List.cons_append, List.nil_append] at hm143
     clear hm139
     clear hat_ hA_ hB_ hbz
     refine ⟨_, rfl, ?_⟩
     refine qP rfl ?_
     refine lk_ (.tuple #[.agg (hcs v144.h v144.A v144.c v144.B v144.d).toArray, .int .i64 ((vfV (publicD seed 1).1 1 (sgV seed 1 0 x.h).1).2.1), .int .i64 ((vfV (publicD seed 1).1 1 (sgV seed 1 0 x.h).1).2.2)]) ?_
     refine lk_ (.agg (hcs v144.h v144.A v144.c v144.B v144.d).toArray) ?_
     refine lk_ (.int .i64 ((vfV (publicD seed 1).1 1 (sgV seed 1 0 x.h).1).2.1)) ?_
     refine lk_ (.int .i64 ((vfV (publicD seed 1).1 1 (sgV seed 1 0 x.h).1).2.2)) ?_
     refine plAlloc (z := [.int .i64 0, .slice none 0 0, .int .i64 0, .slice none 0 0]) Ty.ag_voxel_api_Header hm143 (i := 7) rfl (wn rfl) rfl ?_
     intro g145 w147 hm146
     clear hm143
     try simp only [lc1_, lc2_, lc3_, lc4_] at hm146
     replace hm146 := Mem.insAt (M := ((.arr g2 25 (hcs x.h x.A x.c x.B x.d)) :: (.row (.slice A26 ((encH x.h).length) c27) 5 1 ((encH x.h).length) (bcs (encH x.h))) :: (.arr g31 25 (hcs v30.h v30.A v30.c v30.B v30.d)) :: (.arr g49 25 (hcs v48.h v48.A v48.c v48.B v48.d)) :: (.arr g132 27 (bcs (publicD seed 1).1)) :: (lvRes [v144] ++ (lvRes [v48] ++ (lvRes [v30] ++ lvRes [x]))))) 5 hm146
     simp only [List.insertIdx_succ_cons, List.insertIdx_zero] at hm146
     refine qP rfl ?_
     refine plStore 5 Ty.ag_voxel_api_Header hm146 rfl (i := 8) (cs := hcs v144.h v144.A v144.c v144.B v144.d) rfl (wn rfl) rfl le_ le_ rfl rfl kr_ ?_
     intro w149 hm148
     clear hm146
     try simp only [lc1_, lc2_, lc3_, lc4_] at hm148
     refine qNone rfl ?_
     refine lk_ (.int .i64 ((vfV (publicD seed 1).1 1 (sgV seed 1 0 x.h).1).2.1)) ?_
     refine lk_ (.int .i64 ((vfV (publicD seed 1).1 1 (sgV seed 1 0 x.h).1).2.2)) ?_
     refine plD ?_
     refine tn_ hK141 ?_
     refine wp_seq_k fun K150 hK150 => ?_
     refine plStart ?_
     refine lk_ (.bool true) ?_
     refine lk_ (.bool true) ?_
     refine litVal (v := .int .i64 ((sgV seed 1 0 x.h).2)) rfl (wgY rfl rfl rfl (by decide) kr_) (litRun kr_) rfl (by decide) ?_
     refine litVal (v := .bool true) rfl (wgY rfl rfl rfl (by decide) kr_) (boolTo (decide_eq_true (sg_two (seed := seed) (i := 0) h39 (fit_of (of_decide_eq_true h12) hix.tick hix.depth hix.counts) hxl_ (Or.inl rfl)).1) (eqlRun (A := ((sgV seed 1 0 x.h).2)) (B := 0) (.tmp 104) (.const (.int .i64 0)) rfl le_ le_)) rfl (by decide) ?_
     refine lk_ (.bool true) ?_
     refine lk_ (.bool true) ?_
     refine litVal (v := .int .i64 ((vfV (publicD seed 1).1 1 (sgV seed 1 0 x.h).1).2.2)) rfl (wgY rfl rfl rfl (by decide) kr_) (litRun kr_) rfl (by decide) ?_
     refine litVal (v := .bool true) rfl (wgY rfl rfl rfl (by decide) kr_) (boolTo (decide_eq_true (by rw [(sg_two (seed := seed) (i := 0) h39 (fit_of (of_decide_eq_true h12) hix.tick hix.depth hix.counts) hxl_ (Or.inl rfl)).2])) (eqlRun (A := ((vfV (publicD seed 1).1 1 (sgV seed 1 0 x.h).1).2.2)) (B := 0) (.tmp 108) (.const (.int .i64 0)) rfl le_ le_)) rfl (by decide) ?_
     refine lk_ (.bool true) ?_
     refine lk_ (.bool true) ?_
     refine litVal (v := .int .i64 ((vfV (publicD seed 1).1 1 (sgV seed 1 0 x.h).1).2.1)) rfl (wgY rfl rfl rfl (by decide) kr_) (litRun kr_) rfl (by decide) ?_
     refine litVal (v := .int .i64 0) rfl (wgY rfl rfl rfl (by decide) kr_) (litRun kr_) rfl (by decide) ?_
     refine litVal (v := .bool true) rfl (wgY rfl rfl rfl (by decide) kr_) (boolTo (decide_eq_true (by rw [(sg_two (seed := seed) (i := 0) h39 (fit_of (of_decide_eq_true h12) hix.tick hix.depth hix.counts) hxl_ (Or.inl rfl)).2])) (eqlRun (A := ((vfV (publicD seed 1).1 1 (sgV seed 1 0 x.h).1).2.1)) (B := 0) (.tmp 112) (.tmp 113) rfl le_ le_)) rfl (by decide) ?_
     refine lk_ (.bool true) ?_
     refine lk_ (.bool true) ?_
     refine litVal (v := .agg (hcs v144.h v144.A v144.c v144.B v144.d).toArray) rfl (wgY rfl rfl rfl (by decide) kr_) (gLoadAg (vs := hcs v144.h v144.A v144.c v144.B v144.d) (k := 0) 5 hm148 rfl kr_ kr_ (.tmp 20) Ty.ag_voxel_api_Header rfl le_) rfl (by decide) ?_
     refine litVal (v := .agg (hcs x.h x.A x.c x.B x.d).toArray) rfl (wgY rfl rfl rfl (by decide) kr_) (gLoadAg (vs := hcs x.h x.A x.c x.B x.d) (k := 0) 0 hm148 rfl kr_ kr_ (.tmp 4) Ty.ag_voxel_api_Header rfl le_) rfl (by decide) ?_
     refine plCall (i := 17) 15 [.agg (hcs v144.h v144.A v144.c v144.B v144.d).toArray, .agg (hcs x.h x.A x.c x.B x.d).toArray] [] [] rfl kr_ (wgY rfl rfl rfl (by decide) kr_) rfl le_ (litArgs kr_) (by exact same_any v144.h v144.A v144.c v144.B v144.d x.h x.A x.c x.B x.d _ ((Mem.lv ((Mem.tailN (T := (lvRes [v144] ++ (lvRes [v48] ++ (lvRes [v30] ++ lvRes [x])))) 6 hm148 rfl).sub (L' := lvRes [v144]) (lf_))) v144 List.mem_cons_self).a ((Mem.lv ((Mem.tailN (T := (lvRes [v144] ++ (lvRes [v48] ++ (lvRes [v30] ++ lvRes [x])))) 6 hm148 rfl).sub (L' := lvRes [v144]) (lf_))) v144 List.mem_cons_self).b ((Mem.lv ((Mem.tailN (T := (lvRes [v144] ++ (lvRes [v48] ++ (lvRes [v30] ++ lvRes [x])))) 6 hm148 rfl).sub (L' := lvRes [x]) (up_ (up_ (up_ (rf_)))))) x List.mem_cons_self).a ((Mem.lv ((Mem.tailN (T := (lvRes [v144] ++ (lvRes [v48] ++ (lvRes [v30] ++ lvRes [x])))) 6 hm148 rfl).sub (L' := lvRes [x]) (up_ (up_ (up_ (rf_)))))) x List.mem_cons_self).b (by have q_ := (fit_of (of_decide_eq_true h12) hix.tick hix.depth hix.counts).c20; rw [show v144.h = x.h from (hv144_.trans (by rw [(sg_two (seed := seed) (i := 0) h39 (fit_of (of_decide_eq_true h12) hix.tick hix.depth hix.counts) hxl_ (Or.inl rfl)).2]))]; omega) (by have q_ := (fit_of (of_decide_eq_true h12) hix.tick hix.depth hix.counts).r20; rw [show v144.h = x.h from (hv144_.trans (by rw [(sg_two (seed := seed) (i := 0) h39 (fit_of (of_decide_eq_true h12) hix.tick hix.depth hix.counts) hxl_ (Or.inl rfl)).2]))]; omega)) ?_
     rintro e w151 ⟨rfl, hbz⟩
     have hm152 := hm148.below hbz
     clear hbz hm148
     rw [(decide_eq_true (hv144_.trans (by rw [(sg_two (seed := seed) (i := 0) h39 (fit_of (of_decide_eq_true h12) hix.tick hix.depth hix.counts) hxl_ (Or.inl rfl)).2])))]
     refine ⟨_, rfl, ?_⟩
     refine qP rfl ?_
     refine lk_ (.bool true) ?_
     refine lk_ (.bool true) ?_
     refine plD ?_
     refine tn_ hK150 ?_
     refine wpPrune [(8, .bool true)] ⟨lg_, trivial⟩ (fun X153 => ?_)
     refine wp_ret ?_
     refine bodyPost_ret (v := .bool true) (gRes1 rfl (gResTmp (t := 8) (v := .bool true) (lg_))) rfl ?_
     exact ⟨by rfl, hm152.bel⟩
   refine lk_ (.bool true) ?_
   refine plD ?_
   refine tn_ hK128 ?_
   refine wp_cond_true le_ ?_
   refine plStart ?_
   refine lk_ (.int .i64 1) ?_
   refine plD ?_
   refine tn_ hK127 ?_
   refine wp_seq_k fun K154 hK154 => ?_
   refine plStart ?_
   refine lk_ (.string ⟨seed.toArray⟩) ?_
   refine plCall (i := 1) 17 [.string ⟨seed.toArray⟩, .int .i64 1] [] [] rfl kr_ (wn rfl) rfl le_ (litArgs kr_) (refPublic_any seed 1 _ (htR.below hm52.bel htR.size) (by omega)) ?_
   rintro e w155 ⟨rfl, hbz⟩
   have hm156 := hm52.below hbz
   clear hbz hm52
   refine ⟨_, rfl, ?_⟩
   refine qP rfl ?_
   refine lk_ (.tuple #[.agg (bcs (publicD seed 1).1).toArray, .int .i64 ((publicD seed 1).2)]) ?_
   refine lk_ (.agg (bcs (publicD seed 1).1).toArray) ?_
   refine lk_ (.int .i64 ((publicD seed 1).2)) ?_
   refine plAlloc (z := [.int .u8 0, .int .u8 0, .int .u8 0, .int .u8 0, .int .u8 0, .int .u8 0, .int .u8 0, .int .u8 0, .int .u8 0, .int .u8 0, .int .u8 0, .int .u8 0, .int .u8 0, .int .u8 0, .int .u8 0, .int .u8 0]) Ty.ag_voxel_api_Digest hm156 (i := 5) rfl (wn rfl) rfl ?_
   intro g157 w159 hm158
   clear hm156
   try simp only [lc1_, lc2_, lc3_, lc4_] at hm158
   replace hm158 := Mem.insAt (M := ((.arr g2 25 (hcs x.h x.A x.c x.B x.d)) :: (.row (.slice A26 ((encH x.h).length) c27) 5 1 ((encH x.h).length) (bcs (encH x.h))) :: (.arr g31 25 (hcs v30.h v30.A v30.c v30.B v30.d)) :: (.arr g49 25 (hcs v48.h v48.A v48.c v48.B v48.d)) :: (lvRes [v48] ++ (lvRes [v30] ++ lvRes [x])))) 4 hm158
   simp only [List.insertIdx_succ_cons, List.insertIdx_zero] at hm158
   refine qP rfl ?_
   refine plStore 4 Ty.ag_voxel_api_Digest hm158 rfl (i := 6) (cs := bcs (publicD seed 1).1) rfl (wn rfl) rfl le_ le_ rfl rfl kr_ ?_
   intro w161 hm160
   clear hm158
   try simp only [lc1_, lc2_, lc3_, lc4_] at hm160
   refine qNone rfl ?_
   refine lk_ (.int .i64 ((publicD seed 1).2)) ?_
   refine plD ?_
   refine tn_ hK154 ?_
   refine wpPrune [(2, .string ⟨seed.toArray⟩), (4, .pointer (some ⟨g2, 0, none⟩)), (8, .bool false), (9, .bool true), (15, .int .i64 1), (16, .pointer (some ⟨g157, 0, none⟩))] ⟨lg_, ⟨lg_, ⟨lg_, ⟨lg_, ⟨lg_, ⟨lg_, trivial⟩⟩⟩⟩⟩⟩ (fun X162 => ?_)
   refine wp_seq_k fun K163 hK163 => ?_
   refine plStart ?_
   refine lk_ (.string ⟨seed.toArray⟩) ?_
   refine lk_ (.int .i64 1) ?_
   refine litVal (v := .agg (hcs x.h x.A x.c x.B x.d).toArray) rfl (wn rfl) (gLoadAg (vs := hcs x.h x.A x.c x.B x.d) (k := 0) 0 hm160 rfl kr_ kr_ (.tmp 4) Ty.ag_voxel_api_Header rfl le_) rfl (by decide) ?_
   refine plCall (i := 3) 7 [.string ⟨seed.toArray⟩, .int .i64 1, .int .i64 1, .agg (hcs x.h x.A x.c x.B x.d).toArray] [] [] rfl kr_ (wn rfl) rfl le_ (litArgs kr_) (vsign_any seed 1 1 x _ (ht.below hm160.bel ht.size) ((Mem.lv ((Mem.tailN (T := (lvRes [v48] ++ (lvRes [v30] ++ lvRes [x]))) 5 hm160 rfl).sub (L' := lvRes [x]) (up_ (up_ (rf_))))) x List.mem_cons_self) (fit_of (of_decide_eq_true h12) hix.tick hix.depth hix.counts) (by omega)) ?_
   rintro e w164 ⟨rfl, hbz⟩
   have hm165 := hm160.below hbz
   clear hbz hm160
   refine ⟨_, rfl, ?_⟩
   refine qP rfl ?_
   refine lk_ (.tuple #[.string ⟨((sgV seed 1 1 x.h).1).toArray⟩, .int .i64 ((sgV seed 1 1 x.h).2)]) ?_
   refine lk_ (.string ⟨((sgV seed 1 1 x.h).1).toArray⟩) ?_
   refine lk_ (.int .i64 ((sgV seed 1 1 x.h).2)) ?_
   refine lk_ (.string ⟨((sgV seed 1 1 x.h).1).toArray⟩) ?_
   refine lk_ (.int .i64 ((sgV seed 1 1 x.h).2)) ?_
   refine plD ?_
   refine tn_ hK163 ?_
   refine wp_seq_k fun K166 hK166 => ?_
   refine plStart ?_
   refine litVal (v := .agg (bcs (publicD seed 1).1).toArray) rfl (wn rfl) (gLoadAg (vs := bcs (publicD seed 1).1) (k := 0) 4 hm165 rfl (by rw [List.drop_zero]; exact List.take_of_length_le (Nat.le_of_eq (by rw [bcs_length]; exact publicD_len seed))) (by rw [bcs_length]; exact publicD_len seed) (.tmp 16) Ty.ag_voxel_api_Digest rfl le_) rfl (by decide) ?_
   refine lk_ (.string ⟨((sgV seed 1 1 x.h).1).toArray⟩) ?_
   refine plCall (i := 2) 9 [.agg (bcs (publicD seed 1).1).toArray, .int .i64 1, .string ⟨((sgV seed 1 1 x.h).1).toArray⟩] [] [] rfl kr_ (wn rfl) rfl le_ (litArgs kr_) (vverify_any (publicD seed 1).1 1 (sgV seed 1 1 x.h).1 _ (ht.below hm165.bel ht.size) (publicD_len seed) (by have q_ := sgV_le (seed := seed) (i := 1) (fit_of (of_decide_eq_true h12) hix.tick hix.depth hix.counts) hxl_; omega)) ?_
   rintro e w167 ⟨v169, hv169_, rfl, hat_, hA_, hB_, hbz⟩
   have hm168 := Mem.newLv (lx := []) (M := (lvRes [v48] ++ (lvRes [v30] ++ lvRes [x]))) [.arr g2 25 (hcs x.h x.A x.c x.B x.d), .row (.slice A26 ((encH x.h).length) c27) 5 1 ((encH x.h).length) (bcs (encH x.h)), .arr g31 25 (hcs v30.h v30.A v30.c v30.B v30.d), .arr g49 25 (hcs v48.h v48.A v48.c v48.B v48.d), .arr g157 27 (bcs (publicD seed 1).1)] hm165 hbz hat_ (Or.inr ⟨hA_, hB_⟩) hdNone (mutApp (fun _ h_ => lvRes_mut h_) (mutApp (fun _ h_ => lvRes_mut h_) (fun _ h_ => lvRes_mut h_)))
   simp only [List.cons_append, List.nil_append] at hm168
   clear hm165
   clear hat_ hA_ hB_ hbz
   refine ⟨_, rfl, ?_⟩
   refine qP rfl ?_
   refine lk_ (.tuple #[.agg (hcs v169.h v169.A v169.c v169.B v169.d).toArray, .int .i64 ((vfV (publicD seed 1).1 1 (sgV seed 1 1 x.h).1).2.1), .int .i64 ((vfV (publicD seed 1).1 1 (sgV seed 1 1 x.h).1).2.2)]) ?_
   refine lk_ (.agg (hcs v169.h v169.A v169.c v169.B v169.d).toArray) ?_
   refine lk_ (.int .i64 ((vfV (publicD seed 1).1 1 (sgV seed 1 1 x.h).1).2.1)) ?_
   refine lk_ (.int .i64 ((vfV (publicD seed 1).1 1 (sgV seed 1 1 x.h).1).2.2)) ?_
   refine plAlloc (z := [.int .i64 0, .slice none 0 0, .int .i64 0, .slice none 0 0]) Ty.ag_voxel_api_Header hm168 (i := 7) rfl (wn rfl) rfl ?_
   intro g170 w172 hm171
   clear hm168
   try simp only [lc1_, lc2_, lc3_, lc4_] at hm171
   replace hm171 := Mem.insAt (M := ((.arr g2 25 (hcs x.h x.A x.c x.B x.d)) :: (.row (.slice A26 ((encH x.h).length) c27) 5 1 ((encH x.h).length) (bcs (encH x.h))) :: (.arr g31 25 (hcs v30.h v30.A v30.c v30.B v30.d)) :: (.arr g49 25 (hcs v48.h v48.A v48.c v48.B v48.d)) :: (.arr g157 27 (bcs (publicD seed 1).1)) :: (lvRes [v169] ++ (lvRes [v48] ++ (lvRes [v30] ++ lvRes [x]))))) 5 hm171
   simp only [List.insertIdx_succ_cons, List.insertIdx_zero] at hm171
   refine qP rfl ?_
   refine plStore 5 Ty.ag_voxel_api_Header hm171 rfl (i := 8) (cs := hcs v169.h v169.A v169.c v169.B v169.d) rfl (wn rfl) rfl le_ le_ rfl rfl kr_ ?_
   intro w174 hm173
   clear hm171
   try simp only [lc1_, lc2_, lc3_, lc4_] at hm173
   refine qNone rfl ?_
   refine lk_ (.int .i64 ((vfV (publicD seed 1).1 1 (sgV seed 1 1 x.h).1).2.1)) ?_
   refine lk_ (.int .i64 ((vfV (publicD seed 1).1 1 (sgV seed 1 1 x.h).1).2.2)) ?_
   refine plD ?_
   refine tn_ hK166 ?_
   refine wpPrune [(4, .pointer (some ⟨g2, 0, none⟩)), (8, .bool false), (9, .bool true), (15, .int .i64 1), (19, .int .i64 ((sgV seed 1 1 x.h).2)), (20, .pointer (some ⟨g170, 0, none⟩)), (21, .int .i64 ((vfV (publicD seed 1).1 1 (sgV seed 1 1 x.h).1).2.1)), (22, .int .i64 ((vfV (publicD seed 1).1 1 (sgV seed 1 1 x.h).1).2.2))] ⟨lg_, ⟨lg_, ⟨lg_, ⟨lg_, ⟨lg_, ⟨lg_, ⟨lg_, ⟨lg_, trivial⟩⟩⟩⟩⟩⟩⟩⟩ (fun X175 => ?_)
   refine wp_seq_k fun K176 hK176 => ?_
   refine plStart ?_
   refine lk_ (.bool true) ?_
   refine lk_ (.bool true) ?_
   refine litVal (v := .int .i64 ((sgV seed 1 1 x.h).2)) rfl (wgY rfl rfl rfl (by decide) kr_) (litRun kr_) rfl (by decide) ?_
   refine litVal (v := .bool true) rfl (wgY rfl rfl rfl (by decide) kr_) (boolTo (decide_eq_true (sg_two (seed := seed) (i := 1) h39 (fit_of (of_decide_eq_true h12) hix.tick hix.depth hix.counts) hxl_ (Or.inr rfl)).1) (eqlRun (A := ((sgV seed 1 1 x.h).2)) (B := 0) (.tmp 104) (.const (.int .i64 0)) rfl le_ le_)) rfl (by decide) ?_
   refine lk_ (.bool true) ?_
   refine lk_ (.bool true) ?_
   refine litVal (v := .int .i64 ((vfV (publicD seed 1).1 1 (sgV seed 1 1 x.h).1).2.2)) rfl (wgY rfl rfl rfl (by decide) kr_) (litRun kr_) rfl (by decide) ?_
   refine litVal (v := .bool true) rfl (wgY rfl rfl rfl (by decide) kr_) (boolTo (decide_eq_true (by rw [(sg_two (seed := seed) (i := 1) h39 (fit_of (of_decide_eq_true h12) hix.tick hix.depth hix.counts) hxl_ (Or.inr rfl)).2])) (eqlRun (A := ((vfV (publicD seed 1).1 1 (sgV seed 1 1 x.h).1).2.2)) (B := 0) (.tmp 108) (.const (.int .i64 0)) rfl le_ le_)) rfl (by decide) ?_
   refine lk_ (.bool true) ?_
   refine lk_ (.bool true) ?_
   refine litVal (v := .int .i64 ((vfV (publicD seed 1).1 1 (sgV seed 1 1 x.h).1).2.1)) rfl (wgY rfl rfl rfl (by decide) kr_) (litRun kr_) rfl (by decide) ?_
   refine litVal (v := .int .i64 1) rfl (wgY rfl rfl rfl (by decide) kr_) (litRun kr_) rfl (by decide) ?_
   refine litVal (v := .bool true) rfl (wgY rfl rfl rfl (by decide) kr_) (boolTo (decide_eq_true (by rw [(sg_two (seed := seed) (i := 1) h39 (fit_of (of_decide_eq_true h12) hix.tick hix.depth hix.counts) hxl_ (Or.inr rfl)).2])) (eqlRun (A := ((vfV (publicD seed 1).1 1 (sgV seed 1 1 x.h).1).2.1)) (B := 1) (.tmp 112) (.tmp 113) rfl le_ le_)) rfl (by decide) ?_
   refine lk_ (.bool true) ?_
   refine lk_ (.bool true) ?_
   refine litVal (v := .agg (hcs v169.h v169.A v169.c v169.B v169.d).toArray) rfl (wgY rfl rfl rfl (by decide) kr_) (gLoadAg (vs := hcs v169.h v169.A v169.c v169.B v169.d) (k := 0) 5 hm173 rfl kr_ kr_ (.tmp 20) Ty.ag_voxel_api_Header rfl le_) rfl (by decide) ?_
   refine litVal (v := .agg (hcs x.h x.A x.c x.B x.d).toArray) rfl (wgY rfl rfl rfl (by decide) kr_) (gLoadAg (vs := hcs x.h x.A x.c x.B x.d) (k := 0) 0 hm173 rfl kr_ kr_ (.tmp 4) Ty.ag_voxel_api_Header rfl le_) rfl (by decide) ?_
   refine plCall (i := 17) 15 [.agg (hcs v169.h v169.A v169.c v169.B v169.d).toArray, .agg (hcs x.h x.A x.c x.B x.d).toArray] [] [] rfl kr_ (wgY rfl rfl rfl (by decide) kr_) rfl le_ (litArgs kr_) (by exact same_any v169.h v169.A v169.c v169.B v169.d x.h x.A x.c x.B x.d _ ((Mem.lv ((Mem.tailN (T := (lvRes [v169] ++ (lvRes [v48] ++ (lvRes [v30] ++ lvRes [x])))) 6 hm173 rfl).sub (L' := lvRes [v169]) (lf_))) v169 List.mem_cons_self).a ((Mem.lv ((Mem.tailN (T := (lvRes [v169] ++ (lvRes [v48] ++ (lvRes [v30] ++ lvRes [x])))) 6 hm173 rfl).sub (L' := lvRes [v169]) (lf_))) v169 List.mem_cons_self).b ((Mem.lv ((Mem.tailN (T := (lvRes [v169] ++ (lvRes [v48] ++ (lvRes [v30] ++ lvRes [x])))) 6 hm173 rfl).sub (L' := lvRes [x]) (up_ (up_ (up_ (rf_)))))) x List.mem_cons_self).a ((Mem.lv ((Mem.tailN (T := (lvRes [v169] ++ (lvRes [v48] ++ (lvRes [v30] ++ lvRes [x])))) 6 hm173 rfl).sub (L' := lvRes [x]) (up_ (up_ (up_ (rf_)))))) x List.mem_cons_self).b (by have q_ := (fit_of (of_decide_eq_true h12) hix.tick hix.depth hix.counts).c20; rw [show v169.h = x.h from (hv169_.trans (by rw [(sg_two (seed := seed) (i := 1) h39 (fit_of (of_decide_eq_true h12) hix.tick hix.depth hix.counts) hxl_ (Or.inr rfl)).2]))]; omega) (by have q_ := (fit_of (of_decide_eq_true h12) hix.tick hix.depth hix.counts).r20; rw [show v169.h = x.h from (hv169_.trans (by rw [(sg_two (seed := seed) (i := 1) h39 (fit_of (of_decide_eq_true h12) hix.tick hix.depth hix.counts) hxl_ (Or.inr rfl)).2]))]; omega)) ?_
   rintro e w177 ⟨rfl, hbz⟩
   have hm178 := hm173.below hbz
   clear hbz hm173
   rw [(decide_eq_true (hv169_.trans (by rw [(sg_two (seed := seed) (i := 1) h39 (fit_of (of_decide_eq_true h12) hix.tick hix.depth hix.counts) hxl_ (Or.inr rfl)).2])))]
   refine ⟨_, rfl, ?_⟩
   refine qP rfl ?_
   refine lk_ (.bool true) ?_
   refine lk_ (.bool true) ?_
   refine plD ?_
   refine tn_ hK176 ?_
   refine wpPrune [(8, .bool true)] ⟨lg_, trivial⟩ (fun X179 => ?_)
   refine wp_ret ?_
   refine bodyPost_ret (v := .bool true) (gRes1 rfl (gResTmp (t := 8) (v := .bool true) (lg_))) rfl ?_
   exact ⟨by rfl, hm178.bel⟩
 refine litVal (v := .bool false) rfl (wn rfl) (boolTo (decide_eq_false h39) (eqlRun (A := (ckH x.h)) (B := 0) (.tmp 45) (.const (.int .i64 0)) rfl le_ le_)) rfl (by decide) ?_
 refine lk_ (.bool false) ?_
 refine plD ?_
 refine tn_ hK36 ?_
 refine wp_seq_k fun K180 hK180 => ?_
 refine wp_seq_k fun K181 hK181 => ?_
 refine plStart ?_
 refine lk_ (.int .i64 (ckH x.h)) ?_
 refine litVal (v := .bool false) rfl (wn rfl) (boolTo (decide_eq_false h39) (eqlRun (A := (ckH x.h)) (B := 0) (.tmp 47) (.const (.int .i64 0)) rfl le_ le_)) rfl (by decide) ?_
 refine lk_ (.bool false) ?_
 refine lk_ (.bool false) ?_
 refine lk_ (.bool false) ?_
 refine litVal (v := .bool false) rfl (wgY rfl rfl rfl (by decide) kr_) (litRun kr_) rfl (by decide) ?_
 refine litVal (v := .bool false) rfl (wgY rfl rfl rfl (by decide) kr_) (litRun kr_) rfl (by decide) ?_
 refine ps_ (i := 7) ?_
 refine ps_ (i := 8) ?_
 refine ps_ (i := 9) ?_
 refine ps_ (i := 10) ?_
 refine litVal (v := .bool false) rfl (wgY rfl rfl rfl (by decide) kr_) (litRun kr_) rfl (by decide) ?_
 refine lk_ (.bool false) ?_
 refine plD ?_
 refine tn_ hK181 ?_
 refine wpPrune [(1, .slice A l.length c), (2, .string ⟨seed.toArray⟩), (3, .bool b), (4, .pointer (some ⟨g2, 0, none⟩)), (8, .bool false), (9, .bool true), (12, .bool false), (59, .bool false)] ⟨lg_, ⟨lg_, ⟨lg_, ⟨lg_, ⟨lg_, ⟨lg_, ⟨lg_, ⟨lg_, trivial⟩⟩⟩⟩⟩⟩⟩⟩ (fun X182 => ?_)
 refine wp_cond_false le_ ?_
 refine wp_skip ?_
 refine tn_ hK180 ?_
 refine wp_seq_k fun K183 hK183 => ?_
 refine plStart ?_
 refine lk_ (.slice A l.length c) ?_
 refine plCall (i := 1) 12 [.slice A l.length c] [] [] rfl kr_ (wn rfl) rfl le_ (litArgs kr_) (by exact LD.decode_any l A c _ ((Rd.below hr hm38.bel).more hm38.bel.size) (by omega)) ?_
 rintro e w184 ⟨A_, c_, B_, d_, rfl, ha_, hb_, hA_, hB_, hbz⟩
 obtain ⟨v186, hv186_, rfl, rfl, rfl, rfl, hat_⟩ : ∃ v_ : Lv, v_.h = (decH l).1 ∧ v_.A = A_ ∧ v_.c = c_ ∧ v_.B = B_ ∧ v_.d = d_ ∧ v_.At w184 := ⟨⟨0, 0, (decH l).1, A_, c_, B_, d_⟩, rfl, rfl, rfl, rfl, rfl, ⟨ha_, hb_⟩⟩
 rw [← hv186_] at ha_ hb_ ⊢
 have hm185 := Mem.newLv (lx := []) (M := (lvRes [v30] ++ lvRes [x])) [.arr g2 25 (hcs x.h x.A x.c x.B x.d), .row (.slice A26 ((encH x.h).length) c27) 5 1 ((encH x.h).length) (bcs (encH x.h)), .arr g31 25 (hcs v30.h v30.A v30.c v30.B v30.d)] hm38 hbz hat_ (Or.inr ⟨hA_, hB_⟩) hdNone (mutApp (fun _ h_ => lvRes_mut h_) (fun _ h_ => lvRes_mut h_))
 simp only [List.cons_append, List.nil_append] at hm185
 clear hm38
 clear hat_ hA_ hB_ hbz ha_ hb_
 refine ⟨_, rfl, ?_⟩
 refine qP rfl ?_
 refine lk_ (.tuple #[.agg (hcs v186.h v186.A v186.c v186.B v186.d).toArray, .int .i64 ((decH l).2)]) ?_
 refine lk_ (.agg (hcs v186.h v186.A v186.c v186.B v186.d).toArray) ?_
 refine lk_ (.int .i64 ((decH l).2)) ?_
 refine plAlloc (z := [.int .i64 0, .slice none 0 0, .int .i64 0, .slice none 0 0]) Ty.ag_voxel_api_Header hm185 (i := 5) rfl (wn rfl) rfl ?_
 intro g187 w189 hm188
 clear hm185
 try simp only [lc1_, lc2_, lc3_, lc4_] at hm188
 replace hm188 := Mem.insAt (M := ((.arr g2 25 (hcs x.h x.A x.c x.B x.d)) :: (.row (.slice A26 ((encH x.h).length) c27) 5 1 ((encH x.h).length) (bcs (encH x.h))) :: (.arr g31 25 (hcs v30.h v30.A v30.c v30.B v30.d)) :: (lvRes [v186] ++ (lvRes [v30] ++ lvRes [x])))) 3 hm188
 simp only [List.insertIdx_succ_cons, List.insertIdx_zero] at hm188
 refine qP rfl ?_
 refine plStore 3 Ty.ag_voxel_api_Header hm188 rfl (i := 6) (cs := hcs v186.h v186.A v186.c v186.B v186.d) rfl (wn rfl) rfl le_ le_ rfl rfl kr_ ?_
 intro w191 hm190
 clear hm188
 try simp only [lc1_, lc2_, lc3_, lc4_] at hm190
 refine qNone rfl ?_
 refine lk_ (.int .i64 ((decH l).2)) ?_
 refine plD ?_
 refine tn_ hK183 ?_
 refine wp_seq_k fun K192 hK192 => ?_
 refine wp_seq_k fun K193 hK193 => ?_
 refine plStart ?_
 refine lk_ (.int .i64 ((decH l).2)) ?_
 by_cases h194 : ((decH l).2) = 0
 · refine litVal (v := .bool true) rfl (wn rfl) (boolTo (decide_eq_true h194) (eqlRun (A := ((decH l).2)) (B := 0) (.tmp 65) (.const (.int .i64 0)) rfl le_ le_)) rfl (by decide) ?_
   refine lk_ (.bool true) ?_
   refine litVal (v := .agg (hcs v186.h v186.A v186.c v186.B v186.d).toArray) rfl (wgY rfl rfl rfl (by decide) kr_) (gLoadAg (vs := hcs v186.h v186.A v186.c v186.B v186.d) (k := 0) 3 hm190 rfl kr_ kr_ (.tmp 13) Ty.ag_voxel_api_Header rfl le_) rfl (by decide) ?_
   refine plCall (i := 4) 14 [.agg (hcs v186.h v186.A v186.c v186.B v186.d).toArray] [] [] rfl kr_ (wgY rfl rfl rfl (by decide) kr_) rfl le_ (litArgs kr_) (check_any v186.h v186.A v186.c v186.B v186.d _ ((Mem.lv ((Mem.tailN (T := (lvRes [v186] ++ (lvRes [v30] ++ lvRes [x]))) 4 hm190 rfl).sub (L' := lvRes [v186]) (lf_))) v186 List.mem_cons_self).a ((Mem.lv ((Mem.tailN (T := (lvRes [v186] ++ (lvRes [v30] ++ lvRes [x]))) 4 hm190 rfl).sub (L' := lvRes [v186]) (lf_))) v186 List.mem_cons_self).b (by have q_ := (by rw [hv186_]; exact canon_fit h194 : Hd.Fit v186.h).c20; omega) (by have q_ := (by rw [hv186_]; exact canon_fit h194 : Hd.Fit v186.h).r20; omega) (by rw [hv186_]; exact canon_fit h194 : Hd.Fit v186.h).depth) ?_
   rintro e w195 ⟨rfl, hbz⟩
   have hm196 := hm190.below hbz
   clear hbz hm190
   refine ⟨_, rfl, ?_⟩
   refine qP rfl ?_
   refine litVal (v := .bool false) rfl (wgY rfl rfl rfl (by decide) kr_) (boolTo (by rw [decide_eq_true (by rw [hv186_]; exact (decH_canon h194).1)]; rfl) (neqRun (A := (ckH v186.h)) (B := 0) (.tmp 69) (.const (.int .i64 0)) rfl le_ le_)) rfl (by decide) ?_
   refine litVal (v := .bool false) rfl (wgY rfl rfl rfl (by decide) kr_) (litRun kr_) rfl (by decide) ?_
   refine litVal (v := .agg (hcs v186.h v186.A v186.c v186.B v186.d).toArray) rfl (wgY rfl rfl rfl (by decide) kr_) (gLoadAg (vs := hcs v186.h v186.A v186.c v186.B v186.d) (k := 0) 3 hm196 rfl kr_ kr_ (.tmp 13) Ty.ag_voxel_api_Header rfl le_) rfl (by decide) ?_
   refine plCall (i := 8) 13 [.agg (hcs v186.h v186.A v186.c v186.B v186.d).toArray] [] [] rfl kr_ (wgY rfl rfl rfl (by decide) kr_) rfl le_ (litArgs kr_) (by have h_ := encode_any v186.h v186.A v186.c v186.B v186.d _ ((Mem.lv ((Mem.tailN (T := (lvRes [v186] ++ (lvRes [v30] ++ lvRes [x]))) 4 hm196 rfl).sub (L' := lvRes [v186]) (lf_))) v186 List.mem_cons_self).a ((Mem.lv ((Mem.tailN (T := (lvRes [v186] ++ (lvRes [v30] ++ lvRes [x]))) 4 hm196 rfl).sub (L' := lvRes [v186]) (lf_))) v186 List.mem_cons_self).b (by rw [hv186_]; exact canon_fit h194 : Hd.Fit v186.h); rw [show encH v186.h = l by rw [hv186_]; exact (decH_canon h194).2] at h_; exact h_) ?_
   rintro e w197 ⟨v199, rfl, hown_, hbz⟩
   obtain ⟨A200, c201, rfl, hrd_⟩ := Rd.of_own hown_
   clear hrd_
   have hm198 := hm196.newRow hbz hown_
   clear hown_ hbz
   clear hm196
   try simp only [lc1_, lc2_, lc3_, lc4_] at hm198
   replace hm198 := Mem.insAt (M := ((.arr g2 25 (hcs x.h x.A x.c x.B x.d)) :: (.row (.slice A26 ((encH x.h).length) c27) 5 1 ((encH x.h).length) (bcs (encH x.h))) :: (.arr g31 25 (hcs v30.h v30.A v30.c v30.B v30.d)) :: (.arr g187 25 (hcs v186.h v186.A v186.c v186.B v186.d)) :: (lvRes [v186] ++ (lvRes [v30] ++ lvRes [x])))) 4 hm198
   simp only [List.insertIdx_succ_cons, List.insertIdx_zero] at hm198
   refine ⟨_, rfl, ?_⟩
   refine qP rfl ?_
   refine litVal (v := .slice A l.length c) rfl (wgY rfl rfl rfl (by decide) kr_) (litRun kr_) rfl (by decide) ?_
   refine plCall (i := 10) 16 [.slice A200 l.length c201, .slice A l.length c] [] [] rfl kr_ (wgY rfl rfl rfl (by decide) kr_) rfl le_ (litArgs kr_) (same_true l A200 A _ _ c201 c _ _ _ (hm198.rdRow 4 rfl) ((Rd.below hr hm198.bel).more hm198.bel.size)) ?_
   rintro e w202 ⟨rfl, rfl⟩
   refine ⟨_, rfl, ?_⟩
   refine qP rfl ?_
   refine litVal (v := .bool false) rfl (wgY rfl rfl rfl (by decide) kr_) (litRun kr_) rfl (by decide) ?_
   refine litVal (v := .bool false) rfl (wgY rfl rfl rfl (by decide) kr_) (litRun kr_) rfl (by decide) ?_
   refine lk_ (.bool false) ?_
   refine plD ?_
   refine tn_ hK193 ?_
   refine wpPrune [(2, .string ⟨seed.toArray⟩), (3, .bool b), (4, .pointer (some ⟨g2, 0, none⟩)), (8, .bool false), (9, .bool true), (12, .bool false), (78, .bool false)] ⟨lg_, ⟨lg_, ⟨lg_, ⟨lg_, ⟨lg_, ⟨lg_, ⟨lg_, trivial⟩⟩⟩⟩⟩⟩⟩ (fun X204 => ?_)
   refine wp_cond_false le_ ?_
   refine wp_skip ?_
   refine tn_ hK192 ?_
   refine wp_seq_k fun K205 hK205 => ?_
   refine wp_seq_k fun K206 hK206 => ?_
   refine plStart ?_
   refine lk_ (.bool false) ?_
   refine lk_ (.bool true) ?_
   refine plD ?_
   refine tn_ hK206 ?_
   refine wp_cond_true le_ ?_
   refine wp_seq_k fun K207 hK207 => ?_
   refine plStart ?_
   refine lk_ (.bool true) ?_
   refine lk_ (.bool true) ?_
   refine plD ?_
   refine tn_ hK207 ?_
   refine wp_ret ?_
   refine then_ret ?_
   refine bodyPost_ret (v := .bool true) (gRes1 rfl (gResTmp (t := 8) (v := .bool true) (lg_))) rfl ?_
   exact ⟨by rfl, hm198.bel⟩
 refine litVal (v := .bool false) rfl (wn rfl) (boolTo (decide_eq_false h194) (eqlRun (A := ((decH l).2)) (B := 0) (.tmp 65) (.const (.int .i64 0)) rfl le_ le_)) rfl (by decide) ?_
 refine lk_ (.bool false) ?_
 refine ps_ (i := 3) ?_
 refine ps_ (i := 4) ?_
 refine ps_ (i := 5) ?_
 refine ps_ (i := 6) ?_
 refine plSkip (i := 7) rfl (wgU rfl rfl rfl (by decide) kr_) ?_
 refine qP rfl ?_
 refine plSkip (i := 8) rfl (wgU rfl rfl rfl (by decide) kr_) ?_
 refine qP rfl ?_
 refine plSkip (i := 9) rfl (wgU rfl rfl rfl (by decide) kr_) ?_
 refine qP rfl ?_
 refine plSkip (i := 10) rfl (wgU rfl rfl rfl (by decide) kr_) ?_
 refine qP rfl ?_
 refine plSkip (i := 11) rfl (wgU rfl rfl rfl (by decide) kr_) ?_
 refine qP rfl ?_
 refine ps_ (i := 12) ?_
 refine lk_ (.bool false) ?_
 refine plD ?_
 refine tn_ hK193 ?_
 refine wpPrune [(2, .string ⟨seed.toArray⟩), (3, .bool b), (4, .pointer (some ⟨g2, 0, none⟩)), (8, .bool false), (9, .bool true), (12, .bool false), (78, .bool false)] ⟨lg_, ⟨lg_, ⟨lg_, ⟨lg_, ⟨lg_, ⟨lg_, ⟨lg_, trivial⟩⟩⟩⟩⟩⟩⟩ (fun X208 => ?_)
 refine wp_cond_false le_ ?_
 refine wp_skip ?_
 refine tn_ hK192 ?_
 refine wp_seq_k fun K209 hK209 => ?_
 refine wp_seq_k fun K210 hK210 => ?_
 refine plStart ?_
 refine lk_ (.bool false) ?_
 refine lk_ (.bool true) ?_
 refine plD ?_
 refine tn_ hK210 ?_
 refine wp_cond_true le_ ?_
 refine wp_seq_k fun K211 hK211 => ?_
 refine plStart ?_
 refine lk_ (.bool true) ?_
 refine lk_ (.bool true) ?_
 refine plD ?_
 refine tn_ hK211 ?_
 refine wp_ret ?_
 refine then_ret ?_
 refine bodyPost_ret (v := .bool true) (gRes1 rfl (gResTmp (t := 8) (v := .bool true) (lg_))) rfl ?_
 exact ⟨by rfl, hm190.bel⟩
end Go.Proofs.YtgjgjimgomhbmaaGreatDoor
