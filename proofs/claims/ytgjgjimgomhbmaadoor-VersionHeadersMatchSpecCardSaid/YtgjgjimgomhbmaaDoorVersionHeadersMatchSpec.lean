/-
  VersionHeadersMatchSpec: the law answers true. No statement is proved here.
-/
import Derived.Test.YtgjgjimgomhbmaaDoorMI
import Derived.Test.YtgjgjimgomhbmaaDoorMJ
import Derived.Test.YtgjgjimgomhbmaaDoorMB
namespace Go.Proofs.YtgjgjimgomhbmaaDoor
open Go.RowKit
set_option linter.unusedVariables false
set_option linter.unusedSimpArgs false

theorem Mem.ofLv2 {w : World} {x y : Lv} (ha : x.At w) (hb : y.At w) : Mem w w (lvRes [x] ++ lvRes [y]) :=
  Mem.ofRds (fun r hr => by rcases List.mem_append.1 hr with hr | hr <;> exact lvRes_mut hr) (fun r hr => by
    rcases List.mem_append.1 hr with hr | hr
    · exact lvRes_at (l := [x]) (fun u hu => by rw [List.mem_singleton] at hu; exact hu ▸ ha) hr
    · exact lvRes_at (l := [y]) (fun u hu => by rw [List.mem_singleton] at hu; exact hu ▸ hb) hr)
theorem good_le {h : Hd} (g : h.Good) : h.counts.length ≤ 20 ∧ h.rn ≤ 20 := by
  have := g.2.2
  omega
theorem decH_small (l : List UInt8) : (decH l).1.counts.length ≤ 20 ∧ (decH l).1.rn ≤ 20 := by
  have h0 : hd0.counts.length ≤ 20 ∧ hd0.rn ≤ 20 := by decide
  have key : ∀ h : Hd, (if ckH h ≠ 0 then (hd0, ckH h) else (h, 0)).1.counts.length ≤ 20 ∧ (if ckH h ≠ 0 then (hd0, ckH h) else (h, 0)).1.rn ≤ 20 := fun h => by
    by_cases hc : ckH h ≠ 0
    · rw [if_pos hc]; exact h0
    · rw [if_neg hc]; exact good_le (ckH_good.1 (Decidable.not_not.1 hc))
  unfold decH
  split
  · exact h0
  · split
    · exact h0
    · split
      · exact h0
      · split
        · exact h0
        · split
          · exact h0
          · exact key _
set_option maxRecDepth 100000 in
set_option maxHeartbeats 4000000 in
theorem walk_VersionHeadersMatchSpec (xa xb : Lv) (l : List UInt8) (A : Option Addr) (n c : Nat) (w : World) (ht : Tabs w) (htR : TabsR w) (hxa : xa.At w) (hixa : xa.h.I64) (hxb : xb.At w) (hixb : xb.h.I64) (hr : Rd w w.heap.size 1 A n c (bcs l)) (hn : n ≤ 140737488351232) : Calls Tryd.prog 3 #[.agg (hcs xa.h xa.A xa.c xa.B xa.d).toArray, .agg (hcs xb.h xb.A xb.c xb.B xb.d).toArray, .slice A n c] w (RetV w (.bool true)) := by
 obtain rfl : n = l.length := by have q_ := hr.len; rw [bcs_length] at q_; omega
 have hm0 := Mem.ofLv2 hxa hxb
 go_enter Tryd.func3, Tryd.ntmps3
 refine litStart 100 [(0, .agg (hcs xa.h xa.A xa.c xa.B xa.d).toArray), (1, .agg (hcs xb.h xb.A xb.c xb.B xb.d).toArray), (2, .slice A l.length c)] (by kernel_rfl) (fun X0 => ?_)
 refine wp_seq_k fun K1 hK1 => ?_
 refine plStart ?_
 refine plBox hm0 (cs := hcs xa.h xa.A xa.c xa.B xa.d) (i := 0) rfl (wn rfl) rfl (litEv (by kernel_rfl)) ?_
 intro g2 w4 hm3
 clear hm0
 try simp only [List.cons_append, List.nil_append, List.set_cons_succ, List.set_cons_zero] at hm3
 replace hm3 := Mem.insAt (M := ((lvRes [xa] ++ lvRes [xb]))) 0 hm3
 simp only [List.insertIdx_succ_cons, List.insertIdx_zero] at hm3
 refine qP rfl ?_
 refine plBox hm3 (cs := hcs xb.h xb.A xb.c xb.B xb.d) (i := 1) rfl (wn rfl) rfl (litEv (by kernel_rfl)) ?_
 intro g5 w7 hm6
 clear hm3
 try simp only [List.cons_append, List.nil_append, List.set_cons_succ, List.set_cons_zero] at hm6
 replace hm6 := Mem.insAt (M := ((.arr g2 25 (hcs xa.h xa.A xa.c xa.B xa.d)) :: (lvRes [xa] ++ lvRes [xb]))) 1 hm6
 simp only [List.insertIdx_succ_cons, List.insertIdx_zero] at hm6
 refine qP rfl ?_
 refine lk (v := .bool false) rfl rfl rfl ?_
 refine plD ?_
 refine then_normal (hK1 _ _ ?_)
 refine wp_seq_k fun K8 hK8 => ?_
 refine plStart ?_
 refine plCall (i := 0) 6 [] [] [] rfl (by kernel_rfl) (wn rfl) rfl (litEv (by kernel_rfl)) (litArgs (by kernel_rfl)) (sanity_any _ (ht.below hm6.bel ht.size) (htR.below hm6.bel htR.size)) ?_
 rintro e w9 ⟨rfl, hbz⟩
 have hm10 := hm6.below hbz
 clear hbz hm6
 refine ⟨_, rfl, ?_⟩
 refine qP rfl ?_
 refine lk (v := .bool true) rfl rfl rfl ?_
 refine plD ?_
 refine then_normal (hK8 _ _ ?_)
 refine wp_seq_k fun K11 hK11 => ?_
 refine wp_seq_k fun K12 hK12 => ?_
 refine plStart ?_
 refine litVal (v := .agg (hcs xa.h xa.A xa.c xa.B xa.d).toArray) rfl (wn rfl) (gLoadAg (vs := hcs xa.h xa.A xa.c xa.B xa.d) (k := 0) 0 hm10 rfl (by kernel_rfl) (by kernel_rfl) (.tmp 3) Ty.ag_voxel_api_Header rfl (litEv (by kernel_rfl))) rfl (by decide) ?_
 refine plCall (i := 1) 7 [.agg (hcs xa.h xa.A xa.c xa.B xa.d).toArray] [] [] rfl (by kernel_rfl) (wn rfl) rfl (litEv (by kernel_rfl)) (litArgs (by kernel_rfl)) (few1_any xa.h xa.A xa.c xa.B xa.d _) ?_
 rintro e w13 ⟨rfl, hbz⟩
 have hm14 := hm10.below hbz
 clear hbz hm10
 refine ⟨_, rfl, ?_⟩
 refine qP rfl ?_
 rcases bool_or (decide (xa.h.counts.length ≤ 20 ∧ xa.h.rn ≤ 20)) with h15 | h15
 · rw [h15]
   refine lk (v := .bool true) rfl rfl rfl ?_
   refine lk (v := .bool true) rfl rfl rfl ?_
   refine plSkip (i := 4) rfl (wgN rfl rfl rfl (by decide) (by kernel_rfl)) ?_
   refine qP rfl ?_
   refine plSkip (i := 5) rfl (wgN rfl rfl rfl (by decide) (by kernel_rfl)) ?_
   refine qP rfl ?_
   refine plSkip (i := 6) rfl (wgN rfl rfl rfl (by decide) (by kernel_rfl)) ?_
   refine qP rfl ?_
   refine lk (v := .bool true) rfl rfl rfl ?_
   refine lk (v := .bool true) rfl rfl rfl ?_
   refine plSkip (i := 9) rfl (wgN rfl rfl rfl (by decide) (by kernel_rfl)) ?_
   refine qP rfl ?_
   refine plSkip (i := 10) rfl (wgN rfl rfl rfl (by decide) (by kernel_rfl)) ?_
   refine qP rfl ?_
   refine plSkip (i := 11) rfl (wgN rfl rfl rfl (by decide) (by kernel_rfl)) ?_
   refine qP rfl ?_
   refine lk (v := .bool true) rfl rfl rfl ?_
   refine plD ?_
   refine then_normal (hK12 _ _ ?_)
   refine wpPrune [(2, .slice A l.length c), (3, .pointer (some ⟨g2, 0, none⟩)), (4, .pointer (some ⟨g5, 0, none⟩)), (6, .bool false), (7, .bool true), (27, .bool true)] ⟨litGet (by kernel_rfl), ⟨litGet (by kernel_rfl), ⟨litGet (by kernel_rfl), ⟨litGet (by kernel_rfl), ⟨litGet (by kernel_rfl), ⟨litGet (by kernel_rfl), trivial⟩⟩⟩⟩⟩⟩ (fun X16 => ?_)
   refine wp_cond_true (litEv (by kernel_rfl)) ?_
   refine wp_seq_k fun K17 hK17 => ?_
   refine plStart ?_
   refine lk (v := .bool true) rfl rfl rfl ?_
   refine lk (v := .bool true) rfl rfl rfl ?_
   refine plD ?_
   refine then_normal (hK17 _ _ ?_)
   refine wp_ret ?_
   refine then_ret ?_
   refine bodyPost_ret (v := .bool true) (gRes1 rfl (gResTmp (t := 6) (v := .bool true) (litGet (by kernel_rfl)))) rfl ?_
   exact ⟨by rfl, hm14.bel⟩
 rw [h15]
 refine lk (v := .bool false) rfl rfl rfl ?_
 refine lk (v := .bool false) rfl rfl rfl ?_
 refine litVal (v := .agg (hcs xb.h xb.A xb.c xb.B xb.d).toArray) rfl (wgY rfl rfl rfl (by decide) (by kernel_rfl)) (gLoadAg (vs := hcs xb.h xb.A xb.c xb.B xb.d) (k := 0) 1 hm14 rfl (by kernel_rfl) (by kernel_rfl) (.tmp 4) Ty.ag_voxel_api_Header rfl (litEv (by kernel_rfl))) rfl (by decide) ?_
 refine plCall (i := 5) 7 [.agg (hcs xb.h xb.A xb.c xb.B xb.d).toArray] [] [] rfl (by kernel_rfl) (wgY rfl rfl rfl (by decide) (by kernel_rfl)) rfl (litEv (by kernel_rfl)) (litArgs (by kernel_rfl)) (few1_any xb.h xb.A xb.c xb.B xb.d _) ?_
 rintro e w18 ⟨rfl, hbz⟩
 have hm19 := hm14.below hbz
 clear hbz hm14
 refine ⟨_, rfl, ?_⟩
 refine qP rfl ?_
 rcases bool_or (decide (xb.h.counts.length ≤ 20 ∧ xb.h.rn ≤ 20)) with h20 | h20
 · rw [h20]
   refine litVal (v := .bool true) rfl (wgY rfl rfl rfl (by decide) (by kernel_rfl)) (litRun (by kernel_rfl)) rfl (by decide) ?_
   refine lk (v := .bool true) rfl rfl rfl ?_
   refine lk (v := .bool true) rfl rfl rfl ?_
   refine plSkip (i := 9) rfl (wgN rfl rfl rfl (by decide) (by kernel_rfl)) ?_
   refine qP rfl ?_
   refine plSkip (i := 10) rfl (wgN rfl rfl rfl (by decide) (by kernel_rfl)) ?_
   refine qP rfl ?_
   refine plSkip (i := 11) rfl (wgN rfl rfl rfl (by decide) (by kernel_rfl)) ?_
   refine qP rfl ?_
   refine lk (v := .bool true) rfl rfl rfl ?_
   refine plD ?_
   refine then_normal (hK12 _ _ ?_)
   refine wpPrune [(2, .slice A l.length c), (3, .pointer (some ⟨g2, 0, none⟩)), (4, .pointer (some ⟨g5, 0, none⟩)), (6, .bool false), (7, .bool true), (27, .bool true)] ⟨litGet (by kernel_rfl), ⟨litGet (by kernel_rfl), ⟨litGet (by kernel_rfl), ⟨litGet (by kernel_rfl), ⟨litGet (by kernel_rfl), ⟨litGet (by kernel_rfl), trivial⟩⟩⟩⟩⟩⟩ (fun X21 => ?_)
   refine wp_cond_true (litEv (by kernel_rfl)) ?_
   refine wp_seq_k fun K22 hK22 => ?_
   refine plStart ?_
   refine lk (v := .bool true) rfl rfl rfl ?_
   refine lk (v := .bool true) rfl rfl rfl ?_
   refine plD ?_
   refine then_normal (hK22 _ _ ?_)
   refine wp_ret ?_
   refine then_ret ?_
   refine bodyPost_ret (v := .bool true) (gRes1 rfl (gResTmp (t := 6) (v := .bool true) (litGet (by kernel_rfl)))) rfl ?_
   exact ⟨by rfl, hm19.bel⟩
 rw [h20]
 refine litVal (v := .bool false) rfl (wgY rfl rfl rfl (by decide) (by kernel_rfl)) (litRun (by kernel_rfl)) rfl (by decide) ?_
 refine lk (v := .bool false) rfl rfl rfl ?_
 refine lk (v := .bool false) rfl rfl rfl ?_
 refine litVal (v := .slice A l.length c) rfl (wgY rfl rfl rfl (by decide) (by kernel_rfl)) (litRun (by kernel_rfl)) rfl (by decide) ?_
 refine litVal (v := .int .i64 (l.length : Int)) rfl (wgY rfl rfl rfl (by decide) (by kernel_rfl)) (lenSlRun (A := A) (n := l.length) (c := c) (.tmp 24) Ty.und_L_uint8 rfl (litEv (by kernel_rfl))) rfl (by decide) ?_
 by_cases h23 : 600 < (l.length : Int)
 · refine litVal (v := .bool true) rfl (wgY rfl rfl rfl (by decide) (by kernel_rfl)) (boolTo (decide_eq_true h23) (gtrRun (A := (l.length : Int)) (B := 600) (.tmp 25) (.const (.int .i64 600)) rfl (litEv (by kernel_rfl)) (litEv (by kernel_rfl)))) rfl (by decide) ?_
   refine lk (v := .bool true) rfl rfl rfl ?_
   refine plD ?_
   refine then_normal (hK12 _ _ ?_)
   refine wpPrune [(2, .slice A l.length c), (3, .pointer (some ⟨g2, 0, none⟩)), (4, .pointer (some ⟨g5, 0, none⟩)), (6, .bool false), (7, .bool true), (27, .bool true)] ⟨litGet (by kernel_rfl), ⟨litGet (by kernel_rfl), ⟨litGet (by kernel_rfl), ⟨litGet (by kernel_rfl), ⟨litGet (by kernel_rfl), ⟨litGet (by kernel_rfl), trivial⟩⟩⟩⟩⟩⟩ (fun X24 => ?_)
   refine wp_cond_true (litEv (by kernel_rfl)) ?_
   refine wp_seq_k fun K25 hK25 => ?_
   refine plStart ?_
   refine lk (v := .bool true) rfl rfl rfl ?_
   refine lk (v := .bool true) rfl rfl rfl ?_
   refine plD ?_
   refine then_normal (hK25 _ _ ?_)
   refine wp_ret ?_
   refine then_ret ?_
   refine bodyPost_ret (v := .bool true) (gRes1 rfl (gResTmp (t := 6) (v := .bool true) (litGet (by kernel_rfl)))) rfl ?_
   exact ⟨by rfl, hm19.bel⟩
 refine litVal (v := .bool false) rfl (wgY rfl rfl rfl (by decide) (by kernel_rfl)) (boolTo (decide_eq_false h23) (gtrRun (A := (l.length : Int)) (B := 600) (.tmp 25) (.const (.int .i64 600)) rfl (litEv (by kernel_rfl)) (litEv (by kernel_rfl)))) rfl (by decide) ?_
 refine lk (v := .bool false) rfl rfl rfl ?_
 refine plD ?_
 refine then_normal (hK12 _ _ ?_)
 refine wpPrune [(2, .slice A l.length c), (3, .pointer (some ⟨g2, 0, none⟩)), (4, .pointer (some ⟨g5, 0, none⟩)), (6, .bool false), (7, .bool true), (27, .bool false)] ⟨litGet (by kernel_rfl), ⟨litGet (by kernel_rfl), ⟨litGet (by kernel_rfl), ⟨litGet (by kernel_rfl), ⟨litGet (by kernel_rfl), ⟨litGet (by kernel_rfl), trivial⟩⟩⟩⟩⟩⟩ (fun X26 => ?_)
 refine wp_cond_false (litEv (by kernel_rfl)) ?_
 refine wp_skip ?_
 refine then_normal (hK11 _ _ ?_)
 refine wp_seq_k fun K27 hK27 => ?_
 refine plStart ?_
 refine lk (v := .slice A l.length c) rfl rfl rfl ?_
 refine plCall (i := 1) 8 [.slice A l.length c] [] [] rfl (by kernel_rfl) (wn rfl) rfl (litEv (by kernel_rfl)) (litArgs (by kernel_rfl)) (by exact LD.decode_any l A c _ ((Rd.below hr hm19.bel).more hm19.bel.size) (by omega)) ?_
 rintro e w28 ⟨A_, c_, B_, d_, rfl, ha_, hb_, hA_, hB_, hbz⟩
 obtain ⟨v30, hv30_, rfl, rfl, rfl, rfl, hat_⟩ : ∃ v_ : Lv, v_.h = (decH l).1 ∧ v_.A = A_ ∧ v_.c = c_ ∧ v_.B = B_ ∧ v_.d = d_ ∧ v_.At w28 := ⟨⟨0, 0, (decH l).1, A_, c_, B_, d_⟩, rfl, rfl, rfl, rfl, rfl, ⟨ha_, hb_⟩⟩
 rw [← hv30_] at ha_ hb_ ⊢
 have hm29 : Mem w w28 ([.arr g2 25 (hcs xa.h xa.A xa.c xa.B xa.d), .arr g5 25 (hcs xb.h xb.A xb.c xb.B xb.d)] ++ (lvRes [v30] ++ (lvRes [xa] ++ lvRes [xb]))) := Mem.newLv (lx := []) (M := (lvRes [xa] ++ lvRes [xb])) [.arr g2 25 (hcs xa.h xa.A xa.c xa.B xa.d), .arr g5 25 (hcs xb.h xb.A xb.c xb.B xb.d)] hm19 hbz hat_ (Or.inr ⟨hA_, hB_⟩) hdNone (mutApp (fun _ h_ => lvRes_mut h_) (fun _ h_ => lvRes_mut h_))
 have hm31 : Mem w w28 ((.arr g2 25 (hcs xa.h xa.A xa.c xa.B xa.d)) :: (.arr g5 25 (hcs xb.h xb.A xb.c xb.B xb.d)) :: (lvRes [v30] ++ (lvRes [xa] ++ lvRes [xb]))) := hm29
 clear hm29
 clear hm19
 clear hat_ hA_ hB_ hbz ha_ hb_
 refine ⟨_, rfl, ?_⟩
 refine qP rfl ?_
 refine lk (v := .tuple #[.agg (hcs v30.h v30.A v30.c v30.B v30.d).toArray, .int .i64 ((decH l).2)]) rfl rfl rfl ?_
 refine lk (v := .agg (hcs v30.h v30.A v30.c v30.B v30.d).toArray) rfl rfl rfl ?_
 refine lk (v := .int .i64 ((decH l).2)) rfl rfl rfl ?_
 refine plAlloc (z := [.int .i64 0, .slice none 0 0, .int .i64 0, .slice none 0 0]) Ty.ag_voxel_api_Header hm31 (i := 5) rfl (wn rfl) rfl ?_
 intro g32 w34 hm33
 clear hm31
 try simp only [List.cons_append, List.nil_append, List.set_cons_succ, List.set_cons_zero] at hm33
 replace hm33 := Mem.insAt (M := ((.arr g2 25 (hcs xa.h xa.A xa.c xa.B xa.d)) :: (.arr g5 25 (hcs xb.h xb.A xb.c xb.B xb.d)) :: (lvRes [v30] ++ (lvRes [xa] ++ lvRes [xb])))) 2 hm33
 simp only [List.insertIdx_succ_cons, List.insertIdx_zero] at hm33
 refine qP rfl ?_
 refine plStore 2 Ty.ag_voxel_api_Header hm33 rfl (i := 6) (cs := hcs v30.h v30.A v30.c v30.B v30.d) rfl (wn rfl) rfl (litEv (by kernel_rfl)) (litEv (by kernel_rfl)) rfl rfl (by kernel_rfl) ?_
 intro w36 hm35
 clear hm33
 try simp only [List.cons_append, List.nil_append, List.set_cons_succ, List.set_cons_zero] at hm35
 refine qNone rfl ?_
 refine lk (v := .int .i64 ((decH l).2)) rfl rfl rfl ?_
 refine plD ?_
 refine then_normal (hK27 _ _ ?_)
 refine wp_seq_k fun K37 hK37 => ?_
 refine plStart ?_
 refine lk (v := .slice A l.length c) rfl rfl rfl ?_
 refine plCall (i := 1) 9 [.slice A l.length c] [] [] rfl (by kernel_rfl) (wn rfl) rfl (litEv (by kernel_rfl)) (litArgs (by kernel_rfl)) (by exact rdecode_any l A c _ ((Rd.below hr hm35.bel).more hm35.bel.size) (by omega)) ?_
 rintro e w38 ⟨A_, c_, B_, d_, rfl, ha_, hb_, hA_, hB_, hbz⟩
 obtain ⟨v40, hv40_, rfl, rfl, rfl, rfl, hat_⟩ : ∃ v_ : Lv, v_.h = (decH l).1 ∧ v_.A = A_ ∧ v_.c = c_ ∧ v_.B = B_ ∧ v_.d = d_ ∧ v_.At w38 := ⟨⟨0, 0, (decH l).1, A_, c_, B_, d_⟩, rfl, rfl, rfl, rfl, rfl, ⟨ha_, hb_⟩⟩
 rw [← hv40_] at ha_ hb_ ⊢
 have hm39 : Mem w w38 ([.arr g2 25 (hcs xa.h xa.A xa.c xa.B xa.d), .arr g5 25 (hcs xb.h xb.A xb.c xb.B xb.d), .arr g32 25 (hcs v30.h v30.A v30.c v30.B v30.d)] ++ (lvRes [v40] ++ (lvRes [v30] ++ (lvRes [xa] ++ lvRes [xb])))) := Mem.newLv (lx := []) (M := (lvRes [v30] ++ (lvRes [xa] ++ lvRes [xb]))) [.arr g2 25 (hcs xa.h xa.A xa.c xa.B xa.d), .arr g5 25 (hcs xb.h xb.A xb.c xb.B xb.d), .arr g32 25 (hcs v30.h v30.A v30.c v30.B v30.d)] hm35 hbz hat_ (Or.inr ⟨hA_, hB_⟩) hdNone (mutApp (fun _ h_ => lvRes_mut h_) (mutApp (fun _ h_ => lvRes_mut h_) (fun _ h_ => lvRes_mut h_)))
 have hm41 : Mem w w38 ((.arr g2 25 (hcs xa.h xa.A xa.c xa.B xa.d)) :: (.arr g5 25 (hcs xb.h xb.A xb.c xb.B xb.d)) :: (.arr g32 25 (hcs v30.h v30.A v30.c v30.B v30.d)) :: (lvRes [v40] ++ (lvRes [v30] ++ (lvRes [xa] ++ lvRes [xb])))) := hm39
 clear hm39
 clear hm35
 clear hat_ hA_ hB_ hbz ha_ hb_
 refine ⟨_, rfl, ?_⟩
 refine qP rfl ?_
 refine lk (v := .tuple #[.agg (hcs v40.h v40.A v40.c v40.B v40.d).toArray, .int .i64 ((decH l).2)]) rfl rfl rfl ?_
 refine lk (v := .agg (hcs v40.h v40.A v40.c v40.B v40.d).toArray) rfl rfl rfl ?_
 refine lk (v := .int .i64 ((decH l).2)) rfl rfl rfl ?_
 refine plAlloc (z := [.int .i64 0, .slice none 0 0, .int .i64 0, .slice none 0 0]) Ty.ag_voxel_api_Header hm41 (i := 5) rfl (wn rfl) rfl ?_
 intro g42 w44 hm43
 clear hm41
 try simp only [List.cons_append, List.nil_append, List.set_cons_succ, List.set_cons_zero] at hm43
 replace hm43 := Mem.insAt (M := ((.arr g2 25 (hcs xa.h xa.A xa.c xa.B xa.d)) :: (.arr g5 25 (hcs xb.h xb.A xb.c xb.B xb.d)) :: (.arr g32 25 (hcs v30.h v30.A v30.c v30.B v30.d)) :: (lvRes [v40] ++ (lvRes [v30] ++ (lvRes [xa] ++ lvRes [xb]))))) 3 hm43
 simp only [List.insertIdx_succ_cons, List.insertIdx_zero] at hm43
 refine qP rfl ?_
 refine plStore 3 Ty.ag_voxel_api_Header hm43 rfl (i := 6) (cs := hcs v40.h v40.A v40.c v40.B v40.d) rfl (wn rfl) rfl (litEv (by kernel_rfl)) (litEv (by kernel_rfl)) rfl rfl (by kernel_rfl) ?_
 intro w46 hm45
 clear hm43
 try simp only [List.cons_append, List.nil_append, List.set_cons_succ, List.set_cons_zero] at hm45
 refine qNone rfl ?_
 refine lk (v := .int .i64 ((decH l).2)) rfl rfl rfl ?_
 refine plD ?_
 refine then_normal (hK37 _ _ ?_)
 refine wp_seq_k fun K47 hK47 => ?_
 refine plStart ?_
 refine litVal (v := .agg (hcs v30.h v30.A v30.c v30.B v30.d).toArray) rfl (wn rfl) (gLoadAg (vs := hcs v30.h v30.A v30.c v30.B v30.d) (k := 0) 2 hm45 rfl (by kernel_rfl) (by kernel_rfl) (.tmp 8) Ty.ag_voxel_api_Header rfl (litEv (by kernel_rfl))) rfl (by decide) ?_
 refine litVal (v := .agg (hcs v40.h v40.A v40.c v40.B v40.d).toArray) rfl (wn rfl) (gLoadAg (vs := hcs v40.h v40.A v40.c v40.B v40.d) (k := 0) 3 hm45 rfl (by kernel_rfl) (by kernel_rfl) (.tmp 10) Ty.ag_voxel_api_Header rfl (litEv (by kernel_rfl))) rfl (by decide) ?_
 refine plCall (i := 2) 10 [.agg (hcs v30.h v30.A v30.c v30.B v30.d).toArray, .agg (hcs v40.h v40.A v40.c v40.B v40.d).toArray] [] [] rfl (by kernel_rfl) (wn rfl) rfl (litEv (by kernel_rfl)) (litArgs (by kernel_rfl)) (rsame_any v30.h v30.A v30.c v30.B v30.d v40.h v40.A v40.c v40.B v40.d _ ((Mem.lv ((Mem.tailN (T := (lvRes [v40] ++ (lvRes [v30] ++ (lvRes [xa] ++ lvRes [xb])))) 4 hm45 rfl).sub (L' := lvRes [v30]) ((List.sublist_append_left _ _).trans (List.sublist_append_right _ _)))) v30 List.mem_cons_self).a ((Mem.lv ((Mem.tailN (T := (lvRes [v40] ++ (lvRes [v30] ++ (lvRes [xa] ++ lvRes [xb])))) 4 hm45 rfl).sub (L' := lvRes [v30]) ((List.sublist_append_left _ _).trans (List.sublist_append_right _ _)))) v30 List.mem_cons_self).b ((Mem.lv ((Mem.tailN (T := (lvRes [v40] ++ (lvRes [v30] ++ (lvRes [xa] ++ lvRes [xb])))) 4 hm45 rfl).sub (L' := lvRes [v40]) (List.sublist_append_left _ _))) v40 List.mem_cons_self).a ((Mem.lv ((Mem.tailN (T := (lvRes [v40] ++ (lvRes [v30] ++ (lvRes [xa] ++ lvRes [xb])))) 4 hm45 rfl).sub (L' := lvRes [v40]) (List.sublist_append_left _ _))) v40 List.mem_cons_self).b (by have q_ := decH_small l; rw [← hv30_] at q_; omega) (by have q_ := decH_small l; rw [← hv30_] at q_; omega)) ?_
 rintro e w48 ⟨rfl, hbz⟩
 have hm49 := hm45.below hbz
 clear hbz hm45
 rw [(decide_eq_true (hv30_.trans hv40_.symm))]
 refine ⟨_, rfl, ?_⟩
 refine qP rfl ?_
 refine lk (v := .bool true) rfl rfl rfl ?_
 refine plD ?_
 refine then_normal (hK47 _ _ ?_)
 refine wpPrune [(3, .pointer (some ⟨g2, 0, none⟩)), (4, .pointer (some ⟨g5, 0, none⟩)), (6, .bool false), (7, .bool true), (9, .int .i64 ((decH l).2)), (11, .int .i64 ((decH l).2)), (12, .bool true)] ⟨litGet (by kernel_rfl), ⟨litGet (by kernel_rfl), ⟨litGet (by kernel_rfl), ⟨litGet (by kernel_rfl), ⟨litGet (by kernel_rfl), ⟨litGet (by kernel_rfl), ⟨litGet (by kernel_rfl), trivial⟩⟩⟩⟩⟩⟩⟩ (fun X50 => ?_)
 refine wp_seq_k fun K51 hK51 => ?_
 refine mgStartM ((.arr g2 25 (hcs xa.h xa.A xa.c xa.B xa.d)) :: (.arr g5 25 (hcs xb.h xb.A xb.c xb.B xb.d)) :: (.arr g32 25 (hcs v30.h v30.A v30.c v30.B v30.d)) :: (.arr g42 25 (hcs v40.h v40.A v40.c v40.B v40.d)) :: (lvRes [v40] ++ (lvRes [v30] ++ (lvRes [xa] ++ lvRes [xb])))) hm49 (by kernel_rfl) ?_
 intro w53 hm52
 clear hm49
 refine mgTake (i := 0) (v := .agg (hcs xa.h xa.A xa.c xa.B xa.d).toArray) rfl (by kernel_rfl) (wn rfl) (fun _ _ _ h => h) (hm52.sub (.cons_cons _ (.cons_cons _ (.cons_cons _ (.cons_cons _ (List.Sublist.refl _)))))) (fun w_ h_ => gLoadAg (vs := hcs xa.h xa.A xa.c xa.B xa.d) (k := 0) 0 h_ rfl (by kernel_rfl) (by kernel_rfl) (.tmp 3) Ty.ag_voxel_api_Header rfl (litEv (by kernel_rfl))) ?_
 refine mP rfl ?_
 refine mgTake (i := 2) (v := .agg (hcs xa.h xa.A xa.c xa.B xa.d).toArray) rfl (by kernel_rfl) (wn rfl) (fun _ _ _ h => h) (hm52.sub (.cons_cons _ (.cons_cons _ (.cons_cons _ (.cons_cons _ (List.Sublist.refl _)))))) (fun w_ h_ => gLoadAg (vs := hcs xa.h xa.A xa.c xa.B xa.d) (k := 0) 0 h_ rfl (by kernel_rfl) (by kernel_rfl) (.tmp 3) Ty.ag_voxel_api_Header rfl (litEv (by kernel_rfl))) ?_
 refine mP rfl ?_
 refine mgCall (i := 1) 12 [.agg (hcs xa.h xa.A xa.c xa.B xa.d).toArray] [] [] (by kernel_rfl) rfl (by kernel_rfl) (wn rfl) rfl (litEv (by kernel_rfl)) (litArgs (by kernel_rfl)) (encode_any xa.h xa.A xa.c xa.B xa.d _ ((Mem.lv ((Mem.tailN (T := (lvRes [v40] ++ (lvRes [v30] ++ (lvRes [xa] ++ lvRes [xb])))) 4 hm52 rfl).sub (L' := lvRes [xa]) (((List.sublist_append_left _ _).trans (List.sublist_append_right _ _)).trans (List.sublist_append_right _ _)))) xa List.mem_cons_self).a ((Mem.lv ((Mem.tailN (T := (lvRes [v40] ++ (lvRes [v30] ++ (lvRes [xa] ++ lvRes [xb])))) 4 hm52 rfl).sub (L' := lvRes [xa]) (((List.sublist_append_left _ _).trans (List.sublist_append_right _ _)).trans (List.sublist_append_right _ _)))) xa List.mem_cons_self).b (fit_of (of_decide_eq_true h15) hixa.tick hixa.depth hixa.counts)) ?_
 rintro e w54 ⟨v56, rfl, hown_, hbz⟩
 obtain ⟨A57, c58, rfl, hrd_⟩ := Rd.of_own hown_
 clear hrd_
 have hm55 := hm52.newRow hbz hown_
 clear hown_ hbz
 try simp only [List.cons_append, List.nil_append, List.set_cons_succ, List.set_cons_zero] at hm55
 replace hm55 := Mem.insAt (M := ((.arr g2 25 (hcs xa.h xa.A xa.c xa.B xa.d)) :: (.arr g5 25 (hcs xb.h xb.A xb.c xb.B xb.d)) :: (.arr g32 25 (hcs v30.h v30.A v30.c v30.B v30.d)) :: (.arr g42 25 (hcs v40.h v40.A v40.c v40.B v40.d)) :: (lvRes [v40] ++ (lvRes [v30] ++ (lvRes [xa] ++ lvRes [xb]))))) 4 hm55
 simp only [List.insertIdx_succ_cons, List.insertIdx_zero] at hm55
 refine ⟨_, rfl, (hm55.sub (.cons_cons _ (.cons_cons _ (.cons_cons _ (.cons_cons _ (.cons _ (List.Sublist.refl _))))))), ?_⟩
 refine mP rfl ?_
 refine mgCall (i := 3) 13 [.agg (hcs xa.h xa.A xa.c xa.B xa.d).toArray] [] [] (by kernel_rfl) rfl (by kernel_rfl) (wn rfl) rfl (litEv (by kernel_rfl)) (litArgs (by kernel_rfl)) (rencode_any xa.h xa.A xa.c xa.B xa.d _ ((Mem.lv ((Mem.tailN (T := (lvRes [v40] ++ (lvRes [v30] ++ (lvRes [xa] ++ lvRes [xb])))) 5 hm55 rfl).sub (L' := lvRes [xa]) (((List.sublist_append_left _ _).trans (List.sublist_append_right _ _)).trans (List.sublist_append_right _ _)))) xa List.mem_cons_self).a ((Mem.lv ((Mem.tailN (T := (lvRes [v40] ++ (lvRes [v30] ++ (lvRes [xa] ++ lvRes [xb])))) 5 hm55 rfl).sub (L' := lvRes [xa]) (((List.sublist_append_left _ _).trans (List.sublist_append_right _ _)).trans (List.sublist_append_right _ _)))) xa List.mem_cons_self).b (fit_of (of_decide_eq_true h15) hixa.tick hixa.depth hixa.counts)) ?_
 rintro e w59 ⟨v61, rfl, hown_, hbz⟩
 obtain ⟨A62, c63, rfl, hrd_⟩ := Rd.of_own hown_
 clear hrd_
 have hm60 := hm55.newRow hbz hown_
 clear hown_ hbz
 try simp only [List.cons_append, List.nil_append, List.set_cons_succ, List.set_cons_zero] at hm60
 replace hm60 := Mem.insAt (M := ((.arr g2 25 (hcs xa.h xa.A xa.c xa.B xa.d)) :: (.arr g5 25 (hcs xb.h xb.A xb.c xb.B xb.d)) :: (.arr g32 25 (hcs v30.h v30.A v30.c v30.B v30.d)) :: (.arr g42 25 (hcs v40.h v40.A v40.c v40.B v40.d)) :: (.row (.slice A57 ((encH xa.h).length) c58) 5 1 ((encH xa.h).length) (bcs (encH xa.h))) :: (lvRes [v40] ++ (lvRes [v30] ++ (lvRes [xa] ++ lvRes [xb]))))) 5 hm60
 simp only [List.insertIdx_succ_cons, List.insertIdx_zero] at hm60
 refine ⟨_, rfl, (hm60.sub (.cons_cons _ (.cons_cons _ (.cons_cons _ (.cons_cons _ (.cons _ (.cons _ (List.Sublist.refl _)))))))), ?_⟩
 refine mP rfl ?_
 refine mgCall (i := 4) 11 [.slice A57 ((encH xa.h).length) c58, .slice A62 ((encH xa.h).length) c63] [] [] (by kernel_rfl) rfl (by kernel_rfl) (wn rfl) rfl (litEv (by kernel_rfl)) (litArgs (by kernel_rfl)) (same_true (encH xa.h) A57 A62 _ _ c58 c63 _ _ _ (hm60.rdRow 4 rfl) (hm60.rdRow 5 rfl)) ?_
 rintro e w64 ⟨rfl, rfl⟩
 refine ⟨_, rfl, (hm60.sub (.cons_cons _ (.cons_cons _ (.cons_cons _ (.cons_cons _ (.cons _ (.cons _ (List.Sublist.refl _)))))))), ?_⟩
 refine mP rfl ?_
 refine mk_ (i := 5) (v := .bool true) rfl rfl (fun _ _ _ h => h) (hm60.sub (.cons_cons _ (.cons_cons _ (.cons_cons _ (.cons_cons _ (.cons _ (.cons _ (List.Sublist.refl _)))))))) rfl ?_
 refine mgDone (by kernel_rfl) ?_
 refine then_normal (hK51 _ _ ?_)
 refine wp_seq_k fun K66 hK66 => ?_
 refine wp_seq_k fun K67 hK67 => ?_
 refine mgStartM ((.arr g2 25 (hcs xa.h xa.A xa.c xa.B xa.d)) :: (.arr g5 25 (hcs xb.h xb.A xb.c xb.B xb.d)) :: (.arr g32 25 (hcs v30.h v30.A v30.c v30.B v30.d)) :: (.arr g42 25 (hcs v40.h v40.A v40.c v40.B v40.d)) :: (.row (.slice A57 ((encH xa.h).length) c58) 5 1 ((encH xa.h).length) (bcs (encH xa.h))) :: (.row (.slice A62 ((encH xa.h).length) c63) 5 1 ((encH xa.h).length) (bcs (encH xa.h))) :: (lvRes [v40] ++ (lvRes [v30] ++ (lvRes [xa] ++ lvRes [xb])))) hm60 (by kernel_rfl) ?_
 intro w69 hm68
 clear hm60
 refine mk_ (i := 0) (v := .bool true) rfl rfl (fun _ _ _ h => h) (hm68.sub (.cons_cons _ (.cons_cons _ (.cons_cons _ (.cons_cons _ (.cons_cons _ (.cons_cons _ (List.Sublist.refl _)))))))) rfl ?_
 refine mk_ (i := 1) (v := .bool false) rfl rfl (fun _ _ _ h => h) (hm68.sub (.cons_cons _ (.cons_cons _ (.cons_cons _ (.cons_cons _ (.cons_cons _ (.cons_cons _ (List.Sublist.refl _)))))))) rfl ?_
 refine mk_ (i := 2) (v := .bool false) rfl rfl (fun _ _ _ h => h) (hm68.sub (.cons_cons _ (.cons_cons _ (.cons_cons _ (.cons_cons _ (.cons_cons _ (.cons_cons _ (List.Sublist.refl _)))))))) rfl ?_
 refine mgTake (i := 3) (v := .bool true) rfl (by kernel_rfl) (wgY rfl rfl rfl (by decide) (by kernel_rfl)) (fun _ _ _ h => h) (hm68.sub (.cons_cons _ (.cons_cons _ (.cons_cons _ (.cons_cons _ (.cons_cons _ (.cons_cons _ (List.Sublist.refl _)))))))) (fun w_ h_ => litRun (by kernel_rfl)) ?_
 refine mP rfl ?_
 refine mgTake (i := 4) (v := .bool false) rfl (by kernel_rfl) (wgY rfl rfl rfl (by decide) (by kernel_rfl)) (fun _ _ _ h => h) (hm68.sub (.cons_cons _ (.cons_cons _ (.cons_cons _ (.cons_cons _ (.cons_cons _ (.cons_cons _ (List.Sublist.refl _)))))))) (fun w_ h_ => litRun (by kernel_rfl)) ?_
 refine mP rfl ?_
 refine mk_ (i := 5) (v := .bool false) rfl rfl (fun _ _ _ h => h) (hm68.sub (.cons_cons _ (.cons_cons _ (.cons_cons _ (.cons_cons _ (.cons_cons _ (.cons_cons _ (List.Sublist.refl _)))))))) rfl ?_
 refine mk_ (i := 6) (v := .bool false) rfl rfl (fun _ _ _ h => h) (hm68.sub (.cons_cons _ (.cons_cons _ (.cons_cons _ (.cons_cons _ (.cons_cons _ (.cons_cons _ (List.Sublist.refl _)))))))) rfl ?_
 refine mgTake (i := 7) (v := .int .i64 ((decH l).2)) rfl (by kernel_rfl) (wgY rfl rfl rfl (by decide) (by kernel_rfl)) (fun _ _ _ h => h) (hm68.sub (.cons_cons _ (.cons_cons _ (.cons_cons _ (.cons_cons _ (.cons_cons _ (.cons_cons _ (List.Sublist.refl _)))))))) (fun w_ h_ => litRun (by kernel_rfl)) ?_
 refine mP rfl ?_
 refine mgTake (i := 8) (v := .int .i64 ((decH l).2)) rfl (by kernel_rfl) (wgY rfl rfl rfl (by decide) (by kernel_rfl)) (fun _ _ _ h => h) (hm68.sub (.cons_cons _ (.cons_cons _ (.cons_cons _ (.cons_cons _ (.cons_cons _ (.cons_cons _ (List.Sublist.refl _)))))))) (fun w_ h_ => litRun (by kernel_rfl)) ?_
 refine mP rfl ?_
 refine mgTake (i := 9) (v := .bool false) rfl (by kernel_rfl) (wgY rfl rfl rfl (by decide) (by kernel_rfl)) (fun _ _ _ h => h) (hm68.sub (.cons_cons _ (.cons_cons _ (.cons_cons _ (.cons_cons _ (.cons_cons _ (.cons_cons _ (List.Sublist.refl _)))))))) (fun w_ h_ => boolTo (by simp) (neqRun (A := ((decH l).2)) (B := ((decH l).2)) (.tmp 54) (.tmp 55) rfl (litEv (by kernel_rfl)) (litEv (by kernel_rfl)))) ?_
 refine mP rfl ?_
 refine mk_ (i := 10) (v := .bool false) rfl rfl (fun _ _ _ h => h) (hm68.sub (.cons_cons _ (.cons_cons _ (.cons_cons _ (.cons_cons _ (.cons_cons _ (.cons_cons _ (List.Sublist.refl _)))))))) rfl ?_
 refine mk_ (i := 11) (v := .bool false) rfl rfl (fun _ _ _ h => h) (hm68.sub (.cons_cons _ (.cons_cons _ (.cons_cons _ (.cons_cons _ (.cons_cons _ (.cons_cons _ (List.Sublist.refl _)))))))) rfl ?_
 refine mgTake (i := 12) (v := .agg (hcs xa.h xa.A xa.c xa.B xa.d).toArray) rfl (by kernel_rfl) (wgY rfl rfl rfl (by decide) (by kernel_rfl)) (fun _ _ _ h => h) (hm68.sub (.cons_cons _ (.cons_cons _ (.cons_cons _ (.cons_cons _ (.cons_cons _ (.cons_cons _ (List.Sublist.refl _)))))))) (fun w_ h_ => gLoadAg (vs := hcs xa.h xa.A xa.c xa.B xa.d) (k := 0) 0 h_ rfl (by kernel_rfl) (by kernel_rfl) (.tmp 3) Ty.ag_voxel_api_Header rfl (litEv (by kernel_rfl))) ?_
 refine mP rfl ?_
 refine mgTake (i := 14) (v := .agg (hcs xa.h xa.A xa.c xa.B xa.d).toArray) rfl (by kernel_rfl) (wgY rfl rfl rfl (by decide) (by kernel_rfl)) (fun _ _ _ h => h) (hm68.sub (.cons_cons _ (.cons_cons _ (.cons_cons _ (.cons_cons _ (.cons_cons _ (.cons_cons _ (List.Sublist.refl _)))))))) (fun w_ h_ => gLoadAg (vs := hcs xa.h xa.A xa.c xa.B xa.d) (k := 0) 0 h_ rfl (by kernel_rfl) (by kernel_rfl) (.tmp 3) Ty.ag_voxel_api_Header rfl (litEv (by kernel_rfl))) ?_
 refine mP rfl ?_
 refine mgCall (i := 13) 14 [.agg (hcs xa.h xa.A xa.c xa.B xa.d).toArray] [] [] (by kernel_rfl) rfl (by kernel_rfl) (wgY rfl rfl rfl (by decide) (by kernel_rfl)) rfl (litEv (by kernel_rfl)) (litArgs (by kernel_rfl)) (check_any xa.h xa.A xa.c xa.B xa.d _ ((Mem.lv ((Mem.tailN (T := (lvRes [v40] ++ (lvRes [v30] ++ (lvRes [xa] ++ lvRes [xb])))) 6 hm68 rfl).sub (L' := lvRes [xa]) (((List.sublist_append_left _ _).trans (List.sublist_append_right _ _)).trans (List.sublist_append_right _ _)))) xa List.mem_cons_self).a ((Mem.lv ((Mem.tailN (T := (lvRes [v40] ++ (lvRes [v30] ++ (lvRes [xa] ++ lvRes [xb])))) 6 hm68 rfl).sub (L' := lvRes [xa]) (((List.sublist_append_left _ _).trans (List.sublist_append_right _ _)).trans (List.sublist_append_right _ _)))) xa List.mem_cons_self).b (by have q_ := of_decide_eq_true h15; omega) (by have q_ := of_decide_eq_true h15; omega) hixa.depth) ?_
 rintro e w70 ⟨rfl, hbz⟩
 have hm71 := hm68.below hbz
 clear hbz hm68
 refine ⟨_, rfl, (hm71.sub (.cons_cons _ (.cons_cons _ (.cons_cons _ (.cons_cons _ (.cons_cons _ (.cons_cons _ (List.Sublist.refl _)))))))), ?_⟩
 refine mP rfl ?_
 refine mgCall (i := 15) 15 [.agg (hcs xa.h xa.A xa.c xa.B xa.d).toArray] [] [] (by kernel_rfl) rfl (by kernel_rfl) (wgY rfl rfl rfl (by decide) (by kernel_rfl)) rfl (litEv (by kernel_rfl)) (litArgs (by kernel_rfl)) (rcheck_any xa.h xa.A xa.c xa.B xa.d _ ((Mem.lv ((Mem.tailN (T := (lvRes [v40] ++ (lvRes [v30] ++ (lvRes [xa] ++ lvRes [xb])))) 6 hm71 rfl).sub (L' := lvRes [xa]) (((List.sublist_append_left _ _).trans (List.sublist_append_right _ _)).trans (List.sublist_append_right _ _)))) xa List.mem_cons_self).a ((Mem.lv ((Mem.tailN (T := (lvRes [v40] ++ (lvRes [v30] ++ (lvRes [xa] ++ lvRes [xb])))) 6 hm71 rfl).sub (L' := lvRes [xa]) (((List.sublist_append_left _ _).trans (List.sublist_append_right _ _)).trans (List.sublist_append_right _ _)))) xa List.mem_cons_self).b (by have q_ := of_decide_eq_true h15; omega) (by have q_ := of_decide_eq_true h15; omega) hixa.depth) ?_
 rintro e w72 ⟨rfl, hbz⟩
 have hm73 := hm71.below hbz
 clear hbz hm71
 refine ⟨_, rfl, (hm73.sub (.cons_cons _ (.cons_cons _ (.cons_cons _ (.cons_cons _ (.cons_cons _ (.cons_cons _ (List.Sublist.refl _)))))))), ?_⟩
 refine mP rfl ?_
 refine mgTake (i := 16) (v := .bool false) rfl (by kernel_rfl) (wgY rfl rfl rfl (by decide) (by kernel_rfl)) (fun _ _ _ h => h) (hm73.sub (.cons_cons _ (.cons_cons _ (.cons_cons _ (.cons_cons _ (.cons_cons _ (.cons_cons _ (List.Sublist.refl _)))))))) (fun w_ h_ => boolTo (by simp) (neqRun (A := (ckH xa.h)) (B := (ckH xa.h)) (.tmp 60) (.tmp 62) rfl (litEv (by kernel_rfl)) (litEv (by kernel_rfl)))) ?_
 refine mP rfl ?_
 refine mk_ (i := 17) (v := .bool false) rfl rfl (fun _ _ _ h => h) (hm73.sub (.cons_cons _ (.cons_cons _ (.cons_cons _ (.cons_cons _ (.cons_cons _ (.cons_cons _ (List.Sublist.refl _)))))))) rfl ?_
 refine mk_ (i := 18) (v := .bool false) rfl rfl (fun _ _ _ h => h) (hm73.sub (.cons_cons _ (.cons_cons _ (.cons_cons _ (.cons_cons _ (.cons_cons _ (.cons_cons _ (List.Sublist.refl _)))))))) rfl ?_
 refine mgTake (i := 19) (v := .agg (hcs xa.h xa.A xa.c xa.B xa.d).toArray) rfl (by kernel_rfl) (wgY rfl rfl rfl (by decide) (by kernel_rfl)) (fun _ _ _ h => h) (hm73.sub (.cons_cons _ (.cons_cons _ (.cons_cons _ (.cons_cons _ (.cons_cons _ (.cons_cons _ (List.Sublist.refl _)))))))) (fun w_ h_ => gLoadAg (vs := hcs xa.h xa.A xa.c xa.B xa.d) (k := 0) 0 h_ rfl (by kernel_rfl) (by kernel_rfl) (.tmp 3) Ty.ag_voxel_api_Header rfl (litEv (by kernel_rfl))) ?_
 refine mP rfl ?_
 refine mgTake (i := 21) (v := .agg (hcs xa.h xa.A xa.c xa.B xa.d).toArray) rfl (by kernel_rfl) (wgY rfl rfl rfl (by decide) (by kernel_rfl)) (fun _ _ _ h => h) (hm73.sub (.cons_cons _ (.cons_cons _ (.cons_cons _ (.cons_cons _ (.cons_cons _ (.cons_cons _ (List.Sublist.refl _)))))))) (fun w_ h_ => gLoadAg (vs := hcs xa.h xa.A xa.c xa.B xa.d) (k := 0) 0 h_ rfl (by kernel_rfl) (by kernel_rfl) (.tmp 3) Ty.ag_voxel_api_Header rfl (litEv (by kernel_rfl))) ?_
 refine mP rfl ?_
 refine mgCall (i := 20) 16 [.agg (hcs xa.h xa.A xa.c xa.B xa.d).toArray] [] [] (by kernel_rfl) rfl (by kernel_rfl) (wgY rfl rfl rfl (by decide) (by kernel_rfl)) rfl (litEv (by kernel_rfl)) (litArgs (by kernel_rfl)) (digestH_any xa.h xa.A xa.c xa.B xa.d _ (ht.below hm73.bel ht.size) ((Mem.lv ((Mem.tailN (T := (lvRes [v40] ++ (lvRes [v30] ++ (lvRes [xa] ++ lvRes [xb])))) 6 hm73 rfl).sub (L' := lvRes [xa]) (((List.sublist_append_left _ _).trans (List.sublist_append_right _ _)).trans (List.sublist_append_right _ _)))) xa List.mem_cons_self).a ((Mem.lv ((Mem.tailN (T := (lvRes [v40] ++ (lvRes [v30] ++ (lvRes [xa] ++ lvRes [xb])))) 6 hm73 rfl).sub (L' := lvRes [xa]) (((List.sublist_append_left _ _).trans (List.sublist_append_right _ _)).trans (List.sublist_append_right _ _)))) xa List.mem_cons_self).b (fit_of (of_decide_eq_true h15) hixa.tick hixa.depth hixa.counts)) ?_
 rintro e w74 ⟨rfl, hbz⟩
 have hm75 := hm73.below hbz
 clear hbz hm73
 refine ⟨_, rfl, (hm75.sub (.cons_cons _ (.cons_cons _ (.cons_cons _ (.cons_cons _ (.cons_cons _ (.cons_cons _ (List.Sublist.refl _)))))))), ?_⟩
 refine mP rfl ?_
 refine mgCall (i := 22) 17 [.agg (hcs xa.h xa.A xa.c xa.B xa.d).toArray] [] [] (by kernel_rfl) rfl (by kernel_rfl) (wgY rfl rfl rfl (by decide) (by kernel_rfl)) rfl (litEv (by kernel_rfl)) (litArgs (by kernel_rfl)) (rdigestH_any xa.h xa.A xa.c xa.B xa.d _ (htR.below hm75.bel htR.size) ((Mem.lv ((Mem.tailN (T := (lvRes [v40] ++ (lvRes [v30] ++ (lvRes [xa] ++ lvRes [xb])))) 6 hm75 rfl).sub (L' := lvRes [xa]) (((List.sublist_append_left _ _).trans (List.sublist_append_right _ _)).trans (List.sublist_append_right _ _)))) xa List.mem_cons_self).a ((Mem.lv ((Mem.tailN (T := (lvRes [v40] ++ (lvRes [v30] ++ (lvRes [xa] ++ lvRes [xb])))) 6 hm75 rfl).sub (L' := lvRes [xa]) (((List.sublist_append_left _ _).trans (List.sublist_append_right _ _)).trans (List.sublist_append_right _ _)))) xa List.mem_cons_self).b (fit_of (of_decide_eq_true h15) hixa.tick hixa.depth hixa.counts)) ?_
 rintro e w76 ⟨rfl, hbz⟩
 have hm77 := hm75.below hbz
 clear hbz hm75
 refine ⟨_, rfl, (hm77.sub (.cons_cons _ (.cons_cons _ (.cons_cons _ (.cons_cons _ (.cons_cons _ (.cons_cons _ (List.Sublist.refl _)))))))), ?_⟩
 refine mP rfl ?_
 refine mgTake (i := 23) (v := .bool false) rfl (by kernel_rfl) (wgY rfl rfl rfl (by decide) (by kernel_rfl)) (fun _ _ _ h => h) (hm77.sub (.cons_cons _ (.cons_cons _ (.cons_cons _ (.cons_cons _ (.cons_cons _ (.cons_cons _ (List.Sublist.refl _)))))))) (fun w_ h_ => neDgRun (n := 16) (.tmp 67) (.tmp 69) (digH xa.h) (digH xa.h) true Tryd.underlying37 Tryd.underlying5 (by kernel_rfl) (by kernel_rfl) (ofDig_len _ _) (ofDig_len _ _) (by simp) rfl (litEv (by kernel_rfl)) (litEv (by kernel_rfl))) ?_
 refine mP rfl ?_
 refine mk_ (i := 24) (v := .bool false) rfl rfl (fun _ _ _ h => h) (hm77.sub (.cons_cons _ (.cons_cons _ (.cons_cons _ (.cons_cons _ (.cons_cons _ (.cons_cons _ (List.Sublist.refl _)))))))) rfl ?_
 refine mk_ (i := 25) (v := .bool false) rfl rfl (fun _ _ _ h => h) (hm77.sub (.cons_cons _ (.cons_cons _ (.cons_cons _ (.cons_cons _ (.cons_cons _ (.cons_cons _ (List.Sublist.refl _)))))))) rfl ?_
 refine mgTake (i := 26) (v := .agg (hcs xa.h xa.A xa.c xa.B xa.d).toArray) rfl (by kernel_rfl) (wgY rfl rfl rfl (by decide) (by kernel_rfl)) (fun _ _ _ h => h) (hm77.sub (.cons_cons _ (.cons_cons _ (.cons_cons _ (.cons_cons _ (.cons_cons _ (.cons_cons _ (List.Sublist.refl _)))))))) (fun w_ h_ => gLoadAg (vs := hcs xa.h xa.A xa.c xa.B xa.d) (k := 0) 0 h_ rfl (by kernel_rfl) (by kernel_rfl) (.tmp 3) Ty.ag_voxel_api_Header rfl (litEv (by kernel_rfl))) ?_
 refine mP rfl ?_
 refine mgTake (i := 27) (v := .agg (hcs xb.h xb.A xb.c xb.B xb.d).toArray) rfl (by kernel_rfl) (wgY rfl rfl rfl (by decide) (by kernel_rfl)) (fun _ _ _ h => h) (hm77.sub (.cons_cons _ (.cons_cons _ (.cons_cons _ (.cons_cons _ (.cons_cons _ (.cons_cons _ (List.Sublist.refl _)))))))) (fun w_ h_ => gLoadAg (vs := hcs xb.h xb.A xb.c xb.B xb.d) (k := 0) 1 h_ rfl (by kernel_rfl) (by kernel_rfl) (.tmp 4) Ty.ag_voxel_api_Header rfl (litEv (by kernel_rfl))) ?_
 refine mP rfl ?_
 refine mgTake (i := 29) (v := .agg (hcs xa.h xa.A xa.c xa.B xa.d).toArray) rfl (by kernel_rfl) (wgY rfl rfl rfl (by decide) (by kernel_rfl)) (fun _ _ _ h => h) (hm77.sub (.cons_cons _ (.cons_cons _ (.cons_cons _ (.cons_cons _ (.cons_cons _ (.cons_cons _ (List.Sublist.refl _)))))))) (fun w_ h_ => gLoadAg (vs := hcs xa.h xa.A xa.c xa.B xa.d) (k := 0) 0 h_ rfl (by kernel_rfl) (by kernel_rfl) (.tmp 3) Ty.ag_voxel_api_Header rfl (litEv (by kernel_rfl))) ?_
 refine mP rfl ?_
 refine mgTake (i := 30) (v := .agg (hcs xb.h xb.A xb.c xb.B xb.d).toArray) rfl (by kernel_rfl) (wgY rfl rfl rfl (by decide) (by kernel_rfl)) (fun _ _ _ h => h) (hm77.sub (.cons_cons _ (.cons_cons _ (.cons_cons _ (.cons_cons _ (.cons_cons _ (.cons_cons _ (List.Sublist.refl _)))))))) (fun w_ h_ => gLoadAg (vs := hcs xb.h xb.A xb.c xb.B xb.d) (k := 0) 1 h_ rfl (by kernel_rfl) (by kernel_rfl) (.tmp 4) Ty.ag_voxel_api_Header rfl (litEv (by kernel_rfl))) ?_
 refine mP rfl ?_
 refine mgCall (i := 28) 18 [.agg (hcs xa.h xa.A xa.c xa.B xa.d).toArray, .agg (hcs xb.h xb.A xb.c xb.B xb.d).toArray] [] [] (by kernel_rfl) rfl (by kernel_rfl) (wgY rfl rfl rfl (by decide) (by kernel_rfl)) rfl (litEv (by kernel_rfl)) (litArgs (by kernel_rfl)) (same_any xa.h xa.A xa.c xa.B xa.d xb.h xb.A xb.c xb.B xb.d _ ((Mem.lv ((Mem.tailN (T := (lvRes [v40] ++ (lvRes [v30] ++ (lvRes [xa] ++ lvRes [xb])))) 6 hm77 rfl).sub (L' := lvRes [xa]) (((List.sublist_append_left _ _).trans (List.sublist_append_right _ _)).trans (List.sublist_append_right _ _)))) xa List.mem_cons_self).a ((Mem.lv ((Mem.tailN (T := (lvRes [v40] ++ (lvRes [v30] ++ (lvRes [xa] ++ lvRes [xb])))) 6 hm77 rfl).sub (L' := lvRes [xa]) (((List.sublist_append_left _ _).trans (List.sublist_append_right _ _)).trans (List.sublist_append_right _ _)))) xa List.mem_cons_self).b ((Mem.lv ((Mem.tailN (T := (lvRes [v40] ++ (lvRes [v30] ++ (lvRes [xa] ++ lvRes [xb])))) 6 hm77 rfl).sub (L' := lvRes [xb]) ((((List.Sublist.refl _).trans (List.sublist_append_right _ _)).trans (List.sublist_append_right _ _)).trans (List.sublist_append_right _ _)))) xb List.mem_cons_self).a ((Mem.lv ((Mem.tailN (T := (lvRes [v40] ++ (lvRes [v30] ++ (lvRes [xa] ++ lvRes [xb])))) 6 hm77 rfl).sub (L' := lvRes [xb]) ((((List.Sublist.refl _).trans (List.sublist_append_right _ _)).trans (List.sublist_append_right _ _)).trans (List.sublist_append_right _ _)))) xb List.mem_cons_self).b (by have q_ := of_decide_eq_true h15; omega) (by have q_ := of_decide_eq_true h15; omega)) ?_
 rintro e w78 ⟨rfl, hbz⟩
 have hm79 := hm77.below hbz
 clear hbz hm77
 refine ⟨_, rfl, (hm79.sub (.cons_cons _ (.cons_cons _ (.cons_cons _ (.cons_cons _ (.cons_cons _ (.cons_cons _ (List.Sublist.refl _)))))))), ?_⟩
 refine mP rfl ?_
 rcases bool_or (decide (xa.h = xb.h)) with h80 | h80
 · rw [h80]
   refine mgCall (i := 31) 10 [.agg (hcs xa.h xa.A xa.c xa.B xa.d).toArray, .agg (hcs xb.h xb.A xb.c xb.B xb.d).toArray] [] [] (by kernel_rfl) rfl (by kernel_rfl) (wgY rfl rfl rfl (by decide) (by kernel_rfl)) rfl (litEv (by kernel_rfl)) (litArgs (by kernel_rfl)) (rsame_any xa.h xa.A xa.c xa.B xa.d xb.h xb.A xb.c xb.B xb.d _ ((Mem.lv ((Mem.tailN (T := (lvRes [v40] ++ (lvRes [v30] ++ (lvRes [xa] ++ lvRes [xb])))) 6 hm79 rfl).sub (L' := lvRes [xa]) (((List.sublist_append_left _ _).trans (List.sublist_append_right _ _)).trans (List.sublist_append_right _ _)))) xa List.mem_cons_self).a ((Mem.lv ((Mem.tailN (T := (lvRes [v40] ++ (lvRes [v30] ++ (lvRes [xa] ++ lvRes [xb])))) 6 hm79 rfl).sub (L' := lvRes [xa]) (((List.sublist_append_left _ _).trans (List.sublist_append_right _ _)).trans (List.sublist_append_right _ _)))) xa List.mem_cons_self).b ((Mem.lv ((Mem.tailN (T := (lvRes [v40] ++ (lvRes [v30] ++ (lvRes [xa] ++ lvRes [xb])))) 6 hm79 rfl).sub (L' := lvRes [xb]) ((((List.Sublist.refl _).trans (List.sublist_append_right _ _)).trans (List.sublist_append_right _ _)).trans (List.sublist_append_right _ _)))) xb List.mem_cons_self).a ((Mem.lv ((Mem.tailN (T := (lvRes [v40] ++ (lvRes [v30] ++ (lvRes [xa] ++ lvRes [xb])))) 6 hm79 rfl).sub (L' := lvRes [xb]) ((((List.Sublist.refl _).trans (List.sublist_append_right _ _)).trans (List.sublist_append_right _ _)).trans (List.sublist_append_right _ _)))) xb List.mem_cons_self).b (by have q_ := of_decide_eq_true h15; omega) (by have q_ := of_decide_eq_true h15; omega)) ?_
   rintro e w81 ⟨rfl, hbz⟩
   have hm82 := hm79.below hbz
   clear hbz hm79
   rw [h80]
   refine ⟨_, rfl, (hm82.sub (.cons_cons _ (.cons_cons _ (.cons_cons _ (.cons_cons _ (.cons_cons _ (.cons_cons _ (List.Sublist.refl _)))))))), ?_⟩
   refine mP rfl ?_
   refine mgTake (i := 32) (v := .bool false) rfl (by kernel_rfl) (wgY rfl rfl rfl (by decide) (by kernel_rfl)) (fun _ _ _ h => h) (hm82.sub (.cons_cons _ (.cons_cons _ (.cons_cons _ (.cons_cons _ (.cons_cons _ (.cons_cons _ (List.Sublist.refl _)))))))) (fun w_ h_ => litRun (by kernel_rfl)) ?_
   refine mP rfl ?_
   refine mk_ (i := 33) (v := .bool false) rfl rfl (fun _ _ _ h => h) (hm82.sub (.cons_cons _ (.cons_cons _ (.cons_cons _ (.cons_cons _ (.cons_cons _ (.cons_cons _ (List.Sublist.refl _)))))))) rfl ?_
   refine mgDone (by kernel_rfl) ?_
   refine then_normal (hK67 _ _ ?_)
   refine wpPrune [(3, .pointer (some ⟨g2, 0, none⟩)), (4, .pointer (some ⟨g5, 0, none⟩)), (6, .bool false), (7, .bool true), (80, .bool false)] ⟨litGet (by kernel_rfl), ⟨litGet (by kernel_rfl), ⟨litGet (by kernel_rfl), ⟨litGet (by kernel_rfl), ⟨litGet (by kernel_rfl), trivial⟩⟩⟩⟩⟩ (fun X83 => ?_)
   refine wp_cond_false (litEv (by kernel_rfl)) ?_
   refine wp_skip ?_
   refine then_normal (hK66 _ _ ?_)
   refine wp_seq_k fun K84 hK84 => ?_
   refine wp_seq_k fun K85 hK85 => ?_
   refine plStart ?_
   refine litVal (v := .agg (hcs xa.h xa.A xa.c xa.B xa.d).toArray) rfl (wn rfl) (gLoadAg (vs := hcs xa.h xa.A xa.c xa.B xa.d) (k := 0) 0 hm82 rfl (by kernel_rfl) (by kernel_rfl) (.tmp 3) Ty.ag_voxel_api_Header rfl (litEv (by kernel_rfl))) rfl (by decide) ?_
   refine plCall (i := 1) 15 [.agg (hcs xa.h xa.A xa.c xa.B xa.d).toArray] [] [] rfl (by kernel_rfl) (wn rfl) rfl (litEv (by kernel_rfl)) (litArgs (by kernel_rfl)) (rcheck_any xa.h xa.A xa.c xa.B xa.d _ ((Mem.lv ((Mem.tailN (T := (lvRes [v40] ++ (lvRes [v30] ++ (lvRes [xa] ++ lvRes [xb])))) 6 hm82 rfl).sub (L' := lvRes [xa]) (((List.sublist_append_left _ _).trans (List.sublist_append_right _ _)).trans (List.sublist_append_right _ _)))) xa List.mem_cons_self).a ((Mem.lv ((Mem.tailN (T := (lvRes [v40] ++ (lvRes [v30] ++ (lvRes [xa] ++ lvRes [xb])))) 6 hm82 rfl).sub (L' := lvRes [xa]) (((List.sublist_append_left _ _).trans (List.sublist_append_right _ _)).trans (List.sublist_append_right _ _)))) xa List.mem_cons_self).b (by have q_ := of_decide_eq_true h15; omega) (by have q_ := of_decide_eq_true h15; omega) hixa.depth) ?_
   rintro e w86 ⟨rfl, hbz⟩
   have hm87 := hm82.below hbz
   clear hbz hm82
   refine ⟨_, rfl, ?_⟩
   refine qP rfl ?_
   by_cases h88 : (ckH xa.h) = 0
   · refine litVal (v := .bool false) rfl (wn rfl) (boolTo (by rw [decide_eq_true h88]; rfl) (neqRun (A := (ckH xa.h)) (B := 0) (.tmp 82) (.const (.int .i64 0)) rfl (litEv (by kernel_rfl)) (litEv (by kernel_rfl)))) rfl (by decide) ?_
     refine lk (v := .bool false) rfl rfl rfl ?_
     refine litVal (v := .agg (hcs xb.h xb.A xb.c xb.B xb.d).toArray) rfl (wgY rfl rfl rfl (by decide) (by kernel_rfl)) (gLoadAg (vs := hcs xb.h xb.A xb.c xb.B xb.d) (k := 0) 1 hm87 rfl (by kernel_rfl) (by kernel_rfl) (.tmp 4) Ty.ag_voxel_api_Header rfl (litEv (by kernel_rfl))) rfl (by decide) ?_
     refine plCall (i := 5) 15 [.agg (hcs xb.h xb.A xb.c xb.B xb.d).toArray] [] [] rfl (by kernel_rfl) (wgY rfl rfl rfl (by decide) (by kernel_rfl)) rfl (litEv (by kernel_rfl)) (litArgs (by kernel_rfl)) (rcheck_any xb.h xb.A xb.c xb.B xb.d _ ((Mem.lv ((Mem.tailN (T := (lvRes [v40] ++ (lvRes [v30] ++ (lvRes [xa] ++ lvRes [xb])))) 6 hm87 rfl).sub (L' := lvRes [xb]) ((((List.Sublist.refl _).trans (List.sublist_append_right _ _)).trans (List.sublist_append_right _ _)).trans (List.sublist_append_right _ _)))) xb List.mem_cons_self).a ((Mem.lv ((Mem.tailN (T := (lvRes [v40] ++ (lvRes [v30] ++ (lvRes [xa] ++ lvRes [xb])))) 6 hm87 rfl).sub (L' := lvRes [xb]) ((((List.Sublist.refl _).trans (List.sublist_append_right _ _)).trans (List.sublist_append_right _ _)).trans (List.sublist_append_right _ _)))) xb List.mem_cons_self).b (by have q_ := of_decide_eq_true h20; omega) (by have q_ := of_decide_eq_true h20; omega) hixb.depth) ?_
     rintro e w89 ⟨rfl, hbz⟩
     have hm90 := hm87.below hbz
     clear hbz hm87
     refine ⟨_, rfl, ?_⟩
     refine qP rfl ?_
     by_cases h91 : (ckH xb.h) = 0
     · refine litVal (v := .bool false) rfl (wgY rfl rfl rfl (by decide) (by kernel_rfl)) (boolTo (by rw [decide_eq_true h91]; rfl) (neqRun (A := (ckH xb.h)) (B := 0) (.tmp 86) (.const (.int .i64 0)) rfl (litEv (by kernel_rfl)) (litEv (by kernel_rfl)))) rfl (by decide) ?_
       refine lk (v := .bool false) rfl rfl rfl ?_
       refine plD ?_
       refine then_normal (hK85 _ _ ?_)
       refine wp_cond_false (litEv (by kernel_rfl)) ?_
       refine wp_skip ?_
       refine then_normal (hK84 _ _ ?_)
       refine wp_seq_k fun K92 hK92 => ?_
       refine mgStartM ((.arr g2 25 (hcs xa.h xa.A xa.c xa.B xa.d)) :: (.arr g5 25 (hcs xb.h xb.A xb.c xb.B xb.d)) :: (.arr g32 25 (hcs v30.h v30.A v30.c v30.B v30.d)) :: (.arr g42 25 (hcs v40.h v40.A v40.c v40.B v40.d)) :: (.row (.slice A57 ((encH xa.h).length) c58) 5 1 ((encH xa.h).length) (bcs (encH xa.h))) :: (.row (.slice A62 ((encH xa.h).length) c63) 5 1 ((encH xa.h).length) (bcs (encH xa.h))) :: (lvRes [v40] ++ (lvRes [v30] ++ (lvRes [xa] ++ lvRes [xb])))) hm90 (by kernel_rfl) ?_
       intro w94 hm93
       clear hm90
       refine mk_ (i := 0) (v := .bool true) rfl rfl (fun _ _ _ h => h) (hm93.sub (.cons_cons _ (.cons_cons _ (.cons_cons _ (.cons_cons _ (.cons_cons _ (.cons_cons _ (List.Sublist.refl _)))))))) rfl ?_
       refine mk_ (i := 1) (v := .bool true) rfl rfl (fun _ _ _ h => h) (hm93.sub (.cons_cons _ (.cons_cons _ (.cons_cons _ (.cons_cons _ (.cons_cons _ (.cons_cons _ (List.Sublist.refl _)))))))) rfl ?_
       refine mgTake (i := 2) (v := .agg (hcs xa.h xa.A xa.c xa.B xa.d).toArray) rfl (by kernel_rfl) (wgY rfl rfl rfl (by decide) (by kernel_rfl)) (fun _ _ _ h => h) (hm93.sub (.cons_cons _ (.cons_cons _ (.cons_cons _ (.cons_cons _ (.cons_cons _ (.cons_cons _ (List.Sublist.refl _)))))))) (fun w_ h_ => gLoadAg (vs := hcs xa.h xa.A xa.c xa.B xa.d) (k := 0) 0 h_ rfl (by kernel_rfl) (by kernel_rfl) (.tmp 3) Ty.ag_voxel_api_Header rfl (litEv (by kernel_rfl))) ?_
       refine mP rfl ?_
       refine mgTake (i := 3) (v := .agg (hcs xb.h xb.A xb.c xb.B xb.d).toArray) rfl (by kernel_rfl) (wgY rfl rfl rfl (by decide) (by kernel_rfl)) (fun _ _ _ h => h) (hm93.sub (.cons_cons _ (.cons_cons _ (.cons_cons _ (.cons_cons _ (.cons_cons _ (.cons_cons _ (List.Sublist.refl _)))))))) (fun w_ h_ => gLoadAg (vs := hcs xb.h xb.A xb.c xb.B xb.d) (k := 0) 1 h_ rfl (by kernel_rfl) (by kernel_rfl) (.tmp 4) Ty.ag_voxel_api_Header rfl (litEv (by kernel_rfl))) ?_
       refine mP rfl ?_
       refine mgTake (i := 5) (v := .agg (hcs xa.h xa.A xa.c xa.B xa.d).toArray) rfl (by kernel_rfl) (wgY rfl rfl rfl (by decide) (by kernel_rfl)) (fun _ _ _ h => h) (hm93.sub (.cons_cons _ (.cons_cons _ (.cons_cons _ (.cons_cons _ (.cons_cons _ (.cons_cons _ (List.Sublist.refl _)))))))) (fun w_ h_ => gLoadAg (vs := hcs xa.h xa.A xa.c xa.B xa.d) (k := 0) 0 h_ rfl (by kernel_rfl) (by kernel_rfl) (.tmp 3) Ty.ag_voxel_api_Header rfl (litEv (by kernel_rfl))) ?_
       refine mP rfl ?_
       refine mgTake (i := 6) (v := .agg (hcs xb.h xb.A xb.c xb.B xb.d).toArray) rfl (by kernel_rfl) (wgY rfl rfl rfl (by decide) (by kernel_rfl)) (fun _ _ _ h => h) (hm93.sub (.cons_cons _ (.cons_cons _ (.cons_cons _ (.cons_cons _ (.cons_cons _ (.cons_cons _ (List.Sublist.refl _)))))))) (fun w_ h_ => gLoadAg (vs := hcs xb.h xb.A xb.c xb.B xb.d) (k := 0) 1 h_ rfl (by kernel_rfl) (by kernel_rfl) (.tmp 4) Ty.ag_voxel_api_Header rfl (litEv (by kernel_rfl))) ?_
       refine mP rfl ?_
       refine mgCall (i := 4) 19 [.agg (hcs xa.h xa.A xa.c xa.B xa.d).toArray, .agg (hcs xb.h xb.A xb.c xb.B xb.d).toArray] [] [] (by kernel_rfl) rfl (by kernel_rfl) (wgY rfl rfl rfl (by decide) (by kernel_rfl)) rfl (litEv (by kernel_rfl)) (litArgs (by kernel_rfl)) (covers_any xa.h xa.A xa.c xa.B xa.d xb.h xb.A xb.c xb.B xb.d _ ((Mem.lv ((Mem.tailN (T := (lvRes [v40] ++ (lvRes [v30] ++ (lvRes [xa] ++ lvRes [xb])))) 6 hm93 rfl).sub (L' := lvRes [xa]) (((List.sublist_append_left _ _).trans (List.sublist_append_right _ _)).trans (List.sublist_append_right _ _)))) xa List.mem_cons_self).a ((Mem.lv ((Mem.tailN (T := (lvRes [v40] ++ (lvRes [v30] ++ (lvRes [xa] ++ lvRes [xb])))) 6 hm93 rfl).sub (L' := lvRes [xa]) (((List.sublist_append_left _ _).trans (List.sublist_append_right _ _)).trans (List.sublist_append_right _ _)))) xa List.mem_cons_self).b ((Mem.lv ((Mem.tailN (T := (lvRes [v40] ++ (lvRes [v30] ++ (lvRes [xa] ++ lvRes [xb])))) 6 hm93 rfl).sub (L' := lvRes [xb]) ((((List.Sublist.refl _).trans (List.sublist_append_right _ _)).trans (List.sublist_append_right _ _)).trans (List.sublist_append_right _ _)))) xb List.mem_cons_self).a ((Mem.lv ((Mem.tailN (T := (lvRes [v40] ++ (lvRes [v30] ++ (lvRes [xa] ++ lvRes [xb])))) 6 hm93 rfl).sub (L' := lvRes [xb]) ((((List.Sublist.refl _).trans (List.sublist_append_right _ _)).trans (List.sublist_append_right _ _)).trans (List.sublist_append_right _ _)))) xb List.mem_cons_self).b (by have q_ := of_decide_eq_true h15; omega) (by have q_ := of_decide_eq_true h15; omega) (by have q_ := (ckH_good.1 h88).2.2.1; omega) (by have q_ := (ckH_good.1 h91).2.2.1; omega)) ?_
       rintro e w95 ⟨rfl, hbz⟩
       have hm96 := hm93.below hbz
       clear hbz hm93
       refine ⟨_, rfl, (hm96.sub (.cons_cons _ (.cons_cons _ (.cons_cons _ (.cons_cons _ (.cons_cons _ (.cons_cons _ (List.Sublist.refl _)))))))), ?_⟩
       refine mP rfl ?_
       rcases bool_or (decide (covers xa.h xb.h)) with h97 | h97
       · rw [h97]
         refine mgCall (i := 7) 20 [.agg (hcs xa.h xa.A xa.c xa.B xa.d).toArray, .agg (hcs xb.h xb.A xb.c xb.B xb.d).toArray] [] [] (by kernel_rfl) rfl (by kernel_rfl) (wgY rfl rfl rfl (by decide) (by kernel_rfl)) rfl (litEv (by kernel_rfl)) (litArgs (by kernel_rfl)) (rcovers_any xa.h xa.A xa.c xa.B xa.d xb.h xb.A xb.c xb.B xb.d _ ((Mem.lv ((Mem.tailN (T := (lvRes [v40] ++ (lvRes [v30] ++ (lvRes [xa] ++ lvRes [xb])))) 6 hm96 rfl).sub (L' := lvRes [xa]) (((List.sublist_append_left _ _).trans (List.sublist_append_right _ _)).trans (List.sublist_append_right _ _)))) xa List.mem_cons_self).a ((Mem.lv ((Mem.tailN (T := (lvRes [v40] ++ (lvRes [v30] ++ (lvRes [xa] ++ lvRes [xb])))) 6 hm96 rfl).sub (L' := lvRes [xa]) (((List.sublist_append_left _ _).trans (List.sublist_append_right _ _)).trans (List.sublist_append_right _ _)))) xa List.mem_cons_self).b ((Mem.lv ((Mem.tailN (T := (lvRes [v40] ++ (lvRes [v30] ++ (lvRes [xa] ++ lvRes [xb])))) 6 hm96 rfl).sub (L' := lvRes [xb]) ((((List.Sublist.refl _).trans (List.sublist_append_right _ _)).trans (List.sublist_append_right _ _)).trans (List.sublist_append_right _ _)))) xb List.mem_cons_self).a ((Mem.lv ((Mem.tailN (T := (lvRes [v40] ++ (lvRes [v30] ++ (lvRes [xa] ++ lvRes [xb])))) 6 hm96 rfl).sub (L' := lvRes [xb]) ((((List.Sublist.refl _).trans (List.sublist_append_right _ _)).trans (List.sublist_append_right _ _)).trans (List.sublist_append_right _ _)))) xb List.mem_cons_self).b (by have q_ := of_decide_eq_true h15; omega) (by have q_ := of_decide_eq_true h15; omega) (by have q_ := (ckH_good.1 h88).2.2.1; omega) (by have q_ := (ckH_good.1 h91).2.2.1; omega)) ?_
         rintro e w98 ⟨rfl, hbz⟩
         have hm99 := hm96.below hbz
         clear hbz hm96
         rw [h97]
         refine ⟨_, rfl, (hm99.sub (.cons_cons _ (.cons_cons _ (.cons_cons _ (.cons_cons _ (.cons_cons _ (.cons_cons _ (List.Sublist.refl _)))))))), ?_⟩
         refine mP rfl ?_
         refine mgTake (i := 8) (v := .bool true) rfl (by kernel_rfl) (wgY rfl rfl rfl (by decide) (by kernel_rfl)) (fun _ _ _ h => h) (hm99.sub (.cons_cons _ (.cons_cons _ (.cons_cons _ (.cons_cons _ (.cons_cons _ (.cons_cons _ (List.Sublist.refl _)))))))) (fun w_ h_ => litRun (by kernel_rfl)) ?_
         refine mP rfl ?_
         refine mk_ (i := 9) (v := .bool true) rfl rfl (fun _ _ _ h => h) (hm99.sub (.cons_cons _ (.cons_cons _ (.cons_cons _ (.cons_cons _ (.cons_cons _ (.cons_cons _ (List.Sublist.refl _)))))))) rfl ?_
         refine mk_ (i := 10) (v := .bool true) rfl rfl (fun _ _ _ h => h) (hm99.sub (.cons_cons _ (.cons_cons _ (.cons_cons _ (.cons_cons _ (.cons_cons _ (.cons_cons _ (List.Sublist.refl _)))))))) rfl ?_
         refine mgDone (by kernel_rfl) ?_
         refine then_normal (hK92 _ _ ?_)
         refine wpPrune [(6, .bool true)] ⟨litGet (by kernel_rfl), trivial⟩ (fun X100 => ?_)
         refine wp_ret ?_
         refine bodyPost_ret (v := .bool true) (gRes1 rfl (gResTmp (t := 6) (v := .bool true) (litGet (by kernel_rfl)))) rfl ?_
         exact ⟨by rfl, hm99.bel⟩
       rw [h97]
       refine mgCall (i := 7) 20 [.agg (hcs xa.h xa.A xa.c xa.B xa.d).toArray, .agg (hcs xb.h xb.A xb.c xb.B xb.d).toArray] [] [] (by kernel_rfl) rfl (by kernel_rfl) (wgY rfl rfl rfl (by decide) (by kernel_rfl)) rfl (litEv (by kernel_rfl)) (litArgs (by kernel_rfl)) (rcovers_any xa.h xa.A xa.c xa.B xa.d xb.h xb.A xb.c xb.B xb.d _ ((Mem.lv ((Mem.tailN (T := (lvRes [v40] ++ (lvRes [v30] ++ (lvRes [xa] ++ lvRes [xb])))) 6 hm96 rfl).sub (L' := lvRes [xa]) (((List.sublist_append_left _ _).trans (List.sublist_append_right _ _)).trans (List.sublist_append_right _ _)))) xa List.mem_cons_self).a ((Mem.lv ((Mem.tailN (T := (lvRes [v40] ++ (lvRes [v30] ++ (lvRes [xa] ++ lvRes [xb])))) 6 hm96 rfl).sub (L' := lvRes [xa]) (((List.sublist_append_left _ _).trans (List.sublist_append_right _ _)).trans (List.sublist_append_right _ _)))) xa List.mem_cons_self).b ((Mem.lv ((Mem.tailN (T := (lvRes [v40] ++ (lvRes [v30] ++ (lvRes [xa] ++ lvRes [xb])))) 6 hm96 rfl).sub (L' := lvRes [xb]) ((((List.Sublist.refl _).trans (List.sublist_append_right _ _)).trans (List.sublist_append_right _ _)).trans (List.sublist_append_right _ _)))) xb List.mem_cons_self).a ((Mem.lv ((Mem.tailN (T := (lvRes [v40] ++ (lvRes [v30] ++ (lvRes [xa] ++ lvRes [xb])))) 6 hm96 rfl).sub (L' := lvRes [xb]) ((((List.Sublist.refl _).trans (List.sublist_append_right _ _)).trans (List.sublist_append_right _ _)).trans (List.sublist_append_right _ _)))) xb List.mem_cons_self).b (by have q_ := of_decide_eq_true h15; omega) (by have q_ := of_decide_eq_true h15; omega) (by have q_ := (ckH_good.1 h88).2.2.1; omega) (by have q_ := (ckH_good.1 h91).2.2.1; omega)) ?_
       rintro e w101 ⟨rfl, hbz⟩
       have hm102 := hm96.below hbz
       clear hbz hm96
       rw [h97]
       refine ⟨_, rfl, (hm102.sub (.cons_cons _ (.cons_cons _ (.cons_cons _ (.cons_cons _ (.cons_cons _ (.cons_cons _ (List.Sublist.refl _)))))))), ?_⟩
       refine mP rfl ?_
       refine mgTake (i := 8) (v := .bool true) rfl (by kernel_rfl) (wgY rfl rfl rfl (by decide) (by kernel_rfl)) (fun _ _ _ h => h) (hm102.sub (.cons_cons _ (.cons_cons _ (.cons_cons _ (.cons_cons _ (.cons_cons _ (.cons_cons _ (List.Sublist.refl _)))))))) (fun w_ h_ => litRun (by kernel_rfl)) ?_
       refine mP rfl ?_
       refine mk_ (i := 9) (v := .bool true) rfl rfl (fun _ _ _ h => h) (hm102.sub (.cons_cons _ (.cons_cons _ (.cons_cons _ (.cons_cons _ (.cons_cons _ (.cons_cons _ (List.Sublist.refl _)))))))) rfl ?_
       refine mk_ (i := 10) (v := .bool true) rfl rfl (fun _ _ _ h => h) (hm102.sub (.cons_cons _ (.cons_cons _ (.cons_cons _ (.cons_cons _ (.cons_cons _ (.cons_cons _ (List.Sublist.refl _)))))))) rfl ?_
       refine mgDone (by kernel_rfl) ?_
       refine then_normal (hK92 _ _ ?_)
       refine wpPrune [(6, .bool true)] ⟨litGet (by kernel_rfl), trivial⟩ (fun X103 => ?_)
       refine wp_ret ?_
       refine bodyPost_ret (v := .bool true) (gRes1 rfl (gResTmp (t := 6) (v := .bool true) (litGet (by kernel_rfl)))) rfl ?_
       exact ⟨by rfl, hm102.bel⟩
     refine litVal (v := .bool true) rfl (wgY rfl rfl rfl (by decide) (by kernel_rfl)) (boolTo (by rw [decide_eq_false h91]; rfl) (neqRun (A := (ckH xb.h)) (B := 0) (.tmp 86) (.const (.int .i64 0)) rfl (litEv (by kernel_rfl)) (litEv (by kernel_rfl)))) rfl (by decide) ?_
     refine lk (v := .bool true) rfl rfl rfl ?_
     refine plD ?_
     refine then_normal (hK85 _ _ ?_)
     refine wp_cond_true (litEv (by kernel_rfl)) ?_
     refine wp_seq_k fun K104 hK104 => ?_
     refine plStart ?_
     refine lk (v := .bool true) rfl rfl rfl ?_
     refine lk (v := .bool true) rfl rfl rfl ?_
     refine plD ?_
     refine then_normal (hK104 _ _ ?_)
     refine wp_ret ?_
     refine then_ret ?_
     refine bodyPost_ret (v := .bool true) (gRes1 rfl (gResTmp (t := 6) (v := .bool true) (litGet (by kernel_rfl)))) rfl ?_
     exact ⟨by rfl, hm90.bel⟩
   refine litVal (v := .bool true) rfl (wn rfl) (boolTo (by rw [decide_eq_false h88]; rfl) (neqRun (A := (ckH xa.h)) (B := 0) (.tmp 82) (.const (.int .i64 0)) rfl (litEv (by kernel_rfl)) (litEv (by kernel_rfl)))) rfl (by decide) ?_
   refine lk (v := .bool true) rfl rfl rfl ?_
   refine plSkip (i := 4) rfl (wgN rfl rfl rfl (by decide) (by kernel_rfl)) ?_
   refine qP rfl ?_
   refine plSkip (i := 5) rfl (wgN rfl rfl rfl (by decide) (by kernel_rfl)) ?_
   refine qP rfl ?_
   refine plSkip (i := 6) rfl (wgN rfl rfl rfl (by decide) (by kernel_rfl)) ?_
   refine qP rfl ?_
   refine lk (v := .bool true) rfl rfl rfl ?_
   refine plD ?_
   refine then_normal (hK85 _ _ ?_)
   refine wp_cond_true (litEv (by kernel_rfl)) ?_
   refine wp_seq_k fun K105 hK105 => ?_
   refine plStart ?_
   refine lk (v := .bool true) rfl rfl rfl ?_
   refine lk (v := .bool true) rfl rfl rfl ?_
   refine plD ?_
   refine then_normal (hK105 _ _ ?_)
   refine wp_ret ?_
   refine then_ret ?_
   refine bodyPost_ret (v := .bool true) (gRes1 rfl (gResTmp (t := 6) (v := .bool true) (litGet (by kernel_rfl)))) rfl ?_
   exact ⟨by rfl, hm87.bel⟩
 rw [h80]
 refine mgCall (i := 31) 10 [.agg (hcs xa.h xa.A xa.c xa.B xa.d).toArray, .agg (hcs xb.h xb.A xb.c xb.B xb.d).toArray] [] [] (by kernel_rfl) rfl (by kernel_rfl) (wgY rfl rfl rfl (by decide) (by kernel_rfl)) rfl (litEv (by kernel_rfl)) (litArgs (by kernel_rfl)) (rsame_any xa.h xa.A xa.c xa.B xa.d xb.h xb.A xb.c xb.B xb.d _ ((Mem.lv ((Mem.tailN (T := (lvRes [v40] ++ (lvRes [v30] ++ (lvRes [xa] ++ lvRes [xb])))) 6 hm79 rfl).sub (L' := lvRes [xa]) (((List.sublist_append_left _ _).trans (List.sublist_append_right _ _)).trans (List.sublist_append_right _ _)))) xa List.mem_cons_self).a ((Mem.lv ((Mem.tailN (T := (lvRes [v40] ++ (lvRes [v30] ++ (lvRes [xa] ++ lvRes [xb])))) 6 hm79 rfl).sub (L' := lvRes [xa]) (((List.sublist_append_left _ _).trans (List.sublist_append_right _ _)).trans (List.sublist_append_right _ _)))) xa List.mem_cons_self).b ((Mem.lv ((Mem.tailN (T := (lvRes [v40] ++ (lvRes [v30] ++ (lvRes [xa] ++ lvRes [xb])))) 6 hm79 rfl).sub (L' := lvRes [xb]) ((((List.Sublist.refl _).trans (List.sublist_append_right _ _)).trans (List.sublist_append_right _ _)).trans (List.sublist_append_right _ _)))) xb List.mem_cons_self).a ((Mem.lv ((Mem.tailN (T := (lvRes [v40] ++ (lvRes [v30] ++ (lvRes [xa] ++ lvRes [xb])))) 6 hm79 rfl).sub (L' := lvRes [xb]) ((((List.Sublist.refl _).trans (List.sublist_append_right _ _)).trans (List.sublist_append_right _ _)).trans (List.sublist_append_right _ _)))) xb List.mem_cons_self).b (by have q_ := of_decide_eq_true h15; omega) (by have q_ := of_decide_eq_true h15; omega)) ?_
 rintro e w106 ⟨rfl, hbz⟩
 have hm107 := hm79.below hbz
 clear hbz hm79
 rw [h80]
 refine ⟨_, rfl, (hm107.sub (.cons_cons _ (.cons_cons _ (.cons_cons _ (.cons_cons _ (.cons_cons _ (.cons_cons _ (List.Sublist.refl _)))))))), ?_⟩
 refine mP rfl ?_
 refine mgTake (i := 32) (v := .bool false) rfl (by kernel_rfl) (wgY rfl rfl rfl (by decide) (by kernel_rfl)) (fun _ _ _ h => h) (hm107.sub (.cons_cons _ (.cons_cons _ (.cons_cons _ (.cons_cons _ (.cons_cons _ (.cons_cons _ (List.Sublist.refl _)))))))) (fun w_ h_ => litRun (by kernel_rfl)) ?_
 refine mP rfl ?_
 refine mk_ (i := 33) (v := .bool false) rfl rfl (fun _ _ _ h => h) (hm107.sub (.cons_cons _ (.cons_cons _ (.cons_cons _ (.cons_cons _ (.cons_cons _ (.cons_cons _ (List.Sublist.refl _)))))))) rfl ?_
 refine mgDone (by kernel_rfl) ?_
 refine then_normal (hK67 _ _ ?_)
 refine wpPrune [(3, .pointer (some ⟨g2, 0, none⟩)), (4, .pointer (some ⟨g5, 0, none⟩)), (6, .bool false), (7, .bool true), (80, .bool false)] ⟨litGet (by kernel_rfl), ⟨litGet (by kernel_rfl), ⟨litGet (by kernel_rfl), ⟨litGet (by kernel_rfl), ⟨litGet (by kernel_rfl), trivial⟩⟩⟩⟩⟩ (fun X108 => ?_)
 refine wp_cond_false (litEv (by kernel_rfl)) ?_
 refine wp_skip ?_
 refine then_normal (hK66 _ _ ?_)
 refine wp_seq_k fun K109 hK109 => ?_
 refine wp_seq_k fun K110 hK110 => ?_
 refine plStart ?_
 refine litVal (v := .agg (hcs xa.h xa.A xa.c xa.B xa.d).toArray) rfl (wn rfl) (gLoadAg (vs := hcs xa.h xa.A xa.c xa.B xa.d) (k := 0) 0 hm107 rfl (by kernel_rfl) (by kernel_rfl) (.tmp 3) Ty.ag_voxel_api_Header rfl (litEv (by kernel_rfl))) rfl (by decide) ?_
 refine plCall (i := 1) 15 [.agg (hcs xa.h xa.A xa.c xa.B xa.d).toArray] [] [] rfl (by kernel_rfl) (wn rfl) rfl (litEv (by kernel_rfl)) (litArgs (by kernel_rfl)) (rcheck_any xa.h xa.A xa.c xa.B xa.d _ ((Mem.lv ((Mem.tailN (T := (lvRes [v40] ++ (lvRes [v30] ++ (lvRes [xa] ++ lvRes [xb])))) 6 hm107 rfl).sub (L' := lvRes [xa]) (((List.sublist_append_left _ _).trans (List.sublist_append_right _ _)).trans (List.sublist_append_right _ _)))) xa List.mem_cons_self).a ((Mem.lv ((Mem.tailN (T := (lvRes [v40] ++ (lvRes [v30] ++ (lvRes [xa] ++ lvRes [xb])))) 6 hm107 rfl).sub (L' := lvRes [xa]) (((List.sublist_append_left _ _).trans (List.sublist_append_right _ _)).trans (List.sublist_append_right _ _)))) xa List.mem_cons_self).b (by have q_ := of_decide_eq_true h15; omega) (by have q_ := of_decide_eq_true h15; omega) hixa.depth) ?_
 rintro e w111 ⟨rfl, hbz⟩
 have hm112 := hm107.below hbz
 clear hbz hm107
 refine ⟨_, rfl, ?_⟩
 refine qP rfl ?_
 by_cases h113 : (ckH xa.h) = 0
 · refine litVal (v := .bool false) rfl (wn rfl) (boolTo (by rw [decide_eq_true h113]; rfl) (neqRun (A := (ckH xa.h)) (B := 0) (.tmp 82) (.const (.int .i64 0)) rfl (litEv (by kernel_rfl)) (litEv (by kernel_rfl)))) rfl (by decide) ?_
   refine lk (v := .bool false) rfl rfl rfl ?_
   refine litVal (v := .agg (hcs xb.h xb.A xb.c xb.B xb.d).toArray) rfl (wgY rfl rfl rfl (by decide) (by kernel_rfl)) (gLoadAg (vs := hcs xb.h xb.A xb.c xb.B xb.d) (k := 0) 1 hm112 rfl (by kernel_rfl) (by kernel_rfl) (.tmp 4) Ty.ag_voxel_api_Header rfl (litEv (by kernel_rfl))) rfl (by decide) ?_
   refine plCall (i := 5) 15 [.agg (hcs xb.h xb.A xb.c xb.B xb.d).toArray] [] [] rfl (by kernel_rfl) (wgY rfl rfl rfl (by decide) (by kernel_rfl)) rfl (litEv (by kernel_rfl)) (litArgs (by kernel_rfl)) (rcheck_any xb.h xb.A xb.c xb.B xb.d _ ((Mem.lv ((Mem.tailN (T := (lvRes [v40] ++ (lvRes [v30] ++ (lvRes [xa] ++ lvRes [xb])))) 6 hm112 rfl).sub (L' := lvRes [xb]) ((((List.Sublist.refl _).trans (List.sublist_append_right _ _)).trans (List.sublist_append_right _ _)).trans (List.sublist_append_right _ _)))) xb List.mem_cons_self).a ((Mem.lv ((Mem.tailN (T := (lvRes [v40] ++ (lvRes [v30] ++ (lvRes [xa] ++ lvRes [xb])))) 6 hm112 rfl).sub (L' := lvRes [xb]) ((((List.Sublist.refl _).trans (List.sublist_append_right _ _)).trans (List.sublist_append_right _ _)).trans (List.sublist_append_right _ _)))) xb List.mem_cons_self).b (by have q_ := of_decide_eq_true h20; omega) (by have q_ := of_decide_eq_true h20; omega) hixb.depth) ?_
   rintro e w114 ⟨rfl, hbz⟩
   have hm115 := hm112.below hbz
   clear hbz hm112
   refine ⟨_, rfl, ?_⟩
   refine qP rfl ?_
   by_cases h116 : (ckH xb.h) = 0
   · refine litVal (v := .bool false) rfl (wgY rfl rfl rfl (by decide) (by kernel_rfl)) (boolTo (by rw [decide_eq_true h116]; rfl) (neqRun (A := (ckH xb.h)) (B := 0) (.tmp 86) (.const (.int .i64 0)) rfl (litEv (by kernel_rfl)) (litEv (by kernel_rfl)))) rfl (by decide) ?_
     refine lk (v := .bool false) rfl rfl rfl ?_
     refine plD ?_
     refine then_normal (hK110 _ _ ?_)
     refine wp_cond_false (litEv (by kernel_rfl)) ?_
     refine wp_skip ?_
     refine then_normal (hK109 _ _ ?_)
     refine wp_seq_k fun K117 hK117 => ?_
     refine mgStartM ((.arr g2 25 (hcs xa.h xa.A xa.c xa.B xa.d)) :: (.arr g5 25 (hcs xb.h xb.A xb.c xb.B xb.d)) :: (.arr g32 25 (hcs v30.h v30.A v30.c v30.B v30.d)) :: (.arr g42 25 (hcs v40.h v40.A v40.c v40.B v40.d)) :: (.row (.slice A57 ((encH xa.h).length) c58) 5 1 ((encH xa.h).length) (bcs (encH xa.h))) :: (.row (.slice A62 ((encH xa.h).length) c63) 5 1 ((encH xa.h).length) (bcs (encH xa.h))) :: (lvRes [v40] ++ (lvRes [v30] ++ (lvRes [xa] ++ lvRes [xb])))) hm115 (by kernel_rfl) ?_
     intro w119 hm118
     clear hm115
     refine mk_ (i := 0) (v := .bool true) rfl rfl (fun _ _ _ h => h) (hm118.sub (.cons_cons _ (.cons_cons _ (.cons_cons _ (.cons_cons _ (.cons_cons _ (.cons_cons _ (List.Sublist.refl _)))))))) rfl ?_
     refine mk_ (i := 1) (v := .bool true) rfl rfl (fun _ _ _ h => h) (hm118.sub (.cons_cons _ (.cons_cons _ (.cons_cons _ (.cons_cons _ (.cons_cons _ (.cons_cons _ (List.Sublist.refl _)))))))) rfl ?_
     refine mgTake (i := 2) (v := .agg (hcs xa.h xa.A xa.c xa.B xa.d).toArray) rfl (by kernel_rfl) (wgY rfl rfl rfl (by decide) (by kernel_rfl)) (fun _ _ _ h => h) (hm118.sub (.cons_cons _ (.cons_cons _ (.cons_cons _ (.cons_cons _ (.cons_cons _ (.cons_cons _ (List.Sublist.refl _)))))))) (fun w_ h_ => gLoadAg (vs := hcs xa.h xa.A xa.c xa.B xa.d) (k := 0) 0 h_ rfl (by kernel_rfl) (by kernel_rfl) (.tmp 3) Ty.ag_voxel_api_Header rfl (litEv (by kernel_rfl))) ?_
     refine mP rfl ?_
     refine mgTake (i := 3) (v := .agg (hcs xb.h xb.A xb.c xb.B xb.d).toArray) rfl (by kernel_rfl) (wgY rfl rfl rfl (by decide) (by kernel_rfl)) (fun _ _ _ h => h) (hm118.sub (.cons_cons _ (.cons_cons _ (.cons_cons _ (.cons_cons _ (.cons_cons _ (.cons_cons _ (List.Sublist.refl _)))))))) (fun w_ h_ => gLoadAg (vs := hcs xb.h xb.A xb.c xb.B xb.d) (k := 0) 1 h_ rfl (by kernel_rfl) (by kernel_rfl) (.tmp 4) Ty.ag_voxel_api_Header rfl (litEv (by kernel_rfl))) ?_
     refine mP rfl ?_
     refine mgTake (i := 5) (v := .agg (hcs xa.h xa.A xa.c xa.B xa.d).toArray) rfl (by kernel_rfl) (wgY rfl rfl rfl (by decide) (by kernel_rfl)) (fun _ _ _ h => h) (hm118.sub (.cons_cons _ (.cons_cons _ (.cons_cons _ (.cons_cons _ (.cons_cons _ (.cons_cons _ (List.Sublist.refl _)))))))) (fun w_ h_ => gLoadAg (vs := hcs xa.h xa.A xa.c xa.B xa.d) (k := 0) 0 h_ rfl (by kernel_rfl) (by kernel_rfl) (.tmp 3) Ty.ag_voxel_api_Header rfl (litEv (by kernel_rfl))) ?_
     refine mP rfl ?_
     refine mgTake (i := 6) (v := .agg (hcs xb.h xb.A xb.c xb.B xb.d).toArray) rfl (by kernel_rfl) (wgY rfl rfl rfl (by decide) (by kernel_rfl)) (fun _ _ _ h => h) (hm118.sub (.cons_cons _ (.cons_cons _ (.cons_cons _ (.cons_cons _ (.cons_cons _ (.cons_cons _ (List.Sublist.refl _)))))))) (fun w_ h_ => gLoadAg (vs := hcs xb.h xb.A xb.c xb.B xb.d) (k := 0) 1 h_ rfl (by kernel_rfl) (by kernel_rfl) (.tmp 4) Ty.ag_voxel_api_Header rfl (litEv (by kernel_rfl))) ?_
     refine mP rfl ?_
     refine mgCall (i := 4) 19 [.agg (hcs xa.h xa.A xa.c xa.B xa.d).toArray, .agg (hcs xb.h xb.A xb.c xb.B xb.d).toArray] [] [] (by kernel_rfl) rfl (by kernel_rfl) (wgY rfl rfl rfl (by decide) (by kernel_rfl)) rfl (litEv (by kernel_rfl)) (litArgs (by kernel_rfl)) (covers_any xa.h xa.A xa.c xa.B xa.d xb.h xb.A xb.c xb.B xb.d _ ((Mem.lv ((Mem.tailN (T := (lvRes [v40] ++ (lvRes [v30] ++ (lvRes [xa] ++ lvRes [xb])))) 6 hm118 rfl).sub (L' := lvRes [xa]) (((List.sublist_append_left _ _).trans (List.sublist_append_right _ _)).trans (List.sublist_append_right _ _)))) xa List.mem_cons_self).a ((Mem.lv ((Mem.tailN (T := (lvRes [v40] ++ (lvRes [v30] ++ (lvRes [xa] ++ lvRes [xb])))) 6 hm118 rfl).sub (L' := lvRes [xa]) (((List.sublist_append_left _ _).trans (List.sublist_append_right _ _)).trans (List.sublist_append_right _ _)))) xa List.mem_cons_self).b ((Mem.lv ((Mem.tailN (T := (lvRes [v40] ++ (lvRes [v30] ++ (lvRes [xa] ++ lvRes [xb])))) 6 hm118 rfl).sub (L' := lvRes [xb]) ((((List.Sublist.refl _).trans (List.sublist_append_right _ _)).trans (List.sublist_append_right _ _)).trans (List.sublist_append_right _ _)))) xb List.mem_cons_self).a ((Mem.lv ((Mem.tailN (T := (lvRes [v40] ++ (lvRes [v30] ++ (lvRes [xa] ++ lvRes [xb])))) 6 hm118 rfl).sub (L' := lvRes [xb]) ((((List.Sublist.refl _).trans (List.sublist_append_right _ _)).trans (List.sublist_append_right _ _)).trans (List.sublist_append_right _ _)))) xb List.mem_cons_self).b (by have q_ := of_decide_eq_true h15; omega) (by have q_ := of_decide_eq_true h15; omega) (by have q_ := (ckH_good.1 h113).2.2.1; omega) (by have q_ := (ckH_good.1 h116).2.2.1; omega)) ?_
     rintro e w120 ⟨rfl, hbz⟩
     have hm121 := hm118.below hbz
     clear hbz hm118
     refine ⟨_, rfl, (hm121.sub (.cons_cons _ (.cons_cons _ (.cons_cons _ (.cons_cons _ (.cons_cons _ (.cons_cons _ (List.Sublist.refl _)))))))), ?_⟩
     refine mP rfl ?_
     rcases bool_or (decide (covers xa.h xb.h)) with h122 | h122
     · rw [h122]
       refine mgCall (i := 7) 20 [.agg (hcs xa.h xa.A xa.c xa.B xa.d).toArray, .agg (hcs xb.h xb.A xb.c xb.B xb.d).toArray] [] [] (by kernel_rfl) rfl (by kernel_rfl) (wgY rfl rfl rfl (by decide) (by kernel_rfl)) rfl (litEv (by kernel_rfl)) (litArgs (by kernel_rfl)) (rcovers_any xa.h xa.A xa.c xa.B xa.d xb.h xb.A xb.c xb.B xb.d _ ((Mem.lv ((Mem.tailN (T := (lvRes [v40] ++ (lvRes [v30] ++ (lvRes [xa] ++ lvRes [xb])))) 6 hm121 rfl).sub (L' := lvRes [xa]) (((List.sublist_append_left _ _).trans (List.sublist_append_right _ _)).trans (List.sublist_append_right _ _)))) xa List.mem_cons_self).a ((Mem.lv ((Mem.tailN (T := (lvRes [v40] ++ (lvRes [v30] ++ (lvRes [xa] ++ lvRes [xb])))) 6 hm121 rfl).sub (L' := lvRes [xa]) (((List.sublist_append_left _ _).trans (List.sublist_append_right _ _)).trans (List.sublist_append_right _ _)))) xa List.mem_cons_self).b ((Mem.lv ((Mem.tailN (T := (lvRes [v40] ++ (lvRes [v30] ++ (lvRes [xa] ++ lvRes [xb])))) 6 hm121 rfl).sub (L' := lvRes [xb]) ((((List.Sublist.refl _).trans (List.sublist_append_right _ _)).trans (List.sublist_append_right _ _)).trans (List.sublist_append_right _ _)))) xb List.mem_cons_self).a ((Mem.lv ((Mem.tailN (T := (lvRes [v40] ++ (lvRes [v30] ++ (lvRes [xa] ++ lvRes [xb])))) 6 hm121 rfl).sub (L' := lvRes [xb]) ((((List.Sublist.refl _).trans (List.sublist_append_right _ _)).trans (List.sublist_append_right _ _)).trans (List.sublist_append_right _ _)))) xb List.mem_cons_self).b (by have q_ := of_decide_eq_true h15; omega) (by have q_ := of_decide_eq_true h15; omega) (by have q_ := (ckH_good.1 h113).2.2.1; omega) (by have q_ := (ckH_good.1 h116).2.2.1; omega)) ?_
       rintro e w123 ⟨rfl, hbz⟩
       have hm124 := hm121.below hbz
       clear hbz hm121
       rw [h122]
       refine ⟨_, rfl, (hm124.sub (.cons_cons _ (.cons_cons _ (.cons_cons _ (.cons_cons _ (.cons_cons _ (.cons_cons _ (List.Sublist.refl _)))))))), ?_⟩
       refine mP rfl ?_
       refine mgTake (i := 8) (v := .bool true) rfl (by kernel_rfl) (wgY rfl rfl rfl (by decide) (by kernel_rfl)) (fun _ _ _ h => h) (hm124.sub (.cons_cons _ (.cons_cons _ (.cons_cons _ (.cons_cons _ (.cons_cons _ (.cons_cons _ (List.Sublist.refl _)))))))) (fun w_ h_ => litRun (by kernel_rfl)) ?_
       refine mP rfl ?_
       refine mk_ (i := 9) (v := .bool true) rfl rfl (fun _ _ _ h => h) (hm124.sub (.cons_cons _ (.cons_cons _ (.cons_cons _ (.cons_cons _ (.cons_cons _ (.cons_cons _ (List.Sublist.refl _)))))))) rfl ?_
       refine mk_ (i := 10) (v := .bool true) rfl rfl (fun _ _ _ h => h) (hm124.sub (.cons_cons _ (.cons_cons _ (.cons_cons _ (.cons_cons _ (.cons_cons _ (.cons_cons _ (List.Sublist.refl _)))))))) rfl ?_
       refine mgDone (by kernel_rfl) ?_
       refine then_normal (hK117 _ _ ?_)
       refine wpPrune [(6, .bool true)] ⟨litGet (by kernel_rfl), trivial⟩ (fun X125 => ?_)
       refine wp_ret ?_
       refine bodyPost_ret (v := .bool true) (gRes1 rfl (gResTmp (t := 6) (v := .bool true) (litGet (by kernel_rfl)))) rfl ?_
       exact ⟨by rfl, hm124.bel⟩
     rw [h122]
     refine mgCall (i := 7) 20 [.agg (hcs xa.h xa.A xa.c xa.B xa.d).toArray, .agg (hcs xb.h xb.A xb.c xb.B xb.d).toArray] [] [] (by kernel_rfl) rfl (by kernel_rfl) (wgY rfl rfl rfl (by decide) (by kernel_rfl)) rfl (litEv (by kernel_rfl)) (litArgs (by kernel_rfl)) (rcovers_any xa.h xa.A xa.c xa.B xa.d xb.h xb.A xb.c xb.B xb.d _ ((Mem.lv ((Mem.tailN (T := (lvRes [v40] ++ (lvRes [v30] ++ (lvRes [xa] ++ lvRes [xb])))) 6 hm121 rfl).sub (L' := lvRes [xa]) (((List.sublist_append_left _ _).trans (List.sublist_append_right _ _)).trans (List.sublist_append_right _ _)))) xa List.mem_cons_self).a ((Mem.lv ((Mem.tailN (T := (lvRes [v40] ++ (lvRes [v30] ++ (lvRes [xa] ++ lvRes [xb])))) 6 hm121 rfl).sub (L' := lvRes [xa]) (((List.sublist_append_left _ _).trans (List.sublist_append_right _ _)).trans (List.sublist_append_right _ _)))) xa List.mem_cons_self).b ((Mem.lv ((Mem.tailN (T := (lvRes [v40] ++ (lvRes [v30] ++ (lvRes [xa] ++ lvRes [xb])))) 6 hm121 rfl).sub (L' := lvRes [xb]) ((((List.Sublist.refl _).trans (List.sublist_append_right _ _)).trans (List.sublist_append_right _ _)).trans (List.sublist_append_right _ _)))) xb List.mem_cons_self).a ((Mem.lv ((Mem.tailN (T := (lvRes [v40] ++ (lvRes [v30] ++ (lvRes [xa] ++ lvRes [xb])))) 6 hm121 rfl).sub (L' := lvRes [xb]) ((((List.Sublist.refl _).trans (List.sublist_append_right _ _)).trans (List.sublist_append_right _ _)).trans (List.sublist_append_right _ _)))) xb List.mem_cons_self).b (by have q_ := of_decide_eq_true h15; omega) (by have q_ := of_decide_eq_true h15; omega) (by have q_ := (ckH_good.1 h113).2.2.1; omega) (by have q_ := (ckH_good.1 h116).2.2.1; omega)) ?_
     rintro e w126 ⟨rfl, hbz⟩
     have hm127 := hm121.below hbz
     clear hbz hm121
     rw [h122]
     refine ⟨_, rfl, (hm127.sub (.cons_cons _ (.cons_cons _ (.cons_cons _ (.cons_cons _ (.cons_cons _ (.cons_cons _ (List.Sublist.refl _)))))))), ?_⟩
     refine mP rfl ?_
     refine mgTake (i := 8) (v := .bool true) rfl (by kernel_rfl) (wgY rfl rfl rfl (by decide) (by kernel_rfl)) (fun _ _ _ h => h) (hm127.sub (.cons_cons _ (.cons_cons _ (.cons_cons _ (.cons_cons _ (.cons_cons _ (.cons_cons _ (List.Sublist.refl _)))))))) (fun w_ h_ => litRun (by kernel_rfl)) ?_
     refine mP rfl ?_
     refine mk_ (i := 9) (v := .bool true) rfl rfl (fun _ _ _ h => h) (hm127.sub (.cons_cons _ (.cons_cons _ (.cons_cons _ (.cons_cons _ (.cons_cons _ (.cons_cons _ (List.Sublist.refl _)))))))) rfl ?_
     refine mk_ (i := 10) (v := .bool true) rfl rfl (fun _ _ _ h => h) (hm127.sub (.cons_cons _ (.cons_cons _ (.cons_cons _ (.cons_cons _ (.cons_cons _ (.cons_cons _ (List.Sublist.refl _)))))))) rfl ?_
     refine mgDone (by kernel_rfl) ?_
     refine then_normal (hK117 _ _ ?_)
     refine wpPrune [(6, .bool true)] ⟨litGet (by kernel_rfl), trivial⟩ (fun X128 => ?_)
     refine wp_ret ?_
     refine bodyPost_ret (v := .bool true) (gRes1 rfl (gResTmp (t := 6) (v := .bool true) (litGet (by kernel_rfl)))) rfl ?_
     exact ⟨by rfl, hm127.bel⟩
   refine litVal (v := .bool true) rfl (wgY rfl rfl rfl (by decide) (by kernel_rfl)) (boolTo (by rw [decide_eq_false h116]; rfl) (neqRun (A := (ckH xb.h)) (B := 0) (.tmp 86) (.const (.int .i64 0)) rfl (litEv (by kernel_rfl)) (litEv (by kernel_rfl)))) rfl (by decide) ?_
   refine lk (v := .bool true) rfl rfl rfl ?_
   refine plD ?_
   refine then_normal (hK110 _ _ ?_)
   refine wp_cond_true (litEv (by kernel_rfl)) ?_
   refine wp_seq_k fun K129 hK129 => ?_
   refine plStart ?_
   refine lk (v := .bool true) rfl rfl rfl ?_
   refine lk (v := .bool true) rfl rfl rfl ?_
   refine plD ?_
   refine then_normal (hK129 _ _ ?_)
   refine wp_ret ?_
   refine then_ret ?_
   refine bodyPost_ret (v := .bool true) (gRes1 rfl (gResTmp (t := 6) (v := .bool true) (litGet (by kernel_rfl)))) rfl ?_
   exact ⟨by rfl, hm115.bel⟩
 refine litVal (v := .bool true) rfl (wn rfl) (boolTo (by rw [decide_eq_false h113]; rfl) (neqRun (A := (ckH xa.h)) (B := 0) (.tmp 82) (.const (.int .i64 0)) rfl (litEv (by kernel_rfl)) (litEv (by kernel_rfl)))) rfl (by decide) ?_
 refine lk (v := .bool true) rfl rfl rfl ?_
 refine plSkip (i := 4) rfl (wgN rfl rfl rfl (by decide) (by kernel_rfl)) ?_
 refine qP rfl ?_
 refine plSkip (i := 5) rfl (wgN rfl rfl rfl (by decide) (by kernel_rfl)) ?_
 refine qP rfl ?_
 refine plSkip (i := 6) rfl (wgN rfl rfl rfl (by decide) (by kernel_rfl)) ?_
 refine qP rfl ?_
 refine lk (v := .bool true) rfl rfl rfl ?_
 refine plD ?_
 refine then_normal (hK110 _ _ ?_)
 refine wp_cond_true (litEv (by kernel_rfl)) ?_
 refine wp_seq_k fun K130 hK130 => ?_
 refine plStart ?_
 refine lk (v := .bool true) rfl rfl rfl ?_
 refine lk (v := .bool true) rfl rfl rfl ?_
 refine plD ?_
 refine then_normal (hK130 _ _ ?_)
 refine wp_ret ?_
 refine then_ret ?_
 refine bodyPost_ret (v := .bool true) (gRes1 rfl (gResTmp (t := 6) (v := .bool true) (litGet (by kernel_rfl)))) rfl ?_
 exact ⟨by rfl, hm112.bel⟩
end Go.Proofs.YtgjgjimgomhbmaaDoor
