/-
  PF: several texts in one. No statement is proved here.
-/
import Derived.Test.YtkmhjgdpkddbnaaPE
import Derived.Test.YtkmhjgdpkddbnaaPB
set_option linter.unusedVariables false
set_option linter.unusedSimpArgs false
namespace Go.Proofs.Ytkmhjgdpkddbnaa
open Go.RowKit
set_option linter.unusedVariables false
set_option linter.unusedSimpArgs false
set_option maxRecDepth 100000 in
set_option maxHeartbeats 4000000 in
theorem grow_any (n : Nat) (hn : 0 < n) (hn2 : n ≤ 100000) (w : World) : Calls Try.prog 71 #[.slice none 0 0, .int .i64 (n : Int)] w (fun e w' => ∃ v, e = .returned v ∧ w'.ownsRow w.heap.size 38 4 v 0 [] ∧ Below w.heap.size w w') := by
 have hm0 := Mem.nil w
 go_enter Try.func71, Try.ntmps71
 refine litStart 27 [(0, .slice none 0 0), (1, .int .i64 (n : Int))] (by kernel_rfl) (fun X0 => ?_)
 refine wp_seq_k fun K1 hK1 => ?_
 refine plStart ?_
 refine lk (v := .slice none 0 0) rfl rfl rfl ?_
 refine plD ?_
 refine then_normal (hK1 _ _ ?_)
 refine wp_seq_k fun K2 hK2 => ?_
 refine wp_seq_k fun K3 hK3 => ?_
 refine plStart ?_
 refine lk (v := .int .i64 (n : Int)) rfl rfl rfl ?_
 refine litVal (v := .bool false) rfl (wn rfl) (boolTo (decide_eq_false (show ¬ (n : Int) < 0 by omega)) (lssRun (A := (n : Int)) (B := 0) (.tmp 5) (.const (.int .i64 0)) rfl (litEv (by kernel_rfl)) (litEv (by kernel_rfl)))) rfl (by decide) ?_
 refine plD ?_
 refine then_normal (hK3 _ _ ?_)
 refine wp_cond_false (litEv (by kernel_rfl)) ?_
 refine wp_skip ?_
 refine then_normal (hK2 _ _ ?_)
 refine wp_seq_k fun K4 hK4 => ?_
 refine wp_seq_k fun K5 hK5 => ?_
 refine plStart ?_
 refine lk (v := .int .i64 (n : Int)) rfl rfl rfl ?_
 refine lk (v := .slice none 0 0) rfl rfl rfl ?_
 refine litVal (v := .int .i64 0) rfl (wn rfl) (gCap (A := none) (n := 0) (c := 0) (.tmp 9) Ty.und_L_api_Tile rfl (litEv (by kernel_rfl))) rfl (by decide) ?_
 refine lk (v := .slice none 0 0) rfl rfl rfl ?_
 refine litVal (v := .int .i64 0) rfl (wn rfl) (lenSlRun (A := none) (n := 0) (c := 0) (.tmp 11) Ty.und_L_api_Tile rfl (litEv (by kernel_rfl))) rfl (by decide) ?_
 refine lk (v := .int .i64 0) rfl rfl rfl ?_
 refine litVal (v := .int .i64 ((n : Int) - 0)) rfl (wn rfl) (subRun (A := (n : Int)) (B := 0) (C := (n : Int) - 0) (.tmp 8) (.tmp 13) rfl (litEv (by kernel_rfl)) (litEv (by kernel_rfl)) rfl (by omega)) rfl (by decide) ?_
 refine lk (v := .int .i64 ((n : Int) - 0)) rfl rfl rfl ?_
 refine plD ?_
 refine then_normal (hK5 _ _ ?_)
 refine wp_seq_k fun K6 hK6 => ?_
 refine plStart ?_
 refine lk (v := .int .i64 ((n : Int) - 0)) rfl rfl rfl ?_
 refine litVal (v := .bool true) rfl (wn rfl) (boolTo (decide_eq_true (show (0:Int) < (n : Int) - 0 by omega)) (gtrRun (A := ((n : Int) - 0)) (B := 0) (.tmp 15) (.const (.int .i64 0)) rfl (litEv (by kernel_rfl)) (litEv (by kernel_rfl)))) rfl (by decide) ?_
 refine plD ?_
 refine then_normal (hK6 _ _ ?_)
 refine wp_cond_true (litEv (by kernel_rfl)) ?_
 refine plStart ?_
 refine lk (v := .slice none 0 0) rfl rfl rfl ?_
 refine lk (v := .slice none 0 0) rfl rfl rfl ?_
 refine litVal (v := .int .i64 0) rfl (wn rfl) (gCap (A := none) (n := 0) (c := 0) (.tmp 18) Ty.und_L_api_Tile rfl (litEv (by kernel_rfl))) rfl (by decide) ?_
 refine litVal (i := 3) (v := .slice none 0 0) rfl (wn rfl) (sliceNil (.tmp 17) (.tmp 19) Ty.sl_L_api_Tile rfl (litEv (by kernel_rfl)) (litEv (by kernel_rfl))) rfl (by decide) ?_
 refine lk (v := .int .i64 ((n : Int) - 0)) rfl rfl rfl ?_
 refine plAppZ (n := n) Ty.sl_L_api_Tile (by kernel_rfl) hm0 (i := 5) rfl (wn rfl) rfl (litEv (by kernel_rfl)) (litEv (by kernel_rfl)) (by omega) (by omega) (by omega) ?_
 intro g7 c8 xs9 w10 hm11
 clear hm0
 try simp only [List.cons_append, List.nil_append, List.set_cons_succ, List.set_cons_zero] at hm11
 refine qP rfl ?_
 refine lk (v := .slice none 0 0) rfl rfl rfl ?_
 refine litVal (v := .int .i64 0) rfl (wn rfl) (lenSlRun (A := none) (n := 0) (c := 0) (.tmp 23) Ty.und_L_api_Tile rfl (litEv (by kernel_rfl))) rfl (by decide) ?_
 refine litVal (i := 8) (v := .slice (some ⟨g7, 0, none⟩) 0 c8) rfl (wn rfl) (sliceRow0 (n := n) (c := c8) (.tmp 22) (.tmp 24) Ty.sl_L_api_Tile rfl (litEv (by kernel_rfl)) (litEv (by kernel_rfl))) rfl (by decide) ?_
 have hm12 := Mem.row0 0 hm11 rfl
 clear hm11
 try simp only [List.cons_append, List.nil_append, List.set_cons_succ, List.set_cons_zero] at hm12
 refine lk (v := .slice (some ⟨g7, 0, none⟩) 0 c8) rfl rfl rfl ?_
 refine plD ?_
 refine then_normal (hK4 _ _ ?_)
 refine wpPrune [(0, .slice (some ⟨g7, 0, none⟩) 0 c8), (4, .slice none 0 0)] ⟨litGet (by kernel_rfl), ⟨litGet (by kernel_rfl), trivial⟩⟩ (fun X13 => ?_)
 refine wp_seq_k fun K14 hK14 => ?_
 refine plStart ?_
 refine lk (v := .slice (some ⟨g7, 0, none⟩) 0 c8) rfl rfl rfl ?_
 refine lk (v := .slice (some ⟨g7, 0, none⟩) 0 c8) rfl rfl rfl ?_
 refine plD ?_
 refine then_normal (hK14 _ _ ?_)
 refine wp_ret ?_
 refine bodyPost_ret (v := .slice (some ⟨g7, 0, none⟩) 0 c8) (gRes1 rfl (gResTmp (t := 4) (v := .slice (some ⟨g7, 0, none⟩) 0 c8) (litGet (by kernel_rfl)))) rfl ?_
 exact ⟨_, rfl, hm12.row 0 rfl, hm12.bel⟩
theorem pow83 {l : Int} (h : 0 ≤ l ∧ l ≤ 12) : (1 : Int) * 2 ^ (3 * (l + 2)).toNat = 8 ^ (l.toNat + 2) ∧ (8 : Int) ^ (l.toNat + 2) ≤ 4398046511104 := by
  rcases lv_cases h with rfl | rfl | rfl | rfl | rfl | rfl | rfl | rfl | rfl | rfl | rfl | rfl | rfl <;> decide
/-- The number of the codes of a part of a tile. -/
def c8 (t : Tl) : Int := 8 ^ (t.lv.toNat + 1)
theorem c8_bd {t : Tl} (h : t.Ok) (h1 : 1 ≤ t.lv) : 1 ≤ c8 t ∧ c8 t ≤ 4398046511104 := by
  have hl := h.lv
  unfold c8
  generalize t.lv = l at *
  rcases lv_cases (l := l) (by omega) with rfl | rfl | rfl | rfl | rfl | rfl | rfl | rfl | rfl | rfl | rfl | rfl | rfl <;> decide
def chT (t : Tl) (k : Nat) : List Tl := (List.range k).map (child t)
set_option maxRecDepth 100000 in
set_option maxHeartbeats 4000000 in
theorem count_any (t : Tl) (h : 0 ≤ t.lv ∧ t.lv ≤ 12) (w : World) : Calls Try.prog 74 #[.agg (tlc t).toArray] w (RetV w (.int .i64 (8 ^ (t.lv.toNat + 2)))) := by
 have hm0 := Mem.nil w
 go_enter Try.func74, Try.ntmps74
 refine litStart 8 [(0, .agg (tlc t).toArray)] (by kernel_rfl) (fun X0 => ?_)
 refine wp_seq_k fun K1 hK1 => ?_
 refine plStart ?_
 refine plBox hm0 (cs := tlc t) (i := 0) rfl (wn rfl) rfl (litEv (by kernel_rfl)) ?_
 intro g2 w4 hm3
 clear hm0
 try simp only [List.cons_append, List.nil_append, List.set_cons_succ, List.set_cons_zero] at hm3
 refine qP rfl ?_
 refine lk (v := .int .i64 0) rfl rfl rfl ?_
 refine plD ?_
 refine then_normal (hK1 _ _ ?_)
 refine wp_seq_k fun K5 hK5 => ?_
 refine plStart ?_
 refine lk (v := .pointer (some ⟨g2, 0, none⟩)) rfl rfl rfl ?_
 refine litVal (v := .int .i64 t.lv) rfl (wn rfl) (gLoad (v := .int .i64 t.lv) (k := 0) 0 hm3 rfl (by kernel_rfl) (.tmp 3) (by kernel_rfl) rfl (litEv (by kernel_rfl))) rfl (by decide) ?_
 refine litVal (v := .int .i64 (t.lv + 2)) rfl (wn rfl) (addRun (A := t.lv) (B := 2) (C := t.lv + 2) (.tmp 4) (.const (.int .i64 2)) rfl (litEv (by kernel_rfl)) (litEv (by kernel_rfl)) rfl (by omega)) rfl (by decide) ?_
 refine litVal (v := .int .i64 (3 * (t.lv + 2))) rfl (wn rfl) (mulRun (A := 3) (B := (t.lv + 2)) (C := 3 * (t.lv + 2)) (.const (.int .i64 3)) (.tmp 5) rfl (litEv (by kernel_rfl)) (litEv (by kernel_rfl)) rfl (by omega)) rfl (by decide) ?_
 refine litVal (v := .int .i64 (8 ^ (t.lv.toNat + 2))) rfl (wn rfl) (gShl (A := 1) (N := (3 * (t.lv + 2))) (C := 8 ^ (t.lv.toNat + 2)) (.const (.int .i64 1)) (.tmp 6) rfl (litEv (by kernel_rfl)) (litEv (by kernel_rfl)) ((pow83 h).1) (by omega) (by omega) (by have := (pow83 h).2; omega)) rfl (by decide) ?_
 refine lk (v := .int .i64 (8 ^ (t.lv.toNat + 2))) rfl rfl rfl ?_
 refine plD ?_
 refine then_normal (hK5 _ _ ?_)
 refine wp_ret ?_
 refine bodyPost_ret (v := .int .i64 (8 ^ (t.lv.toNat + 2))) (gRes1 rfl (gResTmp (t := 2) (v := .int .i64 (8 ^ (t.lv.toNat + 2))) (litGet (by kernel_rfl)))) rfl ?_
 exact ⟨by rfl, hm3.bel⟩
theorem countC_any {t : Tl} (h : t.Ok) (h1 : 1 ≤ t.lv) (w : World) : Calls Try.prog 74 #[.agg (tlc ⟨t.lv - 1, t.p⟩).toArray] w (RetV w (.int .i64 (c8 t))) := by
  have hl := h.lv
  have hc := count_any ⟨t.lv - 1, t.p⟩ (by simp only; omega) w
  refine callsTo ?_ hc
  unfold c8
  simp only
  rw [show (t.lv - 1).toNat + 2 = t.lv.toNat + 1 by omega]
theorem decodeC_any {t : Tl} (h : t.Ok) (h1 : 1 ≤ t.lv) {k : Nat} (hk : k < 8) {e : Int} (he : e = mEnc t.p + (k : Int) * c8 t) (w : World) : Calls Try.prog 73 #[.int .i64 e] w (RetV w (.tuple #[.agg (pcs (child t k).p).toArray, .bool true])) := by
  have hd := decode_any e w
  unfold c8 at he
  rw [← enc_part h h1 hk] at he
  rw [he, mDec_enc (h.child h1 k).inP] at hd
  rw [he]
  exact hd
set_option maxRecDepth 100000 in
set_option maxHeartbeats 4000000 in
theorem row8_any (t : Tl) (h : t.Ok) (h1 : 1 ≤ t.lv) (w : World) : Calls Try.prog 65 #[.agg (tlc ⟨t.lv - 1, t.p⟩).toArray, .int .i64 8] w (fun e w' => ∃ v, e = .returned v ∧ w'.ownsRow w.heap.size 38 4 v 8 (tlsC (splitT t)) ∧ Below w.heap.size w w') := by
 have hc8_ := c8_bd h h1
 have hen_ := mEnc_in h.inP
 have hm0 := Mem.nil w
 go_enter Try.func65, Try.ntmps65
 refine litStart 36 [(0, .agg (tlc ⟨t.lv - 1, t.p⟩).toArray), (1, .int .i64 8)] (by kernel_rfl) (fun X0 => ?_)
 refine wp_seq_k fun K1 hK1 => ?_
 refine plStart ?_
 refine plBox hm0 (cs := tlc ⟨t.lv - 1, t.p⟩) (i := 0) rfl (wn rfl) rfl (litEv (by kernel_rfl)) ?_
 intro g2 w4 hm3
 clear hm0
 try simp only [List.cons_append, List.nil_append, List.set_cons_succ, List.set_cons_zero] at hm3
 refine qP rfl ?_
 refine lk (v := .slice none 0 0) rfl rfl rfl ?_
 refine plD ?_
 refine then_normal (hK1 _ _ ?_)
 refine wp_seq_k fun K5 hK5 => ?_
 refine plStart ?_
 refine lk (v := .slice none 0 0) rfl rfl rfl ?_
 refine plD ?_
 refine then_normal (hK5 _ _ ?_)
 refine wp_seq_k fun K6 hK6 => ?_
 refine plStart ?_
 refine lk (v := .pointer (some ⟨g2, 1, none⟩)) rfl rfl rfl ?_
 refine litVal (v := .agg (pcs t.p).toArray) rfl (wn rfl) (gLoadAg (vs := pcs t.p) (k := 1) 0 hm3 rfl (by kernel_rfl) (by kernel_rfl) (.tmp 10) Ty.ag_voxel_api_Point rfl (litEv (by kernel_rfl))) rfl (by decide) ?_
 refine plCall (i := 2) 72 [.agg (pcs t.p).toArray] [] [] rfl (by kernel_rfl) (wn rfl) rfl (litEv (by kernel_rfl)) (litArgs (by kernel_rfl)) (encode_any t.p _) ?_
 rintro e w7 ⟨rfl, hbz⟩
 have hm8 := hm3.below hbz
 clear hbz hm3
 refine ⟨_, rfl, ?_⟩
 refine qP rfl ?_
 refine lk (v := .int .i64 (mEnc t.p)) rfl rfl rfl ?_
 refine plD ?_
 refine then_normal (hK6 _ _ ?_)
 refine wp_seq_k fun K9 hK9 => ?_
 refine wp_seq_k fun K10 hK10 => ?_
 refine plStart ?_
 refine lk (v := .int .i64 8) rfl rfl rfl ?_
 refine lk (v := .int .i64 0) rfl rfl rfl ?_
 refine plD ?_
 refine then_normal (hK10 _ _ ?_)
 refine wp_block ?_
 refine roundsStart 8 ?_
 refine wp_seq_k fun K11 hK11 => ?_
 refine plStart ?_
 refine lk (v := .bool true) rfl rfl rfl ?_
 refine plD ?_
 refine then_normal (hK11 _ _ ?_)
 refine wp_seq_k fun K12 hK12 => ?_
 refine wp_cond_true (litEv (by kernel_rfl)) ?_
 refine wp_skip ?_
 refine then_normal (hK12 _ _ ?_)
 refine wp_seq_k fun K13 hK13 => ?_
 refine wp_block ?_
 refine wp_seq_k fun K14 hK14 => ?_
 refine plStart ?_
 refine lk (v := .int .i64 0) rfl rfl rfl ?_
 refine lk (v := .int .i64 0) rfl rfl rfl ?_
 refine plD ?_
 refine then_normal (hK14 _ _ ?_)
 refine wp_seq_k fun K15 hK15 => ?_
 refine plStart ?_
 refine lk (v := .int .i64 (mEnc t.p)) rfl rfl rfl ?_
 refine lk (v := .int .i64 0) rfl rfl rfl ?_
 refine litVal (v := .agg (tlc ⟨t.lv - 1, t.p⟩).toArray) rfl (wn rfl) (gLoadAg (vs := tlc ⟨t.lv - 1, t.p⟩) (k := 0) 0 hm8 rfl (by kernel_rfl) (by kernel_rfl) (.tmp 2) Ty.ag_voxel_api_Tile rfl (litEv (by kernel_rfl))) rfl (by decide) ?_
 refine plCall (i := 3) 74 [.agg (tlc ⟨t.lv - 1, t.p⟩).toArray] [] [] rfl (by kernel_rfl) (wn rfl) rfl (litEv (by kernel_rfl)) (litArgs (by kernel_rfl)) (countC_any h h1 _) ?_
 rintro e w16 ⟨rfl, hbz⟩
 have hm17 := hm8.below hbz
 clear hbz hm8
 refine ⟨_, rfl, ?_⟩
 refine qP rfl ?_
 refine litVal (v := .int .i64 (0 * (c8 t))) rfl (wn rfl) (mulRun (A := 0) (B := (c8 t)) (C := 0 * (c8 t)) (.tmp 19) (.tmp 21) rfl (litEv (by kernel_rfl)) (litEv (by kernel_rfl)) rfl (by omega)) rfl (by decide) ?_
 refine litVal (v := .int .i64 ((mEnc t.p) + (0 * (c8 t)))) rfl (wn rfl) (addRun (A := (mEnc t.p)) (B := (0 * (c8 t))) (C := (mEnc t.p) + (0 * (c8 t))) (.tmp 18) (.tmp 22) rfl (litEv (by kernel_rfl)) (litEv (by kernel_rfl)) rfl (by omega)) rfl (by decide) ?_
 refine plCall (i := 6) 73 [.int .i64 ((mEnc t.p) + (0 * (c8 t)))] [] [] rfl (by kernel_rfl) (wn rfl) rfl (litEv (by kernel_rfl)) (litArgs (by kernel_rfl)) (decodeC_any h h1 (k := 0) (by decide) (by omega) _) ?_
 rintro e w18 ⟨rfl, hbz⟩
 have hm19 := hm17.below hbz
 clear hbz hm17
 refine ⟨_, rfl, ?_⟩
 refine qP rfl ?_
 refine lk (v := .tuple #[.agg (pcs ((child t 0).p)).toArray, .bool true]) rfl rfl rfl ?_
 refine lk (v := .agg (pcs ((child t 0).p)).toArray) rfl rfl rfl ?_
 refine lk (v := .bool true) rfl rfl rfl ?_
 refine plAlloc (z := [.int .i64 0, .int .i64 0, .int .i64 0]) Ty.ag_voxel_api_Point hm19 (i := 10) rfl (wn rfl) rfl ?_
 intro g20 w22 hm21
 clear hm19
 try simp only [List.cons_append, List.nil_append, List.set_cons_succ, List.set_cons_zero] at hm21
 refine qP rfl ?_
 refine plStore 1 Ty.ag_voxel_api_Point hm21 rfl (i := 11) (cs := pcs ((child t 0).p)) rfl (wn rfl) rfl (litEv (by kernel_rfl)) (litEv (by kernel_rfl)) rfl rfl (by kernel_rfl) ?_
 intro w24 hm23
 clear hm21
 try simp only [List.cons_append, List.nil_append, List.set_cons_succ, List.set_cons_zero] at hm23
 refine qNone rfl ?_
 refine lk (v := .bool true) rfl rfl rfl ?_
 refine plD ?_
 refine then_normal (hK15 _ _ ?_)
 refine plStart ?_
 refine lk (v := .slice none 0 0) rfl rfl rfl ?_
 refine lk (v := .pointer (some ⟨g2, 0, none⟩)) rfl rfl rfl ?_
 refine litVal (v := .int .i64 (t.lv - 1)) rfl (wn rfl) (gLoad (v := .int .i64 (t.lv - 1)) (k := 0) 0 hm23 rfl (by kernel_rfl) (.tmp 28) (by kernel_rfl) rfl (litEv (by kernel_rfl))) rfl (by decide) ?_
 refine litVal (v := .agg (pcs ((child t 0).p)).toArray) rfl (wn rfl) (gLoadAg (vs := pcs ((child t 0).p)) (k := 0) 1 hm23 rfl (by kernel_rfl) (by kernel_rfl) (.tmp 8) Ty.ag_voxel_api_Point rfl (litEv (by kernel_rfl))) rfl (by decide) ?_
 refine lk (v := .agg (tlc ⟨t.lv - 1, ((child t 0).p)⟩).toArray) rfl rfl rfl ?_
 refine plLit (cs := [.int .i64 (t.lv - 1), .int .i64 (((child t 0).p).x), .int .i64 (((child t 0).p).y), .int .i64 (((child t 0).p).z)]) (n := 1) Ty.sl_L_api_Tile hm23 (i := 5) rfl (wn rfl) rfl (by decide) (by decide) (by rw [lit_eval]; kernel_rfl) ?_
 intro g25 w27 hm26
 clear hm23
 try simp only [List.cons_append, List.nil_append, List.set_cons_succ, List.set_cons_zero] at hm26
 refine qP rfl ?_
 have hm28 := Mem.nilRow hm26 38 4
 clear hm26
 try simp only [List.cons_append, List.nil_append, List.set_cons_succ, List.set_cons_zero] at hm28
 refine plApp1 (v := .slice none 0 0) (n := 0) (xs := []) (ys := [.int .i64 (t.lv - 1), .int .i64 (((child t 0).p).x), .int .i64 (((child t 0).p).y), .int .i64 (((child t 0).p).z)]) 3 2 Ty.sl_L_api_Tile hm28 rfl rfl (i := 6) rfl (wn rfl) rfl (litEv (by kernel_rfl)) (litEv (by kernel_rfl)) (by kernel_rfl) (by kernel_rfl) (by decide) (by decide) ?_
 intro v33 w30 hm29
 clear hm28
 try simp only [List.cons_append, List.nil_append, List.set_cons_succ, List.set_cons_zero] at hm29
 replace hm29 := Mem.rowEq (v := v33) (e := 38) (size := 4) (n := 0 + 1) (n' := 1) (xs := ([]) ++ ([.int .i64 (t.lv - 1), .int .i64 (((child t 0).p).x), .int .i64 (((child t 0).p).y), .int .i64 (((child t 0).p).z)])) (xs' := tlsC (chT t 1)) 3 hm29 rfl (rfl) (rfl)
 try simp only [List.cons_append, List.nil_append, List.set_cons_succ, List.set_cons_zero] at hm29
 obtain ⟨A31, c32, rfl⟩ := Mem.rowSl (v := v33) (e := 38) (size := 4) (n := 1) (xs := tlsC (chT t 1)) 3 hm29 rfl
 refine qP rfl ?_
 refine lk (v := .slice A31 1 c32) rfl rfl rfl ?_
 refine plD ?_
 refine inBlock_normal ?_
 refine then_normal (hK13 _ _ ?_)
 refine plStart ?_
 refine lk (v := .int .i64 1) rfl rfl rfl ?_
 refine lk (v := .int .i64 1) rfl rfl rfl ?_
 refine plD ?_
 refine then_normal (roundsNext ?_)
 refine wp_seq_k fun K34 hK34 => ?_
 refine plStart ?_
 refine lk (v := .bool true) rfl rfl rfl ?_
 refine plD ?_
 refine then_normal (hK34 _ _ ?_)
 refine wp_seq_k fun K35 hK35 => ?_
 refine wp_cond_true (litEv (by kernel_rfl)) ?_
 refine wp_skip ?_
 refine then_normal (hK35 _ _ ?_)
 refine wp_seq_k fun K36 hK36 => ?_
 refine wp_block ?_
 refine wp_seq_k fun K37 hK37 => ?_
 refine plStart ?_
 refine lk (v := .int .i64 1) rfl rfl rfl ?_
 refine lk (v := .int .i64 1) rfl rfl rfl ?_
 refine plD ?_
 refine then_normal (hK37 _ _ ?_)
 refine wp_seq_k fun K38 hK38 => ?_
 refine plStart ?_
 refine lk (v := .int .i64 (mEnc t.p)) rfl rfl rfl ?_
 refine lk (v := .int .i64 1) rfl rfl rfl ?_
 refine litVal (v := .agg (tlc ⟨t.lv - 1, t.p⟩).toArray) rfl (wn rfl) (gLoadAg (vs := tlc ⟨t.lv - 1, t.p⟩) (k := 0) 0 hm29 rfl (by kernel_rfl) (by kernel_rfl) (.tmp 2) Ty.ag_voxel_api_Tile rfl (litEv (by kernel_rfl))) rfl (by decide) ?_
 refine plCall (i := 3) 74 [.agg (tlc ⟨t.lv - 1, t.p⟩).toArray] [] [] rfl (by kernel_rfl) (wn rfl) rfl (litEv (by kernel_rfl)) (litArgs (by kernel_rfl)) (countC_any h h1 _) ?_
 rintro e w39 ⟨rfl, hbz⟩
 have hm40 := hm29.below hbz
 clear hbz hm29
 refine ⟨_, rfl, ?_⟩
 refine qP rfl ?_
 refine litVal (v := .int .i64 (1 * (c8 t))) rfl (wn rfl) (mulRun (A := 1) (B := (c8 t)) (C := 1 * (c8 t)) (.tmp 19) (.tmp 21) rfl (litEv (by kernel_rfl)) (litEv (by kernel_rfl)) rfl (by omega)) rfl (by decide) ?_
 refine litVal (v := .int .i64 ((mEnc t.p) + (1 * (c8 t)))) rfl (wn rfl) (addRun (A := (mEnc t.p)) (B := (1 * (c8 t))) (C := (mEnc t.p) + (1 * (c8 t))) (.tmp 18) (.tmp 22) rfl (litEv (by kernel_rfl)) (litEv (by kernel_rfl)) rfl (by omega)) rfl (by decide) ?_
 refine plCall (i := 6) 73 [.int .i64 ((mEnc t.p) + (1 * (c8 t)))] [] [] rfl (by kernel_rfl) (wn rfl) rfl (litEv (by kernel_rfl)) (litArgs (by kernel_rfl)) (decodeC_any h h1 (k := 1) (by decide) (by omega) _) ?_
 rintro e w41 ⟨rfl, hbz⟩
 have hm42 := hm40.below hbz
 clear hbz hm40
 refine ⟨_, rfl, ?_⟩
 refine qP rfl ?_
 refine lk (v := .tuple #[.agg (pcs ((child t 1).p)).toArray, .bool true]) rfl rfl rfl ?_
 refine lk (v := .agg (pcs ((child t 1).p)).toArray) rfl rfl rfl ?_
 refine lk (v := .bool true) rfl rfl rfl ?_
 refine plAlloc (z := [.int .i64 0, .int .i64 0, .int .i64 0]) Ty.ag_voxel_api_Point hm42 (i := 10) rfl (wn rfl) rfl ?_
 intro g43 w45 hm44
 clear hm42
 try simp only [List.cons_append, List.nil_append, List.set_cons_succ, List.set_cons_zero] at hm44
 refine qP rfl ?_
 refine plStore 4 Ty.ag_voxel_api_Point hm44 rfl (i := 11) (cs := pcs ((child t 1).p)) rfl (wn rfl) rfl (litEv (by kernel_rfl)) (litEv (by kernel_rfl)) rfl rfl (by kernel_rfl) ?_
 intro w47 hm46
 clear hm44
 try simp only [List.cons_append, List.nil_append, List.set_cons_succ, List.set_cons_zero] at hm46
 refine qNone rfl ?_
 refine lk (v := .bool true) rfl rfl rfl ?_
 refine plD ?_
 refine then_normal (hK38 _ _ ?_)
 refine wpPrune [(2, .pointer (some ⟨g2, 0, none⟩)), (4, .slice none 0 0), (5, .slice A31 1 c32), (6, .int .i64 (mEnc t.p)), (7, .int .i64 1), (8, .pointer (some ⟨g43, 0, none⟩)), (13, .int .i64 8), (14, .int .i64 1), (15, .bool true), (16, .int .i64 1), (17, .tuple #[.agg (pcs ((child t 1).p)).toArray, .bool true]), (18, .int .i64 (mEnc t.p)), (19, .int .i64 1), (20, .agg (tlc ⟨t.lv - 1, t.p⟩).toArray), (21, .int .i64 (c8 t)), (22, .int .i64 (1 * (c8 t))), (23, .int .i64 ((mEnc t.p) + (1 * (c8 t)))), (24, .tuple #[.agg (pcs ((child t 1).p)).toArray, .bool true]), (25, .agg (pcs ((child t 1).p)).toArray), (26, .bool true), (27, .slice none 0 0), (28, .pointer (some ⟨g2, 0, none⟩)), (29, .int .i64 (t.lv - 1)), (30, .agg (pcs ((child t 0).p)).toArray), (31, .agg (tlc ⟨t.lv - 1, ((child t 0).p)⟩).toArray), (32, .slice (some ⟨g25, 0, none⟩) 1 1), (33, .slice A31 1 c32), (34, .int .i64 1)] ⟨litGet (by kernel_rfl), ⟨litGet (by kernel_rfl), ⟨litGet (by kernel_rfl), ⟨litGet (by kernel_rfl), ⟨litGet (by kernel_rfl), ⟨litGet (by kernel_rfl), ⟨litGet (by kernel_rfl), ⟨litGet (by kernel_rfl), ⟨litGet (by kernel_rfl), ⟨litGet (by kernel_rfl), ⟨litGet (by kernel_rfl), ⟨litGet (by kernel_rfl), ⟨litGet (by kernel_rfl), ⟨litGet (by kernel_rfl), ⟨litGet (by kernel_rfl), ⟨litGet (by kernel_rfl), ⟨litGet (by kernel_rfl), ⟨litGet (by kernel_rfl), ⟨litGet (by kernel_rfl), ⟨litGet (by kernel_rfl), ⟨litGet (by kernel_rfl), ⟨litGet (by kernel_rfl), ⟨litGet (by kernel_rfl), ⟨litGet (by kernel_rfl), ⟨litGet (by kernel_rfl), ⟨litGet (by kernel_rfl), ⟨litGet (by kernel_rfl), ⟨litGet (by kernel_rfl), trivial⟩⟩⟩⟩⟩⟩⟩⟩⟩⟩⟩⟩⟩⟩⟩⟩⟩⟩⟩⟩⟩⟩⟩⟩⟩⟩⟩⟩ (fun X48 => ?_)
 refine plStart ?_
 refine lk (v := .slice A31 1 c32) rfl rfl rfl ?_
 refine lk (v := .pointer (some ⟨g2, 0, none⟩)) rfl rfl rfl ?_
 refine litVal (v := .int .i64 (t.lv - 1)) rfl (wn rfl) (gLoad (v := .int .i64 (t.lv - 1)) (k := 0) 0 hm46 rfl (by kernel_rfl) (.tmp 28) (by kernel_rfl) rfl (litEv (by kernel_rfl))) rfl (by decide) ?_
 refine litVal (v := .agg (pcs ((child t 1).p)).toArray) rfl (wn rfl) (gLoadAg (vs := pcs ((child t 1).p)) (k := 0) 4 hm46 rfl (by kernel_rfl) (by kernel_rfl) (.tmp 8) Ty.ag_voxel_api_Point rfl (litEv (by kernel_rfl))) rfl (by decide) ?_
 refine lk (v := .agg (tlc ⟨t.lv - 1, ((child t 1).p)⟩).toArray) rfl rfl rfl ?_
 refine plLit (cs := [.int .i64 (t.lv - 1), .int .i64 (((child t 1).p).x), .int .i64 (((child t 1).p).y), .int .i64 (((child t 1).p).z)]) (n := 1) Ty.sl_L_api_Tile hm46 (i := 5) rfl (wn rfl) rfl (by decide) (by decide) (by rw [lit_eval]; kernel_rfl) ?_
 intro g49 w51 hm50
 clear hm46
 try simp only [List.cons_append, List.nil_append, List.set_cons_succ, List.set_cons_zero] at hm50
 refine qP rfl ?_
 refine plApp1 (v := .slice A31 1 c32) (n := 1) (xs := tlsC (chT t 1)) (ys := [.int .i64 (t.lv - 1), .int .i64 (((child t 1).p).x), .int .i64 (((child t 1).p).y), .int .i64 (((child t 1).p).z)]) 3 5 Ty.sl_L_api_Tile hm50 rfl rfl (i := 6) rfl (wn rfl) rfl (litEv (by kernel_rfl)) (litEv (by kernel_rfl)) (by kernel_rfl) (by kernel_rfl) (by decide) (by decide) ?_
 intro v56 w53 hm52
 clear hm50
 try simp only [List.cons_append, List.nil_append, List.set_cons_succ, List.set_cons_zero] at hm52
 replace hm52 := Mem.rowEq (v := v56) (e := 38) (size := 4) (n := 1 + 1) (n' := 2) (xs := (tlsC (chT t 1)) ++ ([.int .i64 (t.lv - 1), .int .i64 (((child t 1).p).x), .int .i64 (((child t 1).p).y), .int .i64 (((child t 1).p).z)])) (xs' := tlsC (chT t 2)) 3 hm52 rfl (rfl) (rfl)
 try simp only [List.cons_append, List.nil_append, List.set_cons_succ, List.set_cons_zero] at hm52
 obtain ⟨A54, c55, rfl⟩ := Mem.rowSl (v := v56) (e := 38) (size := 4) (n := 2) (xs := tlsC (chT t 2)) 3 hm52 rfl
 refine qP rfl ?_
 refine lk (v := .slice A54 2 c55) rfl rfl rfl ?_
 refine plD ?_
 refine inBlock_normal ?_
 refine then_normal (hK36 _ _ ?_)
 refine plStart ?_
 refine lk (v := .int .i64 2) rfl rfl rfl ?_
 refine lk (v := .int .i64 2) rfl rfl rfl ?_
 refine plD ?_
 refine then_normal (roundsNext ?_)
 refine wp_seq_k fun K57 hK57 => ?_
 refine plStart ?_
 refine lk (v := .bool true) rfl rfl rfl ?_
 refine plD ?_
 refine then_normal (hK57 _ _ ?_)
 refine wp_seq_k fun K58 hK58 => ?_
 refine wp_cond_true (litEv (by kernel_rfl)) ?_
 refine wp_skip ?_
 refine then_normal (hK58 _ _ ?_)
 refine wp_seq_k fun K59 hK59 => ?_
 refine wp_block ?_
 refine wp_seq_k fun K60 hK60 => ?_
 refine plStart ?_
 refine lk (v := .int .i64 2) rfl rfl rfl ?_
 refine lk (v := .int .i64 2) rfl rfl rfl ?_
 refine plD ?_
 refine then_normal (hK60 _ _ ?_)
 refine wpPrune [(2, .pointer (some ⟨g2, 0, none⟩)), (4, .slice none 0 0), (5, .slice A54 2 c55), (6, .int .i64 (mEnc t.p)), (7, .int .i64 2), (8, .pointer (some ⟨g43, 0, none⟩)), (13, .int .i64 8), (14, .int .i64 2), (15, .bool true), (16, .int .i64 2), (17, .tuple #[.agg (pcs ((child t 1).p)).toArray, .bool true]), (18, .int .i64 (mEnc t.p)), (19, .int .i64 1), (20, .agg (tlc ⟨t.lv - 1, t.p⟩).toArray), (21, .int .i64 (c8 t)), (22, .int .i64 (1 * (c8 t))), (23, .int .i64 ((mEnc t.p) + (1 * (c8 t)))), (24, .tuple #[.agg (pcs ((child t 1).p)).toArray, .bool true]), (25, .agg (pcs ((child t 1).p)).toArray), (26, .bool true), (27, .slice A31 1 c32), (28, .pointer (some ⟨g2, 0, none⟩)), (29, .int .i64 (t.lv - 1)), (30, .agg (pcs ((child t 1).p)).toArray), (31, .agg (tlc ⟨t.lv - 1, ((child t 1).p)⟩).toArray), (32, .slice (some ⟨g49, 0, none⟩) 1 1), (33, .slice A54 2 c55), (34, .int .i64 2)] ⟨litGet (by kernel_rfl), ⟨litGet (by kernel_rfl), ⟨litGet (by kernel_rfl), ⟨litGet (by kernel_rfl), ⟨litGet (by kernel_rfl), ⟨litGet (by kernel_rfl), ⟨litGet (by kernel_rfl), ⟨litGet (by kernel_rfl), ⟨litGet (by kernel_rfl), ⟨litGet (by kernel_rfl), ⟨litGet (by kernel_rfl), ⟨litGet (by kernel_rfl), ⟨litGet (by kernel_rfl), ⟨litGet (by kernel_rfl), ⟨litGet (by kernel_rfl), ⟨litGet (by kernel_rfl), ⟨litGet (by kernel_rfl), ⟨litGet (by kernel_rfl), ⟨litGet (by kernel_rfl), ⟨litGet (by kernel_rfl), ⟨litGet (by kernel_rfl), ⟨litGet (by kernel_rfl), ⟨litGet (by kernel_rfl), ⟨litGet (by kernel_rfl), ⟨litGet (by kernel_rfl), ⟨litGet (by kernel_rfl), ⟨litGet (by kernel_rfl), ⟨litGet (by kernel_rfl), trivial⟩⟩⟩⟩⟩⟩⟩⟩⟩⟩⟩⟩⟩⟩⟩⟩⟩⟩⟩⟩⟩⟩⟩⟩⟩⟩⟩⟩ (fun X61 => ?_)
 refine wp_seq_k fun K62 hK62 => ?_
 refine plStart ?_
 refine lk (v := .int .i64 (mEnc t.p)) rfl rfl rfl ?_
 refine lk (v := .int .i64 2) rfl rfl rfl ?_
 refine litVal (v := .agg (tlc ⟨t.lv - 1, t.p⟩).toArray) rfl (wn rfl) (gLoadAg (vs := tlc ⟨t.lv - 1, t.p⟩) (k := 0) 0 hm52 rfl (by kernel_rfl) (by kernel_rfl) (.tmp 2) Ty.ag_voxel_api_Tile rfl (litEv (by kernel_rfl))) rfl (by decide) ?_
 refine plCall (i := 3) 74 [.agg (tlc ⟨t.lv - 1, t.p⟩).toArray] [] [] rfl (by kernel_rfl) (wn rfl) rfl (litEv (by kernel_rfl)) (litArgs (by kernel_rfl)) (countC_any h h1 _) ?_
 rintro e w63 ⟨rfl, hbz⟩
 have hm64 := hm52.below hbz
 clear hbz hm52
 refine ⟨_, rfl, ?_⟩
 refine qP rfl ?_
 refine litVal (v := .int .i64 (2 * (c8 t))) rfl (wn rfl) (mulRun (A := 2) (B := (c8 t)) (C := 2 * (c8 t)) (.tmp 19) (.tmp 21) rfl (litEv (by kernel_rfl)) (litEv (by kernel_rfl)) rfl (by omega)) rfl (by decide) ?_
 refine litVal (v := .int .i64 ((mEnc t.p) + (2 * (c8 t)))) rfl (wn rfl) (addRun (A := (mEnc t.p)) (B := (2 * (c8 t))) (C := (mEnc t.p) + (2 * (c8 t))) (.tmp 18) (.tmp 22) rfl (litEv (by kernel_rfl)) (litEv (by kernel_rfl)) rfl (by omega)) rfl (by decide) ?_
 refine plCall (i := 6) 73 [.int .i64 ((mEnc t.p) + (2 * (c8 t)))] [] [] rfl (by kernel_rfl) (wn rfl) rfl (litEv (by kernel_rfl)) (litArgs (by kernel_rfl)) (decodeC_any h h1 (k := 2) (by decide) (by omega) _) ?_
 rintro e w65 ⟨rfl, hbz⟩
 have hm66 := hm64.below hbz
 clear hbz hm64
 refine ⟨_, rfl, ?_⟩
 refine qP rfl ?_
 refine lk (v := .tuple #[.agg (pcs ((child t 2).p)).toArray, .bool true]) rfl rfl rfl ?_
 refine lk (v := .agg (pcs ((child t 2).p)).toArray) rfl rfl rfl ?_
 refine lk (v := .bool true) rfl rfl rfl ?_
 refine plAlloc (z := [.int .i64 0, .int .i64 0, .int .i64 0]) Ty.ag_voxel_api_Point hm66 (i := 10) rfl (wn rfl) rfl ?_
 intro g67 w69 hm68
 clear hm66
 try simp only [List.cons_append, List.nil_append, List.set_cons_succ, List.set_cons_zero] at hm68
 refine qP rfl ?_
 refine plStore 6 Ty.ag_voxel_api_Point hm68 rfl (i := 11) (cs := pcs ((child t 2).p)) rfl (wn rfl) rfl (litEv (by kernel_rfl)) (litEv (by kernel_rfl)) rfl rfl (by kernel_rfl) ?_
 intro w71 hm70
 clear hm68
 try simp only [List.cons_append, List.nil_append, List.set_cons_succ, List.set_cons_zero] at hm70
 refine qNone rfl ?_
 refine lk (v := .bool true) rfl rfl rfl ?_
 refine plD ?_
 refine then_normal (hK62 _ _ ?_)
 refine plStart ?_
 refine lk (v := .slice A54 2 c55) rfl rfl rfl ?_
 refine lk (v := .pointer (some ⟨g2, 0, none⟩)) rfl rfl rfl ?_
 refine litVal (v := .int .i64 (t.lv - 1)) rfl (wn rfl) (gLoad (v := .int .i64 (t.lv - 1)) (k := 0) 0 hm70 rfl (by kernel_rfl) (.tmp 28) (by kernel_rfl) rfl (litEv (by kernel_rfl))) rfl (by decide) ?_
 refine litVal (v := .agg (pcs ((child t 2).p)).toArray) rfl (wn rfl) (gLoadAg (vs := pcs ((child t 2).p)) (k := 0) 6 hm70 rfl (by kernel_rfl) (by kernel_rfl) (.tmp 8) Ty.ag_voxel_api_Point rfl (litEv (by kernel_rfl))) rfl (by decide) ?_
 refine lk (v := .agg (tlc ⟨t.lv - 1, ((child t 2).p)⟩).toArray) rfl rfl rfl ?_
 refine plLit (cs := [.int .i64 (t.lv - 1), .int .i64 (((child t 2).p).x), .int .i64 (((child t 2).p).y), .int .i64 (((child t 2).p).z)]) (n := 1) Ty.sl_L_api_Tile hm70 (i := 5) rfl (wn rfl) rfl (by decide) (by decide) (by rw [lit_eval]; kernel_rfl) ?_
 intro g72 w74 hm73
 clear hm70
 try simp only [List.cons_append, List.nil_append, List.set_cons_succ, List.set_cons_zero] at hm73
 refine qP rfl ?_
 refine plApp1 (v := .slice A54 2 c55) (n := 2) (xs := tlsC (chT t 2)) (ys := [.int .i64 (t.lv - 1), .int .i64 (((child t 2).p).x), .int .i64 (((child t 2).p).y), .int .i64 (((child t 2).p).z)]) 3 7 Ty.sl_L_api_Tile hm73 rfl rfl (i := 6) rfl (wn rfl) rfl (litEv (by kernel_rfl)) (litEv (by kernel_rfl)) (by kernel_rfl) (by kernel_rfl) (by decide) (by decide) ?_
 intro v79 w76 hm75
 clear hm73
 try simp only [List.cons_append, List.nil_append, List.set_cons_succ, List.set_cons_zero] at hm75
 replace hm75 := Mem.rowEq (v := v79) (e := 38) (size := 4) (n := 2 + 1) (n' := 3) (xs := (tlsC (chT t 2)) ++ ([.int .i64 (t.lv - 1), .int .i64 (((child t 2).p).x), .int .i64 (((child t 2).p).y), .int .i64 (((child t 2).p).z)])) (xs' := tlsC (chT t 3)) 3 hm75 rfl (rfl) (rfl)
 try simp only [List.cons_append, List.nil_append, List.set_cons_succ, List.set_cons_zero] at hm75
 obtain ⟨A77, c78, rfl⟩ := Mem.rowSl (v := v79) (e := 38) (size := 4) (n := 3) (xs := tlsC (chT t 3)) 3 hm75 rfl
 refine qP rfl ?_
 refine lk (v := .slice A77 3 c78) rfl rfl rfl ?_
 refine plD ?_
 refine inBlock_normal ?_
 refine then_normal (hK59 _ _ ?_)
 refine wpPrune [(2, .pointer (some ⟨g2, 0, none⟩)), (4, .slice none 0 0), (5, .slice A77 3 c78), (6, .int .i64 (mEnc t.p)), (7, .int .i64 2), (8, .pointer (some ⟨g67, 0, none⟩)), (13, .int .i64 8), (14, .int .i64 2), (15, .bool true), (16, .int .i64 2), (17, .tuple #[.agg (pcs ((child t 2).p)).toArray, .bool true]), (18, .int .i64 (mEnc t.p)), (19, .int .i64 2), (20, .agg (tlc ⟨t.lv - 1, t.p⟩).toArray), (21, .int .i64 (c8 t)), (22, .int .i64 (2 * (c8 t))), (23, .int .i64 ((mEnc t.p) + (2 * (c8 t)))), (24, .tuple #[.agg (pcs ((child t 2).p)).toArray, .bool true]), (25, .agg (pcs ((child t 2).p)).toArray), (26, .bool true), (27, .slice A54 2 c55), (28, .pointer (some ⟨g2, 0, none⟩)), (29, .int .i64 (t.lv - 1)), (30, .agg (pcs ((child t 2).p)).toArray), (31, .agg (tlc ⟨t.lv - 1, ((child t 2).p)⟩).toArray), (32, .slice (some ⟨g72, 0, none⟩) 1 1), (33, .slice A77 3 c78), (34, .int .i64 2)] ⟨litGet (by kernel_rfl), ⟨litGet (by kernel_rfl), ⟨litGet (by kernel_rfl), ⟨litGet (by kernel_rfl), ⟨litGet (by kernel_rfl), ⟨litGet (by kernel_rfl), ⟨litGet (by kernel_rfl), ⟨litGet (by kernel_rfl), ⟨litGet (by kernel_rfl), ⟨litGet (by kernel_rfl), ⟨litGet (by kernel_rfl), ⟨litGet (by kernel_rfl), ⟨litGet (by kernel_rfl), ⟨litGet (by kernel_rfl), ⟨litGet (by kernel_rfl), ⟨litGet (by kernel_rfl), ⟨litGet (by kernel_rfl), ⟨litGet (by kernel_rfl), ⟨litGet (by kernel_rfl), ⟨litGet (by kernel_rfl), ⟨litGet (by kernel_rfl), ⟨litGet (by kernel_rfl), ⟨litGet (by kernel_rfl), ⟨litGet (by kernel_rfl), ⟨litGet (by kernel_rfl), ⟨litGet (by kernel_rfl), ⟨litGet (by kernel_rfl), ⟨litGet (by kernel_rfl), trivial⟩⟩⟩⟩⟩⟩⟩⟩⟩⟩⟩⟩⟩⟩⟩⟩⟩⟩⟩⟩⟩⟩⟩⟩⟩⟩⟩⟩ (fun X80 => ?_)
 refine plStart ?_
 refine lk (v := .int .i64 3) rfl rfl rfl ?_
 refine lk (v := .int .i64 3) rfl rfl rfl ?_
 refine plD ?_
 refine then_normal (roundsNext ?_)
 refine wp_seq_k fun K81 hK81 => ?_
 refine plStart ?_
 refine lk (v := .bool true) rfl rfl rfl ?_
 refine plD ?_
 refine then_normal (hK81 _ _ ?_)
 refine wp_seq_k fun K82 hK82 => ?_
 refine wp_cond_true (litEv (by kernel_rfl)) ?_
 refine wp_skip ?_
 refine then_normal (hK82 _ _ ?_)
 refine wp_seq_k fun K83 hK83 => ?_
 refine wp_block ?_
 refine wp_seq_k fun K84 hK84 => ?_
 refine plStart ?_
 refine lk (v := .int .i64 3) rfl rfl rfl ?_
 refine lk (v := .int .i64 3) rfl rfl rfl ?_
 refine plD ?_
 refine then_normal (hK84 _ _ ?_)
 refine wp_seq_k fun K85 hK85 => ?_
 refine plStart ?_
 refine lk (v := .int .i64 (mEnc t.p)) rfl rfl rfl ?_
 refine lk (v := .int .i64 3) rfl rfl rfl ?_
 refine litVal (v := .agg (tlc ⟨t.lv - 1, t.p⟩).toArray) rfl (wn rfl) (gLoadAg (vs := tlc ⟨t.lv - 1, t.p⟩) (k := 0) 0 hm75 rfl (by kernel_rfl) (by kernel_rfl) (.tmp 2) Ty.ag_voxel_api_Tile rfl (litEv (by kernel_rfl))) rfl (by decide) ?_
 refine plCall (i := 3) 74 [.agg (tlc ⟨t.lv - 1, t.p⟩).toArray] [] [] rfl (by kernel_rfl) (wn rfl) rfl (litEv (by kernel_rfl)) (litArgs (by kernel_rfl)) (countC_any h h1 _) ?_
 rintro e w86 ⟨rfl, hbz⟩
 have hm87 := hm75.below hbz
 clear hbz hm75
 refine ⟨_, rfl, ?_⟩
 refine qP rfl ?_
 refine litVal (v := .int .i64 (3 * (c8 t))) rfl (wn rfl) (mulRun (A := 3) (B := (c8 t)) (C := 3 * (c8 t)) (.tmp 19) (.tmp 21) rfl (litEv (by kernel_rfl)) (litEv (by kernel_rfl)) rfl (by omega)) rfl (by decide) ?_
 refine litVal (v := .int .i64 ((mEnc t.p) + (3 * (c8 t)))) rfl (wn rfl) (addRun (A := (mEnc t.p)) (B := (3 * (c8 t))) (C := (mEnc t.p) + (3 * (c8 t))) (.tmp 18) (.tmp 22) rfl (litEv (by kernel_rfl)) (litEv (by kernel_rfl)) rfl (by omega)) rfl (by decide) ?_
 refine plCall (i := 6) 73 [.int .i64 ((mEnc t.p) + (3 * (c8 t)))] [] [] rfl (by kernel_rfl) (wn rfl) rfl (litEv (by kernel_rfl)) (litArgs (by kernel_rfl)) (decodeC_any h h1 (k := 3) (by decide) (by omega) _) ?_
 rintro e w88 ⟨rfl, hbz⟩
 have hm89 := hm87.below hbz
 clear hbz hm87
 refine ⟨_, rfl, ?_⟩
 refine qP rfl ?_
 refine lk (v := .tuple #[.agg (pcs ((child t 3).p)).toArray, .bool true]) rfl rfl rfl ?_
 refine lk (v := .agg (pcs ((child t 3).p)).toArray) rfl rfl rfl ?_
 refine lk (v := .bool true) rfl rfl rfl ?_
 refine plAlloc (z := [.int .i64 0, .int .i64 0, .int .i64 0]) Ty.ag_voxel_api_Point hm89 (i := 10) rfl (wn rfl) rfl ?_
 intro g90 w92 hm91
 clear hm89
 try simp only [List.cons_append, List.nil_append, List.set_cons_succ, List.set_cons_zero] at hm91
 refine qP rfl ?_
 refine plStore 8 Ty.ag_voxel_api_Point hm91 rfl (i := 11) (cs := pcs ((child t 3).p)) rfl (wn rfl) rfl (litEv (by kernel_rfl)) (litEv (by kernel_rfl)) rfl rfl (by kernel_rfl) ?_
 intro w94 hm93
 clear hm91
 try simp only [List.cons_append, List.nil_append, List.set_cons_succ, List.set_cons_zero] at hm93
 refine qNone rfl ?_
 refine lk (v := .bool true) rfl rfl rfl ?_
 refine plD ?_
 refine then_normal (hK85 _ _ ?_)
 refine wpPrune [(2, .pointer (some ⟨g2, 0, none⟩)), (4, .slice none 0 0), (5, .slice A77 3 c78), (6, .int .i64 (mEnc t.p)), (7, .int .i64 3), (8, .pointer (some ⟨g90, 0, none⟩)), (13, .int .i64 8), (14, .int .i64 3), (15, .bool true), (16, .int .i64 3), (17, .tuple #[.agg (pcs ((child t 3).p)).toArray, .bool true]), (18, .int .i64 (mEnc t.p)), (19, .int .i64 3), (20, .agg (tlc ⟨t.lv - 1, t.p⟩).toArray), (21, .int .i64 (c8 t)), (22, .int .i64 (3 * (c8 t))), (23, .int .i64 ((mEnc t.p) + (3 * (c8 t)))), (24, .tuple #[.agg (pcs ((child t 3).p)).toArray, .bool true]), (25, .agg (pcs ((child t 3).p)).toArray), (26, .bool true), (27, .slice A54 2 c55), (28, .pointer (some ⟨g2, 0, none⟩)), (29, .int .i64 (t.lv - 1)), (30, .agg (pcs ((child t 2).p)).toArray), (31, .agg (tlc ⟨t.lv - 1, ((child t 2).p)⟩).toArray), (32, .slice (some ⟨g72, 0, none⟩) 1 1), (33, .slice A77 3 c78), (34, .int .i64 3)] ⟨litGet (by kernel_rfl), ⟨litGet (by kernel_rfl), ⟨litGet (by kernel_rfl), ⟨litGet (by kernel_rfl), ⟨litGet (by kernel_rfl), ⟨litGet (by kernel_rfl), ⟨litGet (by kernel_rfl), ⟨litGet (by kernel_rfl), ⟨litGet (by kernel_rfl), ⟨litGet (by kernel_rfl), ⟨litGet (by kernel_rfl), ⟨litGet (by kernel_rfl), ⟨litGet (by kernel_rfl), ⟨litGet (by kernel_rfl), ⟨litGet (by kernel_rfl), ⟨litGet (by kernel_rfl), ⟨litGet (by kernel_rfl), ⟨litGet (by kernel_rfl), ⟨litGet (by kernel_rfl), ⟨litGet (by kernel_rfl), ⟨litGet (by kernel_rfl), ⟨litGet (by kernel_rfl), ⟨litGet (by kernel_rfl), ⟨litGet (by kernel_rfl), ⟨litGet (by kernel_rfl), ⟨litGet (by kernel_rfl), ⟨litGet (by kernel_rfl), ⟨litGet (by kernel_rfl), trivial⟩⟩⟩⟩⟩⟩⟩⟩⟩⟩⟩⟩⟩⟩⟩⟩⟩⟩⟩⟩⟩⟩⟩⟩⟩⟩⟩⟩ (fun X95 => ?_)
 refine plStart ?_
 refine lk (v := .slice A77 3 c78) rfl rfl rfl ?_
 refine lk (v := .pointer (some ⟨g2, 0, none⟩)) rfl rfl rfl ?_
 refine litVal (v := .int .i64 (t.lv - 1)) rfl (wn rfl) (gLoad (v := .int .i64 (t.lv - 1)) (k := 0) 0 hm93 rfl (by kernel_rfl) (.tmp 28) (by kernel_rfl) rfl (litEv (by kernel_rfl))) rfl (by decide) ?_
 refine litVal (v := .agg (pcs ((child t 3).p)).toArray) rfl (wn rfl) (gLoadAg (vs := pcs ((child t 3).p)) (k := 0) 8 hm93 rfl (by kernel_rfl) (by kernel_rfl) (.tmp 8) Ty.ag_voxel_api_Point rfl (litEv (by kernel_rfl))) rfl (by decide) ?_
 refine lk (v := .agg (tlc ⟨t.lv - 1, ((child t 3).p)⟩).toArray) rfl rfl rfl ?_
 refine plLit (cs := [.int .i64 (t.lv - 1), .int .i64 (((child t 3).p).x), .int .i64 (((child t 3).p).y), .int .i64 (((child t 3).p).z)]) (n := 1) Ty.sl_L_api_Tile hm93 (i := 5) rfl (wn rfl) rfl (by decide) (by decide) (by rw [lit_eval]; kernel_rfl) ?_
 intro g96 w98 hm97
 clear hm93
 try simp only [List.cons_append, List.nil_append, List.set_cons_succ, List.set_cons_zero] at hm97
 refine qP rfl ?_
 refine plApp1 (v := .slice A77 3 c78) (n := 3) (xs := tlsC (chT t 3)) (ys := [.int .i64 (t.lv - 1), .int .i64 (((child t 3).p).x), .int .i64 (((child t 3).p).y), .int .i64 (((child t 3).p).z)]) 3 9 Ty.sl_L_api_Tile hm97 rfl rfl (i := 6) rfl (wn rfl) rfl (litEv (by kernel_rfl)) (litEv (by kernel_rfl)) (by kernel_rfl) (by kernel_rfl) (by decide) (by decide) ?_
 intro v103 w100 hm99
 clear hm97
 try simp only [List.cons_append, List.nil_append, List.set_cons_succ, List.set_cons_zero] at hm99
 replace hm99 := Mem.rowEq (v := v103) (e := 38) (size := 4) (n := 3 + 1) (n' := 4) (xs := (tlsC (chT t 3)) ++ ([.int .i64 (t.lv - 1), .int .i64 (((child t 3).p).x), .int .i64 (((child t 3).p).y), .int .i64 (((child t 3).p).z)])) (xs' := tlsC (chT t 4)) 3 hm99 rfl (rfl) (rfl)
 try simp only [List.cons_append, List.nil_append, List.set_cons_succ, List.set_cons_zero] at hm99
 obtain ⟨A101, c102, rfl⟩ := Mem.rowSl (v := v103) (e := 38) (size := 4) (n := 4) (xs := tlsC (chT t 4)) 3 hm99 rfl
 refine qP rfl ?_
 refine lk (v := .slice A101 4 c102) rfl rfl rfl ?_
 refine plD ?_
 refine inBlock_normal ?_
 refine then_normal (hK83 _ _ ?_)
 refine plStart ?_
 refine lk (v := .int .i64 4) rfl rfl rfl ?_
 refine lk (v := .int .i64 4) rfl rfl rfl ?_
 refine plD ?_
 refine then_normal (roundsNext ?_)
 refine wp_seq_k fun K104 hK104 => ?_
 refine plStart ?_
 refine lk (v := .bool true) rfl rfl rfl ?_
 refine plD ?_
 refine then_normal (hK104 _ _ ?_)
 refine wp_seq_k fun K105 hK105 => ?_
 refine wp_cond_true (litEv (by kernel_rfl)) ?_
 refine wp_skip ?_
 refine then_normal (hK105 _ _ ?_)
 refine wp_seq_k fun K106 hK106 => ?_
 refine wp_block ?_
 refine wp_seq_k fun K107 hK107 => ?_
 refine plStart ?_
 refine lk (v := .int .i64 4) rfl rfl rfl ?_
 refine lk (v := .int .i64 4) rfl rfl rfl ?_
 refine plD ?_
 refine then_normal (hK107 _ _ ?_)
 refine wpPrune [(2, .pointer (some ⟨g2, 0, none⟩)), (4, .slice none 0 0), (5, .slice A101 4 c102), (6, .int .i64 (mEnc t.p)), (7, .int .i64 4), (8, .pointer (some ⟨g90, 0, none⟩)), (13, .int .i64 8), (14, .int .i64 4), (15, .bool true), (16, .int .i64 4), (17, .tuple #[.agg (pcs ((child t 3).p)).toArray, .bool true]), (18, .int .i64 (mEnc t.p)), (19, .int .i64 3), (20, .agg (tlc ⟨t.lv - 1, t.p⟩).toArray), (21, .int .i64 (c8 t)), (22, .int .i64 (3 * (c8 t))), (23, .int .i64 ((mEnc t.p) + (3 * (c8 t)))), (24, .tuple #[.agg (pcs ((child t 3).p)).toArray, .bool true]), (25, .agg (pcs ((child t 3).p)).toArray), (26, .bool true), (27, .slice A77 3 c78), (28, .pointer (some ⟨g2, 0, none⟩)), (29, .int .i64 (t.lv - 1)), (30, .agg (pcs ((child t 3).p)).toArray), (31, .agg (tlc ⟨t.lv - 1, ((child t 3).p)⟩).toArray), (32, .slice (some ⟨g96, 0, none⟩) 1 1), (33, .slice A101 4 c102), (34, .int .i64 4)] ⟨litGet (by kernel_rfl), ⟨litGet (by kernel_rfl), ⟨litGet (by kernel_rfl), ⟨litGet (by kernel_rfl), ⟨litGet (by kernel_rfl), ⟨litGet (by kernel_rfl), ⟨litGet (by kernel_rfl), ⟨litGet (by kernel_rfl), ⟨litGet (by kernel_rfl), ⟨litGet (by kernel_rfl), ⟨litGet (by kernel_rfl), ⟨litGet (by kernel_rfl), ⟨litGet (by kernel_rfl), ⟨litGet (by kernel_rfl), ⟨litGet (by kernel_rfl), ⟨litGet (by kernel_rfl), ⟨litGet (by kernel_rfl), ⟨litGet (by kernel_rfl), ⟨litGet (by kernel_rfl), ⟨litGet (by kernel_rfl), ⟨litGet (by kernel_rfl), ⟨litGet (by kernel_rfl), ⟨litGet (by kernel_rfl), ⟨litGet (by kernel_rfl), ⟨litGet (by kernel_rfl), ⟨litGet (by kernel_rfl), ⟨litGet (by kernel_rfl), ⟨litGet (by kernel_rfl), trivial⟩⟩⟩⟩⟩⟩⟩⟩⟩⟩⟩⟩⟩⟩⟩⟩⟩⟩⟩⟩⟩⟩⟩⟩⟩⟩⟩⟩ (fun X108 => ?_)
 refine wp_seq_k fun K109 hK109 => ?_
 refine plStart ?_
 refine lk (v := .int .i64 (mEnc t.p)) rfl rfl rfl ?_
 refine lk (v := .int .i64 4) rfl rfl rfl ?_
 refine litVal (v := .agg (tlc ⟨t.lv - 1, t.p⟩).toArray) rfl (wn rfl) (gLoadAg (vs := tlc ⟨t.lv - 1, t.p⟩) (k := 0) 0 hm99 rfl (by kernel_rfl) (by kernel_rfl) (.tmp 2) Ty.ag_voxel_api_Tile rfl (litEv (by kernel_rfl))) rfl (by decide) ?_
 refine plCall (i := 3) 74 [.agg (tlc ⟨t.lv - 1, t.p⟩).toArray] [] [] rfl (by kernel_rfl) (wn rfl) rfl (litEv (by kernel_rfl)) (litArgs (by kernel_rfl)) (countC_any h h1 _) ?_
 rintro e w110 ⟨rfl, hbz⟩
 have hm111 := hm99.below hbz
 clear hbz hm99
 refine ⟨_, rfl, ?_⟩
 refine qP rfl ?_
 refine litVal (v := .int .i64 (4 * (c8 t))) rfl (wn rfl) (mulRun (A := 4) (B := (c8 t)) (C := 4 * (c8 t)) (.tmp 19) (.tmp 21) rfl (litEv (by kernel_rfl)) (litEv (by kernel_rfl)) rfl (by omega)) rfl (by decide) ?_
 refine litVal (v := .int .i64 ((mEnc t.p) + (4 * (c8 t)))) rfl (wn rfl) (addRun (A := (mEnc t.p)) (B := (4 * (c8 t))) (C := (mEnc t.p) + (4 * (c8 t))) (.tmp 18) (.tmp 22) rfl (litEv (by kernel_rfl)) (litEv (by kernel_rfl)) rfl (by omega)) rfl (by decide) ?_
 refine plCall (i := 6) 73 [.int .i64 ((mEnc t.p) + (4 * (c8 t)))] [] [] rfl (by kernel_rfl) (wn rfl) rfl (litEv (by kernel_rfl)) (litArgs (by kernel_rfl)) (decodeC_any h h1 (k := 4) (by decide) (by omega) _) ?_
 rintro e w112 ⟨rfl, hbz⟩
 have hm113 := hm111.below hbz
 clear hbz hm111
 refine ⟨_, rfl, ?_⟩
 refine qP rfl ?_
 refine lk (v := .tuple #[.agg (pcs ((child t 4).p)).toArray, .bool true]) rfl rfl rfl ?_
 refine lk (v := .agg (pcs ((child t 4).p)).toArray) rfl rfl rfl ?_
 refine lk (v := .bool true) rfl rfl rfl ?_
 refine plAlloc (z := [.int .i64 0, .int .i64 0, .int .i64 0]) Ty.ag_voxel_api_Point hm113 (i := 10) rfl (wn rfl) rfl ?_
 intro g114 w116 hm115
 clear hm113
 try simp only [List.cons_append, List.nil_append, List.set_cons_succ, List.set_cons_zero] at hm115
 refine qP rfl ?_
 refine plStore 10 Ty.ag_voxel_api_Point hm115 rfl (i := 11) (cs := pcs ((child t 4).p)) rfl (wn rfl) rfl (litEv (by kernel_rfl)) (litEv (by kernel_rfl)) rfl rfl (by kernel_rfl) ?_
 intro w118 hm117
 clear hm115
 try simp only [List.cons_append, List.nil_append, List.set_cons_succ, List.set_cons_zero] at hm117
 refine qNone rfl ?_
 refine lk (v := .bool true) rfl rfl rfl ?_
 refine plD ?_
 refine then_normal (hK109 _ _ ?_)
 refine plStart ?_
 refine lk (v := .slice A101 4 c102) rfl rfl rfl ?_
 refine lk (v := .pointer (some ⟨g2, 0, none⟩)) rfl rfl rfl ?_
 refine litVal (v := .int .i64 (t.lv - 1)) rfl (wn rfl) (gLoad (v := .int .i64 (t.lv - 1)) (k := 0) 0 hm117 rfl (by kernel_rfl) (.tmp 28) (by kernel_rfl) rfl (litEv (by kernel_rfl))) rfl (by decide) ?_
 refine litVal (v := .agg (pcs ((child t 4).p)).toArray) rfl (wn rfl) (gLoadAg (vs := pcs ((child t 4).p)) (k := 0) 10 hm117 rfl (by kernel_rfl) (by kernel_rfl) (.tmp 8) Ty.ag_voxel_api_Point rfl (litEv (by kernel_rfl))) rfl (by decide) ?_
 refine lk (v := .agg (tlc ⟨t.lv - 1, ((child t 4).p)⟩).toArray) rfl rfl rfl ?_
 refine plLit (cs := [.int .i64 (t.lv - 1), .int .i64 (((child t 4).p).x), .int .i64 (((child t 4).p).y), .int .i64 (((child t 4).p).z)]) (n := 1) Ty.sl_L_api_Tile hm117 (i := 5) rfl (wn rfl) rfl (by decide) (by decide) (by rw [lit_eval]; kernel_rfl) ?_
 intro g119 w121 hm120
 clear hm117
 try simp only [List.cons_append, List.nil_append, List.set_cons_succ, List.set_cons_zero] at hm120
 refine qP rfl ?_
 refine plApp1 (v := .slice A101 4 c102) (n := 4) (xs := tlsC (chT t 4)) (ys := [.int .i64 (t.lv - 1), .int .i64 (((child t 4).p).x), .int .i64 (((child t 4).p).y), .int .i64 (((child t 4).p).z)]) 3 11 Ty.sl_L_api_Tile hm120 rfl rfl (i := 6) rfl (wn rfl) rfl (litEv (by kernel_rfl)) (litEv (by kernel_rfl)) (by kernel_rfl) (by kernel_rfl) (by decide) (by decide) ?_
 intro v126 w123 hm122
 clear hm120
 try simp only [List.cons_append, List.nil_append, List.set_cons_succ, List.set_cons_zero] at hm122
 replace hm122 := Mem.rowEq (v := v126) (e := 38) (size := 4) (n := 4 + 1) (n' := 5) (xs := (tlsC (chT t 4)) ++ ([.int .i64 (t.lv - 1), .int .i64 (((child t 4).p).x), .int .i64 (((child t 4).p).y), .int .i64 (((child t 4).p).z)])) (xs' := tlsC (chT t 5)) 3 hm122 rfl (rfl) (rfl)
 try simp only [List.cons_append, List.nil_append, List.set_cons_succ, List.set_cons_zero] at hm122
 obtain ⟨A124, c125, rfl⟩ := Mem.rowSl (v := v126) (e := 38) (size := 4) (n := 5) (xs := tlsC (chT t 5)) 3 hm122 rfl
 refine qP rfl ?_
 refine lk (v := .slice A124 5 c125) rfl rfl rfl ?_
 refine plD ?_
 refine inBlock_normal ?_
 refine then_normal (hK106 _ _ ?_)
 refine wpPrune [(2, .pointer (some ⟨g2, 0, none⟩)), (4, .slice none 0 0), (5, .slice A124 5 c125), (6, .int .i64 (mEnc t.p)), (7, .int .i64 4), (8, .pointer (some ⟨g114, 0, none⟩)), (13, .int .i64 8), (14, .int .i64 4), (15, .bool true), (16, .int .i64 4), (17, .tuple #[.agg (pcs ((child t 4).p)).toArray, .bool true]), (18, .int .i64 (mEnc t.p)), (19, .int .i64 4), (20, .agg (tlc ⟨t.lv - 1, t.p⟩).toArray), (21, .int .i64 (c8 t)), (22, .int .i64 (4 * (c8 t))), (23, .int .i64 ((mEnc t.p) + (4 * (c8 t)))), (24, .tuple #[.agg (pcs ((child t 4).p)).toArray, .bool true]), (25, .agg (pcs ((child t 4).p)).toArray), (26, .bool true), (27, .slice A101 4 c102), (28, .pointer (some ⟨g2, 0, none⟩)), (29, .int .i64 (t.lv - 1)), (30, .agg (pcs ((child t 4).p)).toArray), (31, .agg (tlc ⟨t.lv - 1, ((child t 4).p)⟩).toArray), (32, .slice (some ⟨g119, 0, none⟩) 1 1), (33, .slice A124 5 c125), (34, .int .i64 4)] ⟨litGet (by kernel_rfl), ⟨litGet (by kernel_rfl), ⟨litGet (by kernel_rfl), ⟨litGet (by kernel_rfl), ⟨litGet (by kernel_rfl), ⟨litGet (by kernel_rfl), ⟨litGet (by kernel_rfl), ⟨litGet (by kernel_rfl), ⟨litGet (by kernel_rfl), ⟨litGet (by kernel_rfl), ⟨litGet (by kernel_rfl), ⟨litGet (by kernel_rfl), ⟨litGet (by kernel_rfl), ⟨litGet (by kernel_rfl), ⟨litGet (by kernel_rfl), ⟨litGet (by kernel_rfl), ⟨litGet (by kernel_rfl), ⟨litGet (by kernel_rfl), ⟨litGet (by kernel_rfl), ⟨litGet (by kernel_rfl), ⟨litGet (by kernel_rfl), ⟨litGet (by kernel_rfl), ⟨litGet (by kernel_rfl), ⟨litGet (by kernel_rfl), ⟨litGet (by kernel_rfl), ⟨litGet (by kernel_rfl), ⟨litGet (by kernel_rfl), ⟨litGet (by kernel_rfl), trivial⟩⟩⟩⟩⟩⟩⟩⟩⟩⟩⟩⟩⟩⟩⟩⟩⟩⟩⟩⟩⟩⟩⟩⟩⟩⟩⟩⟩ (fun X127 => ?_)
 refine plStart ?_
 refine lk (v := .int .i64 5) rfl rfl rfl ?_
 refine lk (v := .int .i64 5) rfl rfl rfl ?_
 refine plD ?_
 refine then_normal (roundsNext ?_)
 refine wp_seq_k fun K128 hK128 => ?_
 refine plStart ?_
 refine lk (v := .bool true) rfl rfl rfl ?_
 refine plD ?_
 refine then_normal (hK128 _ _ ?_)
 refine wp_seq_k fun K129 hK129 => ?_
 refine wp_cond_true (litEv (by kernel_rfl)) ?_
 refine wp_skip ?_
 refine then_normal (hK129 _ _ ?_)
 refine wp_seq_k fun K130 hK130 => ?_
 refine wp_block ?_
 refine wp_seq_k fun K131 hK131 => ?_
 refine plStart ?_
 refine lk (v := .int .i64 5) rfl rfl rfl ?_
 refine lk (v := .int .i64 5) rfl rfl rfl ?_
 refine plD ?_
 refine then_normal (hK131 _ _ ?_)
 refine wp_seq_k fun K132 hK132 => ?_
 refine plStart ?_
 refine lk (v := .int .i64 (mEnc t.p)) rfl rfl rfl ?_
 refine lk (v := .int .i64 5) rfl rfl rfl ?_
 refine litVal (v := .agg (tlc ⟨t.lv - 1, t.p⟩).toArray) rfl (wn rfl) (gLoadAg (vs := tlc ⟨t.lv - 1, t.p⟩) (k := 0) 0 hm122 rfl (by kernel_rfl) (by kernel_rfl) (.tmp 2) Ty.ag_voxel_api_Tile rfl (litEv (by kernel_rfl))) rfl (by decide) ?_
 refine plCall (i := 3) 74 [.agg (tlc ⟨t.lv - 1, t.p⟩).toArray] [] [] rfl (by kernel_rfl) (wn rfl) rfl (litEv (by kernel_rfl)) (litArgs (by kernel_rfl)) (countC_any h h1 _) ?_
 rintro e w133 ⟨rfl, hbz⟩
 have hm134 := hm122.below hbz
 clear hbz hm122
 refine ⟨_, rfl, ?_⟩
 refine qP rfl ?_
 refine litVal (v := .int .i64 (5 * (c8 t))) rfl (wn rfl) (mulRun (A := 5) (B := (c8 t)) (C := 5 * (c8 t)) (.tmp 19) (.tmp 21) rfl (litEv (by kernel_rfl)) (litEv (by kernel_rfl)) rfl (by omega)) rfl (by decide) ?_
 refine litVal (v := .int .i64 ((mEnc t.p) + (5 * (c8 t)))) rfl (wn rfl) (addRun (A := (mEnc t.p)) (B := (5 * (c8 t))) (C := (mEnc t.p) + (5 * (c8 t))) (.tmp 18) (.tmp 22) rfl (litEv (by kernel_rfl)) (litEv (by kernel_rfl)) rfl (by omega)) rfl (by decide) ?_
 refine plCall (i := 6) 73 [.int .i64 ((mEnc t.p) + (5 * (c8 t)))] [] [] rfl (by kernel_rfl) (wn rfl) rfl (litEv (by kernel_rfl)) (litArgs (by kernel_rfl)) (decodeC_any h h1 (k := 5) (by decide) (by omega) _) ?_
 rintro e w135 ⟨rfl, hbz⟩
 have hm136 := hm134.below hbz
 clear hbz hm134
 refine ⟨_, rfl, ?_⟩
 refine qP rfl ?_
 refine lk (v := .tuple #[.agg (pcs ((child t 5).p)).toArray, .bool true]) rfl rfl rfl ?_
 refine lk (v := .agg (pcs ((child t 5).p)).toArray) rfl rfl rfl ?_
 refine lk (v := .bool true) rfl rfl rfl ?_
 refine plAlloc (z := [.int .i64 0, .int .i64 0, .int .i64 0]) Ty.ag_voxel_api_Point hm136 (i := 10) rfl (wn rfl) rfl ?_
 intro g137 w139 hm138
 clear hm136
 try simp only [List.cons_append, List.nil_append, List.set_cons_succ, List.set_cons_zero] at hm138
 refine qP rfl ?_
 refine plStore 12 Ty.ag_voxel_api_Point hm138 rfl (i := 11) (cs := pcs ((child t 5).p)) rfl (wn rfl) rfl (litEv (by kernel_rfl)) (litEv (by kernel_rfl)) rfl rfl (by kernel_rfl) ?_
 intro w141 hm140
 clear hm138
 try simp only [List.cons_append, List.nil_append, List.set_cons_succ, List.set_cons_zero] at hm140
 refine qNone rfl ?_
 refine lk (v := .bool true) rfl rfl rfl ?_
 refine plD ?_
 refine then_normal (hK132 _ _ ?_)
 refine wpPrune [(2, .pointer (some ⟨g2, 0, none⟩)), (4, .slice none 0 0), (5, .slice A124 5 c125), (6, .int .i64 (mEnc t.p)), (7, .int .i64 5), (8, .pointer (some ⟨g137, 0, none⟩)), (13, .int .i64 8), (14, .int .i64 5), (15, .bool true), (16, .int .i64 5), (17, .tuple #[.agg (pcs ((child t 5).p)).toArray, .bool true]), (18, .int .i64 (mEnc t.p)), (19, .int .i64 5), (20, .agg (tlc ⟨t.lv - 1, t.p⟩).toArray), (21, .int .i64 (c8 t)), (22, .int .i64 (5 * (c8 t))), (23, .int .i64 ((mEnc t.p) + (5 * (c8 t)))), (24, .tuple #[.agg (pcs ((child t 5).p)).toArray, .bool true]), (25, .agg (pcs ((child t 5).p)).toArray), (26, .bool true), (27, .slice A101 4 c102), (28, .pointer (some ⟨g2, 0, none⟩)), (29, .int .i64 (t.lv - 1)), (30, .agg (pcs ((child t 4).p)).toArray), (31, .agg (tlc ⟨t.lv - 1, ((child t 4).p)⟩).toArray), (32, .slice (some ⟨g119, 0, none⟩) 1 1), (33, .slice A124 5 c125), (34, .int .i64 5)] ⟨litGet (by kernel_rfl), ⟨litGet (by kernel_rfl), ⟨litGet (by kernel_rfl), ⟨litGet (by kernel_rfl), ⟨litGet (by kernel_rfl), ⟨litGet (by kernel_rfl), ⟨litGet (by kernel_rfl), ⟨litGet (by kernel_rfl), ⟨litGet (by kernel_rfl), ⟨litGet (by kernel_rfl), ⟨litGet (by kernel_rfl), ⟨litGet (by kernel_rfl), ⟨litGet (by kernel_rfl), ⟨litGet (by kernel_rfl), ⟨litGet (by kernel_rfl), ⟨litGet (by kernel_rfl), ⟨litGet (by kernel_rfl), ⟨litGet (by kernel_rfl), ⟨litGet (by kernel_rfl), ⟨litGet (by kernel_rfl), ⟨litGet (by kernel_rfl), ⟨litGet (by kernel_rfl), ⟨litGet (by kernel_rfl), ⟨litGet (by kernel_rfl), ⟨litGet (by kernel_rfl), ⟨litGet (by kernel_rfl), ⟨litGet (by kernel_rfl), ⟨litGet (by kernel_rfl), trivial⟩⟩⟩⟩⟩⟩⟩⟩⟩⟩⟩⟩⟩⟩⟩⟩⟩⟩⟩⟩⟩⟩⟩⟩⟩⟩⟩⟩ (fun X142 => ?_)
 refine plStart ?_
 refine lk (v := .slice A124 5 c125) rfl rfl rfl ?_
 refine lk (v := .pointer (some ⟨g2, 0, none⟩)) rfl rfl rfl ?_
 refine litVal (v := .int .i64 (t.lv - 1)) rfl (wn rfl) (gLoad (v := .int .i64 (t.lv - 1)) (k := 0) 0 hm140 rfl (by kernel_rfl) (.tmp 28) (by kernel_rfl) rfl (litEv (by kernel_rfl))) rfl (by decide) ?_
 refine litVal (v := .agg (pcs ((child t 5).p)).toArray) rfl (wn rfl) (gLoadAg (vs := pcs ((child t 5).p)) (k := 0) 12 hm140 rfl (by kernel_rfl) (by kernel_rfl) (.tmp 8) Ty.ag_voxel_api_Point rfl (litEv (by kernel_rfl))) rfl (by decide) ?_
 refine lk (v := .agg (tlc ⟨t.lv - 1, ((child t 5).p)⟩).toArray) rfl rfl rfl ?_
 refine plLit (cs := [.int .i64 (t.lv - 1), .int .i64 (((child t 5).p).x), .int .i64 (((child t 5).p).y), .int .i64 (((child t 5).p).z)]) (n := 1) Ty.sl_L_api_Tile hm140 (i := 5) rfl (wn rfl) rfl (by decide) (by decide) (by rw [lit_eval]; kernel_rfl) ?_
 intro g143 w145 hm144
 clear hm140
 try simp only [List.cons_append, List.nil_append, List.set_cons_succ, List.set_cons_zero] at hm144
 refine qP rfl ?_
 refine plApp1 (v := .slice A124 5 c125) (n := 5) (xs := tlsC (chT t 5)) (ys := [.int .i64 (t.lv - 1), .int .i64 (((child t 5).p).x), .int .i64 (((child t 5).p).y), .int .i64 (((child t 5).p).z)]) 3 13 Ty.sl_L_api_Tile hm144 rfl rfl (i := 6) rfl (wn rfl) rfl (litEv (by kernel_rfl)) (litEv (by kernel_rfl)) (by kernel_rfl) (by kernel_rfl) (by decide) (by decide) ?_
 intro v150 w147 hm146
 clear hm144
 try simp only [List.cons_append, List.nil_append, List.set_cons_succ, List.set_cons_zero] at hm146
 replace hm146 := Mem.rowEq (v := v150) (e := 38) (size := 4) (n := 5 + 1) (n' := 6) (xs := (tlsC (chT t 5)) ++ ([.int .i64 (t.lv - 1), .int .i64 (((child t 5).p).x), .int .i64 (((child t 5).p).y), .int .i64 (((child t 5).p).z)])) (xs' := tlsC (chT t 6)) 3 hm146 rfl (rfl) (rfl)
 try simp only [List.cons_append, List.nil_append, List.set_cons_succ, List.set_cons_zero] at hm146
 obtain ⟨A148, c149, rfl⟩ := Mem.rowSl (v := v150) (e := 38) (size := 4) (n := 6) (xs := tlsC (chT t 6)) 3 hm146 rfl
 refine qP rfl ?_
 refine lk (v := .slice A148 6 c149) rfl rfl rfl ?_
 refine plD ?_
 refine inBlock_normal ?_
 refine then_normal (hK130 _ _ ?_)
 refine plStart ?_
 refine lk (v := .int .i64 6) rfl rfl rfl ?_
 refine lk (v := .int .i64 6) rfl rfl rfl ?_
 refine plD ?_
 refine then_normal (roundsNext ?_)
 refine wp_seq_k fun K151 hK151 => ?_
 refine plStart ?_
 refine lk (v := .bool true) rfl rfl rfl ?_
 refine plD ?_
 refine then_normal (hK151 _ _ ?_)
 refine wp_seq_k fun K152 hK152 => ?_
 refine wp_cond_true (litEv (by kernel_rfl)) ?_
 refine wp_skip ?_
 refine then_normal (hK152 _ _ ?_)
 refine wp_seq_k fun K153 hK153 => ?_
 refine wp_block ?_
 refine wp_seq_k fun K154 hK154 => ?_
 refine plStart ?_
 refine lk (v := .int .i64 6) rfl rfl rfl ?_
 refine lk (v := .int .i64 6) rfl rfl rfl ?_
 refine plD ?_
 refine then_normal (hK154 _ _ ?_)
 refine wpPrune [(2, .pointer (some ⟨g2, 0, none⟩)), (4, .slice none 0 0), (5, .slice A148 6 c149), (6, .int .i64 (mEnc t.p)), (7, .int .i64 6), (8, .pointer (some ⟨g137, 0, none⟩)), (13, .int .i64 8), (14, .int .i64 6), (15, .bool true), (16, .int .i64 6), (17, .tuple #[.agg (pcs ((child t 5).p)).toArray, .bool true]), (18, .int .i64 (mEnc t.p)), (19, .int .i64 5), (20, .agg (tlc ⟨t.lv - 1, t.p⟩).toArray), (21, .int .i64 (c8 t)), (22, .int .i64 (5 * (c8 t))), (23, .int .i64 ((mEnc t.p) + (5 * (c8 t)))), (24, .tuple #[.agg (pcs ((child t 5).p)).toArray, .bool true]), (25, .agg (pcs ((child t 5).p)).toArray), (26, .bool true), (27, .slice A124 5 c125), (28, .pointer (some ⟨g2, 0, none⟩)), (29, .int .i64 (t.lv - 1)), (30, .agg (pcs ((child t 5).p)).toArray), (31, .agg (tlc ⟨t.lv - 1, ((child t 5).p)⟩).toArray), (32, .slice (some ⟨g143, 0, none⟩) 1 1), (33, .slice A148 6 c149), (34, .int .i64 6)] ⟨litGet (by kernel_rfl), ⟨litGet (by kernel_rfl), ⟨litGet (by kernel_rfl), ⟨litGet (by kernel_rfl), ⟨litGet (by kernel_rfl), ⟨litGet (by kernel_rfl), ⟨litGet (by kernel_rfl), ⟨litGet (by kernel_rfl), ⟨litGet (by kernel_rfl), ⟨litGet (by kernel_rfl), ⟨litGet (by kernel_rfl), ⟨litGet (by kernel_rfl), ⟨litGet (by kernel_rfl), ⟨litGet (by kernel_rfl), ⟨litGet (by kernel_rfl), ⟨litGet (by kernel_rfl), ⟨litGet (by kernel_rfl), ⟨litGet (by kernel_rfl), ⟨litGet (by kernel_rfl), ⟨litGet (by kernel_rfl), ⟨litGet (by kernel_rfl), ⟨litGet (by kernel_rfl), ⟨litGet (by kernel_rfl), ⟨litGet (by kernel_rfl), ⟨litGet (by kernel_rfl), ⟨litGet (by kernel_rfl), ⟨litGet (by kernel_rfl), ⟨litGet (by kernel_rfl), trivial⟩⟩⟩⟩⟩⟩⟩⟩⟩⟩⟩⟩⟩⟩⟩⟩⟩⟩⟩⟩⟩⟩⟩⟩⟩⟩⟩⟩ (fun X155 => ?_)
 refine wp_seq_k fun K156 hK156 => ?_
 refine plStart ?_
 refine lk (v := .int .i64 (mEnc t.p)) rfl rfl rfl ?_
 refine lk (v := .int .i64 6) rfl rfl rfl ?_
 refine litVal (v := .agg (tlc ⟨t.lv - 1, t.p⟩).toArray) rfl (wn rfl) (gLoadAg (vs := tlc ⟨t.lv - 1, t.p⟩) (k := 0) 0 hm146 rfl (by kernel_rfl) (by kernel_rfl) (.tmp 2) Ty.ag_voxel_api_Tile rfl (litEv (by kernel_rfl))) rfl (by decide) ?_
 refine plCall (i := 3) 74 [.agg (tlc ⟨t.lv - 1, t.p⟩).toArray] [] [] rfl (by kernel_rfl) (wn rfl) rfl (litEv (by kernel_rfl)) (litArgs (by kernel_rfl)) (countC_any h h1 _) ?_
 rintro e w157 ⟨rfl, hbz⟩
 have hm158 := hm146.below hbz
 clear hbz hm146
 refine ⟨_, rfl, ?_⟩
 refine qP rfl ?_
 refine litVal (v := .int .i64 (6 * (c8 t))) rfl (wn rfl) (mulRun (A := 6) (B := (c8 t)) (C := 6 * (c8 t)) (.tmp 19) (.tmp 21) rfl (litEv (by kernel_rfl)) (litEv (by kernel_rfl)) rfl (by omega)) rfl (by decide) ?_
 refine litVal (v := .int .i64 ((mEnc t.p) + (6 * (c8 t)))) rfl (wn rfl) (addRun (A := (mEnc t.p)) (B := (6 * (c8 t))) (C := (mEnc t.p) + (6 * (c8 t))) (.tmp 18) (.tmp 22) rfl (litEv (by kernel_rfl)) (litEv (by kernel_rfl)) rfl (by omega)) rfl (by decide) ?_
 refine plCall (i := 6) 73 [.int .i64 ((mEnc t.p) + (6 * (c8 t)))] [] [] rfl (by kernel_rfl) (wn rfl) rfl (litEv (by kernel_rfl)) (litArgs (by kernel_rfl)) (decodeC_any h h1 (k := 6) (by decide) (by omega) _) ?_
 rintro e w159 ⟨rfl, hbz⟩
 have hm160 := hm158.below hbz
 clear hbz hm158
 refine ⟨_, rfl, ?_⟩
 refine qP rfl ?_
 refine lk (v := .tuple #[.agg (pcs ((child t 6).p)).toArray, .bool true]) rfl rfl rfl ?_
 refine lk (v := .agg (pcs ((child t 6).p)).toArray) rfl rfl rfl ?_
 refine lk (v := .bool true) rfl rfl rfl ?_
 refine plAlloc (z := [.int .i64 0, .int .i64 0, .int .i64 0]) Ty.ag_voxel_api_Point hm160 (i := 10) rfl (wn rfl) rfl ?_
 intro g161 w163 hm162
 clear hm160
 try simp only [List.cons_append, List.nil_append, List.set_cons_succ, List.set_cons_zero] at hm162
 refine qP rfl ?_
 refine plStore 14 Ty.ag_voxel_api_Point hm162 rfl (i := 11) (cs := pcs ((child t 6).p)) rfl (wn rfl) rfl (litEv (by kernel_rfl)) (litEv (by kernel_rfl)) rfl rfl (by kernel_rfl) ?_
 intro w165 hm164
 clear hm162
 try simp only [List.cons_append, List.nil_append, List.set_cons_succ, List.set_cons_zero] at hm164
 refine qNone rfl ?_
 refine lk (v := .bool true) rfl rfl rfl ?_
 refine plD ?_
 refine then_normal (hK156 _ _ ?_)
 refine plStart ?_
 refine lk (v := .slice A148 6 c149) rfl rfl rfl ?_
 refine lk (v := .pointer (some ⟨g2, 0, none⟩)) rfl rfl rfl ?_
 refine litVal (v := .int .i64 (t.lv - 1)) rfl (wn rfl) (gLoad (v := .int .i64 (t.lv - 1)) (k := 0) 0 hm164 rfl (by kernel_rfl) (.tmp 28) (by kernel_rfl) rfl (litEv (by kernel_rfl))) rfl (by decide) ?_
 refine litVal (v := .agg (pcs ((child t 6).p)).toArray) rfl (wn rfl) (gLoadAg (vs := pcs ((child t 6).p)) (k := 0) 14 hm164 rfl (by kernel_rfl) (by kernel_rfl) (.tmp 8) Ty.ag_voxel_api_Point rfl (litEv (by kernel_rfl))) rfl (by decide) ?_
 refine lk (v := .agg (tlc ⟨t.lv - 1, ((child t 6).p)⟩).toArray) rfl rfl rfl ?_
 refine plLit (cs := [.int .i64 (t.lv - 1), .int .i64 (((child t 6).p).x), .int .i64 (((child t 6).p).y), .int .i64 (((child t 6).p).z)]) (n := 1) Ty.sl_L_api_Tile hm164 (i := 5) rfl (wn rfl) rfl (by decide) (by decide) (by rw [lit_eval]; kernel_rfl) ?_
 intro g166 w168 hm167
 clear hm164
 try simp only [List.cons_append, List.nil_append, List.set_cons_succ, List.set_cons_zero] at hm167
 refine qP rfl ?_
 refine plApp1 (v := .slice A148 6 c149) (n := 6) (xs := tlsC (chT t 6)) (ys := [.int .i64 (t.lv - 1), .int .i64 (((child t 6).p).x), .int .i64 (((child t 6).p).y), .int .i64 (((child t 6).p).z)]) 3 15 Ty.sl_L_api_Tile hm167 rfl rfl (i := 6) rfl (wn rfl) rfl (litEv (by kernel_rfl)) (litEv (by kernel_rfl)) (by kernel_rfl) (by kernel_rfl) (by decide) (by decide) ?_
 intro v173 w170 hm169
 clear hm167
 try simp only [List.cons_append, List.nil_append, List.set_cons_succ, List.set_cons_zero] at hm169
 replace hm169 := Mem.rowEq (v := v173) (e := 38) (size := 4) (n := 6 + 1) (n' := 7) (xs := (tlsC (chT t 6)) ++ ([.int .i64 (t.lv - 1), .int .i64 (((child t 6).p).x), .int .i64 (((child t 6).p).y), .int .i64 (((child t 6).p).z)])) (xs' := tlsC (chT t 7)) 3 hm169 rfl (rfl) (rfl)
 try simp only [List.cons_append, List.nil_append, List.set_cons_succ, List.set_cons_zero] at hm169
 obtain ⟨A171, c172, rfl⟩ := Mem.rowSl (v := v173) (e := 38) (size := 4) (n := 7) (xs := tlsC (chT t 7)) 3 hm169 rfl
 refine qP rfl ?_
 refine lk (v := .slice A171 7 c172) rfl rfl rfl ?_
 refine plD ?_
 refine inBlock_normal ?_
 refine then_normal (hK153 _ _ ?_)
 refine wpPrune [(2, .pointer (some ⟨g2, 0, none⟩)), (4, .slice none 0 0), (5, .slice A171 7 c172), (6, .int .i64 (mEnc t.p)), (7, .int .i64 6), (8, .pointer (some ⟨g161, 0, none⟩)), (13, .int .i64 8), (14, .int .i64 6), (15, .bool true), (16, .int .i64 6), (17, .tuple #[.agg (pcs ((child t 6).p)).toArray, .bool true]), (18, .int .i64 (mEnc t.p)), (19, .int .i64 6), (20, .agg (tlc ⟨t.lv - 1, t.p⟩).toArray), (21, .int .i64 (c8 t)), (22, .int .i64 (6 * (c8 t))), (23, .int .i64 ((mEnc t.p) + (6 * (c8 t)))), (24, .tuple #[.agg (pcs ((child t 6).p)).toArray, .bool true]), (25, .agg (pcs ((child t 6).p)).toArray), (26, .bool true), (27, .slice A148 6 c149), (28, .pointer (some ⟨g2, 0, none⟩)), (29, .int .i64 (t.lv - 1)), (30, .agg (pcs ((child t 6).p)).toArray), (31, .agg (tlc ⟨t.lv - 1, ((child t 6).p)⟩).toArray), (32, .slice (some ⟨g166, 0, none⟩) 1 1), (33, .slice A171 7 c172), (34, .int .i64 6)] ⟨litGet (by kernel_rfl), ⟨litGet (by kernel_rfl), ⟨litGet (by kernel_rfl), ⟨litGet (by kernel_rfl), ⟨litGet (by kernel_rfl), ⟨litGet (by kernel_rfl), ⟨litGet (by kernel_rfl), ⟨litGet (by kernel_rfl), ⟨litGet (by kernel_rfl), ⟨litGet (by kernel_rfl), ⟨litGet (by kernel_rfl), ⟨litGet (by kernel_rfl), ⟨litGet (by kernel_rfl), ⟨litGet (by kernel_rfl), ⟨litGet (by kernel_rfl), ⟨litGet (by kernel_rfl), ⟨litGet (by kernel_rfl), ⟨litGet (by kernel_rfl), ⟨litGet (by kernel_rfl), ⟨litGet (by kernel_rfl), ⟨litGet (by kernel_rfl), ⟨litGet (by kernel_rfl), ⟨litGet (by kernel_rfl), ⟨litGet (by kernel_rfl), ⟨litGet (by kernel_rfl), ⟨litGet (by kernel_rfl), ⟨litGet (by kernel_rfl), ⟨litGet (by kernel_rfl), trivial⟩⟩⟩⟩⟩⟩⟩⟩⟩⟩⟩⟩⟩⟩⟩⟩⟩⟩⟩⟩⟩⟩⟩⟩⟩⟩⟩⟩ (fun X174 => ?_)
 refine plStart ?_
 refine lk (v := .int .i64 7) rfl rfl rfl ?_
 refine lk (v := .int .i64 7) rfl rfl rfl ?_
 refine plD ?_
 refine then_normal (roundsNext ?_)
 refine wp_seq_k fun K175 hK175 => ?_
 refine plStart ?_
 refine lk (v := .bool true) rfl rfl rfl ?_
 refine plD ?_
 refine then_normal (hK175 _ _ ?_)
 refine wp_seq_k fun K176 hK176 => ?_
 refine wp_cond_true (litEv (by kernel_rfl)) ?_
 refine wp_skip ?_
 refine then_normal (hK176 _ _ ?_)
 refine wp_seq_k fun K177 hK177 => ?_
 refine wp_block ?_
 refine wp_seq_k fun K178 hK178 => ?_
 refine plStart ?_
 refine lk (v := .int .i64 7) rfl rfl rfl ?_
 refine lk (v := .int .i64 7) rfl rfl rfl ?_
 refine plD ?_
 refine then_normal (hK178 _ _ ?_)
 refine wp_seq_k fun K179 hK179 => ?_
 refine plStart ?_
 refine lk (v := .int .i64 (mEnc t.p)) rfl rfl rfl ?_
 refine lk (v := .int .i64 7) rfl rfl rfl ?_
 refine litVal (v := .agg (tlc ⟨t.lv - 1, t.p⟩).toArray) rfl (wn rfl) (gLoadAg (vs := tlc ⟨t.lv - 1, t.p⟩) (k := 0) 0 hm169 rfl (by kernel_rfl) (by kernel_rfl) (.tmp 2) Ty.ag_voxel_api_Tile rfl (litEv (by kernel_rfl))) rfl (by decide) ?_
 refine plCall (i := 3) 74 [.agg (tlc ⟨t.lv - 1, t.p⟩).toArray] [] [] rfl (by kernel_rfl) (wn rfl) rfl (litEv (by kernel_rfl)) (litArgs (by kernel_rfl)) (countC_any h h1 _) ?_
 rintro e w180 ⟨rfl, hbz⟩
 have hm181 := hm169.below hbz
 clear hbz hm169
 refine ⟨_, rfl, ?_⟩
 refine qP rfl ?_
 refine litVal (v := .int .i64 (7 * (c8 t))) rfl (wn rfl) (mulRun (A := 7) (B := (c8 t)) (C := 7 * (c8 t)) (.tmp 19) (.tmp 21) rfl (litEv (by kernel_rfl)) (litEv (by kernel_rfl)) rfl (by omega)) rfl (by decide) ?_
 refine litVal (v := .int .i64 ((mEnc t.p) + (7 * (c8 t)))) rfl (wn rfl) (addRun (A := (mEnc t.p)) (B := (7 * (c8 t))) (C := (mEnc t.p) + (7 * (c8 t))) (.tmp 18) (.tmp 22) rfl (litEv (by kernel_rfl)) (litEv (by kernel_rfl)) rfl (by omega)) rfl (by decide) ?_
 refine plCall (i := 6) 73 [.int .i64 ((mEnc t.p) + (7 * (c8 t)))] [] [] rfl (by kernel_rfl) (wn rfl) rfl (litEv (by kernel_rfl)) (litArgs (by kernel_rfl)) (decodeC_any h h1 (k := 7) (by decide) (by omega) _) ?_
 rintro e w182 ⟨rfl, hbz⟩
 have hm183 := hm181.below hbz
 clear hbz hm181
 refine ⟨_, rfl, ?_⟩
 refine qP rfl ?_
 refine lk (v := .tuple #[.agg (pcs ((child t 7).p)).toArray, .bool true]) rfl rfl rfl ?_
 refine lk (v := .agg (pcs ((child t 7).p)).toArray) rfl rfl rfl ?_
 refine lk (v := .bool true) rfl rfl rfl ?_
 refine plAlloc (z := [.int .i64 0, .int .i64 0, .int .i64 0]) Ty.ag_voxel_api_Point hm183 (i := 10) rfl (wn rfl) rfl ?_
 intro g184 w186 hm185
 clear hm183
 try simp only [List.cons_append, List.nil_append, List.set_cons_succ, List.set_cons_zero] at hm185
 refine qP rfl ?_
 refine plStore 16 Ty.ag_voxel_api_Point hm185 rfl (i := 11) (cs := pcs ((child t 7).p)) rfl (wn rfl) rfl (litEv (by kernel_rfl)) (litEv (by kernel_rfl)) rfl rfl (by kernel_rfl) ?_
 intro w188 hm187
 clear hm185
 try simp only [List.cons_append, List.nil_append, List.set_cons_succ, List.set_cons_zero] at hm187
 refine qNone rfl ?_
 refine lk (v := .bool true) rfl rfl rfl ?_
 refine plD ?_
 refine then_normal (hK179 _ _ ?_)
 refine wpPrune [(2, .pointer (some ⟨g2, 0, none⟩)), (4, .slice none 0 0), (5, .slice A171 7 c172), (6, .int .i64 (mEnc t.p)), (7, .int .i64 7), (8, .pointer (some ⟨g184, 0, none⟩)), (13, .int .i64 8), (14, .int .i64 7), (15, .bool true), (16, .int .i64 7), (17, .tuple #[.agg (pcs ((child t 7).p)).toArray, .bool true]), (18, .int .i64 (mEnc t.p)), (19, .int .i64 7), (20, .agg (tlc ⟨t.lv - 1, t.p⟩).toArray), (21, .int .i64 (c8 t)), (22, .int .i64 (7 * (c8 t))), (23, .int .i64 ((mEnc t.p) + (7 * (c8 t)))), (24, .tuple #[.agg (pcs ((child t 7).p)).toArray, .bool true]), (25, .agg (pcs ((child t 7).p)).toArray), (26, .bool true), (27, .slice A148 6 c149), (28, .pointer (some ⟨g2, 0, none⟩)), (29, .int .i64 (t.lv - 1)), (30, .agg (pcs ((child t 6).p)).toArray), (31, .agg (tlc ⟨t.lv - 1, ((child t 6).p)⟩).toArray), (32, .slice (some ⟨g166, 0, none⟩) 1 1), (33, .slice A171 7 c172), (34, .int .i64 7)] ⟨litGet (by kernel_rfl), ⟨litGet (by kernel_rfl), ⟨litGet (by kernel_rfl), ⟨litGet (by kernel_rfl), ⟨litGet (by kernel_rfl), ⟨litGet (by kernel_rfl), ⟨litGet (by kernel_rfl), ⟨litGet (by kernel_rfl), ⟨litGet (by kernel_rfl), ⟨litGet (by kernel_rfl), ⟨litGet (by kernel_rfl), ⟨litGet (by kernel_rfl), ⟨litGet (by kernel_rfl), ⟨litGet (by kernel_rfl), ⟨litGet (by kernel_rfl), ⟨litGet (by kernel_rfl), ⟨litGet (by kernel_rfl), ⟨litGet (by kernel_rfl), ⟨litGet (by kernel_rfl), ⟨litGet (by kernel_rfl), ⟨litGet (by kernel_rfl), ⟨litGet (by kernel_rfl), ⟨litGet (by kernel_rfl), ⟨litGet (by kernel_rfl), ⟨litGet (by kernel_rfl), ⟨litGet (by kernel_rfl), ⟨litGet (by kernel_rfl), ⟨litGet (by kernel_rfl), trivial⟩⟩⟩⟩⟩⟩⟩⟩⟩⟩⟩⟩⟩⟩⟩⟩⟩⟩⟩⟩⟩⟩⟩⟩⟩⟩⟩⟩ (fun X189 => ?_)
 refine plStart ?_
 refine lk (v := .slice A171 7 c172) rfl rfl rfl ?_
 refine lk (v := .pointer (some ⟨g2, 0, none⟩)) rfl rfl rfl ?_
 refine litVal (v := .int .i64 (t.lv - 1)) rfl (wn rfl) (gLoad (v := .int .i64 (t.lv - 1)) (k := 0) 0 hm187 rfl (by kernel_rfl) (.tmp 28) (by kernel_rfl) rfl (litEv (by kernel_rfl))) rfl (by decide) ?_
 refine litVal (v := .agg (pcs ((child t 7).p)).toArray) rfl (wn rfl) (gLoadAg (vs := pcs ((child t 7).p)) (k := 0) 16 hm187 rfl (by kernel_rfl) (by kernel_rfl) (.tmp 8) Ty.ag_voxel_api_Point rfl (litEv (by kernel_rfl))) rfl (by decide) ?_
 refine lk (v := .agg (tlc ⟨t.lv - 1, ((child t 7).p)⟩).toArray) rfl rfl rfl ?_
 refine plLit (cs := [.int .i64 (t.lv - 1), .int .i64 (((child t 7).p).x), .int .i64 (((child t 7).p).y), .int .i64 (((child t 7).p).z)]) (n := 1) Ty.sl_L_api_Tile hm187 (i := 5) rfl (wn rfl) rfl (by decide) (by decide) (by rw [lit_eval]; kernel_rfl) ?_
 intro g190 w192 hm191
 clear hm187
 try simp only [List.cons_append, List.nil_append, List.set_cons_succ, List.set_cons_zero] at hm191
 refine qP rfl ?_
 refine plApp1 (v := .slice A171 7 c172) (n := 7) (xs := tlsC (chT t 7)) (ys := [.int .i64 (t.lv - 1), .int .i64 (((child t 7).p).x), .int .i64 (((child t 7).p).y), .int .i64 (((child t 7).p).z)]) 3 17 Ty.sl_L_api_Tile hm191 rfl rfl (i := 6) rfl (wn rfl) rfl (litEv (by kernel_rfl)) (litEv (by kernel_rfl)) (by kernel_rfl) (by kernel_rfl) (by decide) (by decide) ?_
 intro v197 w194 hm193
 clear hm191
 try simp only [List.cons_append, List.nil_append, List.set_cons_succ, List.set_cons_zero] at hm193
 replace hm193 := Mem.rowEq (v := v197) (e := 38) (size := 4) (n := 7 + 1) (n' := 8) (xs := (tlsC (chT t 7)) ++ ([.int .i64 (t.lv - 1), .int .i64 (((child t 7).p).x), .int .i64 (((child t 7).p).y), .int .i64 (((child t 7).p).z)])) (xs' := tlsC (chT t 8)) 3 hm193 rfl (rfl) (rfl)
 try simp only [List.cons_append, List.nil_append, List.set_cons_succ, List.set_cons_zero] at hm193
 obtain ⟨A195, c196, rfl⟩ := Mem.rowSl (v := v197) (e := 38) (size := 4) (n := 8) (xs := tlsC (chT t 8)) 3 hm193 rfl
 refine qP rfl ?_
 refine lk (v := .slice A195 8 c196) rfl rfl rfl ?_
 refine plD ?_
 refine inBlock_normal ?_
 refine then_normal (hK177 _ _ ?_)
 refine plStart ?_
 refine lk (v := .int .i64 8) rfl rfl rfl ?_
 refine lk (v := .int .i64 8) rfl rfl rfl ?_
 refine plD ?_
 refine then_normal (roundsNext ?_)
 refine wp_seq_k fun K198 hK198 => ?_
 refine plStart ?_
 refine lk (v := .bool false) rfl rfl rfl ?_
 refine plD ?_
 refine then_normal (hK198 _ _ ?_)
 refine wp_seq_k fun K199 hK199 => ?_
 refine wp_cond_false (litEv (by kernel_rfl)) ?_
 refine wp_exit ?_
 refine then_exit ?_
 refine then_exit ?_
 refine inBlock_exit ?_
 refine then_normal (hK9 _ _ ?_)
 refine wpPrune [(4, .slice none 0 0), (5, .slice A195 8 c196)] ⟨litGet (by kernel_rfl), ⟨litGet (by kernel_rfl), trivial⟩⟩ (fun X200 => ?_)
 refine wp_seq_k fun K201 hK201 => ?_
 refine plStart ?_
 refine lk (v := .slice A195 8 c196) rfl rfl rfl ?_
 refine lk (v := .slice A195 8 c196) rfl rfl rfl ?_
 refine plD ?_
 refine then_normal (hK201 _ _ ?_)
 refine wp_ret ?_
 refine bodyPost_ret (v := .slice A195 8 c196) (gRes1 rfl (gResTmp (t := 4) (v := .slice A195 8 c196) (litGet (by kernel_rfl)))) rfl ?_
 exact ⟨_, rfl, (hm193.row 3 rfl), hm193.bel⟩
set_option maxRecDepth 100000 in
set_option maxHeartbeats 4000000 in
theorem concat_any (l1 l2 l3 : List Tl) (b : Nat) (A1 A2 A3 : Option Addr) (c1 c2 c3 : Nat) (hn : 0 < l1.length + l2.length + l3.length) (hn2 : l1.length + l2.length + l3.length ≤ 100000) (w : World) (hr : Rd w w.heap.size 1 (some ⟨b, 0, none⟩) 3 3 [.slice A1 l1.length c1, .slice A2 l2.length c2, .slice A3 l3.length c3]) (hr1 : Rd w w.heap.size 4 A1 l1.length c1 (tlsC l1)) (hr2 : Rd w w.heap.size 4 A2 l2.length c2 (tlsC l2)) (hr3 : Rd w w.heap.size 4 A3 l3.length c3 (tlsC l3)) : Calls Try.prog 64 #[.slice (some ⟨b, 0, none⟩) 3 3] w (fun e w' => ∃ v, e = .returned v ∧ w'.ownsRow w.heap.size 38 4 v (l1 ++ l2 ++ l3).length (tlsC (l1 ++ l2 ++ l3)) ∧ Below w.heap.size w w') := by
 have hm0 := Mem.nil w
 go_enter Try.func64, Try.ntmps64
 refine litStart 36 [(0, .slice (some ⟨b, 0, none⟩) 3 3)] (by kernel_rfl) (fun X0 => ?_)
 refine wp_seq_k fun K1 hK1 => ?_
 refine plStart ?_
 refine lk (v := .slice none 0 0) rfl rfl rfl ?_
 refine plD ?_
 refine then_normal (hK1 _ _ ?_)
 refine wp_seq_k fun K2 hK2 => ?_
 refine plStart ?_
 refine lk (v := .int .i64 0) rfl rfl rfl ?_
 refine plD ?_
 refine then_normal (hK2 _ _ ?_)
 refine wp_seq_k fun K3 hK3 => ?_
 refine wp_seq_k fun K4 hK4 => ?_
 refine plStart ?_
 refine lk (v := .slice (some ⟨b, 0, none⟩) 3 3) rfl rfl rfl ?_
 refine litVal (v := .int .i64 3) rfl (wn rfl) (lenSlRun (A := some ⟨b, 0, none⟩) (n := 3) (c := 3) (.tmp 9) Ty.und_L_L_api_Tile rfl (litEv (by kernel_rfl))) rfl (by decide) ?_
 refine lk (v := .int .i64 0) rfl rfl rfl ?_
 refine plD ?_
 refine then_normal (hK4 _ _ ?_)
 refine wp_block ?_
 refine roundsStart 3 ?_
 refine wp_seq_k fun K5 hK5 => ?_
 refine plStart ?_
 refine lk (v := .bool true) rfl rfl rfl ?_
 refine plD ?_
 refine then_normal (hK5 _ _ ?_)
 refine wp_seq_k fun K6 hK6 => ?_
 refine wp_cond_true (litEv (by kernel_rfl)) ?_
 refine wp_skip ?_
 refine then_normal (hK6 _ _ ?_)
 refine wp_seq_k fun K7 hK7 => ?_
 refine wp_block ?_
 refine wp_seq_k fun K8 hK8 => ?_
 refine plStart ?_
 refine litVal (v := .pointer (some ⟨b, 0 + 0 * 1, none⟩)) rfl (wn rfl) (gIaSl (b := b) (off := 0) (n := 3) (c := 3) (kk := .i64) (K := 0) (.tmp 9) (.tmp 11) 0 Ty.sl_L_L_api_Tile rfl (litEv (by kernel_rfl)) (litEv (by kernel_rfl)) (rfl) (by decide)) rfl (by decide) ?_
 refine litVal (v := .slice A1 l1.length c1) rfl (wn rfl) (gLoadRd (v := .slice A1 l1.length c1) (m := 0 * 1) ((Rd.below hr hm0.bel).more hm0.bel.size) rfl (rfl) (by decide) (.tmp 13) (by kernel_rfl) rfl (litEv (by kernel_rfl))) rfl (by decide) ?_
 refine lk (v := .slice A1 l1.length c1) rfl rfl rfl ?_
 refine plD ?_
 refine then_normal (hK8 _ _ ?_)
 refine wp_seq_k fun K9 hK9 => ?_
 refine plStart ?_
 refine lk (v := .int .i64 0) rfl rfl rfl ?_
 refine lk (v := .slice A1 l1.length c1) rfl rfl rfl ?_
 refine litVal (v := .int .i64 (l1.length : Int)) rfl (wn rfl) (lenSlRun (A := A1) (n := l1.length) (c := c1) (.tmp 16) Ty.und_L_api_Tile rfl (litEv (by kernel_rfl))) rfl (by decide) ?_
 refine litVal (v := .int .i64 (l1.length : Int)) rfl (wn rfl) (addRun (A := 0) (B := (l1.length : Int)) (C := (l1.length : Int)) (.tmp 15) (.tmp 17) rfl (litEv (by kernel_rfl)) (litEv (by kernel_rfl)) (by omega) (by omega)) rfl (by decide) ?_
 refine lk (v := .int .i64 (l1.length : Int)) rfl rfl rfl ?_
 refine plD ?_
 refine then_normal (hK9 _ _ ?_)
 refine wp_seq_k fun K10 hK10 => ?_
 refine plStart ?_
 refine lk (v := .int .i64 (l1.length : Int)) rfl rfl rfl ?_
 refine litVal (v := .bool false) rfl (wn rfl) (boolTo (decide_eq_false (show ¬ (l1.length : Int) < 0 by omega)) (lssRun (A := (l1.length : Int)) (B := 0) (.tmp 19) (.const (.int .i64 0)) rfl (litEv (by kernel_rfl)) (litEv (by kernel_rfl)))) rfl (by decide) ?_
 refine plD ?_
 refine then_normal (hK10 _ _ ?_)
 refine wp_cond_false (litEv (by kernel_rfl)) ?_
 refine wp_skip ?_
 refine inBlock_normal ?_
 refine then_normal (hK7 _ _ ?_)
 refine plStart ?_
 refine lk (v := .int .i64 1) rfl rfl rfl ?_
 refine lk (v := .int .i64 1) rfl rfl rfl ?_
 refine plD ?_
 refine then_normal (roundsNext ?_)
 refine wp_seq_k fun K11 hK11 => ?_
 refine plStart ?_
 refine lk (v := .bool true) rfl rfl rfl ?_
 refine plD ?_
 refine then_normal (hK11 _ _ ?_)
 refine wp_seq_k fun K12 hK12 => ?_
 refine wp_cond_true (litEv (by kernel_rfl)) ?_
 refine wp_skip ?_
 refine then_normal (hK12 _ _ ?_)
 refine wp_seq_k fun K13 hK13 => ?_
 refine wp_block ?_
 refine wp_seq_k fun K14 hK14 => ?_
 refine plStart ?_
 refine litVal (v := .pointer (some ⟨b, 0 + 1 * 1, none⟩)) rfl (wn rfl) (gIaSl (b := b) (off := 0) (n := 3) (c := 3) (kk := .i64) (K := 1) (.tmp 9) (.tmp 11) 1 Ty.sl_L_L_api_Tile rfl (litEv (by kernel_rfl)) (litEv (by kernel_rfl)) (rfl) (by decide)) rfl (by decide) ?_
 refine litVal (v := .slice A2 l2.length c2) rfl (wn rfl) (gLoadRd (v := .slice A2 l2.length c2) (m := 1 * 1) ((Rd.below hr hm0.bel).more hm0.bel.size) rfl (rfl) (by decide) (.tmp 13) (by kernel_rfl) rfl (litEv (by kernel_rfl))) rfl (by decide) ?_
 refine lk (v := .slice A2 l2.length c2) rfl rfl rfl ?_
 refine plD ?_
 refine then_normal (hK14 _ _ ?_)
 refine wp_seq_k fun K15 hK15 => ?_
 refine plStart ?_
 refine lk (v := .int .i64 (l1.length : Int)) rfl rfl rfl ?_
 refine lk (v := .slice A2 l2.length c2) rfl rfl rfl ?_
 refine litVal (v := .int .i64 (l2.length : Int)) rfl (wn rfl) (lenSlRun (A := A2) (n := l2.length) (c := c2) (.tmp 16) Ty.und_L_api_Tile rfl (litEv (by kernel_rfl))) rfl (by decide) ?_
 refine litVal (v := .int .i64 ((l1.length + l2.length : Nat) : Int)) rfl (wn rfl) (addRun (A := (l1.length : Int)) (B := (l2.length : Int)) (C := ((l1.length + l2.length : Nat) : Int)) (.tmp 15) (.tmp 17) rfl (litEv (by kernel_rfl)) (litEv (by kernel_rfl)) (by omega) (by omega)) rfl (by decide) ?_
 refine lk (v := .int .i64 ((l1.length + l2.length : Nat) : Int)) rfl rfl rfl ?_
 refine plD ?_
 refine then_normal (hK15 _ _ ?_)
 refine wp_seq_k fun K16 hK16 => ?_
 refine plStart ?_
 refine lk (v := .int .i64 ((l1.length + l2.length : Nat) : Int)) rfl rfl rfl ?_
 refine litVal (v := .bool false) rfl (wn rfl) (boolTo (decide_eq_false (show ¬ ((l1.length + l2.length : Nat) : Int) < 0 by omega)) (lssRun (A := ((l1.length + l2.length : Nat) : Int)) (B := 0) (.tmp 19) (.const (.int .i64 0)) rfl (litEv (by kernel_rfl)) (litEv (by kernel_rfl)))) rfl (by decide) ?_
 refine plD ?_
 refine then_normal (hK16 _ _ ?_)
 refine wpPrune [(0, .slice (some ⟨b, 0, none⟩) 3 3), (2, .slice none 0 0), (3, .int .i64 ((l1.length + l2.length : Nat) : Int)), (5, .slice A2 l2.length c2), (9, .slice (some ⟨b, 0, none⟩) 3 3), (10, .int .i64 3), (11, .int .i64 1), (12, .bool true), (13, .pointer (some ⟨b, 0 + 1 * 1, none⟩)), (14, .slice A2 l2.length c2), (15, .int .i64 (l1.length : Int)), (16, .slice A2 l2.length c2), (17, .int .i64 (l2.length : Int)), (18, .int .i64 ((l1.length + l2.length : Nat) : Int)), (19, .int .i64 ((l1.length + l2.length : Nat) : Int)), (20, .bool false), (22, .int .i64 1)] ⟨litGet (by kernel_rfl), ⟨litGet (by kernel_rfl), ⟨litGet (by kernel_rfl), ⟨litGet (by kernel_rfl), ⟨litGet (by kernel_rfl), ⟨litGet (by kernel_rfl), ⟨litGet (by kernel_rfl), ⟨litGet (by kernel_rfl), ⟨litGet (by kernel_rfl), ⟨litGet (by kernel_rfl), ⟨litGet (by kernel_rfl), ⟨litGet (by kernel_rfl), ⟨litGet (by kernel_rfl), ⟨litGet (by kernel_rfl), ⟨litGet (by kernel_rfl), ⟨litGet (by kernel_rfl), ⟨litGet (by kernel_rfl), trivial⟩⟩⟩⟩⟩⟩⟩⟩⟩⟩⟩⟩⟩⟩⟩⟩⟩ (fun X17 => ?_)
 refine wp_cond_false (litEv (by kernel_rfl)) ?_
 refine wp_skip ?_
 refine inBlock_normal ?_
 refine then_normal (hK13 _ _ ?_)
 refine plStart ?_
 refine lk (v := .int .i64 2) rfl rfl rfl ?_
 refine lk (v := .int .i64 2) rfl rfl rfl ?_
 refine plD ?_
 refine then_normal (roundsNext ?_)
 refine wp_seq_k fun K18 hK18 => ?_
 refine plStart ?_
 refine lk (v := .bool true) rfl rfl rfl ?_
 refine plD ?_
 refine then_normal (hK18 _ _ ?_)
 refine wp_seq_k fun K19 hK19 => ?_
 refine wp_cond_true (litEv (by kernel_rfl)) ?_
 refine wp_skip ?_
 refine then_normal (hK19 _ _ ?_)
 refine wp_seq_k fun K20 hK20 => ?_
 refine wp_block ?_
 refine wp_seq_k fun K21 hK21 => ?_
 refine plStart ?_
 refine litVal (v := .pointer (some ⟨b, 0 + 2 * 1, none⟩)) rfl (wn rfl) (gIaSl (b := b) (off := 0) (n := 3) (c := 3) (kk := .i64) (K := 2) (.tmp 9) (.tmp 11) 2 Ty.sl_L_L_api_Tile rfl (litEv (by kernel_rfl)) (litEv (by kernel_rfl)) (rfl) (by decide)) rfl (by decide) ?_
 refine litVal (v := .slice A3 l3.length c3) rfl (wn rfl) (gLoadRd (v := .slice A3 l3.length c3) (m := 2 * 1) ((Rd.below hr hm0.bel).more hm0.bel.size) rfl (rfl) (by decide) (.tmp 13) (by kernel_rfl) rfl (litEv (by kernel_rfl))) rfl (by decide) ?_
 refine lk (v := .slice A3 l3.length c3) rfl rfl rfl ?_
 refine plD ?_
 refine then_normal (hK21 _ _ ?_)
 refine wp_seq_k fun K22 hK22 => ?_
 refine plStart ?_
 refine lk (v := .int .i64 ((l1.length + l2.length : Nat) : Int)) rfl rfl rfl ?_
 refine lk (v := .slice A3 l3.length c3) rfl rfl rfl ?_
 refine litVal (v := .int .i64 (l3.length : Int)) rfl (wn rfl) (lenSlRun (A := A3) (n := l3.length) (c := c3) (.tmp 16) Ty.und_L_api_Tile rfl (litEv (by kernel_rfl))) rfl (by decide) ?_
 refine litVal (v := .int .i64 ((l1.length + l2.length + l3.length : Nat) : Int)) rfl (wn rfl) (addRun (A := ((l1.length + l2.length : Nat) : Int)) (B := (l3.length : Int)) (C := ((l1.length + l2.length + l3.length : Nat) : Int)) (.tmp 15) (.tmp 17) rfl (litEv (by kernel_rfl)) (litEv (by kernel_rfl)) (by omega) (by omega)) rfl (by decide) ?_
 refine lk (v := .int .i64 ((l1.length + l2.length + l3.length : Nat) : Int)) rfl rfl rfl ?_
 refine plD ?_
 refine then_normal (hK22 _ _ ?_)
 refine wp_seq_k fun K23 hK23 => ?_
 refine plStart ?_
 refine lk (v := .int .i64 ((l1.length + l2.length + l3.length : Nat) : Int)) rfl rfl rfl ?_
 refine litVal (v := .bool false) rfl (wn rfl) (boolTo (decide_eq_false (show ¬ ((l1.length + l2.length + l3.length : Nat) : Int) < 0 by omega)) (lssRun (A := ((l1.length + l2.length + l3.length : Nat) : Int)) (B := 0) (.tmp 19) (.const (.int .i64 0)) rfl (litEv (by kernel_rfl)) (litEv (by kernel_rfl)))) rfl (by decide) ?_
 refine plD ?_
 refine then_normal (hK23 _ _ ?_)
 refine wpPrune [(0, .slice (some ⟨b, 0, none⟩) 3 3), (2, .slice none 0 0), (3, .int .i64 ((l1.length + l2.length + l3.length : Nat) : Int)), (5, .slice A3 l3.length c3), (9, .slice (some ⟨b, 0, none⟩) 3 3), (10, .int .i64 3), (11, .int .i64 2), (12, .bool true), (13, .pointer (some ⟨b, 0 + 2 * 1, none⟩)), (14, .slice A3 l3.length c3), (15, .int .i64 ((l1.length + l2.length : Nat) : Int)), (16, .slice A3 l3.length c3), (17, .int .i64 (l3.length : Int)), (18, .int .i64 ((l1.length + l2.length + l3.length : Nat) : Int)), (19, .int .i64 ((l1.length + l2.length + l3.length : Nat) : Int)), (20, .bool false), (22, .int .i64 2)] ⟨litGet (by kernel_rfl), ⟨litGet (by kernel_rfl), ⟨litGet (by kernel_rfl), ⟨litGet (by kernel_rfl), ⟨litGet (by kernel_rfl), ⟨litGet (by kernel_rfl), ⟨litGet (by kernel_rfl), ⟨litGet (by kernel_rfl), ⟨litGet (by kernel_rfl), ⟨litGet (by kernel_rfl), ⟨litGet (by kernel_rfl), ⟨litGet (by kernel_rfl), ⟨litGet (by kernel_rfl), ⟨litGet (by kernel_rfl), ⟨litGet (by kernel_rfl), ⟨litGet (by kernel_rfl), ⟨litGet (by kernel_rfl), trivial⟩⟩⟩⟩⟩⟩⟩⟩⟩⟩⟩⟩⟩⟩⟩⟩⟩ (fun X24 => ?_)
 refine wp_cond_false (litEv (by kernel_rfl)) ?_
 refine wp_skip ?_
 refine inBlock_normal ?_
 refine then_normal (hK20 _ _ ?_)
 refine plStart ?_
 refine lk (v := .int .i64 3) rfl rfl rfl ?_
 refine lk (v := .int .i64 3) rfl rfl rfl ?_
 refine plD ?_
 refine then_normal (roundsNext ?_)
 refine wp_seq_k fun K25 hK25 => ?_
 refine plStart ?_
 refine lk (v := .bool false) rfl rfl rfl ?_
 refine plD ?_
 refine then_normal (hK25 _ _ ?_)
 refine wp_seq_k fun K26 hK26 => ?_
 refine wp_cond_false (litEv (by kernel_rfl)) ?_
 refine wp_exit ?_
 refine then_exit ?_
 refine then_exit ?_
 refine inBlock_exit ?_
 refine then_normal (hK3 _ _ ?_)
 refine wpPrune [(0, .slice (some ⟨b, 0, none⟩) 3 3), (2, .slice none 0 0), (3, .int .i64 ((l1.length + l2.length + l3.length : Nat) : Int))] ⟨litGet (by kernel_rfl), ⟨litGet (by kernel_rfl), ⟨litGet (by kernel_rfl), trivial⟩⟩⟩ (fun X27 => ?_)
 refine wp_seq_k fun K28 hK28 => ?_
 refine plStart ?_
 refine lk (v := .int .i64 ((l1.length + l2.length + l3.length : Nat) : Int)) rfl rfl rfl ?_
 refine plCall (i := 1) 71 [.slice none 0 0, .int .i64 ((l1.length + l2.length + l3.length : Nat) : Int)] [] [] rfl (by kernel_rfl) (wn rfl) rfl (litEv (by kernel_rfl)) (litArgs (by kernel_rfl)) (grow_any (l1.length + l2.length + l3.length) (by omega) (by omega) _) ?_
 rintro e w29 ⟨v31, rfl, hown_, hbz⟩
 obtain ⟨A32, c33, rfl, hrd_⟩ := Rd.of_own hown_
 clear hrd_
 replace hown_ : World.ownsRow w29 _ 38 4 _ 0 ([]) := hown_
 have hm30 := hm0.newRow hbz hown_
 clear hown_ hbz
 clear hm0
 try simp only [List.cons_append, List.nil_append, List.set_cons_succ, List.set_cons_zero] at hm30
 refine ⟨_, rfl, ?_⟩
 refine qP rfl ?_
 refine lk (v := .slice A32 0 c33) rfl rfl rfl ?_
 refine plD ?_
 refine then_normal (hK28 _ _ ?_)
 refine wp_seq_k fun K34 hK34 => ?_
 refine wp_seq_k fun K35 hK35 => ?_
 refine plStart ?_
 refine lk (v := .slice (some ⟨b, 0, none⟩) 3 3) rfl rfl rfl ?_
 refine litVal (v := .int .i64 3) rfl (wn rfl) (lenSlRun (A := some ⟨b, 0, none⟩) (n := 3) (c := 3) (.tmp 25) Ty.und_L_L_api_Tile rfl (litEv (by kernel_rfl))) rfl (by decide) ?_
 refine lk (v := .int .i64 0) rfl rfl rfl ?_
 refine plD ?_
 refine then_normal (hK35 _ _ ?_)
 refine wp_block ?_
 refine roundsStart 3 ?_
 refine wp_seq_k fun K36 hK36 => ?_
 refine plStart ?_
 refine lk (v := .bool true) rfl rfl rfl ?_
 refine plD ?_
 refine then_normal (hK36 _ _ ?_)
 refine wp_seq_k fun K37 hK37 => ?_
 refine wp_cond_true (litEv (by kernel_rfl)) ?_
 refine wp_skip ?_
 refine then_normal (hK37 _ _ ?_)
 refine wp_seq_k fun K38 hK38 => ?_
 refine wp_block ?_
 refine wp_seq_k fun K39 hK39 => ?_
 refine plStart ?_
 refine litVal (v := .pointer (some ⟨b, 0 + 0 * 1, none⟩)) rfl (wn rfl) (gIaSl (b := b) (off := 0) (n := 3) (c := 3) (kk := .i64) (K := 0) (.tmp 25) (.tmp 27) 0 Ty.sl_L_L_api_Tile rfl (litEv (by kernel_rfl)) (litEv (by kernel_rfl)) (rfl) (by decide)) rfl (by decide) ?_
 refine litVal (v := .slice A1 l1.length c1) rfl (wn rfl) (gLoadRd (v := .slice A1 l1.length c1) (m := 0 * 1) ((Rd.below hr hm30.bel).more hm30.bel.size) rfl (rfl) (by decide) (.tmp 29) (by kernel_rfl) rfl (litEv (by kernel_rfl))) rfl (by decide) ?_
 refine lk (v := .slice A1 l1.length c1) rfl rfl rfl ?_
 refine plD ?_
 refine then_normal (hK39 _ _ ?_)
 refine plStart ?_
 refine lk (v := .slice A32 0 c33) rfl rfl rfl ?_
 refine lk (v := .slice A1 l1.length c1) rfl rfl rfl ?_
 refine plAppR (v := .slice A32 0 c33) (n := 0) (xs := []) (ys := tlsC l1) (A := A1) (m := l1.length) (c := c1) 0 Ty.sl_L_api_Tile hm30 rfl ((Rd.below hr1 hm30.bel).more hm30.bel.size) (i := 2) rfl (wn rfl) rfl (litEv (by kernel_rfl)) (litEv (by kernel_rfl)) (tlsC_one l1) (by first | omega | (simp only [List.length_append]; omega)) (by first | omega | (simp only [List.length_append]; omega)) ?_
 intro v44 w41 hm40
 clear hm30
 try simp only [List.cons_append, List.nil_append, List.set_cons_succ, List.set_cons_zero] at hm40
 replace hm40 := Mem.rowEq (v := v44) (e := 38) (size := 4) (n := 0 + l1.length) (n' := l1.length) (xs := ([]) ++ (tlsC l1)) (xs' := tlsC l1) 0 hm40 rfl (Nat.zero_add _) (rfl)
 try simp only [List.cons_append, List.nil_append, List.set_cons_succ, List.set_cons_zero] at hm40
 obtain ⟨A42, c43, rfl⟩ := Mem.rowSl (v := v44) (e := 38) (size := 4) (n := l1.length) (xs := tlsC l1) 0 hm40 rfl
 refine qP rfl ?_
 refine lk (v := .slice A42 l1.length c43) rfl rfl rfl ?_
 refine plD ?_
 refine inBlock_normal ?_
 refine then_normal (hK38 _ _ ?_)
 refine plStart ?_
 refine lk (v := .int .i64 1) rfl rfl rfl ?_
 refine lk (v := .int .i64 1) rfl rfl rfl ?_
 refine plD ?_
 refine then_normal (roundsNext ?_)
 refine wp_seq_k fun K45 hK45 => ?_
 refine plStart ?_
 refine lk (v := .bool true) rfl rfl rfl ?_
 refine plD ?_
 refine then_normal (hK45 _ _ ?_)
 refine wp_seq_k fun K46 hK46 => ?_
 refine wp_cond_true (litEv (by kernel_rfl)) ?_
 refine wp_skip ?_
 refine then_normal (hK46 _ _ ?_)
 refine wp_seq_k fun K47 hK47 => ?_
 refine wp_block ?_
 refine wp_seq_k fun K48 hK48 => ?_
 refine plStart ?_
 refine litVal (v := .pointer (some ⟨b, 0 + 1 * 1, none⟩)) rfl (wn rfl) (gIaSl (b := b) (off := 0) (n := 3) (c := 3) (kk := .i64) (K := 1) (.tmp 25) (.tmp 27) 1 Ty.sl_L_L_api_Tile rfl (litEv (by kernel_rfl)) (litEv (by kernel_rfl)) (rfl) (by decide)) rfl (by decide) ?_
 refine litVal (v := .slice A2 l2.length c2) rfl (wn rfl) (gLoadRd (v := .slice A2 l2.length c2) (m := 1 * 1) ((Rd.below hr hm40.bel).more hm40.bel.size) rfl (rfl) (by decide) (.tmp 29) (by kernel_rfl) rfl (litEv (by kernel_rfl))) rfl (by decide) ?_
 refine lk (v := .slice A2 l2.length c2) rfl rfl rfl ?_
 refine plD ?_
 refine then_normal (hK48 _ _ ?_)
 refine plStart ?_
 refine lk (v := .slice A42 l1.length c43) rfl rfl rfl ?_
 refine lk (v := .slice A2 l2.length c2) rfl rfl rfl ?_
 refine plAppR (v := .slice A42 l1.length c43) (n := l1.length) (xs := tlsC l1) (ys := tlsC l2) (A := A2) (m := l2.length) (c := c2) 0 Ty.sl_L_api_Tile hm40 rfl ((Rd.below hr2 hm40.bel).more hm40.bel.size) (i := 2) rfl (wn rfl) rfl (litEv (by kernel_rfl)) (litEv (by kernel_rfl)) (tlsC_one l2) (by first | omega | (simp only [List.length_append]; omega)) (by first | omega | (simp only [List.length_append]; omega)) ?_
 intro v53 w50 hm49
 clear hm40
 try simp only [List.cons_append, List.nil_append, List.set_cons_succ, List.set_cons_zero] at hm49
 replace hm49 := Mem.rowEq (v := v53) (e := 38) (size := 4) (n := l1.length + l2.length) (n' := (l1 ++ l2).length) (xs := (tlsC l1) ++ (tlsC l2)) (xs' := tlsC (l1 ++ l2)) 0 hm49 rfl (by simp only [List.length_append]) ((tlsC_app _ _).symm)
 try simp only [List.cons_append, List.nil_append, List.set_cons_succ, List.set_cons_zero] at hm49
 obtain ⟨A51, c52, rfl⟩ := Mem.rowSl (v := v53) (e := 38) (size := 4) (n := (l1 ++ l2).length) (xs := tlsC (l1 ++ l2)) 0 hm49 rfl
 refine qP rfl ?_
 refine lk (v := .slice A51 ((l1 ++ l2).length) c52) rfl rfl rfl ?_
 refine plD ?_
 refine inBlock_normal ?_
 refine then_normal (hK47 _ _ ?_)
 refine wpPrune [(2, .slice none 0 0), (6, .slice A51 ((l1 ++ l2).length) c52), (8, .slice A2 l2.length c2), (25, .slice (some ⟨b, 0, none⟩) 3 3), (26, .int .i64 3), (27, .int .i64 1), (28, .bool true), (29, .pointer (some ⟨b, 0 + 1 * 1, none⟩)), (30, .slice A2 l2.length c2), (31, .slice A42 l1.length c43), (32, .slice A2 l2.length c2), (33, .slice A51 ((l1 ++ l2).length) c52), (34, .int .i64 1)] ⟨litGet (by kernel_rfl), ⟨litGet (by kernel_rfl), ⟨litGet (by kernel_rfl), ⟨litGet (by kernel_rfl), ⟨litGet (by kernel_rfl), ⟨litGet (by kernel_rfl), ⟨litGet (by kernel_rfl), ⟨litGet (by kernel_rfl), ⟨litGet (by kernel_rfl), ⟨litGet (by kernel_rfl), ⟨litGet (by kernel_rfl), ⟨litGet (by kernel_rfl), ⟨litGet (by kernel_rfl), trivial⟩⟩⟩⟩⟩⟩⟩⟩⟩⟩⟩⟩⟩ (fun X54 => ?_)
 refine plStart ?_
 refine lk (v := .int .i64 2) rfl rfl rfl ?_
 refine lk (v := .int .i64 2) rfl rfl rfl ?_
 refine plD ?_
 refine then_normal (roundsNext ?_)
 refine wp_seq_k fun K55 hK55 => ?_
 refine plStart ?_
 refine lk (v := .bool true) rfl rfl rfl ?_
 refine plD ?_
 refine then_normal (hK55 _ _ ?_)
 refine wp_seq_k fun K56 hK56 => ?_
 refine wp_cond_true (litEv (by kernel_rfl)) ?_
 refine wp_skip ?_
 refine then_normal (hK56 _ _ ?_)
 refine wp_seq_k fun K57 hK57 => ?_
 refine wp_block ?_
 refine wp_seq_k fun K58 hK58 => ?_
 refine plStart ?_
 refine litVal (v := .pointer (some ⟨b, 0 + 2 * 1, none⟩)) rfl (wn rfl) (gIaSl (b := b) (off := 0) (n := 3) (c := 3) (kk := .i64) (K := 2) (.tmp 25) (.tmp 27) 2 Ty.sl_L_L_api_Tile rfl (litEv (by kernel_rfl)) (litEv (by kernel_rfl)) (rfl) (by decide)) rfl (by decide) ?_
 refine litVal (v := .slice A3 l3.length c3) rfl (wn rfl) (gLoadRd (v := .slice A3 l3.length c3) (m := 2 * 1) ((Rd.below hr hm49.bel).more hm49.bel.size) rfl (rfl) (by decide) (.tmp 29) (by kernel_rfl) rfl (litEv (by kernel_rfl))) rfl (by decide) ?_
 refine lk (v := .slice A3 l3.length c3) rfl rfl rfl ?_
 refine plD ?_
 refine then_normal (hK58 _ _ ?_)
 refine plStart ?_
 refine lk (v := .slice A51 ((l1 ++ l2).length) c52) rfl rfl rfl ?_
 refine lk (v := .slice A3 l3.length c3) rfl rfl rfl ?_
 refine plAppR (v := .slice A51 ((l1 ++ l2).length) c52) (n := (l1 ++ l2).length) (xs := tlsC (l1 ++ l2)) (ys := tlsC l3) (A := A3) (m := l3.length) (c := c3) 0 Ty.sl_L_api_Tile hm49 rfl ((Rd.below hr3 hm49.bel).more hm49.bel.size) (i := 2) rfl (wn rfl) rfl (litEv (by kernel_rfl)) (litEv (by kernel_rfl)) (tlsC_one l3) (by first | omega | (simp only [List.length_append]; omega)) (by first | omega | (simp only [List.length_append]; omega)) ?_
 intro v63 w60 hm59
 clear hm49
 try simp only [List.cons_append, List.nil_append, List.set_cons_succ, List.set_cons_zero] at hm59
 replace hm59 := Mem.rowEq (v := v63) (e := 38) (size := 4) (n := ((l1 ++ l2).length) + l3.length) (n' := (l1 ++ l2 ++ l3).length) (xs := (tlsC (l1 ++ l2)) ++ (tlsC l3)) (xs' := tlsC (l1 ++ l2 ++ l3)) 0 hm59 rfl (by simp only [List.length_append]) ((tlsC_app _ _).symm)
 try simp only [List.cons_append, List.nil_append, List.set_cons_succ, List.set_cons_zero] at hm59
 obtain ⟨A61, c62, rfl⟩ := Mem.rowSl (v := v63) (e := 38) (size := 4) (n := (l1 ++ l2 ++ l3).length) (xs := tlsC (l1 ++ l2 ++ l3)) 0 hm59 rfl
 refine qP rfl ?_
 refine lk (v := .slice A61 ((l1 ++ l2 ++ l3).length) c62) rfl rfl rfl ?_
 refine plD ?_
 refine inBlock_normal ?_
 refine then_normal (hK57 _ _ ?_)
 refine plStart ?_
 refine lk (v := .int .i64 3) rfl rfl rfl ?_
 refine lk (v := .int .i64 3) rfl rfl rfl ?_
 refine plD ?_
 refine then_normal (roundsNext ?_)
 refine wp_seq_k fun K64 hK64 => ?_
 refine plStart ?_
 refine lk (v := .bool false) rfl rfl rfl ?_
 refine plD ?_
 refine then_normal (hK64 _ _ ?_)
 refine wpPrune [(2, .slice none 0 0), (6, .slice A61 ((l1 ++ l2 ++ l3).length) c62), (8, .slice A3 l3.length c3), (25, .slice (some ⟨b, 0, none⟩) 3 3), (26, .int .i64 3), (27, .int .i64 3), (28, .bool false), (29, .pointer (some ⟨b, 0 + 2 * 1, none⟩)), (30, .slice A3 l3.length c3), (31, .slice A51 ((l1 ++ l2).length) c52), (32, .slice A3 l3.length c3), (33, .slice A61 ((l1 ++ l2 ++ l3).length) c62), (34, .int .i64 3)] ⟨litGet (by kernel_rfl), ⟨litGet (by kernel_rfl), ⟨litGet (by kernel_rfl), ⟨litGet (by kernel_rfl), ⟨litGet (by kernel_rfl), ⟨litGet (by kernel_rfl), ⟨litGet (by kernel_rfl), ⟨litGet (by kernel_rfl), ⟨litGet (by kernel_rfl), ⟨litGet (by kernel_rfl), ⟨litGet (by kernel_rfl), ⟨litGet (by kernel_rfl), ⟨litGet (by kernel_rfl), trivial⟩⟩⟩⟩⟩⟩⟩⟩⟩⟩⟩⟩⟩ (fun X65 => ?_)
 refine wp_seq_k fun K66 hK66 => ?_
 refine wp_cond_false (litEv (by kernel_rfl)) ?_
 refine wp_exit ?_
 refine then_exit ?_
 refine then_exit ?_
 refine inBlock_exit ?_
 refine then_normal (hK34 _ _ ?_)
 refine wp_seq_k fun K67 hK67 => ?_
 refine plStart ?_
 refine lk (v := .slice A61 ((l1 ++ l2 ++ l3).length) c62) rfl rfl rfl ?_
 refine lk (v := .slice A61 ((l1 ++ l2 ++ l3).length) c62) rfl rfl rfl ?_
 refine plD ?_
 refine then_normal (hK67 _ _ ?_)
 refine wpPrune [(2, .slice A61 ((l1 ++ l2 ++ l3).length) c62)] ⟨litGet (by kernel_rfl), trivial⟩ (fun X68 => ?_)
 refine wp_ret ?_
 refine bodyPost_ret (v := .slice A61 ((l1 ++ l2 ++ l3).length) c62) (gRes1 rfl (gResTmp (t := 2) (v := .slice A61 ((l1 ++ l2 ++ l3).length) c62) (litGet (by kernel_rfl)))) rfl ?_
 exact ⟨_, rfl, (hm59.row 0 rfl), hm59.bel⟩
end Go.Proofs.Ytkmhjgdpkddbnaa
namespace Go.Proofs.Ytkmhjgdpkddbnaa
open Go.RowKit
set_option linter.unusedVariables false
set_option linter.unusedSimpArgs false
theorem splitT_len (t : Tl) : (splitT t).length = 8 := by simp [splitT]
set_option maxRecDepth 100000 in
set_option maxHeartbeats 4000000 in
theorem split_blk (l : List Tl) (k : Nat) (t : Tl) (b off c : Nat) (w : World) (hr : Rd w w.heap.size 4 (some ⟨b, off, none⟩) l.length c (tlsC l)) (hk : l[k]? = some t) (ht : t.Ok) (h1 : 1 ≤ t.lv) (hlen : l.length + 7 ≤ 4096) : Calls Try.prog 49 #[.slice (some ⟨b, off, none⟩) l.length c, .int .i64 (k : Int)] w (fun e w' => ∃ v, e = .returned (.tuple #[v, .int .i64 0]) ∧ w'.ownsRow w.heap.size 38 4 v (splitAt l k).length (tlsC (splitAt l k)) ∧ Below w.heap.size w w') := by
 have hkl : k < l.length := (List.getElem?_eq_some_iff.1 hk).1
 have hl12_ := ht.lv
 have hlk : (l.take k).length = k := by rw [List.length_take]; omega
 obtain ⟨A1, hr1, hs1⟩ := sliceH_eq (V := (l.take k).length) Ty.sl_L_api_Tile hr (by omega)
 obtain ⟨A3, hr3, hs3⟩ := sliceL_eq (V := k + 1) Ty.sl_L_api_Tile hr (by omega)
 rw [hlk, tlsC_tk] at hr1
 rw [tlsC_dp] at hr3
 rw [show l.length - (k + 1) = (l.drop (k + 1)).length from (List.length_drop).symm] at hr3 hs3
 replace hr1 : Rd w w.heap.size 4 A1 (l.take k).length c (tlsC (l.take k)) := by rw [hlk]; exact hr1
 have hm0 := Mem.nil w
 go_enter Try.func49, Try.ntmps49
 refine litStart 50 [(0, .slice (some ⟨b, off, none⟩) l.length c), (1, .int .i64 (k : Int))] (by kernel_rfl) (fun X0 => ?_)
 refine wp_seq_k fun K1 hK1 => ?_
 refine plStart ?_
 refine lk (v := .slice none 0 0) rfl rfl rfl ?_
 refine lk (v := .int .i64 0) rfl rfl rfl ?_
 refine plD ?_
 refine then_normal (hK1 _ _ ?_)
 refine wp_seq_k fun K2 hK2 => ?_
 refine wp_block ?_
 refine wp_seq_k fun K3 hK3 => ?_
 refine plStart ?_
 refine lk (v := .int .i64 (k : Int)) rfl rfl rfl ?_
 refine litVal (v := .bool false) rfl (wn rfl) (boolTo (decide_eq_false (show ¬ (k : Int) < 0 by omega)) (lssRun (A := (k : Int)) (B := 0) (.tmp 7) (.const (.int .i64 0)) rfl (litEv (by kernel_rfl)) (litEv (by kernel_rfl)))) rfl (by decide) ?_
 refine lk (v := .bool false) rfl rfl rfl ?_
 refine litVal (v := .int .i64 (k : Int)) rfl (wgY rfl rfl rfl (by decide) (by kernel_rfl)) (litRun (by kernel_rfl)) rfl (by decide) ?_
 refine litVal (v := .slice (some ⟨b, off, none⟩) l.length c) rfl (wgY rfl rfl rfl (by decide) (by kernel_rfl)) (litRun (by kernel_rfl)) rfl (by decide) ?_
 refine litVal (v := .int .i64 (l.length : Int)) rfl (wgY rfl rfl rfl (by decide) (by kernel_rfl)) (lenSlRun (A := some ⟨b, off, none⟩) (n := l.length) (c := c) (.tmp 11) Ty.und_L_api_Tile rfl (litEv (by kernel_rfl))) rfl (by decide) ?_
 refine litVal (v := .bool false) rfl (wgY rfl rfl rfl (by decide) (by kernel_rfl)) (boolTo (decide_eq_false (show ¬ (l.length : Int) ≤ (k : Int) by omega)) (gGeq (A := (k : Int)) (B := (l.length : Int)) (.tmp 10) (.tmp 12) rfl (litEv (by kernel_rfl)) (litEv (by kernel_rfl)))) rfl (by decide) ?_
 refine lk (v := .bool false) rfl rfl rfl ?_
 refine lk (v := .bool false) rfl rfl rfl ?_
 refine litVal (v := .slice (some ⟨b, off, none⟩) l.length c) rfl (wgY rfl rfl rfl (by decide) (by kernel_rfl)) (litRun (by kernel_rfl)) rfl (by decide) ?_
 refine litVal (v := .int .i64 (k : Int)) rfl (wgY rfl rfl rfl (by decide) (by kernel_rfl)) (litRun (by kernel_rfl)) rfl (by decide) ?_
 refine litVal (v := .pointer (some ⟨b, off + k * 4, none⟩)) rfl (wgY rfl rfl rfl (by decide) (by kernel_rfl)) (gIaSl (b := b) (off := off) (n := l.length) (c := c) (kk := .i64) (K := (k : Int)) (.tmp 16) (.tmp 17) k Ty.sl_L_api_Tile rfl (litEv (by kernel_rfl)) (litEv (by kernel_rfl)) (rfl) (by omega)) rfl (by decide) ?_
 refine litVal (v := .pointer (some ⟨b, off + k * 4, none⟩)) rfl (wgY rfl rfl rfl (by decide) (by kernel_rfl)) (litRun (by kernel_rfl)) rfl (by decide) ?_
 refine litVal (v := .int .i64 t.lv) rfl (wgY rfl rfl rfl (by decide) (by kernel_rfl)) (gLoadRd (v := .int .i64 t.lv) (m := k * 4) ((Rd.below hr hm0.bel).more hm0.bel.size) rfl (tlsC_get hk 0 _ rfl) (by omega) (.tmp 19) (by kernel_rfl) rfl (litEv (by kernel_rfl))) rfl (by decide) ?_
 refine litVal (v := .bool false) rfl (wgY rfl rfl rfl (by decide) (by kernel_rfl)) (boolTo (decide_eq_false (show ¬ t.lv = 0 by omega)) (eqlRun (A := t.lv) (B := 0) (.tmp 20) (.const (.int .i64 0)) rfl (litEv (by kernel_rfl)) (litEv (by kernel_rfl)))) rfl (by decide) ?_
 refine lk (v := .bool false) rfl rfl rfl ?_
 refine lk (v := .bool false) rfl rfl rfl ?_
 refine plD ?_
 refine then_normal (hK3 _ _ ?_)
 refine wpPrune [(0, .slice (some ⟨b, off, none⟩) l.length c), (1, .int .i64 (k : Int)), (4, .slice none 0 0), (5, .int .i64 0), (6, .bool false)] ⟨litGet (by kernel_rfl), ⟨litGet (by kernel_rfl), ⟨litGet (by kernel_rfl), ⟨litGet (by kernel_rfl), ⟨litGet (by kernel_rfl), trivial⟩⟩⟩⟩⟩ (fun X4 => ?_)
 refine wp_cond_false (litEv (by kernel_rfl)) ?_
 refine wp_seq_k fun K5 hK5 => ?_
 refine plStart ?_
 refine lk (v := .slice (some ⟨b, off, none⟩) l.length c) rfl rfl rfl ?_
 refine litVal (v := .int .i64 (l.length : Int)) rfl (wn rfl) (lenSlRun (A := some ⟨b, off, none⟩) (n := l.length) (c := c) (.tmp 24) Ty.und_L_api_Tile rfl (litEv (by kernel_rfl))) rfl (by decide) ?_
 refine litVal (v := .int .i64 ((l.length : Int) + 7)) rfl (wn rfl) (addRun (A := (l.length : Int)) (B := 7) (C := (l.length : Int) + 7) (.tmp 25) (.const (.int .i64 7)) rfl (litEv (by kernel_rfl)) (litEv (by kernel_rfl)) rfl (by omega)) rfl (by decide) ?_
 refine litVal (v := .bool false) rfl (wn rfl) (boolTo (decide_eq_false (show ¬ 4096 < ((l.length : Int) + 7) by omega)) (gtrRun (A := ((l.length : Int) + 7)) (B := 4096) (.tmp 26) (.const (.int .i64 4096)) rfl (litEv (by kernel_rfl)) (litEv (by kernel_rfl)))) rfl (by decide) ?_
 refine lk (v := .bool false) rfl rfl rfl ?_
 refine plD ?_
 refine then_normal (hK5 _ _ ?_)
 refine wp_cond_false (litEv (by kernel_rfl)) ?_
 refine wp_skip ?_
 refine inBlock_normal ?_
 refine then_normal (hK2 _ _ ?_)
 refine wp_seq_k fun K6 hK6 => ?_
 refine mgStart hm0 (by kernel_rfl) ?_
 intro w8 hm7
 clear hm0
 refine mk_ (i := 0) (v := .slice (some ⟨b, off, none⟩) l.length c) rfl rfl (fun _ _ _ h => h) hm7 rfl ?_
 refine mk_ (i := 1) (v := .int .i64 (k : Int)) rfl rfl (fun _ _ _ h => h) hm7 rfl ?_
 refine mgTake (i := 2) (v := .slice A1 ((l.take k).length) c) rfl (by kernel_rfl) (wn rfl) (fun _ _ _ h => h) hm7 (fun w_ h_ => sliceHRun (k := (k : Int)) (.tmp 28) (.tmp 29) hs1 rfl (litEv (by kernel_rfl)) (litEv (by kernel_rfl)) (by omega)) ?_
 refine mP rfl ?_
 refine mk_ (i := 3) (v := .slice (some ⟨b, off, none⟩) l.length c) rfl rfl (fun _ _ _ h => h) hm7 rfl ?_
 refine mk_ (i := 4) (v := .int .i64 (k : Int)) rfl rfl (fun _ _ _ h => h) hm7 rfl ?_
 refine mgTake (i := 5) (v := .pointer (some ⟨b, off + k * 4, none⟩)) rfl (by kernel_rfl) (wn rfl) (fun _ _ _ h => h) hm7 (fun w_ h_ => gIaSl (b := b) (off := off) (n := l.length) (c := c) (kk := .i64) (K := (k : Int)) (.tmp 31) (.tmp 32) k Ty.sl_L_api_Tile rfl (litEv (by kernel_rfl)) (litEv (by kernel_rfl)) (rfl) (by omega)) ?_
 refine mP rfl ?_
 refine mk_ (i := 6) (v := .pointer (some ⟨b, off + k * 4, none⟩)) rfl rfl (fun _ _ _ h => h) hm7 rfl ?_
 refine mgTake (i := 7) (v := .int .i64 t.lv) rfl (by kernel_rfl) (wn rfl) (fun _ _ _ h => h) hm7 (fun w_ h_ => gLoadRd (v := .int .i64 t.lv) (m := k * 4) ((Rd.below hr h_.bel).more h_.bel.size) rfl (tlsC_get hk 0 _ rfl) (by omega) (.tmp 34) (by kernel_rfl) rfl (litEv (by kernel_rfl))) ?_
 refine mP rfl ?_
 refine mgTake (i := 8) (v := .int .i64 (t.lv - 1)) rfl (by kernel_rfl) (wn rfl) (fun _ _ _ h => h) hm7 (fun w_ h_ => subRun (A := t.lv) (B := 1) (C := t.lv - 1) (.tmp 35) (.const (.int .i64 1)) rfl (litEv (by kernel_rfl)) (litEv (by kernel_rfl)) rfl (by omega)) ?_
 refine mP rfl ?_
 refine mk_ (i := 9) (v := .slice (some ⟨b, off, none⟩) l.length c) rfl rfl (fun _ _ _ h => h) hm7 rfl ?_
 refine mk_ (i := 10) (v := .int .i64 (k : Int)) rfl rfl (fun _ _ _ h => h) hm7 rfl ?_
 refine mgTake (i := 11) (v := .pointer (some ⟨b, off + k * 4, none⟩)) rfl (by kernel_rfl) (wn rfl) (fun _ _ _ h => h) hm7 (fun w_ h_ => gIaSl (b := b) (off := off) (n := l.length) (c := c) (kk := .i64) (K := (k : Int)) (.tmp 37) (.tmp 38) k Ty.sl_L_api_Tile rfl (litEv (by kernel_rfl)) (litEv (by kernel_rfl)) (rfl) (by omega)) ?_
 refine mP rfl ?_
 refine mk_ (i := 12) (v := .pointer (some ⟨b, off + k * 4 + 1, none⟩)) rfl rfl (fun _ _ _ h => h) hm7 rfl ?_
 refine mgTake (i := 13) (v := .agg (pcs t.p).toArray) rfl (by kernel_rfl) (wn rfl) (fun _ _ _ h => h) hm7 (fun w_ h_ => gLoadAgRd (vs := pcs t.p) (m := k * 4 + 1) ((Rd.below hr h_.bel).more h_.bel.size) rfl (fun i_ u_ hu_ => by have := tlsC_get hk (1 + i_) u_ (by rw [Nat.add_comm]; exact hu_); rw [← Nat.add_assoc] at this; exact this) (by kernel_rfl) (by omega) (.tmp 40) Ty.ag_voxel_api_Point rfl (litEv (by kernel_rfl))) ?_
 refine mP rfl ?_
 refine mk_ (i := 14) (v := .agg (tlc ⟨t.lv - 1, t.p⟩).toArray) rfl rfl (fun _ _ _ h => h) hm7 rfl ?_
 refine mk_ (i := 16) (v := .slice (some ⟨b, off, none⟩) l.length c) rfl rfl (fun _ _ _ h => h) hm7 rfl ?_
 refine mk_ (i := 17) (v := .int .i64 (k : Int)) rfl rfl (fun _ _ _ h => h) hm7 rfl ?_
 refine mgTake (i := 18) (v := .int .i64 ((k : Int) + 1)) rfl (by kernel_rfl) (wn rfl) (fun _ _ _ h => h) hm7 (fun w_ h_ => addRun (A := (k : Int)) (B := 1) (C := (k : Int) + 1) (.tmp 45) (.const (.int .i64 1)) rfl (litEv (by kernel_rfl)) (litEv (by kernel_rfl)) rfl (by omega)) ?_
 refine mP rfl ?_
 refine mgTake (i := 19) (v := .slice A3 ((l.drop (k + 1)).length) (c - (k + 1))) rfl (by kernel_rfl) (wn rfl) (fun _ _ _ h => h) hm7 (fun w_ h_ => sliceLRun (k := (k : Int) + 1) (.tmp 44) (.tmp 46) hs3 rfl (litEv (by kernel_rfl)) (litEv (by kernel_rfl)) (by omega)) ?_
 refine mP rfl ?_
 refine mgCall (i := 15) 65 [.agg (tlc ⟨t.lv - 1, t.p⟩).toArray, .int .i64 8] [] [] (by kernel_rfl) rfl (by kernel_rfl) (wn rfl) rfl (litEv (by kernel_rfl)) (litArgs (by kernel_rfl)) (row8_any t ht h1 _) ?_
 rintro e w9 ⟨v11, rfl, hown_, hbz⟩
 obtain ⟨A12, c13, rfl, hrd_⟩ := Rd.of_own hown_
 clear hrd_
 replace hown_ : World.ownsRow w9 _ 38 4 _ 8 (tlsC (splitT t)) := hown_
 have hm10 := hm7.newRow hbz hown_
 clear hown_ hbz
 try simp only [List.cons_append, List.nil_append, List.set_cons_succ, List.set_cons_zero] at hm10
 refine ⟨_, rfl, (hm10.sub (.cons _ .slnil)), ?_⟩
 refine mgMore (L' := [.row (.slice A12 8 c13) 38 4 8 (tlsC (splitT t))]) (fun w_ h_ => (h_.sub (.cons _ .slnil))) ?_
 refine mP rfl ?_
 refine mgLit (cs := [.slice A1 ((l.take k).length) c, .slice A12 8 c13, .slice A3 ((l.drop (k + 1)).length) (c - (k + 1))]) (n := 3) Ty.sl_L_L_api_Tile hm10 (i := 20) (by kernel_rfl) rfl (wn rfl) rfl (by decide) (by decide) (by rw [lit_eval]; kernel_rfl) ?_
 intro g14 w16 hm15
 clear hm10
 try simp only [List.cons_append, List.nil_append, List.set_cons_succ, List.set_cons_zero] at hm15 ⊢
 refine mP rfl ?_
 refine mgCall (i := 21) 64 [.slice (some ⟨g14, 0, none⟩) 3 3] [] [] (by kernel_rfl) rfl (by kernel_rfl) (wn rfl) rfl (litEv (by kernel_rfl)) (litArgs (by kernel_rfl)) (concat_any (l.take k) (splitT t) (l.drop (k + 1)) g14 A1 A12 A3 c c13 (c - (k + 1)) (by rw [splitT_len]; omega) (by rw [splitT_len, List.length_take, List.length_drop]; omega) _ (Rd.of_arr (t := 29) (cs := [.slice A1 ((l.take k).length) c, .slice A12 8 c13, .slice A3 ((l.drop (k + 1)).length) (c - (k + 1))]) (hm15.arr 1 (by kernel_rfl)) (by kernel_rfl) (of_decide_eq_true (by kernel_rfl))) ((Rd.below hr1 hm15.bel).more hm15.bel.size) (hm15.rdRow 0 rfl) ((Rd.below hr3 hm15.bel).more hm15.bel.size)) ?_
 rintro e w17 ⟨v19, rfl, hown_, hbz⟩
 obtain ⟨A20, c21, rfl, hrd_⟩ := Rd.of_own hown_
 clear hrd_
 replace hown_ : World.ownsRow w17 _ 38 4 _ ((l.take k ++ splitT t ++ l.drop (k + 1)).length) (tlsC (l.take k ++ splitT t ++ l.drop (k + 1))) := hown_
 have hm18 := hm15.newRow hbz hown_
 clear hown_ hbz
 try simp only [List.cons_append, List.nil_append, List.set_cons_succ, List.set_cons_zero] at hm18
 refine ⟨_, rfl, (hm18.sub (.cons_cons _ (.cons_cons _ (.cons _ .slnil)))), ?_⟩
 refine mgMore (L' := [.row (.slice A12 8 c13) 38 4 8 (tlsC (splitT t)), .arr g14 29 ([.slice A1 ((l.take k).length) c, .slice A12 8 c13, .slice A3 ((l.drop (k + 1)).length) (c - (k + 1))]), .row (.slice A20 ((l.take k ++ splitT t ++ l.drop (k + 1)).length) c21) 38 4 ((l.take k ++ splitT t ++ l.drop (k + 1)).length) (tlsC (l.take k ++ splitT t ++ l.drop (k + 1)))]) (fun w_ h_ => (h_.sub (.cons_cons _ (.cons_cons _ (.cons _ .slnil))))) ?_
 refine mP rfl ?_
 refine mk_ (i := 22) (v := .slice A20 ((l.take k ++ splitT t ++ l.drop (k + 1)).length) c21) rfl rfl (fun _ _ _ h => h) hm18 rfl ?_
 refine mk_ (i := 23) (v := .int .i64 0) rfl rfl (fun _ _ _ h => h) hm18 rfl ?_
 refine mgDone (by kernel_rfl) ?_
 refine then_normal (hK6 _ _ ?_)
 refine wpPrune [(4, .slice A20 ((l.take k ++ splitT t ++ l.drop (k + 1)).length) c21), (5, .int .i64 0)] ⟨litGet (by kernel_rfl), ⟨litGet (by kernel_rfl), trivial⟩⟩ (fun X22 => ?_)
 refine wp_ret ?_
 refine bodyPost_ret (v := .tuple #[.slice A20 ((l.take k ++ splitT t ++ l.drop (k + 1)).length) c21, .int .i64 0]) (gRes2 rfl (gResTmp (t := 4) (v := .slice A20 ((l.take k ++ splitT t ++ l.drop (k + 1)).length) c21) (litGet (by kernel_rfl))) (gResTmp (t := 5) (v := .int .i64 0) (litGet (by kernel_rfl)))) rfl ?_
 exact ⟨_, rfl, by unfold splitAt; rw [hk]; exact hm18.row 2 rfl, hm18.bel⟩
theorem split_any (l : List Tl) (k : Nat) (t : Tl) (A : Option Addr) (c : Nat) (w : World) (hr : Rd w w.heap.size 4 A l.length c (tlsC l)) (hk : l[k]? = some t) (ht : t.Ok) (h1 : 1 ≤ t.lv) (hlen : l.length + 7 ≤ 4096) :
    Calls Try.prog 49 #[.slice A l.length c, .int .i64 (k : Int)] w (fun e w' => ∃ v, e = .returned (.tuple #[v, .int .i64 0]) ∧ w'.ownsRow w.heap.size 38 4 v (splitAt l k).length (tlsC (splitAt l k)) ∧ Below w.heap.size w w') := by
  have hkl : k < l.length := (List.getElem?_eq_some_iff.1 hk).1
  obtain ⟨b, off, rfl, _, _⟩ := hr.cells (by omega)
  exact split_blk l k t b off c w hr hk ht h1 hlen
theorem split1_any (t : Tl) (A : Option Addr) (c : Nat) (w : World) (hr : Rd w w.heap.size 4 A 1 c (tlsC [t])) (ht : t.Ok) (h1 : 1 ≤ t.lv) :
    Calls Try.prog 49 #[.slice A 1 c, .int .i64 0] w (fun e w' => ∃ v, e = .returned (.tuple #[v, .int .i64 0]) ∧ w'.ownsRow w.heap.size 38 4 v 8 (tlsC (splitT t)) ∧ Below w.heap.size w w') := by
  have h2 := split_any [t] 0 t A c w hr rfl ht h1 (by simp)
  have e : splitAt [t] 0 = splitT t := by simp [splitAt]
  rw [e, splitT_len] at h2
  exact h2
set_option maxRecDepth 100000 in
set_option maxHeartbeats 4000000 in
theorem eight_any (t : Tl) (h : t.Ok) (h1 : 1 ≤ t.lv) (w : World) : Calls Try.prog 63 #[.agg (tlc t).toArray] w (fun e w' => ∃ v, e = .returned v ∧ w'.ownsRow w.heap.size 38 4 v 8 (tlsC (splitT t)) ∧ Below w.heap.size w w') := by
 have hm0 := Mem.nil w
 go_enter Try.func63, Try.ntmps63
 refine litStart 12 [(0, .agg (tlc t).toArray)] (by kernel_rfl) (fun X0 => ?_)
 refine wp_seq_k fun K1 hK1 => ?_
 refine plStart ?_
 refine plBox hm0 (cs := tlc t) (i := 0) rfl (wn rfl) rfl (litEv (by kernel_rfl)) ?_
 intro g2 w4 hm3
 clear hm0
 try simp only [List.cons_append, List.nil_append, List.set_cons_succ, List.set_cons_zero] at hm3
 refine qP rfl ?_
 refine lk (v := .slice none 0 0) rfl rfl rfl ?_
 refine plD ?_
 refine then_normal (hK1 _ _ ?_)
 refine wp_seq_k fun K5 hK5 => ?_
 refine plStart ?_
 refine litVal (v := .agg (tlc t).toArray) rfl (wn rfl) (gLoadAg (vs := tlc t) (k := 0) 0 hm3 rfl (by kernel_rfl) (by kernel_rfl) (.tmp 1) Ty.ag_voxel_api_Tile rfl (litEv (by kernel_rfl))) rfl (by decide) ?_
 refine plLit (cs := [.int .i64 t.lv, .int .i64 t.p.x, .int .i64 t.p.y, .int .i64 t.p.z]) (n := 1) Ty.sl_L_api_Tile hm3 (i := 1) rfl (wn rfl) rfl (by decide) (by decide) (by rw [lit_eval]; kernel_rfl) ?_
 intro g6 w8 hm7
 clear hm3
 try simp only [List.cons_append, List.nil_append, List.set_cons_succ, List.set_cons_zero] at hm7
 refine qP rfl ?_
 refine plCall (i := 2) 49 [.slice (some ⟨g6, 0, none⟩) 1 1, .int .i64 0] [] [] rfl (by kernel_rfl) (wn rfl) rfl (litEv (by kernel_rfl)) (litArgs (by kernel_rfl)) (split1_any t _ _ _ (Rd.of_arr (t := 38) (cs := tlsC [t]) (hm7.arr 1 (by kernel_rfl)) (by kernel_rfl) (of_decide_eq_true (by kernel_rfl))) h h1) ?_
 rintro e w9 ⟨v11, rfl, hown_, hbz⟩
 obtain ⟨A12, c13, rfl, hrd_⟩ := Rd.of_own hown_
 clear hrd_
 replace hown_ : World.ownsRow w9 _ 38 4 _ 8 (tlsC (splitT t)) := hown_
 have hm10 := hm7.newRow hbz hown_
 clear hown_ hbz
 clear hm7
 try simp only [List.cons_append, List.nil_append, List.set_cons_succ, List.set_cons_zero] at hm10
 refine ⟨_, rfl, ?_⟩
 refine qP rfl ?_
 refine lk (v := .tuple #[.slice A12 8 c13, .int .i64 0]) rfl rfl rfl ?_
 refine lk (v := .slice A12 8 c13) rfl rfl rfl ?_
 refine lk (v := .int .i64 0) rfl rfl rfl ?_
 refine lk (v := .slice A12 8 c13) rfl rfl rfl ?_
 refine lk (v := .int .i64 0) rfl rfl rfl ?_
 refine plD ?_
 refine then_normal (hK5 _ _ ?_)
 refine wp_seq_k fun K14 hK14 => ?_
 refine plStart ?_
 refine lk (v := .slice A12 8 c13) rfl rfl rfl ?_
 refine lk (v := .slice A12 8 c13) rfl rfl rfl ?_
 refine plD ?_
 refine then_normal (hK14 _ _ ?_)
 refine wp_ret ?_
 refine bodyPost_ret (v := .slice A12 8 c13) (gRes1 rfl (gResTmp (t := 2) (v := .slice A12 8 c13) (litGet (by kernel_rfl)))) rfl ?_
 exact ⟨_, rfl, (hm10.row 2 rfl), hm10.bel⟩
end Go.Proofs.Ytkmhjgdpkddbnaa
