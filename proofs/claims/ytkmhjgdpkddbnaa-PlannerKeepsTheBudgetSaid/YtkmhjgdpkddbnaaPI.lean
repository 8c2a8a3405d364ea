/-
  PI: several texts in one. No statement is proved here.
-/
import Derived.Test.YtkmhjgdpkddbnaaPC
import Derived.Test.YtkmhjgdpkddbnaaPH
set_option linter.unusedVariables false
set_option linter.unusedSimpArgs false
namespace Go.Proofs.Ytkmhjgdpkddbnaa
theorem totalP_take {f : Tl → Int} {l : List Tl} {k : Nat} {t : Tl} (h : l[k]? = some t) : totalP f (l.take (k + 1)) = totalP f (l.take k) + f t := by
  rw [List.take_add_one, h, totalP_app]
  simp [totalP]
/-- Whether the k-th tile can be split. -/
def splitsP (f : Tl → Int) (v : Vw) (l : List Tl) (k : Nat) (t : Tl) : Prop := 0 < t.lv ∧ v.tol < err v t ∧ l.length + 7 ≤ 4096 ∧ totalP f (splitAt l k) ≤ v.bud
instance (f : Tl → Int) (v : Vw) (l : List Tl) (k : Nat) (t : Tl) : Decidable (splitsP f v l k t) := by unfold splitsP; infer_instance
end Go.Proofs.Ytkmhjgdpkddbnaa
namespace Go.Proofs.Ytkmhjgdpkddbnaa
open Go.RowKit
set_option linter.unusedVariables false
set_option linter.unusedSimpArgs false
theorem rdecodeK_any {k : Nat} (hk : k < 8) {e : Int} (he : e = (k : Int)) (w : World) : Calls Try.prog 42 #[.int .i64 e] w (RetV w (.tuple #[.agg (pcs (octP k)).toArray, .bool true])) := by
  have hd := refDecode_any e w
  subst he
  have e2 : mDec (k : Int) = (octP k, true) := by
    unfold mDec
    rw [if_pos ⟨by omega, by omega⟩, Int.toNat_natCast, mDecP_small hk]
  rw [e2] at hd
  exact hd
theorem chT_len (t : Tl) (i : Nat) : (chT t i).length = i := by simp [chT]
theorem chT_snoc (t : Tl) (i : Nat) : chT t (i + 1) = chT t i ++ [child t i] := by unfold chT; rw [List.range_succ]; simp
theorem tls_ch (l : List Tl) (t : Tl) (i : Nat) : tlsC (l ++ chT t i) ++ tlc (child t i) = tlsC (l ++ chT t (i + 1)) := by
  rw [chT_snoc, ← List.append_assoc, ← tlsC_snoc]
theorem oct_mul {a S : Int} (ha : 0 ≤ a ∧ a ≤ 1) (hS : 4 ≤ S ∧ S ≤ 16384) : 0 ≤ a * S ∧ a * S ≤ 16384 := by
  rcases (by omega : a = 0 ∨ a = 1) with rfl | rfl <;> omega
set_option maxRecDepth 100000 in
set_option maxHeartbeats 4000000 in
theorem rsplit_blk (l : List Tl) (k : Nat) (t : Tl) (b off c : Nat) (w : World) (hr : Rd w w.heap.size 4 (some ⟨b, off, none⟩) l.length c (tlsC l)) (hk : l[k]? = some t) (ht : t.Ok) (h1 : 1 ≤ t.lv) (hlen : l.length + 7 ≤ 4096) : Calls Try.prog 21 #[.slice (some ⟨b, off, none⟩) l.length c, .int .i64 (k : Int)] w (fun e w' => ∃ v, e = .returned (.tuple #[v, .int .i64 0]) ∧ w'.ownsRow w.heap.size 38 4 v (splitAt l k).length (tlsC (splitAt l k)) ∧ Below w.heap.size w w') := by
 have hkl : k < l.length := (List.getElem?_eq_some_iff.1 hk).1
 have hl12_ := ht.lv
 have hlk : (l.take k).length = k := by rw [List.length_take]; omega
 obtain ⟨A1, hr1, hs1⟩ := sliceH_eq (V := (l.take k).length) Ty.sl_L_api_Tile hr (by omega)
 obtain ⟨A3, hr3, hs3⟩ := sliceL_eq (V := k + 1) Ty.sl_L_api_Tile hr (by omega)
 rw [hlk, tlsC_tk] at hr1
 rw [tlsC_dp] at hr3
 rw [show l.length - (k + 1) = (l.drop (k + 1)).length from (List.length_drop).symm] at hr3 hs3
 replace hr1 : Rd w w.heap.size 4 A1 (l.take k).length c (tlsC (l.take k)) := by rw [hlk]; exact hr1
 have hsl_ : 0 ≤ t.lv - 1 ∧ t.lv - 1 ≤ 12 := by omega
 have hsb_ := side_bd hsl_
 have hin_ := ht.inP
 unfold Pt.In at hin_
 have hp_ : (-1073741824 ≤ t.p.x ∧ t.p.x ≤ 1073741824) ∧ (-1073741824 ≤ t.p.y ∧ t.p.y ≤ 1073741824) ∧ (-1073741824 ≤ t.p.z ∧ t.p.z ≤ 1073741824) := by omega
 have hm0_ : ∀ i : Nat, (0 ≤ (octP i).x * sideL (t.lv - 1) ∧ (octP i).x * sideL (t.lv - 1) ≤ 16384) ∧ (0 ≤ (octP i).y * sideL (t.lv - 1) ∧ (octP i).y * sideL (t.lv - 1) ≤ 16384) ∧ (0 ≤ (octP i).z * sideL (t.lv - 1) ∧ (octP i).z * sideL (t.lv - 1) ≤ 16384) := fun i => by
   have ho := octP_bd i
   refine ⟨oct_mul ho.1 hsb_, oct_mul ho.2.1 hsb_, oct_mul ho.2.2 hsb_⟩
 have hm_ : ∀ i : Nat, (-9223372036854775808 ≤ (octP i).x * sideL (t.lv - 1) ∧ (octP i).x * sideL (t.lv - 1) ≤ 9223372036854775807) ∧ (-9223372036854775808 ≤ (octP i).y * sideL (t.lv - 1) ∧ (octP i).y * sideL (t.lv - 1) ≤ 9223372036854775807) ∧ (-9223372036854775808 ≤ (octP i).z * sideL (t.lv - 1) ∧ (octP i).z * sideL (t.lv - 1) ≤ 9223372036854775807) := fun i => by have := hm0_ i; omega
 have ha_ : ∀ i : Nat, (-1073741824 ≤ ((octP i).mul (sideL (t.lv - 1))).x ∧ ((octP i).mul (sideL (t.lv - 1))).x ≤ 1073741824) ∧ (-1073741824 ≤ ((octP i).mul (sideL (t.lv - 1))).y ∧ ((octP i).mul (sideL (t.lv - 1))).y ≤ 1073741824) ∧ (-1073741824 ≤ ((octP i).mul (sideL (t.lv - 1))).z ∧ ((octP i).mul (sideL (t.lv - 1))).z ≤ 1073741824) := fun i => by have := hm0_ i; unfold Pt.mul; simp only; omega
 have hm0 := Mem.nil w
 go_enter Try.func21, Try.ntmps21
 refine litStart 73 [(0, .slice (some ⟨b, off, none⟩) l.length c), (1, .int .i64 (k : Int))] (by kernel_rfl) (fun X0 => ?_)
 refine wp_seq_k fun K1 hK1 => ?_
 refine plStart ?_
 refine lk (v := .slice none 0 0) rfl rfl rfl ?_
 refine lk (v := .int .i64 0) rfl rfl rfl ?_
 refine plD ?_
 refine then_normal (hK1 _ _ ?_)
 refine wp_seq_k fun K2 hK2 => ?_
 refine wp_seq_k fun K3 hK3 => ?_
 refine plStart ?_
 refine lk (v := .int .i64 (k : Int)) rfl rfl rfl ?_
 refine litVal (v := .bool false) rfl (wn rfl) (boolTo (decide_eq_false (show ¬ (k : Int) < 0 by omega)) (lssRun (A := (k : Int)) (B := 0) (.tmp 11) (.const (.int .i64 0)) rfl (litEv (by kernel_rfl)) (litEv (by kernel_rfl)))) rfl (by decide) ?_
 refine lk (v := .bool false) rfl rfl rfl ?_
 refine litVal (v := .int .i64 (k : Int)) rfl (wgY rfl rfl rfl (by decide) (by kernel_rfl)) (litRun (by kernel_rfl)) rfl (by decide) ?_
 refine litVal (v := .slice (some ⟨b, off, none⟩) l.length c) rfl (wgY rfl rfl rfl (by decide) (by kernel_rfl)) (litRun (by kernel_rfl)) rfl (by decide) ?_
 refine litVal (v := .int .i64 (l.length : Int)) rfl (wgY rfl rfl rfl (by decide) (by kernel_rfl)) (lenSlRun (A := some ⟨b, off, none⟩) (n := l.length) (c := c) (.tmp 15) Ty.und_L_api_Tile rfl (litEv (by kernel_rfl))) rfl (by decide) ?_
 refine litVal (v := .bool false) rfl (wgY rfl rfl rfl (by decide) (by kernel_rfl)) (boolTo (decide_eq_false (show ¬ (l.length : Int) ≤ (k : Int) by omega)) (gGeq (A := (k : Int)) (B := (l.length : Int)) (.tmp 14) (.tmp 16) rfl (litEv (by kernel_rfl)) (litEv (by kernel_rfl)))) rfl (by decide) ?_
 refine lk (v := .bool false) rfl rfl rfl ?_
 refine lk (v := .bool false) rfl rfl rfl ?_
 refine litVal (v := .slice (some ⟨b, off, none⟩) l.length c) rfl (wgY rfl rfl rfl (by decide) (by kernel_rfl)) (litRun (by kernel_rfl)) rfl (by decide) ?_
 refine litVal (v := .int .i64 (k : Int)) rfl (wgY rfl rfl rfl (by decide) (by kernel_rfl)) (litRun (by kernel_rfl)) rfl (by decide) ?_
 refine litVal (v := .pointer (some ⟨b, off + k * 4, none⟩)) rfl (wgY rfl rfl rfl (by decide) (by kernel_rfl)) (gIaSl (b := b) (off := off) (n := l.length) (c := c) (kk := .i64) (K := (k : Int)) (.tmp 20) (.tmp 21) k Ty.sl_L_api_Tile rfl (litEv (by kernel_rfl)) (litEv (by kernel_rfl)) (rfl) (by omega)) rfl (by decide) ?_
 refine litVal (v := .pointer (some ⟨b, off + k * 4, none⟩)) rfl (wgY rfl rfl rfl (by decide) (by kernel_rfl)) (litRun (by kernel_rfl)) rfl (by decide) ?_
 refine litVal (v := .int .i64 t.lv) rfl (wgY rfl rfl rfl (by decide) (by kernel_rfl)) (gLoadRd (v := .int .i64 t.lv) (m := k * 4) ((Rd.below hr hm0.bel).more hm0.bel.size) rfl (tlsC_get hk 0 _ rfl) (by omega) (.tmp 23) (by kernel_rfl) rfl (litEv (by kernel_rfl))) rfl (by decide) ?_
 refine litVal (v := .bool false) rfl (wgY rfl rfl rfl (by decide) (by kernel_rfl)) (boolTo (decide_eq_false (show ¬ t.lv = 0 by omega)) (eqlRun (A := t.lv) (B := 0) (.tmp 24) (.const (.int .i64 0)) rfl (litEv (by kernel_rfl)) (litEv (by kernel_rfl)))) rfl (by decide) ?_
 refine lk (v := .bool false) rfl rfl rfl ?_
 refine plD ?_
 refine then_normal (hK3 _ _ ?_)
 refine wpPrune [(0, .slice (some ⟨b, off, none⟩) l.length c), (1, .int .i64 (k : Int)), (4, .slice none 0 0), (5, .int .i64 0), (26, .bool false)] ⟨litGet (by kernel_rfl), ⟨litGet (by kernel_rfl), ⟨litGet (by kernel_rfl), ⟨litGet (by kernel_rfl), ⟨litGet (by kernel_rfl), trivial⟩⟩⟩⟩⟩ (fun X4 => ?_)
 refine wp_cond_false (litEv (by kernel_rfl)) ?_
 refine wp_skip ?_
 refine then_normal (hK2 _ _ ?_)
 refine wp_seq_k fun K5 hK5 => ?_
 refine wp_seq_k fun K6 hK6 => ?_
 refine plStart ?_
 refine lk (v := .slice (some ⟨b, off, none⟩) l.length c) rfl rfl rfl ?_
 refine litVal (v := .int .i64 (l.length : Int)) rfl (wn rfl) (lenSlRun (A := some ⟨b, off, none⟩) (n := l.length) (c := c) (.tmp 27) Ty.und_L_api_Tile rfl (litEv (by kernel_rfl))) rfl (by decide) ?_
 refine litVal (v := .int .i64 ((l.length : Int) + 7)) rfl (wn rfl) (addRun (A := (l.length : Int)) (B := 7) (C := (l.length : Int) + 7) (.tmp 28) (.const (.int .i64 7)) rfl (litEv (by kernel_rfl)) (litEv (by kernel_rfl)) rfl (by omega)) rfl (by decide) ?_
 refine litVal (v := .bool false) rfl (wn rfl) (boolTo (decide_eq_false (show ¬ 4096 < ((l.length : Int) + 7) by omega)) (gtrRun (A := ((l.length : Int) + 7)) (B := 4096) (.tmp 29) (.const (.int .i64 4096)) rfl (litEv (by kernel_rfl)) (litEv (by kernel_rfl)))) rfl (by decide) ?_
 refine plD ?_
 refine then_normal (hK6 _ _ ?_)
 refine wp_cond_false (litEv (by kernel_rfl)) ?_
 refine wp_skip ?_
 refine then_normal (hK5 _ _ ?_)
 refine wp_seq_k fun K7 hK7 => ?_
 refine plStart ?_
 refine lk (v := .slice none 0 0) rfl rfl rfl ?_
 refine plD ?_
 refine then_normal (hK7 _ _ ?_)
 refine wp_seq_k fun K8 hK8 => ?_
 refine plStart ?_
 refine lk (v := .slice none 0 0) rfl rfl rfl ?_
 refine lk (v := .slice (some ⟨b, off, none⟩) l.length c) rfl rfl rfl ?_
 refine lk (v := .int .i64 (k : Int)) rfl rfl rfl ?_
 refine litVal (i := 3) (v := .slice A1 ((l.take k).length) c) rfl (wn rfl) (sliceHRun (k := (k : Int)) (.tmp 32) (.tmp 33) hs1 rfl (litEv (by kernel_rfl)) (litEv (by kernel_rfl)) (by omega)) rfl (by decide) ?_
 have hm9 := Mem.nilRow hm0 38 4
 clear hm0
 try simp only [List.cons_append, List.nil_append, List.set_cons_succ, List.set_cons_zero] at hm9
 refine plAppR (v := .slice none 0 0) (n := 0) (xs := []) (ys := tlsC (l.take k)) (A := A1) (m := (l.take k).length) (c := c) 0 Ty.sl_L_api_Tile hm9 rfl ((Rd.below hr1 hm9.bel).more hm9.bel.size) (i := 4) rfl (wn rfl) rfl (litEv (by kernel_rfl)) (litEv (by kernel_rfl)) (tlsC_one _) (by omega) (by omega) ?_
 intro v14 w11 hm10
 clear hm9
 try simp only [List.cons_append, List.nil_append, List.set_cons_succ, List.set_cons_zero] at hm10
 replace hm10 := Mem.rowEq (v := v14) (e := 38) (size := 4) (n := 0 + ((l.take k).length)) (n' := (l.take k ++ chT t 0).length) (xs := ([]) ++ (tlsC (l.take k))) (xs' := tlsC (l.take k ++ chT t 0)) 0 hm10 rfl (by rw [List.length_append, chT_len]; omega) (by rw [List.nil_append]; unfold chT; simp)
 try simp only [List.cons_append, List.nil_append, List.set_cons_succ, List.set_cons_zero] at hm10
 obtain ⟨A12, c13, rfl⟩ := Mem.rowSl (v := v14) (e := 38) (size := 4) (n := (l.take k ++ chT t 0).length) (xs := tlsC (l.take k ++ chT t 0)) 0 hm10 rfl
 refine qP rfl ?_
 refine lk (v := .slice A12 ((l.take k ++ chT t 0).length) c13) rfl rfl rfl ?_
 refine plD ?_
 refine then_normal (hK8 _ _ ?_)
 refine wp_seq_k fun K15 hK15 => ?_
 refine wp_seq_k fun K16 hK16 => ?_
 refine plStart ?_
 refine lk (v := .int .i64 0) rfl rfl rfl ?_
 refine plD ?_
 refine then_normal (hK16 _ _ ?_)
 refine wp_block ?_
 refine gwLoop (fun n_ a_ w_ => ∃ (i : Nat) (A2 : Option Addr) (c2 : Nat), n_ = 8 - i ∧ (i ≤ 8) ∧ Fr a_ 73 [(0, .slice (some ⟨b, off, none⟩) l.length c), (1, .int .i64 (k : Int)), (4, .slice none 0 0), (5, .int .i64 0), (6, .slice A2 ((l.take k ++ chT t i).length) c2), (7, .int .i64 (i : Int))] ∧ Mem w w_ [.row (.slice A2 ((l.take k ++ chT t i).length) c2) 38 4 ((l.take k ++ chT t i).length) (tlsC (l.take k ++ chT t i))]) (8 - 0) ⟨0, _, _, rfl, (Nat.zero_le _), ⟨litSize, rfl, ⟨litGet (by kernel_rfl), ⟨litGet (by kernel_rfl), ⟨litGet (by kernel_rfl), ⟨litGet (by kernel_rfl), ⟨litGet (by kernel_rfl), ⟨litGet (by kernel_rfl), trivial⟩⟩⟩⟩⟩⟩⟩, (hm10.sub (.cons_cons _ .slnil))⟩ ?_
 clear hm10
 intro n_ a19 w17 hI_
 obtain ⟨i, A2, c2, rfl, hi8, hF_, hm18⟩ := hI_
 obtain ⟨X20, rfl⟩ := frLit hF_
 clear hF_
 refine wp_seq_k fun K21 hK21 => ?_
 refine wp_seq_k fun K22 hK22 => ?_
 refine plStart ?_
 refine lk (v := .int .i64 (i : Int)) rfl rfl rfl ?_
 by_cases h23 : (i : Int) < 8
 · refine litVal (v := .bool true) rfl (wn rfl) (boolTo (decide_eq_true h23) (lssRun (A := (i : Int)) (B := 8) (.tmp 36) (.const (.int .i64 8)) rfl (litEv (by kernel_rfl)) (litEv (by kernel_rfl)))) rfl (by decide) ?_
   refine plD ?_
   refine then_normal (hK22 _ _ ?_)
   refine wp_cond_true (litEv (by kernel_rfl)) ?_
   refine wp_skip ?_
   refine then_normal (hK21 _ _ ?_)
   refine wp_seq_k fun K24 hK24 => ?_
   refine wp_block ?_
   refine wp_seq_k fun K25 hK25 => ?_
   refine plStart ?_
   refine lk (v := .int .i64 (i : Int)) rfl rfl rfl ?_
   refine plCall (i := 1) 42 [.int .i64 (i : Int)] [] [] rfl (by kernel_rfl) (wn rfl) rfl (litEv (by kernel_rfl)) (litArgs (by kernel_rfl)) (rdecodeK_any (k := i) (by omega) rfl _) ?_
   rintro e w26 ⟨rfl, hbz⟩
   have hm27 := hm18.below hbz
   clear hbz hm18
   refine ⟨_, rfl, ?_⟩
   refine qP rfl ?_
   refine lk (v := .tuple #[.agg (pcs (octP i)).toArray, .bool true]) rfl rfl rfl ?_
   refine lk (v := .agg (pcs (octP i)).toArray) rfl rfl rfl ?_
   refine lk (v := .bool true) rfl rfl rfl ?_
   refine plAlloc (z := [.int .i64 0, .int .i64 0, .int .i64 0]) Ty.ag_voxel_api_Point hm27 (i := 5) rfl (wn rfl) rfl ?_
   intro g28 w30 hm29
   clear hm27
   try simp only [List.cons_append, List.nil_append, List.set_cons_succ, List.set_cons_zero] at hm29
   refine qP rfl ?_
   refine plStore 1 Ty.ag_voxel_api_Point hm29 rfl (i := 6) (cs := pcs (octP i)) rfl (wn rfl) rfl (litEv (by kernel_rfl)) (litEv (by kernel_rfl)) rfl rfl (by kernel_rfl) ?_
   intro w32 hm31
   clear hm29
   try simp only [List.cons_append, List.nil_append, List.set_cons_succ, List.set_cons_zero] at hm31
   refine qNone rfl ?_
   refine lk (v := .bool true) rfl rfl rfl ?_
   refine plD ?_
   refine then_normal (hK25 _ _ ?_)
   refine wp_seq_k fun K33 hK33 => ?_
   refine plStart ?_
   refine lk (v := .slice (some ⟨b, off, none⟩) l.length c) rfl rfl rfl ?_
   refine lk (v := .int .i64 (k : Int)) rfl rfl rfl ?_
   refine litVal (v := .pointer (some ⟨b, off + k * 4, none⟩)) rfl (wn rfl) (gIaSl (b := b) (off := off) (n := l.length) (c := c) (kk := .i64) (K := (k : Int)) (.tmp 45) (.tmp 46) k Ty.sl_L_api_Tile rfl (litEv (by kernel_rfl)) (litEv (by kernel_rfl)) (rfl) (by omega)) rfl (by decide) ?_
   refine lk (v := .pointer (some ⟨b, off + k * 4, none⟩)) rfl rfl rfl ?_
   refine litVal (v := .int .i64 t.lv) rfl (wn rfl) (gLoadRd (v := .int .i64 t.lv) (m := k * 4) ((Rd.below hr hm31.bel).more hm31.bel.size) rfl (tlsC_get hk 0 _ rfl) (by omega) (.tmp 48) (by kernel_rfl) rfl (litEv (by kernel_rfl))) rfl (by decide) ?_
   refine litVal (v := .int .i64 (t.lv - 1)) rfl (wn rfl) (subRun (A := t.lv) (B := 1) (C := t.lv - 1) (.tmp 49) (.const (.int .i64 1)) rfl (litEv (by kernel_rfl)) (litEv (by kernel_rfl)) rfl (by omega)) rfl (by decide) ?_
   refine lk (v := .agg (tlc ⟨t.lv - 1, ⟨0, 0, 0⟩⟩).toArray) rfl rfl rfl ?_
   refine plAlloc (z := [.int .i64 0, .int .i64 0, .int .i64 0, .int .i64 0]) Ty.ag_voxel_api_Tile hm31 (i := 7) rfl (wn rfl) rfl ?_
   intro g34 w36 hm35
   clear hm31
   try simp only [List.cons_append, List.nil_append, List.set_cons_succ, List.set_cons_zero] at hm35
   refine qP rfl ?_
   refine plStore 2 Ty.ag_voxel_api_Tile hm35 rfl (i := 8) (cs := tlc ⟨t.lv - 1, ⟨0, 0, 0⟩⟩) rfl (wn rfl) rfl (litEv (by kernel_rfl)) (litEv (by kernel_rfl)) rfl rfl (by kernel_rfl) ?_
   intro w38 hm37
   clear hm35
   try simp only [List.cons_append, List.nil_append, List.set_cons_succ, List.set_cons_zero] at hm37
   refine qNone rfl ?_
   refine plD ?_
   refine then_normal (hK33 _ _ ?_)
   refine wp_seq_k fun K39 hK39 => ?_
   refine aoStart (aoV [fun _ => .slice (some ⟨b, off, none⟩) l.length c, fun _ => .int .i64 (k : Int), fun _ => .pointer (some ⟨b, off + k * 4, none⟩), fun _ => .pointer (some ⟨b, off + k * 4 + 1, none⟩), fun _ => .agg (pcs t.p).toArray, fun _ => .agg (pcs (octP i)).toArray, fun _ => .agg (tlc ⟨t.lv - 1, ⟨0, 0, 0⟩⟩).toArray, fun _ => .int .i64 (sideL (t.lv - 1)), fun _ => .agg (pcs ((octP i).mul (sideL (t.lv - 1)))).toArray, fun _ => .agg (pcs ((child t i).p)).toArray, fun _ => .pointer (some ⟨g34, 1, none⟩), fun _ => undef]) (aoA [0, 1, 2, 3, 4, 5, 6, 7, 8, 9, 10, 11]) (fun b_ g_ => ((.row (.slice A2 ((l.take k ++ chT t i).length) c2) 38 4 ((l.take k ++ chT t i).length) (tlsC (l.take k ++ chT t i))) :: (.arr g28 23 (pcs (octP i))) :: (.arr g34 38 (bsel (b_ 11) [.int .i64 (t.lv - 1), .int .i64 (((child t i).p).x), .int .i64 (((child t i).p).y), .int .i64 (((child t i).p).z)] (tlc ⟨t.lv - 1, ⟨0, 0, 0⟩⟩))) :: [])) hm37 (by kernel_rfl) (by kernel_rfl) (fun w_ h_ => h_) (fun b_ g_ h_ => by show (fun (x11_ : Bool) => (((.row (.slice A2 ((l.take k ++ chT t i).length) c2) 38 4 ((l.take k ++ chT t i).length) (tlsC (l.take k ++ chT t i))) :: (.arr g28 23 (pcs (octP i))) :: (.arr g34 38 (bsel x11_ [.int .i64 (t.lv - 1), .int .i64 (((child t i).p).x), .int .i64 (((child t i).p).y), .int .i64 (((child t i).p).z)] (tlc ⟨t.lv - 1, ⟨0, 0, 0⟩⟩))) :: []) : List Res)) (b_ 11) = _; rw [h_ 11 (by decide)]) ?_ ?_
   · refine aoNext rfl (aoVal (fun g_ => [(0, .slice (some ⟨b, off, none⟩) l.length c)]) (fun g_ a_ h_k => ⟨(h_k.out 0 (by kernel_rfl)).trans (litGet (by kernel_rfl)), trivial⟩) (fun g_ X_ => (wn rfl)) (fun b_ g_ => by kernel_rfl) (fun b_ g_ X_ w_ h_b h_ => valTo (b := .slice (some ⟨b, off, none⟩) l.length c) (by kernel_rfl) (litRun (by kernel_rfl)))) ?_
     refine aoNext rfl (aoVal (fun g_ => [(1, .int .i64 (k : Int))]) (fun g_ a_ h_k => ⟨(h_k.out 1 (by kernel_rfl)).trans (litGet (by kernel_rfl)), trivial⟩) (fun g_ X_ => (wn rfl)) (fun b_ g_ => by kernel_rfl) (fun b_ g_ X_ w_ h_b h_ => valTo (b := .int .i64 (k : Int)) (by kernel_rfl) (litRun (by kernel_rfl)))) ?_
     refine aoNext rfl (aoVal (fun g_ => [(52, .slice (some ⟨b, off, none⟩) l.length c), (53, .int .i64 (k : Int))]) (fun g_ a_ h_k => ⟨(h_k.inn 0 _ _ (by kernel_rfl) rfl rfl).trans (by kernel_rfl), (h_k.inn 1 _ _ (by kernel_rfl) rfl rfl).trans (by kernel_rfl), trivial⟩) (fun g_ X_ => (wn rfl)) (fun b_ g_ => by kernel_rfl) (fun b_ g_ X_ w_ h_b h_ => valTo (b := .pointer (some ⟨b, off + k * 4, none⟩)) (by kernel_rfl) (gIaSl (b := b) (off := off) (n := l.length) (c := c) (kk := .i64) (K := (k : Int)) (.tmp 52) (.tmp 53) k Ty.sl_L_api_Tile rfl (litEv (by kernel_rfl)) (litEv (by kernel_rfl)) (rfl) (by omega)))) ?_
     refine aoNext rfl (aoVal (fun g_ => [(54, .pointer (some ⟨b, off + k * 4, none⟩))]) (fun g_ a_ h_k => ⟨(h_k.inn 2 _ _ (by kernel_rfl) rfl rfl).trans (by kernel_rfl), trivial⟩) (fun g_ X_ => (wn rfl)) (fun b_ g_ => by kernel_rfl) (fun b_ g_ X_ w_ h_b h_ => valTo (b := .pointer (some ⟨b, off + k * 4 + 1, none⟩)) (by kernel_rfl) (litRun (by kernel_rfl)))) ?_
     refine aoNext rfl (aoVal (fun g_ => [(55, .pointer (some ⟨b, off + k * 4 + 1, none⟩))]) (fun g_ a_ h_k => ⟨(h_k.inn 3 _ _ (by kernel_rfl) rfl rfl).trans (by kernel_rfl), trivial⟩) (fun g_ X_ => (wn rfl)) (fun b_ g_ => by kernel_rfl) (fun b_ g_ X_ w_ h_b h_ => valTo (b := .agg (pcs t.p).toArray) (by kernel_rfl) ((fun (h_ : Mem _ w_ ((.row (.slice A2 ((l.take k ++ chT t i).length) c2) 38 4 ((l.take k ++ chT t i).length) (tlsC (l.take k ++ chT t i))) :: (.arr g28 23 (pcs (octP i))) :: (.arr g34 38 (tlc ⟨t.lv - 1, ⟨0, 0, 0⟩⟩)) :: [])) => gLoadAgRd (vs := pcs t.p) (m := k * 4 + 1) ((Rd.below hr h_.bel).more h_.bel.size) rfl (fun i_ u_ hu_ => by have := tlsC_get hk (1 + i_) u_ (by rw [Nat.add_comm]; exact hu_); rw [← Nat.add_assoc] at this; exact this) (by kernel_rfl) (by omega) (.tmp 55) Ty.ag_voxel_api_Point rfl (litEv (by kernel_rfl))) (by have h2_ : Mem w w_ ((.row (.slice A2 ((l.take k ++ chT t i).length) c2) 38 4 ((l.take k ++ chT t i).length) (tlsC (l.take k ++ chT t i))) :: (.arr g28 23 (pcs (octP i))) :: (.arr g34 38 (bsel (b_ 11) [.int .i64 (t.lv - 1), .int .i64 (((child t i).p).x), .int .i64 (((child t i).p).y), .int .i64 (((child t i).p).z)] (tlc ⟨t.lv - 1, ⟨0, 0, 0⟩⟩))) :: []) := h_; rw [bselF (h_b.post 11 (by kernel_rfl))] at h2_; exact h2_)))) ?_
     refine aoNext rfl (aoVal (fun g_ => [(8, .pointer (some ⟨g28, 0, none⟩))]) (fun g_ a_ h_k => ⟨(h_k.out 8 (by kernel_rfl)).trans (litGet (by kernel_rfl)), trivial⟩) (fun g_ X_ => (wn rfl)) (fun b_ g_ => by kernel_rfl) (fun b_ g_ X_ w_ h_b h_ => valTo (b := .agg (pcs (octP i)).toArray) (by kernel_rfl) ((fun (h_ : Mem _ w_ ((.row (.slice A2 ((l.take k ++ chT t i).length) c2) 38 4 ((l.take k ++ chT t i).length) (tlsC (l.take k ++ chT t i))) :: (.arr g28 23 (pcs (octP i))) :: (.arr g34 38 (tlc ⟨t.lv - 1, ⟨0, 0, 0⟩⟩)) :: [])) => gLoadAg (vs := pcs (octP i)) (k := 0) 1 h_ rfl (by kernel_rfl) (by kernel_rfl) (.tmp 8) Ty.ag_voxel_api_Point rfl (litEv (by kernel_rfl))) (by have h2_ : Mem w w_ ((.row (.slice A2 ((l.take k ++ chT t i).length) c2) 38 4 ((l.take k ++ chT t i).length) (tlsC (l.take k ++ chT t i))) :: (.arr g28 23 (pcs (octP i))) :: (.arr g34 38 (bsel (b_ 11) [.int .i64 (t.lv - 1), .int .i64 (((child t i).p).x), .int .i64 (((child t i).p).y), .int .i64 (((child t i).p).z)] (tlc ⟨t.lv - 1, ⟨0, 0, 0⟩⟩))) :: []) := h_; rw [bselF (h_b.post 11 (by kernel_rfl))] at h2_; exact h2_)))) ?_
     refine aoNext rfl (aoVal (fun g_ => [(10, .pointer (some ⟨g34, 0, none⟩))]) (fun g_ a_ h_k => ⟨(h_k.out 10 (by kernel_rfl)).trans (litGet (by kernel_rfl)), trivial⟩) (fun g_ X_ => (wn rfl)) (fun b_ g_ => by kernel_rfl) (fun b_ g_ X_ w_ h_b h_ => valTo (b := .agg (tlc ⟨t.lv - 1, ⟨0, 0, 0⟩⟩).toArray) (by kernel_rfl) ((fun (h_ : Mem _ w_ ((.row (.slice A2 ((l.take k ++ chT t i).length) c2) 38 4 ((l.take k ++ chT t i).length) (tlsC (l.take k ++ chT t i))) :: (.arr g28 23 (pcs (octP i))) :: (.arr g34 38 (tlc ⟨t.lv - 1, ⟨0, 0, 0⟩⟩)) :: [])) => gLoadAg (vs := tlc ⟨t.lv - 1, ⟨0, 0, 0⟩⟩) (k := 0) 2 h_ rfl (by kernel_rfl) (by kernel_rfl) (.tmp 10) Ty.ag_voxel_api_Tile rfl (litEv (by kernel_rfl))) (by have h2_ : Mem w w_ ((.row (.slice A2 ((l.take k ++ chT t i).length) c2) 38 4 ((l.take k ++ chT t i).length) (tlsC (l.take k ++ chT t i))) :: (.arr g28 23 (pcs (octP i))) :: (.arr g34 38 (bsel (b_ 11) [.int .i64 (t.lv - 1), .int .i64 (((child t i).p).x), .int .i64 (((child t i).p).y), .int .i64 (((child t i).p).z)] (tlc ⟨t.lv - 1, ⟨0, 0, 0⟩⟩))) :: []) := h_; rw [bselF (h_b.post 11 (by kernel_rfl))] at h2_; exact h2_)))) ?_
     refine aoNext rfl (aoCall (fun g_ => [(58, .agg (tlc ⟨t.lv - 1, ⟨0, 0, 0⟩⟩).toArray)]) (fun g_ a_ h_k => ⟨(h_k.inn 6 _ _ (by kernel_rfl) rfl rfl).trans (by kernel_rfl), trivial⟩) 45 (fun g_ => [.agg (tlc ⟨t.lv - 1, ⟨0, 0, 0⟩⟩).toArray]) [] [] (by kernel_rfl) (fun g_ X_ => (wn rfl)) (fun b_ g_ => by kernel_rfl) rfl (fun g_ X_ => litEv (by kernel_rfl)) (fun g_ X_ => litArgs (by kernel_rfl)) (fun b_ g_ w_ h_b h_ => (rside_any ⟨t.lv - 1, ⟨0, 0, 0⟩⟩ hsl_ _).mono (fun _ _ h_r => ⟨h_r.1.trans (by kernel_rfl), h_r.2⟩))) ?_
     refine aoNext rfl (aoCall (fun g_ => [(57, .agg (pcs (octP i)).toArray), (59, .int .i64 (sideL (t.lv - 1)))]) (fun g_ a_ h_k => ⟨(h_k.inn 5 _ _ (by kernel_rfl) rfl rfl).trans (by kernel_rfl), (h_k.inn 7 _ _ (by kernel_rfl) rfl rfl).trans (by kernel_rfl), trivial⟩) 44 (fun g_ => [.agg (pcs (octP i)).toArray, .int .i64 (sideL (t.lv - 1))]) [] [] (by kernel_rfl) (fun g_ X_ => (wn rfl)) (fun b_ g_ => by kernel_rfl) rfl (fun g_ X_ => litEv (by kernel_rfl)) (fun g_ X_ => litArgs (by kernel_rfl)) (fun b_ g_ w_ h_b h_ => (rscale_any (octP i) (sideL (t.lv - 1)) (hm_ i).1 (hm_ i).2.1 (hm_ i).2.2 _).mono (fun _ _ h_r => ⟨h_r.1.trans (by kernel_rfl), h_r.2⟩))) ?_
     refine aoNext rfl (aoCall (fun g_ => [(56, .agg (pcs t.p).toArray), (60, .agg (pcs ((octP i).mul (sideL (t.lv - 1)))).toArray)]) (fun g_ a_ h_k => ⟨(h_k.inn 4 _ _ (by kernel_rfl) rfl rfl).trans (by kernel_rfl), (h_k.inn 8 _ _ (by kernel_rfl) rfl rfl).trans (by kernel_rfl), trivial⟩) 43 (fun g_ => [.agg (pcs t.p).toArray, .agg (pcs ((octP i).mul (sideL (t.lv - 1)))).toArray]) [] [] (by kernel_rfl) (fun g_ X_ => (wn rfl)) (fun b_ g_ => by kernel_rfl) rfl (fun g_ X_ => litEv (by kernel_rfl)) (fun g_ X_ => litArgs (by kernel_rfl)) (fun b_ g_ w_ h_b h_ => (radd_any t.p ((octP i).mul (sideL (t.lv - 1))) hp_ (ha_ i) _).mono (fun _ _ h_r => ⟨h_r.1.trans (by kernel_rfl), h_r.2⟩))) ?_
     refine aoNext rfl (aoVal (fun g_ => [(10, .pointer (some ⟨g34, 0, none⟩))]) (fun g_ a_ h_k => ⟨(h_k.out 10 (by kernel_rfl)).trans (litGet (by kernel_rfl)), trivial⟩) (fun g_ X_ => (wn rfl)) (fun b_ g_ => by kernel_rfl) (fun b_ g_ X_ w_ h_b h_ => valTo (b := .pointer (some ⟨g34, 1, none⟩)) (by kernel_rfl) (litRun (by kernel_rfl)))) ?_
     refine aoNext rfl (aoStore (gb := fun g_ => g34) (k := 1) (cur := fun g_ => tlc ⟨t.lv - 1, ⟨0, 0, 0⟩⟩) (vs := fun g_ => pcs ((child t i).p)) 2 (fun g_ => [(61, .agg (pcs ((child t i).p)).toArray), (62, .pointer (some ⟨g34, 1, none⟩))]) (fun g_ a_ h_k => ⟨(h_k.inn 9 _ _ (by kernel_rfl) rfl rfl).trans (by kernel_rfl), (h_k.inn 10 _ _ (by kernel_rfl) rfl rfl).trans (by kernel_rfl), trivial⟩) Ty.ag_voxel_api_Point (fun b_ g_ h_b => by show some (Res.arr g34 38 (bsel (b_ 11) [.int .i64 (t.lv - 1), .int .i64 (((child t i).p).x), .int .i64 (((child t i).p).y), .int .i64 (((child t i).p).z)] (tlc ⟨t.lv - 1, ⟨0, 0, 0⟩⟩))) = some (Res.arr g34 38 (tlc ⟨t.lv - 1, ⟨0, 0, 0⟩⟩)); rw [bselF h_b.no]) (fun g_ X_ => (wn rfl)) rfl (fun g_ X_ => litEv (by kernel_rfl)) (fun g_ X_ => litEv (by kernel_rfl)) (fun _ => by kernel_rfl) (fun _ => by kernel_rfl) (fun _ => by kernel_rfl) (fun b_ g_ h_b => by kernel_rfl) rfl) ?_
     exact aoDone (by decide)
   intro g_ a_ w41 hF_ hm40
   obtain ⟨X42, rfl⟩ := frLit (⟨hF_.size, hF_.defers, ⟨(hF_.out 0 (by kernel_rfl)).trans (litGet (by kernel_rfl)), (hF_.out 1 (by kernel_rfl)).trans (litGet (by kernel_rfl)), (hF_.out 4 (by kernel_rfl)).trans (litGet (by kernel_rfl)), (hF_.out 5 (by kernel_rfl)).trans (litGet (by kernel_rfl)), (hF_.out 6 (by kernel_rfl)).trans (litGet (by kernel_rfl)), (hF_.out 7 (by kernel_rfl)).trans (litGet (by kernel_rfl)), (hF_.out 8 (by kernel_rfl)).trans (litGet (by kernel_rfl)), (hF_.out 10 (by kernel_rfl)).trans (litGet (by kernel_rfl)), (hF_.out 36 (by kernel_rfl)).trans (litGet (by kernel_rfl)), (hF_.out 37 (by kernel_rfl)).trans (litGet (by kernel_rfl)), (hF_.out 40 (by kernel_rfl)).trans (litGet (by kernel_rfl)), (hF_.out 41 (by kernel_rfl)).trans (litGet (by kernel_rfl)), (hF_.out 42 (by kernel_rfl)).trans (litGet (by kernel_rfl)), (hF_.out 43 (by kernel_rfl)).trans (litGet (by kernel_rfl)), (hF_.out 44 (by kernel_rfl)).trans (litGet (by kernel_rfl)), (hF_.out 45 (by kernel_rfl)).trans (litGet (by kernel_rfl)), (hF_.out 46 (by kernel_rfl)).trans (litGet (by kernel_rfl)), (hF_.out 47 (by kernel_rfl)).trans (litGet (by kernel_rfl)), (hF_.out 48 (by kernel_rfl)).trans (litGet (by kernel_rfl)), (hF_.out 49 (by kernel_rfl)).trans (litGet (by kernel_rfl)), (hF_.out 50 (by kernel_rfl)).trans (litGet (by kernel_rfl)), (hF_.out 51 (by kernel_rfl)).trans (litGet (by kernel_rfl)), (hF_.inn 0 _ _ rfl rfl).trans (by kernel_rfl), (hF_.inn 1 _ _ rfl rfl).trans (by kernel_rfl), (hF_.inn 2 _ _ rfl rfl).trans (by kernel_rfl), (hF_.inn 3 _ _ rfl rfl).trans (by kernel_rfl), (hF_.inn 4 _ _ rfl rfl).trans (by kernel_rfl), (hF_.inn 5 _ _ rfl rfl).trans (by kernel_rfl), (hF_.inn 6 _ _ rfl rfl).trans (by kernel_rfl), (hF_.inn 7 _ _ rfl rfl).trans (by kernel_rfl), (hF_.inn 8 _ _ rfl rfl).trans (by kernel_rfl), (hF_.inn 9 _ _ rfl rfl).trans (by kernel_rfl), (hF_.inn 10 _ _ rfl rfl).trans (by kernel_rfl), trivial⟩⟩ : Fr _ 73 [(0, .slice (some ⟨b, off, none⟩) l.length c), (1, .int .i64 (k : Int)), (4, .slice none 0 0), (5, .int .i64 0), (6, .slice A2 ((l.take k ++ chT t i).length) c2), (7, .int .i64 (i : Int)), (8, .pointer (some ⟨g28, 0, none⟩)), (10, .pointer (some ⟨g34, 0, none⟩)), (36, .int .i64 (i : Int)), (37, .bool true), (40, .tuple #[.agg (pcs (octP i)).toArray, .bool true]), (41, .int .i64 (i : Int)), (42, .tuple #[.agg (pcs (octP i)).toArray, .bool true]), (43, .agg (pcs (octP i)).toArray), (44, .bool true), (45, .slice (some ⟨b, off, none⟩) l.length c), (46, .int .i64 (k : Int)), (47, .pointer (some ⟨b, off + k * 4, none⟩)), (48, .pointer (some ⟨b, off + k * 4, none⟩)), (49, .int .i64 t.lv), (50, .int .i64 (t.lv - 1)), (51, .agg (tlc ⟨t.lv - 1, ⟨0, 0, 0⟩⟩).toArray), (52, .slice (some ⟨b, off, none⟩) l.length c), (53, .int .i64 (k : Int)), (54, .pointer (some ⟨b, off + k * 4, none⟩)), (55, .pointer (some ⟨b, off + k * 4 + 1, none⟩)), (56, .agg (pcs t.p).toArray), (57, .agg (pcs (octP i)).toArray), (58, .agg (tlc ⟨t.lv - 1, ⟨0, 0, 0⟩⟩).toArray), (59, .int .i64 (sideL (t.lv - 1))), (60, .agg (pcs ((octP i).mul (sideL (t.lv - 1)))).toArray), (61, .agg (pcs ((child t i).p)).toArray), (62, .pointer (some ⟨g34, 1, none⟩))])
   clear hF_
   have hm43 : Mem w w41 [.row (.slice A2 ((l.take k ++ chT t i).length) c2) 38 4 ((l.take k ++ chT t i).length) (tlsC (l.take k ++ chT t i)), .arr g28 23 (pcs (octP i)), .arr g34 38 ([.int .i64 (t.lv - 1), .int .i64 (((child t i).p).x), .int .i64 (((child t i).p).y), .int .i64 (((child t i).p).z)])] := hm40
   clear hm40 hm37
   refine then_normal (hK39 _ _ ?_)
   refine plStart ?_
   refine lk (v := .slice A2 ((l.take k ++ chT t i).length) c2) rfl rfl rfl ?_
   refine litVal (v := .agg (tlc ⟨t.lv - 1, ((child t i).p)⟩).toArray) rfl (wn rfl) (gLoadAg (vs := tlc ⟨t.lv - 1, ((child t i).p)⟩) (k := 0) 2 hm43 rfl (by kernel_rfl) (by kernel_rfl) (.tmp 10) Ty.ag_voxel_api_Tile rfl (litEv (by kernel_rfl))) rfl (by decide) ?_
   refine plLit (cs := [.int .i64 (t.lv - 1), .int .i64 (((child t i).p).x), .int .i64 (((child t i).p).y), .int .i64 (((child t i).p).z)]) (n := 1) Ty.sl_L_api_Tile hm43 (i := 2) rfl (wn rfl) rfl (by decide) (by decide) (by rw [lit_eval]; kernel_rfl) ?_
   intro g44 w46 hm45
   clear hm43
   try simp only [List.cons_append, List.nil_append, List.set_cons_succ, List.set_cons_zero] at hm45
   refine qP rfl ?_
   refine plApp1 (v := .slice A2 ((l.take k ++ chT t i).length) c2) (n := (l.take k ++ chT t i).length) (xs := tlsC (l.take k ++ chT t i)) (ys := [.int .i64 (t.lv - 1), .int .i64 (((child t i).p).x), .int .i64 (((child t i).p).y), .int .i64 (((child t i).p).z)]) 0 3 Ty.sl_L_api_Tile hm45 rfl rfl (i := 3) rfl (wn rfl) rfl (litEv (by kernel_rfl)) (litEv (by kernel_rfl)) (by kernel_rfl) (by kernel_rfl) (by simp only [List.length_append, chT_len, List.length_take]; omega) (by simp only [List.length_append, chT_len, List.length_take]; omega) ?_
   intro v51 w48 hm47
   clear hm45
   try simp only [List.cons_append, List.nil_append, List.set_cons_succ, List.set_cons_zero] at hm47
   replace hm47 := Mem.rowEq (v := v51) (e := 38) (size := 4) (n := ((l.take k ++ chT t i).length) + 1) (n' := (l.take k ++ chT t (i + 1)).length) (xs := (tlsC (l.take k ++ chT t i)) ++ ([.int .i64 (t.lv - 1), .int .i64 (((child t i).p).x), .int .i64 (((child t i).p).y), .int .i64 (((child t i).p).z)])) (xs' := tlsC (l.take k ++ chT t (i + 1))) 0 hm47 rfl (by rw [List.length_append, List.length_append, chT_len, chT_len]; omega) (tls_ch _ t i)
   try simp only [List.cons_append, List.nil_append, List.set_cons_succ, List.set_cons_zero] at hm47
   obtain ⟨A49, c50, rfl⟩ := Mem.rowSl (v := v51) (e := 38) (size := 4) (n := (l.take k ++ chT t (i + 1)).length) (xs := tlsC (l.take k ++ chT t (i + 1))) 0 hm47 rfl
   refine qP rfl ?_
   refine lk (v := .slice A49 ((l.take k ++ chT t (i + 1)).length) c50) rfl rfl rfl ?_
   refine plD ?_
   refine inBlock_normal ?_
   refine then_normal (hK24 _ _ ?_)
   refine plStart ?_
   refine lk (v := .int .i64 (i : Int)) rfl rfl rfl ?_
   refine litVal (v := .int .i64 ((i : Int) + 1)) rfl (wn rfl) (addRun (A := (i : Int)) (B := 1) (C := (i : Int) + 1) (.tmp 38) (.const (.int .i64 1)) rfl (litEv (by kernel_rfl)) (litEv (by kernel_rfl)) rfl (by omega)) rfl (by decide) ?_
   refine lk (v := .int .i64 ((i : Int) + 1)) rfl rfl rfl ?_
   refine plD ?_
   refine then_normal ?_
   exact ⟨_, by omega, (i + 1), _, _, rfl, (by omega), ⟨litSize, rfl, ⟨litGet (by kernel_rfl), ⟨litGet (by kernel_rfl), ⟨litGet (by kernel_rfl), ⟨litGet (by kernel_rfl), ⟨litGet (by kernel_rfl), ⟨litGet (by kernel_rfl), trivial⟩⟩⟩⟩⟩⟩⟩, (hm47.sub (.cons_cons _ (.cons _ (.cons _ (.cons _ .slnil)))))⟩
 obtain rfl : i = 8 := by omega
 refine litVal (v := .bool false) rfl (wn rfl) (boolTo (decide_eq_false h23) (lssRun (A := ((8 : Nat) : Int)) (B := 8) (.tmp 36) (.const (.int .i64 8)) rfl (litEv (by kernel_rfl)) (litEv (by kernel_rfl)))) rfl (by decide) ?_
 refine plD ?_
 refine then_normal (hK22 _ _ ?_)
 refine wp_cond_false (litEv (by kernel_rfl)) ?_
 refine wp_exit ?_
 refine then_exit ?_
 refine then_exit ?_
 refine inBlock_exit ?_
 refine then_normal (hK15 _ _ ?_)
 refine wp_seq_k fun K52 hK52 => ?_
 refine plStart ?_
 refine lk (v := .slice A2 ((l.take k ++ chT t 8).length) c2) rfl rfl rfl ?_
 refine lk (v := .slice (some ⟨b, off, none⟩) l.length c) rfl rfl rfl ?_
 refine lk (v := .int .i64 (k : Int)) rfl rfl rfl ?_
 refine litVal (v := .int .i64 ((k : Int) + 1)) rfl (wn rfl) (addRun (A := (k : Int)) (B := 1) (C := (k : Int) + 1) (.tmp 69) (.const (.int .i64 1)) rfl (litEv (by kernel_rfl)) (litEv (by kernel_rfl)) rfl (by omega)) rfl (by decide) ?_
 refine litVal (i := 4) (v := .slice A3 ((l.drop (k + 1)).length) (c - (k + 1))) rfl (wn rfl) (sliceLRun (k := (k : Int) + 1) (.tmp 68) (.tmp 70) hs3 rfl (litEv (by kernel_rfl)) (litEv (by kernel_rfl)) (by omega)) rfl (by decide) ?_
 refine plAppR (v := .slice A2 ((l.take k ++ chT t 8).length) c2) (n := (l.take k ++ chT t 8).length) (xs := tlsC (l.take k ++ chT t 8)) (ys := tlsC (l.drop (k + 1))) (A := A3) (m := (l.drop (k + 1)).length) (c := (c - (k + 1))) 0 Ty.sl_L_api_Tile hm18 rfl ((Rd.below hr3 hm18.bel).more hm18.bel.size) (i := 5) rfl (wn rfl) rfl (litEv (by kernel_rfl)) (litEv (by kernel_rfl)) (tlsC_one _) (by simp only [List.length_append, chT_len, List.length_take, List.length_drop]; omega) (by simp only [List.length_append, chT_len, List.length_take, List.length_drop]; omega) ?_
 intro v57 w54 hm53
 clear hm18
 try simp only [List.cons_append, List.nil_append, List.set_cons_succ, List.set_cons_zero] at hm53
 replace hm53 := Mem.rowEq (v := v57) (e := 38) (size := 4) (n := ((l.take k ++ chT t 8).length) + ((l.drop (k + 1)).length)) (n' := (l.take k ++ chT t 8 ++ l.drop (k + 1)).length) (xs := (tlsC (l.take k ++ chT t 8)) ++ (tlsC (l.drop (k + 1)))) (xs' := tlsC (l.take k ++ chT t 8 ++ l.drop (k + 1))) 0 hm53 rfl (by simp only [List.length_append]) ((tlsC_app _ _).symm)
 try simp only [List.cons_append, List.nil_append, List.set_cons_succ, List.set_cons_zero] at hm53
 obtain ⟨A55, c56, rfl⟩ := Mem.rowSl (v := v57) (e := 38) (size := 4) (n := (l.take k ++ chT t 8 ++ l.drop (k + 1)).length) (xs := tlsC (l.take k ++ chT t 8 ++ l.drop (k + 1))) 0 hm53 rfl
 refine qP rfl ?_
 refine lk (v := .slice A55 ((l.take k ++ chT t 8 ++ l.drop (k + 1)).length) c56) rfl rfl rfl ?_
 refine lk (v := .int .i64 0) rfl rfl rfl ?_
 refine plD ?_
 refine then_normal (hK52 _ _ ?_)
 refine wpPrune [(4, .slice A55 ((l.take k ++ chT t 8 ++ l.drop (k + 1)).length) c56), (5, .int .i64 0)] ⟨litGet (by kernel_rfl), ⟨litGet (by kernel_rfl), trivial⟩⟩ (fun X58 => ?_)
 refine wp_ret ?_
 refine bodyPost_ret (v := .tuple #[.slice A55 ((l.take k ++ chT t 8 ++ l.drop (k + 1)).length) c56, .int .i64 0]) (gRes2 rfl (gResTmp (t := 4) (v := .slice A55 ((l.take k ++ chT t 8 ++ l.drop (k + 1)).length) c56) (litGet (by kernel_rfl))) (gResTmp (t := 5) (v := .int .i64 0) (litGet (by kernel_rfl)))) rfl ?_
 exact ⟨_, rfl, by unfold splitAt; rw [hk]; exact hm53.row 0 rfl, hm53.bel⟩
theorem rsplit_any (l : List Tl) (k : Nat) (t : Tl) (A : Option Addr) (c : Nat) (w : World) (hr : Rd w w.heap.size 4 A l.length c (tlsC l)) (hk : l[k]? = some t) (ht : t.Ok) (h1 : 1 ≤ t.lv) (hlen : l.length + 7 ≤ 4096) :
    Calls Try.prog 21 #[.slice A l.length c, .int .i64 (k : Int)] w (fun e w' => ∃ v, e = .returned (.tuple #[v, .int .i64 0]) ∧ w'.ownsRow w.heap.size 38 4 v (splitAt l k).length (tlsC (splitAt l k)) ∧ Below w.heap.size w w') := by
  have hkl : k < l.length := (List.getElem?_eq_some_iff.1 hk).1
  obtain ⟨b, off, rfl, _, _⟩ := hr.cells (by omega)
  exact rsplit_blk l k t b off c w hr hk ht h1 hlen
end Go.Proofs.Ytkmhjgdpkddbnaa
