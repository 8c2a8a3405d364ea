/-
  PI: several texts in one. No statement is proved here.
-/
import Derived.Test.YtkmhjgdpkddbnaaPC
import Derived.Test.YtkmhjgdpkddbnaaPH
set_option linter.unusedVariables false
set_option linter.unusedSimpArgs false
namespace Go.Proofs.Ytkmhjgdpkddbnaa
theorem totalP_take {f : Tl → Int} {l : List Tl} {k : Nat} {t : Tl} (h : l[k]? = some t) : totalP f (l.take (k + 1)) = totalP f (l.take k) + f t := by
  rw [List.take_add_one, h, totalP_app]
  simp [totalP]
/-- Whether the k-th tile can be split. -/
def splitsP (f : Tl → Int) (v : Vw) (l : List Tl) (k : Nat) (t : Tl) : Prop := 0 < t.lv ∧ v.tol < err v t ∧ l.length + 7 ≤ 4096 ∧ totalP f (splitAt l k) ≤ v.bud
instance (f : Tl → Int) (v : Vw) (l : List Tl) (k : Nat) (t : Tl) : Decidable (splitsP f v l k t) := by unfold splitsP; infer_instance
def tz : Tl := ⟨0, ⟨0, 0, 0⟩⟩
def refBest (f : Tl → Int) (v : Vw) (l : List Tl) : Nat → Int
  | 0 => -1
  | k + 1 => if 0 ≤ refBest f v l k ∧ err v (l.getD k tz) ≤ err v (l.getD (refBest f v l k).toNat tz) then refBest f v l k else if splitsP f v l k (l.getD k tz) then (k : Int) else refBest f v l k
theorem refBest_bd (f : Tl → Int) (v : Vw) (l : List Tl) : ∀ k, -1 ≤ refBest f v l k ∧ refBest f v l k < k
  | 0 => by simp [refBest]
  | k + 1 => by
    have h := refBest_bd f v l k
    rw [refBest]
    split
    · omega
    · split <;> omega
theorem getD_of {l : List Tl} {k : Nat} {t : Tl} (h : l[k]? = some t) : l.getD k tz = t := by simp [List.getD, h]
theorem refBest_next {f : Tl → Int} {v : Vw} {l : List Tl} {k b : Nat} {t u : Tl} (hb : refBest f v l k = (b : Int)) (ht : l[k]? = some t) (hu : l[b]? = some u) : refBest f v l (k + 1) = if err v t ≤ err v u then (b : Int) else if splitsP f v l k t then (k : Int) else (b : Int) := by
  rw [refBest, hb, Int.toNat_natCast, getD_of ht, getD_of hu]
  by_cases h : err v t ≤ err v u
  · rw [if_pos ⟨by omega, h⟩, if_pos h]
  · rw [if_neg (fun h2 => h h2.2), if_neg h]
theorem refBest_first {f : Tl → Int} {v : Vw} {l : List Tl} {k : Nat} {t : Tl} (hb : refBest f v l k = -1) (ht : l[k]? = some t) : refBest f v l (k + 1) = if splitsP f v l k t then (k : Int) else -1 := by
  rw [refBest, hb, getD_of ht]
  rw [if_neg (fun h => by omega)]
/-- The most that a tile must exceed. -/
def mostR (v : Vw) (l : List Tl) (b : Int) : Int := if 0 ≤ b then err v (l.getD b.toNat tz) else v.tol
theorem refBest_ok {f : Tl → Int} {v : Vw} {l : List Tl} {cost : Int} (hc : cost = totalP f l) (hl : l.length + 7 ≤ 4096) : ∀ k, k ≤ l.length →
    v.tol ≤ mostR v l (refBest f v l k) ∧ nextG f v cost k (refBest f v l k) (mostR v l (refBest f v l k)) (l.drop k) = nextG f v cost 0 (-1) v.tol l
  | 0, _ => by
    rw [refBest]
    unfold mostR
    simp
  | k + 1, hk => by
    obtain ⟨h1, h2⟩ := refBest_ok hc hl k (by omega)
    obtain ⟨t, ht⟩ : ∃ t, l[k]? = some t := ⟨_, List.getElem?_eq_getElem (by omega)⟩
    have hs : totalP f (splitAt l k) = cost + moreP f t := by rw [totalP_split ht, hc]
    have hd : l.drop k = t :: l.drop (k + 1) := by
      obtain ⟨hl2, he⟩ := List.getElem?_eq_some_iff.1 ht
      rw [← he, List.drop_eq_getElem_cons hl2]
    rw [hd, nextG] at h2
    have key : ∀ b : Int, refBest f v l k = b → (b = -1 ∨ 0 ≤ b) → v.tol ≤ mostR v l (refBest f v l (k + 1)) ∧ nextG f v cost (k + 1) (refBest f v l (k + 1)) (mostR v l (refBest f v l (k + 1))) (l.drop (k + 1)) = nextG f v cost 0 (-1) v.tol l := by
      intro b hb hb1
      have hm : mostR v l k = err v t := by unfold mostR; rw [if_pos (by omega), Int.toNat_natCast, getD_of ht]
      rw [hb] at h1 h2
      rcases hb1 with rfl | hb1
      · rw [refBest_first hb ht]
        have hm1 : mostR v l (-1) = v.tol := rfl
        rw [hm1] at h2
        by_cases hsp : splitsP f v l k t
        · rw [if_pos hsp, hm]
          rw [if_pos ⟨hsp.1, hsp.2.1, by rw [← hs]; exact hsp.2.2.2⟩] at h2
          exact ⟨by have := hsp.2.1; omega, h2⟩
        · rw [if_neg hsp]
          rw [if_neg (fun h => hsp ⟨h.1, h.2.1, hl, by rw [hs]; exact h.2.2⟩)] at h2
          exact ⟨h1, h2⟩
      · obtain ⟨n, rfl⟩ : ∃ n : Nat, b = n := ⟨b.toNat, by omega⟩
        have hbd := refBest_bd f v l k
        obtain ⟨u, hu⟩ : ∃ u, l[n]? = some u := ⟨_, List.getElem?_eq_getElem (by omega)⟩
        rw [refBest_next hb ht hu]
        have hmn : mostR v l n = err v u := by unfold mostR; rw [if_pos (by omega), Int.toNat_natCast, getD_of hu]
        rw [hmn] at h1 h2
        by_cases he : err v t ≤ err v u
        · rw [if_pos he, hmn]
          rw [if_neg (fun h => by omega)] at h2
          exact ⟨h1, h2⟩
        · rw [if_neg he]
          by_cases hsp : splitsP f v l k t
          · rw [if_pos hsp, hm]
            rw [if_pos ⟨hsp.1, by omega, by rw [← hs]; exact hsp.2.2.2⟩] at h2
            exact ⟨by omega, h2⟩
          · rw [if_neg hsp, hmn]
            rw [if_neg (fun h => hsp ⟨h.1, by omega, hl, by rw [hs]; exact h.2.2⟩)] at h2
            exact ⟨h1, h2⟩
    exact key _ rfl (by have := refBest_bd f v l k; omega)
theorem refBest_no {f : Tl → Int} {v : Vw} {l : List Tl} (hl : ¬ l.length + 7 ≤ 4096) : ∀ k, refBest f v l k = -1
  | 0 => rfl
  | k + 1 => by
    rw [refBest, refBest_no hl k, if_neg (fun h => by omega), if_neg (fun h => hl h.2.2.1)]
/-- The reference chooses as the planner does. -/
theorem refBest_next_eq {f : Tl → Int} {v : Vw} {l : List Tl} {cost : Int} (hc : cost = totalP f l) : refBest f v l l.length = nextP f v cost l := by
  unfold nextP
  by_cases hl : l.length + 7 ≤ 4096
  · rw [if_neg (by omega)]
    have h := (refBest_ok (v := v) hc hl l.length (Nat.le_refl _)).2
    rw [List.drop_length, nextG] at h
    exact h
  · rw [if_pos (by omega)]
    exact refBest_no hl _
end Go.Proofs.Ytkmhjgdpkddbnaa
namespace Go.Proofs.Ytkmhjgdpkddbnaa
open Go.RowKit
set_option linter.unusedVariables false
set_option linter.unusedSimpArgs false
theorem rdecodeK_any {k : Nat} (hk : k < 8) {e : Int} (he : e = (k : Int)) (w : World) : Calls Try.prog 42 #[.int .i64 e] w (RetV w (.tuple #[.agg (pcs (octP k)).toArray, .bool true])) := by
  have hd := refDecode_any e w
  subst he
  have e2 : mDec (k : Int) = (octP k, true) := by
    unfold mDec
    rw [if_pos ⟨by omega, by omega⟩, Int.toNat_natCast, mDecP_small hk]
  rw [e2] at hd
  exact hd
theorem chT_len (t : Tl) (i : Nat) : (chT t i).length = i := by simp [chT]
theorem chT_snoc (t : Tl) (i : Nat) : chT t (i + 1) = chT t i ++ [child t i] := by unfold chT; rw [List.range_succ]; simp
theorem tls_ch (l : List Tl) (t : Tl) (i : Nat) : tlsC (l ++ chT t i) ++ tlc (child t i) = tlsC (l ++ chT t (i + 1)) := by
  rw [chT_snoc, ← List.append_assoc, ← tlsC_snoc]
theorem oct_mul {a S : Int} (ha : 0 ≤ a ∧ a ≤ 1) (hS : 4 ≤ S ∧ S ≤ 16384) : 0 ≤ a * S ∧ a * S ≤ 16384 := by
  rcases (by omega : a = 0 ∨ a = 1) with rfl | rfl <;> omega
set_option maxRecDepth 100000 in
set_option maxHeartbeats 4000000 in
theorem rsplit_blk (l : List Tl) (k : Nat) (t : Tl) (b off c : Nat) (w : World) (hr : Rd w w.heap.size 4 (some ⟨b, off, none⟩) l.length c (tlsC l)) (hk : l[k]? = some t) (ht : t.Ok) (h1 : 1 ≤ t.lv) (hlen : l.length + 7 ≤ 4096) : Calls Try.prog 21 #[.slice (some ⟨b, off, none⟩) l.length c, .int .i64 (k : Int)] w (fun e w' => ∃ v, e = .returned (.tuple #[v, .int .i64 0]) ∧ w'.ownsRow w.heap.size 38 4 v (splitAt l k).length (tlsC (splitAt l k)) ∧ Below w.heap.size w w') := by
  have hkl : k < l.length := (List.getElem?_eq_some_iff.1 hk).1
  have hl12_ := ht.lv
  have hlk : (l.take k).length = k := by rw [List.length_take]; omega
  obtain ⟨A1, hr1, hs1⟩ := sliceH_eq (V := (l.take k).length) Ty.sl_L_api_Tile hr (by omega)
  obtain ⟨A3, hr3, hs3⟩ := sliceL_eq (V := k + 1) Ty.sl_L_api_Tile hr (by omega)
  rw [hlk, tlsC_tk] at hr1
  rw [tlsC_dp] at hr3
  rw [show l.length - (k + 1) = (l.drop (k + 1)).length from (List.length_drop).symm] at hr3 hs3
  replace hr1 : Rd w w.heap.size 4 A1 (l.take k).length c (tlsC (l.take k)) := by rw [hlk]; exact hr1
  have hsl_ : 0 ≤ t.lv - 1 ∧ t.lv - 1 ≤ 12 := by omega
  have hsb_ := side_bd hsl_
  have hin_ := ht.inP
  unfold Pt.In at hin_
  have hp_ : (-1073741824 ≤ t.p.x ∧ t.p.x ≤ 1073741824) ∧ (-1073741824 ≤ t.p.y ∧ t.p.y ≤ 1073741824) ∧ (-1073741824 ≤ t.p.z ∧ t.p.z ≤ 1073741824) := by omega
  have hm0_ : ∀ i : Nat, (0 ≤ (octP i).x * sideL (t.lv - 1) ∧ (octP i).x * sideL (t.lv - 1) ≤ 16384) ∧ (0 ≤ (octP i).y * sideL (t.lv - 1) ∧ (octP i).y * sideL (t.lv - 1) ≤ 16384) ∧ (0 ≤ (octP i).z * sideL (t.lv - 1) ∧ (octP i).z * sideL (t.lv - 1) ≤ 16384) := fun i => by
    have ho := octP_bd i
    refine ⟨oct_mul ho.1 hsb_, oct_mul ho.2.1 hsb_, oct_mul ho.2.2 hsb_⟩
  have hm_ : ∀ i : Nat, (-9223372036854775808 ≤ (octP i).x * sideL (t.lv - 1) ∧ (octP i).x * sideL (t.lv - 1) ≤ 9223372036854775807) ∧ (-9223372036854775808 ≤ (octP i).y * sideL (t.lv - 1) ∧ (octP i).y * sideL (t.lv - 1) ≤ 9223372036854775807) ∧ (-9223372036854775808 ≤ (octP i).z * sideL (t.lv - 1) ∧ (octP i).z * sideL (t.lv - 1) ≤ 9223372036854775807) := fun i => by have := hm0_ i; omega
  have ha_ : ∀ i : Nat, (-1073741824 ≤ ((octP i).mul (sideL (t.lv - 1))).x ∧ ((octP i).mul (sideL (t.lv - 1))).x ≤ 1073741824) ∧ (-1073741824 ≤ ((octP i).mul (sideL (t.lv - 1))).y ∧ ((octP i).mul (sideL (t.lv - 1))).y ≤ 1073741824) ∧ (-1073741824 ≤ ((octP i).mul (sideL (t.lv - 1))).z ∧ ((octP i).mul (sideL (t.lv - 1))).z ≤ 1073741824) := fun i => by have := hm0_ i; unfold Pt.mul; simp only; omega
  have hm0 := Mem.nil w
  go_enter Try.func21, Try.ntmps21
  refine litStart 73 [(0, .slice (some ⟨b, off, none⟩) l.length c), (1, .int .i64 (k : Int))] (by kernel_rfl) (fun X0 => ?_)
  refine wp_seq_k fun K1 hK1 => ?_
  refine plStart ?_
  refine lk (v := .slice none 0 0) rfl rfl rfl ?_
  refine lk (v := .int .i64 0) rfl rfl rfl ?_
  refine plD ?_
  refine then_normal (hK1 _ _ ?_)
  refine wp_seq_k fun K2 hK2 => ?_
  refine wp_seq_k fun K3 hK3 => ?_
  refine plStart ?_
  refine lk (v := .int .i64 (k : Int)) rfl rfl rfl ?_
  refine litVal (v := .bool false) rfl (wn rfl) (boolTo (decide_eq_false (show ¬ (k : Int) < 0 by omega)) (lssRun (A := (k : Int)) (B := 0) (.tmp 11) (.const (.int .i64 0)) rfl (litEv (by kernel_rfl)) (litEv (by kernel_rfl)))) rfl (by decide) ?_
  refine lk (v := .bool false) rfl rfl rfl ?_
  refine litVal (v := .int .i64 (k : Int)) rfl (wgY rfl rfl rfl (by decide) (by kernel_rfl)) (litRun (by kernel_rfl)) rfl (by decide) ?_
  refine litVal (v := .slice (some ⟨b, off, none⟩) l.length c) rfl (wgY rfl rfl rfl (by decide) (by kernel_rfl)) (litRun (by kernel_rfl)) rfl (by decide) ?_
  refine litVal (v := .int .i64 (l.length : Int)) rfl (wgY rfl rfl rfl (by decide) (by kernel_rfl)) (lenSlRun (A := some ⟨b, off, none⟩) (n := l.length) (c := c) (.tmp 15) Ty.und_L_api_Tile rfl (litEv (by kernel_rfl))) rfl (by decide) ?_
  refine litVal (v := .bool false) rfl (wgY rfl rfl rfl (by decide) (by kernel_rfl)) (boolTo (decide_eq_false (show ¬ (l.length : Int) ≤ (k : Int) by omega)) (gGeq (A := (k : Int)) (B := (l.length : Int)) (.tmp 14) (.tmp 16) rfl (litEv (by kernel_rfl)) (litEv (by kernel_rfl)))) rfl (by decide) ?_
  refine lk (v := .bool false) rfl rfl rfl ?_
  refine lk (v := .bool false) rfl rfl rfl ?_
  refine litVal (v := .slice (some ⟨b, off, none⟩) l.length c) rfl (wgY rfl rfl rfl (by decide) (by kernel_rfl)) (litRun (by kernel_rfl)) rfl (by decide) ?_
  refine litVal (v := .int .i64 (k : Int)) rfl (wgY rfl rfl rfl (by decide) (by kernel_rfl)) (litRun (by kernel_rfl)) rfl (by decide) ?_
  refine litVal (v := .pointer (some ⟨b, off + k * 4, none⟩)) rfl (wgY rfl rfl rfl (by decide) (by kernel_rfl)) (gIaSl (b := b) (off := off) (n := l.length) (c := c) (kk := .i64) (K := (k : Int)) (.tmp 20) (.tmp 21) k Ty.sl_L_api_Tile rfl (litEv (by kernel_rfl)) (litEv (by kernel_rfl)) (rfl) (by omega)) rfl (by decide) ?_
  refine litVal (v := .pointer (some ⟨b, off + k * 4, none⟩)) rfl (wgY rfl rfl rfl (by decide) (by kernel_rfl)) (litRun (by kernel_rfl)) rfl (by decide) ?_
  refine litVal (v := .int .i64 t.lv) rfl (wgY rfl rfl rfl (by decide) (by kernel_rfl)) (gLoadRd (v := .int .i64 t.lv) (m := k * 4) ((Rd.below hr hm0.bel).more hm0.bel.size) rfl (tlsC_get hk 0 _ rfl) (by omega) (.tmp 23) (by kernel_rfl) rfl (litEv (by kernel_rfl))) rfl (by decide) ?_
  refine litVal (v := .bool false) rfl (wgY rfl rfl rfl (by decide) (by kernel_rfl)) (boolTo (decide_eq_false (show ¬ t.lv = 0 by omega)) (eqlRun (A := t.lv) (B := 0) (.tmp 24) (.const (.int .i64 0)) rfl (litEv (by kernel_rfl)) (litEv (by kernel_rfl)))) rfl (by decide) ?_
  refine lk (v := .bool false) rfl rfl rfl ?_
  refine plD ?_
  refine then_normal (hK3 _ _ ?_)
  refine wpPrune [(0, .slice (some ⟨b, off, none⟩) l.length c), (1, .int .i64 (k : Int)), (4, .slice none 0 0), (5, .int .i64 0), (26, .bool false)] ⟨litGet (by kernel_rfl), ⟨litGet (by kernel_rfl), ⟨litGet (by kernel_rfl), ⟨litGet (by kernel_rfl), ⟨litGet (by kernel_rfl), trivial⟩⟩⟩⟩⟩ (fun X4 => ?_)
  refine wp_cond_false (litEv (by kernel_rfl)) ?_
  refine wp_skip ?_
  refine then_normal (hK2 _ _ ?_)
  refine wp_seq_k fun K5 hK5 => ?_
  refine wp_seq_k fun K6 hK6 => ?_
  refine plStart ?_
  refine lk (v := .slice (some ⟨b, off, none⟩) l.length c) rfl rfl rfl ?_
  refine litVal (v := .int .i64 (l.length : Int)) rfl (wn rfl) (lenSlRun (A := some ⟨b, off, none⟩) (n := l.length) (c := c) (.tmp 27) Ty.und_L_api_Tile rfl (litEv (by kernel_rfl))) rfl (by decide) ?_
  refine litVal (v := .int .i64 ((l.length : Int) + 7)) rfl (wn rfl) (addRun (A := (l.length : Int)) (B := 7) (C := (l.length : Int) + 7) (.tmp 28) (.const (.int .i64 7)) rfl (litEv (by kernel_rfl)) (litEv (by kernel_rfl)) rfl (by omega)) rfl (by decide) ?_
  refine litVal (v := .bool false) rfl (wn rfl) (boolTo (decide_eq_false (show ¬ 4096 < ((l.length : Int) + 7) by omega)) (gtrRun (A := ((l.length : Int) + 7)) (B := 4096) (.tmp 29) (.const (.int .i64 4096)) rfl (litEv (by kernel_rfl)) (litEv (by kernel_rfl)))) rfl (by decide) ?_
  refine plD ?_
  refine then_normal (hK6 _ _ ?_)
  refine wp_cond_false (litEv (by kernel_rfl)) ?_
  refine wp_skip ?_
  refine then_normal (hK5 _ _ ?_)
  refine wp_seq_k fun K7 hK7 => ?_
  refine plStart ?_
  refine lk (v := .slice none 0 0) rfl rfl rfl ?_
  refine plD ?_
  refine then_normal (hK7 _ _ ?_)
  refine wp_seq_k fun K8 hK8 => ?_
  refine plStart ?_
  refine lk (v := .slice none 0 0) rfl rfl rfl ?_
  refine lk (v := .slice (some ⟨b, off, none⟩) l.length c) rfl rfl rfl ?_
  refine lk (v := .int .i64 (k : Int)) rfl rfl rfl ?_
  refine litVal (i := 3) (v := .slice A1 ((l.take k).length) c) rfl (wn rfl) (sliceHRun (k := (k : Int)) (.tmp 32) (.tmp 33) hs1 rfl (litEv (by kernel_rfl)) (litEv (by kernel_rfl)) (by omega)) rfl (by decide) ?_
  have hm9 := Mem.nilRow hm0 38 4
  clear hm0
  try simp only [List.cons_append, List.nil_append, List.set_cons_succ, List.set_cons_zero] at hm9
  refine plAppR (v := .slice none 0 0) (n := 0) (xs := []) (ys := tlsC (l.take k)) (A := A1) (m := (l.take k).length) (c := c) 0 Ty.sl_L_api_Tile hm9 rfl ((Rd.below hr1 hm9.bel).more hm9.bel.size) (i := 4) rfl (wn rfl) rfl (litEv (by kernel_rfl)) (litEv (by kernel_rfl)) (tlsC_one _) (by omega) (by omega) ?_
  intro v14 w11 hm10
  clear hm9
  try simp only [List.cons_append, List.nil_append, List.set_cons_succ, List.set_cons_zero] at hm10
  replace hm10 := Mem.rowEq (v := v14) (e := 38) (size := 4) (n := 0 + ((l.take k).length)) (n' := (l.take k ++ chT t 0).length) (xs := ([]) ++ (tlsC (l.take k))) (xs' := tlsC (l.take k ++ chT t 0)) 0 hm10 rfl (by rw [List.length_append, chT_len]; omega) (by rw [List.nil_append]; unfold chT; simp)
  try simp only [List.cons_append, List.nil_append, List.set_cons_succ, List.set_cons_zero] at hm10
  obtain ⟨A12, c13, rfl⟩ := Mem.rowSl (v := v14) (e := 38) (size := 4) (n := (l.take k ++ chT t 0).length) (xs := tlsC (l.take k ++ chT t 0)) 0 hm10 rfl
  refine qP rfl ?_
  refine lk (v := .slice A12 ((l.take k ++ chT t 0).length) c13) rfl rfl rfl ?_
  refine plD ?_
  refine then_normal (hK8 _ _ ?_)
  refine wp_seq_k fun K15 hK15 => ?_
  refine wp_seq_k fun K16 hK16 => ?_
  refine plStart ?_
  refine lk (v := .int .i64 0) rfl rfl rfl ?_
  refine plD ?_
  refine then_normal (hK16 _ _ ?_)
  refine wp_block ?_
  refine roundsStart 8 ?_
  refine wp_seq_k fun K17 hK17 => ?_
  refine wp_seq_k fun K18 hK18 => ?_
  refine plStart ?_
  refine lk (v := .int .i64 0) rfl rfl rfl ?_
  refine lk (v := .bool true) rfl rfl rfl ?_
  refine plD ?_
  refine then_normal (hK18 _ _ ?_)
  refine wp_cond_true (litEv (by kernel_rfl)) ?_
  refine wp_skip ?_
  refine then_normal (hK17 _ _ ?_)
  refine wp_seq_k fun K19 hK19 => ?_
  refine wp_block ?_
  refine wp_seq_k fun K20 hK20 => ?_
  refine plStart ?_
  refine lk (v := .int .i64 0) rfl rfl rfl ?_
  refine plCall (i := 1) 42 [.int .i64 0] [] [] rfl (by kernel_rfl) (wn rfl) rfl (litEv (by kernel_rfl)) (litArgs (by kernel_rfl)) (rdecodeK_any (k := 0) (by decide) rfl _) ?_
  rintro e w21 ⟨rfl, hbz⟩
  have hm22 := hm10.below hbz
  clear hbz hm10
  refine ⟨_, rfl, ?_⟩
  refine qP rfl ?_
  refine lk (v := .tuple #[.agg (pcs (octP 0)).toArray, .bool true]) rfl rfl rfl ?_
  refine lk (v := .agg (pcs (octP 0)).toArray) rfl rfl rfl ?_
  refine lk (v := .bool true) rfl rfl rfl ?_
  refine plAlloc (z := [.int .i64 0, .int .i64 0, .int .i64 0]) Ty.ag_voxel_api_Point hm22 (i := 5) rfl (wn rfl) rfl ?_
  intro g23 w25 hm24
  clear hm22
  try simp only [List.cons_append, List.nil_append, List.set_cons_succ, List.set_cons_zero] at hm24
  refine qP rfl ?_
  refine plStore 1 Ty.ag_voxel_api_Point hm24 rfl (i := 6) (cs := pcs (octP 0)) rfl (wn rfl) rfl (litEv (by kernel_rfl)) (litEv (by kernel_rfl)) rfl rfl (by kernel_rfl) ?_
  intro w27 hm26
  clear hm24
  try simp only [List.cons_append, List.nil_append, List.set_cons_succ, List.set_cons_zero] at hm26
  refine qNone rfl ?_
  refine lk (v := .bool true) rfl rfl rfl ?_
  refine plD ?_
  refine then_normal (hK20 _ _ ?_)
  refine wp_seq_k fun K28 hK28 => ?_
  refine plStart ?_
  refine lk (v := .slice (some ⟨b, off, none⟩) l.length c) rfl rfl rfl ?_
  refine lk (v := .int .i64 (k : Int)) rfl rfl rfl ?_
  refine litVal (v := .pointer (some ⟨b, off + k * 4, none⟩)) rfl (wn rfl) (gIaSl (b := b) (off := off) (n := l.length) (c := c) (kk := .i64) (K := (k : Int)) (.tmp 45) (.tmp 46) k Ty.sl_L_api_Tile rfl (litEv (by kernel_rfl)) (litEv (by kernel_rfl)) (rfl) (by omega)) rfl (by decide) ?_
  refine lk (v := .pointer (some ⟨b, off + k * 4, none⟩)) rfl rfl rfl ?_
  refine litVal (v := .int .i64 t.lv) rfl (wn rfl) (gLoadRd (v := .int .i64 t.lv) (m := k * 4) ((Rd.below hr hm26.bel).more hm26.bel.size) rfl (tlsC_get hk 0 _ rfl) (by omega) (.tmp 48) (by kernel_rfl) rfl (litEv (by kernel_rfl))) rfl (by decide) ?_
  refine litVal (v := .int .i64 (t.lv - 1)) rfl (wn rfl) (subRun (A := t.lv) (B := 1) (C := t.lv - 1) (.tmp 49) (.const (.int .i64 1)) rfl (litEv (by kernel_rfl)) (litEv (by kernel_rfl)) rfl (by omega)) rfl (by decide) ?_
  refine lk (v := .agg (tlc ⟨t.lv - 1, ⟨0, 0, 0⟩⟩).toArray) rfl rfl rfl ?_
  refine plAlloc (z := [.int .i64 0, .int .i64 0, .int .i64 0, .int .i64 0]) Ty.ag_voxel_api_Tile hm26 (i := 7) rfl (wn rfl) rfl ?_
  intro g29 w31 hm30
  clear hm26
  try simp only [List.cons_append, List.nil_append, List.set_cons_succ, List.set_cons_zero] at hm30
  refine qP rfl ?_
  refine plStore 2 Ty.ag_voxel_api_Tile hm30 rfl (i := 8) (cs := tlc ⟨t.lv - 1, ⟨0, 0, 0⟩⟩) rfl (wn rfl) rfl (litEv (by kernel_rfl)) (litEv (by kernel_rfl)) rfl rfl (by kernel_rfl) ?_
  intro w33 hm32
  clear hm30
  try simp only [List.cons_append, List.nil_append, List.set_cons_succ, List.set_cons_zero] at hm32
  refine qNone rfl ?_
  refine plD ?_
  refine then_normal (hK28 _ _ ?_)
  refine wp_seq_k fun K34 hK34 => ?_
  refine aoStart (aoV [fun _ => .slice (some ⟨b, off, none⟩) l.length c, fun _ => .int .i64 (k : Int), fun _ => .pointer (some ⟨b, off + k * 4, none⟩), fun _ => .pointer (some ⟨b, off + k * 4 + 1, none⟩), fun _ => .agg (pcs t.p).toArray, fun _ => .agg (pcs (octP 0)).toArray, fun _ => .agg (tlc ⟨t.lv - 1, ⟨0, 0, 0⟩⟩).toArray, fun _ => .int .i64 (sideL (t.lv - 1)), fun _ => .agg (pcs ((octP 0).mul (sideL (t.lv - 1)))).toArray, fun _ => .agg (pcs ((child t 0).p)).toArray, fun _ => .pointer (some ⟨g29, 1, none⟩), fun _ => undef]) (aoA [0, 1, 2, 3, 4, 5, 6, 7, 8, 9, 10, 11]) (fun b_ g_ => ((.row (.slice A12 ((l.take k ++ chT t 0).length) c13) 38 4 ((l.take k ++ chT t 0).length) (tlsC (l.take k ++ chT t 0))) :: (.arr g23 23 (pcs (octP 0))) :: (.arr g29 38 (bsel (b_ 11) [.int .i64 (t.lv - 1), .int .i64 (((child t 0).p).x), .int .i64 (((child t 0).p).y), .int .i64 (((child t 0).p).z)] (tlc ⟨t.lv - 1, ⟨0, 0, 0⟩⟩))) :: [])) hm32 (by kernel_rfl) (by kernel_rfl) (fun w_ h_ => h_) (fun b_ g_ h_ => by show (fun (x11_ : Bool) => (((.row (.slice A12 ((l.take k ++ chT t 0).length) c13) 38 4 ((l.take k ++ chT t 0).length) (tlsC (l.take k ++ chT t 0))) :: (.arr g23 23 (pcs (octP 0))) :: (.arr g29 38 (bsel x11_ [.int .i64 (t.lv - 1), .int .i64 (((child t 0).p).x), .int .i64 (((child t 0).p).y), .int .i64 (((child t 0).p).z)] (tlc ⟨t.lv - 1, ⟨0, 0, 0⟩⟩))) :: []) : List Res)) (b_ 11) = _; rw [h_ 11 (by decide)]) ?_ ?_
  · refine aoNext rfl (aoVal (fun g_ => [(0, .slice (some ⟨b, off, none⟩) l.length c)]) (fun g_ a_ h_k => ⟨(h_k.out 0 (by kernel_rfl)).trans (litGet (by kernel_rfl)), trivial⟩) (fun g_ X_ => (wn rfl)) (fun b_ g_ => by kernel_rfl) (fun b_ g_ X_ w_ h_b h_ => valTo (b := .slice (some ⟨b, off, none⟩) l.length c) (by kernel_rfl) (litRun (by kernel_rfl)))) ?_
    refine aoNext rfl (aoVal (fun g_ => [(1, .int .i64 (k : Int))]) (fun g_ a_ h_k => ⟨(h_k.out 1 (by kernel_rfl)).trans (litGet (by kernel_rfl)), trivial⟩) (fun g_ X_ => (wn rfl)) (fun b_ g_ => by kernel_rfl) (fun b_ g_ X_ w_ h_b h_ => valTo (b := .int .i64 (k : Int)) (by kernel_rfl) (litRun (by kernel_rfl)))) ?_
    refine aoNext rfl (aoVal (fun g_ => [(52, .slice (some ⟨b, off, none⟩) l.length c), (53, .int .i64 (k : Int))]) (fun g_ a_ h_k => ⟨(h_k.inn 0 _ _ (by kernel_rfl) rfl rfl).trans (by kernel_rfl), (h_k.inn 1 _ _ (by kernel_rfl) rfl rfl).trans (by kernel_rfl), trivial⟩) (fun g_ X_ => (wn rfl)) (fun b_ g_ => by kernel_rfl) (fun b_ g_ X_ w_ h_b h_ => valTo (b := .pointer (some ⟨b, off + k * 4, none⟩)) (by kernel_rfl) (gIaSl (b := b) (off := off) (n := l.length) (c := c) (kk := .i64) (K := (k : Int)) (.tmp 52) (.tmp 53) k Ty.sl_L_api_Tile rfl (litEv (by kernel_rfl)) (litEv (by kernel_rfl)) (rfl) (by omega)))) ?_
    refine aoNext rfl (aoVal (fun g_ => [(54, .pointer (some ⟨b, off + k * 4, none⟩))]) (fun g_ a_ h_k => ⟨(h_k.inn 2 _ _ (by kernel_rfl) rfl rfl).trans (by kernel_rfl), trivial⟩) (fun g_ X_ => (wn rfl)) (fun b_ g_ => by kernel_rfl) (fun b_ g_ X_ w_ h_b h_ => valTo (b := .pointer (some ⟨b, off + k * 4 + 1, none⟩)) (by kernel_rfl) (litRun (by kernel_rfl)))) ?_
    refine aoNext rfl (aoVal (fun g_ => [(55, .pointer (some ⟨b, off + k * 4 + 1, none⟩))]) (fun g_ a_ h_k => ⟨(h_k.inn 3 _ _ (by kernel_rfl) rfl rfl).trans (by kernel_rfl), trivial⟩) (fun g_ X_ => (wn rfl)) (fun b_ g_ => by kernel_rfl) (fun b_ g_ X_ w_ h_b h_ => valTo (b := .agg (pcs t.p).toArray) (by kernel_rfl) ((fun (h_ : Mem _ w_ ((.row (.slice A12 ((l.take k ++ chT t 0).length) c13) 38 4 ((l.take k ++ chT t 0).length) (tlsC (l.take k ++ chT t 0))) :: (.arr g23 23 (pcs (octP 0))) :: (.arr g29 38 (tlc ⟨t.lv - 1, ⟨0, 0, 0⟩⟩)) :: [])) => gLoadAgRd (vs := pcs t.p) (m := k * 4 + 1) ((Rd.below hr h_.bel).more h_.bel.size) rfl (fun i_ u_ hu_ => by have := tlsC_get hk (1 + i_) u_ (by rw [Nat.add_comm]; exact hu_); rw [← Nat.add_assoc] at this; exact this) (by kernel_rfl) (by omega) (.tmp 55) Ty.ag_voxel_api_Point rfl (litEv (by kernel_rfl))) (by have h2_ : Mem w w_ ((.row (.slice A12 ((l.take k ++ chT t 0).length) c13) 38 4 ((l.take k ++ chT t 0).length) (tlsC (l.take k ++ chT t 0))) :: (.arr g23 23 (pcs (octP 0))) :: (.arr g29 38 (bsel (b_ 11) [.int .i64 (t.lv - 1), .int .i64 (((child t 0).p).x), .int .i64 (((child t 0).p).y), .int .i64 (((child t 0).p).z)] (tlc ⟨t.lv - 1, ⟨0, 0, 0⟩⟩))) :: []) := h_; rw [bselF (h_b.post 11 (by kernel_rfl))] at h2_; exact h2_)))) ?_
    refine aoNext rfl (aoVal (fun g_ => [(8, .pointer (some ⟨g23, 0, none⟩))]) (fun g_ a_ h_k => ⟨(h_k.out 8 (by kernel_rfl)).trans (litGet (by kernel_rfl)), trivial⟩) (fun g_ X_ => (wn rfl)) (fun b_ g_ => by kernel_rfl) (fun b_ g_ X_ w_ h_b h_ => valTo (b := .agg (pcs (octP 0)).toArray) (by kernel_rfl) ((fun (h_ : Mem _ w_ ((.row (.slice A12 ((l.take k ++ chT t 0).length) c13) 38 4 ((l.take k ++ chT t 0).length) (tlsC (l.take k ++ chT t 0))) :: (.arr g23 23 (pcs (octP 0))) :: (.arr g29 38 (tlc ⟨t.lv - 1, ⟨0, 0, 0⟩⟩)) :: [])) => gLoadAg (vs := pcs (octP 0)) (k := 0) 1 h_ rfl (by kernel_rfl) (by kernel_rfl) (.tmp 8) Ty.ag_voxel_api_Point rfl (litEv (by kernel_rfl))) (by have h2_ : Mem w w_ ((.row (.slice A12 ((l.take k ++ chT t 0).length) c13) 38 4 ((l.take k ++ chT t 0).length) (tlsC (l.take k ++ chT t 0))) :: (.arr g23 23 (pcs (octP 0))) :: (.arr g29 38 (bsel (b_ 11) [.int .i64 (t.lv - 1), .int .i64 (((child t 0).p).x), .int .i64 (((child t 0).p).y), .int .i64 (((child t 0).p).z)] (tlc ⟨t.lv - 1, ⟨0, 0, 0⟩⟩))) :: []) := h_; rw [bselF (h_b.post 11 (by kernel_rfl))] at h2_; exact h2_)))) ?_
    refine aoNext rfl (aoVal (fun g_ => [(10, .pointer (some ⟨g29, 0, none⟩))]) (fun g_ a_ h_k => ⟨(h_k.out 10 (by kernel_rfl)).trans (litGet (by kernel_rfl)), trivial⟩) (fun g_ X_ => (wn rfl)) (fun b_ g_ => by kernel_rfl) (fun b_ g_ X_ w_ h_b h_ => valTo (b := .agg (tlc ⟨t.lv - 1, ⟨0, 0, 0⟩⟩).toArray) (by kernel_rfl) ((fun (h_ : Mem _ w_ ((.row (.slice A12 ((l.take k ++ chT t 0).length) c13) 38 4 ((l.take k ++ chT t 0).length) (tlsC (l.take k ++ chT t 0))) :: (.arr g23 23 (pcs (octP 0))) :: (.arr g29 38 (tlc ⟨t.lv - 1, ⟨0, 0, 0⟩⟩)) :: [])) => gLoadAg (vs := tlc ⟨t.lv - 1, ⟨0, 0, 0⟩⟩) (k := 0) 2 h_ rfl (by kernel_rfl) (by kernel_rfl) (.tmp 10) Ty.ag_voxel_api_Tile rfl (litEv (by kernel_rfl))) (by have h2_ : Mem w w_ ((.row (.slice A12 ((l.take k ++ chT t 0).length) c13) 38 4 ((l.take k ++ chT t 0).length) (tlsC (l.take k ++ chT t 0))) :: (.arr g23 23 (pcs (octP 0))) :: (.arr g29 38 (bsel (b_ 11) [.int .i64 (t.lv - 1), .int .i64 (((child t 0).p).x), .int .i64 (((child t 0).p).y), .int .i64 (((child t 0).p).z)] (tlc ⟨t.lv - 1, ⟨0, 0, 0⟩⟩))) :: []) := h_; rw [bselF (h_b.post 11 (by kernel_rfl))] at h2_; exact h2_)))) ?_
    refine aoNext rfl (aoCall (fun g_ => [(58, .agg (tlc ⟨t.lv - 1, ⟨0, 0, 0⟩⟩).toArray)]) (fun g_ a_ h_k => ⟨(h_k.inn 6 _ _ (by kernel_rfl) rfl rfl).trans (by kernel_rfl), trivial⟩) 45 (fun g_ => [.agg (tlc ⟨t.lv - 1, ⟨0, 0, 0⟩⟩).toArray]) [] [] (by kernel_rfl) (fun g_ X_ => (wn rfl)) (fun b_ g_ => by kernel_rfl) rfl (fun g_ X_ => litEv (by kernel_rfl)) (fun g_ X_ => litArgs (by kernel_rfl)) (fun b_ g_ w_ h_b h_ => (rside_any ⟨t.lv - 1, ⟨0, 0, 0⟩⟩ hsl_ _).mono (fun _ _ h_r => ⟨h_r.1.trans (by kernel_rfl), h_r.2⟩))) ?_
    refine aoNext rfl (aoCall (fun g_ => [(57, .agg (pcs (octP 0)).toArray), (59, .int .i64 (sideL (t.lv - 1)))]) (fun g_ a_ h_k => ⟨(h_k.inn 5 _ _ (by kernel_rfl) rfl rfl).trans (by kernel_rfl), (h_k.inn 7 _ _ (by kernel_rfl) rfl rfl).trans (by kernel_rfl), trivial⟩) 44 (fun g_ => [.agg (pcs (octP 0)).toArray, .int .i64 (sideL (t.lv - 1))]) [] [] (by kernel_rfl) (fun g_ X_ => (wn rfl)) (fun b_ g_ => by kernel_rfl) rfl (fun g_ X_ => litEv (by kernel_rfl)) (fun g_ X_ => litArgs (by kernel_rfl)) (fun b_ g_ w_ h_b h_ => (rscale_any (octP 0) (sideL (t.lv - 1)) (hm_ 0).1 (hm_ 0).2.1 (hm_ 0).2.2 _).mono (fun _ _ h_r => ⟨h_r.1.trans (by kernel_rfl), h_r.2⟩))) ?_
    refine aoNext rfl (aoCall (fun g_ => [(56, .agg (pcs t.p).toArray), (60, .agg (pcs ((octP 0).mul (sideL (t.lv - 1)))).toArray)]) (fun g_ a_ h_k => ⟨(h_k.inn 4 _ _ (by kernel_rfl) rfl rfl).trans (by kernel_rfl), (h_k.inn 8 _ _ (by kernel_rfl) rfl rfl).trans (by kernel_rfl), trivial⟩) 43 (fun g_ => [.agg (pcs t.p).toArray, .agg (pcs ((octP 0).mul (sideL (t.lv - 1)))).toArray]) [] [] (by kernel_rfl) (fun g_ X_ => (wn rfl)) (fun b_ g_ => by kernel_rfl) rfl (fun g_ X_ => litEv (by kernel_rfl)) (fun g_ X_ => litArgs (by kernel_rfl)) (fun b_ g_ w_ h_b h_ => (radd_any t.p ((octP 0).mul (sideL (t.lv - 1))) hp_ (ha_ 0) _).mono (fun _ _ h_r => ⟨h_r.1.trans (by kernel_rfl), h_r.2⟩))) ?_
    refine aoNext rfl (aoVal (fun g_ => [(10, .pointer (some ⟨g29, 0, none⟩))]) (fun g_ a_ h_k => ⟨(h_k.out 10 (by kernel_rfl)).trans (litGet (by kernel_rfl)), trivial⟩) (fun g_ X_ => (wn rfl)) (fun b_ g_ => by kernel_rfl) (fun b_ g_ X_ w_ h_b h_ => valTo (b := .pointer (some ⟨g29, 1, none⟩)) (by kernel_rfl) (litRun (by kernel_rfl)))) ?_
    refine aoNext rfl (aoStore (gb := fun g_ => g29) (k := 1) (cur := fun g_ => tlc ⟨t.lv - 1, ⟨0, 0, 0⟩⟩) (vs := fun g_ => pcs ((child t 0).p)) 2 (fun g_ => [(61, .agg (pcs ((child t 0).p)).toArray), (62, .pointer (some ⟨g29, 1, none⟩))]) (fun g_ a_ h_k => ⟨(h_k.inn 9 _ _ (by kernel_rfl) rfl rfl).trans (by kernel_rfl), (h_k.inn 10 _ _ (by kernel_rfl) rfl rfl).trans (by kernel_rfl), trivial⟩) Ty.ag_voxel_api_Point (fun b_ g_ h_b => by show some (Res.arr g29 38 (bsel (b_ 11) [.int .i64 (t.lv - 1), .int .i64 (((child t 0).p).x), .int .i64 (((child t 0).p).y), .int .i64 (((child t 0).p).z)] (tlc ⟨t.lv - 1, ⟨0, 0, 0⟩⟩))) = some (Res.arr g29 38 (tlc ⟨t.lv - 1, ⟨0, 0, 0⟩⟩)); rw [bselF h_b.no]) (fun g_ X_ => (wn rfl)) rfl (fun g_ X_ => litEv (by kernel_rfl)) (fun g_ X_ => litEv (by kernel_rfl)) (fun _ => by kernel_rfl) (fun _ => by kernel_rfl) (fun _ => by kernel_rfl) (fun b_ g_ h_b => by kernel_rfl) rfl) ?_
    exact aoDone (by decide)
  intro g_ a_ w36 hF_ hm35
  obtain ⟨X37, rfl⟩ := frLit (⟨hF_.size, hF_.defers, ⟨(hF_.out 0 (by kernel_rfl)).trans (litGet (by kernel_rfl)), (hF_.out 1 (by kernel_rfl)).trans (litGet (by kernel_rfl)), (hF_.out 4 (by kernel_rfl)).trans (litGet (by kernel_rfl)), (hF_.out 5 (by kernel_rfl)).trans (litGet (by kernel_rfl)), (hF_.out 6 (by kernel_rfl)).trans (litGet (by kernel_rfl)), (hF_.out 7 (by kernel_rfl)).trans (litGet (by kernel_rfl)), (hF_.out 8 (by kernel_rfl)).trans (litGet (by kernel_rfl)), (hF_.out 10 (by kernel_rfl)).trans (litGet (by kernel_rfl)), (hF_.out 36 (by kernel_rfl)).trans (litGet (by kernel_rfl)), (hF_.out 37 (by kernel_rfl)).trans (litGet (by kernel_rfl)), (hF_.out 40 (by kernel_rfl)).trans (litGet (by kernel_rfl)), (hF_.out 41 (by kernel_rfl)).trans (litGet (by kernel_rfl)), (hF_.out 42 (by kernel_rfl)).trans (litGet (by kernel_rfl)), (hF_.out 43 (by kernel_rfl)).trans (litGet (by kernel_rfl)), (hF_.out 44 (by kernel_rfl)).trans (litGet (by kernel_rfl)), (hF_.out 45 (by kernel_rfl)).trans (litGet (by kernel_rfl)), (hF_.out 46 (by kernel_rfl)).trans (litGet (by kernel_rfl)), (hF_.out 47 (by kernel_rfl)).trans (litGet (by kernel_rfl)), (hF_.out 48 (by kernel_rfl)).trans (litGet (by kernel_rfl)), (hF_.out 49 (by kernel_rfl)).trans (litGet (by kernel_rfl)), (hF_.out 50 (by kernel_rfl)).trans (litGet (by kernel_rfl)), (hF_.out 51 (by kernel_rfl)).trans (litGet (by kernel_rfl)), (hF_.inn 0 _ _ rfl rfl).trans (by kernel_rfl), (hF_.inn 1 _ _ rfl rfl).trans (by kernel_rfl), (hF_.inn 2 _ _ rfl rfl).trans (by kernel_rfl), (hF_.inn 3 _ _ rfl rfl).trans (by kernel_rfl), (hF_.inn 4 _ _ rfl rfl).trans (by kernel_rfl), (hF_.inn 5 _ _ rfl rfl).trans (by kernel_rfl), (hF_.inn 6 _ _ rfl rfl).trans (by kernel_rfl), (hF_.inn 7 _ _ rfl rfl).trans (by kernel_rfl), (hF_.inn 8 _ _ rfl rfl).trans (by kernel_rfl), (hF_.inn 9 _ _ rfl rfl).trans (by kernel_rfl), (hF_.inn 10 _ _ rfl rfl).trans (by kernel_rfl), trivial⟩⟩ : Fr _ 73 [(0, .slice (some ⟨b, off, none⟩) l.length c), (1, .int .i64 (k : Int)), (4, .slice none 0 0), (5, .int .i64 0), (6, .slice A12 ((l.take k ++ chT t 0).length) c13), (7, .int .i64 0), (8, .pointer (some ⟨g23, 0, none⟩)), (10, .pointer (some ⟨g29, 0, none⟩)), (36, .int .i64 0), (37, .bool true), (40, .tuple #[.agg (pcs (octP 0)).toArray, .bool true]), (41, .int .i64 0), (42, .tuple #[.agg (pcs (octP 0)).toArray, .bool true]), (43, .agg (pcs (octP 0)).toArray), (44, .bool true), (45, .slice (some ⟨b, off, none⟩) l.length c), (46, .int .i64 (k : Int)), (47, .pointer (some ⟨b, off + k * 4, none⟩)), (48, .pointer (some ⟨b, off + k * 4, none⟩)), (49, .int .i64 t.lv), (50, .int .i64 (t.lv - 1)), (51, .agg (tlc ⟨t.lv - 1, ⟨0, 0, 0⟩⟩).toArray), (52, .slice (some ⟨b, off, none⟩) l.length c), (53, .int .i64 (k : Int)), (54, .pointer (some ⟨b, off + k * 4, none⟩)), (55, .pointer (some ⟨b, off + k * 4 + 1, none⟩)), (56, .agg (pcs t.p).toArray), (57, .agg (pcs (octP 0)).toArray), (58, .agg (tlc ⟨t.lv - 1, ⟨0, 0, 0⟩⟩).toArray), (59, .int .i64 (sideL (t.lv - 1))), (60, .agg (pcs ((octP 0).mul (sideL (t.lv - 1)))).toArray), (61, .agg (pcs ((child t 0).p)).toArray), (62, .pointer (some ⟨g29, 1, none⟩))])
  clear hF_
  have hm38 : Mem w w36 [.row (.slice A12 ((l.take k ++ chT t 0).length) c13) 38 4 ((l.take k ++ chT t 0).length) (tlsC (l.take k ++ chT t 0)), .arr g23 23 (pcs (octP 0)), .arr g29 38 ([.int .i64 (t.lv - 1), .int .i64 (((child t 0).p).x), .int .i64 (((child t 0).p).y), .int .i64 (((child t 0).p).z)])] := hm35
  clear hm35 hm32
  refine then_normal (hK34 _ _ ?_)
  refine plStart ?_
  refine lk (v := .slice A12 ((l.take k ++ chT t 0).length) c13) rfl rfl rfl ?_
  refine litVal (v := .agg (tlc ⟨t.lv - 1, ((child t 0).p)⟩).toArray) rfl (wn rfl) (gLoadAg (vs := tlc ⟨t.lv - 1, ((child t 0).p)⟩) (k := 0) 2 hm38 rfl (by kernel_rfl) (by kernel_rfl) (.tmp 10) Ty.ag_voxel_api_Tile rfl (litEv (by kernel_rfl))) rfl (by decide) ?_
  refine plLit (cs := [.int .i64 (t.lv - 1), .int .i64 (((child t 0).p).x), .int .i64 (((child t 0).p).y), .int .i64 (((child t 0).p).z)]) (n := 1) Ty.sl_L_api_Tile hm38 (i := 2) rfl (wn rfl) rfl (by decide) (by decide) (by rw [lit_eval]; kernel_rfl) ?_
  intro g39 w41 hm40
  clear hm38
  try simp only [List.cons_append, List.nil_append, List.set_cons_succ, List.set_cons_zero] at hm40
  refine qP rfl ?_
  refine plApp1 (v := .slice A12 ((l.take k ++ chT t 0).length) c13) (n := (l.take k ++ chT t 0).length) (xs := tlsC (l.take k ++ chT t 0)) (ys := [.int .i64 (t.lv - 1), .int .i64 (((child t 0).p).x), .int .i64 (((child t 0).p).y), .int .i64 (((child t 0).p).z)]) 0 3 Ty.sl_L_api_Tile hm40 rfl rfl (i := 3) rfl (wn rfl) rfl (litEv (by kernel_rfl)) (litEv (by kernel_rfl)) (by kernel_rfl) (by kernel_rfl) (by simp only [List.length_append, chT_len, List.length_take]; omega) (by simp only [List.length_append, chT_len, List.length_take]; omega) ?_
  intro v46 w43 hm42
  clear hm40
  try simp only [List.cons_append, List.nil_append, List.set_cons_succ, List.set_cons_zero] at hm42
  replace hm42 := Mem.rowEq (v := v46) (e := 38) (size := 4) (n := ((l.take k ++ chT t 0).length) + 1) (n' := (l.take k ++ chT t 1).length) (xs := (tlsC (l.take k ++ chT t 0)) ++ ([.int .i64 (t.lv - 1), .int .i64 (((child t 0).p).x), .int .i64 (((child t 0).p).y), .int .i64 (((child t 0).p).z)])) (xs' := tlsC (l.take k ++ chT t 1)) 0 hm42 rfl (by rw [List.length_append, List.length_append, chT_len, chT_len]) (tls_ch _ t 0)
  try simp only [List.cons_append, List.nil_append, List.set_cons_succ, List.set_cons_zero] at hm42
  obtain ⟨A44, c45, rfl⟩ := Mem.rowSl (v := v46) (e := 38) (size := 4) (n := (l.take k ++ chT t 1).length) (xs := tlsC (l.take k ++ chT t 1)) 0 hm42 rfl
  refine qP rfl ?_
  refine lk (v := .slice A44 ((l.take k ++ chT t 1).length) c45) rfl rfl rfl ?_
  refine plD ?_
  refine inBlock_normal ?_
  refine then_normal (hK19 _ _ ?_)
  refine plStart ?_
  refine lk (v := .int .i64 0) rfl rfl rfl ?_
  refine lk (v := .int .i64 1) rfl rfl rfl ?_
  refine lk (v := .int .i64 1) rfl rfl rfl ?_
  refine plD ?_
  refine then_normal (roundsNext ?_)
  have hm47 : Mem w w43 [.row (.slice A44 ((l.take k ++ chT t 1).length) c45) 38 4 ((l.take k ++ chT t 1).length) (tlsC (l.take k ++ chT t 1))] := (hm42.sub (.cons_cons _ (.cons _ (.cons _ (.cons _ .slnil)))))
  clear hm42
  refine wp_seq_k fun K48 hK48 => ?_
  refine wp_seq_k fun K49 hK49 => ?_
  refine plStart ?_
  refine lk (v := .int .i64 1) rfl rfl rfl ?_
  refine lk (v := .bool true) rfl rfl rfl ?_
  refine plD ?_
  refine then_normal (hK49 _ _ ?_)
  refine wp_cond_true (litEv (by kernel_rfl)) ?_
  refine wp_skip ?_
  refine then_normal (hK48 _ _ ?_)
  refine wp_seq_k fun K50 hK50 => ?_
  refine wp_block ?_
  refine wp_seq_k fun K51 hK51 => ?_
  refine plStart ?_
  refine lk (v := .int .i64 1) rfl rfl rfl ?_
  refine plCall (i := 1) 42 [.int .i64 1] [] [] rfl (by kernel_rfl) (wn rfl) rfl (litEv (by kernel_rfl)) (litArgs (by kernel_rfl)) (rdecodeK_any (k := 1) (by decide) rfl _) ?_
  rintro e w52 ⟨rfl, hbz⟩
  have hm53 := hm47.below hbz
  clear hbz hm47
  refine ⟨_, rfl, ?_⟩
  refine qP rfl ?_
  refine lk (v := .tuple #[.agg (pcs (octP 1)).toArray, .bool true]) rfl rfl rfl ?_
  refine lk (v := .agg (pcs (octP 1)).toArray) rfl rfl rfl ?_
  refine lk (v := .bool true) rfl rfl rfl ?_
  refine plAlloc (z := [.int .i64 0, .int .i64 0, .int .i64 0]) Ty.ag_voxel_api_Point hm53 (i := 5) rfl (wn rfl) rfl ?_
  intro g54 w56 hm55
  clear hm53
  try simp only [List.cons_append, List.nil_append, List.set_cons_succ, List.set_cons_zero] at hm55
  refine qP rfl ?_
  refine plStore 1 Ty.ag_voxel_api_Point hm55 rfl (i := 6) (cs := pcs (octP 1)) rfl (wn rfl) rfl (litEv (by kernel_rfl)) (litEv (by kernel_rfl)) rfl rfl (by kernel_rfl) ?_
  intro w58 hm57
  clear hm55
  try simp only [List.cons_append, List.nil_append, List.set_cons_succ, List.set_cons_zero] at hm57
  refine qNone rfl ?_
  refine lk (v := .bool true) rfl rfl rfl ?_
  refine plD ?_
  refine then_normal (hK51 _ _ ?_)
  refine wp_seq_k fun K59 hK59 => ?_
  refine plStart ?_
  refine lk (v := .slice (some ⟨b, off, none⟩) l.length c) rfl rfl rfl ?_
  refine lk (v := .int .i64 (k : Int)) rfl rfl rfl ?_
  refine litVal (v := .pointer (some ⟨b, off + k * 4, none⟩)) rfl (wn rfl) (gIaSl (b := b) (off := off) (n := l.length) (c := c) (kk := .i64) (K := (k : Int)) (.tmp 45) (.tmp 46) k Ty.sl_L_api_Tile rfl (litEv (by kernel_rfl)) (litEv (by kernel_rfl)) (rfl) (by omega)) rfl (by decide) ?_
  refine lk (v := .pointer (some ⟨b, off + k * 4, none⟩)) rfl rfl rfl ?_
  refine litVal (v := .int .i64 t.lv) rfl (wn rfl) (gLoadRd (v := .int .i64 t.lv) (m := k * 4) ((Rd.below hr hm57.bel).more hm57.bel.size) rfl (tlsC_get hk 0 _ rfl) (by omega) (.tmp 48) (by kernel_rfl) rfl (litEv (by kernel_rfl))) rfl (by decide) ?_
  refine litVal (v := .int .i64 (t.lv - 1)) rfl (wn rfl) (subRun (A := t.lv) (B := 1) (C := t.lv - 1) (.tmp 49) (.const (.int .i64 1)) rfl (litEv (by kernel_rfl)) (litEv (by kernel_rfl)) rfl (by omega)) rfl (by decide) ?_
  refine lk (v := .agg (tlc ⟨t.lv - 1, ⟨0, 0, 0⟩⟩).toArray) rfl rfl rfl ?_
  refine plAlloc (z := [.int .i64 0, .int .i64 0, .int .i64 0, .int .i64 0]) Ty.ag_voxel_api_Tile hm57 (i := 7) rfl (wn rfl) rfl ?_
  intro g60 w62 hm61
  clear hm57
  try simp only [List.cons_append, List.nil_append, List.set_cons_succ, List.set_cons_zero] at hm61
  refine qP rfl ?_
  refine plStore 2 Ty.ag_voxel_api_Tile hm61 rfl (i := 8) (cs := tlc ⟨t.lv - 1, ⟨0, 0, 0⟩⟩) rfl (wn rfl) rfl (litEv (by kernel_rfl)) (litEv (by kernel_rfl)) rfl rfl (by kernel_rfl) ?_
  intro w64 hm63
  clear hm61
  try simp only [List.cons_append, List.nil_append, List.set_cons_succ, List.set_cons_zero] at hm63
  refine qNone rfl ?_
  refine plD ?_
  refine then_normal (hK59 _ _ ?_)
  refine wpPrune [(0, .slice (some ⟨b, off, none⟩) l.length c), (1, .int .i64 (k : Int)), (4, .slice none 0 0), (5, .int .i64 0), (6, .slice A44 ((l.take k ++ chT t 1).length) c45), (7, .int .i64 1), (8, .pointer (some ⟨g54, 0, none⟩)), (10, .pointer (some ⟨g60, 0, none⟩)), (36, .int .i64 1), (37, .bool true), (38, .int .i64 0), (39, .int .i64 1), (40, .tuple #[.agg (pcs (octP 1)).toArray, .bool true]), (41, .int .i64 1), (42, .tuple #[.agg (pcs (octP 1)).toArray, .bool true]), (43, .agg (pcs (octP 1)).toArray), (44, .bool true), (45, .slice (some ⟨b, off, none⟩) l.length c), (46, .int .i64 (k : Int)), (47, .pointer (some ⟨b, off + k * 4, none⟩)), (48, .pointer (some ⟨b, off + k * 4, none⟩)), (49, .int .i64 t.lv), (50, .int .i64 (t.lv - 1)), (51, .agg (tlc ⟨t.lv - 1, ⟨0, 0, 0⟩⟩).toArray), (52, .slice (some ⟨b, off, none⟩) l.length c), (53, .int .i64 (k : Int)), (54, .pointer (some ⟨b, off + k * 4, none⟩)), (55, .pointer (some ⟨b, off + k * 4 + 1, none⟩)), (56, .agg (pcs t.p).toArray), (57, .agg (pcs (octP 0)).toArray), (58, .agg (tlc ⟨t.lv - 1, ⟨0, 0, 0⟩⟩).toArray), (59, .int .i64 (sideL (t.lv - 1))), (60, .agg (pcs ((octP 0).mul (sideL (t.lv - 1)))).toArray), (61, .agg (pcs ((child t 0).p)).toArray), (62, .pointer (some ⟨g29, 1, none⟩)), (63, .slice A12 ((l.take k ++ chT t 0).length) c13), (64, .agg (tlc ⟨t.lv - 1, ((child t 0).p)⟩).toArray), (65, .slice (some ⟨g39, 0, none⟩) 1 1), (66, .slice A44 ((l.take k ++ chT t 1).length) c45)] ⟨litGet (by kernel_rfl), ⟨litGet (by kernel_rfl), ⟨litGet (by kernel_rfl), ⟨litGet (by kernel_rfl), ⟨litGet (by kernel_rfl), ⟨litGet (by kernel_rfl), ⟨litGet (by kernel_rfl), ⟨litGet (by kernel_rfl), ⟨litGet (by kernel_rfl), ⟨litGet (by kernel_rfl), ⟨litGet (by kernel_rfl), ⟨litGet (by kernel_rfl), ⟨litGet (by kernel_rfl), ⟨litGet (by kernel_rfl), ⟨litGet (by kernel_rfl), ⟨litGet (by kernel_rfl), ⟨litGet (by kernel_rfl), ⟨litGet (by kernel_rfl), ⟨litGet (by kernel_rfl), ⟨litGet (by kernel_rfl), ⟨litGet (by kernel_rfl), ⟨litGet (by kernel_rfl), ⟨litGet (by kernel_rfl), ⟨litGet (by kernel_rfl), ⟨litGet (by kernel_rfl), ⟨litGet (by kernel_rfl), ⟨litGet (by kernel_rfl), ⟨litGet (by kernel_rfl), ⟨litGet (by kernel_rfl), ⟨litGet (by kernel_rfl), ⟨litGet (by kernel_rfl), ⟨litGet (by kernel_rfl), ⟨litGet (by kernel_rfl), ⟨litGet (by kernel_rfl), ⟨litGet (by kernel_rfl), ⟨litGet (by kernel_rfl), ⟨litGet (by kernel_rfl), ⟨litGet (by kernel_rfl), ⟨litGet (by kernel_rfl), trivial⟩⟩⟩⟩⟩⟩⟩⟩⟩⟩⟩⟩⟩⟩⟩⟩⟩⟩⟩⟩⟩⟩⟩⟩⟩⟩⟩⟩⟩⟩⟩⟩⟩⟩⟩⟩⟩⟩⟩ (fun X65 => ?_)
  refine wp_seq_k fun K66 hK66 => ?_
  refine aoStart (aoV [fun _ => .slice (some ⟨b, off, none⟩) l.length c, fun _ => .int .i64 (k : Int), fun _ => .pointer (some ⟨b, off + k * 4, none⟩), fun _ => .pointer (some ⟨b, off + k * 4 + 1, none⟩), fun _ => .agg (pcs t.p).toArray, fun _ => .agg (pcs (octP 1)).toArray, fun _ => .agg (tlc ⟨t.lv - 1, ⟨0, 0, 0⟩⟩).toArray, fun _ => .int .i64 (sideL (t.lv - 1)), fun _ => .agg (pcs ((octP 1).mul (sideL (t.lv - 1)))).toArray, fun _ => .agg (pcs ((child t 1).p)).toArray, fun _ => .pointer (some ⟨g60, 1, none⟩), fun _ => undef]) (aoA [0, 1, 2, 3, 4, 5, 6, 7, 8, 9, 10, 11]) (fun b_ g_ => ((.row (.slice A44 ((l.take k ++ chT t 1).length) c45) 38 4 ((l.take k ++ chT t 1).length) (tlsC (l.take k ++ chT t 1))) :: (.arr g54 23 (pcs (octP 1))) :: (.arr g60 38 (bsel (b_ 11) [.int .i64 (t.lv - 1), .int .i64 (((child t 1).p).x), .int .i64 (((child t 1).p).y), .int .i64 (((child t 1).p).z)] (tlc ⟨t.lv - 1, ⟨0, 0, 0⟩⟩))) :: [])) hm63 (by kernel_rfl) (by kernel_rfl) (fun w_ h_ => h_) (fun b_ g_ h_ => by show (fun (x11_ : Bool) => (((.row (.slice A44 ((l.take k ++ chT t 1).length) c45) 38 4 ((l.take k ++ chT t 1).length) (tlsC (l.take k ++ chT t 1))) :: (.arr g54 23 (pcs (octP 1))) :: (.arr g60 38 (bsel x11_ [.int .i64 (t.lv - 1), .int .i64 (((child t 1).p).x), .int .i64 (((child t 1).p).y), .int .i64 (((child t 1).p).z)] (tlc ⟨t.lv - 1, ⟨0, 0, 0⟩⟩))) :: []) : List Res)) (b_ 11) = _; rw [h_ 11 (by decide)]) ?_ ?_
  · refine aoNext rfl (aoVal (fun g_ => [(0, .slice (some ⟨b, off, none⟩) l.length c)]) (fun g_ a_ h_k => ⟨(h_k.out 0 (by kernel_rfl)).trans (litGet (by kernel_rfl)), trivial⟩) (fun g_ X_ => (wn rfl)) (fun b_ g_ => by kernel_rfl) (fun b_ g_ X_ w_ h_b h_ => valTo (b := .slice (some ⟨b, off, none⟩) l.length c) (by kernel_rfl) (litRun (by kernel_rfl)))) ?_
    refine aoNext rfl (aoVal (fun g_ => [(1, .int .i64 (k : Int))]) (fun g_ a_ h_k => ⟨(h_k.out 1 (by kernel_rfl)).trans (litGet (by kernel_rfl)), trivial⟩) (fun g_ X_ => (wn rfl)) (fun b_ g_ => by kernel_rfl) (fun b_ g_ X_ w_ h_b h_ => valTo (b := .int .i64 (k : Int)) (by kernel_rfl) (litRun (by kernel_rfl)))) ?_
    refine aoNext rfl (aoVal (fun g_ => [(52, .slice (some ⟨b, off, none⟩) l.length c), (53, .int .i64 (k : Int))]) (fun g_ a_ h_k => ⟨(h_k.inn 0 _ _ (by kernel_rfl) rfl rfl).trans (by kernel_rfl), (h_k.inn 1 _ _ (by kernel_rfl) rfl rfl).trans (by kernel_rfl), trivial⟩) (fun g_ X_ => (wn rfl)) (fun b_ g_ => by kernel_rfl) (fun b_ g_ X_ w_ h_b h_ => valTo (b := .pointer (some ⟨b, off + k * 4, none⟩)) (by kernel_rfl) (gIaSl (b := b) (off := off) (n := l.length) (c := c) (kk := .i64) (K := (k : Int)) (.tmp 52) (.tmp 53) k Ty.sl_L_api_Tile rfl (litEv (by kernel_rfl)) (litEv (by kernel_rfl)) (rfl) (by omega)))) ?_
    refine aoNext rfl (aoVal (fun g_ => [(54, .pointer (some ⟨b, off + k * 4, none⟩))]) (fun g_ a_ h_k => ⟨(h_k.inn 2 _ _ (by kernel_rfl) rfl rfl).trans (by kernel_rfl), trivial⟩) (fun g_ X_ => (wn rfl)) (fun b_ g_ => by kernel_rfl) (fun b_ g_ X_ w_ h_b h_ => valTo (b := .pointer (some ⟨b, off + k * 4 + 1, none⟩)) (by kernel_rfl) (litRun (by kernel_rfl)))) ?_
    refine aoNext rfl (aoVal (fun g_ => [(55, .pointer (some ⟨b, off + k * 4 + 1, none⟩))]) (fun g_ a_ h_k => ⟨(h_k.inn 3 _ _ (by kernel_rfl) rfl rfl).trans (by kernel_rfl), trivial⟩) (fun g_ X_ => (wn rfl)) (fun b_ g_ => by kernel_rfl) (fun b_ g_ X_ w_ h_b h_ => valTo (b := .agg (pcs t.p).toArray) (by kernel_rfl) ((fun (h_ : Mem _ w_ ((.row (.slice A44 ((l.take k ++ chT t 1).length) c45) 38 4 ((l.take k ++ chT t 1).length) (tlsC (l.take k ++ chT t 1))) :: (.arr g54 23 (pcs (octP 1))) :: (.arr g60 38 (tlc ⟨t.lv - 1, ⟨0, 0, 0⟩⟩)) :: [])) => gLoadAgRd (vs := pcs t.p) (m := k * 4 + 1) ((Rd.below hr h_.bel).more h_.bel.size) rfl (fun i_ u_ hu_ => by have := tlsC_get hk (1 + i_) u_ (by rw [Nat.add_comm]; exact hu_); rw [← Nat.add_assoc] at this; exact this) (by kernel_rfl) (by omega) (.tmp 55) Ty.ag_voxel_api_Point rfl (litEv (by kernel_rfl))) (by have h2_ : Mem w w_ ((.row (.slice A44 ((l.take k ++ chT t 1).length) c45) 38 4 ((l.take k ++ chT t 1).length) (tlsC (l.take k ++ chT t 1))) :: (.arr g54 23 (pcs (octP 1))) :: (.arr g60 38 (bsel (b_ 11) [.int .i64 (t.lv - 1), .int .i64 (((child t 1).p).x), .int .i64 (((child t 1).p).y), .int .i64 (((child t 1).p).z)] (tlc ⟨t.lv - 1, ⟨0, 0, 0⟩⟩))) :: []) := h_; rw [bselF (h_b.post 11 (by kernel_rfl))] at h2_; exact h2_)))) ?_
    refine aoNext rfl (aoVal (fun g_ => [(8, .pointer (some ⟨g54, 0, none⟩))]) (fun g_ a_ h_k => ⟨(h_k.out 8 (by kernel_rfl)).trans (litGet (by kernel_rfl)), trivial⟩) (fun g_ X_ => (wn rfl)) (fun b_ g_ => by kernel_rfl) (fun b_ g_ X_ w_ h_b h_ => valTo (b := .agg (pcs (octP 1)).toArray) (by kernel_rfl) ((fun (h_ : Mem _ w_ ((.row (.slice A44 ((l.take k ++ chT t 1).length) c45) 38 4 ((l.take k ++ chT t 1).length) (tlsC (l.take k ++ chT t 1))) :: (.arr g54 23 (pcs (octP 1))) :: (.arr g60 38 (tlc ⟨t.lv - 1, ⟨0, 0, 0⟩⟩)) :: [])) => gLoadAg (vs := pcs (octP 1)) (k := 0) 1 h_ rfl (by kernel_rfl) (by kernel_rfl) (.tmp 8) Ty.ag_voxel_api_Point rfl (litEv (by kernel_rfl))) (by have h2_ : Mem w w_ ((.row (.slice A44 ((l.take k ++ chT t 1).length) c45) 38 4 ((l.take k ++ chT t 1).length) (tlsC (l.take k ++ chT t 1))) :: (.arr g54 23 (pcs (octP 1))) :: (.arr g60 38 (bsel (b_ 11) [.int .i64 (t.lv - 1), .int .i64 (((child t 1).p).x), .int .i64 (((child t 1).p).y), .int .i64 (((child t 1).p).z)] (tlc ⟨t.lv - 1, ⟨0, 0, 0⟩⟩))) :: []) := h_; rw [bselF (h_b.post 11 (by kernel_rfl))] at h2_; exact h2_)))) ?_
    refine aoNext rfl (aoVal (fun g_ => [(10, .pointer (some ⟨g60, 0, none⟩))]) (fun g_ a_ h_k => ⟨(h_k.out 10 (by kernel_rfl)).trans (litGet (by kernel_rfl)), trivial⟩) (fun g_ X_ => (wn rfl)) (fun b_ g_ => by kernel_rfl) (fun b_ g_ X_ w_ h_b h_ => valTo (b := .agg (tlc ⟨t.lv - 1, ⟨0, 0, 0⟩⟩).toArray) (by kernel_rfl) ((fun (h_ : Mem _ w_ ((.row (.slice A44 ((l.take k ++ chT t 1).length) c45) 38 4 ((l.take k ++ chT t 1).length) (tlsC (l.take k ++ chT t 1))) :: (.arr g54 23 (pcs (octP 1))) :: (.arr g60 38 (tlc ⟨t.lv - 1, ⟨0, 0, 0⟩⟩)) :: [])) => gLoadAg (vs := tlc ⟨t.lv - 1, ⟨0, 0, 0⟩⟩) (k := 0) 2 h_ rfl (by kernel_rfl) (by kernel_rfl) (.tmp 10) Ty.ag_voxel_api_Tile rfl (litEv (by kernel_rfl))) (by have h2_ : Mem w w_ ((.row (.slice A44 ((l.take k ++ chT t 1).length) c45) 38 4 ((l.take k ++ chT t 1).length) (tlsC (l.take k ++ chT t 1))) :: (.arr g54 23 (pcs (octP 1))) :: (.arr g60 38 (bsel (b_ 11) [.int .i64 (t.lv - 1), .int .i64 (((child t 1).p).x), .int .i64 (((child t 1).p).y), .int .i64 (((child t 1).p).z)] (tlc ⟨t.lv - 1, ⟨0, 0, 0⟩⟩))) :: []) := h_; rw [bselF (h_b.post 11 (by kernel_rfl))] at h2_; exact h2_)))) ?_
    refine aoNext rfl (aoCall (fun g_ => [(58, .agg (tlc ⟨t.lv - 1, ⟨0, 0, 0⟩⟩).toArray)]) (fun g_ a_ h_k => ⟨(h_k.inn 6 _ _ (by kernel_rfl) rfl rfl).trans (by kernel_rfl), trivial⟩) 45 (fun g_ => [.agg (tlc ⟨t.lv - 1, ⟨0, 0, 0⟩⟩).toArray]) [] [] (by kernel_rfl) (fun g_ X_ => (wn rfl)) (fun b_ g_ => by kernel_rfl) rfl (fun g_ X_ => litEv (by kernel_rfl)) (fun g_ X_ => litArgs (by kernel_rfl)) (fun b_ g_ w_ h_b h_ => (rside_any ⟨t.lv - 1, ⟨0, 0, 0⟩⟩ hsl_ _).mono (fun _ _ h_r => ⟨h_r.1.trans (by kernel_rfl), h_r.2⟩))) ?_
    refine aoNext rfl (aoCall (fun g_ => [(57, .agg (pcs (octP 1)).toArray), (59, .int .i64 (sideL (t.lv - 1)))]) (fun g_ a_ h_k => ⟨(h_k.inn 5 _ _ (by kernel_rfl) rfl rfl).trans (by kernel_rfl), (h_k.inn 7 _ _ (by kernel_rfl) rfl rfl).trans (by kernel_rfl), trivial⟩) 44 (fun g_ => [.agg (pcs (octP 1)).toArray, .int .i64 (sideL (t.lv - 1))]) [] [] (by kernel_rfl) (fun g_ X_ => (wn rfl)) (fun b_ g_ => by kernel_rfl) rfl (fun g_ X_ => litEv (by kernel_rfl)) (fun g_ X_ => litArgs (by kernel_rfl)) (fun b_ g_ w_ h_b h_ => (rscale_any (octP 1) (sideL (t.lv - 1)) (hm_ 1).1 (hm_ 1).2.1 (hm_ 1).2.2 _).mono (fun _ _ h_r => ⟨h_r.1.trans (by kernel_rfl), h_r.2⟩))) ?_
    refine aoNext rfl (aoCall (fun g_ => [(56, .agg (pcs t.p).toArray), (60, .agg (pcs ((octP 1).mul (sideL (t.lv - 1)))).toArray)]) (fun g_ a_ h_k => ⟨(h_k.inn 4 _ _ (by kernel_rfl) rfl rfl).trans (by kernel_rfl), (h_k.inn 8 _ _ (by kernel_rfl) rfl rfl).trans (by kernel_rfl), trivial⟩) 43 (fun g_ => [.agg (pcs t.p).toArray, .agg (pcs ((octP 1).mul (sideL (t.lv - 1)))).toArray]) [] [] (by kernel_rfl) (fun g_ X_ => (wn rfl)) (fun b_ g_ => by kernel_rfl) rfl (fun g_ X_ => litEv (by kernel_rfl)) (fun g_ X_ => litArgs (by kernel_rfl)) (fun b_ g_ w_ h_b h_ => (radd_any t.p ((octP 1).mul (sideL (t.lv - 1))) hp_ (ha_ 1) _).mono (fun _ _ h_r => ⟨h_r.1.trans (by kernel_rfl), h_r.2⟩))) ?_
    refine aoNext rfl (aoVal (fun g_ => [(10, .pointer (some ⟨g60, 0, none⟩))]) (fun g_ a_ h_k => ⟨(h_k.out 10 (by kernel_rfl)).trans (litGet (by kernel_rfl)), trivial⟩) (fun g_ X_ => (wn rfl)) (fun b_ g_ => by kernel_rfl) (fun b_ g_ X_ w_ h_b h_ => valTo (b := .pointer (some ⟨g60, 1, none⟩)) (by kernel_rfl) (litRun (by kernel_rfl)))) ?_
    refine aoNext rfl (aoStore (gb := fun g_ => g60) (k := 1) (cur := fun g_ => tlc ⟨t.lv - 1, ⟨0, 0, 0⟩⟩) (vs := fun g_ => pcs ((child t 1).p)) 2 (fun g_ => [(61, .agg (pcs ((child t 1).p)).toArray), (62, .pointer (some ⟨g60, 1, none⟩))]) (fun g_ a_ h_k => ⟨(h_k.inn 9 _ _ (by kernel_rfl) rfl rfl).trans (by kernel_rfl), (h_k.inn 10 _ _ (by kernel_rfl) rfl rfl).trans (by kernel_rfl), trivial⟩) Ty.ag_voxel_api_Point (fun b_ g_ h_b => by show some (Res.arr g60 38 (bsel (b_ 11) [.int .i64 (t.lv - 1), .int .i64 (((child t 1).p).x), .int .i64 (((child t 1).p).y), .int .i64 (((child t 1).p).z)] (tlc ⟨t.lv - 1, ⟨0, 0, 0⟩⟩))) = some (Res.arr g60 38 (tlc ⟨t.lv - 1, ⟨0, 0, 0⟩⟩)); rw [bselF h_b.no]) (fun g_ X_ => (wn rfl)) rfl (fun g_ X_ => litEv (by kernel_rfl)) (fun g_ X_ => litEv (by kernel_rfl)) (fun _ => by kernel_rfl) (fun _ => by kernel_rfl) (fun _ => by kernel_rfl) (fun b_ g_ h_b => by kernel_rfl) rfl) ?_
    exact aoDone (by decide)
  intro g_ a_ w68 hF_ hm67
  obtain ⟨X69, rfl⟩ := frLit (⟨hF_.size, hF_.defers, ⟨(hF_.out 0 (by kernel_rfl)).trans (litGet (by kernel_rfl)), (hF_.out 1 (by kernel_rfl)).trans (litGet (by kernel_rfl)), (hF_.out 4 (by kernel_rfl)).trans (litGet (by kernel_rfl)), (hF_.out 5 (by kernel_rfl)).trans (litGet (by kernel_rfl)), (hF_.out 6 (by kernel_rfl)).trans (litGet (by kernel_rfl)), (hF_.out 7 (by kernel_rfl)).trans (litGet (by kernel_rfl)), (hF_.out 8 (by kernel_rfl)).trans (litGet (by kernel_rfl)), (hF_.out 10 (by kernel_rfl)).trans (litGet (by kernel_rfl)), (hF_.out 36 (by kernel_rfl)).trans (litGet (by kernel_rfl)), (hF_.out 37 (by kernel_rfl)).trans (litGet (by kernel_rfl)), (hF_.out 38 (by kernel_rfl)).trans (litGet (by kernel_rfl)), (hF_.out 39 (by kernel_rfl)).trans (litGet (by kernel_rfl)), (hF_.out 40 (by kernel_rfl)).trans (litGet (by kernel_rfl)), (hF_.out 41 (by kernel_rfl)).trans (litGet (by kernel_rfl)), (hF_.out 42 (by kernel_rfl)).trans (litGet (by kernel_rfl)), (hF_.out 43 (by kernel_rfl)).trans (litGet (by kernel_rfl)), (hF_.out 44 (by kernel_rfl)).trans (litGet (by kernel_rfl)), (hF_.out 45 (by kernel_rfl)).trans (litGet (by kernel_rfl)), (hF_.out 46 (by kernel_rfl)).trans (litGet (by kernel_rfl)), (hF_.out 47 (by kernel_rfl)).trans (litGet (by kernel_rfl)), (hF_.out 48 (by kernel_rfl)).trans (litGet (by kernel_rfl)), (hF_.out 49 (by kernel_rfl)).trans (litGet (by kernel_rfl)), (hF_.out 50 (by kernel_rfl)).trans (litGet (by kernel_rfl)), (hF_.out 51 (by kernel_rfl)).trans (litGet (by kernel_rfl)), (hF_.inn 0 _ _ rfl rfl).trans (by kernel_rfl), (hF_.inn 1 _ _ rfl rfl).trans (by kernel_rfl), (hF_.inn 2 _ _ rfl rfl).trans (by kernel_rfl), (hF_.inn 3 _ _ rfl rfl).trans (by kernel_rfl), (hF_.inn 4 _ _ rfl rfl).trans (by kernel_rfl), (hF_.inn 5 _ _ rfl rfl).trans (by kernel_rfl), (hF_.inn 6 _ _ rfl rfl).trans (by kernel_rfl), (hF_.inn 7 _ _ rfl rfl).trans (by kernel_rfl), (hF_.inn 8 _ _ rfl rfl).trans (by kernel_rfl), (hF_.inn 9 _ _ rfl rfl).trans (by kernel_rfl), (hF_.inn 10 _ _ rfl rfl).trans (by kernel_rfl), (hF_.out 63 (by kernel_rfl)).trans (litGet (by kernel_rfl)), (hF_.out 64 (by kernel_rfl)).trans (litGet (by kernel_rfl)), (hF_.out 65 (by kernel_rfl)).trans (litGet (by kernel_rfl)), (hF_.out 66 (by kernel_rfl)).trans (litGet (by kernel_rfl)), trivial⟩⟩ : Fr _ 73 [(0, .slice (some ⟨b, off, none⟩) l.length c), (1, .int .i64 (k : Int)), (4, .slice none 0 0), (5, .int .i64 0), (6, .slice A44 ((l.take k ++ chT t 1).length) c45), (7, .int .i64 1), (8, .pointer (some ⟨g54, 0, none⟩)), (10, .pointer (some ⟨g60, 0, none⟩)), (36, .int .i64 1), (37, .bool true), (38, .int .i64 0), (39, .int .i64 1), (40, .tuple #[.agg (pcs (octP 1)).toArray, .bool true]), (41, .int .i64 1), (42, .tuple #[.agg (pcs (octP 1)).toArray, .bool true]), (43, .agg (pcs (octP 1)).toArray), (44, .bool true), (45, .slice (some ⟨b, off, none⟩) l.length c), (46, .int .i64 (k : Int)), (47, .pointer (some ⟨b, off + k * 4, none⟩)), (48, .pointer (some ⟨b, off + k * 4, none⟩)), (49, .int .i64 t.lv), (50, .int .i64 (t.lv - 1)), (51, .agg (tlc ⟨t.lv - 1, ⟨0, 0, 0⟩⟩).toArray), (52, .slice (some ⟨b, off, none⟩) l.length c), (53, .int .i64 (k : Int)), (54, .pointer (some ⟨b, off + k * 4, none⟩)), (55, .pointer (some ⟨b, off + k * 4 + 1, none⟩)), (56, .agg (pcs t.p).toArray), (57, .agg (pcs (octP 1)).toArray), (58, .agg (tlc ⟨t.lv - 1, ⟨0, 0, 0⟩⟩).toArray), (59, .int .i64 (sideL (t.lv - 1))), (60, .agg (pcs ((octP 1).mul (sideL (t.lv - 1)))).toArray), (61, .agg (pcs ((child t 1).p)).toArray), (62, .pointer (some ⟨g60, 1, none⟩)), (63, .slice A12 ((l.take k ++ chT t 0).length) c13), (64, .agg (tlc ⟨t.lv - 1, ((child t 0).p)⟩).toArray), (65, .slice (some ⟨g39, 0, none⟩) 1 1), (66, .slice A44 ((l.take k ++ chT t 1).length) c45)])
  clear hF_
  have hm70 : Mem w w68 [.row (.slice A44 ((l.take k ++ chT t 1).length) c45) 38 4 ((l.take k ++ chT t 1).length) (tlsC (l.take k ++ chT t 1)), .arr g54 23 (pcs (octP 1)), .arr g60 38 ([.int .i64 (t.lv - 1), .int .i64 (((child t 1).p).x), .int .i64 (((child t 1).p).y), .int .i64 (((child t 1).p).z)])] := hm67
  clear hm67 hm63
  refine then_normal (hK66 _ _ ?_)
  refine plStart ?_
  refine lk (v := .slice A44 ((l.take k ++ chT t 1).length) c45) rfl rfl rfl ?_
  refine litVal (v := .agg (tlc ⟨t.lv - 1, ((child t 1).p)⟩).toArray) rfl (wn rfl) (gLoadAg (vs := tlc ⟨t.lv - 1, ((child t 1).p)⟩) (k := 0) 2 hm70 rfl (by kernel_rfl) (by kernel_rfl) (.tmp 10) Ty.ag_voxel_api_Tile rfl (litEv (by kernel_rfl))) rfl (by decide) ?_
  refine plLit (cs := [.int .i64 (t.lv - 1), .int .i64 (((child t 1).p).x), .int .i64 (((child t 1).p).y), .int .i64 (((child t 1).p).z)]) (n := 1) Ty.sl_L_api_Tile hm70 (i := 2) rfl (wn rfl) rfl (by decide) (by decide) (by rw [lit_eval]; kernel_rfl) ?_
  intro g71 w73 hm72
  clear hm70
  try simp only [List.cons_append, List.nil_append, List.set_cons_succ, List.set_cons_zero] at hm72
  refine qP rfl ?_
  refine plApp1 (v := .slice A44 ((l.take k ++ chT t 1).length) c45) (n := (l.take k ++ chT t 1).length) (xs := tlsC (l.take k ++ chT t 1)) (ys := [.int .i64 (t.lv - 1), .int .i64 (((child t 1).p).x), .int .i64 (((child t 1).p).y), .int .i64 (((child t 1).p).z)]) 0 3 Ty.sl_L_api_Tile hm72 rfl rfl (i := 3) rfl (wn rfl) rfl (litEv (by kernel_rfl)) (litEv (by kernel_rfl)) (by kernel_rfl) (by kernel_rfl) (by simp only [List.length_append, chT_len, List.length_take]; omega) (by simp only [List.length_append, chT_len, List.length_take]; omega) ?_
  intro v78 w75 hm74
  clear hm72
  try simp only [List.cons_append, List.nil_append, List.set_cons_succ, List.set_cons_zero] at hm74
  replace hm74 := Mem.rowEq (v := v78) (e := 38) (size := 4) (n := ((l.take k ++ chT t 1).length) + 1) (n' := (l.take k ++ chT t 2).length) (xs := (tlsC (l.take k ++ chT t 1)) ++ ([.int .i64 (t.lv - 1), .int .i64 (((child t 1).p).x), .int .i64 (((child t 1).p).y), .int .i64 (((child t 1).p).z)])) (xs' := tlsC (l.take k ++ chT t 2)) 0 hm74 rfl (by rw [List.length_append, List.length_append, chT_len, chT_len]) (tls_ch _ t 1)
  try simp only [List.cons_append, List.nil_append, List.set_cons_succ, List.set_cons_zero] at hm74
  obtain ⟨A76, c77, rfl⟩ := Mem.rowSl (v := v78) (e := 38) (size := 4) (n := (l.take k ++ chT t 2).length) (xs := tlsC (l.take k ++ chT t 2)) 0 hm74 rfl
  refine qP rfl ?_
  refine lk (v := .slice A76 ((l.take k ++ chT t 2).length) c77) rfl rfl rfl ?_
  refine plD ?_
  refine inBlock_normal ?_
  refine then_normal (hK50 _ _ ?_)
  refine plStart ?_
  refine lk (v := .int .i64 1) rfl rfl rfl ?_
  refine lk (v := .int .i64 2) rfl rfl rfl ?_
  refine lk (v := .int .i64 2) rfl rfl rfl ?_
  refine plD ?_
  refine then_normal (roundsNext ?_)
  have hm79 : Mem w w75 [.row (.slice A76 ((l.take k ++ chT t 2).length) c77) 38 4 ((l.take k ++ chT t 2).length) (tlsC (l.take k ++ chT t 2))] := (hm74.sub (.cons_cons _ (.cons _ (.cons _ (.cons _ .slnil)))))
  clear hm74
  refine wp_seq_k fun K80 hK80 => ?_
  refine wp_seq_k fun K81 hK81 => ?_
  refine plStart ?_
  refine lk (v := .int .i64 2) rfl rfl rfl ?_
  refine lk (v := .bool true) rfl rfl rfl ?_
  refine plD ?_
  refine then_normal (hK81 _ _ ?_)
  refine wp_cond_true (litEv (by kernel_rfl)) ?_
  refine wp_skip ?_
  refine then_normal (hK80 _ _ ?_)
  refine wp_seq_k fun K82 hK82 => ?_
  refine wp_block ?_
  refine wp_seq_k fun K83 hK83 => ?_
  refine plStart ?_
  refine lk (v := .int .i64 2) rfl rfl rfl ?_
  refine plCall (i := 1) 42 [.int .i64 2] [] [] rfl (by kernel_rfl) (wn rfl) rfl (litEv (by kernel_rfl)) (litArgs (by kernel_rfl)) (rdecodeK_any (k := 2) (by decide) rfl _) ?_
  rintro e w84 ⟨rfl, hbz⟩
  have hm85 := hm79.below hbz
  clear hbz hm79
  refine ⟨_, rfl, ?_⟩
  refine qP rfl ?_
  refine lk (v := .tuple #[.agg (pcs (octP 2)).toArray, .bool true]) rfl rfl rfl ?_
  refine lk (v := .agg (pcs (octP 2)).toArray) rfl rfl rfl ?_
  refine lk (v := .bool true) rfl rfl rfl ?_
  refine plAlloc (z := [.int .i64 0, .int .i64 0, .int .i64 0]) Ty.ag_voxel_api_Point hm85 (i := 5) rfl (wn rfl) rfl ?_
  intro g86 w88 hm87
  clear hm85
  try simp only [List.cons_append, List.nil_append, List.set_cons_succ, List.set_cons_zero] at hm87
  refine qP rfl ?_
  refine plStore 1 Ty.ag_voxel_api_Point hm87 rfl (i := 6) (cs := pcs (octP 2)) rfl (wn rfl) rfl (litEv (by kernel_rfl)) (litEv (by kernel_rfl)) rfl rfl (by kernel_rfl) ?_
  intro w90 hm89
  clear hm87
  try simp only [List.cons_append, List.nil_append, List.set_cons_succ, List.set_cons_zero] at hm89
  refine qNone rfl ?_
  refine lk (v := .bool true) rfl rfl rfl ?_
  refine plD ?_
  refine then_normal (hK83 _ _ ?_)
  refine wpPrune [(0, .slice (some ⟨b, off, none⟩) l.length c), (1, .int .i64 (k : Int)), (4, .slice none 0 0), (5, .int .i64 0), (6, .slice A76 ((l.take k ++ chT t 2).length) c77), (7, .int .i64 2), (8, .pointer (some ⟨g86, 0, none⟩)), (10, .pointer (some ⟨g60, 0, none⟩)), (36, .int .i64 2), (37, .bool true), (38, .int .i64 1), (39, .int .i64 2), (40, .tuple #[.agg (pcs (octP 2)).toArray, .bool true]), (41, .int .i64 2), (42, .tuple #[.agg (pcs (octP 2)).toArray, .bool true]), (43, .agg (pcs (octP 2)).toArray), (44, .bool true), (45, .slice (some ⟨b, off, none⟩) l.length c), (46, .int .i64 (k : Int)), (47, .pointer (some ⟨b, off + k * 4, none⟩)), (48, .pointer (some ⟨b, off + k * 4, none⟩)), (49, .int .i64 t.lv), (50, .int .i64 (t.lv - 1)), (51, .agg (tlc ⟨t.lv - 1, ⟨0, 0, 0⟩⟩).toArray), (52, .slice (some ⟨b, off, none⟩) l.length c), (53, .int .i64 (k : Int)), (54, .pointer (some ⟨b, off + k * 4, none⟩)), (55, .pointer (some ⟨b, off + k * 4 + 1, none⟩)), (56, .agg (pcs t.p).toArray), (57, .agg (pcs (octP 1)).toArray), (58, .agg (tlc ⟨t.lv - 1, ⟨0, 0, 0⟩⟩).toArray), (59, .int .i64 (sideL (t.lv - 1))), (60, .agg (pcs ((octP 1).mul (sideL (t.lv - 1)))).toArray), (61, .agg (pcs ((child t 1).p)).toArray), (62, .pointer (some ⟨g60, 1, none⟩)), (63, .slice A44 ((l.take k ++ chT t 1).length) c45), (64, .agg (tlc ⟨t.lv - 1, ((child t 1).p)⟩).toArray), (65, .slice (some ⟨g71, 0, none⟩) 1 1), (66, .slice A76 ((l.take k ++ chT t 2).length) c77)] ⟨litGet (by kernel_rfl), ⟨litGet (by kernel_rfl), ⟨litGet (by kernel_rfl), ⟨litGet (by kernel_rfl), ⟨litGet (by kernel_rfl), ⟨litGet (by kernel_rfl), ⟨litGet (by kernel_rfl), ⟨litGet (by kernel_rfl), ⟨litGet (by kernel_rfl), ⟨litGet (by kernel_rfl), ⟨litGet (by kernel_rfl), ⟨litGet (by kernel_rfl), ⟨litGet (by kernel_rfl), ⟨litGet (by kernel_rfl), ⟨litGet (by kernel_rfl), ⟨litGet (by kernel_rfl), ⟨litGet (by kernel_rfl), ⟨litGet (by kernel_rfl), ⟨litGet (by kernel_rfl), ⟨litGet (by kernel_rfl), ⟨litGet (by kernel_rfl), ⟨litGet (by kernel_rfl), ⟨litGet (by kernel_rfl), ⟨litGet (by kernel_rfl), ⟨litGet (by kernel_rfl), ⟨litGet (by kernel_rfl), ⟨litGet (by kernel_rfl), ⟨litGet (by kernel_rfl), ⟨litGet (by kernel_rfl), ⟨litGet (by kernel_rfl), ⟨litGet (by kernel_rfl), ⟨litGet (by kernel_rfl), ⟨litGet (by kernel_rfl), ⟨litGet (by kernel_rfl), ⟨litGet (by kernel_rfl), ⟨litGet (by kernel_rfl), ⟨litGet (by kernel_rfl), ⟨litGet (by kernel_rfl), ⟨litGet (by kernel_rfl), trivial⟩⟩⟩⟩⟩⟩⟩⟩⟩⟩⟩⟩⟩⟩⟩⟩⟩⟩⟩⟩⟩⟩⟩⟩⟩⟩⟩⟩⟩⟩⟩⟩⟩⟩⟩⟩⟩⟩⟩ (fun X91 => ?_)
  refine wp_seq_k fun K92 hK92 => ?_
  refine plStart ?_
  refine lk (v := .slice (some ⟨b, off, none⟩) l.length c) rfl rfl rfl ?_
  refine lk (v := .int .i64 (k : Int)) rfl rfl rfl ?_
  refine litVal (v := .pointer (some ⟨b, off + k * 4, none⟩)) rfl (wn rfl) (gIaSl (b := b) (off := off) (n := l.length) (c := c) (kk := .i64) (K := (k : Int)) (.tmp 45) (.tmp 46) k Ty.sl_L_api_Tile rfl (litEv (by kernel_rfl)) (litEv (by kernel_rfl)) (rfl) (by omega)) rfl (by decide) ?_
  refine lk (v := .pointer (some ⟨b, off + k * 4, none⟩)) rfl rfl rfl ?_
  refine litVal (v := .int .i64 t.lv) rfl (wn rfl) (gLoadRd (v := .int .i64 t.lv) (m := k * 4) ((Rd.below hr hm89.bel).more hm89.bel.size) rfl (tlsC_get hk 0 _ rfl) (by omega) (.tmp 48) (by kernel_rfl) rfl (litEv (by kernel_rfl))) rfl (by decide) ?_
  refine litVal (v := .int .i64 (t.lv - 1)) rfl (wn rfl) (subRun (A := t.lv) (B := 1) (C := t.lv - 1) (.tmp 49) (.const (.int .i64 1)) rfl (litEv (by kernel_rfl)) (litEv (by kernel_rfl)) rfl (by omega)) rfl (by decide) ?_
  refine lk (v := .agg (tlc ⟨t.lv - 1, ⟨0, 0, 0⟩⟩).toArray) rfl rfl rfl ?_
  refine plAlloc (z := [.int .i64 0, .int .i64 0, .int .i64 0, .int .i64 0]) Ty.ag_voxel_api_Tile hm89 (i := 7) rfl (wn rfl) rfl ?_
  intro g93 w95 hm94
  clear hm89
  try simp only [List.cons_append, List.nil_append, List.set_cons_succ, List.set_cons_zero] at hm94
  refine qP rfl ?_
  refine plStore 2 Ty.ag_voxel_api_Tile hm94 rfl (i := 8) (cs := tlc ⟨t.lv - 1, ⟨0, 0, 0⟩⟩) rfl (wn rfl) rfl (litEv (by kernel_rfl)) (litEv (by kernel_rfl)) rfl rfl (by kernel_rfl) ?_
  intro w97 hm96
  clear hm94
  try simp only [List.cons_append, List.nil_append, List.set_cons_succ, List.set_cons_zero] at hm96
  refine qNone rfl ?_
  refine plD ?_
  refine then_normal (hK92 _ _ ?_)
  refine wp_seq_k fun K98 hK98 => ?_
  refine aoStart (aoV [fun _ => .slice (some ⟨b, off, none⟩) l.length c, fun _ => .int .i64 (k : Int), fun _ => .pointer (some ⟨b, off + k * 4, none⟩), fun _ => .pointer (some ⟨b, off + k * 4 + 1, none⟩), fun _ => .agg (pcs t.p).toArray, fun _ => .agg (pcs (octP 2)).toArray, fun _ => .agg (tlc ⟨t.lv - 1, ⟨0, 0, 0⟩⟩).toArray, fun _ => .int .i64 (sideL (t.lv - 1)), fun _ => .agg (pcs ((octP 2).mul (sideL (t.lv - 1)))).toArray, fun _ => .agg (pcs ((child t 2).p)).toArray, fun _ => .pointer (some ⟨g93, 1, none⟩), fun _ => undef]) (aoA [0, 1, 2, 3, 4, 5, 6, 7, 8, 9, 10, 11]) (fun b_ g_ => ((.row (.slice A76 ((l.take k ++ chT t 2).length) c77) 38 4 ((l.take k ++ chT t 2).length) (tlsC (l.take k ++ chT t 2))) :: (.arr g86 23 (pcs (octP 2))) :: (.arr g93 38 (bsel (b_ 11) [.int .i64 (t.lv - 1), .int .i64 (((child t 2).p).x), .int .i64 (((child t 2).p).y), .int .i64 (((child t 2).p).z)] (tlc ⟨t.lv - 1, ⟨0, 0, 0⟩⟩))) :: [])) hm96 (by kernel_rfl) (by kernel_rfl) (fun w_ h_ => h_) (fun b_ g_ h_ => by show (fun (x11_ : Bool) => (((.row (.slice A76 ((l.take k ++ chT t 2).length) c77) 38 4 ((l.take k ++ chT t 2).length) (tlsC (l.take k ++ chT t 2))) :: (.arr g86 23 (pcs (octP 2))) :: (.arr g93 38 (bsel x11_ [.int .i64 (t.lv - 1), .int .i64 (((child t 2).p).x), .int .i64 (((child t 2).p).y), .int .i64 (((child t 2).p).z)] (tlc ⟨t.lv - 1, ⟨0, 0, 0⟩⟩))) :: []) : List Res)) (b_ 11) = _; rw [h_ 11 (by decide)]) ?_ ?_
  · refine aoNext rfl (aoVal (fun g_ => [(0, .slice (some ⟨b, off, none⟩) l.length c)]) (fun g_ a_ h_k => ⟨(h_k.out 0 (by kernel_rfl)).trans (litGet (by kernel_rfl)), trivial⟩) (fun g_ X_ => (wn rfl)) (fun b_ g_ => by kernel_rfl) (fun b_ g_ X_ w_ h_b h_ => valTo (b := .slice (some ⟨b, off, none⟩) l.length c) (by kernel_rfl) (litRun (by kernel_rfl)))) ?_
    refine aoNext rfl (aoVal (fun g_ => [(1, .int .i64 (k : Int))]) (fun g_ a_ h_k => ⟨(h_k.out 1 (by kernel_rfl)).trans (litGet (by kernel_rfl)), trivial⟩) (fun g_ X_ => (wn rfl)) (fun b_ g_ => by kernel_rfl) (fun b_ g_ X_ w_ h_b h_ => valTo (b := .int .i64 (k : Int)) (by kernel_rfl) (litRun (by kernel_rfl)))) ?_
    refine aoNext rfl (aoVal (fun g_ => [(52, .slice (some ⟨b, off, none⟩) l.length c), (53, .int .i64 (k : Int))]) (fun g_ a_ h_k => ⟨(h_k.inn 0 _ _ (by kernel_rfl) rfl rfl).trans (by kernel_rfl), (h_k.inn 1 _ _ (by kernel_rfl) rfl rfl).trans (by kernel_rfl), trivial⟩) (fun g_ X_ => (wn rfl)) (fun b_ g_ => by kernel_rfl) (fun b_ g_ X_ w_ h_b h_ => valTo (b := .pointer (some ⟨b, off + k * 4, none⟩)) (by kernel_rfl) (gIaSl (b := b) (off := off) (n := l.length) (c := c) (kk := .i64) (K := (k : Int)) (.tmp 52) (.tmp 53) k Ty.sl_L_api_Tile rfl (litEv (by kernel_rfl)) (litEv (by kernel_rfl)) (rfl) (by omega)))) ?_
    refine aoNext rfl (aoVal (fun g_ => [(54, .pointer (some ⟨b, off + k * 4, none⟩))]) (fun g_ a_ h_k => ⟨(h_k.inn 2 _ _ (by kernel_rfl) rfl rfl).trans (by kernel_rfl), trivial⟩) (fun g_ X_ => (wn rfl)) (fun b_ g_ => by kernel_rfl) (fun b_ g_ X_ w_ h_b h_ => valTo (b := .pointer (some ⟨b, off + k * 4 + 1, none⟩)) (by kernel_rfl) (litRun (by kernel_rfl)))) ?_
    refine aoNext rfl (aoVal (fun g_ => [(55, .pointer (some ⟨b, off + k * 4 + 1, none⟩))]) (fun g_ a_ h_k => ⟨(h_k.inn 3 _ _ (by kernel_rfl) rfl rfl).trans (by kernel_rfl), trivial⟩) (fun g_ X_ => (wn rfl)) (fun b_ g_ => by kernel_rfl) (fun b_ g_ X_ w_ h_b h_ => valTo (b := .agg (pcs t.p).toArray) (by kernel_rfl) ((fun (h_ : Mem _ w_ ((.row (.slice A76 ((l.take k ++ chT t 2).length) c77) 38 4 ((l.take k ++ chT t 2).length) (tlsC (l.take k ++ chT t 2))) :: (.arr g86 23 (pcs (octP 2))) :: (.arr g93 38 (tlc ⟨t.lv - 1, ⟨0, 0, 0⟩⟩)) :: [])) => gLoadAgRd (vs := pcs t.p) (m := k * 4 + 1) ((Rd.below hr h_.bel).more h_.bel.size) rfl (fun i_ u_ hu_ => by have := tlsC_get hk (1 + i_) u_ (by rw [Nat.add_comm]; exact hu_); rw [← Nat.add_assoc] at this; exact this) (by kernel_rfl) (by omega) (.tmp 55) Ty.ag_voxel_api_Point rfl (litEv (by kernel_rfl))) (by have h2_ : Mem w w_ ((.row (.slice A76 ((l.take k ++ chT t 2).length) c77) 38 4 ((l.take k ++ chT t 2).length) (tlsC (l.take k ++ chT t 2))) :: (.arr g86 23 (pcs (octP 2))) :: (.arr g93 38 (bsel (b_ 11) [.int .i64 (t.lv - 1), .int .i64 (((child t 2).p).x), .int .i64 (((child t 2).p).y), .int .i64 (((child t 2).p).z)] (tlc ⟨t.lv - 1, ⟨0, 0, 0⟩⟩))) :: []) := h_; rw [bselF (h_b.post 11 (by kernel_rfl))] at h2_; exact h2_)))) ?_
    refine aoNext rfl (aoVal (fun g_ => [(8, .pointer (some ⟨g86, 0, none⟩))]) (fun g_ a_ h_k => ⟨(h_k.out 8 (by kernel_rfl)).trans (litGet (by kernel_rfl)), trivial⟩) (fun g_ X_ => (wn rfl)) (fun b_ g_ => by kernel_rfl) (fun b_ g_ X_ w_ h_b h_ => valTo (b := .agg (pcs (octP 2)).toArray) (by kernel_rfl) ((fun (h_ : Mem _ w_ ((.row (.slice A76 ((l.take k ++ chT t 2).length) c77) 38 4 ((l.take k ++ chT t 2).length) (tlsC (l.take k ++ chT t 2))) :: (.arr g86 23 (pcs (octP 2))) :: (.arr g93 38 (tlc ⟨t.lv - 1, ⟨0, 0, 0⟩⟩)) :: [])) => gLoadAg (vs := pcs (octP 2)) (k := 0) 1 h_ rfl (by kernel_rfl) (by kernel_rfl) (.tmp 8) Ty.ag_voxel_api_Point rfl (litEv (by kernel_rfl))) (by have h2_ : Mem w w_ ((.row (.slice A76 ((l.take k ++ chT t 2).length) c77) 38 4 ((l.take k ++ chT t 2).length) (tlsC (l.take k ++ chT t 2))) :: (.arr g86 23 (pcs (octP 2))) :: (.arr g93 38 (bsel (b_ 11) [.int .i64 (t.lv - 1), .int .i64 (((child t 2).p).x), .int .i64 (((child t 2).p).y), .int .i64 (((child t 2).p).z)] (tlc ⟨t.lv - 1, ⟨0, 0, 0⟩⟩))) :: []) := h_; rw [bselF (h_b.post 11 (by kernel_rfl))] at h2_; exact h2_)))) ?_
    refine aoNext rfl (aoVal (fun g_ => [(10, .pointer (some ⟨g93, 0, none⟩))]) (fun g_ a_ h_k => ⟨(h_k.out 10 (by kernel_rfl)).trans (litGet (by kernel_rfl)), trivial⟩) (fun g_ X_ => (wn rfl)) (fun b_ g_ => by kernel_rfl) (fun b_ g_ X_ w_ h_b h_ => valTo (b := .agg (tlc ⟨t.lv - 1, ⟨0, 0, 0⟩⟩).toArray) (by kernel_rfl) ((fun (h_ : Mem _ w_ ((.row (.slice A76 ((l.take k ++ chT t 2).length) c77) 38 4 ((l.take k ++ chT t 2).length) (tlsC (l.take k ++ chT t 2))) :: (.arr g86 23 (pcs (octP 2))) :: (.arr g93 38 (tlc ⟨t.lv - 1, ⟨0, 0, 0⟩⟩)) :: [])) => gLoadAg (vs := tlc ⟨t.lv - 1, ⟨0, 0, 0⟩⟩) (k := 0) 2 h_ rfl (by kernel_rfl) (by kernel_rfl) (.tmp 10) Ty.ag_voxel_api_Tile rfl (litEv (by kernel_rfl))) (by have h2_ : Mem w w_ ((.row (.slice A76 ((l.take k ++ chT t 2).length) c77) 38 4 ((l.take k ++ chT t 2).length) (tlsC (l.take k ++ chT t 2))) :: (.arr g86 23 (pcs (octP 2))) :: (.arr g93 38 (bsel (b_ 11) [.int .i64 (t.lv - 1), .int .i64 (((child t 2).p).x), .int .i64 (((child t 2).p).y), .int .i64 (((child t 2).p).z)] (tlc ⟨t.lv - 1, ⟨0, 0, 0⟩⟩))) :: []) := h_; rw [bselF (h_b.post 11 (by kernel_rfl))] at h2_; exact h2_)))) ?_
    refine aoNext rfl (aoCall (fun g_ => [(58, .agg (tlc ⟨t.lv - 1, ⟨0, 0, 0⟩⟩).toArray)]) (fun g_ a_ h_k => ⟨(h_k.inn 6 _ _ (by kernel_rfl) rfl rfl).trans (by kernel_rfl), trivial⟩) 45 (fun g_ => [.agg (tlc ⟨t.lv - 1, ⟨0, 0, 0⟩⟩).toArray]) [] [] (by kernel_rfl) (fun g_ X_ => (wn rfl)) (fun b_ g_ => by kernel_rfl) rfl (fun g_ X_ => litEv (by kernel_rfl)) (fun g_ X_ => litArgs (by kernel_rfl)) (fun b_ g_ w_ h_b h_ => (rside_any ⟨t.lv - 1, ⟨0, 0, 0⟩⟩ hsl_ _).mono (fun _ _ h_r => ⟨h_r.1.trans (by kernel_rfl), h_r.2⟩))) ?_
    refine aoNext rfl (aoCall (fun g_ => [(57, .agg (pcs (octP 2)).toArray), (59, .int .i64 (sideL (t.lv - 1)))]) (fun g_ a_ h_k => ⟨(h_k.inn 5 _ _ (by kernel_rfl) rfl rfl).trans (by kernel_rfl), (h_k.inn 7 _ _ (by kernel_rfl) rfl rfl).trans (by kernel_rfl), trivial⟩) 44 (fun g_ => [.agg (pcs (octP 2)).toArray, .int .i64 (sideL (t.lv - 1))]) [] [] (by kernel_rfl) (fun g_ X_ => (wn rfl)) (fun b_ g_ => by kernel_rfl) rfl (fun g_ X_ => litEv (by kernel_rfl)) (fun g_ X_ => litArgs (by kernel_rfl)) (fun b_ g_ w_ h_b h_ => (rscale_any (octP 2) (sideL (t.lv - 1)) (hm_ 2).1 (hm_ 2).2.1 (hm_ 2).2.2 _).mono (fun _ _ h_r => ⟨h_r.1.trans (by kernel_rfl), h_r.2⟩))) ?_
    refine aoNext rfl (aoCall (fun g_ => [(56, .agg (pcs t.p).toArray), (60, .agg (pcs ((octP 2).mul (sideL (t.lv - 1)))).toArray)]) (fun g_ a_ h_k => ⟨(h_k.inn 4 _ _ (by kernel_rfl) rfl rfl).trans (by kernel_rfl), (h_k.inn 8 _ _ (by kernel_rfl) rfl rfl).trans (by kernel_rfl), trivial⟩) 43 (fun g_ => [.agg (pcs t.p).toArray, .agg (pcs ((octP 2).mul (sideL (t.lv - 1)))).toArray]) [] [] (by kernel_rfl) (fun g_ X_ => (wn rfl)) (fun b_ g_ => by kernel_rfl) rfl (fun g_ X_ => litEv (by kernel_rfl)) (fun g_ X_ => litArgs (by kernel_rfl)) (fun b_ g_ w_ h_b h_ => (radd_any t.p ((octP 2).mul (sideL (t.lv - 1))) hp_ (ha_ 2) _).mono (fun _ _ h_r => ⟨h_r.1.trans (by kernel_rfl), h_r.2⟩))) ?_
    refine aoNext rfl (aoVal (fun g_ => [(10, .pointer (some ⟨g93, 0, none⟩))]) (fun g_ a_ h_k => ⟨(h_k.out 10 (by kernel_rfl)).trans (litGet (by kernel_rfl)), trivial⟩) (fun g_ X_ => (wn rfl)) (fun b_ g_ => by kernel_rfl) (fun b_ g_ X_ w_ h_b h_ => valTo (b := .pointer (some ⟨g93, 1, none⟩)) (by kernel_rfl) (litRun (by kernel_rfl)))) ?_
    refine aoNext rfl (aoStore (gb := fun g_ => g93) (k := 1) (cur := fun g_ => tlc ⟨t.lv - 1, ⟨0, 0, 0⟩⟩) (vs := fun g_ => pcs ((child t 2).p)) 2 (fun g_ => [(61, .agg (pcs ((child t 2).p)).toArray), (62, .pointer (some ⟨g93, 1, none⟩))]) (fun g_ a_ h_k => ⟨(h_k.inn 9 _ _ (by kernel_rfl) rfl rfl).trans (by kernel_rfl), (h_k.inn 10 _ _ (by kernel_rfl) rfl rfl).trans (by kernel_rfl), trivial⟩) Ty.ag_voxel_api_Point (fun b_ g_ h_b => by show some (Res.arr g93 38 (bsel (b_ 11) [.int .i64 (t.lv - 1), .int .i64 (((child t 2).p).x), .int .i64 (((child t 2).p).y), .int .i64 (((child t 2).p).z)] (tlc ⟨t.lv - 1, ⟨0, 0, 0⟩⟩))) = some (Res.arr g93 38 (tlc ⟨t.lv - 1, ⟨0, 0, 0⟩⟩)); rw [bselF h_b.no]) (fun g_ X_ => (wn rfl)) rfl (fun g_ X_ => litEv (by kernel_rfl)) (fun g_ X_ => litEv (by kernel_rfl)) (fun _ => by kernel_rfl) (fun _ => by kernel_rfl) (fun _ => by kernel_rfl) (fun b_ g_ h_b => by kernel_rfl) rfl) ?_
    exact aoDone (by decide)
  intro g_ a_ w100 hF_ hm99
  obtain ⟨X101, rfl⟩ := frLit (⟨hF_.size, hF_.defers, ⟨(hF_.out 0 (by kernel_rfl)).trans (litGet (by kernel_rfl)), (hF_.out 1 (by kernel_rfl)).trans (litGet (by kernel_rfl)), (hF_.out 4 (by kernel_rfl)).trans (litGet (by kernel_rfl)), (hF_.out 5 (by kernel_rfl)).trans (litGet (by kernel_rfl)), (hF_.out 6 (by kernel_rfl)).trans (litGet (by kernel_rfl)), (hF_.out 7 (by kernel_rfl)).trans (litGet (by kernel_rfl)), (hF_.out 8 (by kernel_rfl)).trans (litGet (by kernel_rfl)), (hF_.out 10 (by kernel_rfl)).trans (litGet (by kernel_rfl)), (hF_.out 36 (by kernel_rfl)).trans (litGet (by kernel_rfl)), (hF_.out 37 (by kernel_rfl)).trans (litGet (by kernel_rfl)), (hF_.out 38 (by kernel_rfl)).trans (litGet (by kernel_rfl)), (hF_.out 39 (by kernel_rfl)).trans (litGet (by kernel_rfl)), (hF_.out 40 (by kernel_rfl)).trans (litGet (by kernel_rfl)), (hF_.out 41 (by kernel_rfl)).trans (litGet (by kernel_rfl)), (hF_.out 42 (by kernel_rfl)).trans (litGet (by kernel_rfl)), (hF_.out 43 (by kernel_rfl)).trans (litGet (by kernel_rfl)), (hF_.out 44 (by kernel_rfl)).trans (litGet (by kernel_rfl)), (hF_.out 45 (by kernel_rfl)).trans (litGet (by kernel_rfl)), (hF_.out 46 (by kernel_rfl)).trans (litGet (by kernel_rfl)), (hF_.out 47 (by kernel_rfl)).trans (litGet (by kernel_rfl)), (hF_.out 48 (by kernel_rfl)).trans (litGet (by kernel_rfl)), (hF_.out 49 (by kernel_rfl)).trans (litGet (by kernel_rfl)), (hF_.out 50 (by kernel_rfl)).trans (litGet (by kernel_rfl)), (hF_.out 51 (by kernel_rfl)).trans (litGet (by kernel_rfl)), (hF_.inn 0 _ _ rfl rfl).trans (by kernel_rfl), (hF_.inn 1 _ _ rfl rfl).trans (by kernel_rfl), (hF_.inn 2 _ _ rfl rfl).trans (by kernel_rfl), (hF_.inn 3 _ _ rfl rfl).trans (by kernel_rfl), (hF_.inn 4 _ _ rfl rfl).trans (by kernel_rfl), (hF_.inn 5 _ _ rfl rfl).trans (by kernel_rfl), (hF_.inn 6 _ _ rfl rfl).trans (by kernel_rfl), (hF_.inn 7 _ _ rfl rfl).trans (by kernel_rfl), (hF_.inn 8 _ _ rfl rfl).trans (by kernel_rfl), (hF_.inn 9 _ _ rfl rfl).trans (by kernel_rfl), (hF_.inn 10 _ _ rfl rfl).trans (by kernel_rfl), (hF_.out 63 (by kernel_rfl)).trans (litGet (by kernel_rfl)), (hF_.out 64 (by kernel_rfl)).trans (litGet (by kernel_rfl)), (hF_.out 65 (by kernel_rfl)).trans (litGet (by kernel_rfl)), (hF_.out 66 (by kernel_rfl)).trans (litGet (by kernel_rfl)), trivial⟩⟩ : Fr _ 73 [(0, .slice (some ⟨b, off, none⟩) l.length c), (1, .int .i64 (k : Int)), (4, .slice none 0 0), (5, .int .i64 0), (6, .slice A76 ((l.take k ++ chT t 2).length) c77), (7, .int .i64 2), (8, .pointer (some ⟨g86, 0, none⟩)), (10, .pointer (some ⟨g93, 0, none⟩)), (36, .int .i64 2), (37, .bool true), (38, .int .i64 1), (39, .int .i64 2), (40, .tuple #[.agg (pcs (octP 2)).toArray, .bool true]), (41, .int .i64 2), (42, .tuple #[.agg (pcs (octP 2)).toArray, .bool true]), (43, .agg (pcs (octP 2)).toArray), (44, .bool true), (45, .slice (some ⟨b, off, none⟩) l.length c), (46, .int .i64 (k : Int)), (47, .pointer (some ⟨b, off + k * 4, none⟩)), (48, .pointer (some ⟨b, off + k * 4, none⟩)), (49, .int .i64 t.lv), (50, .int .i64 (t.lv - 1)), (51, .agg (tlc ⟨t.lv - 1, ⟨0, 0, 0⟩⟩).toArray), (52, .slice (some ⟨b, off, none⟩) l.length c), (53, .int .i64 (k : Int)), (54, .pointer (some ⟨b, off + k * 4, none⟩)), (55, .pointer (some ⟨b, off + k * 4 + 1, none⟩)), (56, .agg (pcs t.p).toArray), (57, .agg (pcs (octP 2)).toArray), (58, .agg (tlc ⟨t.lv - 1, ⟨0, 0, 0⟩⟩).toArray), (59, .int .i64 (sideL (t.lv - 1))), (60, .agg (pcs ((octP 2).mul (sideL (t.lv - 1)))).toArray), (61, .agg (pcs ((child t 2).p)).toArray), (62, .pointer (some ⟨g93, 1, none⟩)), (63, .slice A44 ((l.take k ++ chT t 1).length) c45), (64, .agg (tlc ⟨t.lv - 1, ((child t 1).p)⟩).toArray), (65, .slice (some ⟨g71, 0, none⟩) 1 1), (66, .slice A76 ((l.take k ++ chT t 2).length) c77)])
  clear hF_
  have hm102 : Mem w w100 [.row (.slice A76 ((l.take k ++ chT t 2).length) c77) 38 4 ((l.take k ++ chT t 2).length) (tlsC (l.take k ++ chT t 2)), .arr g86 23 (pcs (octP 2)), .arr g93 38 ([.int .i64 (t.lv - 1), .int .i64 (((child t 2).p).x), .int .i64 (((child t 2).p).y), .int .i64 (((child t 2).p).z)])] := hm99
  clear hm99 hm96
  refine then_normal (hK98 _ _ ?_)
  refine plStart ?_
  refine lk (v := .slice A76 ((l.take k ++ chT t 2).length) c77) rfl rfl rfl ?_
  refine litVal (v := .agg (tlc ⟨t.lv - 1, ((child t 2).p)⟩).toArray) rfl (wn rfl) (gLoadAg (vs := tlc ⟨t.lv - 1, ((child t 2).p)⟩) (k := 0) 2 hm102 rfl (by kernel_rfl) (by kernel_rfl) (.tmp 10) Ty.ag_voxel_api_Tile rfl (litEv (by kernel_rfl))) rfl (by decide) ?_
  refine plLit (cs := [.int .i64 (t.lv - 1), .int .i64 (((child t 2).p).x), .int .i64 (((child t 2).p).y), .int .i64 (((child t 2).p).z)]) (n := 1) Ty.sl_L_api_Tile hm102 (i := 2) rfl (wn rfl) rfl (by decide) (by decide) (by rw [lit_eval]; kernel_rfl) ?_
  intro g103 w105 hm104
  clear hm102
  try simp only [List.cons_append, List.nil_append, List.set_cons_succ, List.set_cons_zero] at hm104
  refine qP rfl ?_
  refine plApp1 (v := .slice A76 ((l.take k ++ chT t 2).length) c77) (n := (l.take k ++ chT t 2).length) (xs := tlsC (l.take k ++ chT t 2)) (ys := [.int .i64 (t.lv - 1), .int .i64 (((child t 2).p).x), .int .i64 (((child t 2).p).y), .int .i64 (((child t 2).p).z)]) 0 3 Ty.sl_L_api_Tile hm104 rfl rfl (i := 3) rfl (wn rfl) rfl (litEv (by kernel_rfl)) (litEv (by kernel_rfl)) (by kernel_rfl) (by kernel_rfl) (by simp only [List.length_append, chT_len, List.length_take]; omega) (by simp only [List.length_append, chT_len, List.length_take]; omega) ?_
  intro v110 w107 hm106
  clear hm104
  try simp only [List.cons_append, List.nil_append, List.set_cons_succ, List.set_cons_zero] at hm106
  replace hm106 := Mem.rowEq (v := v110) (e := 38) (size := 4) (n := ((l.take k ++ chT t 2).length) + 1) (n' := (l.take k ++ chT t 3).length) (xs := (tlsC (l.take k ++ chT t 2)) ++ ([.int .i64 (t.lv - 1), .int .i64 (((child t 2).p).x), .int .i64 (((child t 2).p).y), .int .i64 (((child t 2).p).z)])) (xs' := tlsC (l.take k ++ chT t 3)) 0 hm106 rfl (by rw [List.length_append, List.length_append, chT_len, chT_len]) (tls_ch _ t 2)
  try simp only [List.cons_append, List.nil_append, List.set_cons_succ, List.set_cons_zero] at hm106
  obtain ⟨A108, c109, rfl⟩ := Mem.rowSl (v := v110) (e := 38) (size := 4) (n := (l.take k ++ chT t 3).length) (xs := tlsC (l.take k ++ chT t 3)) 0 hm106 rfl
  refine qP rfl ?_
  refine lk (v := .slice A108 ((l.take k ++ chT t 3).length) c109) rfl rfl rfl ?_
  refine plD ?_
  refine inBlock_normal ?_
  refine then_normal (hK82 _ _ ?_)
  refine plStart ?_
  refine lk (v := .int .i64 2) rfl rfl rfl ?_
  refine lk (v := .int .i64 3) rfl rfl rfl ?_
  refine lk (v := .int .i64 3) rfl rfl rfl ?_
  refine plD ?_
  refine then_normal (roundsNext ?_)
  have hm111 : Mem w w107 [.row (.slice A108 ((l.take k ++ chT t 3).length) c109) 38 4 ((l.take k ++ chT t 3).length) (tlsC (l.take k ++ chT t 3))] := (hm106.sub (.cons_cons _ (.cons _ (.cons _ (.cons _ .slnil)))))
  clear hm106
  refine wp_seq_k fun K112 hK112 => ?_
  refine wp_seq_k fun K113 hK113 => ?_
  refine plStart ?_
  refine lk (v := .int .i64 3) rfl rfl rfl ?_
  refine lk (v := .bool true) rfl rfl rfl ?_
  refine plD ?_
  refine then_normal (hK113 _ _ ?_)
  refine wp_cond_true (litEv (by kernel_rfl)) ?_
  refine wp_skip ?_
  refine then_normal (hK112 _ _ ?_)
  refine wp_seq_k fun K114 hK114 => ?_
  refine wp_block ?_
  refine wp_seq_k fun K115 hK115 => ?_
  refine plStart ?_
  refine lk (v := .int .i64 3) rfl rfl rfl ?_
  refine plCall (i := 1) 42 [.int .i64 3] [] [] rfl (by kernel_rfl) (wn rfl) rfl (litEv (by kernel_rfl)) (litArgs (by kernel_rfl)) (rdecodeK_any (k := 3) (by decide) rfl _) ?_
  rintro e w116 ⟨rfl, hbz⟩
  have hm117 := hm111.below hbz
  clear hbz hm111
  refine ⟨_, rfl, ?_⟩
  refine qP rfl ?_
  refine lk (v := .tuple #[.agg (pcs (octP 3)).toArray, .bool true]) rfl rfl rfl ?_
  refine lk (v := .agg (pcs (octP 3)).toArray) rfl rfl rfl ?_
  refine lk (v := .bool true) rfl rfl rfl ?_
  refine plAlloc (z := [.int .i64 0, .int .i64 0, .int .i64 0]) Ty.ag_voxel_api_Point hm117 (i := 5) rfl (wn rfl) rfl ?_
  intro g118 w120 hm119
  clear hm117
  try simp only [List.cons_append, List.nil_append, List.set_cons_succ, List.set_cons_zero] at hm119
  refine qP rfl ?_
  refine plStore 1 Ty.ag_voxel_api_Point hm119 rfl (i := 6) (cs := pcs (octP 3)) rfl (wn rfl) rfl (litEv (by kernel_rfl)) (litEv (by kernel_rfl)) rfl rfl (by kernel_rfl) ?_
  intro w122 hm121
  clear hm119
  try simp only [List.cons_append, List.nil_append, List.set_cons_succ, List.set_cons_zero] at hm121
  refine qNone rfl ?_
  refine lk (v := .bool true) rfl rfl rfl ?_
  refine plD ?_
  refine then_normal (hK115 _ _ ?_)
  refine wpPrune [(0, .slice (some ⟨b, off, none⟩) l.length c), (1, .int .i64 (k : Int)), (4, .slice none 0 0), (5, .int .i64 0), (6, .slice A108 ((l.take k ++ chT t 3).length) c109), (7, .int .i64 3), (8, .pointer (some ⟨g118, 0, none⟩)), (10, .pointer (some ⟨g93, 0, none⟩)), (36, .int .i64 3), (37, .bool true), (38, .int .i64 2), (39, .int .i64 3), (40, .tuple #[.agg (pcs (octP 3)).toArray, .bool true]), (41, .int .i64 3), (42, .tuple #[.agg (pcs (octP 3)).toArray, .bool true]), (43, .agg (pcs (octP 3)).toArray), (44, .bool true), (45, .slice (some ⟨b, off, none⟩) l.length c), (46, .int .i64 (k : Int)), (47, .pointer (some ⟨b, off + k * 4, none⟩)), (48, .pointer (some ⟨b, off + k * 4, none⟩)), (49, .int .i64 t.lv), (50, .int .i64 (t.lv - 1)), (51, .agg (tlc ⟨t.lv - 1, ⟨0, 0, 0⟩⟩).toArray), (52, .slice (some ⟨b, off, none⟩) l.length c), (53, .int .i64 (k : Int)), (54, .pointer (some ⟨b, off + k * 4, none⟩)), (55, .pointer (some ⟨b, off + k * 4 + 1, none⟩)), (56, .agg (pcs t.p).toArray), (57, .agg (pcs (octP 2)).toArray), (58, .agg (tlc ⟨t.lv - 1, ⟨0, 0, 0⟩⟩).toArray), (59, .int .i64 (sideL (t.lv - 1))), (60, .agg (pcs ((octP 2).mul (sideL (t.lv - 1)))).toArray), (61, .agg (pcs ((child t 2).p)).toArray), (62, .pointer (some ⟨g93, 1, none⟩)), (63, .slice A76 ((l.take k ++ chT t 2).length) c77), (64, .agg (tlc ⟨t.lv - 1, ((child t 2).p)⟩).toArray), (65, .slice (some ⟨g103, 0, none⟩) 1 1), (66, .slice A108 ((l.take k ++ chT t 3).length) c109)] ⟨litGet (by kernel_rfl), ⟨litGet (by kernel_rfl), ⟨litGet (by kernel_rfl), ⟨litGet (by kernel_rfl), ⟨litGet (by kernel_rfl), ⟨litGet (by kernel_rfl), ⟨litGet (by kernel_rfl), ⟨litGet (by kernel_rfl), ⟨litGet (by kernel_rfl), ⟨litGet (by kernel_rfl), ⟨litGet (by kernel_rfl), ⟨litGet (by kernel_rfl), ⟨litGet (by kernel_rfl), ⟨litGet (by kernel_rfl), ⟨litGet (by kernel_rfl), ⟨litGet (by kernel_rfl), ⟨litGet (by kernel_rfl), ⟨litGet (by kernel_rfl), ⟨litGet (by kernel_rfl), ⟨litGet (by kernel_rfl), ⟨litGet (by kernel_rfl), ⟨litGet (by kernel_rfl), ⟨litGet (by kernel_rfl), ⟨litGet (by kernel_rfl), ⟨litGet (by kernel_rfl), ⟨litGet (by kernel_rfl), ⟨litGet (by kernel_rfl), ⟨litGet (by kernel_rfl), ⟨litGet (by kernel_rfl), ⟨litGet (by kernel_rfl), ⟨litGet (by kernel_rfl), ⟨litGet (by kernel_rfl), ⟨litGet (by kernel_rfl), ⟨litGet (by kernel_rfl), ⟨litGet (by kernel_rfl), ⟨litGet (by kernel_rfl), ⟨litGet (by kernel_rfl), ⟨litGet (by kernel_rfl), ⟨litGet (by kernel_rfl), trivial⟩⟩⟩⟩⟩⟩⟩⟩⟩⟩⟩⟩⟩⟩⟩⟩⟩⟩⟩⟩⟩⟩⟩⟩⟩⟩⟩⟩⟩⟩⟩⟩⟩⟩⟩⟩⟩⟩⟩ (fun X123 => ?_)
  refine wp_seq_k fun K124 hK124 => ?_
  refine plStart ?_
  refine lk (v := .slice (some ⟨b, off, none⟩) l.length c) rfl rfl rfl ?_
  refine lk (v := .int .i64 (k : Int)) rfl rfl rfl ?_
  refine litVal (v := .pointer (some ⟨b, off + k * 4, none⟩)) rfl (wn rfl) (gIaSl (b := b) (off := off) (n := l.length) (c := c) (kk := .i64) (K := (k : Int)) (.tmp 45) (.tmp 46) k Ty.sl_L_api_Tile rfl (litEv (by kernel_rfl)) (litEv (by kernel_rfl)) (rfl) (by omega)) rfl (by decide) ?_
  refine lk (v := .pointer (some ⟨b, off + k * 4, none⟩)) rfl rfl rfl ?_
  refine litVal (v := .int .i64 t.lv) rfl (wn rfl) (gLoadRd (v := .int .i64 t.lv) (m := k * 4) ((Rd.below hr hm121.bel).more hm121.bel.size) rfl (tlsC_get hk 0 _ rfl) (by omega) (.tmp 48) (by kernel_rfl) rfl (litEv (by kernel_rfl))) rfl (by decide) ?_
  refine litVal (v := .int .i64 (t.lv - 1)) rfl (wn rfl) (subRun (A := t.lv) (B := 1) (C := t.lv - 1) (.tmp 49) (.const (.int .i64 1)) rfl (litEv (by kernel_rfl)) (litEv (by kernel_rfl)) rfl (by omega)) rfl (by decide) ?_
  refine lk (v := .agg (tlc ⟨t.lv - 1, ⟨0, 0, 0⟩⟩).toArray) rfl rfl rfl ?_
  refine plAlloc (z := [.int .i64 0, .int .i64 0, .int .i64 0, .int .i64 0]) Ty.ag_voxel_api_Tile hm121 (i := 7) rfl (wn rfl) rfl ?_
  intro g125 w127 hm126
  clear hm121
  try simp only [List.cons_append, List.nil_append, List.set_cons_succ, List.set_cons_zero] at hm126
  refine qP rfl ?_
  refine plStore 2 Ty.ag_voxel_api_Tile hm126 rfl (i := 8) (cs := tlc ⟨t.lv - 1, ⟨0, 0, 0⟩⟩) rfl (wn rfl) rfl (litEv (by kernel_rfl)) (litEv (by kernel_rfl)) rfl rfl (by kernel_rfl) ?_
  intro w129 hm128
  clear hm126
  try simp only [List.cons_append, List.nil_append, List.set_cons_succ, List.set_cons_zero] at hm128
  refine qNone rfl ?_
  refine plD ?_
  refine then_normal (hK124 _ _ ?_)
  refine wp_seq_k fun K130 hK130 => ?_
  refine aoStart (aoV [fun _ => .slice (some ⟨b, off, none⟩) l.length c, fun _ => .int .i64 (k : Int), fun _ => .pointer (some ⟨b, off + k * 4, none⟩), fun _ => .pointer (some ⟨b, off + k * 4 + 1, none⟩), fun _ => .agg (pcs t.p).toArray, fun _ => .agg (pcs (octP 3)).toArray, fun _ => .agg (tlc ⟨t.lv - 1, ⟨0, 0, 0⟩⟩).toArray, fun _ => .int .i64 (sideL (t.lv - 1)), fun _ => .agg (pcs ((octP 3).mul (sideL (t.lv - 1)))).toArray, fun _ => .agg (pcs ((child t 3).p)).toArray, fun _ => .pointer (some ⟨g125, 1, none⟩), fun _ => undef]) (aoA [0, 1, 2, 3, 4, 5, 6, 7, 8, 9, 10, 11]) (fun b_ g_ => ((.row (.slice A108 ((l.take k ++ chT t 3).length) c109) 38 4 ((l.take k ++ chT t 3).length) (tlsC (l.take k ++ chT t 3))) :: (.arr g118 23 (pcs (octP 3))) :: (.arr g125 38 (bsel (b_ 11) [.int .i64 (t.lv - 1), .int .i64 (((child t 3).p).x), .int .i64 (((child t 3).p).y), .int .i64 (((child t 3).p).z)] (tlc ⟨t.lv - 1, ⟨0, 0, 0⟩⟩))) :: [])) hm128 (by kernel_rfl) (by kernel_rfl) (fun w_ h_ => h_) (fun b_ g_ h_ => by show (fun (x11_ : Bool) => (((.row (.slice A108 ((l.take k ++ chT t 3).length) c109) 38 4 ((l.take k ++ chT t 3).length) (tlsC (l.take k ++ chT t 3))) :: (.arr g118 23 (pcs (octP 3))) :: (.arr g125 38 (bsel x11_ [.int .i64 (t.lv - 1), .int .i64 (((child t 3).p).x), .int .i64 (((child t 3).p).y), .int .i64 (((child t 3).p).z)] (tlc ⟨t.lv - 1, ⟨0, 0, 0⟩⟩))) :: []) : List Res)) (b_ 11) = _; rw [h_ 11 (by decide)]) ?_ ?_
  · refine aoNext rfl (aoVal (fun g_ => [(0, .slice (some ⟨b, off, none⟩) l.length c)]) (fun g_ a_ h_k => ⟨(h_k.out 0 (by kernel_rfl)).trans (litGet (by kernel_rfl)), trivial⟩) (fun g_ X_ => (wn rfl)) (fun b_ g_ => by kernel_rfl) (fun b_ g_ X_ w_ h_b h_ => valTo (b := .slice (some ⟨b, off, none⟩) l.length c) (by kernel_rfl) (litRun (by kernel_rfl)))) ?_
    refine aoNext rfl (aoVal (fun g_ => [(1, .int .i64 (k : Int))]) (fun g_ a_ h_k => ⟨(h_k.out 1 (by kernel_rfl)).trans (litGet (by kernel_rfl)), trivial⟩) (fun g_ X_ => (wn rfl)) (fun b_ g_ => by kernel_rfl) (fun b_ g_ X_ w_ h_b h_ => valTo (b := .int .i64 (k : Int)) (by kernel_rfl) (litRun (by kernel_rfl)))) ?_
    refine aoNext rfl (aoVal (fun g_ => [(52, .slice (some ⟨b, off, none⟩) l.length c), (53, .int .i64 (k : Int))]) (fun g_ a_ h_k => ⟨(h_k.inn 0 _ _ (by kernel_rfl) rfl rfl).trans (by kernel_rfl), (h_k.inn 1 _ _ (by kernel_rfl) rfl rfl).trans (by kernel_rfl), trivial⟩) (fun g_ X_ => (wn rfl)) (fun b_ g_ => by kernel_rfl) (fun b_ g_ X_ w_ h_b h_ => valTo (b := .pointer (some ⟨b, off + k * 4, none⟩)) (by kernel_rfl) (gIaSl (b := b) (off := off) (n := l.length) (c := c) (kk := .i64) (K := (k : Int)) (.tmp 52) (.tmp 53) k Ty.sl_L_api_Tile rfl (litEv (by kernel_rfl)) (litEv (by kernel_rfl)) (rfl) (by omega)))) ?_
    refine aoNext rfl (aoVal (fun g_ => [(54, .pointer (some ⟨b, off + k * 4, none⟩))]) (fun g_ a_ h_k => ⟨(h_k.inn 2 _ _ (by kernel_rfl) rfl rfl).trans (by kernel_rfl), trivial⟩) (fun g_ X_ => (wn rfl)) (fun b_ g_ => by kernel_rfl) (fun b_ g_ X_ w_ h_b h_ => valTo (b := .pointer (some ⟨b, off + k * 4 + 1, none⟩)) (by kernel_rfl) (litRun (by kernel_rfl)))) ?_
    refine aoNext rfl (aoVal (fun g_ => [(55, .pointer (some ⟨b, off + k * 4 + 1, none⟩))]) (fun g_ a_ h_k => ⟨(h_k.inn 3 _ _ (by kernel_rfl) rfl rfl).trans (by kernel_rfl), trivial⟩) (fun g_ X_ => (wn rfl)) (fun b_ g_ => by kernel_rfl) (fun b_ g_ X_ w_ h_b h_ => valTo (b := .agg (pcs t.p).toArray) (by kernel_rfl) ((fun (h_ : Mem _ w_ ((.row (.slice A108 ((l.take k ++ chT t 3).length) c109) 38 4 ((l.take k ++ chT t 3).length) (tlsC (l.take k ++ chT t 3))) :: (.arr g118 23 (pcs (octP 3))) :: (.arr g125 38 (tlc ⟨t.lv - 1, ⟨0, 0, 0⟩⟩)) :: [])) => gLoadAgRd (vs := pcs t.p) (m := k * 4 + 1) ((Rd.below hr h_.bel).more h_.bel.size) rfl (fun i_ u_ hu_ => by have := tlsC_get hk (1 + i_) u_ (by rw [Nat.add_comm]; exact hu_); rw [← Nat.add_assoc] at this; exact this) (by kernel_rfl) (by omega) (.tmp 55) Ty.ag_voxel_api_Point rfl (litEv (by kernel_rfl))) (by have h2_ : Mem w w_ ((.row (.slice A108 ((l.take k ++ chT t 3).length) c109) 38 4 ((l.take k ++ chT t 3).length) (tlsC (l.take k ++ chT t 3))) :: (.arr g118 23 (pcs (octP 3))) :: (.arr g125 38 (bsel (b_ 11) [.int .i64 (t.lv - 1), .int .i64 (((child t 3).p).x), .int .i64 (((child t 3).p).y), .int .i64 (((child t 3).p).z)] (tlc ⟨t.lv - 1, ⟨0, 0, 0⟩⟩))) :: []) := h_; rw [bselF (h_b.post 11 (by kernel_rfl))] at h2_; exact h2_)))) ?_
    refine aoNext rfl (aoVal (fun g_ => [(8, .pointer (some ⟨g118, 0, none⟩))]) (fun g_ a_ h_k => ⟨(h_k.out 8 (by kernel_rfl)).trans (litGet (by kernel_rfl)), trivial⟩) (fun g_ X_ => (wn rfl)) (fun b_ g_ => by kernel_rfl) (fun b_ g_ X_ w_ h_b h_ => valTo (b := .agg (pcs (octP 3)).toArray) (by kernel_rfl) ((fun (h_ : Mem _ w_ ((.row (.slice A108 ((l.take k ++ chT t 3).length) c109) 38 4 ((l.take k ++ chT t 3).length) (tlsC (l.take k ++ chT t 3))) :: (.arr g118 23 (pcs (octP 3))) :: (.arr g125 38 (tlc ⟨t.lv - 1, ⟨0, 0, 0⟩⟩)) :: [])) => gLoadAg (vs := pcs (octP 3)) (k := 0) 1 h_ rfl (by kernel_rfl) (by kernel_rfl) (.tmp 8) Ty.ag_voxel_api_Point rfl (litEv (by kernel_rfl))) (by have h2_ : Mem w w_ ((.row (.slice A108 ((l.take k ++ chT t 3).length) c109) 38 4 ((l.take k ++ chT t 3).length) (tlsC (l.take k ++ chT t 3))) :: (.arr g118 23 (pcs (octP 3))) :: (.arr g125 38 (bsel (b_ 11) [.int .i64 (t.lv - 1), .int .i64 (((child t 3).p).x), .int .i64 (((child t 3).p).y), .int .i64 (((child t 3).p).z)] (tlc ⟨t.lv - 1, ⟨0, 0, 0⟩⟩))) :: []) := h_; rw [bselF (h_b.post 11 (by kernel_rfl))] at h2_; exact h2_)))) ?_
    refine aoNext rfl (aoVal (fun g_ => [(10, .pointer (some ⟨g125, 0, none⟩))]) (fun g_ a_ h_k => ⟨(h_k.out 10 (by kernel_rfl)).trans (litGet (by kernel_rfl)), trivial⟩) (fun g_ X_ => (wn rfl)) (fun b_ g_ => by kernel_rfl) (fun b_ g_ X_ w_ h_b h_ => valTo (b := .agg (tlc ⟨t.lv - 1, ⟨0, 0, 0⟩⟩).toArray) (by kernel_rfl) ((fun (h_ : Mem _ w_ ((.row (.slice A108 ((l.take k ++ chT t 3).length) c109) 38 4 ((l.take k ++ chT t 3).length) (tlsC (l.take k ++ chT t 3))) :: (.arr g118 23 (pcs (octP 3))) :: (.arr g125 38 (tlc ⟨t.lv - 1, ⟨0, 0, 0⟩⟩)) :: [])) => gLoadAg (vs := tlc ⟨t.lv - 1, ⟨0, 0, 0⟩⟩) (k := 0) 2 h_ rfl (by kernel_rfl) (by kernel_rfl) (.tmp 10) Ty.ag_voxel_api_Tile rfl (litEv (by kernel_rfl))) (by have h2_ : Mem w w_ ((.row (.slice A108 ((l.take k ++ chT t 3).length) c109) 38 4 ((l.take k ++ chT t 3).length) (tlsC (l.take k ++ chT t 3))) :: (.arr g118 23 (pcs (octP 3))) :: (.arr g125 38 (bsel (b_ 11) [.int .i64 (t.lv - 1), .int .i64 (((child t 3).p).x), .int .i64 (((child t 3).p).y), .int .i64 (((child t 3).p).z)] (tlc ⟨t.lv - 1, ⟨0, 0, 0⟩⟩))) :: []) := h_; rw [bselF (h_b.post 11 (by kernel_rfl))] at h2_; exact h2_)))) ?_
    refine aoNext rfl (aoCall (fun g_ => [(58, .agg (tlc ⟨t.lv - 1, ⟨0, 0, 0⟩⟩).toArray)]) (fun g_ a_ h_k => ⟨(h_k.inn 6 _ _ (by kernel_rfl) rfl rfl).trans (by kernel_rfl), trivial⟩) 45 (fun g_ => [.agg (tlc ⟨t.lv - 1, ⟨0, 0, 0⟩⟩).toArray]) [] [] (by kernel_rfl) (fun g_ X_ => (wn rfl)) (fun b_ g_ => by kernel_rfl) rfl (fun g_ X_ => litEv (by kernel_rfl)) (fun g_ X_ => litArgs (by kernel_rfl)) (fun b_ g_ w_ h_b h_ => (rside_any ⟨t.lv - 1, ⟨0, 0, 0⟩⟩ hsl_ _).mono (fun _ _ h_r => ⟨h_r.1.trans (by kernel_rfl), h_r.2⟩))) ?_
    refine aoNext rfl (aoCall (fun g_ => [(57, .agg (pcs (octP 3)).toArray), (59, .int .i64 (sideL (t.lv - 1)))]) (fun g_ a_ h_k => ⟨(h_k.inn 5 _ _ (by kernel_rfl) rfl rfl).trans (by kernel_rfl), (h_k.inn 7 _ _ (by kernel_rfl) rfl rfl).trans (by kernel_rfl), trivial⟩) 44 (fun g_ => [.agg (pcs (octP 3)).toArray, .int .i64 (sideL (t.lv - 1))]) [] [] (by kernel_rfl) (fun g_ X_ => (wn rfl)) (fun b_ g_ => by kernel_rfl) rfl (fun g_ X_ => litEv (by kernel_rfl)) (fun g_ X_ => litArgs (by kernel_rfl)) (fun b_ g_ w_ h_b h_ => (rscale_any (octP 3) (sideL (t.lv - 1)) (hm_ 3).1 (hm_ 3).2.1 (hm_ 3).2.2 _).mono (fun _ _ h_r => ⟨h_r.1.trans (by kernel_rfl), h_r.2⟩))) ?_
    refine aoNext rfl (aoCall (fun g_ => [(56, .agg (pcs t.p).toArray), (60, .agg (pcs ((octP 3).mul (sideL (t.lv - 1)))).toArray)]) (fun g_ a_ h_k => ⟨(h_k.inn 4 _ _ (by kernel_rfl) rfl rfl).trans (by kernel_rfl), (h_k.inn 8 _ _ (by kernel_rfl) rfl rfl).trans (by kernel_rfl), trivial⟩) 43 (fun g_ => [.agg (pcs t.p).toArray, .agg (pcs ((octP 3).mul (sideL (t.lv - 1)))).toArray]) [] [] (by kernel_rfl) (fun g_ X_ => (wn rfl)) (fun b_ g_ => by kernel_rfl) rfl (fun g_ X_ => litEv (by kernel_rfl)) (fun g_ X_ => litArgs (by kernel_rfl)) (fun b_ g_ w_ h_b h_ => (radd_any t.p ((octP 3).mul (sideL (t.lv - 1))) hp_ (ha_ 3) _).mono (fun _ _ h_r => ⟨h_r.1.trans (by kernel_rfl), h_r.2⟩))) ?_
    refine aoNext rfl (aoVal (fun g_ => [(10, .pointer (some ⟨g125, 0, none⟩))]) (fun g_ a_ h_k => ⟨(h_k.out 10 (by kernel_rfl)).trans (litGet (by kernel_rfl)), trivial⟩) (fun g_ X_ => (wn rfl)) (fun b_ g_ => by kernel_rfl) (fun b_ g_ X_ w_ h_b h_ => valTo (b := .pointer (some ⟨g125, 1, none⟩)) (by kernel_rfl) (litRun (by kernel_rfl)))) ?_
    refine aoNext rfl (aoStore (gb := fun g_ => g125) (k := 1) (cur := fun g_ => tlc ⟨t.lv - 1, ⟨0, 0, 0⟩⟩) (vs := fun g_ => pcs ((child t 3).p)) 2 (fun g_ => [(61, .agg (pcs ((child t 3).p)).toArray), (62, .pointer (some ⟨g125, 1, none⟩))]) (fun g_ a_ h_k => ⟨(h_k.inn 9 _ _ (by kernel_rfl) rfl rfl).trans (by kernel_rfl), (h_k.inn 10 _ _ (by kernel_rfl) rfl rfl).trans (by kernel_rfl), trivial⟩) Ty.ag_voxel_api_Point (fun b_ g_ h_b => by show some (Res.arr g125 38 (bsel (b_ 11) [.int .i64 (t.lv - 1), .int .i64 (((child t 3).p).x), .int .i64 (((child t 3).p).y), .int .i64 (((child t 3).p).z)] (tlc ⟨t.lv - 1, ⟨0, 0, 0⟩⟩))) = some (Res.arr g125 38 (tlc ⟨t.lv - 1, ⟨0, 0, 0⟩⟩)); rw [bselF h_b.no]) (fun g_ X_ => (wn rfl)) rfl (fun g_ X_ => litEv (by kernel_rfl)) (fun g_ X_ => litEv (by kernel_rfl)) (fun _ => by kernel_rfl) (fun _ => by kernel_rfl) (fun _ => by kernel_rfl) (fun b_ g_ h_b => by kernel_rfl) rfl) ?_
    exact aoDone (by decide)
  intro g_ a_ w132 hF_ hm131
  obtain ⟨X133, rfl⟩ := frLit (⟨hF_.size, hF_.defers, ⟨(hF_.out 0 (by kernel_rfl)).trans (litGet (by kernel_rfl)), (hF_.out 1 (by kernel_rfl)).trans (litGet (by kernel_rfl)), (hF_.out 4 (by kernel_rfl)).trans (litGet (by kernel_rfl)), (hF_.out 5 (by kernel_rfl)).trans (litGet (by kernel_rfl)), (hF_.out 6 (by kernel_rfl)).trans (litGet (by kernel_rfl)), (hF_.out 7 (by kernel_rfl)).trans (litGet (by kernel_rfl)), (hF_.out 8 (by kernel_rfl)).trans (litGet (by kernel_rfl)), (hF_.out 10 (by kernel_rfl)).trans (litGet (by kernel_rfl)), (hF_.out 36 (by kernel_rfl)).trans (litGet (by kernel_rfl)), (hF_.out 37 (by kernel_rfl)).trans (litGet (by kernel_rfl)), (hF_.out 38 (by kernel_rfl)).trans (litGet (by kernel_rfl)), (hF_.out 39 (by kernel_rfl)).trans (litGet (by kernel_rfl)), (hF_.out 40 (by kernel_rfl)).trans (litGet (by kernel_rfl)), (hF_.out 41 (by kernel_rfl)).trans (litGet (by kernel_rfl)), (hF_.out 42 (by kernel_rfl)).trans (litGet (by kernel_rfl)), (hF_.out 43 (by kernel_rfl)).trans (litGet (by kernel_rfl)), (hF_.out 44 (by kernel_rfl)).trans (litGet (by kernel_rfl)), (hF_.out 45 (by kernel_rfl)).trans (litGet (by kernel_rfl)), (hF_.out 46 (by kernel_rfl)).trans (litGet (by kernel_rfl)), (hF_.out 47 (by kernel_rfl)).trans (litGet (by kernel_rfl)), (hF_.out 48 (by kernel_rfl)).trans (litGet (by kernel_rfl)), (hF_.out 49 (by kernel_rfl)).trans (litGet (by kernel_rfl)), (hF_.out 50 (by kernel_rfl)).trans (litGet (by kernel_rfl)), (hF_.out 51 (by kernel_rfl)).trans (litGet (by kernel_rfl)), (hF_.inn 0 _ _ rfl rfl).trans (by kernel_rfl), (hF_.inn 1 _ _ rfl rfl).trans (by kernel_rfl), (hF_.inn 2 _ _ rfl rfl).trans (by kernel_rfl), (hF_.inn 3 _ _ rfl rfl).trans (by kernel_rfl), (hF_.inn 4 _ _ rfl rfl).trans (by kernel_rfl), (hF_.inn 5 _ _ rfl rfl).trans (by kernel_rfl), (hF_.inn 6 _ _ rfl rfl).trans (by kernel_rfl), (hF_.inn 7 _ _ rfl rfl).trans (by kernel_rfl), (hF_.inn 8 _ _ rfl rfl).trans (by kernel_rfl), (hF_.inn 9 _ _ rfl rfl).trans (by kernel_rfl), (hF_.inn 10 _ _ rfl rfl).trans (by kernel_rfl), (hF_.out 63 (by kernel_rfl)).trans (litGet (by kernel_rfl)), (hF_.out 64 (by kernel_rfl)).trans (litGet (by kernel_rfl)), (hF_.out 65 (by kernel_rfl)).trans (litGet (by kernel_rfl)), (hF_.out 66 (by kernel_rfl)).trans (litGet (by kernel_rfl)), trivial⟩⟩ : Fr _ 73 [(0, .slice (some ⟨b, off, none⟩) l.length c), (1, .int .i64 (k : Int)), (4, .slice none 0 0), (5, .int .i64 0), (6, .slice A108 ((l.take k ++ chT t 3).length) c109), (7, .int .i64 3), (8, .pointer (some ⟨g118, 0, none⟩)), (10, .pointer (some ⟨g125, 0, none⟩)), (36, .int .i64 3), (37, .bool true), (38, .int .i64 2), (39, .int .i64 3), (40, .tuple #[.agg (pcs (octP 3)).toArray, .bool true]), (41, .int .i64 3), (42, .tuple #[.agg (pcs (octP 3)).toArray, .bool true]), (43, .agg (pcs (octP 3)).toArray), (44, .bool true), (45, .slice (some ⟨b, off, none⟩) l.length c), (46, .int .i64 (k : Int)), (47, .pointer (some ⟨b, off + k * 4, none⟩)), (48, .pointer (some ⟨b, off + k * 4, none⟩)), (49, .int .i64 t.lv), (50, .int .i64 (t.lv - 1)), (51, .agg (tlc ⟨t.lv - 1, ⟨0, 0, 0⟩⟩).toArray), (52, .slice (some ⟨b, off, none⟩) l.length c), (53, .int .i64 (k : Int)), (54, .pointer (some ⟨b, off + k * 4, none⟩)), (55, .pointer (some ⟨b, off + k * 4 + 1, none⟩)), (56, .agg (pcs t.p).toArray), (57, .agg (pcs (octP 3)).toArray), (58, .agg (tlc ⟨t.lv - 1, ⟨0, 0, 0⟩⟩).toArray), (59, .int .i64 (sideL (t.lv - 1))), (60, .agg (pcs ((octP 3).mul (sideL (t.lv - 1)))).toArray), (61, .agg (pcs ((child t 3).p)).toArray), (62, .pointer (some ⟨g125, 1, none⟩)), (63, .slice A76 ((l.take k ++ chT t 2).length) c77), (64, .agg (tlc ⟨t.lv - 1, ((child t 2).p)⟩).toArray), (65, .slice (some ⟨g103, 0, none⟩) 1 1), (66, .slice A108 ((l.take k ++ chT t 3).length) c109)])
  clear hF_
  have hm134 : Mem w w132 [.row (.slice A108 ((l.take k ++ chT t 3).length) c109) 38 4 ((l.take k ++ chT t 3).length) (tlsC (l.take k ++ chT t 3)), .arr g118 23 (pcs (octP 3)), .arr g125 38 ([.int .i64 (t.lv - 1), .int .i64 (((child t 3).p).x), .int .i64 (((child t 3).p).y), .int .i64 (((child t 3).p).z)])] := hm131
  clear hm131 hm128
  refine then_normal (hK130 _ _ ?_)
  refine plStart ?_
  refine lk (v := .slice A108 ((l.take k ++ chT t 3).length) c109) rfl rfl rfl ?_
  refine litVal (v := .agg (tlc ⟨t.lv - 1, ((child t 3).p)⟩).toArray) rfl (wn rfl) (gLoadAg (vs := tlc ⟨t.lv - 1, ((child t 3).p)⟩) (k := 0) 2 hm134 rfl (by kernel_rfl) (by kernel_rfl) (.tmp 10) Ty.ag_voxel_api_Tile rfl (litEv (by kernel_rfl))) rfl (by decide) ?_
  refine plLit (cs := [.int .i64 (t.lv - 1), .int .i64 (((child t 3).p).x), .int .i64 (((child t 3).p).y), .int .i64 (((child t 3).p).z)]) (n := 1) Ty.sl_L_api_Tile hm134 (i := 2) rfl (wn rfl) rfl (by decide) (by decide) (by rw [lit_eval]; kernel_rfl) ?_
  intro g135 w137 hm136
  clear hm134
  try simp only [List.cons_append, List.nil_append, List.set_cons_succ, List.set_cons_zero] at hm136
  refine qP rfl ?_
  refine plApp1 (v := .slice A108 ((l.take k ++ chT t 3).length) c109) (n := (l.take k ++ chT t 3).length) (xs := tlsC (l.take k ++ chT t 3)) (ys := [.int .i64 (t.lv - 1), .int .i64 (((child t 3).p).x), .int .i64 (((child t 3).p).y), .int .i64 (((child t 3).p).z)]) 0 3 Ty.sl_L_api_Tile hm136 rfl rfl (i := 3) rfl (wn rfl) rfl (litEv (by kernel_rfl)) (litEv (by kernel_rfl)) (by kernel_rfl) (by kernel_rfl) (by simp only [List.length_append, chT_len, List.length_take]; omega) (by simp only [List.length_append, chT_len, List.length_take]; omega) ?_
  intro v142 w139 hm138
  clear hm136
  try simp only [List.cons_append, List.nil_append, List.set_cons_succ, List.set_cons_zero] at hm138
  replace hm138 := Mem.rowEq (v := v142) (e := 38) (size := 4) (n := ((l.take k ++ chT t 3).length) + 1) (n' := (l.take k ++ chT t 4).length) (xs := (tlsC (l.take k ++ chT t 3)) ++ ([.int .i64 (t.lv - 1), .int .i64 (((child t 3).p).x), .int .i64 (((child t 3).p).y), .int .i64 (((child t 3).p).z)])) (xs' := tlsC (l.take k ++ chT t 4)) 0 hm138 rfl (by rw [List.length_append, List.length_append, chT_len, chT_len]) (tls_ch _ t 3)
  try simp only [List.cons_append, List.nil_append, List.set_cons_succ, List.set_cons_zero] at hm138
  obtain ⟨A140, c141, rfl⟩ := Mem.rowSl (v := v142) (e := 38) (size := 4) (n := (l.take k ++ chT t 4).length) (xs := tlsC (l.take k ++ chT t 4)) 0 hm138 rfl
  refine qP rfl ?_
  refine lk (v := .slice A140 ((l.take k ++ chT t 4).length) c141) rfl rfl rfl ?_
  refine plD ?_
  refine inBlock_normal ?_
  refine then_normal (hK114 _ _ ?_)
  refine plStart ?_
  refine lk (v := .int .i64 3) rfl rfl rfl ?_
  refine lk (v := .int .i64 4) rfl rfl rfl ?_
  refine lk (v := .int .i64 4) rfl rfl rfl ?_
  refine plD ?_
  refine then_normal (roundsNext ?_)
  have hm143 : Mem w w139 [.row (.slice A140 ((l.take k ++ chT t 4).length) c141) 38 4 ((l.take k ++ chT t 4).length) (tlsC (l.take k ++ chT t 4))] := (hm138.sub (.cons_cons _ (.cons _ (.cons _ (.cons _ .slnil)))))
  clear hm138
  refine wp_seq_k fun K144 hK144 => ?_
  refine wp_seq_k fun K145 hK145 => ?_
  refine plStart ?_
  refine lk (v := .int .i64 4) rfl rfl rfl ?_
  refine lk (v := .bool true) rfl rfl rfl ?_
  refine plD ?_
  refine then_normal (hK145 _ _ ?_)
  refine wp_cond_true (litEv (by kernel_rfl)) ?_
  refine wp_skip ?_
  refine then_normal (hK144 _ _ ?_)
  refine wp_seq_k fun K146 hK146 => ?_
  refine wp_block ?_
  refine wp_seq_k fun K147 hK147 => ?_
  refine plStart ?_
  refine lk (v := .int .i64 4) rfl rfl rfl ?_
  refine plCall (i := 1) 42 [.int .i64 4] [] [] rfl (by kernel_rfl) (wn rfl) rfl (litEv (by kernel_rfl)) (litArgs (by kernel_rfl)) (rdecodeK_any (k := 4) (by decide) rfl _) ?_
  rintro e w148 ⟨rfl, hbz⟩
  have hm149 := hm143.below hbz
  clear hbz hm143
  refine ⟨_, rfl, ?_⟩
  refine qP rfl ?_
  refine lk (v := .tuple #[.agg (pcs (octP 4)).toArray, .bool true]) rfl rfl rfl ?_
  refine lk (v := .agg (pcs (octP 4)).toArray) rfl rfl rfl ?_
  refine lk (v := .bool true) rfl rfl rfl ?_
  refine plAlloc (z := [.int .i64 0, .int .i64 0, .int .i64 0]) Ty.ag_voxel_api_Point hm149 (i := 5) rfl (wn rfl) rfl ?_
  intro g150 w152 hm151
  clear hm149
  try simp only [List.cons_append, List.nil_append, List.set_cons_succ, List.set_cons_zero] at hm151
  refine qP rfl ?_
  refine plStore 1 Ty.ag_voxel_api_Point hm151 rfl (i := 6) (cs := pcs (octP 4)) rfl (wn rfl) rfl (litEv (by kernel_rfl)) (litEv (by kernel_rfl)) rfl rfl (by kernel_rfl) ?_
  intro w154 hm153
  clear hm151
  try simp only [List.cons_append, List.nil_append, List.set_cons_succ, List.set_cons_zero] at hm153
  refine qNone rfl ?_
  refine lk (v := .bool true) rfl rfl rfl ?_
  refine plD ?_
  refine then_normal (hK147 _ _ ?_)
  refine wpPrune [(0, .slice (some ⟨b, off, none⟩) l.length c), (1, .int .i64 (k : Int)), (4, .slice none 0 0), (5, .int .i64 0), (6, .slice A140 ((l.take k ++ chT t 4).length) c141), (7, .int .i64 4), (8, .pointer (some ⟨g150, 0, none⟩)), (10, .pointer (some ⟨g125, 0, none⟩)), (36, .int .i64 4), (37, .bool true), (38, .int .i64 3), (39, .int .i64 4), (40, .tuple #[.agg (pcs (octP 4)).toArray, .bool true]), (41, .int .i64 4), (42, .tuple #[.agg (pcs (octP 4)).toArray, .bool true]), (43, .agg (pcs (octP 4)).toArray), (44, .bool true), (45, .slice (some ⟨b, off, none⟩) l.length c), (46, .int .i64 (k : Int)), (47, .pointer (some ⟨b, off + k * 4, none⟩)), (48, .pointer (some ⟨b, off + k * 4, none⟩)), (49, .int .i64 t.lv), (50, .int .i64 (t.lv - 1)), (51, .agg (tlc ⟨t.lv - 1, ⟨0, 0, 0⟩⟩).toArray), (52, .slice (some ⟨b, off, none⟩) l.length c), (53, .int .i64 (k : Int)), (54, .pointer (some ⟨b, off + k * 4, none⟩)), (55, .pointer (some ⟨b, off + k * 4 + 1, none⟩)), (56, .agg (pcs t.p).toArray), (57, .agg (pcs (octP 3)).toArray), (58, .agg (tlc ⟨t.lv - 1, ⟨0, 0, 0⟩⟩).toArray), (59, .int .i64 (sideL (t.lv - 1))), (60, .agg (pcs ((octP 3).mul (sideL (t.lv - 1)))).toArray), (61, .agg (pcs ((child t 3).p)).toArray), (62, .pointer (some ⟨g125, 1, none⟩)), (63, .slice A108 ((l.take k ++ chT t 3).length) c109), (64, .agg (tlc ⟨t.lv - 1, ((child t 3).p)⟩).toArray), (65, .slice (some ⟨g135, 0, none⟩) 1 1), (66, .slice A140 ((l.take k ++ chT t 4).length) c141)] ⟨litGet (by kernel_rfl), ⟨litGet (by kernel_rfl), ⟨litGet (by kernel_rfl), ⟨litGet (by kernel_rfl), ⟨litGet (by kernel_rfl), ⟨litGet (by kernel_rfl), ⟨litGet (by kernel_rfl), ⟨litGet (by kernel_rfl), ⟨litGet (by kernel_rfl), ⟨litGet (by kernel_rfl), ⟨litGet (by kernel_rfl), ⟨litGet (by kernel_rfl), ⟨litGet (by kernel_rfl), ⟨litGet (by kernel_rfl), ⟨litGet (by kernel_rfl), ⟨litGet (by kernel_rfl), ⟨litGet (by kernel_rfl), ⟨litGet (by kernel_rfl), ⟨litGet (by kernel_rfl), ⟨litGet (by kernel_rfl), ⟨litGet (by kernel_rfl), ⟨litGet (by kernel_rfl), ⟨litGet (by kernel_rfl), ⟨litGet (by kernel_rfl), ⟨litGet (by kernel_rfl), ⟨litGet (by kernel_rfl), ⟨litGet (by kernel_rfl), ⟨litGet (by kernel_rfl), ⟨litGet (by kernel_rfl), ⟨litGet (by kernel_rfl), ⟨litGet (by kernel_rfl), ⟨litGet (by kernel_rfl), ⟨litGet (by kernel_rfl), ⟨litGet (by kernel_rfl), ⟨litGet (by kernel_rfl), ⟨litGet (by kernel_rfl), ⟨litGet (by kernel_rfl), ⟨litGet (by kernel_rfl), ⟨litGet (by kernel_rfl), trivial⟩⟩⟩⟩⟩⟩⟩⟩⟩⟩⟩⟩⟩⟩⟩⟩⟩⟩⟩⟩⟩⟩⟩⟩⟩⟩⟩⟩⟩⟩⟩⟩⟩⟩⟩⟩⟩⟩⟩ (fun X155 => ?_)
  refine wp_seq_k fun K156 hK156 => ?_
  refine plStart ?_
  refine lk (v := .slice (some ⟨b, off, none⟩) l.length c) rfl rfl rfl ?_
  refine lk (v := .int .i64 (k : Int)) rfl rfl rfl ?_
  refine litVal (v := .pointer (some ⟨b, off + k * 4, none⟩)) rfl (wn rfl) (gIaSl (b := b) (off := off) (n := l.length) (c := c) (kk := .i64) (K := (k : Int)) (.tmp 45) (.tmp 46) k Ty.sl_L_api_Tile rfl (litEv (by kernel_rfl)) (litEv (by kernel_rfl)) (rfl) (by omega)) rfl (by decide) ?_
  refine lk (v := .pointer (some ⟨b, off + k * 4, none⟩)) rfl rfl rfl ?_
  refine litVal (v := .int .i64 t.lv) rfl (wn rfl) (gLoadRd (v := .int .i64 t.lv) (m := k * 4) ((Rd.below hr hm153.bel).more hm153.bel.size) rfl (tlsC_get hk 0 _ rfl) (by omega) (.tmp 48) (by kernel_rfl) rfl (litEv (by kernel_rfl))) rfl (by decide) ?_
  refine litVal (v := .int .i64 (t.lv - 1)) rfl (wn rfl) (subRun (A := t.lv) (B := 1) (C := t.lv - 1) (.tmp 49) (.const (.int .i64 1)) rfl (litEv (by kernel_rfl)) (litEv (by kernel_rfl)) rfl (by omega)) rfl (by decide) ?_
  refine lk (v := .agg (tlc ⟨t.lv - 1, ⟨0, 0, 0⟩⟩).toArray) rfl rfl rfl ?_
  refine plAlloc (z := [.int .i64 0, .int .i64 0, .int .i64 0, .int .i64 0]) Ty.ag_voxel_api_Tile hm153 (i := 7) rfl (wn rfl) rfl ?_
  intro g157 w159 hm158
  clear hm153
  try simp only [List.cons_append, List.nil_append, List.set_cons_succ, List.set_cons_zero] at hm158
  refine qP rfl ?_
  refine plStore 2 Ty.ag_voxel_api_Tile hm158 rfl (i := 8) (cs := tlc ⟨t.lv - 1, ⟨0, 0, 0⟩⟩) rfl (wn rfl) rfl (litEv (by kernel_rfl)) (litEv (by kernel_rfl)) rfl rfl (by kernel_rfl) ?_
  intro w161 hm160
  clear hm158
  try simp only [List.cons_append, List.nil_append, List.set_cons_succ, List.set_cons_zero] at hm160
  refine qNone rfl ?_
  refine plD ?_
  refine then_normal (hK156 _ _ ?_)
  refine wp_seq_k fun K162 hK162 => ?_
  refine aoStart (aoV [fun _ => .slice (some ⟨b, off, none⟩) l.length c, fun _ => .int .i64 (k : Int), fun _ => .pointer (some ⟨b, off + k * 4, none⟩), fun _ => .pointer (some ⟨b, off + k * 4 + 1, none⟩), fun _ => .agg (pcs t.p).toArray, fun _ => .agg (pcs (octP 4)).toArray, fun _ => .agg (tlc ⟨t.lv - 1, ⟨0, 0, 0⟩⟩).toArray, fun _ => .int .i64 (sideL (t.lv - 1)), fun _ => .agg (pcs ((octP 4).mul (sideL (t.lv - 1)))).toArray, fun _ => .agg (pcs ((child t 4).p)).toArray, fun _ => .pointer (some ⟨g157, 1, none⟩), fun _ => undef]) (aoA [0, 1, 2, 3, 4, 5, 6, 7, 8, 9, 10, 11]) (fun b_ g_ => ((.row (.slice A140 ((l.take k ++ chT t 4).length) c141) 38 4 ((l.take k ++ chT t 4).length) (tlsC (l.take k ++ chT t 4))) :: (.arr g150 23 (pcs (octP 4))) :: (.arr g157 38 (bsel (b_ 11) [.int .i64 (t.lv - 1), .int .i64 (((child t 4).p).x), .int .i64 (((child t 4).p).y), .int .i64 (((child t 4).p).z)] (tlc ⟨t.lv - 1, ⟨0, 0, 0⟩⟩))) :: [])) hm160 (by kernel_rfl) (by kernel_rfl) (fun w_ h_ => h_) (fun b_ g_ h_ => by show (fun (x11_ : Bool) => (((.row (.slice A140 ((l.take k ++ chT t 4).length) c141) 38 4 ((l.take k ++ chT t 4).length) (tlsC (l.take k ++ chT t 4))) :: (.arr g150 23 (pcs (octP 4))) :: (.arr g157 38 (bsel x11_ [.int .i64 (t.lv - 1), .int .i64 (((child t 4).p).x), .int .i64 (((child t 4).p).y), .int .i64 (((child t 4).p).z)] (tlc ⟨t.lv - 1, ⟨0, 0, 0⟩⟩))) :: []) : List Res)) (b_ 11) = _; rw [h_ 11 (by decide)]) ?_ ?_
  · refine aoNext rfl (aoVal (fun g_ => [(0, .slice (some ⟨b, off, none⟩) l.length c)]) (fun g_ a_ h_k => ⟨(h_k.out 0 (by kernel_rfl)).trans (litGet (by kernel_rfl)), trivial⟩) (fun g_ X_ => (wn rfl)) (fun b_ g_ => by kernel_rfl) (fun b_ g_ X_ w_ h_b h_ => valTo (b := .slice (some ⟨b, off, none⟩) l.length c) (by kernel_rfl) (litRun (by kernel_rfl)))) ?_
    refine aoNext rfl (aoVal (fun g_ => [(1, .int .i64 (k : Int))]) (fun g_ a_ h_k => ⟨(h_k.out 1 (by kernel_rfl)).trans (litGet (by kernel_rfl)), trivial⟩) (fun g_ X_ => (wn rfl)) (fun b_ g_ => by kernel_rfl) (fun b_ g_ X_ w_ h_b h_ => valTo (b := .int .i64 (k : Int)) (by kernel_rfl) (litRun (by kernel_rfl)))) ?_
    refine aoNext rfl (aoVal (fun g_ => [(52, .slice (some ⟨b, off, none⟩) l.length c), (53, .int .i64 (k : Int))]) (fun g_ a_ h_k => ⟨(h_k.inn 0 _ _ (by kernel_rfl) rfl rfl).trans (by kernel_rfl), (h_k.inn 1 _ _ (by kernel_rfl) rfl rfl).trans (by kernel_rfl), trivial⟩) (fun g_ X_ => (wn rfl)) (fun b_ g_ => by kernel_rfl) (fun b_ g_ X_ w_ h_b h_ => valTo (b := .pointer (some ⟨b, off + k * 4, none⟩)) (by kernel_rfl) (gIaSl (b := b) (off := off) (n := l.length) (c := c) (kk := .i64) (K := (k : Int)) (.tmp 52) (.tmp 53) k Ty.sl_L_api_Tile rfl (litEv (by kernel_rfl)) (litEv (by kernel_rfl)) (rfl) (by omega)))) ?_
    refine aoNext rfl (aoVal (fun g_ => [(54, .pointer (some ⟨b, off + k * 4, none⟩))]) (fun g_ a_ h_k => ⟨(h_k.inn 2 _ _ (by kernel_rfl) rfl rfl).trans (by kernel_rfl), trivial⟩) (fun g_ X_ => (wn rfl)) (fun b_ g_ => by kernel_rfl) (fun b_ g_ X_ w_ h_b h_ => valTo (b := .pointer (some ⟨b, off + k * 4 + 1, none⟩)) (by kernel_rfl) (litRun (by kernel_rfl)))) ?_
    refine aoNext rfl (aoVal (fun g_ => [(55, .pointer (some ⟨b, off + k * 4 + 1, none⟩))]) (fun g_ a_ h_k => ⟨(h_k.inn 3 _ _ (by kernel_rfl) rfl rfl).trans (by kernel_rfl), trivial⟩) (fun g_ X_ => (wn rfl)) (fun b_ g_ => by kernel_rfl) (fun b_ g_ X_ w_ h_b h_ => valTo (b := .agg (pcs t.p).toArray) (by kernel_rfl) ((fun (h_ : Mem _ w_ ((.row (.slice A140 ((l.take k ++ chT t 4).length) c141) 38 4 ((l.take k ++ chT t 4).length) (tlsC (l.take k ++ chT t 4))) :: (.arr g150 23 (pcs (octP 4))) :: (.arr g157 38 (tlc ⟨t.lv - 1, ⟨0, 0, 0⟩⟩)) :: [])) => gLoadAgRd (vs := pcs t.p) (m := k * 4 + 1) ((Rd.below hr h_.bel).more h_.bel.size) rfl (fun i_ u_ hu_ => by have := tlsC_get hk (1 + i_) u_ (by rw [Nat.add_comm]; exact hu_); rw [← Nat.add_assoc] at this; exact this) (by kernel_rfl) (by omega) (.tmp 55) Ty.ag_voxel_api_Point rfl (litEv (by kernel_rfl))) (by have h2_ : Mem w w_ ((.row (.slice A140 ((l.take k ++ chT t 4).length) c141) 38 4 ((l.take k ++ chT t 4).length) (tlsC (l.take k ++ chT t 4))) :: (.arr g150 23 (pcs (octP 4))) :: (.arr g157 38 (bsel (b_ 11) [.int .i64 (t.lv - 1), .int .i64 (((child t 4).p).x), .int .i64 (((child t 4).p).y), .int .i64 (((child t 4).p).z)] (tlc ⟨t.lv - 1, ⟨0, 0, 0⟩⟩))) :: []) := h_; rw [bselF (h_b.post 11 (by kernel_rfl))] at h2_; exact h2_)))) ?_
    refine aoNext rfl (aoVal (fun g_ => [(8, .pointer (some ⟨g150, 0, none⟩))]) (fun g_ a_ h_k => ⟨(h_k.out 8 (by kernel_rfl)).trans (litGet (by kernel_rfl)), trivial⟩) (fun g_ X_ => (wn rfl)) (fun b_ g_ => by kernel_rfl) (fun b_ g_ X_ w_ h_b h_ => valTo (b := .agg (pcs (octP 4)).toArray) (by kernel_rfl) ((fun (h_ : Mem _ w_ ((.row (.slice A140 ((l.take k ++ chT t 4).length) c141) 38 4 ((l.take k ++ chT t 4).length) (tlsC (l.take k ++ chT t 4))) :: (.arr g150 23 (pcs (octP 4))) :: (.arr g157 38 (tlc ⟨t.lv - 1, ⟨0, 0, 0⟩⟩)) :: [])) => gLoadAg (vs := pcs (octP 4)) (k := 0) 1 h_ rfl (by kernel_rfl) (by kernel_rfl) (.tmp 8) Ty.ag_voxel_api_Point rfl (litEv (by kernel_rfl))) (by have h2_ : Mem w w_ ((.row (.slice A140 ((l.take k ++ chT t 4).length) c141) 38 4 ((l.take k ++ chT t 4).length) (tlsC (l.take k ++ chT t 4))) :: (.arr g150 23 (pcs (octP 4))) :: (.arr g157 38 (bsel (b_ 11) [.int .i64 (t.lv - 1), .int .i64 (((child t 4).p).x), .int .i64 (((child t 4).p).y), .int .i64 (((child t 4).p).z)] (tlc ⟨t.lv - 1, ⟨0, 0, 0⟩⟩))) :: []) := h_; rw [bselF (h_b.post 11 (by kernel_rfl))] at h2_; exact h2_)))) ?_
    refine aoNext rfl (aoVal (fun g_ => [(10, .pointer (some ⟨g157, 0, none⟩))]) (fun g_ a_ h_k => ⟨(h_k.out 10 (by kernel_rfl)).trans (litGet (by kernel_rfl)), trivial⟩) (fun g_ X_ => (wn rfl)) (fun b_ g_ => by kernel_rfl) (fun b_ g_ X_ w_ h_b h_ => valTo (b := .agg (tlc ⟨t.lv - 1, ⟨0, 0, 0⟩⟩).toArray) (by kernel_rfl) ((fun (h_ : Mem _ w_ ((.row (.slice A140 ((l.take k ++ chT t 4).length) c141) 38 4 ((l.take k ++ chT t 4).length) (tlsC (l.take k ++ chT t 4))) :: (.arr g150 23 (pcs (octP 4))) :: (.arr g157 38 (tlc ⟨t.lv - 1, ⟨0, 0, 0⟩⟩)) :: [])) => gLoadAg (vs := tlc ⟨t.lv - 1, ⟨0, 0, 0⟩⟩) (k := 0) 2 h_ rfl (by kernel_rfl) (by kernel_rfl) (.tmp 10) Ty.ag_voxel_api_Tile rfl (litEv (by kernel_rfl))) (by have h2_ : Mem w w_ ((.row (.slice A140 ((l.take k ++ chT t 4).length) c141) 38 4 ((l.take k ++ chT t 4).length) (tlsC (l.take k ++ chT t 4))) :: (.arr g150 23 (pcs (octP 4))) :: (.arr g157 38 (bsel (b_ 11) [.int .i64 (t.lv - 1), .int .i64 (((child t 4).p).x), .int .i64 (((child t 4).p).y), .int .i64 (((child t 4).p).z)] (tlc ⟨t.lv - 1, ⟨0, 0, 0⟩⟩))) :: []) := h_; rw [bselF (h_b.post 11 (by kernel_rfl))] at h2_; exact h2_)))) ?_
    refine aoNext rfl (aoCall (fun g_ => [(58, .agg (tlc ⟨t.lv - 1, ⟨0, 0, 0⟩⟩).toArray)]) (fun g_ a_ h_k => ⟨(h_k.inn 6 _ _ (by kernel_rfl) rfl rfl).trans (by kernel_rfl), trivial⟩) 45 (fun g_ => [.agg (tlc ⟨t.lv - 1, ⟨0, 0, 0⟩⟩).toArray]) [] [] (by kernel_rfl) (fun g_ X_ => (wn rfl)) (fun b_ g_ => by kernel_rfl) rfl (fun g_ X_ => litEv (by kernel_rfl)) (fun g_ X_ => litArgs (by kernel_rfl)) (fun b_ g_ w_ h_b h_ => (rside_any ⟨t.lv - 1, ⟨0, 0, 0⟩⟩ hsl_ _).mono (fun _ _ h_r => ⟨h_r.1.trans (by kernel_rfl), h_r.2⟩))) ?_
    refine aoNext rfl (aoCall (fun g_ => [(57, .agg (pcs (octP 4)).toArray), (59, .int .i64 (sideL (t.lv - 1)))]) (fun g_ a_ h_k => ⟨(h_k.inn 5 _ _ (by kernel_rfl) rfl rfl).trans (by kernel_rfl), (h_k.inn 7 _ _ (by kernel_rfl) rfl rfl).trans (by kernel_rfl), trivial⟩) 44 (fun g_ => [.agg (pcs (octP 4)).toArray, .int .i64 (sideL (t.lv - 1))]) [] [] (by kernel_rfl) (fun g_ X_ => (wn rfl)) (fun b_ g_ => by kernel_rfl) rfl (fun g_ X_ => litEv (by kernel_rfl)) (fun g_ X_ => litArgs (by kernel_rfl)) (fun b_ g_ w_ h_b h_ => (rscale_any (octP 4) (sideL (t.lv - 1)) (hm_ 4).1 (hm_ 4).2.1 (hm_ 4).2.2 _).mono (fun _ _ h_r => ⟨h_r.1.trans (by kernel_rfl), h_r.2⟩))) ?_
    refine aoNext rfl (aoCall (fun g_ => [(56, .agg (pcs t.p).toArray), (60, .agg (pcs ((octP 4).mul (sideL (t.lv - 1)))).toArray)]) (fun g_ a_ h_k => ⟨(h_k.inn 4 _ _ (by kernel_rfl) rfl rfl).trans (by kernel_rfl), (h_k.inn 8 _ _ (by kernel_rfl) rfl rfl).trans (by kernel_rfl), trivial⟩) 43 (fun g_ => [.agg (pcs t.p).toArray, .agg (pcs ((octP 4).mul (sideL (t.lv - 1)))).toArray]) [] [] (by kernel_rfl) (fun g_ X_ => (wn rfl)) (fun b_ g_ => by kernel_rfl) rfl (fun g_ X_ => litEv (by kernel_rfl)) (fun g_ X_ => litArgs (by kernel_rfl)) (fun b_ g_ w_ h_b h_ => (radd_any t.p ((octP 4).mul (sideL (t.lv - 1))) hp_ (ha_ 4) _).mono (fun _ _ h_r => ⟨h_r.1.trans (by kernel_rfl), h_r.2⟩))) ?_
    refine aoNext rfl (aoVal (fun g_ => [(10, .pointer (some ⟨g157, 0, none⟩))]) (fun g_ a_ h_k => ⟨(h_k.out 10 (by kernel_rfl)).trans (litGet (by kernel_rfl)), trivial⟩) (fun g_ X_ => (wn rfl)) (fun b_ g_ => by kernel_rfl) (fun b_ g_ X_ w_ h_b h_ => valTo (b := .pointer (some ⟨g157, 1, none⟩)) (by kernel_rfl) (litRun (by kernel_rfl)))) ?_
    refine aoNext rfl (aoStore (gb := fun g_ => g157) (k := 1) (cur := fun g_ => tlc ⟨t.lv - 1, ⟨0, 0, 0⟩⟩) (vs := fun g_ => pcs ((child t 4).p)) 2 (fun g_ => [(61, .agg (pcs ((child t 4).p)).toArray), (62, .pointer (some ⟨g157, 1, none⟩))]) (fun g_ a_ h_k => ⟨(h_k.inn 9 _ _ (by kernel_rfl) rfl rfl).trans (by kernel_rfl), (h_k.inn 10 _ _ (by kernel_rfl) rfl rfl).trans (by kernel_rfl), trivial⟩) Ty.ag_voxel_api_Point (fun b_ g_ h_b => by show some (Res.arr g157 38 (bsel (b_ 11) [.int .i64 (t.lv - 1), .int .i64 (((child t 4).p).x), .int .i64 (((child t 4).p).y), .int .i64 (((child t 4).p).z)] (tlc ⟨t.lv - 1, ⟨0, 0, 0⟩⟩))) = some (Res.arr g157 38 (tlc ⟨t.lv - 1, ⟨0, 0, 0⟩⟩)); rw [bselF h_b.no]) (fun g_ X_ => (wn rfl)) rfl (fun g_ X_ => litEv (by kernel_rfl)) (fun g_ X_ => litEv (by kernel_rfl)) (fun _ => by kernel_rfl) (fun _ => by kernel_rfl) (fun _ => by kernel_rfl) (fun b_ g_ h_b => by kernel_rfl) rfl) ?_
    exact aoDone (by decide)
  intro g_ a_ w164 hF_ hm163
  obtain ⟨X165, rfl⟩ := frLit (⟨hF_.size, hF_.defers, ⟨(hF_.out 0 (by kernel_rfl)).trans (litGet (by kernel_rfl)), (hF_.out 1 (by kernel_rfl)).trans (litGet (by kernel_rfl)), (hF_.out 4 (by kernel_rfl)).trans (litGet (by kernel_rfl)), (hF_.out 5 (by kernel_rfl)).trans (litGet (by kernel_rfl)), (hF_.out 6 (by kernel_rfl)).trans (litGet (by kernel_rfl)), (hF_.out 7 (by kernel_rfl)).trans (litGet (by kernel_rfl)), (hF_.out 8 (by kernel_rfl)).trans (litGet (by kernel_rfl)), (hF_.out 10 (by kernel_rfl)).trans (litGet (by kernel_rfl)), (hF_.out 36 (by kernel_rfl)).trans (litGet (by kernel_rfl)), (hF_.out 37 (by kernel_rfl)).trans (litGet (by kernel_rfl)), (hF_.out 38 (by kernel_rfl)).trans (litGet (by kernel_rfl)), (hF_.out 39 (by kernel_rfl)).trans (litGet (by kernel_rfl)), (hF_.out 40 (by kernel_rfl)).trans (litGet (by kernel_rfl)), (hF_.out 41 (by kernel_rfl)).trans (litGet (by kernel_rfl)), (hF_.out 42 (by kernel_rfl)).trans (litGet (by kernel_rfl)), (hF_.out 43 (by kernel_rfl)).trans (litGet (by kernel_rfl)), (hF_.out 44 (by kernel_rfl)).trans (litGet (by kernel_rfl)), (hF_.out 45 (by kernel_rfl)).trans (litGet (by kernel_rfl)), (hF_.out 46 (by kernel_rfl)).trans (litGet (by kernel_rfl)), (hF_.out 47 (by kernel_rfl)).trans (litGet (by kernel_rfl)), (hF_.out 48 (by kernel_rfl)).trans (litGet (by kernel_rfl)), (hF_.out 49 (by kernel_rfl)).trans (litGet (by kernel_rfl)), (hF_.out 50 (by kernel_rfl)).trans (litGet (by kernel_rfl)), (hF_.out 51 (by kernel_rfl)).trans (litGet (by kernel_rfl)), (hF_.inn 0 _ _ rfl rfl).trans (by kernel_rfl), (hF_.inn 1 _ _ rfl rfl).trans (by kernel_rfl), (hF_.inn 2 _ _ rfl rfl).trans (by kernel_rfl), (hF_.inn 3 _ _ rfl rfl).trans (by kernel_rfl), (hF_.inn 4 _ _ rfl rfl).trans (by kernel_rfl), (hF_.inn 5 _ _ rfl rfl).trans (by kernel_rfl), (hF_.inn 6 _ _ rfl rfl).trans (by kernel_rfl), (hF_.inn 7 _ _ rfl rfl).trans (by kernel_rfl), (hF_.inn 8 _ _ rfl rfl).trans (by kernel_rfl), (hF_.inn 9 _ _ rfl rfl).trans (by kernel_rfl), (hF_.inn 10 _ _ rfl rfl).trans (by kernel_rfl), (hF_.out 63 (by kernel_rfl)).trans (litGet (by kernel_rfl)), (hF_.out 64 (by kernel_rfl)).trans (litGet (by kernel_rfl)), (hF_.out 65 (by kernel_rfl)).trans (litGet (by kernel_rfl)), (hF_.out 66 (by kernel_rfl)).trans (litGet (by kernel_rfl)), trivial⟩⟩ : Fr _ 73 [(0, .slice (some ⟨b, off, none⟩) l.length c), (1, .int .i64 (k : Int)), (4, .slice none 0 0), (5, .int .i64 0), (6, .slice A140 ((l.take k ++ chT t 4).length) c141), (7, .int .i64 4), (8, .pointer (some ⟨g150, 0, none⟩)), (10, .pointer (some ⟨g157, 0, none⟩)), (36, .int .i64 4), (37, .bool true), (38, .int .i64 3), (39, .int .i64 4), (40, .tuple #[.agg (pcs (octP 4)).toArray, .bool true]), (41, .int .i64 4), (42, .tuple #[.agg (pcs (octP 4)).toArray, .bool true]), (43, .agg (pcs (octP 4)).toArray), (44, .bool true), (45, .slice (some ⟨b, off, none⟩) l.length c), (46, .int .i64 (k : Int)), (47, .pointer (some ⟨b, off + k * 4, none⟩)), (48, .pointer (some ⟨b, off + k * 4, none⟩)), (49, .int .i64 t.lv), (50, .int .i64 (t.lv - 1)), (51, .agg (tlc ⟨t.lv - 1, ⟨0, 0, 0⟩⟩).toArray), (52, .slice (some ⟨b, off, none⟩) l.length c), (53, .int .i64 (k : Int)), (54, .pointer (some ⟨b, off + k * 4, none⟩)), (55, .pointer (some ⟨b, off + k * 4 + 1, none⟩)), (56, .agg (pcs t.p).toArray), (57, .agg (pcs (octP 4)).toArray), (58, .agg (tlc ⟨t.lv - 1, ⟨0, 0, 0⟩⟩).toArray), (59, .int .i64 (sideL (t.lv - 1))), (60, .agg (pcs ((octP 4).mul (sideL (t.lv - 1)))).toArray), (61, .agg (pcs ((child t 4).p)).toArray), (62, .pointer (some ⟨g157, 1, none⟩)), (63, .slice A108 ((l.take k ++ chT t 3).length) c109), (64, .agg (tlc ⟨t.lv - 1, ((child t 3).p)⟩).toArray), (65, .slice (some ⟨g135, 0, none⟩) 1 1), (66, .slice A140 ((l.take k ++ chT t 4).length) c141)])
  clear hF_
  have hm166 : Mem w w164 [.row (.slice A140 ((l.take k ++ chT t 4).length) c141) 38 4 ((l.take k ++ chT t 4).length) (tlsC (l.take k ++ chT t 4)), .arr g150 23 (pcs (octP 4)), .arr g157 38 ([.int .i64 (t.lv - 1), .int .i64 (((child t 4).p).x), .int .i64 (((child t 4).p).y), .int .i64 (((child t 4).p).z)])] := hm163
  clear hm163 hm160
  refine then_normal (hK162 _ _ ?_)
  refine plStart ?_
  refine lk (v := .slice A140 ((l.take k ++ chT t 4).length) c141) rfl rfl rfl ?_
  refine litVal (v := .agg (tlc ⟨t.lv - 1, ((child t 4).p)⟩).toArray) rfl (wn rfl) (gLoadAg (vs := tlc ⟨t.lv - 1, ((child t 4).p)⟩) (k := 0) 2 hm166 rfl (by kernel_rfl) (by kernel_rfl) (.tmp 10) Ty.ag_voxel_api_Tile rfl (litEv (by kernel_rfl))) rfl (by decide) ?_
  refine plLit (cs := [.int .i64 (t.lv - 1), .int .i64 (((child t 4).p).x), .int .i64 (((child t 4).p).y), .int .i64 (((child t 4).p).z)]) (n := 1) Ty.sl_L_api_Tile hm166 (i := 2) rfl (wn rfl) rfl (by decide) (by decide) (by rw [lit_eval]; kernel_rfl) ?_
  intro g167 w169 hm168
  clear hm166
  try simp only [List.cons_append, List.nil_append, List.set_cons_succ, List.set_cons_zero] at hm168
  refine qP rfl ?_
  refine plApp1 (v := .slice A140 ((l.take k ++ chT t 4).length) c141) (n := (l.take k ++ chT t 4).length) (xs := tlsC (l.take k ++ chT t 4)) (ys := [.int .i64 (t.lv - 1), .int .i64 (((child t 4).p).x), .int .i64 (((child t 4).p).y), .int .i64 (((child t 4).p).z)]) 0 3 Ty.sl_L_api_Tile hm168 rfl rfl (i := 3) rfl (wn rfl) rfl (litEv (by kernel_rfl)) (litEv (by kernel_rfl)) (by kernel_rfl) (by kernel_rfl) (by simp only [List.length_append, chT_len, List.length_take]; omega) (by simp only [List.length_append, chT_len, List.length_take]; omega) ?_
  intro v174 w171 hm170
  clear hm168
  try simp only [List.cons_append, List.nil_append, List.set_cons_succ, List.set_cons_zero] at hm170
  replace hm170 := Mem.rowEq (v := v174) (e := 38) (size := 4) (n := ((l.take k ++ chT t 4).length) + 1) (n' := (l.take k ++ chT t 5).length) (xs := (tlsC (l.take k ++ chT t 4)) ++ ([.int .i64 (t.lv - 1), .int .i64 (((child t 4).p).x), .int .i64 (((child t 4).p).y), .int .i64 (((child t 4).p).z)])) (xs' := tlsC (l.take k ++ chT t 5)) 0 hm170 rfl (by rw [List.length_append, List.length_append, chT_len, chT_len]) (tls_ch _ t 4)
  try simp only [List.cons_append, List.nil_append, List.set_cons_succ, List.set_cons_zero] at hm170
  obtain ⟨A172, c173, rfl⟩ := Mem.rowSl (v := v174) (e := 38) (size := 4) (n := (l.take k ++ chT t 5).length) (xs := tlsC (l.take k ++ chT t 5)) 0 hm170 rfl
  refine qP rfl ?_
  refine lk (v := .slice A172 ((l.take k ++ chT t 5).length) c173) rfl rfl rfl ?_
  refine plD ?_
  refine inBlock_normal ?_
  refine then_normal (hK146 _ _ ?_)
  refine plStart ?_
  refine lk (v := .int .i64 4) rfl rfl rfl ?_
  refine lk (v := .int .i64 5) rfl rfl rfl ?_
  refine lk (v := .int .i64 5) rfl rfl rfl ?_
  refine plD ?_
  refine then_normal (roundsNext ?_)
  have hm175 : Mem w w171 [.row (.slice A172 ((l.take k ++ chT t 5).length) c173) 38 4 ((l.take k ++ chT t 5).length) (tlsC (l.take k ++ chT t 5))] := (hm170.sub (.cons_cons _ (.cons _ (.cons _ (.cons _ .slnil)))))
  clear hm170
  refine wp_seq_k fun K176 hK176 => ?_
  refine wp_seq_k fun K177 hK177 => ?_
  refine plStart ?_
  refine lk (v := .int .i64 5) rfl rfl rfl ?_
  refine lk (v := .bool true) rfl rfl rfl ?_
  refine plD ?_
  refine then_normal (hK177 _ _ ?_)
  refine wp_cond_true (litEv (by kernel_rfl)) ?_
  refine wp_skip ?_
  refine then_normal (hK176 _ _ ?_)
  refine wp_seq_k fun K178 hK178 => ?_
  refine wp_block ?_
  refine wp_seq_k fun K179 hK179 => ?_
  refine plStart ?_
  refine lk (v := .int .i64 5) rfl rfl rfl ?_
  refine plCall (i := 1) 42 [.int .i64 5] [] [] rfl (by kernel_rfl) (wn rfl) rfl (litEv (by kernel_rfl)) (litArgs (by kernel_rfl)) (rdecodeK_any (k := 5) (by decide) rfl _) ?_
  rintro e w180 ⟨rfl, hbz⟩
  have hm181 := hm175.below hbz
  clear hbz hm175
  refine ⟨_, rfl, ?_⟩
  refine qP rfl ?_
  refine lk (v := .tuple #[.agg (pcs (octP 5)).toArray, .bool true]) rfl rfl rfl ?_
  refine lk (v := .agg (pcs (octP 5)).toArray) rfl rfl rfl ?_
  refine lk (v := .bool true) rfl rfl rfl ?_
  refine plAlloc (z := [.int .i64 0, .int .i64 0, .int .i64 0]) Ty.ag_voxel_api_Point hm181 (i := 5) rfl (wn rfl) rfl ?_
  intro g182 w184 hm183
  clear hm181
  try simp only [List.cons_append, List.nil_append, List.set_cons_succ, List.set_cons_zero] at hm183
  refine qP rfl ?_
  refine plStore 1 Ty.ag_voxel_api_Point hm183 rfl (i := 6) (cs := pcs (octP 5)) rfl (wn rfl) rfl (litEv (by kernel_rfl)) (litEv (by kernel_rfl)) rfl rfl (by kernel_rfl) ?_
  intro w186 hm185
  clear hm183
  try simp only [List.cons_append, List.nil_append, List.set_cons_succ, List.set_cons_zero] at hm185
  refine qNone rfl ?_
  refine lk (v := .bool true) rfl rfl rfl ?_
  refine plD ?_
  refine then_normal (hK179 _ _ ?_)
  refine wpPrune [(0, .slice (some ⟨b, off, none⟩) l.length c), (1, .int .i64 (k : Int)), (4, .slice none 0 0), (5, .int .i64 0), (6, .slice A172 ((l.take k ++ chT t 5).length) c173), (7, .int .i64 5), (8, .pointer (some ⟨g182, 0, none⟩)), (10, .pointer (some ⟨g157, 0, none⟩)), (36, .int .i64 5), (37, .bool true), (38, .int .i64 4), (39, .int .i64 5), (40, .tuple #[.agg (pcs (octP 5)).toArray, .bool true]), (41, .int .i64 5), (42, .tuple #[.agg (pcs (octP 5)).toArray, .bool true]), (43, .agg (pcs (octP 5)).toArray), (44, .bool true), (45, .slice (some ⟨b, off, none⟩) l.length c), (46, .int .i64 (k : Int)), (47, .pointer (some ⟨b, off + k * 4, none⟩)), (48, .pointer (some ⟨b, off + k * 4, none⟩)), (49, .int .i64 t.lv), (50, .int .i64 (t.lv - 1)), (51, .agg (tlc ⟨t.lv - 1, ⟨0, 0, 0⟩⟩).toArray), (52, .slice (some ⟨b, off, none⟩) l.length c), (53, .int .i64 (k : Int)), (54, .pointer (some ⟨b, off + k * 4, none⟩)), (55, .pointer (some ⟨b, off + k * 4 + 1, none⟩)), (56, .agg (pcs t.p).toArray), (57, .agg (pcs (octP 4)).toArray), (58, .agg (tlc ⟨t.lv - 1, ⟨0, 0, 0⟩⟩).toArray), (59, .int .i64 (sideL (t.lv - 1))), (60, .agg (pcs ((octP 4).mul (sideL (t.lv - 1)))).toArray), (61, .agg (pcs ((child t 4).p)).toArray), (62, .pointer (some ⟨g157, 1, none⟩)), (63, .slice A140 ((l.take k ++ chT t 4).length) c141), (64, .agg (tlc ⟨t.lv - 1, ((child t 4).p)⟩).toArray), (65, .slice (some ⟨g167, 0, none⟩) 1 1), (66, .slice A172 ((l.take k ++ chT t 5).length) c173)] ⟨litGet (by kernel_rfl), ⟨litGet (by kernel_rfl), ⟨litGet (by kernel_rfl), ⟨litGet (by kernel_rfl), ⟨litGet (by kernel_rfl), ⟨litGet (by kernel_rfl), ⟨litGet (by kernel_rfl), ⟨litGet (by kernel_rfl), ⟨litGet (by kernel_rfl), ⟨litGet (by kernel_rfl), ⟨litGet (by kernel_rfl), ⟨litGet (by kernel_rfl), ⟨litGet (by kernel_rfl), ⟨litGet (by kernel_rfl), ⟨litGet (by kernel_rfl), ⟨litGet (by kernel_rfl), ⟨litGet (by kernel_rfl), ⟨litGet (by kernel_rfl), ⟨litGet (by kernel_rfl), ⟨litGet (by kernel_rfl), ⟨litGet (by kernel_rfl), ⟨litGet (by kernel_rfl), ⟨litGet (by kernel_rfl), ⟨litGet (by kernel_rfl), ⟨litGet (by kernel_rfl), ⟨litGet (by kernel_rfl), ⟨litGet (by kernel_rfl), ⟨litGet (by kernel_rfl), ⟨litGet (by kernel_rfl), ⟨litGet (by kernel_rfl), ⟨litGet (by kernel_rfl), ⟨litGet (by kernel_rfl), ⟨litGet (by kernel_rfl), ⟨litGet (by kernel_rfl), ⟨litGet (by kernel_rfl), ⟨litGet (by kernel_rfl), ⟨litGet (by kernel_rfl), ⟨litGet (by kernel_rfl), ⟨litGet (by kernel_rfl), trivial⟩⟩⟩⟩⟩⟩⟩⟩⟩⟩⟩⟩⟩⟩⟩⟩⟩⟩⟩⟩⟩⟩⟩⟩⟩⟩⟩⟩⟩⟩⟩⟩⟩⟩⟩⟩⟩⟩⟩ (fun X187 => ?_)
  refine wp_seq_k fun K188 hK188 => ?_
  refine plStart ?_
  refine lk (v := .slice (some ⟨b, off, none⟩) l.length c) rfl rfl rfl ?_
  refine lk (v := .int .i64 (k : Int)) rfl rfl rfl ?_
  refine litVal (v := .pointer (some ⟨b, off + k * 4, none⟩)) rfl (wn rfl) (gIaSl (b := b) (off := off) (n := l.length) (c := c) (kk := .i64) (K := (k : Int)) (.tmp 45) (.tmp 46) k Ty.sl_L_api_Tile rfl (litEv (by kernel_rfl)) (litEv (by kernel_rfl)) (rfl) (by omega)) rfl (by decide) ?_
  refine lk (v := .pointer (some ⟨b, off + k * 4, none⟩)) rfl rfl rfl ?_
  refine litVal (v := .int .i64 t.lv) rfl (wn rfl) (gLoadRd (v := .int .i64 t.lv) (m := k * 4) ((Rd.below hr hm185.bel).more hm185.bel.size) rfl (tlsC_get hk 0 _ rfl) (by omega) (.tmp 48) (by kernel_rfl) rfl (litEv (by kernel_rfl))) rfl (by decide) ?_
  refine litVal (v := .int .i64 (t.lv - 1)) rfl (wn rfl) (subRun (A := t.lv) (B := 1) (C := t.lv - 1) (.tmp 49) (.const (.int .i64 1)) rfl (litEv (by kernel_rfl)) (litEv (by kernel_rfl)) rfl (by omega)) rfl (by decide) ?_
  refine lk (v := .agg (tlc ⟨t.lv - 1, ⟨0, 0, 0⟩⟩).toArray) rfl rfl rfl ?_
  refine plAlloc (z := [.int .i64 0, .int .i64 0, .int .i64 0, .int .i64 0]) Ty.ag_voxel_api_Tile hm185 (i := 7) rfl (wn rfl) rfl ?_
  intro g189 w191 hm190
  clear hm185
  try simp only [List.cons_append, List.nil_append, List.set_cons_succ, List.set_cons_zero] at hm190
  refine qP rfl ?_
  refine plStore 2 Ty.ag_voxel_api_Tile hm190 rfl (i := 8) (cs := tlc ⟨t.lv - 1, ⟨0, 0, 0⟩⟩) rfl (wn rfl) rfl (litEv (by kernel_rfl)) (litEv (by kernel_rfl)) rfl rfl (by kernel_rfl) ?_
  intro w193 hm192
  clear hm190
  try simp only [List.cons_append, List.nil_append, List.set_cons_succ, List.set_cons_zero] at hm192
  refine qNone rfl ?_
  refine plD ?_
  refine then_normal (hK188 _ _ ?_)
  refine wp_seq_k fun K194 hK194 => ?_
  refine aoStart (aoV [fun _ => .slice (some ⟨b, off, none⟩) l.length c, fun _ => .int .i64 (k : Int), fun _ => .pointer (some ⟨b, off + k * 4, none⟩), fun _ => .pointer (some ⟨b, off + k * 4 + 1, none⟩), fun _ => .agg (pcs t.p).toArray, fun _ => .agg (pcs (octP 5)).toArray, fun _ => .agg (tlc ⟨t.lv - 1, ⟨0, 0, 0⟩⟩).toArray, fun _ => .int .i64 (sideL (t.lv - 1)), fun _ => .agg (pcs ((octP 5).mul (sideL (t.lv - 1)))).toArray, fun _ => .agg (pcs ((child t 5).p)).toArray, fun _ => .pointer (some ⟨g189, 1, none⟩), fun _ => undef]) (aoA [0, 1, 2, 3, 4, 5, 6, 7, 8, 9, 10, 11]) (fun b_ g_ => ((.row (.slice A172 ((l.take k ++ chT t 5).length) c173) 38 4 ((l.take k ++ chT t 5).length) (tlsC (l.take k ++ chT t 5))) :: (.arr g182 23 (pcs (octP 5))) :: (.arr g189 38 (bsel (b_ 11) [.int .i64 (t.lv - 1), .int .i64 (((child t 5).p).x), .int .i64 (((child t 5).p).y), .int .i64 (((child t 5).p).z)] (tlc ⟨t.lv - 1, ⟨0, 0, 0⟩⟩))) :: [])) hm192 (by kernel_rfl) (by kernel_rfl) (fun w_ h_ => h_) (fun b_ g_ h_ => by show (fun (x11_ : Bool) => (((.row (.slice A172 ((l.take k ++ chT t 5).length) c173) 38 4 ((l.take k ++ chT t 5).length) (tlsC (l.take k ++ chT t 5))) :: (.arr g182 23 (pcs (octP 5))) :: (.arr g189 38 (bsel x11_ [.int .i64 (t.lv - 1), .int .i64 (((child t 5).p).x), .int .i64 (((child t 5).p).y), .int .i64 (((child t 5).p).z)] (tlc ⟨t.lv - 1, ⟨0, 0, 0⟩⟩))) :: []) : List Res)) (b_ 11) = _; rw [h_ 11 (by decide)]) ?_ ?_
  · refine aoNext rfl (aoVal (fun g_ => [(0, .slice (some ⟨b, off, none⟩) l.length c)]) (fun g_ a_ h_k => ⟨(h_k.out 0 (by kernel_rfl)).trans (litGet (by kernel_rfl)), trivial⟩) (fun g_ X_ => (wn rfl)) (fun b_ g_ => by kernel_rfl) (fun b_ g_ X_ w_ h_b h_ => valTo (b := .slice (some ⟨b, off, none⟩) l.length c) (by kernel_rfl) (litRun (by kernel_rfl)))) ?_
    refine aoNext rfl (aoVal (fun g_ => [(1, .int .i64 (k : Int))]) (fun g_ a_ h_k => ⟨(h_k.out 1 (by kernel_rfl)).trans (litGet (by kernel_rfl)), trivial⟩) (fun g_ X_ => (wn rfl)) (fun b_ g_ => by kernel_rfl) (fun b_ g_ X_ w_ h_b h_ => valTo (b := .int .i64 (k : Int)) (by kernel_rfl) (litRun (by kernel_rfl)))) ?_
    refine aoNext rfl (aoVal (fun g_ => [(52, .slice (some ⟨b, off, none⟩) l.length c), (53, .int .i64 (k : Int))]) (fun g_ a_ h_k => ⟨(h_k.inn 0 _ _ (by kernel_rfl) rfl rfl).trans (by kernel_rfl), (h_k.inn 1 _ _ (by kernel_rfl) rfl rfl).trans (by kernel_rfl), trivial⟩) (fun g_ X_ => (wn rfl)) (fun b_ g_ => by kernel_rfl) (fun b_ g_ X_ w_ h_b h_ => valTo (b := .pointer (some ⟨b, off + k * 4, none⟩)) (by kernel_rfl) (gIaSl (b := b) (off := off) (n := l.length) (c := c) (kk := .i64) (K := (k : Int)) (.tmp 52) (.tmp 53) k Ty.sl_L_api_Tile rfl (litEv (by kernel_rfl)) (litEv (by kernel_rfl)) (rfl) (by omega)))) ?_
    refine aoNext rfl (aoVal (fun g_ => [(54, .pointer (some ⟨b, off + k * 4, none⟩))]) (fun g_ a_ h_k => ⟨(h_k.inn 2 _ _ (by kernel_rfl) rfl rfl).trans (by kernel_rfl), trivial⟩) (fun g_ X_ => (wn rfl)) (fun b_ g_ => by kernel_rfl) (fun b_ g_ X_ w_ h_b h_ => valTo (b := .pointer (some ⟨b, off + k * 4 + 1, none⟩)) (by kernel_rfl) (litRun (by kernel_rfl)))) ?_
    refine aoNext rfl (aoVal (fun g_ => [(55, .pointer (some ⟨b, off + k * 4 + 1, none⟩))]) (fun g_ a_ h_k => ⟨(h_k.inn 3 _ _ (by kernel_rfl) rfl rfl).trans (by kernel_rfl), trivial⟩) (fun g_ X_ => (wn rfl)) (fun b_ g_ => by kernel_rfl) (fun b_ g_ X_ w_ h_b h_ => valTo (b := .agg (pcs t.p).toArray) (by kernel_rfl) ((fun (h_ : Mem _ w_ ((.row (.slice A172 ((l.take k ++ chT t 5).length) c173) 38 4 ((l.take k ++ chT t 5).length) (tlsC (l.take k ++ chT t 5))) :: (.arr g182 23 (pcs (octP 5))) :: (.arr g189 38 (tlc ⟨t.lv - 1, ⟨0, 0, 0⟩⟩)) :: [])) => gLoadAgRd (vs := pcs t.p) (m := k * 4 + 1) ((Rd.below hr h_.bel).more h_.bel.size) rfl (fun i_ u_ hu_ => by have := tlsC_get hk (1 + i_) u_ (by rw [Nat.add_comm]; exact hu_); rw [← Nat.add_assoc] at this; exact this) (by kernel_rfl) (by omega) (.tmp 55) Ty.ag_voxel_api_Point rfl (litEv (by kernel_rfl))) (by have h2_ : Mem w w_ ((.row (.slice A172 ((l.take k ++ chT t 5).length) c173) 38 4 ((l.take k ++ chT t 5).length) (tlsC (l.take k ++ chT t 5))) :: (.arr g182 23 (pcs (octP 5))) :: (.arr g189 38 (bsel (b_ 11) [.int .i64 (t.lv - 1), .int .i64 (((child t 5).p).x), .int .i64 (((child t 5).p).y), .int .i64 (((child t 5).p).z)] (tlc ⟨t.lv - 1, ⟨0, 0, 0⟩⟩))) :: []) := h_; rw [bselF (h_b.post 11 (by kernel_rfl))] at h2_; exact h2_)))) ?_
    refine aoNext rfl (aoVal (fun g_ => [(8, .pointer (some ⟨g182, 0, none⟩))]) (fun g_ a_ h_k => ⟨(h_k.out 8 (by kernel_rfl)).trans (litGet (by kernel_rfl)), trivial⟩) (fun g_ X_ => (wn rfl)) (fun b_ g_ => by kernel_rfl) (fun b_ g_ X_ w_ h_b h_ => valTo (b := .agg (pcs (octP 5)).toArray) (by kernel_rfl) ((fun (h_ : Mem _ w_ ((.row (.slice A172 ((l.take k ++ chT t 5).length) c173) 38 4 ((l.take k ++ chT t 5).length) (tlsC (l.take k ++ chT t 5))) :: (.arr g182 23 (pcs (octP 5))) :: (.arr g189 38 (tlc ⟨t.lv - 1, ⟨0, 0, 0⟩⟩)) :: [])) => gLoadAg (vs := pcs (octP 5)) (k := 0) 1 h_ rfl (by kernel_rfl) (by kernel_rfl) (.tmp 8) Ty.ag_voxel_api_Point rfl (litEv (by kernel_rfl))) (by have h2_ : Mem w w_ ((.row (.slice A172 ((l.take k ++ chT t 5).length) c173) 38 4 ((l.take k ++ chT t 5).length) (tlsC (l.take k ++ chT t 5))) :: (.arr g182 23 (pcs (octP 5))) :: (.arr g189 38 (bsel (b_ 11) [.int .i64 (t.lv - 1), .int .i64 (((child t 5).p).x), .int .i64 (((child t 5).p).y), .int .i64 (((child t 5).p).z)] (tlc ⟨t.lv - 1, ⟨0, 0, 0⟩⟩))) :: []) := h_; rw [bselF (h_b.post 11 (by kernel_rfl))] at h2_; exact h2_)))) ?_
    refine aoNext rfl (aoVal (fun g_ => [(10, .pointer (some ⟨g189, 0, none⟩))]) (fun g_ a_ h_k => ⟨(h_k.out 10 (by kernel_rfl)).trans (litGet (by kernel_rfl)), trivial⟩) (fun g_ X_ => (wn rfl)) (fun b_ g_ => by kernel_rfl) (fun b_ g_ X_ w_ h_b h_ => valTo (b := .agg (tlc ⟨t.lv - 1, ⟨0, 0, 0⟩⟩).toArray) (by kernel_rfl) ((fun (h_ : Mem _ w_ ((.row (.slice A172 ((l.take k ++ chT t 5).length) c173) 38 4 ((l.take k ++ chT t 5).length) (tlsC (l.take k ++ chT t 5))) :: (.arr g182 23 (pcs (octP 5))) :: (.arr g189 38 (tlc ⟨t.lv - 1, ⟨0, 0, 0⟩⟩)) :: [])) => gLoadAg (vs := tlc ⟨t.lv - 1, ⟨0, 0, 0⟩⟩) (k := 0) 2 h_ rfl (by kernel_rfl) (by kernel_rfl) (.tmp 10) Ty.ag_voxel_api_Tile rfl (litEv (by kernel_rfl))) (by have h2_ : Mem w w_ ((.row (.slice A172 ((l.take k ++ chT t 5).length) c173) 38 4 ((l.take k ++ chT t 5).length) (tlsC (l.take k ++ chT t 5))) :: (.arr g182 23 (pcs (octP 5))) :: (.arr g189 38 (bsel (b_ 11) [.int .i64 (t.lv - 1), .int .i64 (((child t 5).p).x), .int .i64 (((child t 5).p).y), .int .i64 (((child t 5).p).z)] (tlc ⟨t.lv - 1, ⟨0, 0, 0⟩⟩))) :: []) := h_; rw [bselF (h_b.post 11 (by kernel_rfl))] at h2_; exact h2_)))) ?_
    refine aoNext rfl (aoCall (fun g_ => [(58, .agg (tlc ⟨t.lv - 1, ⟨0, 0, 0⟩⟩).toArray)]) (fun g_ a_ h_k => ⟨(h_k.inn 6 _ _ (by kernel_rfl) rfl rfl).trans (by kernel_rfl), trivial⟩) 45 (fun g_ => [.agg (tlc ⟨t.lv - 1, ⟨0, 0, 0⟩⟩).toArray]) [] [] (by kernel_rfl) (fun g_ X_ => (wn rfl)) (fun b_ g_ => by kernel_rfl) rfl (fun g_ X_ => litEv (by kernel_rfl)) (fun g_ X_ => litArgs (by kernel_rfl)) (fun b_ g_ w_ h_b h_ => (rside_any ⟨t.lv - 1, ⟨0, 0, 0⟩⟩ hsl_ _).mono (fun _ _ h_r => ⟨h_r.1.trans (by kernel_rfl), h_r.2⟩))) ?_
    refine aoNext rfl (aoCall (fun g_ => [(57, .agg (pcs (octP 5)).toArray), (59, .int .i64 (sideL (t.lv - 1)))]) (fun g_ a_ h_k => ⟨(h_k.inn 5 _ _ (by kernel_rfl) rfl rfl).trans (by kernel_rfl), (h_k.inn 7 _ _ (by kernel_rfl) rfl rfl).trans (by kernel_rfl), trivial⟩) 44 (fun g_ => [.agg (pcs (octP 5)).toArray, .int .i64 (sideL (t.lv - 1))]) [] [] (by kernel_rfl) (fun g_ X_ => (wn rfl)) (fun b_ g_ => by kernel_rfl) rfl (fun g_ X_ => litEv (by kernel_rfl)) (fun g_ X_ => litArgs (by kernel_rfl)) (fun b_ g_ w_ h_b h_ => (rscale_any (octP 5) (sideL (t.lv - 1)) (hm_ 5).1 (hm_ 5).2.1 (hm_ 5).2.2 _).mono (fun _ _ h_r => ⟨h_r.1.trans (by kernel_rfl), h_r.2⟩))) ?_
    refine aoNext rfl (aoCall (fun g_ => [(56, .agg (pcs t.p).toArray), (60, .agg (pcs ((octP 5).mul (sideL (t.lv - 1)))).toArray)]) (fun g_ a_ h_k => ⟨(h_k.inn 4 _ _ (by kernel_rfl) rfl rfl).trans (by kernel_rfl), (h_k.inn 8 _ _ (by kernel_rfl) rfl rfl).trans (by kernel_rfl), trivial⟩) 43 (fun g_ => [.agg (pcs t.p).toArray, .agg (pcs ((octP 5).mul (sideL (t.lv - 1)))).toArray]) [] [] (by kernel_rfl) (fun g_ X_ => (wn rfl)) (fun b_ g_ => by kernel_rfl) rfl (fun g_ X_ => litEv (by kernel_rfl)) (fun g_ X_ => litArgs (by kernel_rfl)) (fun b_ g_ w_ h_b h_ => (radd_any t.p ((octP 5).mul (sideL (t.lv - 1))) hp_ (ha_ 5) _).mono (fun _ _ h_r => ⟨h_r.1.trans (by kernel_rfl), h_r.2⟩))) ?_
    refine aoNext rfl (aoVal (fun g_ => [(10, .pointer (some ⟨g189, 0, none⟩))]) (fun g_ a_ h_k => ⟨(h_k.out 10 (by kernel_rfl)).trans (litGet (by kernel_rfl)), trivial⟩) (fun g_ X_ => (wn rfl)) (fun b_ g_ => by kernel_rfl) (fun b_ g_ X_ w_ h_b h_ => valTo (b := .pointer (some ⟨g189, 1, none⟩)) (by kernel_rfl) (litRun (by kernel_rfl)))) ?_
    refine aoNext rfl (aoStore (gb := fun g_ => g189) (k := 1) (cur := fun g_ => tlc ⟨t.lv - 1, ⟨0, 0, 0⟩⟩) (vs := fun g_ => pcs ((child t 5).p)) 2 (fun g_ => [(61, .agg (pcs ((child t 5).p)).toArray), (62, .pointer (some ⟨g189, 1, none⟩))]) (fun g_ a_ h_k => ⟨(h_k.inn 9 _ _ (by kernel_rfl) rfl rfl).trans (by kernel_rfl), (h_k.inn 10 _ _ (by kernel_rfl) rfl rfl).trans (by kernel_rfl), trivial⟩) Ty.ag_voxel_api_Point (fun b_ g_ h_b => by show some (Res.arr g189 38 (bsel (b_ 11) [.int .i64 (t.lv - 1), .int .i64 (((child t 5).p).x), .int .i64 (((child t 5).p).y), .int .i64 (((child t 5).p).z)] (tlc ⟨t.lv - 1, ⟨0, 0, 0⟩⟩))) = some (Res.arr g189 38 (tlc ⟨t.lv - 1, ⟨0, 0, 0⟩⟩)); rw [bselF h_b.no]) (fun g_ X_ => (wn rfl)) rfl (fun g_ X_ => litEv (by kernel_rfl)) (fun g_ X_ => litEv (by kernel_rfl)) (fun _ => by kernel_rfl) (fun _ => by kernel_rfl) (fun _ => by kernel_rfl) (fun b_ g_ h_b => by kernel_rfl) rfl) ?_
    exact aoDone (by decide)
  intro g_ a_ w196 hF_ hm195
  obtain ⟨X197, rfl⟩ := frLit (⟨hF_.size, hF_.defers, ⟨(hF_.out 0 (by kernel_rfl)).trans (litGet (by kernel_rfl)), (hF_.out 1 (by kernel_rfl)).trans (litGet (by kernel_rfl)), (hF_.out 4 (by kernel_rfl)).trans (litGet (by kernel_rfl)), (hF_.out 5 (by kernel_rfl)).trans (litGet (by kernel_rfl)), (hF_.out 6 (by kernel_rfl)).trans (litGet (by kernel_rfl)), (hF_.out 7 (by kernel_rfl)).trans (litGet (by kernel_rfl)), (hF_.out 8 (by kernel_rfl)).trans (litGet (by kernel_rfl)), (hF_.out 10 (by kernel_rfl)).trans (litGet (by kernel_rfl)), (hF_.out 36 (by kernel_rfl)).trans (litGet (by kernel_rfl)), (hF_.out 37 (by kernel_rfl)).trans (litGet (by kernel_rfl)), (hF_.out 38 (by kernel_rfl)).trans (litGet (by kernel_rfl)), (hF_.out 39 (by kernel_rfl)).trans (litGet (by kernel_rfl)), (hF_.out 40 (by kernel_rfl)).trans (litGet (by kernel_rfl)), (hF_.out 41 (by kernel_rfl)).trans (litGet (by kernel_rfl)), (hF_.out 42 (by kernel_rfl)).trans (litGet (by kernel_rfl)), (hF_.out 43 (by kernel_rfl)).trans (litGet (by kernel_rfl)), (hF_.out 44 (by kernel_rfl)).trans (litGet (by kernel_rfl)), (hF_.out 45 (by kernel_rfl)).trans (litGet (by kernel_rfl)), (hF_.out 46 (by kernel_rfl)).trans (litGet (by kernel_rfl)), (hF_.out 47 (by kernel_rfl)).trans (litGet (by kernel_rfl)), (hF_.out 48 (by kernel_rfl)).trans (litGet (by kernel_rfl)), (hF_.out 49 (by kernel_rfl)).trans (litGet (by kernel_rfl)), (hF_.out 50 (by kernel_rfl)).trans (litGet (by kernel_rfl)), (hF_.out 51 (by kernel_rfl)).trans (litGet (by kernel_rfl)), (hF_.inn 0 _ _ rfl rfl).trans (by kernel_rfl), (hF_.inn 1 _ _ rfl rfl).trans (by kernel_rfl), (hF_.inn 2 _ _ rfl rfl).trans (by kernel_rfl), (hF_.inn 3 _ _ rfl rfl).trans (by kernel_rfl), (hF_.inn 4 _ _ rfl rfl).trans (by kernel_rfl), (hF_.inn 5 _ _ rfl rfl).trans (by kernel_rfl), (hF_.inn 6 _ _ rfl rfl).trans (by kernel_rfl), (hF_.inn 7 _ _ rfl rfl).trans (by kernel_rfl), (hF_.inn 8 _ _ rfl rfl).trans (by kernel_rfl), (hF_.inn 9 _ _ rfl rfl).trans (by kernel_rfl), (hF_.inn 10 _ _ rfl rfl).trans (by kernel_rfl), (hF_.out 63 (by kernel_rfl)).trans (litGet (by kernel_rfl)), (hF_.out 64 (by kernel_rfl)).trans (litGet (by kernel_rfl)), (hF_.out 65 (by kernel_rfl)).trans (litGet (by kernel_rfl)), (hF_.out 66 (by kernel_rfl)).trans (litGet (by kernel_rfl)), trivial⟩⟩ : Fr _ 73 [(0, .slice (some ⟨b, off, none⟩) l.length c), (1, .int .i64 (k : Int)), (4, .slice none 0 0), (5, .int .i64 0), (6, .slice A172 ((l.take k ++ chT t 5).length) c173), (7, .int .i64 5), (8, .pointer (some ⟨g182, 0, none⟩)), (10, .pointer (some ⟨g189, 0, none⟩)), (36, .int .i64 5), (37, .bool true), (38, .int .i64 4), (39, .int .i64 5), (40, .tuple #[.agg (pcs (octP 5)).toArray, .bool true]), (41, .int .i64 5), (42, .tuple #[.agg (pcs (octP 5)).toArray, .bool true]), (43, .agg (pcs (octP 5)).toArray), (44, .bool true), (45, .slice (some ⟨b, off, none⟩) l.length c), (46, .int .i64 (k : Int)), (47, .pointer (some ⟨b, off + k * 4, none⟩)), (48, .pointer (some ⟨b, off + k * 4, none⟩)), (49, .int .i64 t.lv), (50, .int .i64 (t.lv - 1)), (51, .agg (tlc ⟨t.lv - 1, ⟨0, 0, 0⟩⟩).toArray), (52, .slice (some ⟨b, off, none⟩) l.length c), (53, .int .i64 (k : Int)), (54, .pointer (some ⟨b, off + k * 4, none⟩)), (55, .pointer (some ⟨b, off + k * 4 + 1, none⟩)), (56, .agg (pcs t.p).toArray), (57, .agg (pcs (octP 5)).toArray), (58, .agg (tlc ⟨t.lv - 1, ⟨0, 0, 0⟩⟩).toArray), (59, .int .i64 (sideL (t.lv - 1))), (60, .agg (pcs ((octP 5).mul (sideL (t.lv - 1)))).toArray), (61, .agg (pcs ((child t 5).p)).toArray), (62, .pointer (some ⟨g189, 1, none⟩)), (63, .slice A140 ((l.take k ++ chT t 4).length) c141), (64, .agg (tlc ⟨t.lv - 1, ((child t 4).p)⟩).toArray), (65, .slice (some ⟨g167, 0, none⟩) 1 1), (66, .slice A172 ((l.take k ++ chT t 5).length) c173)])
  clear hF_
  have hm198 : Mem w w196 [.row (.slice A172 ((l.take k ++ chT t 5).length) c173) 38 4 ((l.take k ++ chT t 5).length) (tlsC (l.take k ++ chT t 5)), .arr g182 23 (pcs (octP 5)), .arr g189 38 ([.int .i64 (t.lv - 1), .int .i64 (((child t 5).p).x), .int .i64 (((child t 5).p).y), .int .i64 (((child t 5).p).z)])] := hm195
  clear hm195 hm192
  refine then_normal (hK194 _ _ ?_)
  refine plStart ?_
  refine lk (v := .slice A172 ((l.take k ++ chT t 5).length) c173) rfl rfl rfl ?_
  refine litVal (v := .agg (tlc ⟨t.lv - 1, ((child t 5).p)⟩).toArray) rfl (wn rfl) (gLoadAg (vs := tlc ⟨t.lv - 1, ((child t 5).p)⟩) (k := 0) 2 hm198 rfl (by kernel_rfl) (by kernel_rfl) (.tmp 10) Ty.ag_voxel_api_Tile rfl (litEv (by kernel_rfl))) rfl (by decide) ?_
  refine plLit (cs := [.int .i64 (t.lv - 1), .int .i64 (((child t 5).p).x), .int .i64 (((child t 5).p).y), .int .i64 (((child t 5).p).z)]) (n := 1) Ty.sl_L_api_Tile hm198 (i := 2) rfl (wn rfl) rfl (by decide) (by decide) (by rw [lit_eval]; kernel_rfl) ?_
  intro g199 w201 hm200
  clear hm198
  try simp only [List.cons_append, List.nil_append, List.set_cons_succ, List.set_cons_zero] at hm200
  refine qP rfl ?_
  refine plApp1 (v := .slice A172 ((l.take k ++ chT t 5).length) c173) (n := (l.take k ++ chT t 5).length) (xs := tlsC (l.take k ++ chT t 5)) (ys := [.int .i64 (t.lv - 1), .int .i64 (((child t 5).p).x), .int .i64 (((child t 5).p).y), .int .i64 (((child t 5).p).z)]) 0 3 Ty.sl_L_api_Tile hm200 rfl rfl (i := 3) rfl (wn rfl) rfl (litEv (by kernel_rfl)) (litEv (by kernel_rfl)) (by kernel_rfl) (by kernel_rfl) (by simp only [List.length_append, chT_len, List.length_take]; omega) (by simp only [List.length_append, chT_len, List.length_take]; omega) ?_
  intro v206 w203 hm202
  clear hm200
  try simp only [List.cons_append, List.nil_append, List.set_cons_succ, List.set_cons_zero] at hm202
  replace hm202 := Mem.rowEq (v := v206) (e := 38) (size := 4) (n := ((l.take k ++ chT t 5).length) + 1) (n' := (l.take k ++ chT t 6).length) (xs := (tlsC (l.take k ++ chT t 5)) ++ ([.int .i64 (t.lv - 1), .int .i64 (((child t 5).p).x), .int .i64 (((child t 5).p).y), .int .i64 (((child t 5).p).z)])) (xs' := tlsC (l.take k ++ chT t 6)) 0 hm202 rfl (by rw [List.length_append, List.length_append, chT_len, chT_len]) (tls_ch _ t 5)
  try simp only [List.cons_append, List.nil_append, List.set_cons_succ, List.set_cons_zero] at hm202
  obtain ⟨A204, c205, rfl⟩ := Mem.rowSl (v := v206) (e := 38) (size := 4) (n := (l.take k ++ chT t 6).length) (xs := tlsC (l.take k ++ chT t 6)) 0 hm202 rfl
  refine qP rfl ?_
  refine lk (v := .slice A204 ((l.take k ++ chT t 6).length) c205) rfl rfl rfl ?_
  refine plD ?_
  refine inBlock_normal ?_
  refine then_normal (hK178 _ _ ?_)
  refine plStart ?_
  refine lk (v := .int .i64 5) rfl rfl rfl ?_
  refine lk (v := .int .i64 6) rfl rfl rfl ?_
  refine lk (v := .int .i64 6) rfl rfl rfl ?_
  refine plD ?_
  refine then_normal (roundsNext ?_)
  have hm207 : Mem w w203 [.row (.slice A204 ((l.take k ++ chT t 6).length) c205) 38 4 ((l.take k ++ chT t 6).length) (tlsC (l.take k ++ chT t 6))] := (hm202.sub (.cons_cons _ (.cons _ (.cons _ (.cons _ .slnil)))))
  clear hm202
  refine wp_seq_k fun K208 hK208 => ?_
  refine wp_seq_k fun K209 hK209 => ?_
  refine plStart ?_
  refine lk (v := .int .i64 6) rfl rfl rfl ?_
  refine lk (v := .bool true) rfl rfl rfl ?_
  refine plD ?_
  refine then_normal (hK209 _ _ ?_)
  refine wp_cond_true (litEv (by kernel_rfl)) ?_
  refine wp_skip ?_
  refine then_normal (hK208 _ _ ?_)
  refine wp_seq_k fun K210 hK210 => ?_
  refine wp_block ?_
  refine wp_seq_k fun K211 hK211 => ?_
  refine plStart ?_
  refine lk (v := .int .i64 6) rfl rfl rfl ?_
  refine plCall (i := 1) 42 [.int .i64 6] [] [] rfl (by kernel_rfl) (wn rfl) rfl (litEv (by kernel_rfl)) (litArgs (by kernel_rfl)) (rdecodeK_any (k := 6) (by decide) rfl _) ?_
  rintro e w212 ⟨rfl, hbz⟩
  have hm213 := hm207.below hbz
  clear hbz hm207
  refine ⟨_, rfl, ?_⟩
  refine qP rfl ?_
  refine lk (v := .tuple #[.agg (pcs (octP 6)).toArray, .bool true]) rfl rfl rfl ?_
  refine lk (v := .agg (pcs (octP 6)).toArray) rfl rfl rfl ?_
  refine lk (v := .bool true) rfl rfl rfl ?_
  refine plAlloc (z := [.int .i64 0, .int .i64 0, .int .i64 0]) Ty.ag_voxel_api_Point hm213 (i := 5) rfl (wn rfl) rfl ?_
  intro g214 w216 hm215
  clear hm213
  try simp only [List.cons_append, List.nil_append, List.set_cons_succ, List.set_cons_zero] at hm215
  refine qP rfl ?_
  refine plStore 1 Ty.ag_voxel_api_Point hm215 rfl (i := 6) (cs := pcs (octP 6)) rfl (wn rfl) rfl (litEv (by kernel_rfl)) (litEv (by kernel_rfl)) rfl rfl (by kernel_rfl) ?_
  intro w218 hm217
  clear hm215
  try simp only [List.cons_append, List.nil_append, List.set_cons_succ, List.set_cons_zero] at hm217
  refine qNone rfl ?_
  refine lk (v := .bool true) rfl rfl rfl ?_
  refine plD ?_
  refine then_normal (hK211 _ _ ?_)
  refine wpPrune [(0, .slice (some ⟨b, off, none⟩) l.length c), (1, .int .i64 (k : Int)), (4, .slice none 0 0), (5, .int .i64 0), (6, .slice A204 ((l.take k ++ chT t 6).length) c205), (7, .int .i64 6), (8, .pointer (some ⟨g214, 0, none⟩)), (10, .pointer (some ⟨g189, 0, none⟩)), (36, .int .i64 6), (37, .bool true), (38, .int .i64 5), (39, .int .i64 6), (40, .tuple #[.agg (pcs (octP 6)).toArray, .bool true]), (41, .int .i64 6), (42, .tuple #[.agg (pcs (octP 6)).toArray, .bool true]), (43, .agg (pcs (octP 6)).toArray), (44, .bool true), (45, .slice (some ⟨b, off, none⟩) l.length c), (46, .int .i64 (k : Int)), (47, .pointer (some ⟨b, off + k * 4, none⟩)), (48, .pointer (some ⟨b, off + k * 4, none⟩)), (49, .int .i64 t.lv), (50, .int .i64 (t.lv - 1)), (51, .agg (tlc ⟨t.lv - 1, ⟨0, 0, 0⟩⟩).toArray), (52, .slice (some ⟨b, off, none⟩) l.length c), (53, .int .i64 (k : Int)), (54, .pointer (some ⟨b, off + k * 4, none⟩)), (55, .pointer (some ⟨b, off + k * 4 + 1, none⟩)), (56, .agg (pcs t.p).toArray), (57, .agg (pcs (octP 5)).toArray), (58, .agg (tlc ⟨t.lv - 1, ⟨0, 0, 0⟩⟩).toArray), (59, .int .i64 (sideL (t.lv - 1))), (60, .agg (pcs ((octP 5).mul (sideL (t.lv - 1)))).toArray), (61, .agg (pcs ((child t 5).p)).toArray), (62, .pointer (some ⟨g189, 1, none⟩)), (63, .slice A172 ((l.take k ++ chT t 5).length) c173), (64, .agg (tlc ⟨t.lv - 1, ((child t 5).p)⟩).toArray), (65, .slice (some ⟨g199, 0, none⟩) 1 1), (66, .slice A204 ((l.take k ++ chT t 6).length) c205)] ⟨litGet (by kernel_rfl), ⟨litGet (by kernel_rfl), ⟨litGet (by kernel_rfl), ⟨litGet (by kernel_rfl), ⟨litGet (by kernel_rfl), ⟨litGet (by kernel_rfl), ⟨litGet (by kernel_rfl), ⟨litGet (by kernel_rfl), ⟨litGet (by kernel_rfl), ⟨litGet (by kernel_rfl), ⟨litGet (by kernel_rfl), ⟨litGet (by kernel_rfl), ⟨litGet (by kernel_rfl), ⟨litGet (by kernel_rfl), ⟨litGet (by kernel_rfl), ⟨litGet (by kernel_rfl), ⟨litGet (by kernel_rfl), ⟨litGet (by kernel_rfl), ⟨litGet (by kernel_rfl), ⟨litGet (by kernel_rfl), ⟨litGet (by kernel_rfl), ⟨litGet (by kernel_rfl), ⟨litGet (by kernel_rfl), ⟨litGet (by kernel_rfl), ⟨litGet (by kernel_rfl), ⟨litGet (by kernel_rfl), ⟨litGet (by kernel_rfl), ⟨litGet (by kernel_rfl), ⟨litGet (by kernel_rfl), ⟨litGet (by kernel_rfl), ⟨litGet (by kernel_rfl), ⟨litGet (by kernel_rfl), ⟨litGet (by kernel_rfl), ⟨litGet (by kernel_rfl), ⟨litGet (by kernel_rfl), ⟨litGet (by kernel_rfl), ⟨litGet (by kernel_rfl), ⟨litGet (by kernel_rfl), ⟨litGet (by kernel_rfl), trivial⟩⟩⟩⟩⟩⟩⟩⟩⟩⟩⟩⟩⟩⟩⟩⟩⟩⟩⟩⟩⟩⟩⟩⟩⟩⟩⟩⟩⟩⟩⟩⟩⟩⟩⟩⟩⟩⟩⟩ (fun X219 => ?_)
  refine wp_seq_k fun K220 hK220 => ?_
  refine plStart ?_
  refine lk (v := .slice (some ⟨b, off, none⟩) l.length c) rfl rfl rfl ?_
  refine lk (v := .int .i64 (k : Int)) rfl rfl rfl ?_
  refine litVal (v := .pointer (some ⟨b, off + k * 4, none⟩)) rfl (wn rfl) (gIaSl (b := b) (off := off) (n := l.length) (c := c) (kk := .i64) (K := (k : Int)) (.tmp 45) (.tmp 46) k Ty.sl_L_api_Tile rfl (litEv (by kernel_rfl)) (litEv (by kernel_rfl)) (rfl) (by omega)) rfl (by decide) ?_
  refine lk (v := .pointer (some ⟨b, off + k * 4, none⟩)) rfl rfl rfl ?_
  refine litVal (v := .int .i64 t.lv) rfl (wn rfl) (gLoadRd (v := .int .i64 t.lv) (m := k * 4) ((Rd.below hr hm217.bel).more hm217.bel.size) rfl (tlsC_get hk 0 _ rfl) (by omega) (.tmp 48) (by kernel_rfl) rfl (litEv (by kernel_rfl))) rfl (by decide) ?_
  refine litVal (v := .int .i64 (t.lv - 1)) rfl (wn rfl) (subRun (A := t.lv) (B := 1) (C := t.lv - 1) (.tmp 49) (.const (.int .i64 1)) rfl (litEv (by kernel_rfl)) (litEv (by kernel_rfl)) rfl (by omega)) rfl (by decide) ?_
  refine lk (v := .agg (tlc ⟨t.lv - 1, ⟨0, 0, 0⟩⟩).toArray) rfl rfl rfl ?_
  refine plAlloc (z := [.int .i64 0, .int .i64 0, .int .i64 0, .int .i64 0]) Ty.ag_voxel_api_Tile hm217 (i := 7) rfl (wn rfl) rfl ?_
  intro g221 w223 hm222
  clear hm217
  try simp only [List.cons_append, List.nil_append, List.set_cons_succ, List.set_cons_zero] at hm222
  refine qP rfl ?_
  refine plStore 2 Ty.ag_voxel_api_Tile hm222 rfl (i := 8) (cs := tlc ⟨t.lv - 1, ⟨0, 0, 0⟩⟩) rfl (wn rfl) rfl (litEv (by kernel_rfl)) (litEv (by kernel_rfl)) rfl rfl (by kernel_rfl) ?_
  intro w225 hm224
  clear hm222
  try simp only [List.cons_append, List.nil_append, List.set_cons_succ, List.set_cons_zero] at hm224
  refine qNone rfl ?_
  refine plD ?_
  refine then_normal (hK220 _ _ ?_)
  refine wp_seq_k fun K226 hK226 => ?_
  refine aoStart (aoV [fun _ => .slice (some ⟨b, off, none⟩) l.length c, fun _ => .int .i64 (k : Int), fun _ => .pointer (some ⟨b, off + k * 4, none⟩), fun _ => .pointer (some ⟨b, off + k * 4 + 1, none⟩), fun _ => .agg (pcs t.p).toArray, fun _ => .agg (pcs (octP 6)).toArray, fun _ => .agg (tlc ⟨t.lv - 1, ⟨0, 0, 0⟩⟩).toArray, fun _ => .int .i64 (sideL (t.lv - 1)), fun _ => .agg (pcs ((octP 6).mul (sideL (t.lv - 1)))).toArray, fun _ => .agg (pcs ((child t 6).p)).toArray, fun _ => .pointer (some ⟨g221, 1, none⟩), fun _ => undef]) (aoA [0, 1, 2, 3, 4, 5, 6, 7, 8, 9, 10, 11]) (fun b_ g_ => ((.row (.slice A204 ((l.take k ++ chT t 6).length) c205) 38 4 ((l.take k ++ chT t 6).length) (tlsC (l.take k ++ chT t 6))) :: (.arr g214 23 (pcs (octP 6))) :: (.arr g221 38 (bsel (b_ 11) [.int .i64 (t.lv - 1), .int .i64 (((child t 6).p).x), .int .i64 (((child t 6).p).y), .int .i64 (((child t 6).p).z)] (tlc ⟨t.lv - 1, ⟨0, 0, 0⟩⟩))) :: [])) hm224 (by kernel_rfl) (by kernel_rfl) (fun w_ h_ => h_) (fun b_ g_ h_ => by show (fun (x11_ : Bool) => (((.row (.slice A204 ((l.take k ++ chT t 6).length) c205) 38 4 ((l.take k ++ chT t 6).length) (tlsC (l.take k ++ chT t 6))) :: (.arr g214 23 (pcs (octP 6))) :: (.arr g221 38 (bsel x11_ [.int .i64 (t.lv - 1), .int .i64 (((child t 6).p).x), .int .i64 (((child t 6).p).y), .int .i64 (((child t 6).p).z)] (tlc ⟨t.lv - 1, ⟨0, 0, 0⟩⟩))) :: []) : List Res)) (b_ 11) = _; rw [h_ 11 (by decide)]) ?_ ?_
  · refine aoNext rfl (aoVal (fun g_ => [(0, .slice (some ⟨b, off, none⟩) l.length c)]) (fun g_ a_ h_k => ⟨(h_k.out 0 (by kernel_rfl)).trans (litGet (by kernel_rfl)), trivial⟩) (fun g_ X_ => (wn rfl)) (fun b_ g_ => by kernel_rfl) (fun b_ g_ X_ w_ h_b h_ => valTo (b := .slice (some ⟨b, off, none⟩) l.length c) (by kernel_rfl) (litRun (by kernel_rfl)))) ?_
    refine aoNext rfl (aoVal (fun g_ => [(1, .int .i64 (k : Int))]) (fun g_ a_ h_k => ⟨(h_k.out 1 (by kernel_rfl)).trans (litGet (by kernel_rfl)), trivial⟩) (fun g_ X_ => (wn rfl)) (fun b_ g_ => by kernel_rfl) (fun b_ g_ X_ w_ h_b h_ => valTo (b := .int .i64 (k : Int)) (by kernel_rfl) (litRun (by kernel_rfl)))) ?_
    refine aoNext rfl (aoVal (fun g_ => [(52, .slice (some ⟨b, off, none⟩) l.length c), (53, .int .i64 (k : Int))]) (fun g_ a_ h_k => ⟨(h_k.inn 0 _ _ (by kernel_rfl) rfl rfl).trans (by kernel_rfl), (h_k.inn 1 _ _ (by kernel_rfl) rfl rfl).trans (by kernel_rfl), trivial⟩) (fun g_ X_ => (wn rfl)) (fun b_ g_ => by kernel_rfl) (fun b_ g_ X_ w_ h_b h_ => valTo (b := .pointer (some ⟨b, off + k * 4, none⟩)) (by kernel_rfl) (gIaSl (b := b) (off := off) (n := l.length) (c := c) (kk := .i64) (K := (k : Int)) (.tmp 52) (.tmp 53) k Ty.sl_L_api_Tile rfl (litEv (by kernel_rfl)) (litEv (by kernel_rfl)) (rfl) (by omega)))) ?_
    refine aoNext rfl (aoVal (fun g_ => [(54, .pointer (some ⟨b, off + k * 4, none⟩))]) (fun g_ a_ h_k => ⟨(h_k.inn 2 _ _ (by kernel_rfl) rfl rfl).trans (by kernel_rfl), trivial⟩) (fun g_ X_ => (wn rfl)) (fun b_ g_ => by kernel_rfl) (fun b_ g_ X_ w_ h_b h_ => valTo (b := .pointer (some ⟨b, off + k * 4 + 1, none⟩)) (by kernel_rfl) (litRun (by kernel_rfl)))) ?_
    refine aoNext rfl (aoVal (fun g_ => [(55, .pointer (some ⟨b, off + k * 4 + 1, none⟩))]) (fun g_ a_ h_k => ⟨(h_k.inn 3 _ _ (by kernel_rfl) rfl rfl).trans (by kernel_rfl), trivial⟩) (fun g_ X_ => (wn rfl)) (fun b_ g_ => by kernel_rfl) (fun b_ g_ X_ w_ h_b h_ => valTo (b := .agg (pcs t.p).toArray) (by kernel_rfl) ((fun (h_ : Mem _ w_ ((.row (.slice A204 ((l.take k ++ chT t 6).length) c205) 38 4 ((l.take k ++ chT t 6).length) (tlsC (l.take k ++ chT t 6))) :: (.arr g214 23 (pcs (octP 6))) :: (.arr g221 38 (tlc ⟨t.lv - 1, ⟨0, 0, 0⟩⟩)) :: [])) => gLoadAgRd (vs := pcs t.p) (m := k * 4 + 1) ((Rd.below hr h_.bel).more h_.bel.size) rfl (fun i_ u_ hu_ => by have := tlsC_get hk (1 + i_) u_ (by rw [Nat.add_comm]; exact hu_); rw [← Nat.add_assoc] at this; exact this) (by kernel_rfl) (by omega) (.tmp 55) Ty.ag_voxel_api_Point rfl (litEv (by kernel_rfl))) (by have h2_ : Mem w w_ ((.row (.slice A204 ((l.take k ++ chT t 6).length) c205) 38 4 ((l.take k ++ chT t 6).length) (tlsC (l.take k ++ chT t 6))) :: (.arr g214 23 (pcs (octP 6))) :: (.arr g221 38 (bsel (b_ 11) [.int .i64 (t.lv - 1), .int .i64 (((child t 6).p).x), .int .i64 (((child t 6).p).y), .int .i64 (((child t 6).p).z)] (tlc ⟨t.lv - 1, ⟨0, 0, 0⟩⟩))) :: []) := h_; rw [bselF (h_b.post 11 (by kernel_rfl))] at h2_; exact h2_)))) ?_
    refine aoNext rfl (aoVal (fun g_ => [(8, .pointer (some ⟨g214, 0, none⟩))]) (fun g_ a_ h_k => ⟨(h_k.out 8 (by kernel_rfl)).trans (litGet (by kernel_rfl)), trivial⟩) (fun g_ X_ => (wn rfl)) (fun b_ g_ => by kernel_rfl) (fun b_ g_ X_ w_ h_b h_ => valTo (b := .agg (pcs (octP 6)).toArray) (by kernel_rfl) ((fun (h_ : Mem _ w_ ((.row (.slice A204 ((l.take k ++ chT t 6).length) c205) 38 4 ((l.take k ++ chT t 6).length) (tlsC (l.take k ++ chT t 6))) :: (.arr g214 23 (pcs (octP 6))) :: (.arr g221 38 (tlc ⟨t.lv - 1, ⟨0, 0, 0⟩⟩)) :: [])) => gLoadAg (vs := pcs (octP 6)) (k := 0) 1 h_ rfl (by kernel_rfl) (by kernel_rfl) (.tmp 8) Ty.ag_voxel_api_Point rfl (litEv (by kernel_rfl))) (by have h2_ : Mem w w_ ((.row (.slice A204 ((l.take k ++ chT t 6).length) c205) 38 4 ((l.take k ++ chT t 6).length) (tlsC (l.take k ++ chT t 6))) :: (.arr g214 23 (pcs (octP 6))) :: (.arr g221 38 (bsel (b_ 11) [.int .i64 (t.lv - 1), .int .i64 (((child t 6).p).x), .int .i64 (((child t 6).p).y), .int .i64 (((child t 6).p).z)] (tlc ⟨t.lv - 1, ⟨0, 0, 0⟩⟩))) :: []) := h_; rw [bselF (h_b.post 11 (by kernel_rfl))] at h2_; exact h2_)))) ?_
    refine aoNext rfl (aoVal (fun g_ => [(10, .pointer (some ⟨g221, 0, none⟩))]) (fun g_ a_ h_k => ⟨(h_k.out 10 (by kernel_rfl)).trans (litGet (by kernel_rfl)), trivial⟩) (fun g_ X_ => (wn rfl)) (fun b_ g_ => by kernel_rfl) (fun b_ g_ X_ w_ h_b h_ => valTo (b := .agg (tlc ⟨t.lv - 1, ⟨0, 0, 0⟩⟩).toArray) (by kernel_rfl) ((fun (h_ : Mem _ w_ ((.row (.slice A204 ((l.take k ++ chT t 6).length) c205) 38 4 ((l.take k ++ chT t 6).length) (tlsC (l.take k ++ chT t 6))) :: (.arr g214 23 (pcs (octP 6))) :: (.arr g221 38 (tlc ⟨t.lv - 1, ⟨0, 0, 0⟩⟩)) :: [])) => gLoadAg (vs := tlc ⟨t.lv - 1, ⟨0, 0, 0⟩⟩) (k := 0) 2 h_ rfl (by kernel_rfl) (by kernel_rfl) (.tmp 10) Ty.ag_voxel_api_Tile rfl (litEv (by kernel_rfl))) (by have h2_ : Mem w w_ ((.row (.slice A204 ((l.take k ++ chT t 6).length) c205) 38 4 ((l.take k ++ chT t 6).length) (tlsC (l.take k ++ chT t 6))) :: (.arr g214 23 (pcs (octP 6))) :: (.arr g221 38 (bsel (b_ 11) [.int .i64 (t.lv - 1), .int .i64 (((child t 6).p).x), .int .i64 (((child t 6).p).y), .int .i64 (((child t 6).p).z)] (tlc ⟨t.lv - 1, ⟨0, 0, 0⟩⟩))) :: []) := h_; rw [bselF (h_b.post 11 (by kernel_rfl))] at h2_; exact h2_)))) ?_
    refine aoNext rfl (aoCall (fun g_ => [(58, .agg (tlc ⟨t.lv - 1, ⟨0, 0, 0⟩⟩).toArray)]) (fun g_ a_ h_k => ⟨(h_k.inn 6 _ _ (by kernel_rfl) rfl rfl).trans (by kernel_rfl), trivial⟩) 45 (fun g_ => [.agg (tlc ⟨t.lv - 1, ⟨0, 0, 0⟩⟩).toArray]) [] [] (by kernel_rfl) (fun g_ X_ => (wn rfl)) (fun b_ g_ => by kernel_rfl) rfl (fun g_ X_ => litEv (by kernel_rfl)) (fun g_ X_ => litArgs (by kernel_rfl)) (fun b_ g_ w_ h_b h_ => (rside_any ⟨t.lv - 1, ⟨0, 0, 0⟩⟩ hsl_ _).mono (fun _ _ h_r => ⟨h_r.1.trans (by kernel_rfl), h_r.2⟩))) ?_
    refine aoNext rfl (aoCall (fun g_ => [(57, .agg (pcs (octP 6)).toArray), (59, .int .i64 (sideL (t.lv - 1)))]) (fun g_ a_ h_k => ⟨(h_k.inn 5 _ _ (by kernel_rfl) rfl rfl).trans (by kernel_rfl), (h_k.inn 7 _ _ (by kernel_rfl) rfl rfl).trans (by kernel_rfl), trivial⟩) 44 (fun g_ => [.agg (pcs (octP 6)).toArray, .int .i64 (sideL (t.lv - 1))]) [] [] (by kernel_rfl) (fun g_ X_ => (wn rfl)) (fun b_ g_ => by kernel_rfl) rfl (fun g_ X_ => litEv (by kernel_rfl)) (fun g_ X_ => litArgs (by kernel_rfl)) (fun b_ g_ w_ h_b h_ => (rscale_any (octP 6) (sideL (t.lv - 1)) (hm_ 6).1 (hm_ 6).2.1 (hm_ 6).2.2 _).mono (fun _ _ h_r => ⟨h_r.1.trans (by kernel_rfl), h_r.2⟩))) ?_
    refine aoNext rfl (aoCall (fun g_ => [(56, .agg (pcs t.p).toArray), (60, .agg (pcs ((octP 6).mul (sideL (t.lv - 1)))).toArray)]) (fun g_ a_ h_k => ⟨(h_k.inn 4 _ _ (by kernel_rfl) rfl rfl).trans (by kernel_rfl), (h_k.inn 8 _ _ (by kernel_rfl) rfl rfl).trans (by kernel_rfl), trivial⟩) 43 (fun g_ => [.agg (pcs t.p).toArray, .agg (pcs ((octP 6).mul (sideL (t.lv - 1)))).toArray]) [] [] (by kernel_rfl) (fun g_ X_ => (wn rfl)) (fun b_ g_ => by kernel_rfl) rfl (fun g_ X_ => litEv (by kernel_rfl)) (fun g_ X_ => litArgs (by kernel_rfl)) (fun b_ g_ w_ h_b h_ => (radd_any t.p ((octP 6).mul (sideL (t.lv - 1))) hp_ (ha_ 6) _).mono (fun _ _ h_r => ⟨h_r.1.trans (by kernel_rfl), h_r.2⟩))) ?_
    refine aoNext rfl (aoVal (fun g_ => [(10, .pointer (some ⟨g221, 0, none⟩))]) (fun g_ a_ h_k => ⟨(h_k.out 10 (by kernel_rfl)).trans (litGet (by kernel_rfl)), trivial⟩) (fun g_ X_ => (wn rfl)) (fun b_ g_ => by kernel_rfl) (fun b_ g_ X_ w_ h_b h_ => valTo (b := .pointer (some ⟨g221, 1, none⟩)) (by kernel_rfl) (litRun (by kernel_rfl)))) ?_
    refine aoNext rfl (aoStore (gb := fun g_ => g221) (k := 1) (cur := fun g_ => tlc ⟨t.lv - 1, ⟨0, 0, 0⟩⟩) (vs := fun g_ => pcs ((child t 6).p)) 2 (fun g_ => [(61, .agg (pcs ((child t 6).p)).toArray), (62, .pointer (some ⟨g221, 1, none⟩))]) (fun g_ a_ h_k => ⟨(h_k.inn 9 _ _ (by kernel_rfl) rfl rfl).trans (by kernel_rfl), (h_k.inn 10 _ _ (by kernel_rfl) rfl rfl).trans (by kernel_rfl), trivial⟩) Ty.ag_voxel_api_Point (fun b_ g_ h_b => by show some (Res.arr g221 38 (bsel (b_ 11) [.int .i64 (t.lv - 1), .int .i64 (((child t 6).p).x), .int .i64 (((child t 6).p).y), .int .i64 (((child t 6).p).z)] (tlc ⟨t.lv - 1, ⟨0, 0, 0⟩⟩))) = some (Res.arr g221 38 (tlc ⟨t.lv - 1, ⟨0, 0, 0⟩⟩)); rw [bselF h_b.no]) (fun g_ X_ => (wn rfl)) rfl (fun g_ X_ => litEv (by kernel_rfl)) (fun g_ X_ => litEv (by kernel_rfl)) (fun _ => by kernel_rfl) (fun _ => by kernel_rfl) (fun _ => by kernel_rfl) (fun b_ g_ h_b => by kernel_rfl) rfl) ?_
    exact aoDone (by decide)
  intro g_ a_ w228 hF_ hm227
  obtain ⟨X229, rfl⟩ := frLit (⟨hF_.size, hF_.defers, ⟨(hF_.out 0 (by kernel_rfl)).trans (litGet (by kernel_rfl)), (hF_.out 1 (by kernel_rfl)).trans (litGet (by kernel_rfl)), (hF_.out 4 (by kernel_rfl)).trans (litGet (by kernel_rfl)), (hF_.out 5 (by kernel_rfl)).trans (litGet (by kernel_rfl)), (hF_.out 6 (by kernel_rfl)).trans (litGet (by kernel_rfl)), (hF_.out 7 (by kernel_rfl)).trans (litGet (by kernel_rfl)), (hF_.out 8 (by kernel_rfl)).trans (litGet (by kernel_rfl)), (hF_.out 10 (by kernel_rfl)).trans (litGet (by kernel_rfl)), (hF_.out 36 (by kernel_rfl)).trans (litGet (by kernel_rfl)), (hF_.out 37 (by kernel_rfl)).trans (litGet (by kernel_rfl)), (hF_.out 38 (by kernel_rfl)).trans (litGet (by kernel_rfl)), (hF_.out 39 (by kernel_rfl)).trans (litGet (by kernel_rfl)), (hF_.out 40 (by kernel_rfl)).trans (litGet (by kernel_rfl)), (hF_.out 41 (by kernel_rfl)).trans (litGet (by kernel_rfl)), (hF_.out 42 (by kernel_rfl)).trans (litGet (by kernel_rfl)), (hF_.out 43 (by kernel_rfl)).trans (litGet (by kernel_rfl)), (hF_.out 44 (by kernel_rfl)).trans (litGet (by kernel_rfl)), (hF_.out 45 (by kernel_rfl)).trans (litGet (by kernel_rfl)), (hF_.out 46 (by kernel_rfl)).trans (litGet (by kernel_rfl)), (hF_.out 47 (by kernel_rfl)).trans (litGet (by kernel_rfl)), (hF_.out 48 (by kernel_rfl)).trans (litGet (by kernel_rfl)), (hF_.out 49 (by kernel_rfl)).trans (litGet (by kernel_rfl)), (hF_.out 50 (by kernel_rfl)).trans (litGet (by kernel_rfl)), (hF_.out 51 (by kernel_rfl)).trans (litGet (by kernel_rfl)), (hF_.inn 0 _ _ rfl rfl).trans (by kernel_rfl), (hF_.inn 1 _ _ rfl rfl).trans (by kernel_rfl), (hF_.inn 2 _ _ rfl rfl).trans (by kernel_rfl), (hF_.inn 3 _ _ rfl rfl).trans (by kernel_rfl), (hF_.inn 4 _ _ rfl rfl).trans (by kernel_rfl), (hF_.inn 5 _ _ rfl rfl).trans (by kernel_rfl), (hF_.inn 6 _ _ rfl rfl).trans (by kernel_rfl), (hF_.inn 7 _ _ rfl rfl).trans (by kernel_rfl), (hF_.inn 8 _ _ rfl rfl).trans (by kernel_rfl), (hF_.inn 9 _ _ rfl rfl).trans (by kernel_rfl), (hF_.inn 10 _ _ rfl rfl).trans (by kernel_rfl), (hF_.out 63 (by kernel_rfl)).trans (litGet (by kernel_rfl)), (hF_.out 64 (by kernel_rfl)).trans (litGet (by kernel_rfl)), (hF_.out 65 (by kernel_rfl)).trans (litGet (by kernel_rfl)), (hF_.out 66 (by kernel_rfl)).trans (litGet (by kernel_rfl)), trivial⟩⟩ : Fr _ 73 [(0, .slice (some ⟨b, off, none⟩) l.length c), (1, .int .i64 (k : Int)), (4, .slice none 0 0), (5, .int .i64 0), (6, .slice A204 ((l.take k ++ chT t 6).length) c205), (7, .int .i64 6), (8, .pointer (some ⟨g214, 0, none⟩)), (10, .pointer (some ⟨g221, 0, none⟩)), (36, .int .i64 6), (37, .bool true), (38, .int .i64 5), (39, .int .i64 6), (40, .tuple #[.agg (pcs (octP 6)).toArray, .bool true]), (41, .int .i64 6), (42, .tuple #[.agg (pcs (octP 6)).toArray, .bool true]), (43, .agg (pcs (octP 6)).toArray), (44, .bool true), (45, .slice (some ⟨b, off, none⟩) l.length c), (46, .int .i64 (k : Int)), (47, .pointer (some ⟨b, off + k * 4, none⟩)), (48, .pointer (some ⟨b, off + k * 4, none⟩)), (49, .int .i64 t.lv), (50, .int .i64 (t.lv - 1)), (51, .agg (tlc ⟨t.lv - 1, ⟨0, 0, 0⟩⟩).toArray), (52, .slice (some ⟨b, off, none⟩) l.length c), (53, .int .i64 (k : Int)), (54, .pointer (some ⟨b, off + k * 4, none⟩)), (55, .pointer (some ⟨b, off + k * 4 + 1, none⟩)), (56, .agg (pcs t.p).toArray), (57, .agg (pcs (octP 6)).toArray), (58, .agg (tlc ⟨t.lv - 1, ⟨0, 0, 0⟩⟩).toArray), (59, .int .i64 (sideL (t.lv - 1))), (60, .agg (pcs ((octP 6).mul (sideL (t.lv - 1)))).toArray), (61, .agg (pcs ((child t 6).p)).toArray), (62, .pointer (some ⟨g221, 1, none⟩)), (63, .slice A172 ((l.take k ++ chT t 5).length) c173), (64, .agg (tlc ⟨t.lv - 1, ((child t 5).p)⟩).toArray), (65, .slice (some ⟨g199, 0, none⟩) 1 1), (66, .slice A204 ((l.take k ++ chT t 6).length) c205)])
  clear hF_
  have hm230 : Mem w w228 [.row (.slice A204 ((l.take k ++ chT t 6).length) c205) 38 4 ((l.take k ++ chT t 6).length) (tlsC (l.take k ++ chT t 6)), .arr g214 23 (pcs (octP 6)), .arr g221 38 ([.int .i64 (t.lv - 1), .int .i64 (((child t 6).p).x), .int .i64 (((child t 6).p).y), .int .i64 (((child t 6).p).z)])] := hm227
  clear hm227 hm224
  refine then_normal (hK226 _ _ ?_)
  refine plStart ?_
  refine lk (v := .slice A204 ((l.take k ++ chT t 6).length) c205) rfl rfl rfl ?_
  refine litVal (v := .agg (tlc ⟨t.lv - 1, ((child t 6).p)⟩).toArray) rfl (wn rfl) (gLoadAg (vs := tlc ⟨t.lv - 1, ((child t 6).p)⟩) (k := 0) 2 hm230 rfl (by kernel_rfl) (by kernel_rfl) (.tmp 10) Ty.ag_voxel_api_Tile rfl (litEv (by kernel_rfl))) rfl (by decide) ?_
  refine plLit (cs := [.int .i64 (t.lv - 1), .int .i64 (((child t 6).p).x), .int .i64 (((child t 6).p).y), .int .i64 (((child t 6).p).z)]) (n := 1) Ty.sl_L_api_Tile hm230 (i := 2) rfl (wn rfl) rfl (by decide) (by decide) (by rw [lit_eval]; kernel_rfl) ?_
  intro g231 w233 hm232
  clear hm230
  try simp only [List.cons_append, List.nil_append, List.set_cons_succ, List.set_cons_zero] at hm232
  refine qP rfl ?_
  refine plApp1 (v := .slice A204 ((l.take k ++ chT t 6).length) c205) (n := (l.take k ++ chT t 6).length) (xs := tlsC (l.take k ++ chT t 6)) (ys := [.int .i64 (t.lv - 1), .int .i64 (((child t 6).p).x), .int .i64 (((child t 6).p).y), .int .i64 (((child t 6).p).z)]) 0 3 Ty.sl_L_api_Tile hm232 rfl rfl (i := 3) rfl (wn rfl) rfl (litEv (by kernel_rfl)) (litEv (by kernel_rfl)) (by kernel_rfl) (by kernel_rfl) (by simp only [List.length_append, chT_len, List.length_take]; omega) (by simp only [List.length_append, chT_len, List.length_take]; omega) ?_
  intro v238 w235 hm234
  clear hm232
  try simp only [List.cons_append, List.nil_append, List.set_cons_succ, List.set_cons_zero] at hm234
  replace hm234 := Mem.rowEq (v := v238) (e := 38) (size := 4) (n := ((l.take k ++ chT t 6).length) + 1) (n' := (l.take k ++ chT t 7).length) (xs := (tlsC (l.take k ++ chT t 6)) ++ ([.int .i64 (t.lv - 1), .int .i64 (((child t 6).p).x), .int .i64 (((child t 6).p).y), .int .i64 (((child t 6).p).z)])) (xs' := tlsC (l.take k ++ chT t 7)) 0 hm234 rfl (by rw [List.length_append, List.length_append, chT_len, chT_len]) (tls_ch _ t 6)
  try simp only [List.cons_append, List.nil_append, List.set_cons_succ, List.set_cons_zero] at hm234
  obtain ⟨A236, c237, rfl⟩ := Mem.rowSl (v := v238) (e := 38) (size := 4) (n := (l.take k ++ chT t 7).length) (xs := tlsC (l.take k ++ chT t 7)) 0 hm234 rfl
  refine qP rfl ?_
  refine lk (v := .slice A236 ((l.take k ++ chT t 7).length) c237) rfl rfl rfl ?_
  refine plD ?_
  refine inBlock_normal ?_
  refine then_normal (hK210 _ _ ?_)
  refine plStart ?_
  refine lk (v := .int .i64 6) rfl rfl rfl ?_
  refine lk (v := .int .i64 7) rfl rfl rfl ?_
  refine lk (v := .int .i64 7) rfl rfl rfl ?_
  refine plD ?_
  refine then_normal (roundsNext ?_)
  have hm239 : Mem w w235 [.row (.slice A236 ((l.take k ++ chT t 7).length) c237) 38 4 ((l.take k ++ chT t 7).length) (tlsC (l.take k ++ chT t 7))] := (hm234.sub (.cons_cons _ (.cons _ (.cons _ (.cons _ .slnil)))))
  clear hm234
  refine wp_seq_k fun K240 hK240 => ?_
  refine wp_seq_k fun K241 hK241 => ?_
  refine plStart ?_
  refine lk (v := .int .i64 7) rfl rfl rfl ?_
  refine lk (v := .bool true) rfl rfl rfl ?_
  refine plD ?_
  refine then_normal (hK241 _ _ ?_)
  refine wp_cond_true (litEv (by kernel_rfl)) ?_
  refine wp_skip ?_
  refine then_normal (hK240 _ _ ?_)
  refine wp_seq_k fun K242 hK242 => ?_
  refine wp_block ?_
  refine wp_seq_k fun K243 hK243 => ?_
  refine plStart ?_
  refine lk (v := .int .i64 7) rfl rfl rfl ?_
  refine plCall (i := 1) 42 [.int .i64 7] [] [] rfl (by kernel_rfl) (wn rfl) rfl (litEv (by kernel_rfl)) (litArgs (by kernel_rfl)) (rdecodeK_any (k := 7) (by decide) rfl _) ?_
  rintro e w244 ⟨rfl, hbz⟩
  have hm245 := hm239.below hbz
  clear hbz hm239
  refine ⟨_, rfl, ?_⟩
  refine qP rfl ?_
  refine lk (v := .tuple #[.agg (pcs (octP 7)).toArray, .bool true]) rfl rfl rfl ?_
  refine lk (v := .agg (pcs (octP 7)).toArray) rfl rfl rfl ?_
  refine lk (v := .bool true) rfl rfl rfl ?_
  refine plAlloc (z := [.int .i64 0, .int .i64 0, .int .i64 0]) Ty.ag_voxel_api_Point hm245 (i := 5) rfl (wn rfl) rfl ?_
  intro g246 w248 hm247
  clear hm245
  try simp only [List.cons_append, List.nil_append, List.set_cons_succ, List.set_cons_zero] at hm247
  refine qP rfl ?_
  refine plStore 1 Ty.ag_voxel_api_Point hm247 rfl (i := 6) (cs := pcs (octP 7)) rfl (wn rfl) rfl (litEv (by kernel_rfl)) (litEv (by kernel_rfl)) rfl rfl (by kernel_rfl) ?_
  intro w250 hm249
  clear hm247
  try simp only [List.cons_append, List.nil_append, List.set_cons_succ, List.set_cons_zero] at hm249
  refine qNone rfl ?_
  refine lk (v := .bool true) rfl rfl rfl ?_
  refine plD ?_
  refine then_normal (hK243 _ _ ?_)
  refine wpPrune [(0, .slice (some ⟨b, off, none⟩) l.length c), (1, .int .i64 (k : Int)), (4, .slice none 0 0), (5, .int .i64 0), (6, .slice A236 ((l.take k ++ chT t 7).length) c237), (7, .int .i64 7), (8, .pointer (some ⟨g246, 0, none⟩)), (10, .pointer (some ⟨g221, 0, none⟩)), (36, .int .i64 7), (37, .bool true), (38, .int .i64 6), (39, .int .i64 7), (40, .tuple #[.agg (pcs (octP 7)).toArray, .bool true]), (41, .int .i64 7), (42, .tuple #[.agg (pcs (octP 7)).toArray, .bool true]), (43, .agg (pcs (octP 7)).toArray), (44, .bool true), (45, .slice (some ⟨b, off, none⟩) l.length c), (46, .int .i64 (k : Int)), (47, .pointer (some ⟨b, off + k * 4, none⟩)), (48, .pointer (some ⟨b, off + k * 4, none⟩)), (49, .int .i64 t.lv), (50, .int .i64 (t.lv - 1)), (51, .agg (tlc ⟨t.lv - 1, ⟨0, 0, 0⟩⟩).toArray), (52, .slice (some ⟨b, off, none⟩) l.length c), (53, .int .i64 (k : Int)), (54, .pointer (some ⟨b, off + k * 4, none⟩)), (55, .pointer (some ⟨b, off + k * 4 + 1, none⟩)), (56, .agg (pcs t.p).toArray), (57, .agg (pcs (octP 6)).toArray), (58, .agg (tlc ⟨t.lv - 1, ⟨0, 0, 0⟩⟩).toArray), (59, .int .i64 (sideL (t.lv - 1))), (60, .agg (pcs ((octP 6).mul (sideL (t.lv - 1)))).toArray), (61, .agg (pcs ((child t 6).p)).toArray), (62, .pointer (some ⟨g221, 1, none⟩)), (63, .slice A204 ((l.take k ++ chT t 6).length) c205), (64, .agg (tlc ⟨t.lv - 1, ((child t 6).p)⟩).toArray), (65, .slice (some ⟨g231, 0, none⟩) 1 1), (66, .slice A236 ((l.take k ++ chT t 7).length) c237)] ⟨litGet (by kernel_rfl), ⟨litGet (by kernel_rfl), ⟨litGet (by kernel_rfl), ⟨litGet (by kernel_rfl), ⟨litGet (by kernel_rfl), ⟨litGet (by kernel_rfl), ⟨litGet (by kernel_rfl), ⟨litGet (by kernel_rfl), ⟨litGet (by kernel_rfl), ⟨litGet (by kernel_rfl), ⟨litGet (by kernel_rfl), ⟨litGet (by kernel_rfl), ⟨litGet (by kernel_rfl), ⟨litGet (by kernel_rfl), ⟨litGet (by kernel_rfl), ⟨litGet (by kernel_rfl), ⟨litGet (by kernel_rfl), ⟨litGet (by kernel_rfl), ⟨litGet (by kernel_rfl), ⟨litGet (by kernel_rfl), ⟨litGet (by kernel_rfl), ⟨litGet (by kernel_rfl), ⟨litGet (by kernel_rfl), ⟨litGet (by kernel_rfl), ⟨litGet (by kernel_rfl), ⟨litGet (by kernel_rfl), ⟨litGet (by kernel_rfl), ⟨litGet (by kernel_rfl), ⟨litGet (by kernel_rfl), ⟨litGet (by kernel_rfl), ⟨litGet (by kernel_rfl), ⟨litGet (by kernel_rfl), ⟨litGet (by kernel_rfl), ⟨litGet (by kernel_rfl), ⟨litGet (by kernel_rfl), ⟨litGet (by kernel_rfl), ⟨litGet (by kernel_rfl), ⟨litGet (by kernel_rfl), ⟨litGet (by kernel_rfl), trivial⟩⟩⟩⟩⟩⟩⟩⟩⟩⟩⟩⟩⟩⟩⟩⟩⟩⟩⟩⟩⟩⟩⟩⟩⟩⟩⟩⟩⟩⟩⟩⟩⟩⟩⟩⟩⟩⟩⟩ (fun X251 => ?_)
  refine wp_seq_k fun K252 hK252 => ?_
  refine plStart ?_
  refine lk (v := .slice (some ⟨b, off, none⟩) l.length c) rfl rfl rfl ?_
  refine lk (v := .int .i64 (k : Int)) rfl rfl rfl ?_
  refine litVal (v := .pointer (some ⟨b, off + k * 4, none⟩)) rfl (wn rfl) (gIaSl (b := b) (off := off) (n := l.length) (c := c) (kk := .i64) (K := (k : Int)) (.tmp 45) (.tmp 46) k Ty.sl_L_api_Tile rfl (litEv (by kernel_rfl)) (litEv (by kernel_rfl)) (rfl) (by omega)) rfl (by decide) ?_
  refine lk (v := .pointer (some ⟨b, off + k * 4, none⟩)) rfl rfl rfl ?_
  refine litVal (v := .int .i64 t.lv) rfl (wn rfl) (gLoadRd (v := .int .i64 t.lv) (m := k * 4) ((Rd.below hr hm249.bel).more hm249.bel.size) rfl (tlsC_get hk 0 _ rfl) (by omega) (.tmp 48) (by kernel_rfl) rfl (litEv (by kernel_rfl))) rfl (by decide) ?_
  refine litVal (v := .int .i64 (t.lv - 1)) rfl (wn rfl) (subRun (A := t.lv) (B := 1) (C := t.lv - 1) (.tmp 49) (.const (.int .i64 1)) rfl (litEv (by kernel_rfl)) (litEv (by kernel_rfl)) rfl (by omega)) rfl (by decide) ?_
  refine lk (v := .agg (tlc ⟨t.lv - 1, ⟨0, 0, 0⟩⟩).toArray) rfl rfl rfl ?_
  refine plAlloc (z := [.int .i64 0, .int .i64 0, .int .i64 0, .int .i64 0]) Ty.ag_voxel_api_Tile hm249 (i := 7) rfl (wn rfl) rfl ?_
  intro g253 w255 hm254
  clear hm249
  try simp only [List.cons_append, List.nil_append, List.set_cons_succ, List.set_cons_zero] at hm254
  refine qP rfl ?_
  refine plStore 2 Ty.ag_voxel_api_Tile hm254 rfl (i := 8) (cs := tlc ⟨t.lv - 1, ⟨0, 0, 0⟩⟩) rfl (wn rfl) rfl (litEv (by kernel_rfl)) (litEv (by kernel_rfl)) rfl rfl (by kernel_rfl) ?_
  intro w257 hm256
  clear hm254
  try simp only [List.cons_append, List.nil_append, List.set_cons_succ, List.set_cons_zero] at hm256
  refine qNone rfl ?_
  refine plD ?_
  refine then_normal (hK252 _ _ ?_)
  refine wp_seq_k fun K258 hK258 => ?_
  refine aoStart (aoV [fun _ => .slice (some ⟨b, off, none⟩) l.length c, fun _ => .int .i64 (k : Int), fun _ => .pointer (some ⟨b, off + k * 4, none⟩), fun _ => .pointer (some ⟨b, off + k * 4 + 1, none⟩), fun _ => .agg (pcs t.p).toArray, fun _ => .agg (pcs (octP 7)).toArray, fun _ => .agg (tlc ⟨t.lv - 1, ⟨0, 0, 0⟩⟩).toArray, fun _ => .int .i64 (sideL (t.lv - 1)), fun _ => .agg (pcs ((octP 7).mul (sideL (t.lv - 1)))).toArray, fun _ => .agg (pcs ((child t 7).p)).toArray, fun _ => .pointer (some ⟨g253, 1, none⟩), fun _ => undef]) (aoA [0, 1, 2, 3, 4, 5, 6, 7, 8, 9, 10, 11]) (fun b_ g_ => ((.row (.slice A236 ((l.take k ++ chT t 7).length) c237) 38 4 ((l.take k ++ chT t 7).length) (tlsC (l.take k ++ chT t 7))) :: (.arr g246 23 (pcs (octP 7))) :: (.arr g253 38 (bsel (b_ 11) [.int .i64 (t.lv - 1), .int .i64 (((child t 7).p).x), .int .i64 (((child t 7).p).y), .int .i64 (((child t 7).p).z)] (tlc ⟨t.lv - 1, ⟨0, 0, 0⟩⟩))) :: [])) hm256 (by kernel_rfl) (by kernel_rfl) (fun w_ h_ => h_) (fun b_ g_ h_ => by show (fun (x11_ : Bool) => (((.row (.slice A236 ((l.take k ++ chT t 7).length) c237) 38 4 ((l.take k ++ chT t 7).length) (tlsC (l.take k ++ chT t 7))) :: (.arr g246 23 (pcs (octP 7))) :: (.arr g253 38 (bsel x11_ [.int .i64 (t.lv - 1), .int .i64 (((child t 7).p).x), .int .i64 (((child t 7).p).y), .int .i64 (((child t 7).p).z)] (tlc ⟨t.lv - 1, ⟨0, 0, 0⟩⟩))) :: []) : List Res)) (b_ 11) = _; rw [h_ 11 (by decide)]) ?_ ?_
  · refine aoNext rfl (aoVal (fun g_ => [(0, .slice (some ⟨b, off, none⟩) l.length c)]) (fun g_ a_ h_k => ⟨(h_k.out 0 (by kernel_rfl)).trans (litGet (by kernel_rfl)), trivial⟩) (fun g_ X_ => (wn rfl)) (fun b_ g_ => by kernel_rfl) (fun b_ g_ X_ w_ h_b h_ => valTo (b := .slice (some ⟨b, off, none⟩) l.length c) (by kernel_rfl) (litRun (by kernel_rfl)))) ?_
    refine aoNext rfl (aoVal (fun g_ => [(1, .int .i64 (k : Int))]) (fun g_ a_ h_k => ⟨(h_k.out 1 (by kernel_rfl)).trans (litGet (by kernel_rfl)), trivial⟩) (fun g_ X_ => (wn rfl)) (fun b_ g_ => by kernel_rfl) (fun b_ g_ X_ w_ h_b h_ => valTo (b := .int .i64 (k : Int)) (by kernel_rfl) (litRun (by kernel_rfl)))) ?_
    refine aoNext rfl (aoVal (fun g_ => [(52, .slice (some ⟨b, off, none⟩) l.length c), (53, .int .i64 (k : Int))]) (fun g_ a_ h_k => ⟨(h_k.inn 0 _ _ (by kernel_rfl) rfl rfl).trans (by kernel_rfl), (h_k.inn 1 _ _ (by kernel_rfl) rfl rfl).trans (by kernel_rfl), trivial⟩) (fun g_ X_ => (wn rfl)) (fun b_ g_ => by kernel_rfl) (fun b_ g_ X_ w_ h_b h_ => valTo (b := .pointer (some ⟨b, off + k * 4, none⟩)) (by kernel_rfl) (gIaSl (b := b) (off := off) (n := l.length) (c := c) (kk := .i64) (K := (k : Int)) (.tmp 52) (.tmp 53) k Ty.sl_L_api_Tile rfl (litEv (by kernel_rfl)) (litEv (by kernel_rfl)) (rfl) (by omega)))) ?_
    refine aoNext rfl (aoVal (fun g_ => [(54, .pointer (some ⟨b, off + k * 4, none⟩))]) (fun g_ a_ h_k => ⟨(h_k.inn 2 _ _ (by kernel_rfl) rfl rfl).trans (by kernel_rfl), trivial⟩) (fun g_ X_ => (wn rfl)) (fun b_ g_ => by kernel_rfl) (fun b_ g_ X_ w_ h_b h_ => valTo (b := .pointer (some ⟨b, off + k * 4 + 1, none⟩)) (by kernel_rfl) (litRun (by kernel_rfl)))) ?_
    refine aoNext rfl (aoVal (fun g_ => [(55, .pointer (some ⟨b, off + k * 4 + 1, none⟩))]) (fun g_ a_ h_k => ⟨(h_k.inn 3 _ _ (by kernel_rfl) rfl rfl).trans (by kernel_rfl), trivial⟩) (fun g_ X_ => (wn rfl)) (fun b_ g_ => by kernel_rfl) (fun b_ g_ X_ w_ h_b h_ => valTo (b := .agg (pcs t.p).toArray) (by kernel_rfl) ((fun (h_ : Mem _ w_ ((.row (.slice A236 ((l.take k ++ chT t 7).length) c237) 38 4 ((l.take k ++ chT t 7).length) (tlsC (l.take k ++ chT t 7))) :: (.arr g246 23 (pcs (octP 7))) :: (.arr g253 38 (tlc ⟨t.lv - 1, ⟨0, 0, 0⟩⟩)) :: [])) => gLoadAgRd (vs := pcs t.p) (m := k * 4 + 1) ((Rd.below hr h_.bel).more h_.bel.size) rfl (fun i_ u_ hu_ => by have := tlsC_get hk (1 + i_) u_ (by rw [Nat.add_comm]; exact hu_); rw [← Nat.add_assoc] at this; exact this) (by kernel_rfl) (by omega) (.tmp 55) Ty.ag_voxel_api_Point rfl (litEv (by kernel_rfl))) (by have h2_ : Mem w w_ ((.row (.slice A236 ((l.take k ++ chT t 7).length) c237) 38 4 ((l.take k ++ chT t 7).length) (tlsC (l.take k ++ chT t 7))) :: (.arr g246 23 (pcs (octP 7))) :: (.arr g253 38 (bsel (b_ 11) [.int .i64 (t.lv - 1), .int .i64 (((child t 7).p).x), .int .i64 (((child t 7).p).y), .int .i64 (((child t 7).p).z)] (tlc ⟨t.lv - 1, ⟨0, 0, 0⟩⟩))) :: []) := h_; rw [bselF (h_b.post 11 (by kernel_rfl))] at h2_; exact h2_)))) ?_
    refine aoNext rfl (aoVal (fun g_ => [(8, .pointer (some ⟨g246, 0, none⟩))]) (fun g_ a_ h_k => ⟨(h_k.out 8 (by kernel_rfl)).trans (litGet (by kernel_rfl)), trivial⟩) (fun g_ X_ => (wn rfl)) (fun b_ g_ => by kernel_rfl) (fun b_ g_ X_ w_ h_b h_ => valTo (b := .agg (pcs (octP 7)).toArray) (by kernel_rfl) ((fun (h_ : Mem _ w_ ((.row (.slice A236 ((l.take k ++ chT t 7).length) c237) 38 4 ((l.take k ++ chT t 7).length) (tlsC (l.take k ++ chT t 7))) :: (.arr g246 23 (pcs (octP 7))) :: (.arr g253 38 (tlc ⟨t.lv - 1, ⟨0, 0, 0⟩⟩)) :: [])) => gLoadAg (vs := pcs (octP 7)) (k := 0) 1 h_ rfl (by kernel_rfl) (by kernel_rfl) (.tmp 8) Ty.ag_voxel_api_Point rfl (litEv (by kernel_rfl))) (by have h2_ : Mem w w_ ((.row (.slice A236 ((l.take k ++ chT t 7).length) c237) 38 4 ((l.take k ++ chT t 7).length) (tlsC (l.take k ++ chT t 7))) :: (.arr g246 23 (pcs (octP 7))) :: (.arr g253 38 (bsel (b_ 11) [.int .i64 (t.lv - 1), .int .i64 (((child t 7).p).x), .int .i64 (((child t 7).p).y), .int .i64 (((child t 7).p).z)] (tlc ⟨t.lv - 1, ⟨0, 0, 0⟩⟩))) :: []) := h_; rw [bselF (h_b.post 11 (by kernel_rfl))] at h2_; exact h2_)))) ?_
    refine aoNext rfl (aoVal (fun g_ => [(10, .pointer (some ⟨g253, 0, none⟩))]) (fun g_ a_ h_k => ⟨(h_k.out 10 (by kernel_rfl)).trans (litGet (by kernel_rfl)), trivial⟩) (fun g_ X_ => (wn rfl)) (fun b_ g_ => by kernel_rfl) (fun b_ g_ X_ w_ h_b h_ => valTo (b := .agg (tlc ⟨t.lv - 1, ⟨0, 0, 0⟩⟩).toArray) (by kernel_rfl) ((fun (h_ : Mem _ w_ ((.row (.slice A236 ((l.take k ++ chT t 7).length) c237) 38 4 ((l.take k ++ chT t 7).length) (tlsC (l.take k ++ chT t 7))) :: (.arr g246 23 (pcs (octP 7))) :: (.arr g253 38 (tlc ⟨t.lv - 1, ⟨0, 0, 0⟩⟩)) :: [])) => gLoadAg (vs := tlc ⟨t.lv - 1, ⟨0, 0, 0⟩⟩) (k := 0) 2 h_ rfl (by kernel_rfl) (by kernel_rfl) (.tmp 10) Ty.ag_voxel_api_Tile rfl (litEv (by kernel_rfl))) (by have h2_ : Mem w w_ ((.row (.slice A236 ((l.take k ++ chT t 7).length) c237) 38 4 ((l.take k ++ chT t 7).length) (tlsC (l.take k ++ chT t 7))) :: (.arr g246 23 (pcs (octP 7))) :: (.arr g253 38 (bsel (b_ 11) [.int .i64 (t.lv - 1), .int .i64 (((child t 7).p).x), .int .i64 (((child t 7).p).y), .int .i64 (((child t 7).p).z)] (tlc ⟨t.lv - 1, ⟨0, 0, 0⟩⟩))) :: []) := h_; rw [bselF (h_b.post 11 (by kernel_rfl))] at h2_; exact h2_)))) ?_
    refine aoNext rfl (aoCall (fun g_ => [(58, .agg (tlc ⟨t.lv - 1, ⟨0, 0, 0⟩⟩).toArray)]) (fun g_ a_ h_k => ⟨(h_k.inn 6 _ _ (by kernel_rfl) rfl rfl).trans (by kernel_rfl), trivial⟩) 45 (fun g_ => [.agg (tlc ⟨t.lv - 1, ⟨0, 0, 0⟩⟩).toArray]) [] [] (by kernel_rfl) (fun g_ X_ => (wn rfl)) (fun b_ g_ => by kernel_rfl) rfl (fun g_ X_ => litEv (by kernel_rfl)) (fun g_ X_ => litArgs (by kernel_rfl)) (fun b_ g_ w_ h_b h_ => (rside_any ⟨t.lv - 1, ⟨0, 0, 0⟩⟩ hsl_ _).mono (fun _ _ h_r => ⟨h_r.1.trans (by kernel_rfl), h_r.2⟩))) ?_
    refine aoNext rfl (aoCall (fun g_ => [(57, .agg (pcs (octP 7)).toArray), (59, .int .i64 (sideL (t.lv - 1)))]) (fun g_ a_ h_k => ⟨(h_k.inn 5 _ _ (by kernel_rfl) rfl rfl).trans (by kernel_rfl), (h_k.inn 7 _ _ (by kernel_rfl) rfl rfl).trans (by kernel_rfl), trivial⟩) 44 (fun g_ => [.agg (pcs (octP 7)).toArray, .int .i64 (sideL (t.lv - 1))]) [] [] (by kernel_rfl) (fun g_ X_ => (wn rfl)) (fun b_ g_ => by kernel_rfl) rfl (fun g_ X_ => litEv (by kernel_rfl)) (fun g_ X_ => litArgs (by kernel_rfl)) (fun b_ g_ w_ h_b h_ => (rscale_any (octP 7) (sideL (t.lv - 1)) (hm_ 7).1 (hm_ 7).2.1 (hm_ 7).2.2 _).mono (fun _ _ h_r => ⟨h_r.1.trans (by kernel_rfl), h_r.2⟩))) ?_
    refine aoNext rfl (aoCall (fun g_ => [(56, .agg (pcs t.p).toArray), (60, .agg (pcs ((octP 7).mul (sideL (t.lv - 1)))).toArray)]) (fun g_ a_ h_k => ⟨(h_k.inn 4 _ _ (by kernel_rfl) rfl rfl).trans (by kernel_rfl), (h_k.inn 8 _ _ (by kernel_rfl) rfl rfl).trans (by kernel_rfl), trivial⟩) 43 (fun g_ => [.agg (pcs t.p).toArray, .agg (pcs ((octP 7).mul (sideL (t.lv - 1)))).toArray]) [] [] (by kernel_rfl) (fun g_ X_ => (wn rfl)) (fun b_ g_ => by kernel_rfl) rfl (fun g_ X_ => litEv (by kernel_rfl)) (fun g_ X_ => litArgs (by kernel_rfl)) (fun b_ g_ w_ h_b h_ => (radd_any t.p ((octP 7).mul (sideL (t.lv - 1))) hp_ (ha_ 7) _).mono (fun _ _ h_r => ⟨h_r.1.trans (by kernel_rfl), h_r.2⟩))) ?_
    refine aoNext rfl (aoVal (fun g_ => [(10, .pointer (some ⟨g253, 0, none⟩))]) (fun g_ a_ h_k => ⟨(h_k.out 10 (by kernel_rfl)).trans (litGet (by kernel_rfl)), trivial⟩) (fun g_ X_ => (wn rfl)) (fun b_ g_ => by kernel_rfl) (fun b_ g_ X_ w_ h_b h_ => valTo (b := .pointer (some ⟨g253, 1, none⟩)) (by kernel_rfl) (litRun (by kernel_rfl)))) ?_
    refine aoNext rfl (aoStore (gb := fun g_ => g253) (k := 1) (cur := fun g_ => tlc ⟨t.lv - 1, ⟨0, 0, 0⟩⟩) (vs := fun g_ => pcs ((child t 7).p)) 2 (fun g_ => [(61, .agg (pcs ((child t 7).p)).toArray), (62, .pointer (some ⟨g253, 1, none⟩))]) (fun g_ a_ h_k => ⟨(h_k.inn 9 _ _ (by kernel_rfl) rfl rfl).trans (by kernel_rfl), (h_k.inn 10 _ _ (by kernel_rfl) rfl rfl).trans (by kernel_rfl), trivial⟩) Ty.ag_voxel_api_Point (fun b_ g_ h_b => by show some (Res.arr g253 38 (bsel (b_ 11) [.int .i64 (t.lv - 1), .int .i64 (((child t 7).p).x), .int .i64 (((child t 7).p).y), .int .i64 (((child t 7).p).z)] (tlc ⟨t.lv - 1, ⟨0, 0, 0⟩⟩))) = some (Res.arr g253 38 (tlc ⟨t.lv - 1, ⟨0, 0, 0⟩⟩)); rw [bselF h_b.no]) (fun g_ X_ => (wn rfl)) rfl (fun g_ X_ => litEv (by kernel_rfl)) (fun g_ X_ => litEv (by kernel_rfl)) (fun _ => by kernel_rfl) (fun _ => by kernel_rfl) (fun _ => by kernel_rfl) (fun b_ g_ h_b => by kernel_rfl) rfl) ?_
    exact aoDone (by decide)
  intro g_ a_ w260 hF_ hm259
  obtain ⟨X261, rfl⟩ := frLit (⟨hF_.size, hF_.defers, ⟨(hF_.out 0 (by kernel_rfl)).trans (litGet (by kernel_rfl)), (hF_.out 1 (by kernel_rfl)).trans (litGet (by kernel_rfl)), (hF_.out 4 (by kernel_rfl)).trans (litGet (by kernel_rfl)), (hF_.out 5 (by kernel_rfl)).trans (litGet (by kernel_rfl)), (hF_.out 6 (by kernel_rfl)).trans (litGet (by kernel_rfl)), (hF_.out 7 (by kernel_rfl)).trans (litGet (by kernel_rfl)), (hF_.out 8 (by kernel_rfl)).trans (litGet (by kernel_rfl)), (hF_.out 10 (by kernel_rfl)).trans (litGet (by kernel_rfl)), (hF_.out 36 (by kernel_rfl)).trans (litGet (by kernel_rfl)), (hF_.out 37 (by kernel_rfl)).trans (litGet (by kernel_rfl)), (hF_.out 38 (by kernel_rfl)).trans (litGet (by kernel_rfl)), (hF_.out 39 (by kernel_rfl)).trans (litGet (by kernel_rfl)), (hF_.out 40 (by kernel_rfl)).trans (litGet (by kernel_rfl)), (hF_.out 41 (by kernel_rfl)).trans (litGet (by kernel_rfl)), (hF_.out 42 (by kernel_rfl)).trans (litGet (by kernel_rfl)), (hF_.out 43 (by kernel_rfl)).trans (litGet (by kernel_rfl)), (hF_.out 44 (by kernel_rfl)).trans (litGet (by kernel_rfl)), (hF_.out 45 (by kernel_rfl)).trans (litGet (by kernel_rfl)), (hF_.out 46 (by kernel_rfl)).trans (litGet (by kernel_rfl)), (hF_.out 47 (by kernel_rfl)).trans (litGet (by kernel_rfl)), (hF_.out 48 (by kernel_rfl)).trans (litGet (by kernel_rfl)), (hF_.out 49 (by kernel_rfl)).trans (litGet (by kernel_rfl)), (hF_.out 50 (by kernel_rfl)).trans (litGet (by kernel_rfl)), (hF_.out 51 (by kernel_rfl)).trans (litGet (by kernel_rfl)), (hF_.inn 0 _ _ rfl rfl).trans (by kernel_rfl), (hF_.inn 1 _ _ rfl rfl).trans (by kernel_rfl), (hF_.inn 2 _ _ rfl rfl).trans (by kernel_rfl), (hF_.inn 3 _ _ rfl rfl).trans (by kernel_rfl), (hF_.inn 4 _ _ rfl rfl).trans (by kernel_rfl), (hF_.inn 5 _ _ rfl rfl).trans (by kernel_rfl), (hF_.inn 6 _ _ rfl rfl).trans (by kernel_rfl), (hF_.inn 7 _ _ rfl rfl).trans (by kernel_rfl), (hF_.inn 8 _ _ rfl rfl).trans (by kernel_rfl), (hF_.inn 9 _ _ rfl rfl).trans (by kernel_rfl), (hF_.inn 10 _ _ rfl rfl).trans (by kernel_rfl), (hF_.out 63 (by kernel_rfl)).trans (litGet (by kernel_rfl)), (hF_.out 64 (by kernel_rfl)).trans (litGet (by kernel_rfl)), (hF_.out 65 (by kernel_rfl)).trans (litGet (by kernel_rfl)), (hF_.out 66 (by kernel_rfl)).trans (litGet (by kernel_rfl)), trivial⟩⟩ : Fr _ 73 [(0, .slice (some ⟨b, off, none⟩) l.length c), (1, .int .i64 (k : Int)), (4, .slice none 0 0), (5, .int .i64 0), (6, .slice A236 ((l.take k ++ chT t 7).length) c237), (7, .int .i64 7), (8, .pointer (some ⟨g246, 0, none⟩)), (10, .pointer (some ⟨g253, 0, none⟩)), (36, .int .i64 7), (37, .bool true), (38, .int .i64 6), (39, .int .i64 7), (40, .tuple #[.agg (pcs (octP 7)).toArray, .bool true]), (41, .int .i64 7), (42, .tuple #[.agg (pcs (octP 7)).toArray, .bool true]), (43, .agg (pcs (octP 7)).toArray), (44, .bool true), (45, .slice (some ⟨b, off, none⟩) l.length c), (46, .int .i64 (k : Int)), (47, .pointer (some ⟨b, off + k * 4, none⟩)), (48, .pointer (some ⟨b, off + k * 4, none⟩)), (49, .int .i64 t.lv), (50, .int .i64 (t.lv - 1)), (51, .agg (tlc ⟨t.lv - 1, ⟨0, 0, 0⟩⟩).toArray), (52, .slice (some ⟨b, off, none⟩) l.length c), (53, .int .i64 (k : Int)), (54, .pointer (some ⟨b, off + k * 4, none⟩)), (55, .pointer (some ⟨b, off + k * 4 + 1, none⟩)), (56, .agg (pcs t.p).toArray), (57, .agg (pcs (octP 7)).toArray), (58, .agg (tlc ⟨t.lv - 1, ⟨0, 0, 0⟩⟩).toArray), (59, .int .i64 (sideL (t.lv - 1))), (60, .agg (pcs ((octP 7).mul (sideL (t.lv - 1)))).toArray), (61, .agg (pcs ((child t 7).p)).toArray), (62, .pointer (some ⟨g253, 1, none⟩)), (63, .slice A204 ((l.take k ++ chT t 6).length) c205), (64, .agg (tlc ⟨t.lv - 1, ((child t 6).p)⟩).toArray), (65, .slice (some ⟨g231, 0, none⟩) 1 1), (66, .slice A236 ((l.take k ++ chT t 7).length) c237)])
  clear hF_
  have hm262 : Mem w w260 [.row (.slice A236 ((l.take k ++ chT t 7).length) c237) 38 4 ((l.take k ++ chT t 7).length) (tlsC (l.take k ++ chT t 7)), .arr g246 23 (pcs (octP 7)), .arr g253 38 ([.int .i64 (t.lv - 1), .int .i64 (((child t 7).p).x), .int .i64 (((child t 7).p).y), .int .i64 (((child t 7).p).z)])] := hm259
  clear hm259 hm256
  refine then_normal (hK258 _ _ ?_)
  refine plStart ?_
  refine lk (v := .slice A236 ((l.take k ++ chT t 7).length) c237) rfl rfl rfl ?_
  refine litVal (v := .agg (tlc ⟨t.lv - 1, ((child t 7).p)⟩).toArray) rfl (wn rfl) (gLoadAg (vs := tlc ⟨t.lv - 1, ((child t 7).p)⟩) (k := 0) 2 hm262 rfl (by kernel_rfl) (by kernel_rfl) (.tmp 10) Ty.ag_voxel_api_Tile rfl (litEv (by kernel_rfl))) rfl (by decide) ?_
  refine plLit (cs := [.int .i64 (t.lv - 1), .int .i64 (((child t 7).p).x), .int .i64 (((child t 7).p).y), .int .i64 (((child t 7).p).z)]) (n := 1) Ty.sl_L_api_Tile hm262 (i := 2) rfl (wn rfl) rfl (by decide) (by decide) (by rw [lit_eval]; kernel_rfl) ?_
  intro g263 w265 hm264
  clear hm262
  try simp only [List.cons_append, List.nil_append, List.set_cons_succ, List.set_cons_zero] at hm264
  refine qP rfl ?_
  refine plApp1 (v := .slice A236 ((l.take k ++ chT t 7).length) c237) (n := (l.take k ++ chT t 7).length) (xs := tlsC (l.take k ++ chT t 7)) (ys := [.int .i64 (t.lv - 1), .int .i64 (((child t 7).p).x), .int .i64 (((child t 7).p).y), .int .i64 (((child t 7).p).z)]) 0 3 Ty.sl_L_api_Tile hm264 rfl rfl (i := 3) rfl (wn rfl) rfl (litEv (by kernel_rfl)) (litEv (by kernel_rfl)) (by kernel_rfl) (by kernel_rfl) (by simp only [List.length_append, chT_len, List.length_take]; omega) (by simp only [List.length_append, chT_len, List.length_take]; omega) ?_
  intro v270 w267 hm266
  clear hm264
  try simp only [List.cons_append, List.nil_append, List.set_cons_succ, List.set_cons_zero] at hm266
  replace hm266 := Mem.rowEq (v := v270) (e := 38) (size := 4) (n := ((l.take k ++ chT t 7).length) + 1) (n' := (l.take k ++ chT t 8).length) (xs := (tlsC (l.take k ++ chT t 7)) ++ ([.int .i64 (t.lv - 1), .int .i64 (((child t 7).p).x), .int .i64 (((child t 7).p).y), .int .i64 (((child t 7).p).z)])) (xs' := tlsC (l.take k ++ chT t 8)) 0 hm266 rfl (by rw [List.length_append, List.length_append, chT_len, chT_len]) (tls_ch _ t 7)
  try simp only [List.cons_append, List.nil_append, List.set_cons_succ, List.set_cons_zero] at hm266
  obtain ⟨A268, c269, rfl⟩ := Mem.rowSl (v := v270) (e := 38) (size := 4) (n := (l.take k ++ chT t 8).length) (xs := tlsC (l.take k ++ chT t 8)) 0 hm266 rfl
  refine qP rfl ?_
  refine lk (v := .slice A268 ((l.take k ++ chT t 8).length) c269) rfl rfl rfl ?_
  refine plD ?_
  refine inBlock_normal ?_
  refine then_normal (hK242 _ _ ?_)
  refine plStart ?_
  refine lk (v := .int .i64 7) rfl rfl rfl ?_
  refine lk (v := .int .i64 8) rfl rfl rfl ?_
  refine lk (v := .int .i64 8) rfl rfl rfl ?_
  refine plD ?_
  refine then_normal (roundsNext ?_)
  have hm271 : Mem w w267 [.row (.slice A268 ((l.take k ++ chT t 8).length) c269) 38 4 ((l.take k ++ chT t 8).length) (tlsC (l.take k ++ chT t 8))] := (hm266.sub (.cons_cons _ (.cons _ (.cons _ (.cons _ .slnil)))))
  clear hm266
  refine wp_seq_k fun K272 hK272 => ?_
  refine wp_seq_k fun K273 hK273 => ?_
  refine plStart ?_
  refine lk (v := .int .i64 8) rfl rfl rfl ?_
  refine lk (v := .bool false) rfl rfl rfl ?_
  refine plD ?_
  refine then_normal (hK273 _ _ ?_)
  refine wp_cond_false (litEv (by kernel_rfl)) ?_
  refine wp_exit ?_
  refine then_exit ?_
  refine then_exit ?_
  refine inBlock_exit ?_
  refine then_normal (hK15 _ _ ?_)
  refine wpPrune [(0, .slice (some ⟨b, off, none⟩) l.length c), (1, .int .i64 (k : Int)), (4, .slice none 0 0), (5, .int .i64 0), (6, .slice A268 ((l.take k ++ chT t 8).length) c269)] ⟨litGet (by kernel_rfl), ⟨litGet (by kernel_rfl), ⟨litGet (by kernel_rfl), ⟨litGet (by kernel_rfl), ⟨litGet (by kernel_rfl), trivial⟩⟩⟩⟩⟩ (fun X274 => ?_)
  refine wp_seq_k fun K275 hK275 => ?_
  refine plStart ?_
  refine lk (v := .slice A268 ((l.take k ++ chT t 8).length) c269) rfl rfl rfl ?_
  refine lk (v := .slice (some ⟨b, off, none⟩) l.length c) rfl rfl rfl ?_
  refine lk (v := .int .i64 (k : Int)) rfl rfl rfl ?_
  refine litVal (v := .int .i64 ((k : Int) + 1)) rfl (wn rfl) (addRun (A := (k : Int)) (B := 1) (C := (k : Int) + 1) (.tmp 69) (.const (.int .i64 1)) rfl (litEv (by kernel_rfl)) (litEv (by kernel_rfl)) rfl (by omega)) rfl (by decide) ?_
  refine litVal (i := 4) (v := .slice A3 ((l.drop (k + 1)).length) (c - (k + 1))) rfl (wn rfl) (sliceLRun (k := (k : Int) + 1) (.tmp 68) (.tmp 70) hs3 rfl (litEv (by kernel_rfl)) (litEv (by kernel_rfl)) (by omega)) rfl (by decide) ?_
  refine plAppR (v := .slice A268 ((l.take k ++ chT t 8).length) c269) (n := (l.take k ++ chT t 8).length) (xs := tlsC (l.take k ++ chT t 8)) (ys := tlsC (l.drop (k + 1))) (A := A3) (m := (l.drop (k + 1)).length) (c := (c - (k + 1))) 0 Ty.sl_L_api_Tile hm271 rfl ((Rd.below hr3 hm271.bel).more hm271.bel.size) (i := 5) rfl (wn rfl) rfl (litEv (by kernel_rfl)) (litEv (by kernel_rfl)) (tlsC_one _) (by simp only [List.length_append, chT_len, List.length_take, List.length_drop]; omega) (by simp only [List.length_append, chT_len, List.length_take, List.length_drop]; omega) ?_
  intro v280 w277 hm276
  clear hm271
  try simp only [List.cons_append, List.nil_append, List.set_cons_succ, List.set_cons_zero] at hm276
  replace hm276 := Mem.rowEq (v := v280) (e := 38) (size := 4) (n := ((l.take k ++ chT t 8).length) + ((l.drop (k + 1)).length)) (n' := (l.take k ++ chT t 8 ++ l.drop (k + 1)).length) (xs := (tlsC (l.take k ++ chT t 8)) ++ (tlsC (l.drop (k + 1)))) (xs' := tlsC (l.take k ++ chT t 8 ++ l.drop (k + 1))) 0 hm276 rfl (by simp only [List.length_append]) ((tlsC_app _ _).symm)
  try simp only [List.cons_append, List.nil_append, List.set_cons_succ, List.set_cons_zero] at hm276
  obtain ⟨A278, c279, rfl⟩ := Mem.rowSl (v := v280) (e := 38) (size := 4) (n := (l.take k ++ chT t 8 ++ l.drop (k + 1)).length) (xs := tlsC (l.take k ++ chT t 8 ++ l.drop (k + 1))) 0 hm276 rfl
  refine qP rfl ?_
  refine lk (v := .slice A278 ((l.take k ++ chT t 8 ++ l.drop (k + 1)).length) c279) rfl rfl rfl ?_
  refine lk (v := .int .i64 0) rfl rfl rfl ?_
  refine plD ?_
  refine then_normal (hK275 _ _ ?_)
  refine wp_ret ?_
  refine bodyPost_ret (v := .tuple #[.slice A278 ((l.take k ++ chT t 8 ++ l.drop (k + 1)).length) c279, .int .i64 0]) (gRes2 rfl (gResTmp (t := 4) (v := .slice A278 ((l.take k ++ chT t 8 ++ l.drop (k + 1)).length) c279) (litGet (by kernel_rfl))) (gResTmp (t := 5) (v := .int .i64 0) (litGet (by kernel_rfl)))) rfl ?_
  exact ⟨_, rfl, by unfold splitAt; rw [hk]; exact hm276.row 0 rfl, hm276.bel⟩
set_option maxRecDepth 100000 in
set_option maxHeartbeats 4000000 in
theorem rsplit_no (l : List Tl) (k : Nat) (t : Tl) (b off c : Nat) (w : World) (hr : Rd w w.heap.size 4 (some ⟨b, off, none⟩) l.length c (tlsC l)) (hk : l[k]? = some t) (ht : t.Ok) (h1 : 1 ≤ t.lv) (hlen : ¬ l.length + 7 ≤ 4096) (hcap : l.length ≤ 100000) : Calls Try.prog 21 #[.slice (some ⟨b, off, none⟩) l.length c, .int .i64 (k : Int)] w (RetV w (.tuple #[.slice none 0 0, .int .i64 2])) := by
  have hkl : k < l.length := (List.getElem?_eq_some_iff.1 hk).1
  have hl12_ := ht.lv
  have hm0 := Mem.nil w
  go_enter Try.func21, Try.ntmps21
  refine litStart 73 [(0, .slice (some ⟨b, off, none⟩) l.length c), (1, .int .i64 (k : Int))] (by kernel_rfl) (fun X0 => ?_)
  refine wp_seq_k fun K1 hK1 => ?_
  refine plStart ?_
  refine lk (v := .slice none 0 0) rfl rfl rfl ?_
  refine lk (v := .int .i64 0) rfl rfl rfl ?_
  refine plD ?_
  refine then_normal (hK1 _ _ ?_)
  refine wp_seq_k fun K2 hK2 => ?_
  refine wp_seq_k fun K3 hK3 => ?_
  refine plStart ?_
  refine lk (v := .int .i64 (k : Int)) rfl rfl rfl ?_
  refine litVal (v := .bool false) rfl (wn rfl) (boolTo (decide_eq_false (show ¬ (k : Int) < 0 by omega)) (lssRun (A := (k : Int)) (B := 0) (.tmp 11) (.const (.int .i64 0)) rfl (litEv (by kernel_rfl)) (litEv (by kernel_rfl)))) rfl (by decide) ?_
  refine lk (v := .bool false) rfl rfl rfl ?_
  refine litVal (v := .int .i64 (k : Int)) rfl (wgY rfl rfl rfl (by decide) (by kernel_rfl)) (litRun (by kernel_rfl)) rfl (by decide) ?_
  refine litVal (v := .slice (some ⟨b, off, none⟩) l.length c) rfl (wgY rfl rfl rfl (by decide) (by kernel_rfl)) (litRun (by kernel_rfl)) rfl (by decide) ?_
  refine litVal (v := .int .i64 (l.length : Int)) rfl (wgY rfl rfl rfl (by decide) (by kernel_rfl)) (lenSlRun (A := some ⟨b, off, none⟩) (n := l.length) (c := c) (.tmp 15) Ty.und_L_api_Tile rfl (litEv (by kernel_rfl))) rfl (by decide) ?_
  refine litVal (v := .bool false) rfl (wgY rfl rfl rfl (by decide) (by kernel_rfl)) (boolTo (decide_eq_false (show ¬ (l.length : Int) ≤ (k : Int) by omega)) (gGeq (A := (k : Int)) (B := (l.length : Int)) (.tmp 14) (.tmp 16) rfl (litEv (by kernel_rfl)) (litEv (by kernel_rfl)))) rfl (by decide) ?_
  refine lk (v := .bool false) rfl rfl rfl ?_
  refine lk (v := .bool false) rfl rfl rfl ?_
  refine litVal (v := .slice (some ⟨b, off, none⟩) l.length c) rfl (wgY rfl rfl rfl (by decide) (by kernel_rfl)) (litRun (by kernel_rfl)) rfl (by decide) ?_
  refine litVal (v := .int .i64 (k : Int)) rfl (wgY rfl rfl rfl (by decide) (by kernel_rfl)) (litRun (by kernel_rfl)) rfl (by decide) ?_
  refine litVal (v := .pointer (some ⟨b, off + k * 4, none⟩)) rfl (wgY rfl rfl rfl (by decide) (by kernel_rfl)) (gIaSl (b := b) (off := off) (n := l.length) (c := c) (kk := .i64) (K := (k : Int)) (.tmp 20) (.tmp 21) k Ty.sl_L_api_Tile rfl (litEv (by kernel_rfl)) (litEv (by kernel_rfl)) (rfl) (by omega)) rfl (by decide) ?_
  refine litVal (v := .pointer (some ⟨b, off + k * 4, none⟩)) rfl (wgY rfl rfl rfl (by decide) (by kernel_rfl)) (litRun (by kernel_rfl)) rfl (by decide) ?_
  refine litVal (v := .int .i64 t.lv) rfl (wgY rfl rfl rfl (by decide) (by kernel_rfl)) (gLoadRd (v := .int .i64 t.lv) (m := k * 4) ((Rd.below hr hm0.bel).more hm0.bel.size) rfl (tlsC_get hk 0 _ rfl) (by omega) (.tmp 23) (by kernel_rfl) rfl (litEv (by kernel_rfl))) rfl (by decide) ?_
  refine litVal (v := .bool false) rfl (wgY rfl rfl rfl (by decide) (by kernel_rfl)) (boolTo (decide_eq_false (show ¬ t.lv = 0 by omega)) (eqlRun (A := t.lv) (B := 0) (.tmp 24) (.const (.int .i64 0)) rfl (litEv (by kernel_rfl)) (litEv (by kernel_rfl)))) rfl (by decide) ?_
  refine lk (v := .bool false) rfl rfl rfl ?_
  refine plD ?_
  refine then_normal (hK3 _ _ ?_)
  refine wpPrune [(0, .slice (some ⟨b, off, none⟩) l.length c), (1, .int .i64 (k : Int)), (4, .slice none 0 0), (5, .int .i64 0), (26, .bool false)] ⟨litGet (by kernel_rfl), ⟨litGet (by kernel_rfl), ⟨litGet (by kernel_rfl), ⟨litGet (by kernel_rfl), ⟨litGet (by kernel_rfl), trivial⟩⟩⟩⟩⟩ (fun X4 => ?_)
  refine wp_cond_false (litEv (by kernel_rfl)) ?_
  refine wp_skip ?_
  refine then_normal (hK2 _ _ ?_)
  refine wp_seq_k fun K5 hK5 => ?_
  refine wp_seq_k fun K6 hK6 => ?_
  refine plStart ?_
  refine lk (v := .slice (some ⟨b, off, none⟩) l.length c) rfl rfl rfl ?_
  refine litVal (v := .int .i64 (l.length : Int)) rfl (wn rfl) (lenSlRun (A := some ⟨b, off, none⟩) (n := l.length) (c := c) (.tmp 27) Ty.und_L_api_Tile rfl (litEv (by kernel_rfl))) rfl (by decide) ?_
  refine litVal (v := .int .i64 ((l.length : Int) + 7)) rfl (wn rfl) (addRun (A := (l.length : Int)) (B := 7) (C := (l.length : Int) + 7) (.tmp 28) (.const (.int .i64 7)) rfl (litEv (by kernel_rfl)) (litEv (by kernel_rfl)) rfl (by omega)) rfl (by decide) ?_
  refine litVal (v := .bool true) rfl (wn rfl) (boolTo (decide_eq_true (show 4096 < ((l.length : Int) + 7) by omega)) (gtrRun (A := ((l.length : Int) + 7)) (B := 4096) (.tmp 29) (.const (.int .i64 4096)) rfl (litEv (by kernel_rfl)) (litEv (by kernel_rfl)))) rfl (by decide) ?_
  refine plD ?_
  refine then_normal (hK6 _ _ ?_)
  refine wp_cond_true (litEv (by kernel_rfl)) ?_
  refine wp_seq_k fun K7 hK7 => ?_
  refine plStart ?_
  refine lk (v := .slice none 0 0) rfl rfl rfl ?_
  refine lk (v := .int .i64 2) rfl rfl rfl ?_
  refine plD ?_
  refine then_normal (hK7 _ _ ?_)
  refine wp_ret ?_
  refine then_ret ?_
  refine bodyPost_ret (v := .tuple #[.slice none 0 0, .int .i64 2]) (gRes2 rfl (gResTmp (t := 4) (v := .slice none 0 0) (litGet (by kernel_rfl))) (gResTmp (t := 5) (v := .int .i64 2) (litGet (by kernel_rfl)))) rfl ?_
  exact ⟨by rfl, hm0.bel⟩
theorem rsplit_any (l : List Tl) (k : Nat) (t : Tl) (A : Option Addr) (c : Nat) (w : World) (hr : Rd w w.heap.size 4 A l.length c (tlsC l)) (hk : l[k]? = some t) (ht : t.Ok) (h1 : 1 ≤ t.lv) (hlen : l.length + 7 ≤ 4096) :
    Calls Try.prog 21 #[.slice A l.length c, .int .i64 (k : Int)] w (fun e w' => ∃ v, e = .returned (.tuple #[v, .int .i64 0]) ∧ w'.ownsRow w.heap.size 38 4 v (splitAt l k).length (tlsC (splitAt l k)) ∧ Below w.heap.size w w') := by
  have hkl : k < l.length := (List.getElem?_eq_some_iff.1 hk).1
  obtain ⟨b, off, rfl, _, _⟩ := hr.cells (by omega)
  exact rsplit_blk l k t b off c w hr hk ht h1 hlen
theorem rsplitNo_any (l : List Tl) (k : Nat) (t : Tl) (A : Option Addr) (c : Nat) (w : World) (hr : Rd w w.heap.size 4 A l.length c (tlsC l)) (hk : l[k]? = some t) (ht : t.Ok) (h1 : 1 ≤ t.lv) (hlen : ¬ l.length + 7 ≤ 4096) (hcap : l.length ≤ 100000) :
    Calls Try.prog 21 #[.slice A l.length c, .int .i64 (k : Int)] w (RetV w (.tuple #[.slice none 0 0, .int .i64 2])) := by
  have hkl : k < l.length := (List.getElem?_eq_some_iff.1 hk).1
  obtain ⟨b, off, rfl, _, _⟩ := hr.cells (by omega)
  exact rsplit_no l k t b off c w hr hk ht h1 hlen hcap
set_option maxRecDepth 100000 in
set_option maxHeartbeats 4000000 in
theorem total_blk (l : List Tl) (c_ : Cst) (b off c : Nat) (w : World) (hr : Rd w w.heap.size 4 (some ⟨b, off, none⟩) l.length c (tlsC l)) (hl : l.length ≤ 100000) (hall : ∀ t ∈ l, t.Ok) : Calls Try.prog 30 #[.slice (some ⟨b, off, none⟩) l.length c, .agg (csc c_).toArray] w (RetV w (.int .i64 (totalP (costP c_) l))) := by
  have hm0 := Mem.nil w
  go_enter Try.func30, Try.ntmps30
  refine litStart 22 [(0, .slice (some ⟨b, off, none⟩) l.length c), (1, .agg (csc c_).toArray)] (by kernel_rfl) (fun X0 => ?_)
  refine wp_seq_k fun K1 hK1 => ?_
  refine plStart ?_
  refine plBox hm0 (cs := csc c_) (i := 0) rfl (wn rfl) rfl (litEv (by kernel_rfl)) ?_
  intro g2 w4 hm3
  clear hm0
  try simp only [List.cons_append, List.nil_append, List.set_cons_succ, List.set_cons_zero] at hm3
  refine qP rfl ?_
  refine lk (v := .int .i64 0) rfl rfl rfl ?_
  refine plD ?_
  refine then_normal (hK1 _ _ ?_)
  refine wp_seq_k fun K5 hK5 => ?_
  refine plStart ?_
  refine lk (v := .int .i64 0) rfl rfl rfl ?_
  refine plD ?_
  refine then_normal (hK5 _ _ ?_)
  refine wp_seq_k fun K6 hK6 => ?_
  refine wp_seq_k fun K7 hK7 => ?_
  refine plStart ?_
  refine lk (v := .int .i64 0) rfl rfl rfl ?_
  refine plD ?_
  refine then_normal (hK7 _ _ ?_)
  refine wp_block ?_
  refine gwLoop (fun n_ a_ w_ => ∃ (j : Nat), n_ = l.length - j ∧ (j ≤ l.length) ∧ Fr a_ 22 [(0, .slice (some ⟨b, off, none⟩) l.length c), (3, .pointer (some ⟨g2, 0, none⟩)), (4, .int .i64 0), (5, .int .i64 (totalP (costP c_) (l.take j))), (6, .int .i64 (j : Int))] ∧ Mem w w_ [.arr g2 27 (csc c_)]) (l.length - 0) ⟨0, rfl, (Nat.zero_le _), ⟨litSize, rfl, ⟨litGet (by kernel_rfl), ⟨litGet (by kernel_rfl), ⟨litGet (by kernel_rfl), ⟨litGet (by kernel_rfl), ⟨litGet (by kernel_rfl), trivial⟩⟩⟩⟩⟩⟩, hm3⟩ ?_
  clear hm3
  intro n_ a10 w8 hI_
  obtain ⟨j, rfl, hjl, hF_, hm9⟩ := hI_
  obtain ⟨X11, rfl⟩ := frLit hF_
  clear hF_
  refine wp_seq_k fun K12 hK12 => ?_
  refine wp_seq_k fun K13 hK13 => ?_
  refine plStart ?_
  refine lk (v := .int .i64 (j : Int)) rfl rfl rfl ?_
  refine lk (v := .slice (some ⟨b, off, none⟩) l.length c) rfl rfl rfl ?_
  refine litVal (v := .int .i64 (l.length : Int)) rfl (wn rfl) (lenSlRun (A := some ⟨b, off, none⟩) (n := l.length) (c := c) (.tmp 8) Ty.und_L_api_Tile rfl (litEv (by kernel_rfl))) rfl (by decide) ?_
  by_cases h14 : (j : Int) < (l.length : Int)
  · obtain ⟨t, hkt⟩ : ∃ t, l[j]? = some t := ⟨_, List.getElem?_eq_getElem (by omega)⟩
    have htok : t.Ok := hall t (List.mem_of_getElem? hkt)
    have hcb_ := costP_bd c_ t htok.lv
    have htb_ := totalP_bd (f := costP c_) (l := l.take j) (fun u hu => by have := costP_bd c_ u (hall u (List.mem_of_mem_take hu)).lv; omega)
    have hjt_ : (l.take j).length ≤ 100000 := by rw [List.length_take]; omega
    refine litVal (v := .bool true) rfl (wn rfl) (boolTo (decide_eq_true h14) (lssRun (A := (j : Int)) (B := (l.length : Int)) (.tmp 7) (.tmp 9) rfl (litEv (by kernel_rfl)) (litEv (by kernel_rfl)))) rfl (by decide) ?_
    refine plD ?_
    refine then_normal (hK13 _ _ ?_)
    refine wp_cond_true (litEv (by kernel_rfl)) ?_
    refine wp_skip ?_
    refine then_normal (hK12 _ _ ?_)
    refine wp_seq_k fun K15 hK15 => ?_
    refine wp_block ?_
    refine mgStart hm9 (by kernel_rfl) ?_
    intro w17 hm16
    clear hm9
    refine mk_ (i := 0) (v := .int .i64 (totalP (costP c_) (l.take j))) rfl rfl (fun _ _ _ h => h) hm16 rfl ?_
    refine mgTake (i := 1) (v := .agg (csc c_).toArray) rfl (by kernel_rfl) (wn rfl) (fun _ _ _ h => h) hm16 (fun w_ h_ => gLoadAg (vs := csc c_) (k := 0) 0 h_ rfl (by kernel_rfl) (by kernel_rfl) (.tmp 3) Ty.ag_voxel_voxelref43_Costs rfl (litEv (by kernel_rfl))) ?_
    refine mP rfl ?_
    refine mk_ (i := 2) (v := .slice (some ⟨b, off, none⟩) l.length c) rfl rfl (fun _ _ _ h => h) hm16 rfl ?_
    refine mk_ (i := 3) (v := .int .i64 (j : Int)) rfl rfl (fun _ _ _ h => h) hm16 rfl ?_
    refine mgTake (i := 4) (v := .pointer (some ⟨b, off + j * 4, none⟩)) rfl (by kernel_rfl) (wn rfl) (fun _ _ _ h => h) hm16 (fun w_ h_ => gIaSl (b := b) (off := off) (n := l.length) (c := c) (kk := .i64) (K := (j : Int)) (.tmp 15) (.tmp 16) j Ty.sl_L_api_Tile rfl (litEv (by kernel_rfl)) (litEv (by kernel_rfl)) (rfl) (by omega)) ?_
    refine mP rfl ?_
    refine mgTake (i := 5) (v := .agg (tlc t).toArray) rfl (by kernel_rfl) (wn rfl) (fun _ _ _ h => h) hm16 (fun w_ h_ => gLoadAgRd (vs := tlc t) (m := j * 4) ((Rd.below hr h_.bel).more h_.bel.size) rfl (fun i_ u_ hu_ => tlsC_get hkt i_ u_ hu_) (by kernel_rfl) (by omega) (.tmp 17) Ty.ag_voxel_api_Tile rfl (litEv (by kernel_rfl))) ?_
    refine mP rfl ?_
    refine mgCall (i := 6) 19 [.agg (csc c_).toArray, .agg (tlc t).toArray] [] [] (by kernel_rfl) rfl (by kernel_rfl) (wn rfl) rfl (litEv (by kernel_rfl)) (litArgs (by kernel_rfl)) (cost_any c_ t htok.lv _) ?_
    rintro e w18 ⟨rfl, hbz⟩
    have hm19 := hm16.below hbz
    clear hbz hm16
    refine ⟨_, rfl, hm19, ?_⟩
    refine mP rfl ?_
    refine mgTake (i := 7) (v := .int .i64 (totalP (costP c_) (l.take (j + 1)))) rfl (by kernel_rfl) (wn rfl) (fun _ _ _ h => h) hm19 (fun w_ h_ => addRun (A := (totalP (costP c_) (l.take j))) (B := (costP c_ t)) (C := totalP (costP c_) (l.take (j + 1))) (.tmp 13) (.tmp 19) rfl (litEv (by kernel_rfl)) (litEv (by kernel_rfl)) (totalP_take hkt).symm (by rw [totalP_take hkt]; omega)) ?_
    refine mP rfl ?_
    refine mk_ (i := 8) (v := .int .i64 (totalP (costP c_) (l.take (j + 1)))) rfl rfl (fun _ _ _ h => h) hm19 rfl ?_
    refine mgDone (by kernel_rfl) ?_
    refine inBlock_normal ?_
    refine then_normal (hK15 _ _ ?_)
    refine plStart ?_
    refine lk (v := .int .i64 (j : Int)) rfl rfl rfl ?_
    refine litVal (v := .int .i64 ((j : Int) + 1)) rfl (wn rfl) (addRun (A := (j : Int)) (B := 1) (C := (j : Int) + 1) (.tmp 11) (.const (.int .i64 1)) rfl (litEv (by kernel_rfl)) (litEv (by kernel_rfl)) rfl (by omega)) rfl (by decide) ?_
    refine lk (v := .int .i64 ((j : Int) + 1)) rfl rfl rfl ?_
    refine plD ?_
    refine then_normal ?_
    exact ⟨_, by omega, (j + 1), rfl, (by omega), ⟨litSize, rfl, ⟨litGet (by kernel_rfl), ⟨litGet (by kernel_rfl), ⟨litGet (by kernel_rfl), ⟨litGet (by kernel_rfl), ⟨litGet (by kernel_rfl), trivial⟩⟩⟩⟩⟩⟩, (hm19.sub (.cons_cons _ .slnil))⟩
  refine litVal (v := .bool false) rfl (wn rfl) (boolTo (decide_eq_false h14) (lssRun (A := (j : Int)) (B := (l.length : Int)) (.tmp 7) (.tmp 9) rfl (litEv (by kernel_rfl)) (litEv (by kernel_rfl)))) rfl (by decide) ?_
  refine plD ?_
  refine then_normal (hK13 _ _ ?_)
  refine wp_cond_false (litEv (by kernel_rfl)) ?_
  refine wp_exit ?_
  refine then_exit ?_
  refine then_exit ?_
  refine inBlock_exit ?_
  refine then_normal (hK6 _ _ ?_)
  refine wp_seq_k fun K20 hK20 => ?_
  refine plStart ?_
  refine lk (v := .int .i64 (totalP (costP c_) (l.take j))) rfl rfl rfl ?_
  refine lk (v := .int .i64 (totalP (costP c_) (l.take j))) rfl rfl rfl ?_
  refine plD ?_
  refine then_normal (hK20 _ _ ?_)
  refine wp_ret ?_
  refine bodyPost_ret (v := .int .i64 (totalP (costP c_) (l.take j))) (gRes1 rfl (gResTmp (t := 4) (v := .int .i64 (totalP (costP c_) (l.take j))) (litGet (by kernel_rfl)))) rfl ?_
  rw [List.take_of_length_le (by omega)]
  exact ⟨rfl, hm9.bel⟩
theorem total_any (l : List Tl) (c_ : Cst) (A : Option Addr) (c : Nat) (w : World) (hr : Rd w w.heap.size 4 A l.length c (tlsC l)) (hne : 0 < l.length) (hl : l.length ≤ 100000) (hall : ∀ t ∈ l, t.Ok) : Calls Try.prog 30 #[.slice A l.length c, .agg (csc c_).toArray] w (RetV w (.int .i64 (totalP (costP c_) l))) := by
  obtain ⟨b, off, rfl, _, _⟩ := hr.cells (by omega)
  exact total_blk l c_ b off c w hr hl hall
set_option maxRecDepth 100000 in
set_option maxHeartbeats 4000000 in
theorem splits_blk (l : List Tl) (k : Nat) (t : Tl) (v : Vw) (c_ : Cst) (b off c : Nat) (w : World) (hr : Rd w w.heap.size 4 (some ⟨b, off, none⟩) l.length c (tlsC l)) (hk : l[k]? = some t) (hv : ckV v = 0) (hl : l.length ≤ 4096) (hall : ∀ t ∈ l, t.Ok) : Calls Try.prog 31 #[.slice (some ⟨b, off, none⟩) l.length c, .int .i64 (k : Int), .agg (vwc v).toArray, .agg (csc c_).toArray] w (RetV w (.bool (decide (splitsP (costP c_) v l k t)))) := by
  have hkl : k < l.length := (List.getElem?_eq_some_iff.1 hk).1
  have ht : t.Ok := hall t (List.mem_of_getElem? hk)
  have hlv_ := ht.lv
  have hm0 := Mem.nil w
  go_enter Try.func31, Try.ntmps31
  refine litStart 44 [(0, .slice (some ⟨b, off, none⟩) l.length c), (1, .int .i64 (k : Int)), (2, .agg (vwc v).toArray), (3, .agg (csc c_).toArray)] (by kernel_rfl) (fun X0 => ?_)
  refine wp_seq_k fun K1 hK1 => ?_
  refine plStart ?_
  refine plBox hm0 (cs := vwc v) (i := 0) rfl (wn rfl) rfl (litEv (by kernel_rfl)) ?_
  intro g2 w4 hm3
  clear hm0
  try simp only [List.cons_append, List.nil_append, List.set_cons_succ, List.set_cons_zero] at hm3
  refine qP rfl ?_
  refine plBox hm3 (cs := csc c_) (i := 1) rfl (wn rfl) rfl (litEv (by kernel_rfl)) ?_
  intro g5 w7 hm6
  clear hm3
  try simp only [List.cons_append, List.nil_append, List.set_cons_succ, List.set_cons_zero] at hm6
  refine qP rfl ?_
  refine lk (v := .bool false) rfl rfl rfl ?_
  refine plD ?_
  refine then_normal (hK1 _ _ ?_)
  refine wp_seq_k fun K8 hK8 => ?_
  refine wp_seq_k fun K9 hK9 => ?_
  refine mgStart hm6 (by kernel_rfl) ?_
  intro w11 hm10
  clear hm6
  refine mk_ (i := 0) (v := .slice (some ⟨b, off, none⟩) l.length c) rfl rfl (fun _ _ _ h => h) hm10 rfl ?_
  refine mk_ (i := 1) (v := .int .i64 (k : Int)) rfl rfl (fun _ _ _ h => h) hm10 rfl ?_
  refine mgTake (i := 2) (v := .pointer (some ⟨b, off + k * 4, none⟩)) rfl (by kernel_rfl) (wn rfl) (fun _ _ _ h => h) hm10 (fun w_ h_ => gIaSl (b := b) (off := off) (n := l.length) (c := c) (kk := .i64) (K := (k : Int)) (.tmp 11) (.tmp 12) k Ty.sl_L_api_Tile rfl (litEv (by kernel_rfl)) (litEv (by kernel_rfl)) (rfl) (by omega)) ?_
  refine mP rfl ?_
  refine mk_ (i := 3) (v := .pointer (some ⟨b, off + k * 4, none⟩)) rfl rfl (fun _ _ _ h => h) hm10 rfl ?_
  refine mgTake (i := 4) (v := .int .i64 t.lv) rfl (by kernel_rfl) (wn rfl) (fun _ _ _ h => h) hm10 (fun w_ h_ => gLoadRd (v := .int .i64 t.lv) (m := k * 4) ((Rd.below hr h_.bel).more h_.bel.size) rfl (tlsC_get hk 0 _ rfl) (by omega) (.tmp 14) (by kernel_rfl) rfl (litEv (by kernel_rfl))) ?_
  refine mP rfl ?_
  by_cases h12 : t.lv = 0
  · refine mgTake (i := 5) (v := .bool true) rfl (by kernel_rfl) (wn rfl) (fun _ _ _ h => h) hm10 (fun w_ h_ => boolTo (decide_eq_true h12) (eqlRun (A := t.lv) (B := 0) (.tmp 15) (.const (.int .i64 0)) rfl (litEv (by kernel_rfl)) (litEv (by kernel_rfl)))) ?_
    refine mP rfl ?_
    refine mk_ (i := 6) (v := .bool true) rfl rfl (fun _ _ _ h => h) hm10 rfl ?_
    refine mgSkip (i := 7) rfl (by kernel_rfl) (wgN rfl rfl rfl (by decide) (by kernel_rfl)) (fun _ _ _ h => h) hm10 ?_
    refine mP rfl ?_
    refine mgSkip (i := 8) rfl (by kernel_rfl) (wgN rfl rfl rfl (by decide) (by kernel_rfl)) (fun _ _ _ h => h) hm10 ?_
    refine mP rfl ?_
    refine mgSkip (i := 9) rfl (by kernel_rfl) (wgN rfl rfl rfl (by decide) (by kernel_rfl)) (fun _ _ _ h => h) hm10 ?_
    refine mP rfl ?_
    refine mgSkip (i := 10) rfl (by kernel_rfl) (wgN rfl rfl rfl (by decide) (by kernel_rfl)) (fun _ _ _ h => h) hm10 ?_
    refine mP rfl ?_
    refine mgSkip (i := 11) rfl (by kernel_rfl) (wgN rfl rfl rfl (by decide) (by kernel_rfl)) (fun _ _ _ h => h) hm10 ?_
    refine mP rfl ?_
    refine mgSkip (i := 12) rfl (by kernel_rfl) (wgN rfl rfl rfl (by decide) (by kernel_rfl)) (fun _ _ _ h => h) hm10 ?_
    refine mP rfl ?_
    refine mgSkip (i := 13) rfl (by kernel_rfl) (wgN rfl rfl rfl (by decide) (by kernel_rfl)) (fun _ _ _ h => h) hm10 ?_
    refine mP rfl ?_
    refine mgSkip (i := 14) rfl (by kernel_rfl) (wgN rfl rfl rfl (by decide) (by kernel_rfl)) (fun _ _ _ h => h) hm10 ?_
    refine mP rfl ?_
    refine mgSkip (i := 15) rfl (by kernel_rfl) (wgN rfl rfl rfl (by decide) (by kernel_rfl)) (fun _ _ _ h => h) hm10 ?_
    refine mP rfl ?_
    refine mk_ (i := 16) (v := .bool true) rfl rfl (fun _ _ _ h => h) hm10 rfl ?_
    refine mgDone (by kernel_rfl) ?_
    refine then_normal (hK9 _ _ ?_)
    refine wpPrune [(0, .slice (some ⟨b, off, none⟩) l.length c), (1, .int .i64 (k : Int)), (6, .pointer (some ⟨g2, 0, none⟩)), (7, .pointer (some ⟨g5, 0, none⟩)), (8, .bool false), (27, .bool true)] ⟨litGet (by kernel_rfl), ⟨litGet (by kernel_rfl), ⟨litGet (by kernel_rfl), ⟨litGet (by kernel_rfl), ⟨litGet (by kernel_rfl), ⟨litGet (by kernel_rfl), trivial⟩⟩⟩⟩⟩⟩ (fun X13 => ?_)
    refine wp_cond_true (litEv (by kernel_rfl)) ?_
    refine wp_seq_k fun K14 hK14 => ?_
    refine plStart ?_
    refine lk (v := .bool false) rfl rfl rfl ?_
    refine plD ?_
    refine then_normal (hK14 _ _ ?_)
    refine wp_ret ?_
    refine then_ret ?_
    refine bodyPost_ret (v := .bool false) (gRes1 rfl (gResTmp (t := 8) (v := .bool false) (litGet (by kernel_rfl)))) rfl ?_
    exact ⟨congrArg (fun b_ => Ending.returned (.bool b_)) (decide_eq_false (fun h_ => by have := h_.1; omega)).symm, hm10.bel⟩
  refine mgTake (i := 5) (v := .bool false) rfl (by kernel_rfl) (wn rfl) (fun _ _ _ h => h) hm10 (fun w_ h_ => boolTo (decide_eq_false h12) (eqlRun (A := t.lv) (B := 0) (.tmp 15) (.const (.int .i64 0)) rfl (litEv (by kernel_rfl)) (litEv (by kernel_rfl)))) ?_
  refine mP rfl ?_
  refine mk_ (i := 6) (v := .bool false) rfl rfl (fun _ _ _ h => h) hm10 rfl ?_
  refine mgTake (i := 7) (v := .agg (vwc v).toArray) rfl (by kernel_rfl) (wgY rfl rfl rfl (by decide) (by kernel_rfl)) (fun _ _ _ h => h) hm10 (fun w_ h_ => gLoadAg (vs := vwc v) (k := 0) 0 h_ rfl (by kernel_rfl) (by kernel_rfl) (.tmp 6) Ty.ag_voxel_api_Viewer rfl (litEv (by kernel_rfl))) ?_
  refine mP rfl ?_
  refine mgTake (i := 8) (v := .slice (some ⟨b, off, none⟩) l.length c) rfl (by kernel_rfl) (wgY rfl rfl rfl (by decide) (by kernel_rfl)) (fun _ _ _ h => h) hm10 (fun w_ h_ => litRun (by kernel_rfl)) ?_
  refine mP rfl ?_
  refine mgTake (i := 9) (v := .int .i64 (k : Int)) rfl (by kernel_rfl) (wgY rfl rfl rfl (by decide) (by kernel_rfl)) (fun _ _ _ h => h) hm10 (fun w_ h_ => litRun (by kernel_rfl)) ?_
  refine mP rfl ?_
  refine mgTake (i := 10) (v := .pointer (some ⟨b, off + k * 4, none⟩)) rfl (by kernel_rfl) (wgY rfl rfl rfl (by decide) (by kernel_rfl)) (fun _ _ _ h => h) hm10 (fun w_ h_ => gIaSl (b := b) (off := off) (n := l.length) (c := c) (kk := .i64) (K := (k : Int)) (.tmp 19) (.tmp 20) k Ty.sl_L_api_Tile rfl (litEv (by kernel_rfl)) (litEv (by kernel_rfl)) (rfl) (by omega)) ?_
  refine mP rfl ?_
  refine mgTake (i := 11) (v := .agg (tlc t).toArray) rfl (by kernel_rfl) (wgY rfl rfl rfl (by decide) (by kernel_rfl)) (fun _ _ _ h => h) hm10 (fun w_ h_ => gLoadAgRd (vs := tlc t) (m := k * 4) ((Rd.below hr h_.bel).more h_.bel.size) rfl (fun i_ u_ hu_ => by have := tlsC_get hk i_ u_ hu_; exact this) (by kernel_rfl) (by omega) (.tmp 21) Ty.ag_voxel_api_Tile rfl (litEv (by kernel_rfl))) ?_
  refine mP rfl ?_
  refine mgTake (i := 13) (v := .pointer (some ⟨g2, 4, none⟩)) rfl (by kernel_rfl) (wgY rfl rfl rfl (by decide) (by kernel_rfl)) (fun _ _ _ h => h) hm10 (fun w_ h_ => litRun (by kernel_rfl)) ?_
  refine mP rfl ?_
  refine mgTake (i := 14) (v := .int .i64 v.tol) rfl (by kernel_rfl) (wgY rfl rfl rfl (by decide) (by kernel_rfl)) (fun _ _ _ h => h) hm10 (fun w_ h_ => gLoad (v := .int .i64 v.tol) (k := 4) 0 h_ rfl (by kernel_rfl) (.tmp 24) (by kernel_rfl) rfl (litEv (by kernel_rfl))) ?_
  refine mP rfl ?_
  refine mgCall (i := 12) 15 [.agg (vwc v).toArray, .agg (tlc t).toArray] [] [] (by kernel_rfl) rfl (by kernel_rfl) (wgY rfl rfl rfl (by decide) (by kernel_rfl)) rfl (litEv (by kernel_rfl)) (litArgs (by kernel_rfl)) (rerr_any v t hv ht _) ?_
  rintro e w15 ⟨rfl, hbz⟩
  have hm16 := hm10.below hbz
  clear hbz hm10
  refine ⟨_, rfl, hm16, ?_⟩
  refine mP rfl ?_
  by_cases h17 : (err v t) ≤ v.tol
  · refine mgTake (i := 15) (v := .bool true) rfl (by kernel_rfl) (wgY rfl rfl rfl (by decide) (by kernel_rfl)) (fun _ _ _ h => h) hm16 (fun w_ h_ => boolTo (decide_eq_true h17) (leqRun (A := (err v t)) (B := v.tol) (.tmp 23) (.tmp 25) rfl (litEv (by kernel_rfl)) (litEv (by kernel_rfl)))) ?_
    refine mP rfl ?_
    refine mk_ (i := 16) (v := .bool true) rfl rfl (fun _ _ _ h => h) hm16 rfl ?_
    refine mgDone (by kernel_rfl) ?_
    refine then_normal (hK9 _ _ ?_)
    refine wpPrune [(0, .slice (some ⟨b, off, none⟩) l.length c), (1, .int .i64 (k : Int)), (6, .pointer (some ⟨g2, 0, none⟩)), (7, .pointer (some ⟨g5, 0, none⟩)), (8, .bool false), (27, .bool true)] ⟨litGet (by kernel_rfl), ⟨litGet (by kernel_rfl), ⟨litGet (by kernel_rfl), ⟨litGet (by kernel_rfl), ⟨litGet (by kernel_rfl), ⟨litGet (by kernel_rfl), trivial⟩⟩⟩⟩⟩⟩ (fun X18 => ?_)
    refine wp_cond_true (litEv (by kernel_rfl)) ?_
    refine wp_seq_k fun K19 hK19 => ?_
    refine plStart ?_
    refine lk (v := .bool false) rfl rfl rfl ?_
    refine plD ?_
    refine then_normal (hK19 _ _ ?_)
    refine wp_ret ?_
    refine then_ret ?_
    refine bodyPost_ret (v := .bool false) (gRes1 rfl (gResTmp (t := 8) (v := .bool false) (litGet (by kernel_rfl)))) rfl ?_
    exact ⟨congrArg (fun b_ => Ending.returned (.bool b_)) (decide_eq_false (fun h_ => by have := h_.2.1; omega)).symm, hm16.bel⟩
  refine mgTake (i := 15) (v := .bool false) rfl (by kernel_rfl) (wgY rfl rfl rfl (by decide) (by kernel_rfl)) (fun _ _ _ h => h) hm16 (fun w_ h_ => boolTo (decide_eq_false h17) (leqRun (A := (err v t)) (B := v.tol) (.tmp 23) (.tmp 25) rfl (litEv (by kernel_rfl)) (litEv (by kernel_rfl)))) ?_
  refine mP rfl ?_
  refine mk_ (i := 16) (v := .bool false) rfl rfl (fun _ _ _ h => h) hm16 rfl ?_
  refine mgDone (by kernel_rfl) ?_
  refine then_normal (hK9 _ _ ?_)
  refine wpPrune [(0, .slice (some ⟨b, off, none⟩) l.length c), (1, .int .i64 (k : Int)), (6, .pointer (some ⟨g2, 0, none⟩)), (7, .pointer (some ⟨g5, 0, none⟩)), (8, .bool false), (27, .bool false)] ⟨litGet (by kernel_rfl), ⟨litGet (by kernel_rfl), ⟨litGet (by kernel_rfl), ⟨litGet (by kernel_rfl), ⟨litGet (by kernel_rfl), ⟨litGet (by kernel_rfl), trivial⟩⟩⟩⟩⟩⟩ (fun X20 => ?_)
  refine wp_cond_false (litEv (by kernel_rfl)) ?_
  refine wp_skip ?_
  refine then_normal (hK8 _ _ ?_)
  refine wp_seq_k fun K21 hK21 => ?_
  refine plStart ?_
  refine lk (v := .slice (some ⟨b, off, none⟩) l.length c) rfl rfl rfl ?_
  refine lk (v := .int .i64 (k : Int)) rfl rfl rfl ?_
  by_cases h22 : l.length + 7 ≤ 4096
  · refine plCall (i := 2) 21 [.slice (some ⟨b, off, none⟩) l.length c, .int .i64 (k : Int)] [] [] rfl (by kernel_rfl) (wn rfl) rfl (litEv (by kernel_rfl)) (litArgs (by kernel_rfl)) (rsplit_any l k t _ _ _ ((Rd.below hr hm16.bel).more hm16.bel.size) hk ht (by omega) h22) ?_
    rintro e w23 ⟨v25, rfl, hown_, hbz⟩
    obtain ⟨A26, c27, rfl, hrd_⟩ := Rd.of_own hown_
    clear hrd_
    replace hown_ : World.ownsRow w23 _ 38 4 _ ((splitAt l k).length) (tlsC (splitAt l k)) := hown_
    have hm24 := hm16.newRow hbz hown_
    clear hown_ hbz
    clear hm16
    try simp only [List.cons_append, List.nil_append, List.set_cons_succ, List.set_cons_zero] at hm24
    refine ⟨_, rfl, ?_⟩
    refine qP rfl ?_
    refine lk (v := .tuple #[.slice A26 ((splitAt l k).length) c27, .int .i64 0]) rfl rfl rfl ?_
    refine lk (v := .slice A26 ((splitAt l k).length) c27) rfl rfl rfl ?_
    refine lk (v := .int .i64 0) rfl rfl rfl ?_
    refine lk (v := .slice A26 ((splitAt l k).length) c27) rfl rfl rfl ?_
    refine lk (v := .int .i64 0) rfl rfl rfl ?_
    refine plD ?_
    refine then_normal (hK21 _ _ ?_)
    refine wp_seq_k fun K28 hK28 => ?_
    refine mgStart hm24 (by kernel_rfl) ?_
    intro w30 hm29
    clear hm24
    refine mk_ (i := 0) (v := .int .i64 0) rfl rfl (fun _ _ _ h => h) hm29 rfl ?_
    refine mk_ (i := 1) (v := .bool true) rfl rfl (fun _ _ _ h => h) hm29 rfl ?_
    refine mk_ (i := 2) (v := .bool true) rfl rfl (fun _ _ _ h => h) hm29 rfl ?_
    refine mgTake (i := 3) (v := .slice A26 ((splitAt l k).length) c27) rfl (by kernel_rfl) (wgY rfl rfl rfl (by decide) (by kernel_rfl)) (fun _ _ _ h => h) hm29 (fun w_ h_ => litRun (by kernel_rfl)) ?_
    refine mP rfl ?_
    refine mgTake (i := 4) (v := .agg (csc c_).toArray) rfl (by kernel_rfl) (wgY rfl rfl rfl (by decide) (by kernel_rfl)) (fun _ _ _ h => h) hm29 (fun w_ h_ => gLoadAg (vs := csc c_) (k := 0) 1 h_ rfl (by kernel_rfl) (by kernel_rfl) (.tmp 7) Ty.ag_voxel_voxelref43_Costs rfl (litEv (by kernel_rfl))) ?_
    refine mP rfl ?_
    refine mgTake (i := 6) (v := .pointer (some ⟨g2, 5, none⟩)) rfl (by kernel_rfl) (wgY rfl rfl rfl (by decide) (by kernel_rfl)) (fun _ _ _ h => h) hm29 (fun w_ h_ => litRun (by kernel_rfl)) ?_
    refine mP rfl ?_
    refine mgTake (i := 7) (v := .int .i64 v.bud) rfl (by kernel_rfl) (wgY rfl rfl rfl (by decide) (by kernel_rfl)) (fun _ _ _ h => h) hm29 (fun w_ h_ => gLoad (v := .int .i64 v.bud) (k := 5) 0 h_ rfl (by kernel_rfl) (.tmp 40) (by kernel_rfl) rfl (litEv (by kernel_rfl))) ?_
    refine mP rfl ?_
    refine mgCall (i := 5) 30 [.slice A26 ((splitAt l k).length) c27, .agg (csc c_).toArray] [] [] (by kernel_rfl) rfl (by kernel_rfl) (wgY rfl rfl rfl (by decide) (by kernel_rfl)) rfl (litEv (by kernel_rfl)) (litArgs (by kernel_rfl)) (total_any (splitAt l k) c_ _ _ _ (hm29.rdRow 2 rfl) (by rw [splitAt_len hk]; omega) (by rw [splitAt_len hk]; omega) (splitAt_ok hall hk (by omega))) ?_
    rintro e w31 ⟨rfl, hbz⟩
    have hm32 := hm29.below hbz
    clear hbz hm29
    refine ⟨_, rfl, hm32, ?_⟩
    refine mP rfl ?_
    by_cases h33 : (totalP (costP c_) (splitAt l k)) ≤ v.bud
    · refine mgTake (i := 8) (v := .bool true) rfl (by kernel_rfl) (wgY rfl rfl rfl (by decide) (by kernel_rfl)) (fun _ _ _ h => h) hm32 (fun w_ h_ => boolTo (decide_eq_true h33) (leqRun (A := (totalP (costP c_) (splitAt l k))) (B := v.bud) (.tmp 39) (.tmp 41) rfl (litEv (by kernel_rfl)) (litEv (by kernel_rfl)))) ?_
      refine mP rfl ?_
      refine mk_ (i := 9) (v := .bool true) rfl rfl (fun _ _ _ h => h) hm32 rfl ?_
      refine mk_ (i := 10) (v := .bool true) rfl rfl (fun _ _ _ h => h) hm32 rfl ?_
      refine mgDone (by kernel_rfl) ?_
      refine then_normal (hK28 _ _ ?_)
      refine wpPrune [(8, .bool true)] ⟨litGet (by kernel_rfl), trivial⟩ (fun X34 => ?_)
      refine wp_ret ?_
      refine bodyPost_ret (v := .bool true) (gRes1 rfl (gResTmp (t := 8) (v := .bool true) (litGet (by kernel_rfl)))) rfl ?_
      exact ⟨congrArg (fun b_ => Ending.returned (.bool b_)) (decide_eq_true ⟨by omega, by omega, h22, h33⟩).symm, hm32.bel⟩
    refine mgTake (i := 8) (v := .bool false) rfl (by kernel_rfl) (wgY rfl rfl rfl (by decide) (by kernel_rfl)) (fun _ _ _ h => h) hm32 (fun w_ h_ => boolTo (decide_eq_false h33) (leqRun (A := (totalP (costP c_) (splitAt l k))) (B := v.bud) (.tmp 39) (.tmp 41) rfl (litEv (by kernel_rfl)) (litEv (by kernel_rfl)))) ?_
    refine mP rfl ?_
    refine mk_ (i := 9) (v := .bool false) rfl rfl (fun _ _ _ h => h) hm32 rfl ?_
    refine mk_ (i := 10) (v := .bool false) rfl rfl (fun _ _ _ h => h) hm32 rfl ?_
    refine mgDone (by kernel_rfl) ?_
    refine then_normal (hK28 _ _ ?_)
    refine wpPrune [(8, .bool false)] ⟨litGet (by kernel_rfl), trivial⟩ (fun X35 => ?_)
    refine wp_ret ?_
    refine bodyPost_ret (v := .bool false) (gRes1 rfl (gResTmp (t := 8) (v := .bool false) (litGet (by kernel_rfl)))) rfl ?_
    exact ⟨congrArg (fun b_ => Ending.returned (.bool b_)) (decide_eq_false (fun h_ => h33 h_.2.2.2)).symm, hm32.bel⟩
  refine plCall (i := 2) 21 [.slice (some ⟨b, off, none⟩) l.length c, .int .i64 (k : Int)] [] [] rfl (by kernel_rfl) (wn rfl) rfl (litEv (by kernel_rfl)) (litArgs (by kernel_rfl)) (rsplitNo_any l k t _ _ _ ((Rd.below hr hm16.bel).more hm16.bel.size) hk ht (by omega) h22 (by omega)) ?_
  rintro e w36 ⟨rfl, hbz⟩
  have hm37 := hm16.below hbz
  clear hbz hm16
  refine ⟨_, rfl, ?_⟩
  refine qP rfl ?_
  refine lk (v := .tuple #[.slice none 0 0, .int .i64 2]) rfl rfl rfl ?_
  refine lk (v := .slice none 0 0) rfl rfl rfl ?_
  refine lk (v := .int .i64 2) rfl rfl rfl ?_
  refine lk (v := .slice none 0 0) rfl rfl rfl ?_
  refine lk (v := .int .i64 2) rfl rfl rfl ?_
  refine plD ?_
  refine then_normal (hK21 _ _ ?_)
  refine wp_seq_k fun K38 hK38 => ?_
  refine mgStart hm37 (by kernel_rfl) ?_
  intro w40 hm39
  clear hm37
  refine mk_ (i := 0) (v := .int .i64 2) rfl rfl (fun _ _ _ h => h) hm39 rfl ?_
  refine mk_ (i := 1) (v := .bool false) rfl rfl (fun _ _ _ h => h) hm39 rfl ?_
  refine mk_ (i := 2) (v := .bool false) rfl rfl (fun _ _ _ h => h) hm39 rfl ?_
  refine mgSkip (i := 3) rfl (by kernel_rfl) (wgN rfl rfl rfl (by decide) (by kernel_rfl)) (fun _ _ _ h => h) hm39 ?_
  refine mP rfl ?_
  refine mgSkip (i := 4) rfl (by kernel_rfl) (wgN rfl rfl rfl (by decide) (by kernel_rfl)) (fun _ _ _ h => h) hm39 ?_
  refine mP rfl ?_
  refine mgSkip (i := 5) rfl (by kernel_rfl) (wgN rfl rfl rfl (by decide) (by kernel_rfl)) (fun _ _ _ h => h) hm39 ?_
  refine mP rfl ?_
  refine mgSkip (i := 6) rfl (by kernel_rfl) (wgN rfl rfl rfl (by decide) (by kernel_rfl)) (fun _ _ _ h => h) hm39 ?_
  refine mP rfl ?_
  refine mgSkip (i := 7) rfl (by kernel_rfl) (wgN rfl rfl rfl (by decide) (by kernel_rfl)) (fun _ _ _ h => h) hm39 ?_
  refine mP rfl ?_
  refine mgSkip (i := 8) rfl (by kernel_rfl) (wgN rfl rfl rfl (by decide) (by kernel_rfl)) (fun _ _ _ h => h) hm39 ?_
  refine mP rfl ?_
  refine mk_ (i := 9) (v := .bool false) rfl rfl (fun _ _ _ h => h) hm39 rfl ?_
  refine mk_ (i := 10) (v := .bool false) rfl rfl (fun _ _ _ h => h) hm39 rfl ?_
  refine mgDone (by kernel_rfl) ?_
  refine then_normal (hK38 _ _ ?_)
  refine wpPrune [(8, .bool false)] ⟨litGet (by kernel_rfl), trivial⟩ (fun X41 => ?_)
  refine wp_ret ?_
  refine bodyPost_ret (v := .bool false) (gRes1 rfl (gResTmp (t := 8) (v := .bool false) (litGet (by kernel_rfl)))) rfl ?_
  exact ⟨congrArg (fun b_ => Ending.returned (.bool b_)) (decide_eq_false (fun h_ => h22 h_.2.2.1)).symm, hm39.bel⟩
theorem splits_any (l : List Tl) (k : Nat) (t : Tl) (v : Vw) (c_ : Cst) (A : Option Addr) (c : Nat) (w : World) (hr : Rd w w.heap.size 4 A l.length c (tlsC l)) (hk : l[k]? = some t) (hv : ckV v = 0) (hl : l.length ≤ 4096) (hall : ∀ t ∈ l, t.Ok) : Calls Try.prog 31 #[.slice A l.length c, .int .i64 (k : Int), .agg (vwc v).toArray, .agg (csc c_).toArray] w (RetV w (.bool (decide (splitsP (costP c_) v l k t)))) := by
  have hkl : k < l.length := (List.getElem?_eq_some_iff.1 hk).1
  obtain ⟨b, off, rfl, _, _⟩ := hr.cells (by omega)
  exact splits_blk l k t v c_ b off c w hr hk hv hl hall
end Go.Proofs.Ytkmhjgdpkddbnaa
