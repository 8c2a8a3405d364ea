/-
  PH: several texts in one. No statement is proved here.
-/
import Derived.Test.YtkmhjgdpkddbnaaPG
import Derived.Test.YtkmhjgdpkddbnaaPD
import Derived.Test.YtkmhjgdpkddbnaaPB
set_option linter.unusedVariables false
set_option linter.unusedSimpArgs false
namespace Go.Proofs.Ytkmhjgdpkddbnaa
open Go.RowKit
open Go.Maps (Keyed)
/-- A map that holds the tiles of a list. -/
def SetI (l : List Tl) (F : Value → Option Value) : Prop := ∀ t : Tl, F (.agg (tlc t).toArray) = if l.contains t then some (.bool true) else none
theorem SetI.none : SetI [] (fun _ => .none) := fun _ => rfl
theorem SetI.up {l : List Tl} {k : Nat} {t : Tl} {F : Value → Option Value} (h : SetI (l.take k) F) (ht : l[k]? = some t) : SetI (l.take (k + 1)) (updF F (.agg (tlc t).toArray) (.bool true)) := by
  intro u
  rw [List.take_add_one, ht]
  by_cases e : u = t
  · subst e
    rw [updF_self, if_pos (by simp)]
  · rw [updF_other (fun e2 => e (tlc_val e2)), h u]
    simp [e]
section
variable {P : Program} {a : Act} {w w0 : World} {o : Oper} {L : List Res} {e t : TypeId} {g n : Nat} {F : Value → Option Value} {l : List Tl}
theorem gLookB {m x : Operand} {u : Tl} {b : Bool} (j : Nat) (hm : Mem w0 w L) (hj : L[j]? = some (mapR P TileT e g n F)) (K : Keyed P TileT) (ht : P.underlying t = some (.map TileT e)) (hz : ∀ w : World, (zeroValue e).run P w = .ok (.bool false) w) (hk : (keyOf P TileT (.agg (tlc u).toArray)).isSome = true) (hF : SetI l F) (hb : l.contains u = b)
    (ho : o.op = .lookup t m x false) (hmv : a.eval m = .map (some g)) (hx : a.eval x = .agg (tlc u).toArray) : (execOp a.eval o).run P w = .ok (.value (.bool b)) w := by
  have h := gLook j false hm hj K ht hz hk ho hmv hx
  rw [hF u, hb] at h
  cases b <;> exact h
end
theorem added_next {l m : List Tl} {k : Nat} {u : Tl} (h : m[k]? = some u) : added l (m.take (k + 1)) = if l.contains u then added l (m.take k) else added l (m.take k) ++ [u] := by
  unfold added
  rw [List.take_add_one, h, List.filter_append]
  cases hc : l.contains u <;> simp only [Option.toList_some, List.filter_cons, hc, List.filter_nil] <;> simp
theorem pln_eq {r q : Pln} (h1 : r.tiles = q.tiles) (h2 : r.cost = q.cost) (h3 : r.bound = q.bound) (h4 : r.worst = q.worst) : r = q := by
  cases r; cases q; simp_all
end Go.Proofs.Ytkmhjgdpkddbnaa
namespace Go.Proofs.Ytkmhjgdpkddbnaa
open Go.RowKit
set_option linter.unusedVariables false
set_option linter.unusedSimpArgs false
set_option maxRecDepth 100000 in
set_option maxHeartbeats 4000000 in
theorem sameT_any (l m : List Tl) (A B : Option Addr) (c d : Nat) (w : World) (hA : Rd w w.heap.size 4 A l.length c (tlsC l)) (hB : Rd w w.heap.size 4 B m.length d (tlsC m)) : Calls Try.prog 16 #[.slice A l.length c, .slice B m.length d] w (RetV w (.bool (decide (l = m)))) := by
 have hcap := hA.cap
 have hle := hA.le
 unfold maxLen at hcap
 have hm0 := Mem.nil w
 go_enter Try.func16, Try.ntmps16
 refine litStart 26 [(0, .slice A l.length c), (1, .slice B m.length d)] (by kernel_rfl) (fun X0 => ?_)
 refine wp_seq_k fun K1 hK1 => ?_
 refine plStart ?_
 refine lk (v := .bool false) rfl rfl rfl ?_
 refine plD ?_
 refine then_normal (hK1 _ _ ?_)
 refine wp_seq_k fun K2 hK2 => ?_
 refine wp_seq_k fun K3 hK3 => ?_
 refine plStart ?_
 refine lk (v := .slice A l.length c) rfl rfl rfl ?_
 refine litVal (v := .int .i64 (l.length : Int)) rfl (wn rfl) (lenSlRun (A := A) (n := l.length) (c := c) (.tmp 6) Ty.und_L_api_Tile rfl (litEv (by kernel_rfl))) rfl (by decide) ?_
 refine lk (v := .slice B m.length d) rfl rfl rfl ?_
 refine litVal (v := .int .i64 (m.length : Int)) rfl (wn rfl) (lenSlRun (A := B) (n := m.length) (c := d) (.tmp 8) Ty.und_L_api_Tile rfl (litEv (by kernel_rfl))) rfl (by decide) ?_
 by_cases h4 : (l.length : Int) = (m.length : Int)
 · refine litVal (v := .bool false) rfl (wn rfl) (boolTo (by rw [decide_eq_true h4]; rfl) (neqRun (A := (l.length : Int)) (B := (m.length : Int)) (.tmp 7) (.tmp 9) rfl (litEv (by kernel_rfl)) (litEv (by kernel_rfl)))) rfl (by decide) ?_
   refine plD ?_
   refine then_normal (hK3 _ _ ?_)
   refine wp_cond_false (litEv (by kernel_rfl)) ?_
   refine wp_skip ?_
   refine then_normal (hK2 _ _ ?_)
   refine wp_seq_k fun K5 hK5 => ?_
   refine wp_seq_k fun K6 hK6 => ?_
   refine plStart ?_
   refine lk (v := .int .i64 0) rfl rfl rfl ?_
   refine plD ?_
   refine then_normal (hK6 _ _ ?_)
   refine wp_block ?_
   refine gwLoop (fun n_ a_ w_ => ∃ (k : Nat), n_ = l.length - k ∧ (k ≤ l.length) ∧ (l.take k = m.take k) ∧ Fr a_ 26 [(0, .slice A l.length c), (1, .slice B m.length d), (5, .int .i64 (k : Int))] ∧ Mem w w_ []) (l.length - 0) ⟨0, rfl, (Nat.zero_le _), rfl, ⟨litSize, rfl, ⟨litGet (by kernel_rfl), ⟨litGet (by kernel_rfl), ⟨litGet (by kernel_rfl), trivial⟩⟩⟩⟩, hm0⟩ ?_
   clear hm0
   intro n_ a9 w7 hI_
   obtain ⟨k, rfl, hk_, hk2_, hF_, hm8⟩ := hI_
   obtain ⟨X10, rfl⟩ := frLit hF_
   clear hF_
   refine wp_seq_k fun K11 hK11 => ?_
   refine wp_seq_k fun K12 hK12 => ?_
   refine plStart ?_
   refine lk (v := .int .i64 (k : Int)) rfl rfl rfl ?_
   refine lk (v := .slice A l.length c) rfl rfl rfl ?_
   refine litVal (v := .int .i64 (l.length : Int)) rfl (wn rfl) (lenSlRun (A := A) (n := l.length) (c := c) (.tmp 12) Ty.und_L_api_Tile rfl (litEv (by kernel_rfl))) rfl (by decide) ?_
   by_cases h13 : (k : Int) < (l.length : Int)
   · have hkl_ : k < l.length := by omega
     have hkm_ : k < m.length := by omega
     obtain ⟨t, ht⟩ : ∃ t, l[k]? = some t := ⟨_, List.getElem?_eq_getElem hkl_⟩
     obtain ⟨u, hu⟩ : ∃ u, m[k]? = some u := ⟨_, List.getElem?_eq_getElem hkm_⟩
     obtain ⟨b1_, off1_, rfl, _, _⟩ := hA.cells (by omega)
     obtain ⟨b2_, off2_, rfl, _, _⟩ := hB.cells (by omega)
     refine litVal (v := .bool true) rfl (wn rfl) (boolTo (decide_eq_true h13) (lssRun (A := (k : Int)) (B := (l.length : Int)) (.tmp 11) (.tmp 13) rfl (litEv (by kernel_rfl)) (litEv (by kernel_rfl)))) rfl (by decide) ?_
     refine plD ?_
     refine then_normal (hK12 _ _ ?_)
     refine wp_cond_true (litEv (by kernel_rfl)) ?_
     refine wp_skip ?_
     refine then_normal (hK11 _ _ ?_)
     refine wp_seq_k fun K14 hK14 => ?_
     refine wp_block ?_
     refine wp_seq_k fun K15 hK15 => ?_
     refine mgStart hm8 (by kernel_rfl) ?_
     intro w17 hm16
     clear hm8
     refine mk_ (i := 0) (v := .slice (some ⟨b1_, off1_, none⟩) l.length c) rfl rfl (fun _ _ _ h => h) hm16 rfl ?_
     refine mk_ (i := 1) (v := .int .i64 (k : Int)) rfl rfl (fun _ _ _ h => h) hm16 rfl ?_
     refine mgTake (i := 2) (v := .pointer (some ⟨b1_, off1_ + k * 4, none⟩)) rfl (by kernel_rfl) (wn rfl) (fun _ _ _ h => h) hm16 (fun w_ h_ => gIaSl (b := b1_) (off := off1_) (n := l.length) (c := c) (kk := .i64) (K := (k : Int)) (.tmp 17) (.tmp 18) k Ty.sl_L_api_Tile rfl (litEv (by kernel_rfl)) (litEv (by kernel_rfl)) (rfl) (hkl_)) ?_
     refine mP rfl ?_
     refine mgTake (i := 3) (v := .agg (tlc t).toArray) rfl (by kernel_rfl) (wn rfl) (fun _ _ _ h => h) hm16 (fun w_ h_ => gLoadAgRd (vs := tlc t) (m := k * 4) ((Rd.below hA h_.bel).more h_.bel.size) rfl (fun i_ u_ hu_ => tlsC_get ht i_ u_ hu_) (by kernel_rfl) (by omega) (.tmp 19) Ty.ag_voxel_api_Tile rfl (litEv (by kernel_rfl))) ?_
     refine mP rfl ?_
     refine mk_ (i := 4) (v := .slice (some ⟨b2_, off2_, none⟩) m.length d) rfl rfl (fun _ _ _ h => h) hm16 rfl ?_
     refine mk_ (i := 5) (v := .int .i64 (k : Int)) rfl rfl (fun _ _ _ h => h) hm16 rfl ?_
     refine mgTake (i := 6) (v := .pointer (some ⟨b2_, off2_ + k * 4, none⟩)) rfl (by kernel_rfl) (wn rfl) (fun _ _ _ h => h) hm16 (fun w_ h_ => gIaSl (b := b2_) (off := off2_) (n := m.length) (c := d) (kk := .i64) (K := (k : Int)) (.tmp 21) (.tmp 22) k Ty.sl_L_api_Tile rfl (litEv (by kernel_rfl)) (litEv (by kernel_rfl)) (rfl) (hkm_)) ?_
     refine mP rfl ?_
     refine mgTake (i := 7) (v := .agg (tlc u).toArray) rfl (by kernel_rfl) (wn rfl) (fun _ _ _ h => h) hm16 (fun w_ h_ => gLoadAgRd (vs := tlc u) (m := k * 4) ((Rd.below hB h_.bel).more h_.bel.size) rfl (fun i_ u_ hu_ => tlsC_get hu i_ u_ hu_) (by kernel_rfl) (by omega) (.tmp 23) Ty.ag_voxel_api_Tile rfl (litEv (by kernel_rfl))) ?_
     refine mP rfl ?_
     by_cases h18 : t = u
     · refine mgTake (i := 8) (v := .bool false) rfl (by kernel_rfl) (wn rfl) (fun _ _ _ h => h) hm16 (fun w_ h_ => boolTo (by rw [decide_eq_true h18]; rfl) (neqTlRun (.tmp 20) (.tmp 24) t u (by kernel_rfl) (by kernel_rfl) (by kernel_rfl) (by kernel_rfl) rfl (litEv (by kernel_rfl)) (litEv (by kernel_rfl)))) ?_
       refine mP rfl ?_
       refine mgDone (by kernel_rfl) ?_
       refine then_normal (hK15 _ _ ?_)
       refine wp_cond_false (litEv (by kernel_rfl)) ?_
       refine wp_skip ?_
       refine inBlock_normal ?_
       refine then_normal (hK14 _ _ ?_)
       refine plStart ?_
       refine lk (v := .int .i64 (k : Int)) rfl rfl rfl ?_
       refine litVal (v := .int .i64 ((k : Int) + 1)) rfl (wn rfl) (addRun (A := (k : Int)) (B := 1) (C := (k : Int) + 1) (.tmp 15) (.const (.int .i64 1)) rfl (litEv (by kernel_rfl)) (litEv (by kernel_rfl)) rfl (by omega)) rfl (by decide) ?_
       refine lk (v := .int .i64 ((k : Int) + 1)) rfl rfl rfl ?_
       refine plD ?_
       refine then_normal ?_
       exact ⟨_, by omega, (k + 1), rfl, (by omega), (by rw [List.take_add_one, List.take_add_one, hk2_, ht, hu, h18]), ⟨litSize, rfl, ⟨litGet (by kernel_rfl), ⟨litGet (by kernel_rfl), ⟨litGet (by kernel_rfl), trivial⟩⟩⟩⟩, (hm16.sub (List.nil_sublist _))⟩
     refine mgTake (i := 8) (v := .bool true) rfl (by kernel_rfl) (wn rfl) (fun _ _ _ h => h) hm16 (fun w_ h_ => boolTo (by rw [decide_eq_false h18]; rfl) (neqTlRun (.tmp 20) (.tmp 24) t u (by kernel_rfl) (by kernel_rfl) (by kernel_rfl) (by kernel_rfl) rfl (litEv (by kernel_rfl)) (litEv (by kernel_rfl)))) ?_
     refine mP rfl ?_
     refine mgDone (by kernel_rfl) ?_
     refine then_normal (hK15 _ _ ?_)
     refine wp_cond_true (litEv (by kernel_rfl)) ?_
     refine wp_seq_k fun K19 hK19 => ?_
     refine plStart ?_
     refine lk (v := .bool false) rfl rfl rfl ?_
     refine plD ?_
     refine then_normal (hK19 _ _ ?_)
     refine wp_ret ?_
     refine inBlock_ret ?_
     refine then_ret ?_
     refine then_ret ?_
     refine inBlock_ret ?_
     refine then_ret ?_
     refine bodyPost_ret (v := .bool false) (gRes1 rfl (gResTmp (t := 4) (v := .bool false) (litGet (by kernel_rfl)))) rfl ?_
     exact ⟨congrArg (fun b_ => Ending.returned (.bool b_)) (decide_eq_false (fun e_ => h18 (by subst e_; exact Option.some.inj (ht.symm.trans hu)))).symm, hm16.bel⟩
   refine litVal (v := .bool false) rfl (wn rfl) (boolTo (decide_eq_false h13) (lssRun (A := (k : Int)) (B := (l.length : Int)) (.tmp 11) (.tmp 13) rfl (litEv (by kernel_rfl)) (litEv (by kernel_rfl)))) rfl (by decide) ?_
   refine plD ?_
   refine then_normal (hK12 _ _ ?_)
   refine wp_cond_false (litEv (by kernel_rfl)) ?_
   refine wp_exit ?_
   refine then_exit ?_
   refine then_exit ?_
   refine inBlock_exit ?_
   refine then_normal (hK5 _ _ ?_)
   refine wp_seq_k fun K20 hK20 => ?_
   refine plStart ?_
   refine lk (v := .bool true) rfl rfl rfl ?_
   refine plD ?_
   refine then_normal (hK20 _ _ ?_)
   refine wp_ret ?_
   refine bodyPost_ret (v := .bool true) (gRes1 rfl (gResTmp (t := 4) (v := .bool true) (litGet (by kernel_rfl)))) rfl ?_
   exact ⟨congrArg (fun b_ => Ending.returned (.bool b_)) (decide_eq_true (by rw [List.take_of_length_le (by omega), List.take_of_length_le (by omega)] at hk2_; exact hk2_)).symm, hm8.bel⟩
 refine litVal (v := .bool true) rfl (wn rfl) (boolTo (by rw [decide_eq_false h4]; rfl) (neqRun (A := (l.length : Int)) (B := (m.length : Int)) (.tmp 7) (.tmp 9) rfl (litEv (by kernel_rfl)) (litEv (by kernel_rfl)))) rfl (by decide) ?_
 refine plD ?_
 refine then_normal (hK3 _ _ ?_)
 refine wp_cond_true (litEv (by kernel_rfl)) ?_
 refine wp_seq_k fun K21 hK21 => ?_
 refine plStart ?_
 refine lk (v := .bool false) rfl rfl rfl ?_
 refine plD ?_
 refine then_normal (hK21 _ _ ?_)
 refine wp_ret ?_
 refine then_ret ?_
 refine bodyPost_ret (v := .bool false) (gRes1 rfl (gResTmp (t := 4) (v := .bool false) (litGet (by kernel_rfl)))) rfl ?_
 exact ⟨congrArg (fun b_ => Ending.returned (.bool b_)) (decide_eq_false (fun e_ => h4 (by rw [e_]))).symm, hm0.bel⟩
set_option maxRecDepth 100000 in
set_option maxHeartbeats 4000000 in
theorem same_any (r q : Pln) (A B : Option Addr) (c d : Nat) (w : World) (hA : Rd w w.heap.size 4 A r.tiles.length c (tlsC r.tiles)) (hB : Rd w w.heap.size 4 B q.tiles.length d (tlsC q.tiles)) : Calls Try.prog 11 #[.agg (plnC (.slice A r.tiles.length c) r).toArray, .agg (plnC (.slice B q.tiles.length d) q).toArray] w (RetV w (.bool (decide (r = q)))) := by
 have hm0 := Mem.nil w
 go_enter Try.func11, Try.ntmps11
 refine litStart 33 [(0, .agg (plnC (.slice A r.tiles.length c) r).toArray), (1, .agg (plnC (.slice B q.tiles.length d) q).toArray)] (by kernel_rfl) (fun X0 => ?_)
 refine wp_seq_k fun K1 hK1 => ?_
 refine plStart ?_
 refine plBox hm0 (cs := plnC (.slice A r.tiles.length c) r) (i := 0) rfl (wn rfl) rfl (litEv (by kernel_rfl)) ?_
 intro g2 w4 hm3
 clear hm0
 try simp only [List.cons_append, List.nil_append, List.set_cons_succ, List.set_cons_zero] at hm3
 refine qP rfl ?_
 refine plBox hm3 (cs := plnC (.slice B q.tiles.length d) q) (i := 1) rfl (wn rfl) rfl (litEv (by kernel_rfl)) ?_
 intro g5 w7 hm6
 clear hm3
 try simp only [List.cons_append, List.nil_append, List.set_cons_succ, List.set_cons_zero] at hm6
 refine qP rfl ?_
 refine lk (v := .bool false) rfl rfl rfl ?_
 refine plD ?_
 refine then_normal (hK1 _ _ ?_)
 refine wp_seq_k fun K8 hK8 => ?_
 refine plStart ?_
 refine lk (v := .pointer (some ⟨g2, 0, none⟩)) rfl rfl rfl ?_
 refine litVal (v := .slice A r.tiles.length c) rfl (wn rfl) (gLoad (v := .slice A r.tiles.length c) (k := 0) 0 hm6 rfl (by kernel_rfl) (.tmp 6) (by kernel_rfl) rfl (litEv (by kernel_rfl))) rfl (by decide) ?_
 refine lk (v := .pointer (some ⟨g5, 0, none⟩)) rfl rfl rfl ?_
 refine litVal (v := .slice B q.tiles.length d) rfl (wn rfl) (gLoad (v := .slice B q.tiles.length d) (k := 0) 1 hm6 rfl (by kernel_rfl) (.tmp 8) (by kernel_rfl) rfl (litEv (by kernel_rfl))) rfl (by decide) ?_
 refine plCall (i := 4) 16 [.slice A r.tiles.length c, .slice B q.tiles.length d] [] [] rfl (by kernel_rfl) (wn rfl) rfl (litEv (by kernel_rfl)) (litArgs (by kernel_rfl)) (sameT_any r.tiles q.tiles (A) (B) c d _ ((Rd.below hA hm6.bel).more hm6.bel.size) ((Rd.below hB hm6.bel).more hm6.bel.size)) ?_
 rintro e w9 ⟨rfl, hbz⟩
 have hm10 := hm6.below hbz
 clear hbz hm6
 refine ⟨_, rfl, ?_⟩
 refine qP rfl ?_
 rcases bool_or (decide (r.tiles = q.tiles)) with h11 | h11
 · rw [h11]
   refine lk (v := .bool false) rfl rfl rfl ?_
   refine plD ?_
   refine then_normal (hK8 _ _ ?_)
   refine wp_seq_k fun K12 hK12 => ?_
   refine plStart ?_
   refine lk (v := .bool false) rfl rfl rfl ?_
   refine lk (v := .bool false) rfl rfl rfl ?_
   refine plSkip (i := 2) rfl (wgN rfl rfl rfl (by decide) (by kernel_rfl)) ?_
   refine qP rfl ?_
   refine plSkip (i := 3) rfl (wgN rfl rfl rfl (by decide) (by kernel_rfl)) ?_
   refine qP rfl ?_
   refine plSkip (i := 4) rfl (wgN rfl rfl rfl (by decide) (by kernel_rfl)) ?_
   refine qP rfl ?_
   refine plSkip (i := 5) rfl (wgN rfl rfl rfl (by decide) (by kernel_rfl)) ?_
   refine qP rfl ?_
   refine plSkip (i := 6) rfl (wgN rfl rfl rfl (by decide) (by kernel_rfl)) ?_
   refine qP rfl ?_
   refine lk (v := .bool false) rfl rfl rfl ?_
   refine lk (v := .bool false) rfl rfl rfl ?_
   refine plSkip (i := 9) rfl (wgN rfl rfl rfl (by decide) (by kernel_rfl)) ?_
   refine qP rfl ?_
   refine plSkip (i := 10) rfl (wgN rfl rfl rfl (by decide) (by kernel_rfl)) ?_
   refine qP rfl ?_
   refine plSkip (i := 11) rfl (wgN rfl rfl rfl (by decide) (by kernel_rfl)) ?_
   refine qP rfl ?_
   refine plSkip (i := 12) rfl (wgN rfl rfl rfl (by decide) (by kernel_rfl)) ?_
   refine qP rfl ?_
   refine plSkip (i := 13) rfl (wgN rfl rfl rfl (by decide) (by kernel_rfl)) ?_
   refine qP rfl ?_
   refine lk (v := .bool false) rfl rfl rfl ?_
   refine lk (v := .bool false) rfl rfl rfl ?_
   refine plSkip (i := 16) rfl (wgN rfl rfl rfl (by decide) (by kernel_rfl)) ?_
   refine qP rfl ?_
   refine plSkip (i := 17) rfl (wgN rfl rfl rfl (by decide) (by kernel_rfl)) ?_
   refine qP rfl ?_
   refine plSkip (i := 18) rfl (wgN rfl rfl rfl (by decide) (by kernel_rfl)) ?_
   refine qP rfl ?_
   refine plSkip (i := 19) rfl (wgN rfl rfl rfl (by decide) (by kernel_rfl)) ?_
   refine qP rfl ?_
   refine plSkip (i := 20) rfl (wgN rfl rfl rfl (by decide) (by kernel_rfl)) ?_
   refine qP rfl ?_
   refine lk (v := .bool false) rfl rfl rfl ?_
   refine lk (v := .bool false) rfl rfl rfl ?_
   refine plD ?_
   refine then_normal (hK12 _ _ ?_)
   refine wpPrune [(4, .bool false)] ⟨litGet (by kernel_rfl), trivial⟩ (fun X13 => ?_)
   refine wp_ret ?_
   refine bodyPost_ret (v := .bool false) (gRes1 rfl (gResTmp (t := 4) (v := .bool false) (litGet (by kernel_rfl)))) rfl ?_
   exact ⟨congrArg (fun b_ => Ending.returned (.bool b_)) (decide_eq_false (fun e_ => (of_decide_eq_false h11) (by rw [e_]))).symm, hm10.bel⟩
 rw [h11]
 refine lk (v := .bool true) rfl rfl rfl ?_
 refine plD ?_
 refine then_normal (hK8 _ _ ?_)
 refine wp_seq_k fun K14 hK14 => ?_
 refine plStart ?_
 refine lk (v := .bool true) rfl rfl rfl ?_
 refine lk (v := .bool true) rfl rfl rfl ?_
 refine litVal (v := .pointer (some ⟨g2, 1, none⟩)) rfl (wgY rfl rfl rfl (by decide) (by kernel_rfl)) (litRun (by kernel_rfl)) rfl (by decide) ?_
 refine litVal (v := .int .i64 r.cost) rfl (wgY rfl rfl rfl (by decide) (by kernel_rfl)) (gLoad (v := .int .i64 r.cost) (k := 1) 0 hm10 rfl (by kernel_rfl) (.tmp 13) (by kernel_rfl) rfl (litEv (by kernel_rfl))) rfl (by decide) ?_
 refine litVal (v := .pointer (some ⟨g5, 1, none⟩)) rfl (wgY rfl rfl rfl (by decide) (by kernel_rfl)) (litRun (by kernel_rfl)) rfl (by decide) ?_
 refine litVal (v := .int .i64 q.cost) rfl (wgY rfl rfl rfl (by decide) (by kernel_rfl)) (gLoad (v := .int .i64 q.cost) (k := 1) 1 hm10 rfl (by kernel_rfl) (.tmp 15) (by kernel_rfl) rfl (litEv (by kernel_rfl))) rfl (by decide) ?_
 by_cases h15 : r.cost = q.cost
 · refine litVal (v := .bool true) rfl (wgY rfl rfl rfl (by decide) (by kernel_rfl)) (boolTo (decide_eq_true h15) (eqlRun (A := r.cost) (B := q.cost) (.tmp 14) (.tmp 16) rfl (litEv (by kernel_rfl)) (litEv (by kernel_rfl)))) rfl (by decide) ?_
   refine lk (v := .bool true) rfl rfl rfl ?_
   refine lk (v := .bool true) rfl rfl rfl ?_
   refine litVal (v := .pointer (some ⟨g2, 2, none⟩)) rfl (wgY rfl rfl rfl (by decide) (by kernel_rfl)) (litRun (by kernel_rfl)) rfl (by decide) ?_
   refine litVal (v := .int .i64 r.bound) rfl (wgY rfl rfl rfl (by decide) (by kernel_rfl)) (gLoad (v := .int .i64 r.bound) (k := 2) 0 hm10 rfl (by kernel_rfl) (.tmp 20) (by kernel_rfl) rfl (litEv (by kernel_rfl))) rfl (by decide) ?_
   refine litVal (v := .pointer (some ⟨g5, 2, none⟩)) rfl (wgY rfl rfl rfl (by decide) (by kernel_rfl)) (litRun (by kernel_rfl)) rfl (by decide) ?_
   refine litVal (v := .int .i64 q.bound) rfl (wgY rfl rfl rfl (by decide) (by kernel_rfl)) (gLoad (v := .int .i64 q.bound) (k := 2) 1 hm10 rfl (by kernel_rfl) (.tmp 22) (by kernel_rfl) rfl (litEv (by kernel_rfl))) rfl (by decide) ?_
   by_cases h16 : r.bound = q.bound
   · refine litVal (v := .bool true) rfl (wgY rfl rfl rfl (by decide) (by kernel_rfl)) (boolTo (decide_eq_true h16) (eqlRun (A := r.bound) (B := q.bound) (.tmp 21) (.tmp 23) rfl (litEv (by kernel_rfl)) (litEv (by kernel_rfl)))) rfl (by decide) ?_
     refine lk (v := .bool true) rfl rfl rfl ?_
     refine lk (v := .bool true) rfl rfl rfl ?_
     refine litVal (v := .pointer (some ⟨g2, 3, none⟩)) rfl (wgY rfl rfl rfl (by decide) (by kernel_rfl)) (litRun (by kernel_rfl)) rfl (by decide) ?_
     refine litVal (v := .int .i64 r.worst) rfl (wgY rfl rfl rfl (by decide) (by kernel_rfl)) (gLoad (v := .int .i64 r.worst) (k := 3) 0 hm10 rfl (by kernel_rfl) (.tmp 27) (by kernel_rfl) rfl (litEv (by kernel_rfl))) rfl (by decide) ?_
     refine litVal (v := .pointer (some ⟨g5, 3, none⟩)) rfl (wgY rfl rfl rfl (by decide) (by kernel_rfl)) (litRun (by kernel_rfl)) rfl (by decide) ?_
     refine litVal (v := .int .i64 q.worst) rfl (wgY rfl rfl rfl (by decide) (by kernel_rfl)) (gLoad (v := .int .i64 q.worst) (k := 3) 1 hm10 rfl (by kernel_rfl) (.tmp 29) (by kernel_rfl) rfl (litEv (by kernel_rfl))) rfl (by decide) ?_
     by_cases h17 : r.worst = q.worst
     · refine litVal (v := .bool true) rfl (wgY rfl rfl rfl (by decide) (by kernel_rfl)) (boolTo (decide_eq_true h17) (eqlRun (A := r.worst) (B := q.worst) (.tmp 28) (.tmp 30) rfl (litEv (by kernel_rfl)) (litEv (by kernel_rfl)))) rfl (by decide) ?_
       refine lk (v := .bool true) rfl rfl rfl ?_
       refine lk (v := .bool true) rfl rfl rfl ?_
       refine plD ?_
       refine then_normal (hK14 _ _ ?_)
       refine wpPrune [(4, .bool true)] ⟨litGet (by kernel_rfl), trivial⟩ (fun X18 => ?_)
       refine wp_ret ?_
       refine bodyPost_ret (v := .bool true) (gRes1 rfl (gResTmp (t := 4) (v := .bool true) (litGet (by kernel_rfl)))) rfl ?_
       exact ⟨congrArg (fun b_ => Ending.returned (.bool b_)) (decide_eq_true (pln_eq (of_decide_eq_true h11) h15 h16 h17)).symm, hm10.bel⟩
     refine litVal (v := .bool false) rfl (wgY rfl rfl rfl (by decide) (by kernel_rfl)) (boolTo (decide_eq_false h17) (eqlRun (A := r.worst) (B := q.worst) (.tmp 28) (.tmp 30) rfl (litEv (by kernel_rfl)) (litEv (by kernel_rfl)))) rfl (by decide) ?_
     refine lk (v := .bool false) rfl rfl rfl ?_
     refine lk (v := .bool false) rfl rfl rfl ?_
     refine plD ?_
     refine then_normal (hK14 _ _ ?_)
     refine wpPrune [(4, .bool false)] ⟨litGet (by kernel_rfl), trivial⟩ (fun X19 => ?_)
     refine wp_ret ?_
     refine bodyPost_ret (v := .bool false) (gRes1 rfl (gResTmp (t := 4) (v := .bool false) (litGet (by kernel_rfl)))) rfl ?_
     exact ⟨congrArg (fun b_ => Ending.returned (.bool b_)) (decide_eq_false (fun e_ => (h17) (by rw [e_]))).symm, hm10.bel⟩
   refine litVal (v := .bool false) rfl (wgY rfl rfl rfl (by decide) (by kernel_rfl)) (boolTo (decide_eq_false h16) (eqlRun (A := r.bound) (B := q.bound) (.tmp 21) (.tmp 23) rfl (litEv (by kernel_rfl)) (litEv (by kernel_rfl)))) rfl (by decide) ?_
   refine lk (v := .bool false) rfl rfl rfl ?_
   refine lk (v := .bool false) rfl rfl rfl ?_
   refine plSkip (i := 16) rfl (wgN rfl rfl rfl (by decide) (by kernel_rfl)) ?_
   refine qP rfl ?_
   refine plSkip (i := 17) rfl (wgN rfl rfl rfl (by decide) (by kernel_rfl)) ?_
   refine qP rfl ?_
   refine plSkip (i := 18) rfl (wgN rfl rfl rfl (by decide) (by kernel_rfl)) ?_
   refine qP rfl ?_
   refine plSkip (i := 19) rfl (wgN rfl rfl rfl (by decide) (by kernel_rfl)) ?_
   refine qP rfl ?_
   refine plSkip (i := 20) rfl (wgN rfl rfl rfl (by decide) (by kernel_rfl)) ?_
   refine qP rfl ?_
   refine lk (v := .bool false) rfl rfl rfl ?_
   refine lk (v := .bool false) rfl rfl rfl ?_
   refine plD ?_
   refine then_normal (hK14 _ _ ?_)
   refine wpPrune [(4, .bool false)] ⟨litGet (by kernel_rfl), trivial⟩ (fun X20 => ?_)
   refine wp_ret ?_
   refine bodyPost_ret (v := .bool false) (gRes1 rfl (gResTmp (t := 4) (v := .bool false) (litGet (by kernel_rfl)))) rfl ?_
   exact ⟨congrArg (fun b_ => Ending.returned (.bool b_)) (decide_eq_false (fun e_ => (h16) (by rw [e_]))).symm, hm10.bel⟩
 refine litVal (v := .bool false) rfl (wgY rfl rfl rfl (by decide) (by kernel_rfl)) (boolTo (decide_eq_false h15) (eqlRun (A := r.cost) (B := q.cost) (.tmp 14) (.tmp 16) rfl (litEv (by kernel_rfl)) (litEv (by kernel_rfl)))) rfl (by decide) ?_
 refine lk (v := .bool false) rfl rfl rfl ?_
 refine lk (v := .bool false) rfl rfl rfl ?_
 refine plSkip (i := 9) rfl (wgN rfl rfl rfl (by decide) (by kernel_rfl)) ?_
 refine qP rfl ?_
 refine plSkip (i := 10) rfl (wgN rfl rfl rfl (by decide) (by kernel_rfl)) ?_
 refine qP rfl ?_
 refine plSkip (i := 11) rfl (wgN rfl rfl rfl (by decide) (by kernel_rfl)) ?_
 refine qP rfl ?_
 refine plSkip (i := 12) rfl (wgN rfl rfl rfl (by decide) (by kernel_rfl)) ?_
 refine qP rfl ?_
 refine plSkip (i := 13) rfl (wgN rfl rfl rfl (by decide) (by kernel_rfl)) ?_
 refine qP rfl ?_
 refine lk (v := .bool false) rfl rfl rfl ?_
 refine lk (v := .bool false) rfl rfl rfl ?_
 refine plSkip (i := 16) rfl (wgN rfl rfl rfl (by decide) (by kernel_rfl)) ?_
 refine qP rfl ?_
 refine plSkip (i := 17) rfl (wgN rfl rfl rfl (by decide) (by kernel_rfl)) ?_
 refine qP rfl ?_
 refine plSkip (i := 18) rfl (wgN rfl rfl rfl (by decide) (by kernel_rfl)) ?_
 refine qP rfl ?_
 refine plSkip (i := 19) rfl (wgN rfl rfl rfl (by decide) (by kernel_rfl)) ?_
 refine qP rfl ?_
 refine plSkip (i := 20) rfl (wgN rfl rfl rfl (by decide) (by kernel_rfl)) ?_
 refine qP rfl ?_
 refine lk (v := .bool false) rfl rfl rfl ?_
 refine lk (v := .bool false) rfl rfl rfl ?_
 refine plD ?_
 refine then_normal (hK14 _ _ ?_)
 refine wpPrune [(4, .bool false)] ⟨litGet (by kernel_rfl), trivial⟩ (fun X21 => ?_)
 refine wp_ret ?_
 refine bodyPost_ret (v := .bool false) (gRes1 rfl (gResTmp (t := 4) (v := .bool false) (litGet (by kernel_rfl)))) rfl ?_
 exact ⟨congrArg (fun b_ => Ending.returned (.bool b_)) (decide_eq_false (fun e_ => (h15) (by rw [e_]))).symm, hm10.bel⟩
set_option maxRecDepth 100000 in
set_option maxHeartbeats 4000000 in
theorem added_any (l m : List Tl) (A B : Option Addr) (c d : Nat) (w : World) (hA : Rd w w.heap.size 4 A l.length c (tlsC l)) (hB : Rd w w.heap.size 4 B m.length d (tlsC m)) (hl : l.length ≤ 100000) (hm_ : m.length ≤ 100000) (hfl : ∀ t ∈ l, t.Fit64) (hfm : ∀ t ∈ m, t.Fit64) : Calls Try.prog 17 #[.slice A l.length c, .slice B m.length d] w (fun e w' => ∃ v, e = .returned v ∧ w'.ownsRow w.heap.size 38 4 v (added l m).length (tlsC (added l m)) ∧ Below w.heap.size w w') := by
 have hm0 := Mem.nil w
 go_enter Try.func17, Try.ntmps17
 refine litStart 37 [(0, .slice A l.length c), (1, .slice B m.length d)] (by kernel_rfl) (fun X0 => ?_)
 refine wp_seq_k fun K1 hK1 => ?_
 refine plStart ?_
 refine lk (v := .slice none 0 0) rfl rfl rfl ?_
 refine plD ?_
 refine then_normal (hK1 _ _ ?_)
 refine wp_seq_k fun K2 hK2 => ?_
 refine plStart ?_
 refine plMakeMap TileT 4 hm0 (i := 0) rfl (wn rfl) rfl ?_
 intro gm3 w4 hm5
 clear hm0
 try simp only [List.cons_append, List.nil_append, List.set_cons_succ, List.set_cons_zero] at hm5
 refine qP rfl ?_
 refine lk (v := .map (some gm3)) rfl rfl rfl ?_
 refine plD ?_
 refine then_normal (hK2 _ _ ?_)
 refine wp_seq_k fun K6 hK6 => ?_
 refine wp_seq_k fun K7 hK7 => ?_
 refine plStart ?_
 refine lk (v := .slice A l.length c) rfl rfl rfl ?_
 refine litVal (v := .int .i64 (l.length : Int)) rfl (wn rfl) (lenSlRun (A := A) (n := l.length) (c := c) (.tmp 12) Ty.und_L_api_Tile rfl (litEv (by kernel_rfl))) rfl (by decide) ?_
 refine lk (v := .int .i64 0) rfl rfl rfl ?_
 refine plD ?_
 refine then_normal (hK7 _ _ ?_)
 refine wp_block ?_
 refine gwLoop (fun n_ a_ w_ => ∃ (k : Nat) (F : Value → Option Value), n_ = l.length - k ∧ (k ≤ l.length) ∧ (SetI (l.take k) F) ∧ Fr a_ 37 [(1, .slice B m.length d), (4, .slice none 0 0), (5, .map (some gm3)), (12, .slice A l.length c), (13, .int .i64 (l.length : Int)), (14, .int .i64 (k : Int))] ∧ Mem w w_ [mapR Try.prog TileT 4 gm3 k F]) (l.length - 0) ⟨0, (fun _ => none), rfl, (Nat.zero_le _), SetI.none, ⟨litSize, rfl, ⟨litGet (by kernel_rfl), ⟨litGet (by kernel_rfl), ⟨litGet (by kernel_rfl), ⟨litGet (by kernel_rfl), ⟨litGet (by kernel_rfl), ⟨litGet (by kernel_rfl), trivial⟩⟩⟩⟩⟩⟩⟩, hm5⟩ ?_
 clear hm5
 intro n_ a10 w8 hI_
 obtain ⟨k, F, rfl, hk_, hF, hF_, hm9⟩ := hI_
 obtain ⟨X11, rfl⟩ := frLit hF_
 clear hF_
 refine wp_seq_k fun K12 hK12 => ?_
 refine plStart ?_
 by_cases h13 : (k : Int) < (l.length : Int)
 · obtain ⟨t, ht⟩ : ∃ t, l[k]? = some t := ⟨_, List.getElem?_eq_getElem (by omega)⟩
   obtain ⟨b1_, off1_, rfl, _, _⟩ := hA.cells (by omega)
   refine litVal (v := .bool true) rfl (wn rfl) (boolTo (decide_eq_true h13) (lssRun (A := (k : Int)) (B := (l.length : Int)) (.tmp 14) (.tmp 13) rfl (litEv (by kernel_rfl)) (litEv (by kernel_rfl)))) rfl (by decide) ?_
   refine plD ?_
   refine then_normal (hK12 _ _ ?_)
   refine wp_seq_k fun K14 hK14 => ?_
   refine wp_cond_true (litEv (by kernel_rfl)) ?_
   refine wp_skip ?_
   refine then_normal (hK14 _ _ ?_)
   refine wp_seq_k fun K15 hK15 => ?_
   refine wp_block ?_
   refine wp_seq_k fun K16 hK16 => ?_
   refine plStart ?_
   refine litVal (v := .pointer (some ⟨b1_, off1_ + k * 4, none⟩)) rfl (wn rfl) (gIaSl (b := b1_) (off := off1_) (n := l.length) (c := c) (kk := .i64) (K := (k : Int)) (.tmp 12) (.tmp 14) k Ty.sl_L_api_Tile rfl (litEv (by kernel_rfl)) (litEv (by kernel_rfl)) (rfl) ((by omega))) rfl (by decide) ?_
   refine litVal (v := .agg (tlc t).toArray) rfl (wn rfl) (gLoadAgRd (vs := tlc t) (m := k * 4) ((Rd.below hA hm9.bel).more hm9.bel.size) rfl (fun i_ u_ hu_ => tlsC_get ht i_ u_ hu_) (by kernel_rfl) (by omega) (.tmp 16) Ty.ag_voxel_api_Tile rfl (litEv (by kernel_rfl))) rfl (by decide) ?_
   refine plAlloc (z := [.int .i64 0, .int .i64 0, .int .i64 0, .int .i64 0]) Ty.ag_voxel_api_Tile hm9 (i := 2) rfl (wn rfl) rfl ?_
   intro g17 w19 hm18
   clear hm9
   try simp only [List.cons_append, List.nil_append, List.set_cons_succ, List.set_cons_zero] at hm18
   refine qP rfl ?_
   refine plStore 1 Ty.ag_voxel_api_Tile hm18 rfl (i := 3) (cs := tlc t) rfl (wn rfl) rfl (litEv (by kernel_rfl)) (litEv (by kernel_rfl)) rfl rfl (by kernel_rfl) ?_
   intro w21 hm20
   clear hm18
   try simp only [List.cons_append, List.nil_append, List.set_cons_succ, List.set_cons_zero] at hm20
   refine qNone rfl ?_
   refine plD ?_
   refine then_normal (hK16 _ _ ?_)
   refine plStart ?_
   refine lk (v := .map (some gm3)) rfl rfl rfl ?_
   refine litVal (v := .agg (tlc t).toArray) rfl (wn rfl) (gLoadAg (vs := tlc t) (k := 0) 1 hm20 rfl (by kernel_rfl) (by kernel_rfl) (.tmp 7) Ty.ag_voxel_api_Tile rfl (litEv (by kernel_rfl))) rfl (by decide) ?_
   refine plMapUp (i := 2) (key := .agg (tlc t).toArray) (val := .bool true) 0 hm20 rfl Try.law_tl Try.map_bool (by unfold maxLen; omega) (Try.key_tl (hfl t (List.mem_of_getElem? ht))) (rde_bool true) rfl (wn rfl) rfl (litEv (by kernel_rfl)) (litEv (by kernel_rfl)) (litEv (by kernel_rfl)) ?_
   intro w23 hm22
   clear hm20
   try simp only [List.cons_append, List.nil_append, List.set_cons_succ, List.set_cons_zero] at hm22
   refine qNone rfl ?_
   refine plD ?_
   refine inBlock_normal ?_
   refine then_normal (hK15 _ _ ?_)
   refine plStart ?_
   refine litVal (v := .int .i64 ((k : Int) + 1)) rfl (wn rfl) (addRun (A := (k : Int)) (B := 1) (C := (k : Int) + 1) (.tmp 14) (.const (.int .i64 1)) rfl (litEv (by kernel_rfl)) (litEv (by kernel_rfl)) rfl (by omega)) rfl (by decide) ?_
   refine lk (v := .int .i64 ((k : Int) + 1)) rfl rfl rfl ?_
   refine plD ?_
   refine then_normal ?_
   exact ⟨_, by omega, (k + 1), _, rfl, (by omega), (hF.up ht), ⟨litSize, rfl, ⟨litGet (by kernel_rfl), ⟨litGet (by kernel_rfl), ⟨litGet (by kernel_rfl), ⟨litGet (by kernel_rfl), ⟨litGet (by kernel_rfl), ⟨litGet (by kernel_rfl), trivial⟩⟩⟩⟩⟩⟩⟩, (hm22.sub (.cons_cons _ (.cons _ .slnil)))⟩
 rw [List.take_of_length_le (by omega)] at hF
 refine litVal (v := .bool false) rfl (wn rfl) (boolTo (decide_eq_false h13) (lssRun (A := (k : Int)) (B := (l.length : Int)) (.tmp 14) (.tmp 13) rfl (litEv (by kernel_rfl)) (litEv (by kernel_rfl)))) rfl (by decide) ?_
 refine plD ?_
 refine then_normal (hK12 _ _ ?_)
 refine wp_seq_k fun K24 hK24 => ?_
 refine wp_cond_false (litEv (by kernel_rfl)) ?_
 refine wp_exit ?_
 refine then_exit ?_
 refine then_exit ?_
 refine inBlock_exit ?_
 refine then_normal (hK6 _ _ ?_)
 refine wp_seq_k fun K25 hK25 => ?_
 refine plStart ?_
 refine lk (v := .slice none 0 0) rfl rfl rfl ?_
 refine plD ?_
 refine then_normal (hK25 _ _ ?_)
 refine wp_seq_k fun K26 hK26 => ?_
 refine wp_seq_k fun K27 hK27 => ?_
 refine plStart ?_
 refine lk (v := .slice B m.length d) rfl rfl rfl ?_
 refine litVal (v := .int .i64 (m.length : Int)) rfl (wn rfl) (lenSlRun (A := B) (n := m.length) (c := d) (.tmp 21) Ty.und_L_api_Tile rfl (litEv (by kernel_rfl))) rfl (by decide) ?_
 refine lk (v := .int .i64 0) rfl rfl rfl ?_
 refine plD ?_
 refine then_normal (hK27 _ _ ?_)
 refine wp_block ?_
 refine gwLoop (fun n_ a_ w_ => ∃ (j : Nat) (out : List Tl) (A2 : Option Addr) (c2 : Nat), n_ = m.length - j ∧ (j ≤ m.length) ∧ (out = added l (m.take j)) ∧ (out.length ≤ j) ∧ Fr a_ 37 [(4, .slice none 0 0), (5, .map (some gm3)), (8, .slice A2 out.length c2), (21, .slice B m.length d), (22, .int .i64 (m.length : Int)), (23, .int .i64 (j : Int))] ∧ Mem w w_ [mapR Try.prog TileT 4 gm3 k F, .row (.slice A2 out.length c2) 38 4 out.length (tlsC out)]) (m.length - 0) ⟨0, [], none, 0, rfl, (Nat.zero_le _), rfl, (Nat.le_refl 0), ⟨litSize, rfl, ⟨litGet (by kernel_rfl), ⟨litGet (by kernel_rfl), ⟨litGet (by kernel_rfl), ⟨litGet (by kernel_rfl), ⟨litGet (by kernel_rfl), ⟨litGet (by kernel_rfl), trivial⟩⟩⟩⟩⟩⟩⟩, ((hm9.nilRow 38 4).sub (.cons_cons _ (.cons_cons _ .slnil)))⟩ ?_
 clear hm9
 intro n_ a30 w28 hI_
 obtain ⟨j, out, A2, c2, rfl, hj_, ho_, hol_, hF_, hm29⟩ := hI_
 obtain ⟨X31, rfl⟩ := frLit hF_
 clear hF_
 refine wp_seq_k fun K32 hK32 => ?_
 refine plStart ?_
 by_cases h33 : (j : Int) < (m.length : Int)
 · obtain ⟨u, hu⟩ : ∃ u, m[j]? = some u := ⟨_, List.getElem?_eq_getElem (by omega)⟩
   obtain ⟨b2_, off2_, rfl, _, _⟩ := hB.cells (by omega)
   refine litVal (v := .bool true) rfl (wn rfl) (boolTo (decide_eq_true h33) (lssRun (A := (j : Int)) (B := (m.length : Int)) (.tmp 23) (.tmp 22) rfl (litEv (by kernel_rfl)) (litEv (by kernel_rfl)))) rfl (by decide) ?_
   refine plD ?_
   refine then_normal (hK32 _ _ ?_)
   refine wp_seq_k fun K34 hK34 => ?_
   refine wp_cond_true (litEv (by kernel_rfl)) ?_
   refine wp_skip ?_
   refine then_normal (hK34 _ _ ?_)
   refine wp_seq_k fun K35 hK35 => ?_
   refine wp_block ?_
   refine wp_seq_k fun K36 hK36 => ?_
   refine plStart ?_
   refine litVal (v := .pointer (some ⟨b2_, off2_ + j * 4, none⟩)) rfl (wn rfl) (gIaSl (b := b2_) (off := off2_) (n := m.length) (c := d) (kk := .i64) (K := (j : Int)) (.tmp 21) (.tmp 23) j Ty.sl_L_api_Tile rfl (litEv (by kernel_rfl)) (litEv (by kernel_rfl)) (rfl) ((by omega))) rfl (by decide) ?_
   refine litVal (v := .agg (tlc u).toArray) rfl (wn rfl) (gLoadAgRd (vs := tlc u) (m := j * 4) ((Rd.below hB hm29.bel).more hm29.bel.size) rfl (fun i_ u_ hu_ => tlsC_get hu i_ u_ hu_) (by kernel_rfl) (by omega) (.tmp 25) Ty.ag_voxel_api_Tile rfl (litEv (by kernel_rfl))) rfl (by decide) ?_
   refine plAlloc (z := [.int .i64 0, .int .i64 0, .int .i64 0, .int .i64 0]) Ty.ag_voxel_api_Tile hm29 (i := 2) rfl (wn rfl) rfl ?_
   intro g37 w39 hm38
   clear hm29
   try simp only [List.cons_append, List.nil_append, List.set_cons_succ, List.set_cons_zero] at hm38
   refine qP rfl ?_
   refine plStore 2 Ty.ag_voxel_api_Tile hm38 rfl (i := 3) (cs := tlc u) rfl (wn rfl) rfl (litEv (by kernel_rfl)) (litEv (by kernel_rfl)) rfl rfl (by kernel_rfl) ?_
   intro w41 hm40
   clear hm38
   try simp only [List.cons_append, List.nil_append, List.set_cons_succ, List.set_cons_zero] at hm40
   refine qNone rfl ?_
   refine plD ?_
   refine then_normal (hK36 _ _ ?_)
   refine wp_seq_k fun K42 hK42 => ?_
   refine plStart ?_
   refine lk (v := .map (some gm3)) rfl rfl rfl ?_
   refine litVal (v := .agg (tlc u).toArray) rfl (wn rfl) (gLoadAg (vs := tlc u) (k := 0) 2 hm40 rfl (by kernel_rfl) (by kernel_rfl) (.tmp 10) Ty.ag_voxel_api_Tile rfl (litEv (by kernel_rfl))) rfl (by decide) ?_
   rcases bool_or (l.contains u) with h43 | h43
   · refine litVal (i := 2) (v := .bool false) rfl (wn rfl) (gLookB 0 hm40 rfl Try.law_tl Try.map_bool Try.zero_bool (Try.key_tl (hfm u (List.mem_of_getElem? hu))) hF h43 rfl (litEv (by kernel_rfl)) (litEv (by kernel_rfl))) rfl (by decide) ?_
     refine lk (v := .bool true) rfl rfl rfl ?_
     refine plD ?_
     refine then_normal (hK42 _ _ ?_)
     refine wp_cond_true (litEv (by kernel_rfl)) ?_
     refine plStart ?_
     refine lk (v := .slice A2 out.length c2) rfl rfl rfl ?_
     refine litVal (v := .agg (tlc u).toArray) rfl (wn rfl) (gLoadAg (vs := tlc u) (k := 0) 2 hm40 rfl (by kernel_rfl) (by kernel_rfl) (.tmp 10) Ty.ag_voxel_api_Tile rfl (litEv (by kernel_rfl))) rfl (by decide) ?_
     refine plLit (cs := [.int .i64 u.lv, .int .i64 u.p.x, .int .i64 u.p.y, .int .i64 u.p.z]) (n := 1) Ty.sl_L_api_Tile hm40 (i := 2) rfl (wn rfl) rfl (by decide) (by decide) (by rw [lit_eval]; kernel_rfl) ?_
     intro g44 w46 hm45
     clear hm40
     try simp only [List.cons_append, List.nil_append, List.set_cons_succ, List.set_cons_zero] at hm45
     refine qP rfl ?_
     refine plApp1 (v := .slice A2 out.length c2) (n := out.length) (xs := tlsC out) (ys := [.int .i64 u.lv, .int .i64 u.p.x, .int .i64 u.p.y, .int .i64 u.p.z]) 1 3 Ty.sl_L_api_Tile hm45 rfl rfl (i := 3) rfl (wn rfl) rfl (litEv (by kernel_rfl)) (litEv (by kernel_rfl)) (by kernel_rfl) (by kernel_rfl) (by omega) (by omega) ?_
     intro v51 w48 hm47
     clear hm45
     try simp only [List.cons_append, List.nil_append, List.set_cons_succ, List.set_cons_zero] at hm47
     replace hm47 := Mem.rowEq (v := v51) (e := 38) (size := 4) (n := out.length + 1) (n' := (out ++ [u]).length) (xs := (tlsC out) ++ ([.int .i64 u.lv, .int .i64 u.p.x, .int .i64 u.p.y, .int .i64 u.p.z])) (xs' := tlsC (out ++ [u])) 1 hm47 rfl (by simp) (tlsC_snoc out u)
     try simp only [List.cons_append, List.nil_append, List.set_cons_succ, List.set_cons_zero] at hm47
     obtain ⟨A49, c50, rfl⟩ := Mem.rowSl (v := v51) (e := 38) (size := 4) (n := (out ++ [u]).length) (xs := tlsC (out ++ [u])) 1 hm47 rfl
     refine qP rfl ?_
     refine lk (v := .slice A49 ((out ++ [u]).length) c50) rfl rfl rfl ?_
     refine plD ?_
     refine inBlock_normal ?_
     refine then_normal (hK35 _ _ ?_)
     refine plStart ?_
     refine litVal (v := .int .i64 ((j : Int) + 1)) rfl (wn rfl) (addRun (A := (j : Int)) (B := 1) (C := (j : Int) + 1) (.tmp 23) (.const (.int .i64 1)) rfl (litEv (by kernel_rfl)) (litEv (by kernel_rfl)) rfl (by omega)) rfl (by decide) ?_
     refine lk (v := .int .i64 ((j : Int) + 1)) rfl rfl rfl ?_
     refine plD ?_
     refine then_normal ?_
     exact ⟨_, by omega, (j + 1), (out ++ [u]), _, _, rfl, (by omega), (by rw [added_next hu, if_neg (by rw [h43]; decide), ← ho_]), (by simp; omega), ⟨litSize, rfl, ⟨litGet (by kernel_rfl), ⟨litGet (by kernel_rfl), ⟨litGet (by kernel_rfl), ⟨litGet (by kernel_rfl), ⟨litGet (by kernel_rfl), ⟨litGet (by kernel_rfl), trivial⟩⟩⟩⟩⟩⟩⟩, (hm47.sub (.cons_cons _ (.cons_cons _ (.cons _ (.cons _ .slnil)))))⟩
   refine litVal (i := 2) (v := .bool true) rfl (wn rfl) (gLookB 0 hm40 rfl Try.law_tl Try.map_bool Try.zero_bool (Try.key_tl (hfm u (List.mem_of_getElem? hu))) hF h43 rfl (litEv (by kernel_rfl)) (litEv (by kernel_rfl))) rfl (by decide) ?_
   refine lk (v := .bool false) rfl rfl rfl ?_
   refine plD ?_
   refine then_normal (hK42 _ _ ?_)
   refine wp_cond_false (litEv (by kernel_rfl)) ?_
   refine wp_skip ?_
   refine inBlock_normal ?_
   refine then_normal (hK35 _ _ ?_)
   refine plStart ?_
   refine litVal (v := .int .i64 ((j : Int) + 1)) rfl (wn rfl) (addRun (A := (j : Int)) (B := 1) (C := (j : Int) + 1) (.tmp 23) (.const (.int .i64 1)) rfl (litEv (by kernel_rfl)) (litEv (by kernel_rfl)) rfl (by omega)) rfl (by decide) ?_
   refine lk (v := .int .i64 ((j : Int) + 1)) rfl rfl rfl ?_
   refine plD ?_
   refine then_normal ?_
   exact ⟨_, by omega, (j + 1), out, _, _, rfl, (by omega), (by rw [added_next hu, if_pos h43, ← ho_]), (by omega), ⟨litSize, rfl, ⟨litGet (by kernel_rfl), ⟨litGet (by kernel_rfl), ⟨litGet (by kernel_rfl), ⟨litGet (by kernel_rfl), ⟨litGet (by kernel_rfl), ⟨litGet (by kernel_rfl), trivial⟩⟩⟩⟩⟩⟩⟩, (hm40.sub (.cons_cons _ (.cons_cons _ (.cons _ .slnil))))⟩
 refine litVal (v := .bool false) rfl (wn rfl) (boolTo (decide_eq_false h33) (lssRun (A := (j : Int)) (B := (m.length : Int)) (.tmp 23) (.tmp 22) rfl (litEv (by kernel_rfl)) (litEv (by kernel_rfl)))) rfl (by decide) ?_
 refine plD ?_
 refine then_normal (hK32 _ _ ?_)
 refine wp_seq_k fun K52 hK52 => ?_
 refine wp_cond_false (litEv (by kernel_rfl)) ?_
 refine wp_exit ?_
 refine then_exit ?_
 refine then_exit ?_
 refine inBlock_exit ?_
 refine then_normal (hK26 _ _ ?_)
 refine wp_seq_k fun K53 hK53 => ?_
 refine plStart ?_
 refine lk (v := .slice A2 out.length c2) rfl rfl rfl ?_
 refine lk (v := .slice A2 out.length c2) rfl rfl rfl ?_
 refine plD ?_
 refine then_normal (hK53 _ _ ?_)
 refine wp_ret ?_
 refine bodyPost_ret (v := .slice A2 out.length c2) (gRes1 rfl (gResTmp (t := 4) (v := .slice A2 out.length c2) (litGet (by kernel_rfl)))) rfl ?_
 rw [List.take_of_length_le (by omega)] at ho_
 exact ⟨_, rfl, by rw [← ho_]; exact hm29.row 1 rfl, hm29.bel⟩
end Go.Proofs.Ytkmhjgdpkddbnaa
namespace Go.Proofs.Ytkmhjgdpkddbnaa
open Go.RowKit
set_option linter.unusedVariables false
set_option linter.unusedSimpArgs false
theorem price_ten (w : World) : Price (fun _ => 10) 28 [] [] w := ⟨by kernel_rfl, fun t _ w _ => ten_any t w, fun _ _ => by omega⟩
@[irreducible] def sP0 : Pln := planR (fun _ => 10) 4 ⟨⟨0, 0, 0⟩, 100, 30, 9⟩
@[irreducible] def sP0E : Int := planE (fun _ => 10) 4 ⟨⟨0, 0, 0⟩, 100, 30, 9⟩
theorem sP0_any (w : World) : Calls Try.prog 23 #[.int .i64 4, .agg ([Value.int .i64 0, Value.int .i64 0, Value.int .i64 0, Value.int .i64 100, Value.int .i64 30, Value.int .i64 9]).toArray, .func (.func 28) #[] #[]] w (fun e w' => ∃ S, e = .returned (.tuple #[.agg (plnC S sP0).toArray, .int .i64 sP0E]) ∧ w'.ownsRow w.heap.size 38 4 S sP0.tiles.length (tlsC sP0.tiles) ∧ Below w.heap.size w w') := by
  unfold sP0 sP0E
  exact plan_any (f := (fun _ => 10)) (vf := 28) (first := []) (caps := []) 4 ⟨⟨0, 0, 0⟩, 100, 30, 9⟩ w (price_ten w)
@[irreducible] def sP1 : Pln := planR (fun _ => 10) 4 ⟨⟨0, 0, 0⟩, 100, 30, 10⟩
@[irreducible] def sP1E : Int := planE (fun _ => 10) 4 ⟨⟨0, 0, 0⟩, 100, 30, 10⟩
theorem sP1_any (w : World) : Calls Try.prog 23 #[.int .i64 4, .agg ([Value.int .i64 0, Value.int .i64 0, Value.int .i64 0, Value.int .i64 100, Value.int .i64 30, Value.int .i64 10]).toArray, .func (.func 28) #[] #[]] w (fun e w' => ∃ S, e = .returned (.tuple #[.agg (plnC S sP1).toArray, .int .i64 sP1E]) ∧ w'.ownsRow w.heap.size 38 4 S sP1.tiles.length (tlsC sP1.tiles) ∧ Below w.heap.size w w') := by
  unfold sP1 sP1E
  exact plan_any (f := (fun _ => 10)) (vf := 28) (first := []) (caps := []) 4 ⟨⟨0, 0, 0⟩, 100, 30, 10⟩ w (price_ten w)
@[irreducible] def sP2 : Pln := planR (fun _ => 10) 4 ⟨⟨0, 0, 0⟩, 100, 30, 80⟩
@[irreducible] def sP2E : Int := planE (fun _ => 10) 4 ⟨⟨0, 0, 0⟩, 100, 30, 80⟩
theorem sP2_any (w : World) : Calls Try.prog 23 #[.int .i64 4, .agg ([Value.int .i64 0, Value.int .i64 0, Value.int .i64 0, Value.int .i64 100, Value.int .i64 30, Value.int .i64 80]).toArray, .func (.func 28) #[] #[]] w (fun e w' => ∃ S, e = .returned (.tuple #[.agg (plnC S sP2).toArray, .int .i64 sP2E]) ∧ w'.ownsRow w.heap.size 38 4 S sP2.tiles.length (tlsC sP2.tiles) ∧ Below w.heap.size w w') := by
  unfold sP2 sP2E
  exact plan_any (f := (fun _ => 10)) (vf := 28) (first := []) (caps := []) 4 ⟨⟨0, 0, 0⟩, 100, 30, 80⟩ w (price_ten w)
theorem sP2_ok : ∀ t ∈ sP2.tiles, t.Ok := by unfold sP2; exact planR_ok
theorem sP2_len : sP2.tiles.length ≤ 4096 := by unfold sP2; exact planR_len
@[irreducible] def sP3 : Pln := planR (fun _ => 10) 4 ⟨⟨0, 0, 0⟩, 100, 30, 150⟩
@[irreducible] def sP3E : Int := planE (fun _ => 10) 4 ⟨⟨0, 0, 0⟩, 100, 30, 150⟩
theorem sP3_any (w : World) : Calls Try.prog 23 #[.int .i64 4, .agg ([Value.int .i64 0, Value.int .i64 0, Value.int .i64 0, Value.int .i64 100, Value.int .i64 30, Value.int .i64 150]).toArray, .func (.func 28) #[] #[]] w (fun e w' => ∃ S, e = .returned (.tuple #[.agg (plnC S sP3).toArray, .int .i64 sP3E]) ∧ w'.ownsRow w.heap.size 38 4 S sP3.tiles.length (tlsC sP3.tiles) ∧ Below w.heap.size w w') := by
  unfold sP3 sP3E
  exact plan_any (f := (fun _ => 10)) (vf := 28) (first := []) (caps := []) 4 ⟨⟨0, 0, 0⟩, 100, 30, 150⟩ w (price_ten w)
theorem sP3_ok : ∀ t ∈ sP3.tiles, t.Ok := by unfold sP3; exact planR_ok
theorem sP3_len : sP3.tiles.length ≤ 4096 := by unfold sP3; exact planR_len
@[irreducible] def sP4 : Pln := planR (fun _ => 10) 4 ⟨⟨0, 0, 0⟩, 100, 30, 1000⟩
@[irreducible] def sP4E : Int := planE (fun _ => 10) 4 ⟨⟨0, 0, 0⟩, 100, 30, 1000⟩
theorem sP4_any (w : World) : Calls Try.prog 23 #[.int .i64 4, .agg ([Value.int .i64 0, Value.int .i64 0, Value.int .i64 0, Value.int .i64 100, Value.int .i64 30, Value.int .i64 1000]).toArray, .func (.func 28) #[] #[]] w (fun e w' => ∃ S, e = .returned (.tuple #[.agg (plnC S sP4).toArray, .int .i64 sP4E]) ∧ w'.ownsRow w.heap.size 38 4 S sP4.tiles.length (tlsC sP4.tiles) ∧ Below w.heap.size w w') := by
  unfold sP4 sP4E
  exact plan_any (f := (fun _ => 10)) (vf := 28) (first := []) (caps := []) 4 ⟨⟨0, 0, 0⟩, 100, 30, 1000⟩ w (price_ten w)
@[irreducible] def sP5 : Pln := planR (fun _ => 10) 4 ⟨⟨0, 0, 0⟩, 0, 30, 1000⟩
@[irreducible] def sP5E : Int := planE (fun _ => 10) 4 ⟨⟨0, 0, 0⟩, 0, 30, 1000⟩
theorem sP5_any (w : World) : Calls Try.prog 23 #[.int .i64 4, .agg ([Value.int .i64 0, Value.int .i64 0, Value.int .i64 0, Value.int .i64 0, Value.int .i64 30, Value.int .i64 1000]).toArray, .func (.func 28) #[] #[]] w (fun e w' => ∃ S, e = .returned (.tuple #[.agg (plnC S sP5).toArray, .int .i64 sP5E]) ∧ w'.ownsRow w.heap.size 38 4 S sP5.tiles.length (tlsC sP5.tiles) ∧ Below w.heap.size w w') := by
  unfold sP5 sP5E
  exact plan_any (f := (fun _ => 10)) (vf := 28) (first := []) (caps := []) 4 ⟨⟨0, 0, 0⟩, 0, 30, 1000⟩ w (price_ten w)
@[irreducible] def sP6 : Pln := planR (fun _ => 10) 1 ⟨⟨0, 0, 0⟩, 0, 30, 1000⟩
@[irreducible] def sP6E : Int := planE (fun _ => 10) 1 ⟨⟨0, 0, 0⟩, 0, 30, 1000⟩
theorem sP6_any (w : World) : Calls Try.prog 23 #[.int .i64 1, .agg ([Value.int .i64 0, Value.int .i64 0, Value.int .i64 0, Value.int .i64 0, Value.int .i64 30, Value.int .i64 1000]).toArray, .func (.func 28) #[] #[]] w (fun e w' => ∃ S, e = .returned (.tuple #[.agg (plnC S sP6).toArray, .int .i64 sP6E]) ∧ w'.ownsRow w.heap.size 38 4 S sP6.tiles.length (tlsC sP6.tiles) ∧ Below w.heap.size w w') := by
  unfold sP6 sP6E
  exact plan_any (f := (fun _ => 10)) (vf := 28) (first := []) (caps := []) 1 ⟨⟨0, 0, 0⟩, 0, 30, 1000⟩ w (price_ten w)
set_option maxRecDepth 100000 in
set_option maxHeartbeats 4000000 in
theorem sanity_any (w : World) : Calls Try.prog 8 #[] w (RetV w (.bool true)) := by
 have hm0 := Mem.nil w
 go_enter Try.func8, Try.ntmps8
 refine litStart 172 [] (by kernel_rfl) (fun X0 => ?_)
 refine wp_seq_k fun K1 hK1 => ?_
 refine plStart ?_
 refine lk (v := .bool false) rfl rfl rfl ?_
 refine plD ?_
 refine then_normal (hK1 _ _ ?_)
 refine wp_seq_k fun K2 hK2 => ?_
 refine plStart ?_
 refine lk (v := .agg ([.int .i64 0, .int .i64 0, .int .i64 0, .int .i64 100, .int .i64 30, .int .i64 9]).toArray) rfl rfl rfl ?_
 refine plAlloc (z := [.int .i64 0, .int .i64 0, .int .i64 0, .int .i64 0, .int .i64 0, .int .i64 0]) Ty.ag_voxel_api_Viewer hm0 (i := 1) rfl (wn rfl) rfl ?_
 intro g3 w5 hm4
 clear hm0
 try simp only [List.cons_append, List.nil_append, List.set_cons_succ, List.set_cons_zero] at hm4
 refine qP rfl ?_
 refine plStore 0 Ty.ag_voxel_api_Viewer hm4 rfl (i := 2) (cs := [.int .i64 0, .int .i64 0, .int .i64 0, .int .i64 100, .int .i64 30, .int .i64 9]) rfl (wn rfl) rfl (litEv (by kernel_rfl)) (litEv (by kernel_rfl)) rfl rfl (by kernel_rfl) ?_
 intro w7 hm6
 clear hm4
 try simp only [List.cons_append, List.nil_append, List.set_cons_succ, List.set_cons_zero] at hm6
 refine qNone rfl ?_
 refine plD ?_
 refine then_normal (hK2 _ _ ?_)
 refine wp_seq_k fun K8 hK8 => ?_
 refine plStart ?_
 refine litVal (v := .agg ([.int .i64 0, .int .i64 0, .int .i64 0, .int .i64 100, .int .i64 30, .int .i64 9]).toArray) rfl (wn rfl) (gLoadAg (vs := [.int .i64 0, .int .i64 0, .int .i64 0, .int .i64 100, .int .i64 30, .int .i64 9]) (k := 0) 0 hm6 rfl (by kernel_rfl) (by kernel_rfl) (.tmp 1) Ty.ag_voxel_api_Viewer rfl (litEv (by kernel_rfl))) rfl (by decide) ?_
 refine plCall (i := 1) 23 [.int .i64 4, .agg ([.int .i64 0, .int .i64 0, .int .i64 0, .int .i64 100, .int .i64 30, .int .i64 9]).toArray, .func (.func 28) #[] #[]] [] [] rfl (by kernel_rfl) (wn rfl) rfl (litEv (by kernel_rfl)) (litArgs (by kernel_rfl)) (by exact sP0_any _) ?_
 rintro e w9 ⟨v11, rfl, hown_, hbz⟩
 obtain ⟨A12, c13, rfl, hrd_⟩ := Rd.of_own hown_
 clear hrd_
 replace hown_ : World.ownsRow w9 _ 38 4 _ sP0.tiles.length (tlsC sP0.tiles) := hown_
 have hm10 := hm6.newRow hbz hown_
 clear hown_ hbz hm6
 try simp only [List.cons_append, List.nil_append, List.set_cons_succ, List.set_cons_zero] at hm10
 refine ⟨_, rfl, ?_⟩
 refine qP rfl ?_
 refine lk (v := .tuple #[.agg (plnC (.slice A12 sP0.tiles.length c13) sP0).toArray, .int .i64 sP0E]) rfl rfl rfl ?_
 refine lk (v := .agg (plnC (.slice A12 sP0.tiles.length c13) sP0).toArray) rfl rfl rfl ?_
 refine lk (v := .int .i64 sP0E) rfl rfl rfl ?_
 refine plAlloc (z := [.slice none 0 0, .int .i64 0, .int .i64 0, .int .i64 0]) Ty.ag_voxel_api_Planned hm10 (i := 5) rfl (wn rfl) rfl ?_
 intro g14 w16 hm15
 clear hm10
 try simp only [List.cons_append, List.nil_append, List.set_cons_succ, List.set_cons_zero] at hm15
 refine qP rfl ?_
 refine plStore 2 Ty.ag_voxel_api_Planned hm15 rfl (i := 6) (cs := plnC (.slice A12 sP0.tiles.length c13) sP0) rfl (wn rfl) rfl (litEv (by kernel_rfl)) (litEv (by kernel_rfl)) rfl rfl (by kernel_rfl) ?_
 intro w18 hm17
 clear hm15
 try simp only [List.cons_append, List.nil_append, List.set_cons_succ, List.set_cons_zero] at hm17
 refine qNone rfl ?_
 refine lk (v := .int .i64 sP0E) rfl rfl rfl ?_
 refine plD ?_
 refine then_normal (hK8 _ _ ?_)
 refine wp_seq_k fun K19 hK19 => ?_
 refine plStart ?_
 refine lk (v := .pointer (some ⟨g3, 5, none⟩)) rfl rfl rfl ?_
 refine plStore1 (v := .int .i64 10) (k := 5) 0 (by kernel_rfl) hm17 rfl (i := 1) rfl (wn rfl) rfl (litEv (by kernel_rfl)) (litEv (by kernel_rfl)) rfl rfl rfl ?_
 intro w21 hm20
 clear hm17
 try simp only [List.cons_append, List.nil_append, List.set_cons_succ, List.set_cons_zero] at hm20
 refine qNone rfl ?_
 refine plD ?_
 refine then_normal (hK19 _ _ ?_)
 refine wp_seq_k fun K22 hK22 => ?_
 refine plStart ?_
 refine litVal (v := .agg ([.int .i64 0, .int .i64 0, .int .i64 0, .int .i64 100, .int .i64 30, .int .i64 10]).toArray) rfl (wn rfl) (gLoadAg (vs := [.int .i64 0, .int .i64 0, .int .i64 0, .int .i64 100, .int .i64 30, .int .i64 10]) (k := 0) 0 hm20 rfl (by kernel_rfl) (by kernel_rfl) (.tmp 1) Ty.ag_voxel_api_Viewer rfl (litEv (by kernel_rfl))) rfl (by decide) ?_
 refine plCall (i := 1) 23 [.int .i64 4, .agg ([.int .i64 0, .int .i64 0, .int .i64 0, .int .i64 100, .int .i64 30, .int .i64 10]).toArray, .func (.func 28) #[] #[]] [] [] rfl (by kernel_rfl) (wn rfl) rfl (litEv (by kernel_rfl)) (litArgs (by kernel_rfl)) (by exact sP1_any _) ?_
 rintro e w23 ⟨v25, rfl, hown_, hbz⟩
 obtain ⟨A26, c27, rfl, hrd_⟩ := Rd.of_own hown_
 clear hrd_
 replace hown_ : World.ownsRow w23 _ 38 4 _ sP1.tiles.length (tlsC sP1.tiles) := hown_
 have hm24 := hm20.newRow hbz hown_
 clear hown_ hbz hm20
 try simp only [List.cons_append, List.nil_append, List.set_cons_succ, List.set_cons_zero] at hm24
 refine ⟨_, rfl, ?_⟩
 refine qP rfl ?_
 refine lk (v := .tuple #[.agg (plnC (.slice A26 sP1.tiles.length c27) sP1).toArray, .int .i64 sP1E]) rfl rfl rfl ?_
 refine lk (v := .agg (plnC (.slice A26 sP1.tiles.length c27) sP1).toArray) rfl rfl rfl ?_
 refine lk (v := .int .i64 sP1E) rfl rfl rfl ?_
 refine plAlloc (z := [.slice none 0 0, .int .i64 0, .int .i64 0, .int .i64 0]) Ty.ag_voxel_api_Planned hm24 (i := 5) rfl (wn rfl) rfl ?_
 intro g28 w30 hm29
 clear hm24
 try simp only [List.cons_append, List.nil_append, List.set_cons_succ, List.set_cons_zero] at hm29
 refine qP rfl ?_
 refine plStore 4 Ty.ag_voxel_api_Planned hm29 rfl (i := 6) (cs := plnC (.slice A26 sP1.tiles.length c27) sP1) rfl (wn rfl) rfl (litEv (by kernel_rfl)) (litEv (by kernel_rfl)) rfl rfl (by kernel_rfl) ?_
 intro w32 hm31
 clear hm29
 try simp only [List.cons_append, List.nil_append, List.set_cons_succ, List.set_cons_zero] at hm31
 refine qNone rfl ?_
 refine lk (v := .int .i64 sP1E) rfl rfl rfl ?_
 refine plD ?_
 refine then_normal (hK22 _ _ ?_)
 refine wpPrune [(0, .bool false), (1, .pointer (some ⟨g3, 0, none⟩)), (3, .int .i64 sP0E), (4, .pointer (some ⟨g28, 0, none⟩)), (5, .int .i64 sP1E)] ⟨litGet (by kernel_rfl), ⟨litGet (by kernel_rfl), ⟨litGet (by kernel_rfl), ⟨litGet (by kernel_rfl), ⟨litGet (by kernel_rfl), trivial⟩⟩⟩⟩⟩ (fun X33 => ?_)
 refine wp_seq_k fun K34 hK34 => ?_
 refine plStart ?_
 refine lk (v := .pointer (some ⟨g3, 5, none⟩)) rfl rfl rfl ?_
 refine plStore1 (v := .int .i64 80) (k := 5) 0 (by kernel_rfl) hm31 rfl (i := 1) rfl (wn rfl) rfl (litEv (by kernel_rfl)) (litEv (by kernel_rfl)) rfl rfl rfl ?_
 intro w36 hm35
 clear hm31
 try simp only [List.cons_append, List.nil_append, List.set_cons_succ, List.set_cons_zero] at hm35
 refine qNone rfl ?_
 refine plD ?_
 refine then_normal (hK34 _ _ ?_)
 refine wp_seq_k fun K37 hK37 => ?_
 refine plStart ?_
 refine litVal (v := .agg ([.int .i64 0, .int .i64 0, .int .i64 0, .int .i64 100, .int .i64 30, .int .i64 80]).toArray) rfl (wn rfl) (gLoadAg (vs := [.int .i64 0, .int .i64 0, .int .i64 0, .int .i64 100, .int .i64 30, .int .i64 80]) (k := 0) 0 hm35 rfl (by kernel_rfl) (by kernel_rfl) (.tmp 1) Ty.ag_voxel_api_Viewer rfl (litEv (by kernel_rfl))) rfl (by decide) ?_
 refine plCall (i := 1) 23 [.int .i64 4, .agg ([.int .i64 0, .int .i64 0, .int .i64 0, .int .i64 100, .int .i64 30, .int .i64 80]).toArray, .func (.func 28) #[] #[]] [] [] rfl (by kernel_rfl) (wn rfl) rfl (litEv (by kernel_rfl)) (litArgs (by kernel_rfl)) (by exact sP2_any _) ?_
 rintro e w38 ⟨v40, rfl, hown_, hbz⟩
 obtain ⟨A41, c42, rfl, hrd_⟩ := Rd.of_own hown_
 clear hrd_
 replace hown_ : World.ownsRow w38 _ 38 4 _ sP2.tiles.length (tlsC sP2.tiles) := hown_
 have hm39 := hm35.newRow hbz hown_
 clear hown_ hbz hm35
 try simp only [List.cons_append, List.nil_append, List.set_cons_succ, List.set_cons_zero] at hm39
 refine ⟨_, rfl, ?_⟩
 refine qP rfl ?_
 refine lk (v := .tuple #[.agg (plnC (.slice A41 sP2.tiles.length c42) sP2).toArray, .int .i64 sP2E]) rfl rfl rfl ?_
 refine lk (v := .agg (plnC (.slice A41 sP2.tiles.length c42) sP2).toArray) rfl rfl rfl ?_
 refine lk (v := .int .i64 sP2E) rfl rfl rfl ?_
 refine plAlloc (z := [.slice none 0 0, .int .i64 0, .int .i64 0, .int .i64 0]) Ty.ag_voxel_api_Planned hm39 (i := 5) rfl (wn rfl) rfl ?_
 intro g43 w45 hm44
 clear hm39
 try simp only [List.cons_append, List.nil_append, List.set_cons_succ, List.set_cons_zero] at hm44
 refine qP rfl ?_
 refine plStore 6 Ty.ag_voxel_api_Planned hm44 rfl (i := 6) (cs := plnC (.slice A41 sP2.tiles.length c42) sP2) rfl (wn rfl) rfl (litEv (by kernel_rfl)) (litEv (by kernel_rfl)) rfl rfl (by kernel_rfl) ?_
 intro w47 hm46
 clear hm44
 try simp only [List.cons_append, List.nil_append, List.set_cons_succ, List.set_cons_zero] at hm46
 refine qNone rfl ?_
 refine lk (v := .int .i64 sP2E) rfl rfl rfl ?_
 refine plD ?_
 refine then_normal (hK37 _ _ ?_)
 refine wp_seq_k fun K48 hK48 => ?_
 refine plStart ?_
 refine lk (v := .pointer (some ⟨g3, 5, none⟩)) rfl rfl rfl ?_
 refine plStore1 (v := .int .i64 150) (k := 5) 0 (by kernel_rfl) hm46 rfl (i := 1) rfl (wn rfl) rfl (litEv (by kernel_rfl)) (litEv (by kernel_rfl)) rfl rfl rfl ?_
 intro w50 hm49
 clear hm46
 try simp only [List.cons_append, List.nil_append, List.set_cons_succ, List.set_cons_zero] at hm49
 refine qNone rfl ?_
 refine plD ?_
 refine then_normal (hK48 _ _ ?_)
 refine wp_seq_k fun K51 hK51 => ?_
 refine plStart ?_
 refine litVal (v := .agg ([.int .i64 0, .int .i64 0, .int .i64 0, .int .i64 100, .int .i64 30, .int .i64 150]).toArray) rfl (wn rfl) (gLoadAg (vs := [.int .i64 0, .int .i64 0, .int .i64 0, .int .i64 100, .int .i64 30, .int .i64 150]) (k := 0) 0 hm49 rfl (by kernel_rfl) (by kernel_rfl) (.tmp 1) Ty.ag_voxel_api_Viewer rfl (litEv (by kernel_rfl))) rfl (by decide) ?_
 refine plCall (i := 1) 23 [.int .i64 4, .agg ([.int .i64 0, .int .i64 0, .int .i64 0, .int .i64 100, .int .i64 30, .int .i64 150]).toArray, .func (.func 28) #[] #[]] [] [] rfl (by kernel_rfl) (wn rfl) rfl (litEv (by kernel_rfl)) (litArgs (by kernel_rfl)) (by exact sP3_any _) ?_
 rintro e w52 ⟨v54, rfl, hown_, hbz⟩
 obtain ⟨A55, c56, rfl, hrd_⟩ := Rd.of_own hown_
 clear hrd_
 replace hown_ : World.ownsRow w52 _ 38 4 _ sP3.tiles.length (tlsC sP3.tiles) := hown_
 have hm53 := hm49.newRow hbz hown_
 clear hown_ hbz hm49
 try simp only [List.cons_append, List.nil_append, List.set_cons_succ, List.set_cons_zero] at hm53
 refine ⟨_, rfl, ?_⟩
 refine qP rfl ?_
 refine lk (v := .tuple #[.agg (plnC (.slice A55 sP3.tiles.length c56) sP3).toArray, .int .i64 sP3E]) rfl rfl rfl ?_
 refine lk (v := .agg (plnC (.slice A55 sP3.tiles.length c56) sP3).toArray) rfl rfl rfl ?_
 refine lk (v := .int .i64 sP3E) rfl rfl rfl ?_
 refine plAlloc (z := [.slice none 0 0, .int .i64 0, .int .i64 0, .int .i64 0]) Ty.ag_voxel_api_Planned hm53 (i := 5) rfl (wn rfl) rfl ?_
 intro g57 w59 hm58
 clear hm53
 try simp only [List.cons_append, List.nil_append, List.set_cons_succ, List.set_cons_zero] at hm58
 refine qP rfl ?_
 refine plStore 8 Ty.ag_voxel_api_Planned hm58 rfl (i := 6) (cs := plnC (.slice A55 sP3.tiles.length c56) sP3) rfl (wn rfl) rfl (litEv (by kernel_rfl)) (litEv (by kernel_rfl)) rfl rfl (by kernel_rfl) ?_
 intro w61 hm60
 clear hm58
 try simp only [List.cons_append, List.nil_append, List.set_cons_succ, List.set_cons_zero] at hm60
 refine qNone rfl ?_
 refine lk (v := .int .i64 sP3E) rfl rfl rfl ?_
 refine plD ?_
 refine then_normal (hK51 _ _ ?_)
 refine wp_seq_k fun K62 hK62 => ?_
 refine plStart ?_
 refine lk (v := .pointer (some ⟨g3, 5, none⟩)) rfl rfl rfl ?_
 refine plStore1 (v := .int .i64 1000) (k := 5) 0 (by kernel_rfl) hm60 rfl (i := 1) rfl (wn rfl) rfl (litEv (by kernel_rfl)) (litEv (by kernel_rfl)) rfl rfl rfl ?_
 intro w64 hm63
 clear hm60
 try simp only [List.cons_append, List.nil_append, List.set_cons_succ, List.set_cons_zero] at hm63
 refine qNone rfl ?_
 refine plD ?_
 refine then_normal (hK62 _ _ ?_)
 refine wpPrune [(0, .bool false), (1, .pointer (some ⟨g3, 0, none⟩)), (3, .int .i64 sP0E), (4, .pointer (some ⟨g28, 0, none⟩)), (5, .int .i64 sP1E), (6, .pointer (some ⟨g43, 0, none⟩)), (7, .int .i64 sP2E), (8, .pointer (some ⟨g57, 0, none⟩)), (9, .int .i64 sP3E)] ⟨litGet (by kernel_rfl), ⟨litGet (by kernel_rfl), ⟨litGet (by kernel_rfl), ⟨litGet (by kernel_rfl), ⟨litGet (by kernel_rfl), ⟨litGet (by kernel_rfl), ⟨litGet (by kernel_rfl), ⟨litGet (by kernel_rfl), ⟨litGet (by kernel_rfl), trivial⟩⟩⟩⟩⟩⟩⟩⟩⟩ (fun X65 => ?_)
 refine wp_seq_k fun K66 hK66 => ?_
 refine plStart ?_
 refine litVal (v := .agg ([.int .i64 0, .int .i64 0, .int .i64 0, .int .i64 100, .int .i64 30, .int .i64 1000]).toArray) rfl (wn rfl) (gLoadAg (vs := [.int .i64 0, .int .i64 0, .int .i64 0, .int .i64 100, .int .i64 30, .int .i64 1000]) (k := 0) 0 hm63 rfl (by kernel_rfl) (by kernel_rfl) (.tmp 1) Ty.ag_voxel_api_Viewer rfl (litEv (by kernel_rfl))) rfl (by decide) ?_
 refine plCall (i := 1) 23 [.int .i64 4, .agg ([.int .i64 0, .int .i64 0, .int .i64 0, .int .i64 100, .int .i64 30, .int .i64 1000]).toArray, .func (.func 28) #[] #[]] [] [] rfl (by kernel_rfl) (wn rfl) rfl (litEv (by kernel_rfl)) (litArgs (by kernel_rfl)) (by exact sP4_any _) ?_
 rintro e w67 ⟨v69, rfl, hown_, hbz⟩
 obtain ⟨A70, c71, rfl, hrd_⟩ := Rd.of_own hown_
 clear hrd_
 replace hown_ : World.ownsRow w67 _ 38 4 _ sP4.tiles.length (tlsC sP4.tiles) := hown_
 have hm68 := hm63.newRow hbz hown_
 clear hown_ hbz hm63
 try simp only [List.cons_append, List.nil_append, List.set_cons_succ, List.set_cons_zero] at hm68
 refine ⟨_, rfl, ?_⟩
 refine qP rfl ?_
 refine lk (v := .tuple #[.agg (plnC (.slice A70 sP4.tiles.length c71) sP4).toArray, .int .i64 sP4E]) rfl rfl rfl ?_
 refine lk (v := .agg (plnC (.slice A70 sP4.tiles.length c71) sP4).toArray) rfl rfl rfl ?_
 refine lk (v := .int .i64 sP4E) rfl rfl rfl ?_
 refine plAlloc (z := [.slice none 0 0, .int .i64 0, .int .i64 0, .int .i64 0]) Ty.ag_voxel_api_Planned hm68 (i := 5) rfl (wn rfl) rfl ?_
 intro g72 w74 hm73
 clear hm68
 try simp only [List.cons_append, List.nil_append, List.set_cons_succ, List.set_cons_zero] at hm73
 refine qP rfl ?_
 refine plStore 10 Ty.ag_voxel_api_Planned hm73 rfl (i := 6) (cs := plnC (.slice A70 sP4.tiles.length c71) sP4) rfl (wn rfl) rfl (litEv (by kernel_rfl)) (litEv (by kernel_rfl)) rfl rfl (by kernel_rfl) ?_
 intro w76 hm75
 clear hm73
 try simp only [List.cons_append, List.nil_append, List.set_cons_succ, List.set_cons_zero] at hm75
 refine qNone rfl ?_
 refine lk (v := .int .i64 sP4E) rfl rfl rfl ?_
 refine plD ?_
 refine then_normal (hK66 _ _ ?_)
 refine wp_seq_k fun K77 hK77 => ?_
 refine plStart ?_
 refine lk (v := .pointer (some ⟨g3, 3, none⟩)) rfl rfl rfl ?_
 refine plStore1 (v := .int .i64 0) (k := 3) 0 (by kernel_rfl) hm75 rfl (i := 1) rfl (wn rfl) rfl (litEv (by kernel_rfl)) (litEv (by kernel_rfl)) rfl rfl rfl ?_
 intro w79 hm78
 clear hm75
 try simp only [List.cons_append, List.nil_append, List.set_cons_succ, List.set_cons_zero] at hm78
 refine qNone rfl ?_
 refine plD ?_
 refine then_normal (hK77 _ _ ?_)
 refine wp_seq_k fun K80 hK80 => ?_
 refine plStart ?_
 refine litVal (v := .agg ([.int .i64 0, .int .i64 0, .int .i64 0, .int .i64 0, .int .i64 30, .int .i64 1000]).toArray) rfl (wn rfl) (gLoadAg (vs := [.int .i64 0, .int .i64 0, .int .i64 0, .int .i64 0, .int .i64 30, .int .i64 1000]) (k := 0) 0 hm78 rfl (by kernel_rfl) (by kernel_rfl) (.tmp 1) Ty.ag_voxel_api_Viewer rfl (litEv (by kernel_rfl))) rfl (by decide) ?_
 refine plCall (i := 1) 23 [.int .i64 4, .agg ([.int .i64 0, .int .i64 0, .int .i64 0, .int .i64 0, .int .i64 30, .int .i64 1000]).toArray, .func (.func 28) #[] #[]] [] [] rfl (by kernel_rfl) (wn rfl) rfl (litEv (by kernel_rfl)) (litArgs (by kernel_rfl)) (by exact sP5_any _) ?_
 rintro e w81 ⟨v83, rfl, hown_, hbz⟩
 obtain ⟨A84, c85, rfl, hrd_⟩ := Rd.of_own hown_
 clear hrd_
 replace hown_ : World.ownsRow w81 _ 38 4 _ sP5.tiles.length (tlsC sP5.tiles) := hown_
 have hm82 := hm78.newRow hbz hown_
 clear hown_ hbz hm78
 try simp only [List.cons_append, List.nil_append, List.set_cons_succ, List.set_cons_zero] at hm82
 refine ⟨_, rfl, ?_⟩
 refine qP rfl ?_
 refine lk (v := .tuple #[.agg (plnC (.slice A84 sP5.tiles.length c85) sP5).toArray, .int .i64 sP5E]) rfl rfl rfl ?_
 refine lk (v := .agg (plnC (.slice A84 sP5.tiles.length c85) sP5).toArray) rfl rfl rfl ?_
 refine lk (v := .int .i64 sP5E) rfl rfl rfl ?_
 refine plAlloc (z := [.slice none 0 0, .int .i64 0, .int .i64 0, .int .i64 0]) Ty.ag_voxel_api_Planned hm82 (i := 5) rfl (wn rfl) rfl ?_
 intro g86 w88 hm87
 clear hm82
 try simp only [List.cons_append, List.nil_append, List.set_cons_succ, List.set_cons_zero] at hm87
 refine qP rfl ?_
 refine plStore 12 Ty.ag_voxel_api_Planned hm87 rfl (i := 6) (cs := plnC (.slice A84 sP5.tiles.length c85) sP5) rfl (wn rfl) rfl (litEv (by kernel_rfl)) (litEv (by kernel_rfl)) rfl rfl (by kernel_rfl) ?_
 intro w90 hm89
 clear hm87
 try simp only [List.cons_append, List.nil_append, List.set_cons_succ, List.set_cons_zero] at hm89
 refine qNone rfl ?_
 refine lk (v := .int .i64 sP5E) rfl rfl rfl ?_
 refine plD ?_
 refine then_normal (hK80 _ _ ?_)
 refine wp_seq_k fun K91 hK91 => ?_
 refine plStart ?_
 refine litVal (v := .agg ([.int .i64 0, .int .i64 0, .int .i64 0, .int .i64 0, .int .i64 30, .int .i64 1000]).toArray) rfl (wn rfl) (gLoadAg (vs := [.int .i64 0, .int .i64 0, .int .i64 0, .int .i64 0, .int .i64 30, .int .i64 1000]) (k := 0) 0 hm89 rfl (by kernel_rfl) (by kernel_rfl) (.tmp 1) Ty.ag_voxel_api_Viewer rfl (litEv (by kernel_rfl))) rfl (by decide) ?_
 refine plCall (i := 1) 23 [.int .i64 1, .agg ([.int .i64 0, .int .i64 0, .int .i64 0, .int .i64 0, .int .i64 30, .int .i64 1000]).toArray, .func (.func 28) #[] #[]] [] [] rfl (by kernel_rfl) (wn rfl) rfl (litEv (by kernel_rfl)) (litArgs (by kernel_rfl)) (by exact sP6_any _) ?_
 rintro e w92 ⟨v94, rfl, hown_, hbz⟩
 obtain ⟨A95, c96, rfl, hrd_⟩ := Rd.of_own hown_
 clear hrd_
 replace hown_ : World.ownsRow w92 _ 38 4 _ sP6.tiles.length (tlsC sP6.tiles) := hown_
 have hm93 := hm89.newRow hbz hown_
 clear hown_ hbz hm89
 try simp only [List.cons_append, List.nil_append, List.set_cons_succ, List.set_cons_zero] at hm93
 refine ⟨_, rfl, ?_⟩
 refine qP rfl ?_
 refine lk (v := .tuple #[.agg (plnC (.slice A95 sP6.tiles.length c96) sP6).toArray, .int .i64 sP6E]) rfl rfl rfl ?_
 refine lk (v := .agg (plnC (.slice A95 sP6.tiles.length c96) sP6).toArray) rfl rfl rfl ?_
 refine lk (v := .int .i64 sP6E) rfl rfl rfl ?_
 refine plAlloc (z := [.slice none 0 0, .int .i64 0, .int .i64 0, .int .i64 0]) Ty.ag_voxel_api_Planned hm93 (i := 5) rfl (wn rfl) rfl ?_
 intro g97 w99 hm98
 clear hm93
 try simp only [List.cons_append, List.nil_append, List.set_cons_succ, List.set_cons_zero] at hm98
 refine qP rfl ?_
 refine plStore 14 Ty.ag_voxel_api_Planned hm98 rfl (i := 6) (cs := plnC (.slice A95 sP6.tiles.length c96) sP6) rfl (wn rfl) rfl (litEv (by kernel_rfl)) (litEv (by kernel_rfl)) rfl rfl (by kernel_rfl) ?_
 intro w101 hm100
 clear hm98
 try simp only [List.cons_append, List.nil_append, List.set_cons_succ, List.set_cons_zero] at hm100
 refine qNone rfl ?_
 refine lk (v := .int .i64 sP6E) rfl rfl rfl ?_
 refine plD ?_
 refine then_normal (hK91 _ _ ?_)
 refine wpPrune [(0, .bool false), (1, .pointer (some ⟨g3, 0, none⟩)), (3, .int .i64 sP0E), (4, .pointer (some ⟨g28, 0, none⟩)), (5, .int .i64 sP1E), (6, .pointer (some ⟨g43, 0, none⟩)), (7, .int .i64 sP2E), (8, .pointer (some ⟨g57, 0, none⟩)), (9, .int .i64 sP3E), (10, .pointer (some ⟨g72, 0, none⟩)), (11, .int .i64 sP4E), (13, .int .i64 sP5E), (15, .int .i64 sP6E)] ⟨litGet (by kernel_rfl), ⟨litGet (by kernel_rfl), ⟨litGet (by kernel_rfl), ⟨litGet (by kernel_rfl), ⟨litGet (by kernel_rfl), ⟨litGet (by kernel_rfl), ⟨litGet (by kernel_rfl), ⟨litGet (by kernel_rfl), ⟨litGet (by kernel_rfl), ⟨litGet (by kernel_rfl), ⟨litGet (by kernel_rfl), ⟨litGet (by kernel_rfl), ⟨litGet (by kernel_rfl), trivial⟩⟩⟩⟩⟩⟩⟩⟩⟩⟩⟩⟩⟩ (fun X102 => ?_)
 refine wp_seq_k fun K103 hK103 => ?_
 refine plStart ?_
 refine lk (v := .pointer (some ⟨g3, 3, none⟩)) rfl rfl rfl ?_
 refine plStore1 (v := .int .i64 100) (k := 3) 0 (by kernel_rfl) hm100 rfl (i := 1) rfl (wn rfl) rfl (litEv (by kernel_rfl)) (litEv (by kernel_rfl)) rfl rfl rfl ?_
 intro w105 hm104
 clear hm100
 try simp only [List.cons_append, List.nil_append, List.set_cons_succ, List.set_cons_zero] at hm104
 refine qNone rfl ?_
 refine plD ?_
 refine then_normal (hK103 _ _ ?_)
 refine wp_seq_k fun K106 hK106 => ?_
 refine plStart ?_
 refine lk (v := .int .i64 sP0E) rfl rfl rfl ?_
 refine litVal (v := .bool true) rfl (wn rfl) (boolTo (decide_eq_true (by decide +kernel : sP0E = 17)) (eqlRun (A := sP0E) (B := 17) (.tmp 60) (.const (.int .i64 17)) rfl (litEv (by kernel_rfl)) (litEv (by kernel_rfl)))) rfl (by decide) ?_
 refine lk (v := .bool true) rfl rfl rfl ?_
 refine litVal (v := .int .i64 sP1E) rfl (wgY rfl rfl rfl (by decide) (by kernel_rfl)) (litRun (by kernel_rfl)) rfl (by decide) ?_
 refine litVal (v := .bool true) rfl (wgY rfl rfl rfl (by decide) (by kernel_rfl)) (boolTo (decide_eq_true (by decide +kernel : sP1E = 0)) (eqlRun (A := sP1E) (B := 0) (.tmp 63) (.const (.int .i64 0)) rfl (litEv (by kernel_rfl)) (litEv (by kernel_rfl)))) rfl (by decide) ?_
 refine lk (v := .bool true) rfl rfl rfl ?_
 refine lk (v := .bool true) rfl rfl rfl ?_
 refine litVal (v := .pointer (some ⟨g28, 0, none⟩)) rfl (wgY rfl rfl rfl (by decide) (by kernel_rfl)) (litRun (by kernel_rfl)) rfl (by decide) ?_
 refine litVal (v := .slice A26 sP1.tiles.length c27) rfl (wgY rfl rfl rfl (by decide) (by kernel_rfl)) (gLoad (v := .slice A26 sP1.tiles.length c27) (k := 0) 4 hm104 rfl (by kernel_rfl) (.tmp 67) (by kernel_rfl) rfl (litEv (by kernel_rfl))) rfl (by decide) ?_
 refine litVal (v := .int .i64 (sP1.tiles.length : Int)) rfl (wgY rfl rfl rfl (by decide) (by kernel_rfl)) (lenSlRun (A := A26) (n := sP1.tiles.length) (c := c27) (.tmp 68) Ty.und_L_api_Tile rfl (litEv (by kernel_rfl))) rfl (by decide) ?_
 refine litVal (v := .bool true) rfl (wgY rfl rfl rfl (by decide) (by kernel_rfl)) (boolTo (decide_eq_true (by decide +kernel : (sP1.tiles.length : Int) = 1)) (eqlRun (A := (sP1.tiles.length : Int)) (B := 1) (.tmp 69) (.const (.int .i64 1)) rfl (litEv (by kernel_rfl)) (litEv (by kernel_rfl)))) rfl (by decide) ?_
 refine lk (v := .bool true) rfl rfl rfl ?_
 refine lk (v := .bool true) rfl rfl rfl ?_
 refine litVal (v := .pointer (some ⟨g28, 1, none⟩)) rfl (wgY rfl rfl rfl (by decide) (by kernel_rfl)) (litRun (by kernel_rfl)) rfl (by decide) ?_
 refine litVal (v := .int .i64 sP1.cost) rfl (wgY rfl rfl rfl (by decide) (by kernel_rfl)) (gLoad (v := .int .i64 sP1.cost) (k := 1) 4 hm104 rfl (by kernel_rfl) (.tmp 73) (by kernel_rfl) rfl (litEv (by kernel_rfl))) rfl (by decide) ?_
 refine litVal (v := .bool true) rfl (wgY rfl rfl rfl (by decide) (by kernel_rfl)) (boolTo (decide_eq_true (by decide +kernel : sP1.cost = 10)) (eqlRun (A := sP1.cost) (B := 10) (.tmp 74) (.const (.int .i64 10)) rfl (litEv (by kernel_rfl)) (litEv (by kernel_rfl)))) rfl (by decide) ?_
 refine lk (v := .bool true) rfl rfl rfl ?_
 refine lk (v := .bool true) rfl rfl rfl ?_
 refine litVal (v := .pointer (some ⟨g28, 2, none⟩)) rfl (wgY rfl rfl rfl (by decide) (by kernel_rfl)) (litRun (by kernel_rfl)) rfl (by decide) ?_
 refine litVal (v := .int .i64 sP1.bound) rfl (wgY rfl rfl rfl (by decide) (by kernel_rfl)) (gLoad (v := .int .i64 sP1.bound) (k := 2) 4 hm104 rfl (by kernel_rfl) (.tmp 78) (by kernel_rfl) rfl (litEv (by kernel_rfl))) rfl (by decide) ?_
 refine litVal (v := .bool true) rfl (wgY rfl rfl rfl (by decide) (by kernel_rfl)) (boolTo (decide_eq_true (by decide +kernel : sP1.bound = 4)) (eqlRun (A := sP1.bound) (B := 4) (.tmp 79) (.const (.int .i64 4)) rfl (litEv (by kernel_rfl)) (litEv (by kernel_rfl)))) rfl (by decide) ?_
 refine lk (v := .bool true) rfl rfl rfl ?_
 refine lk (v := .bool true) rfl rfl rfl ?_
 refine litVal (v := .pointer (some ⟨g28, 3, none⟩)) rfl (wgY rfl rfl rfl (by decide) (by kernel_rfl)) (litRun (by kernel_rfl)) rfl (by decide) ?_
 refine litVal (v := .int .i64 sP1.worst) rfl (wgY rfl rfl rfl (by decide) (by kernel_rfl)) (gLoad (v := .int .i64 sP1.worst) (k := 3) 4 hm104 rfl (by kernel_rfl) (.tmp 83) (by kernel_rfl) rfl (litEv (by kernel_rfl))) rfl (by decide) ?_
 refine litVal (v := .bool true) rfl (wgY rfl rfl rfl (by decide) (by kernel_rfl)) (boolTo (decide_eq_true (by decide +kernel : sP1.worst = 400)) (eqlRun (A := sP1.worst) (B := 400) (.tmp 84) (.const (.int .i64 400)) rfl (litEv (by kernel_rfl)) (litEv (by kernel_rfl)))) rfl (by decide) ?_
 refine lk (v := .bool true) rfl rfl rfl ?_
 refine lk (v := .bool true) rfl rfl rfl ?_
 refine litVal (v := .int .i64 sP2E) rfl (wgY rfl rfl rfl (by decide) (by kernel_rfl)) (litRun (by kernel_rfl)) rfl (by decide) ?_
 refine litVal (v := .bool true) rfl (wgY rfl rfl rfl (by decide) (by kernel_rfl)) (boolTo (decide_eq_true (by decide +kernel : sP2E = 0)) (eqlRun (A := sP2E) (B := 0) (.tmp 88) (.const (.int .i64 0)) rfl (litEv (by kernel_rfl)) (litEv (by kernel_rfl)))) rfl (by decide) ?_
 refine lk (v := .bool true) rfl rfl rfl ?_
 refine lk (v := .bool true) rfl rfl rfl ?_
 refine litVal (v := .pointer (some ⟨g43, 0, none⟩)) rfl (wgY rfl rfl rfl (by decide) (by kernel_rfl)) (litRun (by kernel_rfl)) rfl (by decide) ?_
 refine litVal (v := .slice A41 sP2.tiles.length c42) rfl (wgY rfl rfl rfl (by decide) (by kernel_rfl)) (gLoad (v := .slice A41 sP2.tiles.length c42) (k := 0) 6 hm104 rfl (by kernel_rfl) (.tmp 92) (by kernel_rfl) rfl (litEv (by kernel_rfl))) rfl (by decide) ?_
 refine litVal (v := .int .i64 (sP2.tiles.length : Int)) rfl (wgY rfl rfl rfl (by decide) (by kernel_rfl)) (lenSlRun (A := A41) (n := sP2.tiles.length) (c := c42) (.tmp 93) Ty.und_L_api_Tile rfl (litEv (by kernel_rfl))) rfl (by decide) ?_
 refine litVal (v := .bool true) rfl (wgY rfl rfl rfl (by decide) (by kernel_rfl)) (boolTo (decide_eq_true (by decide +kernel : (sP2.tiles.length : Int) = 8)) (eqlRun (A := (sP2.tiles.length : Int)) (B := 8) (.tmp 94) (.const (.int .i64 8)) rfl (litEv (by kernel_rfl)) (litEv (by kernel_rfl)))) rfl (by decide) ?_
 refine lk (v := .bool true) rfl rfl rfl ?_
 refine lk (v := .bool true) rfl rfl rfl ?_
 refine litVal (v := .pointer (some ⟨g43, 3, none⟩)) rfl (wgY rfl rfl rfl (by decide) (by kernel_rfl)) (litRun (by kernel_rfl)) rfl (by decide) ?_
 refine litVal (v := .int .i64 sP2.worst) rfl (wgY rfl rfl rfl (by decide) (by kernel_rfl)) (gLoad (v := .int .i64 sP2.worst) (k := 3) 6 hm104 rfl (by kernel_rfl) (.tmp 98) (by kernel_rfl) rfl (litEv (by kernel_rfl))) rfl (by decide) ?_
 refine litVal (v := .bool true) rfl (wgY rfl rfl rfl (by decide) (by kernel_rfl)) (boolTo (decide_eq_true (by decide +kernel : sP2.worst = 200)) (eqlRun (A := sP2.worst) (B := 200) (.tmp 99) (.const (.int .i64 200)) rfl (litEv (by kernel_rfl)) (litEv (by kernel_rfl)))) rfl (by decide) ?_
 refine lk (v := .bool true) rfl rfl rfl ?_
 refine lk (v := .bool true) rfl rfl rfl ?_
 refine litVal (v := .pointer (some ⟨g43, 2, none⟩)) rfl (wgY rfl rfl rfl (by decide) (by kernel_rfl)) (litRun (by kernel_rfl)) rfl (by decide) ?_
 refine litVal (v := .int .i64 sP2.bound) rfl (wgY rfl rfl rfl (by decide) (by kernel_rfl)) (gLoad (v := .int .i64 sP2.bound) (k := 2) 6 hm104 rfl (by kernel_rfl) (.tmp 103) (by kernel_rfl) rfl (litEv (by kernel_rfl))) rfl (by decide) ?_
 refine litVal (v := .bool true) rfl (wgY rfl rfl rfl (by decide) (by kernel_rfl)) (boolTo (decide_eq_true (by decide +kernel : sP2.bound = 2)) (eqlRun (A := sP2.bound) (B := 2) (.tmp 104) (.const (.int .i64 2)) rfl (litEv (by kernel_rfl)) (litEv (by kernel_rfl)))) rfl (by decide) ?_
 refine lk (v := .bool true) rfl rfl rfl ?_
 refine lk (v := .bool true) rfl rfl rfl ?_
 refine plD ?_
 refine then_normal (hK106 _ _ ?_)
 refine wpPrune [(0, .bool false), (1, .pointer (some ⟨g3, 0, none⟩)), (6, .pointer (some ⟨g43, 0, none⟩)), (8, .pointer (some ⟨g57, 0, none⟩)), (9, .int .i64 sP3E), (10, .pointer (some ⟨g72, 0, none⟩)), (11, .int .i64 sP4E), (13, .int .i64 sP5E), (15, .int .i64 sP6E), (16, .bool true)] ⟨litGet (by kernel_rfl), ⟨litGet (by kernel_rfl), ⟨litGet (by kernel_rfl), ⟨litGet (by kernel_rfl), ⟨litGet (by kernel_rfl), ⟨litGet (by kernel_rfl), ⟨litGet (by kernel_rfl), ⟨litGet (by kernel_rfl), ⟨litGet (by kernel_rfl), ⟨litGet (by kernel_rfl), trivial⟩⟩⟩⟩⟩⟩⟩⟩⟩⟩ (fun X107 => ?_)
 refine wp_seq_k fun K108 hK108 => ?_
 refine plStart ?_
 refine lk (v := .int .i64 sP3E) rfl rfl rfl ?_
 refine litVal (v := .bool true) rfl (wn rfl) (boolTo (decide_eq_true (by decide +kernel : sP3E = 0)) (eqlRun (A := sP3E) (B := 0) (.tmp 107) (.const (.int .i64 0)) rfl (litEv (by kernel_rfl)) (litEv (by kernel_rfl)))) rfl (by decide) ?_
 refine lk (v := .bool true) rfl rfl rfl ?_
 refine litVal (v := .pointer (some ⟨g57, 0, none⟩)) rfl (wgY rfl rfl rfl (by decide) (by kernel_rfl)) (litRun (by kernel_rfl)) rfl (by decide) ?_
 refine litVal (v := .slice A55 sP3.tiles.length c56) rfl (wgY rfl rfl rfl (by decide) (by kernel_rfl)) (gLoad (v := .slice A55 sP3.tiles.length c56) (k := 0) 8 hm104 rfl (by kernel_rfl) (.tmp 110) (by kernel_rfl) rfl (litEv (by kernel_rfl))) rfl (by decide) ?_
 refine litVal (v := .int .i64 (sP3.tiles.length : Int)) rfl (wgY rfl rfl rfl (by decide) (by kernel_rfl)) (lenSlRun (A := A55) (n := sP3.tiles.length) (c := c56) (.tmp 111) Ty.und_L_api_Tile rfl (litEv (by kernel_rfl))) rfl (by decide) ?_
 refine litVal (v := .bool true) rfl (wgY rfl rfl rfl (by decide) (by kernel_rfl)) (boolTo (decide_eq_true (by decide +kernel : (sP3.tiles.length : Int) = 15)) (eqlRun (A := (sP3.tiles.length : Int)) (B := 15) (.tmp 112) (.const (.int .i64 15)) rfl (litEv (by kernel_rfl)) (litEv (by kernel_rfl)))) rfl (by decide) ?_
 refine lk (v := .bool true) rfl rfl rfl ?_
 refine lk (v := .bool true) rfl rfl rfl ?_
 refine litVal (v := .pointer (some ⟨g57, 3, none⟩)) rfl (wgY rfl rfl rfl (by decide) (by kernel_rfl)) (litRun (by kernel_rfl)) rfl (by decide) ?_
 refine litVal (v := .int .i64 sP3.worst) rfl (wgY rfl rfl rfl (by decide) (by kernel_rfl)) (gLoad (v := .int .i64 sP3.worst) (k := 3) 8 hm104 rfl (by kernel_rfl) (.tmp 116) (by kernel_rfl) rfl (litEv (by kernel_rfl))) rfl (by decide) ?_
 refine litVal (v := .bool true) rfl (wgY rfl rfl rfl (by decide) (by kernel_rfl)) (boolTo (decide_eq_true (by decide +kernel : sP3.worst = 100)) (eqlRun (A := sP3.worst) (B := 100) (.tmp 117) (.const (.int .i64 100)) rfl (litEv (by kernel_rfl)) (litEv (by kernel_rfl)))) rfl (by decide) ?_
 refine lk (v := .bool true) rfl rfl rfl ?_
 refine lk (v := .bool true) rfl rfl rfl ?_
 refine litVal (v := .pointer (some ⟨g57, 1, none⟩)) rfl (wgY rfl rfl rfl (by decide) (by kernel_rfl)) (litRun (by kernel_rfl)) rfl (by decide) ?_
 refine litVal (v := .int .i64 sP3.cost) rfl (wgY rfl rfl rfl (by decide) (by kernel_rfl)) (gLoad (v := .int .i64 sP3.cost) (k := 1) 8 hm104 rfl (by kernel_rfl) (.tmp 121) (by kernel_rfl) rfl (litEv (by kernel_rfl))) rfl (by decide) ?_
 refine litVal (v := .bool true) rfl (wgY rfl rfl rfl (by decide) (by kernel_rfl)) (boolTo (decide_eq_true (by decide +kernel : sP3.cost = 150)) (eqlRun (A := sP3.cost) (B := 150) (.tmp 122) (.const (.int .i64 150)) rfl (litEv (by kernel_rfl)) (litEv (by kernel_rfl)))) rfl (by decide) ?_
 refine lk (v := .bool true) rfl rfl rfl ?_
 refine lk (v := .bool true) rfl rfl rfl ?_
 refine litVal (v := .pointer (some ⟨g57, 2, none⟩)) rfl (wgY rfl rfl rfl (by decide) (by kernel_rfl)) (litRun (by kernel_rfl)) rfl (by decide) ?_
 refine litVal (v := .int .i64 sP3.bound) rfl (wgY rfl rfl rfl (by decide) (by kernel_rfl)) (gLoad (v := .int .i64 sP3.bound) (k := 2) 8 hm104 rfl (by kernel_rfl) (.tmp 126) (by kernel_rfl) rfl (litEv (by kernel_rfl))) rfl (by decide) ?_
 refine litVal (v := .bool true) rfl (wgY rfl rfl rfl (by decide) (by kernel_rfl)) (boolTo (decide_eq_true (by decide +kernel : sP3.bound = 2)) (eqlRun (A := sP3.bound) (B := 2) (.tmp 127) (.const (.int .i64 2)) rfl (litEv (by kernel_rfl)) (litEv (by kernel_rfl)))) rfl (by decide) ?_
 refine lk (v := .bool true) rfl rfl rfl ?_
 refine lk (v := .bool true) rfl rfl rfl ?_
 refine litVal (v := .int .i64 sP4E) rfl (wgY rfl rfl rfl (by decide) (by kernel_rfl)) (litRun (by kernel_rfl)) rfl (by decide) ?_
 refine litVal (v := .bool true) rfl (wgY rfl rfl rfl (by decide) (by kernel_rfl)) (boolTo (decide_eq_true (by decide +kernel : sP4E = 0)) (eqlRun (A := sP4E) (B := 0) (.tmp 131) (.const (.int .i64 0)) rfl (litEv (by kernel_rfl)) (litEv (by kernel_rfl)))) rfl (by decide) ?_
 refine lk (v := .bool true) rfl rfl rfl ?_
 refine lk (v := .bool true) rfl rfl rfl ?_
 refine litVal (v := .agg (plnC (.slice A55 sP3.tiles.length c56) sP3).toArray) rfl (wgY rfl rfl rfl (by decide) (by kernel_rfl)) (gLoadAg (vs := plnC (.slice A55 sP3.tiles.length c56) sP3) (k := 0) 8 hm104 rfl (by kernel_rfl) (by kernel_rfl) (.tmp 8) Ty.ag_voxel_api_Planned rfl (litEv (by kernel_rfl))) rfl (by decide) ?_
 refine litVal (v := .agg (plnC (.slice A70 sP4.tiles.length c71) sP4).toArray) rfl (wgY rfl rfl rfl (by decide) (by kernel_rfl)) (gLoadAg (vs := plnC (.slice A70 sP4.tiles.length c71) sP4) (k := 0) 10 hm104 rfl (by kernel_rfl) (by kernel_rfl) (.tmp 10) Ty.ag_voxel_api_Planned rfl (litEv (by kernel_rfl))) rfl (by decide) ?_
 refine plCall (i := 30) 11 [.agg (plnC (.slice A55 sP3.tiles.length c56) sP3).toArray, .agg (plnC (.slice A70 sP4.tiles.length c71) sP4).toArray] [] [] rfl (by kernel_rfl) (wgY rfl rfl rfl (by decide) (by kernel_rfl)) rfl (litEv (by kernel_rfl)) (litArgs (by kernel_rfl)) (same_any sP3 sP4 (A55) (A70) c56 c71 _ (hm104.rdRow 7 rfl) (hm104.rdRow 9 rfl)) ?_
 rintro e w109 ⟨rfl, hbz⟩
 have hm110 := hm104.below hbz
 clear hbz hm104
 rw [(by decide +kernel : (decide (sP3 = sP4)) = true)]
 refine ⟨_, rfl, ?_⟩
 refine qP rfl ?_
 refine lk (v := .bool true) rfl rfl rfl ?_
 refine lk (v := .bool true) rfl rfl rfl ?_
 refine litVal (v := .int .i64 sP5E) rfl (wgY rfl rfl rfl (by decide) (by kernel_rfl)) (litRun (by kernel_rfl)) rfl (by decide) ?_
 refine litVal (v := .bool true) rfl (wgY rfl rfl rfl (by decide) (by kernel_rfl)) (boolTo (decide_eq_true (by decide +kernel : sP5E = 1)) (eqlRun (A := sP5E) (B := 1) (.tmp 140) (.const (.int .i64 1)) rfl (litEv (by kernel_rfl)) (litEv (by kernel_rfl)))) rfl (by decide) ?_
 refine lk (v := .bool true) rfl rfl rfl ?_
 refine lk (v := .bool true) rfl rfl rfl ?_
 refine litVal (v := .int .i64 sP6E) rfl (wgY rfl rfl rfl (by decide) (by kernel_rfl)) (litRun (by kernel_rfl)) rfl (by decide) ?_
 refine litVal (v := .bool true) rfl (wgY rfl rfl rfl (by decide) (by kernel_rfl)) (boolTo (decide_eq_true (by decide +kernel : sP6E = 13)) (eqlRun (A := sP6E) (B := 13) (.tmp 144) (.const (.int .i64 13)) rfl (litEv (by kernel_rfl)) (litEv (by kernel_rfl)))) rfl (by decide) ?_
 refine lk (v := .bool true) rfl rfl rfl ?_
 refine lk (v := .bool true) rfl rfl rfl ?_
 refine plD ?_
 refine then_normal (hK108 _ _ ?_)
 refine wpPrune [(0, .bool false), (1, .pointer (some ⟨g3, 0, none⟩)), (6, .pointer (some ⟨g43, 0, none⟩)), (8, .pointer (some ⟨g57, 0, none⟩)), (16, .bool true), (17, .bool true)] ⟨litGet (by kernel_rfl), ⟨litGet (by kernel_rfl), ⟨litGet (by kernel_rfl), ⟨litGet (by kernel_rfl), ⟨litGet (by kernel_rfl), ⟨litGet (by kernel_rfl), trivial⟩⟩⟩⟩⟩⟩ (fun X111 => ?_)
 refine wp_seq_k fun K112 hK112 => ?_
 refine plStart ?_
 refine lk (v := .bool true) rfl rfl rfl ?_
 refine lk (v := .bool true) rfl rfl rfl ?_
 refine litVal (v := .bool true) rfl (wgY rfl rfl rfl (by decide) (by kernel_rfl)) (litRun (by kernel_rfl)) rfl (by decide) ?_
 refine lk (v := .bool true) rfl rfl rfl ?_
 refine lk (v := .bool true) rfl rfl rfl ?_
 refine litVal (v := .agg ([.int .i64 0, .int .i64 0, .int .i64 0, .int .i64 100, .int .i64 30, .int .i64 1000]).toArray) rfl (wgY rfl rfl rfl (by decide) (by kernel_rfl)) (gLoadAg (vs := [.int .i64 0, .int .i64 0, .int .i64 0, .int .i64 100, .int .i64 30, .int .i64 1000]) (k := 0) 0 hm110 rfl (by kernel_rfl) (by kernel_rfl) (.tmp 1) Ty.ag_voxel_api_Viewer rfl (litEv (by kernel_rfl))) rfl (by decide) ?_
 refine litVal (v := .agg (pcs ⟨8, 8, 8⟩).toArray) rfl (wgY rfl rfl rfl (by decide) (by kernel_rfl)) (litRun (by kernel_rfl)) rfl (by decide) ?_
 refine litVal (v := .agg (tlc ⟨1, ⟨8, 8, 8⟩⟩).toArray) rfl (wgY rfl rfl rfl (by decide) (by kernel_rfl)) (litRun (by kernel_rfl)) rfl (by decide) ?_
 refine plCall (i := 8) 14 [.agg ([.int .i64 0, .int .i64 0, .int .i64 0, .int .i64 100, .int .i64 30, .int .i64 1000]).toArray, .agg (tlc ⟨1, ⟨8, 8, 8⟩⟩).toArray] [] [] rfl (by kernel_rfl) (wgY rfl rfl rfl (by decide) (by kernel_rfl)) rfl (litEv (by kernel_rfl)) (litArgs (by kernel_rfl)) (by exact err_any ⟨⟨0, 0, 0⟩, 100, 30, 1000⟩ ⟨1, ⟨8, 8, 8⟩⟩ (by decide) ⟨by decide, by decide, by decide, by decide⟩ _) ?_
 rintro e w113 ⟨rfl, hbz⟩
 have hm114 := hm110.below hbz
 clear hbz hm110
 refine ⟨_, rfl, ?_⟩
 refine qP rfl ?_
 refine litVal (v := .bool true) rfl (wgY rfl rfl rfl (by decide) (by kernel_rfl)) (boolTo (decide_eq_true (by decide +kernel : (err ⟨⟨0, 0, 0⟩, 100, 30, 1000⟩ ⟨1, ⟨8, 8, 8⟩⟩) = 25)) (eqlRun (A := (err ⟨⟨0, 0, 0⟩, 100, 30, 1000⟩ ⟨1, ⟨8, 8, 8⟩⟩)) (B := 25) (.tmp 155) (.const (.int .i64 25)) rfl (litEv (by kernel_rfl)) (litEv (by kernel_rfl)))) rfl (by decide) ?_
 refine lk (v := .bool true) rfl rfl rfl ?_
 refine lk (v := .bool true) rfl rfl rfl ?_
 refine litVal (v := .agg ([.int .i64 0, .int .i64 0, .int .i64 0, .int .i64 100, .int .i64 30, .int .i64 1000]).toArray) rfl (wgY rfl rfl rfl (by decide) (by kernel_rfl)) (gLoadAg (vs := [.int .i64 0, .int .i64 0, .int .i64 0, .int .i64 100, .int .i64 30, .int .i64 1000]) (k := 0) 0 hm114 rfl (by kernel_rfl) (by kernel_rfl) (.tmp 1) Ty.ag_voxel_api_Viewer rfl (litEv (by kernel_rfl))) rfl (by decide) ?_
 refine plCall (i := 13) 12 [.agg ([.int .i64 0, .int .i64 0, .int .i64 0, .int .i64 100, .int .i64 30, .int .i64 1000]).toArray] [] [] rfl (by kernel_rfl) (wgY rfl rfl rfl (by decide) (by kernel_rfl)) rfl (litEv (by kernel_rfl)) (litArgs (by kernel_rfl)) (by exact check_any ⟨⟨0, 0, 0⟩, 100, 30, 1000⟩ _) ?_
 rintro e w115 ⟨rfl, hbz⟩
 have hm116 := hm114.below hbz
 clear hbz hm114
 refine ⟨_, rfl, ?_⟩
 refine qP rfl ?_
 refine litVal (v := .bool true) rfl (wgY rfl rfl rfl (by decide) (by kernel_rfl)) (boolTo (decide_eq_true (by decide +kernel : (ckV ⟨⟨0, 0, 0⟩, 100, 30, 1000⟩) = 0)) (eqlRun (A := (ckV ⟨⟨0, 0, 0⟩, 100, 30, 1000⟩)) (B := 0) (.tmp 160) (.const (.int .i64 0)) rfl (litEv (by kernel_rfl)) (litEv (by kernel_rfl)))) rfl (by decide) ?_
 refine lk (v := .bool true) rfl rfl rfl ?_
 refine lk (v := .bool true) rfl rfl rfl ?_
 refine litVal (v := .pointer (some ⟨g43, 0, none⟩)) rfl (wgY rfl rfl rfl (by decide) (by kernel_rfl)) (litRun (by kernel_rfl)) rfl (by decide) ?_
 refine litVal (v := .slice A41 sP2.tiles.length c42) rfl (wgY rfl rfl rfl (by decide) (by kernel_rfl)) (gLoad (v := .slice A41 sP2.tiles.length c42) (k := 0) 6 hm116 rfl (by kernel_rfl) (.tmp 164) (by kernel_rfl) rfl (litEv (by kernel_rfl))) rfl (by decide) ?_
 refine litVal (v := .pointer (some ⟨g57, 0, none⟩)) rfl (wgY rfl rfl rfl (by decide) (by kernel_rfl)) (litRun (by kernel_rfl)) rfl (by decide) ?_
 refine litVal (v := .slice A55 sP3.tiles.length c56) rfl (wgY rfl rfl rfl (by decide) (by kernel_rfl)) (gLoad (v := .slice A55 sP3.tiles.length c56) (k := 0) 8 hm116 rfl (by kernel_rfl) (.tmp 166) (by kernel_rfl) rfl (litEv (by kernel_rfl))) rfl (by decide) ?_
 refine plCall (i := 21) 17 [.slice A41 sP2.tiles.length c42, .slice A55 sP3.tiles.length c56] [] [] rfl (by kernel_rfl) (wgY rfl rfl rfl (by decide) (by kernel_rfl)) rfl (litEv (by kernel_rfl)) (litArgs (by kernel_rfl)) (added_any sP2.tiles sP3.tiles (A41) (A55) c42 c56 _ (hm116.rdRow 5 rfl) (hm116.rdRow 7 rfl) (Nat.le_trans sP2_len (by decide)) (Nat.le_trans sP3_len (by decide)) (fun t h => (sP2_ok t h).fit64) (fun t h => (sP3_ok t h).fit64)) ?_
 rintro e w117 ⟨v119, rfl, hown_, hbz⟩
 obtain ⟨A120, c121, rfl, hrd_⟩ := Rd.of_own hown_
 clear hrd_
 replace hown_ : World.ownsRow w117 _ 38 4 _ ((added sP2.tiles sP3.tiles).length) (tlsC (added sP2.tiles sP3.tiles)) := hown_
 have hm118 := hm116.newRow hbz hown_
 clear hown_ hbz
 clear hm116
 try simp only [List.cons_append, List.nil_append, List.set_cons_succ, List.set_cons_zero] at hm118
 refine ⟨_, rfl, ?_⟩
 refine qP rfl ?_
 refine litVal (v := .int .i64 ((added sP2.tiles sP3.tiles).length : Int)) rfl (wgY rfl rfl rfl (by decide) (by kernel_rfl)) (lenSlRun (A := A120) (n := (added sP2.tiles sP3.tiles).length) (c := c121) (.tmp 168) Ty.und_L_api_Tile rfl (litEv (by kernel_rfl))) rfl (by decide) ?_
 refine litVal (v := .bool true) rfl (wgY rfl rfl rfl (by decide) (by kernel_rfl)) (boolTo (decide_eq_true (by decide +kernel : ((added sP2.tiles sP3.tiles).length : Int) = 8)) (eqlRun (A := ((added sP2.tiles sP3.tiles).length : Int)) (B := 8) (.tmp 169) (.const (.int .i64 8)) rfl (litEv (by kernel_rfl)) (litEv (by kernel_rfl)))) rfl (by decide) ?_
 refine lk (v := .bool true) rfl rfl rfl ?_
 refine lk (v := .bool true) rfl rfl rfl ?_
 refine plD ?_
 refine then_normal (hK112 _ _ ?_)
 refine wpPrune [(0, .bool true)] ⟨litGet (by kernel_rfl), trivial⟩ (fun X122 => ?_)
 refine wp_ret ?_
 refine bodyPost_ret (v := .bool true) (gRes1 rfl (gResTmp (t := 0) (v := .bool true) (litGet (by kernel_rfl)))) rfl ?_
 exact ⟨by rfl, hm118.bel⟩
end Go.Proofs.Ytkmhjgdpkddbnaa
namespace Go.Proofs.Ytkmhjgdpkddbnaa
open Go.RowKit Go.ChangeShapes Go.WideShapes
section
variable {H : Type} {enc : TypeId × Value → H} {W : World} {held : Bool} {b0 : Nat} {r : Reach}
end
end Go.Proofs.Ytkmhjgdpkddbnaa
