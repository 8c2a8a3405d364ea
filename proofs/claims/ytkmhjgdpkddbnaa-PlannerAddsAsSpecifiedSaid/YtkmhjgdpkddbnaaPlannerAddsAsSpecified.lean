/-
  PlannerAddsAsSpecified: Added returns what is specified.
-/
import Derived.Test.YtkmhjgdpkddbnaaPH
namespace Go.Proofs.Ytkmhjgdpkddbnaa
open Go.RowKit
set_option linter.unusedVariables false
set_option linter.unusedSimpArgs false

set_option maxRecDepth 100000 in
set_option maxHeartbeats 4000000 in
theorem walk_PlannerAddsAsSpecified (l : List Tl) (A : Option Addr) (c : Nat) (m : List Tl) (B : Option Addr) (d : Nat) (w : World) (hA : Rd w w.heap.size 4 A l.length c (tlsC l)) (hfl : ∀ t ∈ l, t.Fit64) (hB : Rd w w.heap.size 4 B m.length d (tlsC m)) (hfm : ∀ t ∈ m, t.Fit64) : Calls Try.prog 4 #[.slice A l.length c, .slice B m.length d] w (RetB w true) := by
  have hm0 := Mem.nil w
  go_enter Try.func4, Try.ntmps4
  refine litStart 24 [(0, .slice A l.length c), (1, .slice B m.length d)] (by kernel_rfl) (fun X0 => ?_)
  refine wp_seq_k fun K1 hK1 => ?_
  refine plStart ?_
  refine lk (v := .bool false) rfl rfl rfl ?_
  refine plD ?_
  refine then_normal (hK1 _ _ ?_)
  refine wp_seq_k fun K2 hK2 => ?_
  refine wp_seq_k fun K3 hK3 => ?_
  refine plStart ?_
  refine lk (v := .slice A l.length c) rfl rfl rfl ?_
  refine litVal (v := .int .i64 (l.length : Int)) rfl (wn rfl) (lenSlRun (A := A) (n := l.length) (c := c) (.tmp 5) Ty.und_L_api_Tile rfl (litEv (by kernel_rfl))) rfl (by decide) ?_
  by_cases h4 : 100 < (l.length : Int)
  · refine litVal (v := .bool true) rfl (wn rfl) (boolTo (decide_eq_true h4) (gtrRun (A := (l.length : Int)) (B := 100) (.tmp 6) (.const (.int .i64 100)) rfl (litEv (by kernel_rfl)) (litEv (by kernel_rfl)))) rfl (by decide) ?_
    refine lk (v := .bool true) rfl rfl rfl ?_
    refine plSkip (i := 4) rfl (wgN rfl rfl rfl (by decide) (by kernel_rfl)) ?_
    refine qP rfl ?_
    refine plSkip (i := 5) rfl (wgN rfl rfl rfl (by decide) (by kernel_rfl)) ?_
    refine qP rfl ?_
    refine plSkip (i := 6) rfl (wgN rfl rfl rfl (by decide) (by kernel_rfl)) ?_
    refine qP rfl ?_
    refine lk (v := .bool true) rfl rfl rfl ?_
    refine plD ?_
    refine then_normal (hK3 _ _ ?_)
    refine wp_cond_true (litEv (by kernel_rfl)) ?_
    refine wp_seq_k fun K5 hK5 => ?_
    refine plStart ?_
    refine plCall (i := 0) 8 [] [] [] rfl (by kernel_rfl) (wn rfl) rfl (litEv (by kernel_rfl)) (litArgs (by kernel_rfl)) (sanity_any _) ?_
    rintro e w6 ⟨rfl, hbz⟩
    have hm7 := hm0.below hbz
    clear hbz hm0
    refine ⟨_, rfl, ?_⟩
    refine qP rfl ?_
    refine lk (v := .bool true) rfl rfl rfl ?_
    refine plD ?_
    refine then_normal (hK5 _ _ ?_)
    refine wp_ret ?_
    refine then_ret ?_
    refine bodyPost_ret (v := .bool true) (gRes1 rfl (gResTmp (t := 4) (v := .bool true) (litGet (by kernel_rfl)))) rfl ?_
    exact ⟨rfl, hm7.bel⟩
  refine litVal (v := .bool false) rfl (wn rfl) (boolTo (decide_eq_false h4) (gtrRun (A := (l.length : Int)) (B := 100) (.tmp 6) (.const (.int .i64 100)) rfl (litEv (by kernel_rfl)) (litEv (by kernel_rfl)))) rfl (by decide) ?_
  refine lk (v := .bool false) rfl rfl rfl ?_
  refine litVal (v := .slice B m.length d) rfl (wgY rfl rfl rfl (by decide) (by kernel_rfl)) (litRun (by kernel_rfl)) rfl (by decide) ?_
  refine litVal (v := .int .i64 (m.length : Int)) rfl (wgY rfl rfl rfl (by decide) (by kernel_rfl)) (lenSlRun (A := B) (n := m.length) (c := d) (.tmp 9) Ty.und_L_api_Tile rfl (litEv (by kernel_rfl))) rfl (by decide) ?_
  by_cases h8 : 100 < (m.length : Int)
  · refine litVal (v := .bool true) rfl (wgY rfl rfl rfl (by decide) (by kernel_rfl)) (boolTo (decide_eq_true h8) (gtrRun (A := (m.length : Int)) (B := 100) (.tmp 10) (.const (.int .i64 100)) rfl (litEv (by kernel_rfl)) (litEv (by kernel_rfl)))) rfl (by decide) ?_
    refine lk (v := .bool true) rfl rfl rfl ?_
    refine plD ?_
    refine then_normal (hK3 _ _ ?_)
    refine wp_cond_true (litEv (by kernel_rfl)) ?_
    refine wp_seq_k fun K9 hK9 => ?_
    refine plStart ?_
    refine plCall (i := 0) 8 [] [] [] rfl (by kernel_rfl) (wn rfl) rfl (litEv (by kernel_rfl)) (litArgs (by kernel_rfl)) (sanity_any _) ?_
    rintro e w10 ⟨rfl, hbz⟩
    have hm11 := hm0.below hbz
    clear hbz hm0
    refine ⟨_, rfl, ?_⟩
    refine qP rfl ?_
    refine lk (v := .bool true) rfl rfl rfl ?_
    refine plD ?_
    refine then_normal (hK9 _ _ ?_)
    refine wp_ret ?_
    refine then_ret ?_
    refine bodyPost_ret (v := .bool true) (gRes1 rfl (gResTmp (t := 4) (v := .bool true) (litGet (by kernel_rfl)))) rfl ?_
    exact ⟨rfl, hm11.bel⟩
  refine litVal (v := .bool false) rfl (wgY rfl rfl rfl (by decide) (by kernel_rfl)) (boolTo (decide_eq_false h8) (gtrRun (A := (m.length : Int)) (B := 100) (.tmp 10) (.const (.int .i64 100)) rfl (litEv (by kernel_rfl)) (litEv (by kernel_rfl)))) rfl (by decide) ?_
  refine lk (v := .bool false) rfl rfl rfl ?_
  refine plD ?_
  refine then_normal (hK3 _ _ ?_)
  refine wp_cond_false (litEv (by kernel_rfl)) ?_
  refine wp_skip ?_
  refine then_normal (hK2 _ _ ?_)
  refine wp_seq_k fun K12 hK12 => ?_
  refine plStart ?_
  refine plCall (i := 0) 8 [] [] [] rfl (by kernel_rfl) (wn rfl) rfl (litEv (by kernel_rfl)) (litArgs (by kernel_rfl)) (sanity_any _) ?_
  rintro e w13 ⟨rfl, hbz⟩
  have hm14 := hm0.below hbz
  clear hbz hm0
  refine ⟨_, rfl, ?_⟩
  refine qP rfl ?_
  refine lk (v := .bool true) rfl rfl rfl ?_
  refine litVal (v := .slice A l.length c) rfl (wgY rfl rfl rfl (by decide) (by kernel_rfl)) (litRun (by kernel_rfl)) rfl (by decide) ?_
  refine litVal (v := .slice B m.length d) rfl (wgY rfl rfl rfl (by decide) (by kernel_rfl)) (litRun (by kernel_rfl)) rfl (by decide) ?_
  refine plCall (i := 4) 17 [.slice A l.length c, .slice B m.length d] [] [] rfl (by kernel_rfl) (wgY rfl rfl rfl (by decide) (by kernel_rfl)) rfl (litEv (by kernel_rfl)) (litArgs (by kernel_rfl)) (added_any l m (A) (B) c d _ ((Rd.below hA hm14.bel).more hm14.bel.size) ((Rd.below hB hm14.bel).more hm14.bel.size) (by omega) (by omega) hfl hfm) ?_
  rintro e w15 ⟨v17, rfl, hown_, hbz⟩
  obtain ⟨A18, c19, rfl, hrd_⟩ := Rd.of_own hown_
  clear hrd_
  replace hown_ : World.ownsRow w15 _ 38 4 _ ((added l m).length) (tlsC (added l m)) := hown_
  have hm16 := hm14.newRow hbz hown_
  clear hown_ hbz
  clear hm14
  try simp only [List.cons_append, List.nil_append, List.set_cons_succ, List.set_cons_zero] at hm16
  refine ⟨_, rfl, ?_⟩
  refine qP rfl ?_
  refine litVal (v := .slice A l.length c) rfl (wgY rfl rfl rfl (by decide) (by kernel_rfl)) (litRun (by kernel_rfl)) rfl (by decide) ?_
  refine litVal (v := .slice B m.length d) rfl (wgY rfl rfl rfl (by decide) (by kernel_rfl)) (litRun (by kernel_rfl)) rfl (by decide) ?_
  refine plCall (i := 7) 18 [.slice A l.length c, .slice B m.length d] [] [] rfl (by kernel_rfl) (wgY rfl rfl rfl (by decide) (by kernel_rfl)) rfl (litEv (by kernel_rfl)) (litArgs (by kernel_rfl)) (radded_any l m (A) (B) c d _ ((Rd.below hA hm16.bel).more hm16.bel.size) ((Rd.below hB hm16.bel).more hm16.bel.size) (by omega) (by omega)) ?_
  rintro e w20 ⟨v22, rfl, hown_, hbz⟩
  obtain ⟨A23, c24, rfl, hrd_⟩ := Rd.of_own hown_
  clear hrd_
  replace hown_ : World.ownsRow w20 _ 38 4 _ ((added l m).length) (tlsC (added l m)) := hown_
  have hm21 := hm16.newRow hbz hown_
  clear hown_ hbz
  clear hm16
  try simp only [List.cons_append, List.nil_append, List.set_cons_succ, List.set_cons_zero] at hm21
  refine ⟨_, rfl, ?_⟩
  refine qP rfl ?_
  refine plCall (i := 8) 16 [.slice A18 ((added l m).length) c19, .slice A23 ((added l m).length) c24] [] [] rfl (by kernel_rfl) (wgY rfl rfl rfl (by decide) (by kernel_rfl)) rfl (litEv (by kernel_rfl)) (litArgs (by kernel_rfl)) (callsTo (congrArg Value.bool (decide_eq_true rfl)) (sameT_any (added l m) (added l m) (A18) (A23) c19 c24 _ (hm21.rdRow 0 rfl) (hm21.rdRow 1 rfl))) ?_
  rintro e w25 ⟨rfl, hbz⟩
  have hm26 := hm21.below hbz
  clear hbz hm21
  refine ⟨_, rfl, ?_⟩
  refine qP rfl ?_
  refine lk (v := .bool true) rfl rfl rfl ?_
  refine lk (v := .bool true) rfl rfl rfl ?_
  refine plD ?_
  refine then_normal (hK12 _ _ ?_)
  refine wpPrune [(4, .bool true)] ⟨litGet (by kernel_rfl), trivial⟩ (fun X27 => ?_)
  refine wp_ret ?_
  refine bodyPost_ret (v := .bool true) (gRes1 rfl (gResTmp (t := 4) (v := .bool true) (litGet (by kernel_rfl)))) rfl ?_
  exact ⟨rfl, hm26.bel⟩
end Go.Proofs.Ytkmhjgdpkddbnaa
