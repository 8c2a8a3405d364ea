/-
  MortonCubesTile: each cell of a box is in exactly one of its cubes and in exactly one of its runs, and other cells are in none; no eight of the cubes make a greater one; no two runs follow one another (boxes with sizes of at most 20).
-/
import Derived.Test.YtkfijpghjjnpkaaOE
import Derived.Test.YtkfijpghjjnpkaaOF
namespace Go.Proofs.Ytkfijpghjjnpkaa
open Go.RowKit
set_option linter.unusedVariables false
set_option linter.unusedSimpArgs false

theorem in_bd {p : Pt} (h : p.In) : (0 ≤ p.x ∧ p.x ≤ 16383) ∧ (0 ≤ p.y ∧ p.y ≤ 16383) ∧ (0 ≤ p.z ∧ p.z ≤ 16383) := by unfold Pt.In at h; omega
theorem al_rem {p : Pt} {m S : Nat} (h : p.al m) (hS : S = 1 * 2 ^ m) (k : Nat) (hk : k < 3) : p.at k % (S : Int) = 0 := by
  have h1 := (h.1.nat k).1
  have h2 := h.2 k hk
  rw [h1, hS, Nat.one_mul]
  exact_mod_cast h2
theorem inC_S {c : Cube} {m S : Nat} (hl : c.lvl = (m : Int)) (hS : S = 1 * 2 ^ m) (p : Pt) : c.inC p ↔ ((c.at_.x ≤ p.x ∧ p.x < c.at_.x + (S : Int)) ∧ (c.at_.y ≤ p.y ∧ p.y < c.at_.y + (S : Int)) ∧ (c.at_.z ≤ p.z ∧ p.z < c.at_.z + (S : Int))) := by
  unfold Cube.inC
  rw [hl, Int.toNat_natCast, hS, Nat.one_mul]
theorem cnt_succ {α : Type} (P : α → Bool) {L : List α} {k : Nat} {c : α} (h : L[k]? = some c) : (L.take (k + 1)).countP P = (L.take k).countP P + if P c = true then 1 else 0 := by
  obtain ⟨hk, rfl⟩ := List.getElem?_eq_some_iff.1 h
  rw [List.take_succ_eq_append_getElem hk, List.countP_append, List.countP_singleton]
theorem ccs_pt {c : Cube} {i : Nat} {u : Value} (h : (pcs c.at_)[i]? = some u) : (ccs c)[i]? = some u := by
  have hl := (List.getElem?_eq_some_iff.1 h).1
  unfold ccs
  rw [List.getElem?_append_left hl]
  exact h
theorem gap_at {R : List Run} (h : R.Pairwise fun r s => r.last + 1 < s.first) {i : Nat} {r s : Run} (hr : R[i]? = some r) (hs : R[i + 1]? = some s) : r.last + 1 < s.first := by
  obtain ⟨h1, rfl⟩ := List.getElem?_eq_some_iff.1 hr
  obtain ⟨h2, rfl⟩ := List.getElem?_eq_some_iff.1 hs
  exact List.pairwise_iff_getElem.1 h i (i + 1) h1 h2 (by omega)
theorem eight_no {b : Bx} {LL : List Cube} (hcov : Cov b 0 4398046511104 LL) {c d : Cube} (hc : c ∈ LL) (hd : d ∈ LL) {m S : Nat} (h1 : d.lvl = (m : Int)) (hlv : c.lvl = (m : Int)) (hS : S = 1 * 2 ^ m) (hin : c.at_.In)
    (hx : c.at_.x % (2 * (S : Int)) = 0) (hy : c.at_.y % (2 * (S : Int)) = 0) (hz : c.at_.z % (2 * (S : Int)) = 0) (he : d.at_ = ⟨c.at_.x + (S : Int), c.at_.y + (S : Int), c.at_.z + (S : Int)⟩) : False := by
  rw [Nat.one_mul] at hS
  refine cov_eight hcov hc hd (h1.trans hlv.symm) (fun k hk => ?_) ?_
  · rw [hlv, Int.toNat_natCast, ← hS]
    have e0 := (hin.nat k).1
    have key : ∀ a : Int, ∀ n : Nat, a = (n : Int) → a % (2 * (S : Int)) = 0 → n % (2 * S) = 0 := fun a n ha hm => by
      rw [ha] at hm
      exact_mod_cast hm
    rcases (by omega : k = 0 ∨ k = 1 ∨ k = 2) with rfl | rfl | rfl
    · exact key _ _ e0 hx
    · exact key _ _ e0 hy
    · exact key _ _ e0 hz
  · rw [hlv, Int.toNat_natCast, ← hS]
    exact he
set_option maxRecDepth 100000 in
set_option maxHeartbeats 4000000 in
theorem tile_yes (b : Bx) (p : Pt) (LL : List Cube) (RR : List Run) (hC : mCubes b = (LL, 0)) (hR : mRuns b = (RR, 0)) (hlC : LL.length ≤ 4096) (hlR : RR.length ≤ 4096) (hcov : Cov b 0 4398046511104 LL) (hruns : RunsOk LL RR) (hlast : ∀ r ∈ RR, r.last ≤ 8796093022208) (hrc : (RR.countP fun r => decide (r.first ≤ mEnc p ∧ mEnc p ≤ r.last)) = if p.In ∧ b.has p then 1 else 0) (w : World) (_b0 : -9223372036854775808 ≤ p.x ∧ p.x ≤ 9223372036854775807) (_b1 : -9223372036854775808 ≤ p.y ∧ p.y ≤ 9223372036854775807) (_b2 : -9223372036854775808 ≤ p.z ∧ p.z ≤ 9223372036854775807) : Calls Try.prog 6 #[.agg (bxs b).toArray, .agg (pcs p).toArray] w (RetB w true) := by
  have hbp := in_bd (p := p)
  have hm0 := Mem.nil w
  go_enter Try.func6, Try.ntmps6
  refine litStart 300 [(0, .agg (bxs b).toArray), (1, .agg (pcs p).toArray)] (by kernel_rfl) (fun X0 => ?_)
  refine wp_seq_k fun K1 hK1 => ?_
  refine plStart ?_
  refine plBox hm0 (cs := bxs b) (i := 0) rfl (wn rfl) rfl (litEv (by kernel_rfl)) ?_
  intro g2 w4 hm3
  clear hm0
  simp only [List.cons_append, List.nil_append, List.set_cons_succ, List.set_cons_zero] at hm3
  refine qPut rfl (by decide) ?_
  refine plBox hm3 (cs := pcs p) (i := 1) rfl (wn rfl) rfl (litEv (by kernel_rfl)) ?_
  intro g5 w7 hm6
  clear hm3
  simp only [List.cons_append, List.nil_append, List.set_cons_succ, List.set_cons_zero] at hm6
  refine qPut rfl (by decide) ?_
  refine litVal (i := 2) (v := .bool false) rfl (wn rfl) (litRun (by kernel_rfl)) rfl (by decide) ?_
  refine plDone (by decide) ?_
  refine then_normal (hK1 _ _ ?_)
  refine wp_seq_k fun K8 hK8 => ?_
  refine plStart ?_
  refine litVal (i := 0) (v := .agg (bxs b).toArray) rfl (wn rfl) (gLoadAg (vs := bxs b) (k := 0) 0 hm6 rfl (by kernel_rfl) (by kernel_rfl) (.tmp 2) Ty.ag_voxel_api_Box rfl (litEv (by kernel_rfl))) rfl (by decide) ?_
  refine plCall (i := 1) 31 [.agg (bxs b).toArray] [] [] rfl (by kernel_rfl) (wn rfl) rfl (litEv rfl) (litArgs (by kernel_rfl)) (small_any b _) ?_
  rintro e w9 ⟨rfl, hbz⟩
  have hm10 := hm6.below hbz
  clear hbz hm6
  refine ⟨_, rfl, ?_⟩
  refine qPut rfl (by decide) ?_
  rcases bool_or (decide b.small) with h11 | h11
  · rw [h11]
    refine litVal (i := 2) (v := .bool false) rfl (wn rfl) (litRun (by kernel_rfl)) rfl (by decide) ?_
    refine plDone (by decide) ?_
    refine then_normal (hK8 _ _ ?_)
    refine wp_seq_k fun K12 hK12 => ?_
    refine plStart ?_
    refine litVal (i := 0) (v := .agg (bxs b).toArray) rfl (wn rfl) (gLoadAg (vs := bxs b) (k := 0) 0 hm10 rfl (by kernel_rfl) (by kernel_rfl) (.tmp 2) Ty.ag_voxel_api_Box rfl (litEv (by kernel_rfl))) rfl (by decide) ?_
    refine plCall (i := 1) 22 [.agg (bxs b).toArray] [] [] rfl (by kernel_rfl) (wn rfl) rfl (litEv rfl) (litArgs (by kernel_rfl)) (by have h := cubes_any b w9; rw [hC] at h; exact h) ?_
    rintro e w13 ⟨v, rfl, hown, hbz⟩
    obtain ⟨A15, c16, rfl, hrd⟩ := Rd.of_own hown
    clear hrd
    have hm14 := hm10.newRow hbz hown
    clear hown hbz hm10
    simp only [List.cons_append, List.nil_append, List.set_cons_succ, List.set_cons_zero] at hm14
    refine ⟨_, rfl, ?_⟩
    refine qPut rfl (by decide) ?_
    refine litVal (i := 2) (v := .tuple #[.slice A15 LL.length c16, .int .i64 0]) rfl (wn rfl) (litRun (by kernel_rfl)) rfl (by decide) ?_
    refine litVal (i := 3) (v := .slice A15 LL.length c16) rfl (wn rfl) (litRun (by kernel_rfl)) rfl (by decide) ?_
    refine litVal (i := 4) (v := .int .i64 0) rfl (wn rfl) (litRun (by kernel_rfl)) rfl (by decide) ?_
    refine litVal (i := 5) (v := .slice A15 LL.length c16) rfl (wn rfl) (litRun (by kernel_rfl)) rfl (by decide) ?_
    refine litVal (i := 6) (v := .int .i64 0) rfl (wn rfl) (litRun (by kernel_rfl)) rfl (by decide) ?_
    refine plDone (by decide) ?_
    refine then_normal (hK12 _ _ ?_)
    refine wp_seq_k fun K17 hK17 => ?_
    refine plStart ?_
    refine litVal (i := 0) (v := .agg (bxs b).toArray) rfl (wn rfl) (gLoadAg (vs := bxs b) (k := 0) 0 hm14 rfl (by kernel_rfl) (by kernel_rfl) (.tmp 2) Ty.ag_voxel_api_Box rfl (litEv (by kernel_rfl))) rfl (by decide) ?_
    refine plCall (i := 1) 24 [.agg (bxs b).toArray] [] [] rfl (by kernel_rfl) (wn rfl) rfl (litEv rfl) (litArgs (by kernel_rfl)) (by have h := runs_any b w13; rw [hR] at h; exact h) ?_
    rintro e w18 ⟨v, rfl, hown, hbz⟩
    obtain ⟨A20, c21, rfl, hrd⟩ := Rd.of_own hown
    clear hrd
    have hm19 := hm14.newRow hbz hown
    clear hown hbz hm14
    simp only [List.cons_append, List.nil_append, List.set_cons_succ, List.set_cons_zero] at hm19
    refine ⟨_, rfl, ?_⟩
    refine qPut rfl (by decide) ?_
    refine litVal (i := 2) (v := .tuple #[.slice A20 RR.length c21, .int .i64 0]) rfl (wn rfl) (litRun (by kernel_rfl)) rfl (by decide) ?_
    refine litVal (i := 3) (v := .slice A20 RR.length c21) rfl (wn rfl) (litRun (by kernel_rfl)) rfl (by decide) ?_
    refine litVal (i := 4) (v := .int .i64 0) rfl (wn rfl) (litRun (by kernel_rfl)) rfl (by decide) ?_
    refine litVal (i := 5) (v := .slice A20 RR.length c21) rfl (wn rfl) (litRun (by kernel_rfl)) rfl (by decide) ?_
    refine litVal (i := 6) (v := .int .i64 0) rfl (wn rfl) (litRun (by kernel_rfl)) rfl (by decide) ?_
    refine plDone (by decide) ?_
    refine then_normal (hK17 _ _ ?_)
    refine wpPrune [(2, .pointer (some ⟨g2, 0, none⟩)), (3, .pointer (some ⟨g5, 0, none⟩)), (4, .bool false), (5, .bool false), (6, .slice A15 LL.length c16), (7, .int .i64 0), (8, .slice A20 RR.length c21), (9, .int .i64 0)] ⟨litGet (by kernel_rfl), ⟨litGet (by kernel_rfl), ⟨litGet (by kernel_rfl), ⟨litGet (by kernel_rfl), ⟨litGet (by kernel_rfl), ⟨litGet (by kernel_rfl), ⟨litGet (by kernel_rfl), ⟨litGet (by kernel_rfl), trivial⟩⟩⟩⟩⟩⟩⟩⟩ (fun X22 => ?_)
    refine wp_seq_k fun K23 hK23 => ?_
    refine wp_seq_k fun K24 hK24 => ?_
    refine plStart ?_
    refine litVal (i := 0) (v := .bool false) rfl (wn rfl) (litRun (by kernel_rfl)) rfl (by decide) ?_
    refine litVal (i := 1) (v := .bool true) rfl (wn rfl) (litRun (by kernel_rfl)) rfl (by decide) ?_
    refine litVal (i := 2) (v := .bool true) rfl (wn rfl) (litRun (by kernel_rfl)) rfl (by decide) ?_
    refine plSkip (i := 3) rfl (wgN rfl rfl rfl (by decide) (by kernel_rfl)) ?_
    refine qPut rfl (by decide) ?_
    refine plSkip (i := 4) rfl (wgN rfl rfl rfl (by decide) (by kernel_rfl)) ?_
    refine qPut rfl (by decide) ?_
    refine litVal (i := 5) (v := .bool true) rfl (wn rfl) (litRun (by kernel_rfl)) rfl (by decide) ?_
    refine litVal (i := 6) (v := .bool true) rfl (wn rfl) (litRun (by kernel_rfl)) rfl (by decide) ?_
    refine plSkip (i := 7) rfl (wgN rfl rfl rfl (by decide) (by kernel_rfl)) ?_
    refine qPut rfl (by decide) ?_
    refine plSkip (i := 8) rfl (wgN rfl rfl rfl (by decide) (by kernel_rfl)) ?_
    refine qPut rfl (by decide) ?_
    refine litVal (i := 9) (v := .bool true) rfl (wn rfl) (litRun (by kernel_rfl)) rfl (by decide) ?_
    refine plDone (by decide) ?_
    refine then_normal (hK24 _ _ ?_)
    refine wp_cond_true (litEv (by kernel_rfl)) ?_
    refine wp_seq_k fun K25 hK25 => ?_
    refine plStart ?_
    refine plCall (i := 0) 21 [] [] [] rfl (by kernel_rfl) (wn rfl) rfl (litEv rfl) (litArgs (by kernel_rfl)) (sanity_any _) ?_
    rintro e w26 ⟨rfl, hbz⟩
    have hm27 := hm19.below hbz
    clear hbz hm19
    refine ⟨_, rfl, ?_⟩
    refine qPut rfl (by decide) ?_
    refine litVal (i := 1) (v := .bool true) rfl (wn rfl) (litRun (by kernel_rfl)) rfl (by decide) ?_
    refine litVal (i := 2) (v := .bool false) rfl (wgY rfl rfl rfl (by decide) (by kernel_rfl)) (litRun (by kernel_rfl)) rfl (by decide) ?_
    refine litVal (i := 3) (v := .bool true) rfl (wgY rfl rfl rfl (by decide) (by kernel_rfl)) (litRun (by kernel_rfl)) rfl (by decide) ?_
    refine litVal (i := 4) (v := .bool true) rfl (wgY rfl rfl rfl (by decide) (by kernel_rfl)) (litRun (by kernel_rfl)) rfl (by decide) ?_
    refine plSkip (i := 5) rfl (wgN rfl rfl rfl (by decide) (by kernel_rfl)) ?_
    refine qPut rfl (by decide) ?_
    refine plSkip (i := 6) rfl (wgN rfl rfl rfl (by decide) (by kernel_rfl)) ?_
    refine qPut rfl (by decide) ?_
    refine plSkip (i := 7) rfl (wgN rfl rfl rfl (by decide) (by kernel_rfl)) ?_
    refine qPut rfl (by decide) ?_
    refine litVal (i := 8) (v := .bool true) rfl (wgY rfl rfl rfl (by decide) (by kernel_rfl)) (litRun (by kernel_rfl)) rfl (by decide) ?_
    refine litVal (i := 9) (v := .bool true) rfl (wn rfl) (litRun (by kernel_rfl)) rfl (by decide) ?_
    refine litVal (i := 10) (v := .bool true) rfl (wn rfl) (litRun (by kernel_rfl)) rfl (by decide) ?_
    refine plDone (by decide) ?_
    refine then_normal (hK25 _ _ ?_)
    refine wpPrune [(2, .pointer (some ⟨g2, 0, none⟩)), (3, .pointer (some ⟨g5, 0, none⟩)), (4, .bool true), (6, .slice A15 LL.length c16), (8, .slice A20 RR.length c21)] ⟨litGet (by kernel_rfl), ⟨litGet (by kernel_rfl), ⟨litGet (by kernel_rfl), ⟨litGet (by kernel_rfl), ⟨litGet (by kernel_rfl), trivial⟩⟩⟩⟩⟩ (fun X28 => ?_)
    refine wp_ret ?_
    refine then_ret ?_
    refine bodyPost_ret (v := .bool true) (gRes1 rfl (gResTmp (t := 4) (v := .bool true) (litGet (by kernel_rfl)))) rfl ?_
    exact ⟨by first | rfl | simp_all, hm27.bel⟩
  · rw [h11]
    refine litVal (i := 2) (v := .bool true) rfl (wn rfl) (litRun (by kernel_rfl)) rfl (by decide) ?_
    refine plDone (by decide) ?_
    refine then_normal (hK8 _ _ ?_)
    refine wp_seq_k fun K29 hK29 => ?_
    refine plStart ?_
    refine litVal (i := 0) (v := .agg (bxs b).toArray) rfl (wn rfl) (gLoadAg (vs := bxs b) (k := 0) 0 hm10 rfl (by kernel_rfl) (by kernel_rfl) (.tmp 2) Ty.ag_voxel_api_Box rfl (litEv (by kernel_rfl))) rfl (by decide) ?_
    refine plCall (i := 1) 22 [.agg (bxs b).toArray] [] [] rfl (by kernel_rfl) (wn rfl) rfl (litEv rfl) (litArgs (by kernel_rfl)) (by have h := cubes_any b w9; rw [hC] at h; exact h) ?_
    rintro e w30 ⟨v, rfl, hown, hbz⟩
    obtain ⟨A32, c33, rfl, hrd⟩ := Rd.of_own hown
    clear hrd
    have hm31 := hm10.newRow hbz hown
    clear hown hbz hm10
    simp only [List.cons_append, List.nil_append, List.set_cons_succ, List.set_cons_zero] at hm31
    refine ⟨_, rfl, ?_⟩
    refine qPut rfl (by decide) ?_
    refine litVal (i := 2) (v := .tuple #[.slice A32 LL.length c33, .int .i64 0]) rfl (wn rfl) (litRun (by kernel_rfl)) rfl (by decide) ?_
    refine litVal (i := 3) (v := .slice A32 LL.length c33) rfl (wn rfl) (litRun (by kernel_rfl)) rfl (by decide) ?_
    refine litVal (i := 4) (v := .int .i64 0) rfl (wn rfl) (litRun (by kernel_rfl)) rfl (by decide) ?_
    refine litVal (i := 5) (v := .slice A32 LL.length c33) rfl (wn rfl) (litRun (by kernel_rfl)) rfl (by decide) ?_
    refine litVal (i := 6) (v := .int .i64 0) rfl (wn rfl) (litRun (by kernel_rfl)) rfl (by decide) ?_
    refine plDone (by decide) ?_
    refine then_normal (hK29 _ _ ?_)
    refine wp_seq_k fun K34 hK34 => ?_
    refine plStart ?_
    refine litVal (i := 0) (v := .agg (bxs b).toArray) rfl (wn rfl) (gLoadAg (vs := bxs b) (k := 0) 0 hm31 rfl (by kernel_rfl) (by kernel_rfl) (.tmp 2) Ty.ag_voxel_api_Box rfl (litEv (by kernel_rfl))) rfl (by decide) ?_
    refine plCall (i := 1) 24 [.agg (bxs b).toArray] [] [] rfl (by kernel_rfl) (wn rfl) rfl (litEv rfl) (litArgs (by kernel_rfl)) (by have h := runs_any b w30; rw [hR] at h; exact h) ?_
    rintro e w35 ⟨v, rfl, hown, hbz⟩
    obtain ⟨A37, c38, rfl, hrd⟩ := Rd.of_own hown
    clear hrd
    have hm36 := hm31.newRow hbz hown
    clear hown hbz hm31
    simp only [List.cons_append, List.nil_append, List.set_cons_succ, List.set_cons_zero] at hm36
    refine ⟨_, rfl, ?_⟩
    refine qPut rfl (by decide) ?_
    refine litVal (i := 2) (v := .tuple #[.slice A37 RR.length c38, .int .i64 0]) rfl (wn rfl) (litRun (by kernel_rfl)) rfl (by decide) ?_
    refine litVal (i := 3) (v := .slice A37 RR.length c38) rfl (wn rfl) (litRun (by kernel_rfl)) rfl (by decide) ?_
    refine litVal (i := 4) (v := .int .i64 0) rfl (wn rfl) (litRun (by kernel_rfl)) rfl (by decide) ?_
    refine litVal (i := 5) (v := .slice A37 RR.length c38) rfl (wn rfl) (litRun (by kernel_rfl)) rfl (by decide) ?_
    refine litVal (i := 6) (v := .int .i64 0) rfl (wn rfl) (litRun (by kernel_rfl)) rfl (by decide) ?_
    refine plDone (by decide) ?_
    refine then_normal (hK34 _ _ ?_)
    refine wpPrune [(2, .pointer (some ⟨g2, 0, none⟩)), (3, .pointer (some ⟨g5, 0, none⟩)), (4, .bool false), (5, .bool true), (6, .slice A32 LL.length c33), (7, .int .i64 0), (8, .slice A37 RR.length c38), (9, .int .i64 0)] ⟨litGet (by kernel_rfl), ⟨litGet (by kernel_rfl), ⟨litGet (by kernel_rfl), ⟨litGet (by kernel_rfl), ⟨litGet (by kernel_rfl), ⟨litGet (by kernel_rfl), ⟨litGet (by kernel_rfl), ⟨litGet (by kernel_rfl), trivial⟩⟩⟩⟩⟩⟩⟩⟩ (fun X39 => ?_)
    refine wp_seq_k fun K40 hK40 => ?_
    refine wp_seq_k fun K41 hK41 => ?_
    refine plStart ?_
    refine litVal (i := 0) (v := .bool true) rfl (wn rfl) (litRun (by kernel_rfl)) rfl (by decide) ?_
    refine litVal (i := 1) (v := .bool false) rfl (wn rfl) (litRun (by kernel_rfl)) rfl (by decide) ?_
    refine litVal (i := 2) (v := .bool false) rfl (wn rfl) (litRun (by kernel_rfl)) rfl (by decide) ?_
    refine litVal (i := 3) (v := .int .i64 0) rfl (wgY rfl rfl rfl (by decide) (by kernel_rfl)) (litRun (by kernel_rfl)) rfl (by decide) ?_
    refine litVal (i := 4) (v := .bool false) rfl (wgY rfl rfl rfl (by decide) (by kernel_rfl)) (litRun (by kernel_rfl)) rfl (by decide) ?_
    refine litVal (i := 5) (v := .bool false) rfl (wn rfl) (litRun (by kernel_rfl)) rfl (by decide) ?_
    refine litVal (i := 6) (v := .bool false) rfl (wn rfl) (litRun (by kernel_rfl)) rfl (by decide) ?_
    refine litVal (i := 7) (v := .int .i64 0) rfl (wgY rfl rfl rfl (by decide) (by kernel_rfl)) (litRun (by kernel_rfl)) rfl (by decide) ?_
    refine litVal (i := 8) (v := .bool false) rfl (wgY rfl rfl rfl (by decide) (by kernel_rfl)) (litRun (by kernel_rfl)) rfl (by decide) ?_
    refine litVal (i := 9) (v := .bool false) rfl (wn rfl) (litRun (by kernel_rfl)) rfl (by decide) ?_
    refine plDone (by decide) ?_
    refine then_normal (hK41 _ _ ?_)
    refine wp_cond_false (litEv (by kernel_rfl)) ?_
    refine wp_skip ?_
    refine then_normal (hK40 _ _ ?_)
    refine wpPrune [(2, .pointer (some ⟨g2, 0, none⟩)), (3, .pointer (some ⟨g5, 0, none⟩)), (4, .bool false), (6, .slice A32 LL.length c33), (8, .slice A37 RR.length c38)] ⟨litGet (by kernel_rfl), ⟨litGet (by kernel_rfl), ⟨litGet (by kernel_rfl), ⟨litGet (by kernel_rfl), ⟨litGet (by kernel_rfl), trivial⟩⟩⟩⟩⟩ (fun X42 => ?_)
    refine wp_seq_k fun K43 hK43 => ?_
    refine plStart ?_
    refine litVal (i := 0) (v := .int .i64 0) rfl (wn rfl) (litRun (by kernel_rfl)) rfl (by decide) ?_
    refine plDone (by decide) ?_
    refine then_normal (hK43 _ _ ?_)
    refine wp_seq_k fun K44 hK44 => ?_
    refine wp_seq_k fun K45 hK45 => ?_
    refine plStart ?_
    refine litVal (i := 0) (v := .int .i64 0) rfl (wn rfl) (litRun (by kernel_rfl)) rfl (by decide) ?_
    refine plDone (by decide) ?_
    refine then_normal (hK45 _ _ ?_)
    refine wp_block ?_
    refine gwLoop (fun n_ a_ w_ => ∃ (k n : Nat), n_ = LL.length - k ∧ (k ≤ LL.length) ∧ (n = (LL.take k).countP (fun c => decide (c.inC p))) ∧ Fr a_ 300 [(2, .pointer (some ⟨g2, 0, none⟩)), (3, .pointer (some ⟨g5, 0, none⟩)), (6, .slice A32 LL.length c33), (8, .slice A37 RR.length c38), (10, .int .i64 (n : Int)), (11, .int .i64 (k : Int))] ∧ Mem w w_ [.arr g2 37 (bxs b), .arr g5 23 (pcs p), .row (.slice A32 LL.length c33) 27 4 LL.length (cus LL), .row (.slice A37 RR.length c38) 54 2 RR.length (rus RR)]) (LL.length - 0) ⟨0, 0, rfl, Nat.zero_le _, rfl, ⟨litSize, rfl, ⟨litGet (by kernel_rfl), ⟨litGet (by kernel_rfl), ⟨litGet (by kernel_rfl), ⟨litGet (by kernel_rfl), ⟨litGet (by kernel_rfl), ⟨litGet (by kernel_rfl), trivial⟩⟩⟩⟩⟩⟩⟩, hm36⟩ ?_
    clear hm36
    intro n_ a48 w46 hI_
    obtain ⟨k, n, rfl, hk, hn, hF_, hm47⟩ := hI_
    obtain ⟨X49, rfl⟩ := frLit hF_
    clear hF_
    refine wp_seq_k fun K50 hK50 => ?_
    refine wp_seq_k fun K51 hK51 => ?_
    refine plStart ?_
    refine litVal (i := 0) (v := .int .i64 (k : Int)) rfl (wn rfl) (litRun (by kernel_rfl)) rfl (by decide) ?_
    refine litVal (i := 1) (v := .slice A32 LL.length c33) rfl (wn rfl) (litRun (by kernel_rfl)) rfl (by decide) ?_
    refine litVal (i := 2) (v := .int .i64 (LL.length : Int)) rfl (wn rfl) (lenSlRun (A := A32) (n := LL.length) (c := c33) (.tmp 52) Ty.und_api_Cube rfl (litEv (by kernel_rfl))) rfl (by decide) ?_
    by_cases h52 : (k : Int) < (LL.length : Int)
    · obtain ⟨c, hc⟩ : ∃ c, LL[k]? = some c := ⟨LL[k], List.getElem?_eq_getElem (by omega)⟩
      have hmem := List.mem_of_getElem? hc
      obtain ⟨m, hm14, hlv, hal⟩ := (hcov.each c hmem).1
      obtain ⟨S, hS⟩ : ∃ S, S = 1 * 2 ^ m := ⟨_, rfl⟩
      have hS1 : 1 ≤ S ∧ S ≤ 16384 := by have h1 := cube_side hm14; have h2 := Nat.two_pow_pos m; omega
      have hin := hal.1
      have hbd := in_bd hin
      have hx0 := al_rem hal hS 0 (by omega)
      have hy0 := al_rem hal hS 1 (by omega)
      have hz0 := al_rem hal hS 2 (by omega)
      have hcnt := cnt_succ (fun c => decide (c.inC p)) hc
      have hnk : n ≤ k := by rw [hn]; exact Nat.le_trans (List.countP_le_length ..) (List.length_take_le ..)
      have hinC := inC_S hlv hS p
      obtain ⟨b53, rfl⟩ := hm47.rowBlk (A := A32) (n := LL.length) (c := c33) 2 rfl (by omega)
      refine litVal (i := 3) (v := .bool true) rfl (wn rfl) (boolTo (decide_eq_true h52) (lssRun (A := (k : Int)) (B := (LL.length : Int)) (.tmp 51) (.tmp 53) rfl (litEv (by kernel_rfl)) (litEv (by kernel_rfl)))) rfl (by decide) ?_
      refine plDone (by decide) ?_
      refine then_normal (hK51 _ _ ?_)
      refine wp_cond_true (litEv (by kernel_rfl)) ?_
      refine wp_skip ?_
      refine then_normal (hK50 _ _ ?_)
      refine wp_seq_k fun K54 hK54 => ?_
      refine wp_block ?_
      refine wp_seq_k fun K55 hK55 => ?_
      refine plStart ?_
      refine litVal (i := 0) (v := .slice (some ⟨b53, 0, none⟩) LL.length c33) rfl (wn rfl) (litRun (by kernel_rfl)) rfl (by decide) ?_
      refine litVal (i := 1) (v := .int .i64 (k : Int)) rfl (wn rfl) (litRun (by kernel_rfl)) rfl (by decide) ?_
      refine litVal (i := 2) (v := .pointer (some ⟨b53, 0 + k * 4, none⟩)) rfl (wn rfl) (gIaSl (b := b53) (off := 0) (n := LL.length) (c := c33) (kk := .i64) (K := (k : Int)) (.tmp 57) (.tmp 58) k Ty.sl_api_Cube rfl (litEv (by kernel_rfl)) (litEv (by kernel_rfl)) (rfl) (show k < LL.length by omega)) rfl (by decide) ?_
      refine litVal (i := 3) (v := .pointer (some ⟨b53, 0 + k * 4 + 3, none⟩)) rfl (wn rfl) (litRun (by kernel_rfl)) rfl (by decide) ?_
      refine litVal (i := 4) (v := .int .i64 (m : Int)) rfl (wn rfl) (gLoadRd (v := .int .i64 (m : Int)) (m := k * 4 + 3) (hm47.rdRow 2 rfl) rfl ((by rw [← hlv]; exact cus_at LL k c hc 3 _ rfl)) (by omega) (.tmp 60) (by kernel_rfl) rfl (litEv (by kernel_rfl))) rfl (by decide) ?_
      refine litVal (i := 5) (v := .int .i64 (S : Int)) rfl (wn rfl) (shlZ hS (.const (.int .i64 1)) (.tmp 61) rfl (litEv (by kernel_rfl)) (litEv (by kernel_rfl)) (by omega) (by omega)) rfl (by decide) ?_
      refine litVal (i := 6) (v := .int .i64 (S : Int)) rfl (wn rfl) (litRun (by kernel_rfl)) rfl (by decide) ?_
      refine plDone (by decide) ?_
      refine then_normal (hK55 _ _ ?_)
      refine wp_seq_k fun K56 hK56 => ?_
      refine plStart ?_
      refine litVal (i := 0) (v := .slice (some ⟨b53, 0, none⟩) LL.length c33) rfl (wn rfl) (litRun (by kernel_rfl)) rfl (by decide) ?_
      refine litVal (i := 1) (v := .int .i64 (k : Int)) rfl (wn rfl) (litRun (by kernel_rfl)) rfl (by decide) ?_
      refine litVal (i := 2) (v := .pointer (some ⟨b53, 0 + k * 4, none⟩)) rfl (wn rfl) (gIaSl (b := b53) (off := 0) (n := LL.length) (c := c33) (kk := .i64) (K := (k : Int)) (.tmp 63) (.tmp 64) k Ty.sl_api_Cube rfl (litEv (by kernel_rfl)) (litEv (by kernel_rfl)) (rfl) (show k < LL.length by omega)) rfl (by decide) ?_
      refine litVal (i := 3) (v := .pointer (some ⟨b53, 0 + k * 4, none⟩)) rfl (wn rfl) (litRun (by kernel_rfl)) rfl (by decide) ?_
      refine litVal (i := 4) (v := .agg (pcs c.at_).toArray) rfl (wn rfl) (gLoadAgRd (vs := pcs c.at_) (m := k * 4) (hm47.rdRow 2 rfl) rfl (fun i u hu => cus_at LL k c hc i u (ccs_pt hu)) (by kernel_rfl) (by omega) (.tmp 66) Ty.ag_voxel_api_Point rfl (litEv (by kernel_rfl))) rfl (by decide) ?_
      refine plAlloc (z := [.int .i64 0, .int .i64 0, .int .i64 0]) Ty.ag_voxel_api_Point hm47 (i := 5) rfl (wn rfl) rfl ?_
      intro g57 w59 hm58
      clear hm47
      simp only [List.cons_append, List.nil_append, List.set_cons_succ, List.set_cons_zero] at hm58
      refine qPut rfl (by decide) ?_
      refine plStore 4 Ty.ag_voxel_api_Point hm58 rfl (i := 6) (cs := pcs c.at_) rfl (wn rfl) rfl (litEv (by kernel_rfl)) (litEv (by kernel_rfl)) rfl rfl (by kernel_rfl) ?_
      intro w61 hm60
      clear hm58
      simp only [List.cons_append, List.nil_append, List.set_cons_succ, List.set_cons_zero] at hm60
      refine qNone rfl ?_
      refine plDone (by decide) ?_
      refine then_normal (hK56 _ _ ?_)
      refine wp_seq_k fun K62 hK62 => ?_
      refine wp_seq_k fun K63 hK63 => ?_
      refine plStart ?_
      refine litVal (i := 0) (v := .slice (some ⟨b53, 0, none⟩) LL.length c33) rfl (wn rfl) (litRun (by kernel_rfl)) rfl (by decide) ?_
      refine litVal (i := 1) (v := .int .i64 (k : Int)) rfl (wn rfl) (litRun (by kernel_rfl)) rfl (by decide) ?_
      refine litVal (i := 2) (v := .pointer (some ⟨b53, 0 + k * 4, none⟩)) rfl (wn rfl) (gIaSl (b := b53) (off := 0) (n := LL.length) (c := c33) (kk := .i64) (K := (k : Int)) (.tmp 68) (.tmp 69) k Ty.sl_api_Cube rfl (litEv (by kernel_rfl)) (litEv (by kernel_rfl)) (rfl) (show k < LL.length by omega)) rfl (by decide) ?_
      refine litVal (i := 3) (v := .pointer (some ⟨b53, 0 + k * 4 + 3, none⟩)) rfl (wn rfl) (litRun (by kernel_rfl)) rfl (by decide) ?_
      refine litVal (i := 4) (v := .int .i64 (m : Int)) rfl (wn rfl) (gLoadRd (v := .int .i64 (m : Int)) (m := k * 4 + 3) (hm60.rdRow 2 rfl) rfl ((by rw [← hlv]; exact cus_at LL k c hc 3 _ rfl)) (by omega) (.tmp 71) (by kernel_rfl) rfl (litEv (by kernel_rfl))) rfl (by decide) ?_
      refine litVal (i := 5) (v := .bool false) rfl (wn rfl) (boolTo (decide_eq_false (by omega)) (lssRun (A := (m : Int)) (B := 0) (.tmp 72) (.const (.int .i64 0)) rfl (litEv (by kernel_rfl)) (litEv (by kernel_rfl)))) rfl (by decide) ?_
      refine litVal (i := 6) (v := .bool false) rfl (wn rfl) (litRun (by kernel_rfl)) rfl (by decide) ?_
      refine litVal (i := 7) (v := .slice (some ⟨b53, 0, none⟩) LL.length c33) rfl (wgY rfl rfl rfl (by decide) (by kernel_rfl)) (litRun (by kernel_rfl)) rfl (by decide) ?_
      refine litVal (i := 8) (v := .int .i64 (k : Int)) rfl (wgY rfl rfl rfl (by decide) (by kernel_rfl)) (litRun (by kernel_rfl)) rfl (by decide) ?_
      refine litVal (i := 9) (v := .pointer (some ⟨b53, 0 + k * 4, none⟩)) rfl (wgY rfl rfl rfl (by decide) (by kernel_rfl)) (gIaSl (b := b53) (off := 0) (n := LL.length) (c := c33) (kk := .i64) (K := (k : Int)) (.tmp 75) (.tmp 76) k Ty.sl_api_Cube rfl (litEv (by kernel_rfl)) (litEv (by kernel_rfl)) (rfl) (show k < LL.length by omega)) rfl (by decide) ?_
      refine litVal (i := 10) (v := .pointer (some ⟨b53, 0 + k * 4 + 3, none⟩)) rfl (wgY rfl rfl rfl (by decide) (by kernel_rfl)) (litRun (by kernel_rfl)) rfl (by decide) ?_
      refine litVal (i := 11) (v := .int .i64 (m : Int)) rfl (wgY rfl rfl rfl (by decide) (by kernel_rfl)) (gLoadRd (v := .int .i64 (m : Int)) (m := k * 4 + 3) (hm60.rdRow 2 rfl) rfl ((by rw [← hlv]; exact cus_at LL k c hc 3 _ rfl)) (by omega) (.tmp 78) (by kernel_rfl) rfl (litEv (by kernel_rfl))) rfl (by decide) ?_
      refine litVal (i := 12) (v := .bool false) rfl (wgY rfl rfl rfl (by decide) (by kernel_rfl)) (boolTo (decide_eq_false (by omega)) (gtrRun (A := (m : Int)) (B := 14) (.tmp 79) (.const (.int .i64 14)) rfl (litEv (by kernel_rfl)) (litEv (by kernel_rfl)))) rfl (by decide) ?_
      refine litVal (i := 13) (v := .bool false) rfl (wn rfl) (litRun (by kernel_rfl)) rfl (by decide) ?_
      refine litVal (i := 14) (v := .bool false) rfl (wn rfl) (litRun (by kernel_rfl)) rfl (by decide) ?_
      refine litVal (i := 15) (v := .pointer (some ⟨g57, 0, none⟩)) rfl (wgY rfl rfl rfl (by decide) (by kernel_rfl)) (litRun (by kernel_rfl)) rfl (by decide) ?_
      refine litVal (i := 16) (v := .int .i64 c.at_.x) rfl (wgY rfl rfl rfl (by decide) (by kernel_rfl)) (gLoad (v := .int .i64 c.at_.x) (k := 0) 4 hm60 rfl (by kernel_rfl) (.tmp 83) (by kernel_rfl) rfl (litEv (by kernel_rfl))) rfl (by decide) ?_
      refine litVal (i := 17) (v := .int .i64 (S : Int)) rfl (wgY rfl rfl rfl (by decide) (by kernel_rfl)) (litRun (by kernel_rfl)) rfl (by decide) ?_
      refine litVal (i := 18) (v := .int .i64 0) rfl (wgY rfl rfl rfl (by decide) (by kernel_rfl)) (remRun (A := c.at_.x) (B := (S : Int)) (C := 0) (.tmp 84) (.tmp 85) rfl (litEv (by kernel_rfl)) (litEv (by kernel_rfl)) (by omega) (by omega) hx0) rfl (by decide) ?_
      refine litVal (i := 19) (v := .bool false) rfl (wgY rfl rfl rfl (by decide) (by kernel_rfl)) (litRun (by kernel_rfl)) rfl (by decide) ?_
      refine litVal (i := 20) (v := .bool false) rfl (wn rfl) (litRun (by kernel_rfl)) rfl (by decide) ?_
      refine litVal (i := 21) (v := .bool false) rfl (wn rfl) (litRun (by kernel_rfl)) rfl (by decide) ?_
      refine litVal (i := 22) (v := .pointer (some ⟨g57, 1, none⟩)) rfl (wgY rfl rfl rfl (by decide) (by kernel_rfl)) (litRun (by kernel_rfl)) rfl (by decide) ?_
      refine litVal (i := 23) (v := .int .i64 c.at_.y) rfl (wgY rfl rfl rfl (by decide) (by kernel_rfl)) (gLoad (v := .int .i64 c.at_.y) (k := 1) 4 hm60 rfl (by kernel_rfl) (.tmp 90) (by kernel_rfl) rfl (litEv (by kernel_rfl))) rfl (by decide) ?_
      refine litVal (i := 24) (v := .int .i64 (S : Int)) rfl (wgY rfl rfl rfl (by decide) (by kernel_rfl)) (litRun (by kernel_rfl)) rfl (by decide) ?_
      refine litVal (i := 25) (v := .int .i64 0) rfl (wgY rfl rfl rfl (by decide) (by kernel_rfl)) (remRun (A := c.at_.y) (B := (S : Int)) (C := 0) (.tmp 91) (.tmp 92) rfl (litEv (by kernel_rfl)) (litEv (by kernel_rfl)) (by omega) (by omega) hy0) rfl (by decide) ?_
      refine litVal (i := 26) (v := .bool false) rfl (wgY rfl rfl rfl (by decide) (by kernel_rfl)) (litRun (by kernel_rfl)) rfl (by decide) ?_
      refine litVal (i := 27) (v := .bool false) rfl (wn rfl) (litRun (by kernel_rfl)) rfl (by decide) ?_
      refine litVal (i := 28) (v := .bool false) rfl (wn rfl) (litRun (by kernel_rfl)) rfl (by decide) ?_
      refine litVal (i := 29) (v := .pointer (some ⟨g57, 2, none⟩)) rfl (wgY rfl rfl rfl (by decide) (by kernel_rfl)) (litRun (by kernel_rfl)) rfl (by decide) ?_
      refine litVal (i := 30) (v := .int .i64 c.at_.z) rfl (wgY rfl rfl rfl (by decide) (by kernel_rfl)) (gLoad (v := .int .i64 c.at_.z) (k := 2) 4 hm60 rfl (by kernel_rfl) (.tmp 97) (by kernel_rfl) rfl (litEv (by kernel_rfl))) rfl (by decide) ?_
      refine litVal (i := 31) (v := .int .i64 (S : Int)) rfl (wgY rfl rfl rfl (by decide) (by kernel_rfl)) (litRun (by kernel_rfl)) rfl (by decide) ?_
      refine litVal (i := 32) (v := .int .i64 0) rfl (wgY rfl rfl rfl (by decide) (by kernel_rfl)) (remRun (A := c.at_.z) (B := (S : Int)) (C := 0) (.tmp 98) (.tmp 99) rfl (litEv (by kernel_rfl)) (litEv (by kernel_rfl)) (by omega) (by omega) hz0) rfl (by decide) ?_
      refine litVal (i := 33) (v := .bool false) rfl (wgY rfl rfl rfl (by decide) (by kernel_rfl)) (litRun (by kernel_rfl)) rfl (by decide) ?_
      refine litVal (i := 34) (v := .bool false) rfl (wn rfl) (litRun (by kernel_rfl)) rfl (by decide) ?_
      refine plDone (by decide) ?_
      refine then_normal (hK63 _ _ ?_)
      refine wp_cond_false (litEv (by kernel_rfl)) ?_
      refine wp_skip ?_
      refine then_normal (hK62 _ _ ?_)
      refine gwCut (fun a_ w_ => ∃ (n1 : Nat), (n1 = (LL.take (k + 1)).countP (fun c => decide (c.inC p))) ∧ Fr a_ 300 [(2, .pointer (some ⟨g2, 0, none⟩)), (3, .pointer (some ⟨g5, 0, none⟩)), (6, .slice (some ⟨b53, 0, none⟩) LL.length c33), (8, .slice A37 RR.length c38), (10, .int .i64 (n1 : Int)), (11, .int .i64 (k : Int)), (12, .int .i64 (S : Int)), (13, .pointer (some ⟨g57, 0, none⟩)), (51, .int .i64 (k : Int)), (52, .slice (some ⟨b53, 0, none⟩) LL.length c33), (53, .int .i64 (LL.length : Int)), (54, .bool true), (57, .slice (some ⟨b53, 0, none⟩) LL.length c33), (58, .int .i64 (k : Int)), (59, .pointer (some ⟨b53, 0 + k * 4, none⟩)), (60, .pointer (some ⟨b53, 0 + k * 4 + 3, none⟩)), (61, .int .i64 (m : Int)), (62, .int .i64 (S : Int)), (63, .slice (some ⟨b53, 0, none⟩) LL.length c33), (64, .int .i64 (k : Int)), (65, .pointer (some ⟨b53, 0 + k * 4, none⟩)), (66, .pointer (some ⟨b53, 0 + k * 4, none⟩)), (67, .agg (pcs c.at_).toArray), (68, .slice (some ⟨b53, 0, none⟩) LL.length c33), (69, .int .i64 (k : Int)), (70, .pointer (some ⟨b53, 0 + k * 4, none⟩)), (71, .pointer (some ⟨b53, 0 + k * 4 + 3, none⟩)), (72, .int .i64 (m : Int)), (73, .bool false), (74, .bool false), (75, .slice (some ⟨b53, 0, none⟩) LL.length c33), (76, .int .i64 (k : Int)), (77, .pointer (some ⟨b53, 0 + k * 4, none⟩)), (78, .pointer (some ⟨b53, 0 + k * 4 + 3, none⟩)), (79, .int .i64 (m : Int)), (80, .bool false), (81, .bool false), (82, .bool false), (83, .pointer (some ⟨g57, 0, none⟩)), (84, .int .i64 c.at_.x), (85, .int .i64 (S : Int)), (86, .int .i64 0), (87, .bool false), (88, .bool false), (89, .bool false), (90, .pointer (some ⟨g57, 1, none⟩)), (91, .int .i64 c.at_.y), (92, .int .i64 (S : Int)), (93, .int .i64 0), (94, .bool false), (95, .bool false), (96, .bool false), (97, .pointer (some ⟨g57, 2, none⟩)), (98, .int .i64 c.at_.z), (99, .int .i64 (S : Int)), (100, .int .i64 0), (101, .bool false), (102, .bool false)] ∧ Mem w w_ [.arr g2 37 (bxs b), .arr g5 23 (pcs p), .row (.slice (some ⟨b53, 0, none⟩) LL.length c33) 27 4 LL.length (cus LL), .row (.slice A37 RR.length c38) 54 2 RR.length (rus RR), .arr g57 23 (pcs c.at_)]) ?_ ?_
      · refine wp_seq_k fun K64 hK64 => ?_
        refine plStart ?_
        refine litVal (i := 0) (v := .pointer (some ⟨g5, 0, none⟩)) rfl (wn rfl) (litRun (by kernel_rfl)) rfl (by decide) ?_
        refine litVal (i := 1) (v := .int .i64 p.x) rfl (wn rfl) (gLoad (v := .int .i64 p.x) (k := 0) 1 hm60 rfl (by kernel_rfl) (.tmp 103) (by kernel_rfl) rfl (litEv (by kernel_rfl))) rfl (by decide) ?_
        refine litVal (i := 2) (v := .pointer (some ⟨g57, 0, none⟩)) rfl (wn rfl) (litRun (by kernel_rfl)) rfl (by decide) ?_
        refine litVal (i := 3) (v := .int .i64 c.at_.x) rfl (wn rfl) (gLoad (v := .int .i64 c.at_.x) (k := 0) 4 hm60 rfl (by kernel_rfl) (.tmp 105) (by kernel_rfl) rfl (litEv (by kernel_rfl))) rfl (by decide) ?_
        by_cases h65 : c.at_.x ≤ p.x
        · refine litVal (i := 4) (v := .bool true) rfl (wn rfl) (boolTo (decide_eq_true h65) (gGeq (A := p.x) (B := c.at_.x) (.tmp 104) (.tmp 106) rfl (litEv (by kernel_rfl)) (litEv (by kernel_rfl)))) rfl (by decide) ?_
          refine litVal (i := 5) (v := .bool true) rfl (wn rfl) (litRun (by kernel_rfl)) rfl (by decide) ?_
          refine litVal (i := 6) (v := .pointer (some ⟨g5, 0, none⟩)) rfl (wgY rfl rfl rfl (by decide) (by kernel_rfl)) (litRun (by kernel_rfl)) rfl (by decide) ?_
          refine litVal (i := 7) (v := .int .i64 p.x) rfl (wgY rfl rfl rfl (by decide) (by kernel_rfl)) (gLoad (v := .int .i64 p.x) (k := 0) 1 hm60 rfl (by kernel_rfl) (.tmp 109) (by kernel_rfl) rfl (litEv (by kernel_rfl))) rfl (by decide) ?_
          refine litVal (i := 8) (v := .pointer (some ⟨g57, 0, none⟩)) rfl (wgY rfl rfl rfl (by decide) (by kernel_rfl)) (litRun (by kernel_rfl)) rfl (by decide) ?_
          refine litVal (i := 9) (v := .int .i64 c.at_.x) rfl (wgY rfl rfl rfl (by decide) (by kernel_rfl)) (gLoad (v := .int .i64 c.at_.x) (k := 0) 4 hm60 rfl (by kernel_rfl) (.tmp 111) (by kernel_rfl) rfl (litEv (by kernel_rfl))) rfl (by decide) ?_
          refine litVal (i := 10) (v := .int .i64 (S : Int)) rfl (wgY rfl rfl rfl (by decide) (by kernel_rfl)) (litRun (by kernel_rfl)) rfl (by decide) ?_
          refine litVal (i := 11) (v := .int .i64 (c.at_.x + (S : Int))) rfl (wgY rfl rfl rfl (by decide) (by kernel_rfl)) (addRun (A := c.at_.x) (B := (S : Int)) (C := c.at_.x + (S : Int)) (.tmp 112) (.tmp 113) rfl (litEv (by kernel_rfl)) (litEv (by kernel_rfl)) rfl (by omega)) rfl (by decide) ?_
          by_cases h66 : p.x < (c.at_.x + (S : Int))
          · refine litVal (i := 12) (v := .bool true) rfl (wgY rfl rfl rfl (by decide) (by kernel_rfl)) (boolTo (decide_eq_true h66) (lssRun (A := p.x) (B := (c.at_.x + (S : Int))) (.tmp 110) (.tmp 114) rfl (litEv (by kernel_rfl)) (litEv (by kernel_rfl)))) rfl (by decide) ?_
            refine litVal (i := 13) (v := .bool true) rfl (wn rfl) (litRun (by kernel_rfl)) rfl (by decide) ?_
            refine litVal (i := 14) (v := .bool true) rfl (wn rfl) (litRun (by kernel_rfl)) rfl (by decide) ?_
            refine litVal (i := 15) (v := .pointer (some ⟨g5, 1, none⟩)) rfl (wgY rfl rfl rfl (by decide) (by kernel_rfl)) (litRun (by kernel_rfl)) rfl (by decide) ?_
            refine litVal (i := 16) (v := .int .i64 p.y) rfl (wgY rfl rfl rfl (by decide) (by kernel_rfl)) (gLoad (v := .int .i64 p.y) (k := 1) 1 hm60 rfl (by kernel_rfl) (.tmp 118) (by kernel_rfl) rfl (litEv (by kernel_rfl))) rfl (by decide) ?_
            refine litVal (i := 17) (v := .pointer (some ⟨g57, 1, none⟩)) rfl (wgY rfl rfl rfl (by decide) (by kernel_rfl)) (litRun (by kernel_rfl)) rfl (by decide) ?_
            refine litVal (i := 18) (v := .int .i64 c.at_.y) rfl (wgY rfl rfl rfl (by decide) (by kernel_rfl)) (gLoad (v := .int .i64 c.at_.y) (k := 1) 4 hm60 rfl (by kernel_rfl) (.tmp 120) (by kernel_rfl) rfl (litEv (by kernel_rfl))) rfl (by decide) ?_
            by_cases h67 : c.at_.y ≤ p.y
            · refine litVal (i := 19) (v := .bool true) rfl (wgY rfl rfl rfl (by decide) (by kernel_rfl)) (boolTo (decide_eq_true h67) (gGeq (A := p.y) (B := c.at_.y) (.tmp 119) (.tmp 121) rfl (litEv (by kernel_rfl)) (litEv (by kernel_rfl)))) rfl (by decide) ?_
              refine litVal (i := 20) (v := .bool true) rfl (wn rfl) (litRun (by kernel_rfl)) rfl (by decide) ?_
              refine litVal (i := 21) (v := .bool true) rfl (wn rfl) (litRun (by kernel_rfl)) rfl (by decide) ?_
              refine litVal (i := 22) (v := .pointer (some ⟨g5, 1, none⟩)) rfl (wgY rfl rfl rfl (by decide) (by kernel_rfl)) (litRun (by kernel_rfl)) rfl (by decide) ?_
              refine litVal (i := 23) (v := .int .i64 p.y) rfl (wgY rfl rfl rfl (by decide) (by kernel_rfl)) (gLoad (v := .int .i64 p.y) (k := 1) 1 hm60 rfl (by kernel_rfl) (.tmp 125) (by kernel_rfl) rfl (litEv (by kernel_rfl))) rfl (by decide) ?_
              refine litVal (i := 24) (v := .pointer (some ⟨g57, 1, none⟩)) rfl (wgY rfl rfl rfl (by decide) (by kernel_rfl)) (litRun (by kernel_rfl)) rfl (by decide) ?_
              refine litVal (i := 25) (v := .int .i64 c.at_.y) rfl (wgY rfl rfl rfl (by decide) (by kernel_rfl)) (gLoad (v := .int .i64 c.at_.y) (k := 1) 4 hm60 rfl (by kernel_rfl) (.tmp 127) (by kernel_rfl) rfl (litEv (by kernel_rfl))) rfl (by decide) ?_
              refine litVal (i := 26) (v := .int .i64 (S : Int)) rfl (wgY rfl rfl rfl (by decide) (by kernel_rfl)) (litRun (by kernel_rfl)) rfl (by decide) ?_
              refine litVal (i := 27) (v := .int .i64 (c.at_.y + (S : Int))) rfl (wgY rfl rfl rfl (by decide) (by kernel_rfl)) (addRun (A := c.at_.y) (B := (S : Int)) (C := c.at_.y + (S : Int)) (.tmp 128) (.tmp 129) rfl (litEv (by kernel_rfl)) (litEv (by kernel_rfl)) rfl (by omega)) rfl (by decide) ?_
              by_cases h68 : p.y < (c.at_.y + (S : Int))
              · refine litVal (i := 28) (v := .bool true) rfl (wgY rfl rfl rfl (by decide) (by kernel_rfl)) (boolTo (decide_eq_true h68) (lssRun (A := p.y) (B := (c.at_.y + (S : Int))) (.tmp 126) (.tmp 130) rfl (litEv (by kernel_rfl)) (litEv (by kernel_rfl)))) rfl (by decide) ?_
                refine litVal (i := 29) (v := .bool true) rfl (wn rfl) (litRun (by kernel_rfl)) rfl (by decide) ?_
                refine litVal (i := 30) (v := .bool true) rfl (wn rfl) (litRun (by kernel_rfl)) rfl (by decide) ?_
                refine litVal (i := 31) (v := .pointer (some ⟨g5, 2, none⟩)) rfl (wgY rfl rfl rfl (by decide) (by kernel_rfl)) (litRun (by kernel_rfl)) rfl (by decide) ?_
                refine litVal (i := 32) (v := .int .i64 p.z) rfl (wgY rfl rfl rfl (by decide) (by kernel_rfl)) (gLoad (v := .int .i64 p.z) (k := 2) 1 hm60 rfl (by kernel_rfl) (.tmp 134) (by kernel_rfl) rfl (litEv (by kernel_rfl))) rfl (by decide) ?_
                refine litVal (i := 33) (v := .pointer (some ⟨g57, 2, none⟩)) rfl (wgY rfl rfl rfl (by decide) (by kernel_rfl)) (litRun (by kernel_rfl)) rfl (by decide) ?_
                refine litVal (i := 34) (v := .int .i64 c.at_.z) rfl (wgY rfl rfl rfl (by decide) (by kernel_rfl)) (gLoad (v := .int .i64 c.at_.z) (k := 2) 4 hm60 rfl (by kernel_rfl) (.tmp 136) (by kernel_rfl) rfl (litEv (by kernel_rfl))) rfl (by decide) ?_
                by_cases h69 : c.at_.z ≤ p.z
                · refine litVal (i := 35) (v := .bool true) rfl (wgY rfl rfl rfl (by decide) (by kernel_rfl)) (boolTo (decide_eq_true h69) (gGeq (A := p.z) (B := c.at_.z) (.tmp 135) (.tmp 137) rfl (litEv (by kernel_rfl)) (litEv (by kernel_rfl)))) rfl (by decide) ?_
                  refine litVal (i := 36) (v := .bool true) rfl (wn rfl) (litRun (by kernel_rfl)) rfl (by decide) ?_
                  refine litVal (i := 37) (v := .bool true) rfl (wn rfl) (litRun (by kernel_rfl)) rfl (by decide) ?_
                  refine litVal (i := 38) (v := .pointer (some ⟨g5, 2, none⟩)) rfl (wgY rfl rfl rfl (by decide) (by kernel_rfl)) (litRun (by kernel_rfl)) rfl (by decide) ?_
                  refine litVal (i := 39) (v := .int .i64 p.z) rfl (wgY rfl rfl rfl (by decide) (by kernel_rfl)) (gLoad (v := .int .i64 p.z) (k := 2) 1 hm60 rfl (by kernel_rfl) (.tmp 141) (by kernel_rfl) rfl (litEv (by kernel_rfl))) rfl (by decide) ?_
                  refine litVal (i := 40) (v := .pointer (some ⟨g57, 2, none⟩)) rfl (wgY rfl rfl rfl (by decide) (by kernel_rfl)) (litRun (by kernel_rfl)) rfl (by decide) ?_
                  refine litVal (i := 41) (v := .int .i64 c.at_.z) rfl (wgY rfl rfl rfl (by decide) (by kernel_rfl)) (gLoad (v := .int .i64 c.at_.z) (k := 2) 4 hm60 rfl (by kernel_rfl) (.tmp 143) (by kernel_rfl) rfl (litEv (by kernel_rfl))) rfl (by decide) ?_
                  refine litVal (i := 42) (v := .int .i64 (S : Int)) rfl (wgY rfl rfl rfl (by decide) (by kernel_rfl)) (litRun (by kernel_rfl)) rfl (by decide) ?_
                  refine litVal (i := 43) (v := .int .i64 (c.at_.z + (S : Int))) rfl (wgY rfl rfl rfl (by decide) (by kernel_rfl)) (addRun (A := c.at_.z) (B := (S : Int)) (C := c.at_.z + (S : Int)) (.tmp 144) (.tmp 145) rfl (litEv (by kernel_rfl)) (litEv (by kernel_rfl)) rfl (by omega)) rfl (by decide) ?_
                  by_cases h70 : p.z < (c.at_.z + (S : Int))
                  · refine litVal (i := 44) (v := .bool true) rfl (wgY rfl rfl rfl (by decide) (by kernel_rfl)) (boolTo (decide_eq_true h70) (lssRun (A := p.z) (B := (c.at_.z + (S : Int))) (.tmp 142) (.tmp 146) rfl (litEv (by kernel_rfl)) (litEv (by kernel_rfl)))) rfl (by decide) ?_
                    refine litVal (i := 45) (v := .bool true) rfl (wn rfl) (litRun (by kernel_rfl)) rfl (by decide) ?_
                    refine plDone (by decide) ?_
                    refine then_normal (hK64 _ _ ?_)
                    refine wp_cond_true (litEv (by kernel_rfl)) ?_
                    refine plStart ?_
                    refine litVal (i := 0) (v := .int .i64 (n : Int)) rfl (wn rfl) (litRun (by kernel_rfl)) rfl (by decide) ?_
                    refine litVal (i := 1) (v := .int .i64 ((n : Int) + 1)) rfl (wn rfl) (addRun (A := (n : Int)) (B := 1) (C := (n : Int) + 1) (.tmp 149) (.const (.int .i64 1)) rfl (litEv (by kernel_rfl)) (litEv (by kernel_rfl)) rfl (by omega)) rfl (by decide) ?_
                    refine litVal (i := 2) (v := .int .i64 ((n : Int) + 1)) rfl (wn rfl) (litRun (by kernel_rfl)) rfl (by decide) ?_
                    refine plDone (by decide) ?_
                    refine then_normal ?_
                    exact ⟨(n + 1), by rw [hcnt, if_pos (decide_eq_true (hinC.2 (by omega)))]; omega, ⟨litSize, rfl, ⟨litGet (by kernel_rfl), ⟨litGet (by kernel_rfl), ⟨litGet (by kernel_rfl), ⟨litGet (by kernel_rfl), ⟨litGet (by kernel_rfl), ⟨litGet (by kernel_rfl), ⟨litGet (by kernel_rfl), ⟨litGet (by kernel_rfl), ⟨litGet (by kernel_rfl), ⟨litGet (by kernel_rfl), ⟨litGet (by kernel_rfl), ⟨litGet (by kernel_rfl), ⟨litGet (by kernel_rfl), ⟨litGet (by kernel_rfl), ⟨litGet (by kernel_rfl), ⟨litGet (by kernel_rfl), ⟨litGet (by kernel_rfl), ⟨litGet (by kernel_rfl), ⟨litGet (by kernel_rfl), ⟨litGet (by kernel_rfl), ⟨litGet (by kernel_rfl), ⟨litGet (by kernel_rfl), ⟨litGet (by kernel_rfl), ⟨litGet (by kernel_rfl), ⟨litGet (by kernel_rfl), ⟨litGet (by kernel_rfl), ⟨litGet (by kernel_rfl), ⟨litGet (by kernel_rfl), ⟨litGet (by kernel_rfl), ⟨litGet (by kernel_rfl), ⟨litGet (by kernel_rfl), ⟨litGet (by kernel_rfl), ⟨litGet (by kernel_rfl), ⟨litGet (by kernel_rfl), ⟨litGet (by kernel_rfl), ⟨litGet (by kernel_rfl), ⟨litGet (by kernel_rfl), ⟨litGet (by kernel_rfl), ⟨litGet (by kernel_rfl), ⟨litGet (by kernel_rfl), ⟨litGet (by kernel_rfl), ⟨litGet (by kernel_rfl), ⟨litGet (by kernel_rfl), ⟨litGet (by kernel_rfl), ⟨litGet (by kernel_rfl), ⟨litGet (by kernel_rfl), ⟨litGet (by kernel_rfl), ⟨litGet (by kernel_rfl), ⟨litGet (by kernel_rfl), ⟨litGet (by kernel_rfl), ⟨litGet (by kernel_rfl), ⟨litGet (by kernel_rfl), ⟨litGet (by kernel_rfl), ⟨litGet (by kernel_rfl), ⟨litGet (by kernel_rfl), ⟨litGet (by kernel_rfl), ⟨litGet (by kernel_rfl), ⟨litGet (by kernel_rfl), trivial⟩⟩⟩⟩⟩⟩⟩⟩⟩⟩⟩⟩⟩⟩⟩⟩⟩⟩⟩⟩⟩⟩⟩⟩⟩⟩⟩⟩⟩⟩⟩⟩⟩⟩⟩⟩⟩⟩⟩⟩⟩⟩⟩⟩⟩⟩⟩⟩⟩⟩⟩⟩⟩⟩⟩⟩⟩⟩⟩, hm60⟩
                  · refine litVal (i := 44) (v := .bool false) rfl (wgY rfl rfl rfl (by decide) (by kernel_rfl)) (boolTo (decide_eq_false h70) (lssRun (A := p.z) (B := (c.at_.z + (S : Int))) (.tmp 142) (.tmp 146) rfl (litEv (by kernel_rfl)) (litEv (by kernel_rfl)))) rfl (by decide) ?_
                    refine litVal (i := 45) (v := .bool false) rfl (wn rfl) (litRun (by kernel_rfl)) rfl (by decide) ?_
                    refine plDone (by decide) ?_
                    refine then_normal (hK64 _ _ ?_)
                    refine wp_cond_false (litEv (by kernel_rfl)) ?_
                    refine wp_skip ?_
                    refine then_normal ?_
                    exact ⟨n, by rw [hcnt, if_neg (fun h => absurd (hinC.1 (of_decide_eq_true h)) (by omega))]; omega, ⟨litSize, rfl, ⟨litGet (by kernel_rfl), ⟨litGet (by kernel_rfl), ⟨litGet (by kernel_rfl), ⟨litGet (by kernel_rfl), ⟨litGet (by kernel_rfl), ⟨litGet (by kernel_rfl), ⟨litGet (by kernel_rfl), ⟨litGet (by kernel_rfl), ⟨litGet (by kernel_rfl), ⟨litGet (by kernel_rfl), ⟨litGet (by kernel_rfl), ⟨litGet (by kernel_rfl), ⟨litGet (by kernel_rfl), ⟨litGet (by kernel_rfl), ⟨litGet (by kernel_rfl), ⟨litGet (by kernel_rfl), ⟨litGet (by kernel_rfl), ⟨litGet (by kernel_rfl), ⟨litGet (by kernel_rfl), ⟨litGet (by kernel_rfl), ⟨litGet (by kernel_rfl), ⟨litGet (by kernel_rfl), ⟨litGet (by kernel_rfl), ⟨litGet (by kernel_rfl), ⟨litGet (by kernel_rfl), ⟨litGet (by kernel_rfl), ⟨litGet (by kernel_rfl), ⟨litGet (by kernel_rfl), ⟨litGet (by kernel_rfl), ⟨litGet (by kernel_rfl), ⟨litGet (by kernel_rfl), ⟨litGet (by kernel_rfl), ⟨litGet (by kernel_rfl), ⟨litGet (by kernel_rfl), ⟨litGet (by kernel_rfl), ⟨litGet (by kernel_rfl), ⟨litGet (by kernel_rfl), ⟨litGet (by kernel_rfl), ⟨litGet (by kernel_rfl), ⟨litGet (by kernel_rfl), ⟨litGet (by kernel_rfl), ⟨litGet (by kernel_rfl), ⟨litGet (by kernel_rfl), ⟨litGet (by kernel_rfl), ⟨litGet (by kernel_rfl), ⟨litGet (by kernel_rfl), ⟨litGet (by kernel_rfl), ⟨litGet (by kernel_rfl), ⟨litGet (by kernel_rfl), ⟨litGet (by kernel_rfl), ⟨litGet (by kernel_rfl), ⟨litGet (by kernel_rfl), ⟨litGet (by kernel_rfl), ⟨litGet (by kernel_rfl), ⟨litGet (by kernel_rfl), ⟨litGet (by kernel_rfl), ⟨litGet (by kernel_rfl), ⟨litGet (by kernel_rfl), trivial⟩⟩⟩⟩⟩⟩⟩⟩⟩⟩⟩⟩⟩⟩⟩⟩⟩⟩⟩⟩⟩⟩⟩⟩⟩⟩⟩⟩⟩⟩⟩⟩⟩⟩⟩⟩⟩⟩⟩⟩⟩⟩⟩⟩⟩⟩⟩⟩⟩⟩⟩⟩⟩⟩⟩⟩⟩⟩⟩, hm60⟩
                · refine litVal (i := 35) (v := .bool false) rfl (wgY rfl rfl rfl (by decide) (by kernel_rfl)) (boolTo (decide_eq_false h69) (gGeq (A := p.z) (B := c.at_.z) (.tmp 135) (.tmp 137) rfl (litEv (by kernel_rfl)) (litEv (by kernel_rfl)))) rfl (by decide) ?_
                  refine litVal (i := 36) (v := .bool false) rfl (wn rfl) (litRun (by kernel_rfl)) rfl (by decide) ?_
                  refine litVal (i := 37) (v := .bool false) rfl (wn rfl) (litRun (by kernel_rfl)) rfl (by decide) ?_
                  refine plSkip (i := 38) rfl (wgN rfl rfl rfl (by decide) (by kernel_rfl)) ?_
                  refine qPut rfl (by decide) ?_
                  refine plSkip (i := 39) rfl (wgN rfl rfl rfl (by decide) (by kernel_rfl)) ?_
                  refine qPut rfl (by decide) ?_
                  refine plSkip (i := 40) rfl (wgN rfl rfl rfl (by decide) (by kernel_rfl)) ?_
                  refine qPut rfl (by decide) ?_
                  refine plSkip (i := 41) rfl (wgN rfl rfl rfl (by decide) (by kernel_rfl)) ?_
                  refine qPut rfl (by decide) ?_
                  refine plSkip (i := 42) rfl (wgN rfl rfl rfl (by decide) (by kernel_rfl)) ?_
                  refine qPut rfl (by decide) ?_
                  refine plSkip (i := 43) rfl (wgN rfl rfl rfl (by decide) (by kernel_rfl)) ?_
                  refine qPut rfl (by decide) ?_
                  refine plSkip (i := 44) rfl (wgN rfl rfl rfl (by decide) (by kernel_rfl)) ?_
                  refine qPut rfl (by decide) ?_
                  refine litVal (i := 45) (v := .bool false) rfl (wn rfl) (litRun (by kernel_rfl)) rfl (by decide) ?_
                  refine plDone (by decide) ?_
                  refine then_normal (hK64 _ _ ?_)
                  refine wp_cond_false (litEv (by kernel_rfl)) ?_
                  refine wp_skip ?_
                  refine then_normal ?_
                  exact ⟨n, by rw [hcnt, if_neg (fun h => absurd (hinC.1 (of_decide_eq_true h)) (by omega))]; omega, ⟨litSize, rfl, ⟨litGet (by kernel_rfl), ⟨litGet (by kernel_rfl), ⟨litGet (by kernel_rfl), ⟨litGet (by kernel_rfl), ⟨litGet (by kernel_rfl), ⟨litGet (by kernel_rfl), ⟨litGet (by kernel_rfl), ⟨litGet (by kernel_rfl), ⟨litGet (by kernel_rfl), ⟨litGet (by kernel_rfl), ⟨litGet (by kernel_rfl), ⟨litGet (by kernel_rfl), ⟨litGet (by kernel_rfl), ⟨litGet (by kernel_rfl), ⟨litGet (by kernel_rfl), ⟨litGet (by kernel_rfl), ⟨litGet (by kernel_rfl), ⟨litGet (by kernel_rfl), ⟨litGet (by kernel_rfl), ⟨litGet (by kernel_rfl), ⟨litGet (by kernel_rfl), ⟨litGet (by kernel_rfl), ⟨litGet (by kernel_rfl), ⟨litGet (by kernel_rfl), ⟨litGet (by kernel_rfl), ⟨litGet (by kernel_rfl), ⟨litGet (by kernel_rfl), ⟨litGet (by kernel_rfl), ⟨litGet (by kernel_rfl), ⟨litGet (by kernel_rfl), ⟨litGet (by kernel_rfl), ⟨litGet (by kernel_rfl), ⟨litGet (by kernel_rfl), ⟨litGet (by kernel_rfl), ⟨litGet (by kernel_rfl), ⟨litGet (by kernel_rfl), ⟨litGet (by kernel_rfl), ⟨litGet (by kernel_rfl), ⟨litGet (by kernel_rfl), ⟨litGet (by kernel_rfl), ⟨litGet (by kernel_rfl), ⟨litGet (by kernel_rfl), ⟨litGet (by kernel_rfl), ⟨litGet (by kernel_rfl), ⟨litGet (by kernel_rfl), ⟨litGet (by kernel_rfl), ⟨litGet (by kernel_rfl), ⟨litGet (by kernel_rfl), ⟨litGet (by kernel_rfl), ⟨litGet (by kernel_rfl), ⟨litGet (by kernel_rfl), ⟨litGet (by kernel_rfl), ⟨litGet (by kernel_rfl), ⟨litGet (by kernel_rfl), ⟨litGet (by kernel_rfl), ⟨litGet (by kernel_rfl), ⟨litGet (by kernel_rfl), ⟨litGet (by kernel_rfl), trivial⟩⟩⟩⟩⟩⟩⟩⟩⟩⟩⟩⟩⟩⟩⟩⟩⟩⟩⟩⟩⟩⟩⟩⟩⟩⟩⟩⟩⟩⟩⟩⟩⟩⟩⟩⟩⟩⟩⟩⟩⟩⟩⟩⟩⟩⟩⟩⟩⟩⟩⟩⟩⟩⟩⟩⟩⟩⟩⟩, hm60⟩
              · refine litVal (i := 28) (v := .bool false) rfl (wgY rfl rfl rfl (by decide) (by kernel_rfl)) (boolTo (decide_eq_false h68) (lssRun (A := p.y) (B := (c.at_.y + (S : Int))) (.tmp 126) (.tmp 130) rfl (litEv (by kernel_rfl)) (litEv (by kernel_rfl)))) rfl (by decide) ?_
                refine litVal (i := 29) (v := .bool false) rfl (wn rfl) (litRun (by kernel_rfl)) rfl (by decide) ?_
                refine litVal (i := 30) (v := .bool false) rfl (wn rfl) (litRun (by kernel_rfl)) rfl (by decide) ?_
                refine plSkip (i := 31) rfl (wgN rfl rfl rfl (by decide) (by kernel_rfl)) ?_
                refine qPut rfl (by decide) ?_
                refine plSkip (i := 32) rfl (wgN rfl rfl rfl (by decide) (by kernel_rfl)) ?_
                refine qPut rfl (by decide) ?_
                refine plSkip (i := 33) rfl (wgN rfl rfl rfl (by decide) (by kernel_rfl)) ?_
                refine qPut rfl (by decide) ?_
                refine plSkip (i := 34) rfl (wgN rfl rfl rfl (by decide) (by kernel_rfl)) ?_
                refine qPut rfl (by decide) ?_
                refine plSkip (i := 35) rfl (wgN rfl rfl rfl (by decide) (by kernel_rfl)) ?_
                refine qPut rfl (by decide) ?_
                refine litVal (i := 36) (v := .bool false) rfl (wn rfl) (litRun (by kernel_rfl)) rfl (by decide) ?_
                refine litVal (i := 37) (v := .bool false) rfl (wn rfl) (litRun (by kernel_rfl)) rfl (by decide) ?_
                refine plSkip (i := 38) rfl (wgN rfl rfl rfl (by decide) (by kernel_rfl)) ?_
                refine qPut rfl (by decide) ?_
                refine plSkip (i := 39) rfl (wgN rfl rfl rfl (by decide) (by kernel_rfl)) ?_
                refine qPut rfl (by decide) ?_
                refine plSkip (i := 40) rfl (wgN rfl rfl rfl (by decide) (by kernel_rfl)) ?_
                refine qPut rfl (by decide) ?_
                refine plSkip (i := 41) rfl (wgN rfl rfl rfl (by decide) (by kernel_rfl)) ?_
                refine qPut rfl (by decide) ?_
                refine plSkip (i := 42) rfl (wgN rfl rfl rfl (by decide) (by kernel_rfl)) ?_
                refine qPut rfl (by decide) ?_
                refine plSkip (i := 43) rfl (wgN rfl rfl rfl (by decide) (by kernel_rfl)) ?_
                refine qPut rfl (by decide) ?_
                refine plSkip (i := 44) rfl (wgN rfl rfl rfl (by decide) (by kernel_rfl)) ?_
                refine qPut rfl (by decide) ?_
                refine litVal (i := 45) (v := .bool false) rfl (wn rfl) (litRun (by kernel_rfl)) rfl (by decide) ?_
                refine plDone (by decide) ?_
                refine then_normal (hK64 _ _ ?_)
                refine wp_cond_false (litEv (by kernel_rfl)) ?_
                refine wp_skip ?_
                refine then_normal ?_
                exact ⟨n, by rw [hcnt, if_neg (fun h => absurd (hinC.1 (of_decide_eq_true h)) (by omega))]; omega, ⟨litSize, rfl, ⟨litGet (by kernel_rfl), ⟨litGet (by kernel_rfl), ⟨litGet (by kernel_rfl), ⟨litGet (by kernel_rfl), ⟨litGet (by kernel_rfl), ⟨litGet (by kernel_rfl), ⟨litGet (by kernel_rfl), ⟨litGet (by kernel_rfl), ⟨litGet (by kernel_rfl), ⟨litGet (by kernel_rfl), ⟨litGet (by kernel_rfl), ⟨litGet (by kernel_rfl), ⟨litGet (by kernel_rfl), ⟨litGet (by kernel_rfl), ⟨litGet (by kernel_rfl), ⟨litGet (by kernel_rfl), ⟨litGet (by kernel_rfl), ⟨litGet (by kernel_rfl), ⟨litGet (by kernel_rfl), ⟨litGet (by kernel_rfl), ⟨litGet (by kernel_rfl), ⟨litGet (by kernel_rfl), ⟨litGet (by kernel_rfl), ⟨litGet (by kernel_rfl), ⟨litGet (by kernel_rfl), ⟨litGet (by kernel_rfl), ⟨litGet (by kernel_rfl), ⟨litGet (by kernel_rfl), ⟨litGet (by kernel_rfl), ⟨litGet (by kernel_rfl), ⟨litGet (by kernel_rfl), ⟨litGet (by kernel_rfl), ⟨litGet (by kernel_rfl), ⟨litGet (by kernel_rfl), ⟨litGet (by kernel_rfl), ⟨litGet (by kernel_rfl), ⟨litGet (by kernel_rfl), ⟨litGet (by kernel_rfl), ⟨litGet (by kernel_rfl), ⟨litGet (by kernel_rfl), ⟨litGet (by kernel_rfl), ⟨litGet (by kernel_rfl), ⟨litGet (by kernel_rfl), ⟨litGet (by kernel_rfl), ⟨litGet (by kernel_rfl), ⟨litGet (by kernel_rfl), ⟨litGet (by kernel_rfl), ⟨litGet (by kernel_rfl), ⟨litGet (by kernel_rfl), ⟨litGet (by kernel_rfl), ⟨litGet (by kernel_rfl), ⟨litGet (by kernel_rfl), ⟨litGet (by kernel_rfl), ⟨litGet (by kernel_rfl), ⟨litGet (by kernel_rfl), ⟨litGet (by kernel_rfl), ⟨litGet (by kernel_rfl), ⟨litGet (by kernel_rfl), trivial⟩⟩⟩⟩⟩⟩⟩⟩⟩⟩⟩⟩⟩⟩⟩⟩⟩⟩⟩⟩⟩⟩⟩⟩⟩⟩⟩⟩⟩⟩⟩⟩⟩⟩⟩⟩⟩⟩⟩⟩⟩⟩⟩⟩⟩⟩⟩⟩⟩⟩⟩⟩⟩⟩⟩⟩⟩⟩⟩, hm60⟩
            · refine litVal (i := 19) (v := .bool false) rfl (wgY rfl rfl rfl (by decide) (by kernel_rfl)) (boolTo (decide_eq_false h67) (gGeq (A := p.y) (B := c.at_.y) (.tmp 119) (.tmp 121) rfl (litEv (by kernel_rfl)) (litEv (by kernel_rfl)))) rfl (by decide) ?_
              refine litVal (i := 20) (v := .bool false) rfl (wn rfl) (litRun (by kernel_rfl)) rfl (by decide) ?_
              refine litVal (i := 21) (v := .bool false) rfl (wn rfl) (litRun (by kernel_rfl)) rfl (by decide) ?_
              refine plSkip (i := 22) rfl (wgN rfl rfl rfl (by decide) (by kernel_rfl)) ?_
              refine qPut rfl (by decide) ?_
              refine plSkip (i := 23) rfl (wgN rfl rfl rfl (by decide) (by kernel_rfl)) ?_
              refine qPut rfl (by decide) ?_
              refine plSkip (i := 24) rfl (wgN rfl rfl rfl (by decide) (by kernel_rfl)) ?_
              refine qPut rfl (by decide) ?_
              refine plSkip (i := 25) rfl (wgN rfl rfl rfl (by decide) (by kernel_rfl)) ?_
              refine qPut rfl (by decide) ?_
              refine plSkip (i := 26) rfl (wgN rfl rfl rfl (by decide) (by kernel_rfl)) ?_
              refine qPut rfl (by decide) ?_
              refine plSkip (i := 27) rfl (wgN rfl rfl rfl (by decide) (by kernel_rfl)) ?_
              refine qPut rfl (by decide) ?_
              refine plSkip (i := 28) rfl (wgN rfl rfl rfl (by decide) (by kernel_rfl)) ?_
              refine qPut rfl (by decide) ?_
              refine litVal (i := 29) (v := .bool false) rfl (wn rfl) (litRun (by kernel_rfl)) rfl (by decide) ?_
              refine litVal (i := 30) (v := .bool false) rfl (wn rfl) (litRun (by kernel_rfl)) rfl (by decide) ?_
              refine plSkip (i := 31) rfl (wgN rfl rfl rfl (by decide) (by kernel_rfl)) ?_
              refine qPut rfl (by decide) ?_
              refine plSkip (i := 32) rfl (wgN rfl rfl rfl (by decide) (by kernel_rfl)) ?_
              refine qPut rfl (by decide) ?_
              refine plSkip (i := 33) rfl (wgN rfl rfl rfl (by decide) (by kernel_rfl)) ?_
              refine qPut rfl (by decide) ?_
              refine plSkip (i := 34) rfl (wgN rfl rfl rfl (by decide) (by kernel_rfl)) ?_
              refine qPut rfl (by decide) ?_
              refine plSkip (i := 35) rfl (wgN rfl rfl rfl (by decide) (by kernel_rfl)) ?_
              refine qPut rfl (by decide) ?_
              refine litVal (i := 36) (v := .bool false) rfl (wn rfl) (litRun (by kernel_rfl)) rfl (by decide) ?_
              refine litVal (i := 37) (v := .bool false) rfl (wn rfl) (litRun (by kernel_rfl)) rfl (by decide) ?_
              refine plSkip (i := 38) rfl (wgN rfl rfl rfl (by decide) (by kernel_rfl)) ?_
              refine qPut rfl (by decide) ?_
              refine plSkip (i := 39) rfl (wgN rfl rfl rfl (by decide) (by kernel_rfl)) ?_
              refine qPut rfl (by decide) ?_
              refine plSkip (i := 40) rfl (wgN rfl rfl rfl (by decide) (by kernel_rfl)) ?_
              refine qPut rfl (by decide) ?_
              refine plSkip (i := 41) rfl (wgN rfl rfl rfl (by decide) (by kernel_rfl)) ?_
              refine qPut rfl (by decide) ?_
              refine plSkip (i := 42) rfl (wgN rfl rfl rfl (by decide) (by kernel_rfl)) ?_
              refine qPut rfl (by decide) ?_
              refine plSkip (i := 43) rfl (wgN rfl rfl rfl (by decide) (by kernel_rfl)) ?_
              refine qPut rfl (by decide) ?_
              refine plSkip (i := 44) rfl (wgN rfl rfl rfl (by decide) (by kernel_rfl)) ?_
              refine qPut rfl (by decide) ?_
              refine litVal (i := 45) (v := .bool false) rfl (wn rfl) (litRun (by kernel_rfl)) rfl (by decide) ?_
              refine plDone (by decide) ?_
              refine then_normal (hK64 _ _ ?_)
              refine wpPrune [(2, .pointer (some ⟨g2, 0, none⟩)), (3, .pointer (some ⟨g5, 0, none⟩)), (6, .slice (some ⟨b53, 0, none⟩) LL.length c33), (8, .slice A37 RR.length c38), (10, .int .i64 (n : Int)), (11, .int .i64 (k : Int)), (12, .int .i64 (S : Int)), (13, .pointer (some ⟨g57, 0, none⟩)), (51, .int .i64 (k : Int)), (52, .slice (some ⟨b53, 0, none⟩) LL.length c33), (53, .int .i64 (LL.length : Int)), (54, .bool true), (57, .slice (some ⟨b53, 0, none⟩) LL.length c33), (58, .int .i64 (k : Int)), (59, .pointer (some ⟨b53, 0 + k * 4, none⟩)), (60, .pointer (some ⟨b53, 0 + k * 4 + 3, none⟩)), (61, .int .i64 (m : Int)), (62, .int .i64 (S : Int)), (63, .slice (some ⟨b53, 0, none⟩) LL.length c33), (64, .int .i64 (k : Int)), (65, .pointer (some ⟨b53, 0 + k * 4, none⟩)), (66, .pointer (some ⟨b53, 0 + k * 4, none⟩)), (67, .agg (pcs c.at_).toArray), (68, .slice (some ⟨b53, 0, none⟩) LL.length c33), (69, .int .i64 (k : Int)), (70, .pointer (some ⟨b53, 0 + k * 4, none⟩)), (71, .pointer (some ⟨b53, 0 + k * 4 + 3, none⟩)), (72, .int .i64 (m : Int)), (73, .bool false), (74, .bool false), (75, .slice (some ⟨b53, 0, none⟩) LL.length c33), (76, .int .i64 (k : Int)), (77, .pointer (some ⟨b53, 0 + k * 4, none⟩)), (78, .pointer (some ⟨b53, 0 + k * 4 + 3, none⟩)), (79, .int .i64 (m : Int)), (80, .bool false), (81, .bool false), (82, .bool false), (83, .pointer (some ⟨g57, 0, none⟩)), (84, .int .i64 c.at_.x), (85, .int .i64 (S : Int)), (86, .int .i64 0), (87, .bool false), (88, .bool false), (89, .bool false), (90, .pointer (some ⟨g57, 1, none⟩)), (91, .int .i64 c.at_.y), (92, .int .i64 (S : Int)), (93, .int .i64 0), (94, .bool false), (95, .bool false), (96, .bool false), (97, .pointer (some ⟨g57, 2, none⟩)), (98, .int .i64 c.at_.z), (99, .int .i64 (S : Int)), (100, .int .i64 0), (101, .bool false), (102, .bool false), (103, .pointer (some ⟨g5, 0, none⟩)), (104, .int .i64 p.x), (105, .pointer (some ⟨g57, 0, none⟩)), (106, .int .i64 c.at_.x), (107, .bool true), (108, .bool true), (109, .pointer (some ⟨g5, 0, none⟩)), (110, .int .i64 p.x), (111, .pointer (some ⟨g57, 0, none⟩)), (112, .int .i64 c.at_.x), (113, .int .i64 (S : Int)), (114, .int .i64 (c.at_.x + (S : Int))), (115, .bool true), (116, .bool true), (117, .bool true), (118, .pointer (some ⟨g5, 1, none⟩)), (119, .int .i64 p.y), (120, .pointer (some ⟨g57, 1, none⟩)), (121, .int .i64 c.at_.y), (122, .bool false), (123, .bool false), (124, .bool false), (132, .bool false), (133, .bool false), (139, .bool false), (140, .bool false), (148, .bool false)] ⟨litGet (by kernel_rfl), ⟨litGet (by kernel_rfl), ⟨litGet (by kernel_rfl), ⟨litGet (by kernel_rfl), ⟨litGet (by kernel_rfl), ⟨litGet (by kernel_rfl), ⟨litGet (by kernel_rfl), ⟨litGet (by kernel_rfl), ⟨litGet (by kernel_rfl), ⟨litGet (by kernel_rfl), ⟨litGet (by kernel_rfl), ⟨litGet (by kernel_rfl), ⟨litGet (by kernel_rfl), ⟨litGet (by kernel_rfl), ⟨litGet (by kernel_rfl), ⟨litGet (by kernel_rfl), ⟨litGet (by kernel_rfl), ⟨litGet (by kernel_rfl), ⟨litGet (by kernel_rfl), ⟨litGet (by kernel_rfl), ⟨litGet (by kernel_rfl), ⟨litGet (by kernel_rfl), ⟨litGet (by kernel_rfl), ⟨litGet (by kernel_rfl), ⟨litGet (by kernel_rfl), ⟨litGet (by kernel_rfl), ⟨litGet (by kernel_rfl), ⟨litGet (by kernel_rfl), ⟨litGet (by kernel_rfl), ⟨litGet (by kernel_rfl), ⟨litGet (by kernel_rfl), ⟨litGet (by kernel_rfl), ⟨litGet (by kernel_rfl), ⟨litGet (by kernel_rfl), ⟨litGet (by kernel_rfl), ⟨litGet (by kernel_rfl), ⟨litGet (by kernel_rfl), ⟨litGet (by kernel_rfl), ⟨litGet (by kernel_rfl), ⟨litGet (by kernel_rfl), ⟨litGet (by kernel_rfl), ⟨litGet (by kernel_rfl), ⟨litGet (by kernel_rfl), ⟨litGet (by kernel_rfl), ⟨litGet (by kernel_rfl), ⟨litGet (by kernel_rfl), ⟨litGet (by kernel_rfl), ⟨litGet (by kernel_rfl), ⟨litGet (by kernel_rfl), ⟨litGet (by kernel_rfl), ⟨litGet (by kernel_rfl), ⟨litGet (by kernel_rfl), ⟨litGet (by kernel_rfl), ⟨litGet (by kernel_rfl), ⟨litGet (by kernel_rfl), ⟨litGet (by kernel_rfl), ⟨litGet (by kernel_rfl), ⟨litGet (by kernel_rfl), ⟨litGet (by kernel_rfl), ⟨litGet (by kernel_rfl), ⟨litGet (by kernel_rfl), ⟨litGet (by kernel_rfl), ⟨litGet (by kernel_rfl), ⟨litGet (by kernel_rfl), ⟨litGet (by kernel_rfl), ⟨litGet (by kernel_rfl), ⟨litGet (by kernel_rfl), ⟨litGet (by kernel_rfl), ⟨litGet (by kernel_rfl), ⟨litGet (by kernel_rfl), ⟨litGet (by kernel_rfl), ⟨litGet (by kernel_rfl), ⟨litGet (by kernel_rfl), ⟨litGet (by kernel_rfl), ⟨litGet (by kernel_rfl), ⟨litGet (by kernel_rfl), ⟨litGet (by kernel_rfl), ⟨litGet (by kernel_rfl), ⟨litGet (by kernel_rfl), ⟨litGet (by kernel_rfl), ⟨litGet (by kernel_rfl), ⟨litGet (by kernel_rfl), ⟨litGet (by kernel_rfl), ⟨litGet (by kernel_rfl), ⟨litGet (by kernel_rfl), trivial⟩⟩⟩⟩⟩⟩⟩⟩⟩⟩⟩⟩⟩⟩⟩⟩⟩⟩⟩⟩⟩⟩⟩⟩⟩⟩⟩⟩⟩⟩⟩⟩⟩⟩⟩⟩⟩⟩⟩⟩⟩⟩⟩⟩⟩⟩⟩⟩⟩⟩⟩⟩⟩⟩⟩⟩⟩⟩⟩⟩⟩⟩⟩⟩⟩⟩⟩⟩⟩⟩⟩⟩⟩⟩⟩⟩⟩⟩⟩⟩⟩⟩⟩⟩⟩ (fun X71 => ?_)
              refine wp_cond_false (litEv (by kernel_rfl)) ?_
              refine wp_skip ?_
              refine then_normal ?_
              exact ⟨n, by rw [hcnt, if_neg (fun h => absurd (hinC.1 (of_decide_eq_true h)) (by omega))]; omega, ⟨litSize, rfl, ⟨litGet (by kernel_rfl), ⟨litGet (by kernel_rfl), ⟨litGet (by kernel_rfl), ⟨litGet (by kernel_rfl), ⟨litGet (by kernel_rfl), ⟨litGet (by kernel_rfl), ⟨litGet (by kernel_rfl), ⟨litGet (by kernel_rfl), ⟨litGet (by kernel_rfl), ⟨litGet (by kernel_rfl), ⟨litGet (by kernel_rfl), ⟨litGet (by kernel_rfl), ⟨litGet (by kernel_rfl), ⟨litGet (by kernel_rfl), ⟨litGet (by kernel_rfl), ⟨litGet (by kernel_rfl), ⟨litGet (by kernel_rfl), ⟨litGet (by kernel_rfl), ⟨litGet (by kernel_rfl), ⟨litGet (by kernel_rfl), ⟨litGet (by kernel_rfl), ⟨litGet (by kernel_rfl), ⟨litGet (by kernel_rfl), ⟨litGet (by kernel_rfl), ⟨litGet (by kernel_rfl), ⟨litGet (by kernel_rfl), ⟨litGet (by kernel_rfl), ⟨litGet (by kernel_rfl), ⟨litGet (by kernel_rfl), ⟨litGet (by kernel_rfl), ⟨litGet (by kernel_rfl), ⟨litGet (by kernel_rfl), ⟨litGet (by kernel_rfl), ⟨litGet (by kernel_rfl), ⟨litGet (by kernel_rfl), ⟨litGet (by kernel_rfl), ⟨litGet (by kernel_rfl), ⟨litGet (by kernel_rfl), ⟨litGet (by kernel_rfl), ⟨litGet (by kernel_rfl), ⟨litGet (by kernel_rfl), ⟨litGet (by kernel_rfl), ⟨litGet (by kernel_rfl), ⟨litGet (by kernel_rfl), ⟨litGet (by kernel_rfl), ⟨litGet (by kernel_rfl), ⟨litGet (by kernel_rfl), ⟨litGet (by kernel_rfl), ⟨litGet (by kernel_rfl), ⟨litGet (by kernel_rfl), ⟨litGet (by kernel_rfl), ⟨litGet (by kernel_rfl), ⟨litGet (by kernel_rfl), ⟨litGet (by kernel_rfl), ⟨litGet (by kernel_rfl), ⟨litGet (by kernel_rfl), ⟨litGet (by kernel_rfl), ⟨litGet (by kernel_rfl), trivial⟩⟩⟩⟩⟩⟩⟩⟩⟩⟩⟩⟩⟩⟩⟩⟩⟩⟩⟩⟩⟩⟩⟩⟩⟩⟩⟩⟩⟩⟩⟩⟩⟩⟩⟩⟩⟩⟩⟩⟩⟩⟩⟩⟩⟩⟩⟩⟩⟩⟩⟩⟩⟩⟩⟩⟩⟩⟩⟩, hm60⟩
          · refine litVal (i := 12) (v := .bool false) rfl (wgY rfl rfl rfl (by decide) (by kernel_rfl)) (boolTo (decide_eq_false h66) (lssRun (A := p.x) (B := (c.at_.x + (S : Int))) (.tmp 110) (.tmp 114) rfl (litEv (by kernel_rfl)) (litEv (by kernel_rfl)))) rfl (by decide) ?_
            refine litVal (i := 13) (v := .bool false) rfl (wn rfl) (litRun (by kernel_rfl)) rfl (by decide) ?_
            refine litVal (i := 14) (v := .bool false) rfl (wn rfl) (litRun (by kernel_rfl)) rfl (by decide) ?_
            refine plSkip (i := 15) rfl (wgN rfl rfl rfl (by decide) (by kernel_rfl)) ?_
            refine qPut rfl (by decide) ?_
            refine plSkip (i := 16) rfl (wgN rfl rfl rfl (by decide) (by kernel_rfl)) ?_
            refine qPut rfl (by decide) ?_
            refine plSkip (i := 17) rfl (wgN rfl rfl rfl (by decide) (by kernel_rfl)) ?_
            refine qPut rfl (by decide) ?_
            refine plSkip (i := 18) rfl (wgN rfl rfl rfl (by decide) (by kernel_rfl)) ?_
            refine qPut rfl (by decide) ?_
            refine plSkip (i := 19) rfl (wgN rfl rfl rfl (by decide) (by kernel_rfl)) ?_
            refine qPut rfl (by decide) ?_
            refine litVal (i := 20) (v := .bool false) rfl (wn rfl) (litRun (by kernel_rfl)) rfl (by decide) ?_
            refine litVal (i := 21) (v := .bool false) rfl (wn rfl) (litRun (by kernel_rfl)) rfl (by decide) ?_
            refine plSkip (i := 22) rfl (wgN rfl rfl rfl (by decide) (by kernel_rfl)) ?_
            refine qPut rfl (by decide) ?_
            refine plSkip (i := 23) rfl (wgN rfl rfl rfl (by decide) (by kernel_rfl)) ?_
            refine qPut rfl (by decide) ?_
            refine plSkip (i := 24) rfl (wgN rfl rfl rfl (by decide) (by kernel_rfl)) ?_
            refine qPut rfl (by decide) ?_
            refine plSkip (i := 25) rfl (wgN rfl rfl rfl (by decide) (by kernel_rfl)) ?_
            refine qPut rfl (by decide) ?_
            refine plSkip (i := 26) rfl (wgN rfl rfl rfl (by decide) (by kernel_rfl)) ?_
            refine qPut rfl (by decide) ?_
            refine plSkip (i := 27) rfl (wgN rfl rfl rfl (by decide) (by kernel_rfl)) ?_
            refine qPut rfl (by decide) ?_
            refine plSkip (i := 28) rfl (wgN rfl rfl rfl (by decide) (by kernel_rfl)) ?_
            refine qPut rfl (by decide) ?_
            refine litVal (i := 29) (v := .bool false) rfl (wn rfl) (litRun (by kernel_rfl)) rfl (by decide) ?_
            refine litVal (i := 30) (v := .bool false) rfl (wn rfl) (litRun (by kernel_rfl)) rfl (by decide) ?_
            refine plSkip (i := 31) rfl (wgN rfl rfl rfl (by decide) (by kernel_rfl)) ?_
            refine qPut rfl (by decide) ?_
            refine plSkip (i := 32) rfl (wgN rfl rfl rfl (by decide) (by kernel_rfl)) ?_
            refine qPut rfl (by decide) ?_
            refine plSkip (i := 33) rfl (wgN rfl rfl rfl (by decide) (by kernel_rfl)) ?_
            refine qPut rfl (by decide) ?_
            refine plSkip (i := 34) rfl (wgN rfl rfl rfl (by decide) (by kernel_rfl)) ?_
            refine qPut rfl (by decide) ?_
            refine plSkip (i := 35) rfl (wgN rfl rfl rfl (by decide) (by kernel_rfl)) ?_
            refine qPut rfl (by decide) ?_
            refine litVal (i := 36) (v := .bool false) rfl (wn rfl) (litRun (by kernel_rfl)) rfl (by decide) ?_
            refine litVal (i := 37) (v := .bool false) rfl (wn rfl) (litRun (by kernel_rfl)) rfl (by decide) ?_
            refine plSkip (i := 38) rfl (wgN rfl rfl rfl (by decide) (by kernel_rfl)) ?_
            refine qPut rfl (by decide) ?_
            refine plSkip (i := 39) rfl (wgN rfl rfl rfl (by decide) (by kernel_rfl)) ?_
            refine qPut rfl (by decide) ?_
            refine plSkip (i := 40) rfl (wgN rfl rfl rfl (by decide) (by kernel_rfl)) ?_
            refine qPut rfl (by decide) ?_
            refine plSkip (i := 41) rfl (wgN rfl rfl rfl (by decide) (by kernel_rfl)) ?_
            refine qPut rfl (by decide) ?_
            refine plSkip (i := 42) rfl (wgN rfl rfl rfl (by decide) (by kernel_rfl)) ?_
            refine qPut rfl (by decide) ?_
            refine plSkip (i := 43) rfl (wgN rfl rfl rfl (by decide) (by kernel_rfl)) ?_
            refine qPut rfl (by decide) ?_
            refine plSkip (i := 44) rfl (wgN rfl rfl rfl (by decide) (by kernel_rfl)) ?_
            refine qPut rfl (by decide) ?_
            refine litVal (i := 45) (v := .bool false) rfl (wn rfl) (litRun (by kernel_rfl)) rfl (by decide) ?_
            refine plDone (by decide) ?_
            refine then_normal (hK64 _ _ ?_)
            refine wpPrune [(2, .pointer (some ⟨g2, 0, none⟩)), (3, .pointer (some ⟨g5, 0, none⟩)), (6, .slice (some ⟨b53, 0, none⟩) LL.length c33), (8, .slice A37 RR.length c38), (10, .int .i64 (n : Int)), (11, .int .i64 (k : Int)), (12, .int .i64 (S : Int)), (13, .pointer (some ⟨g57, 0, none⟩)), (51, .int .i64 (k : Int)), (52, .slice (some ⟨b53, 0, none⟩) LL.length c33), (53, .int .i64 (LL.length : Int)), (54, .bool true), (57, .slice (some ⟨b53, 0, none⟩) LL.length c33), (58, .int .i64 (k : Int)), (59, .pointer (some ⟨b53, 0 + k * 4, none⟩)), (60, .pointer (some ⟨b53, 0 + k * 4 + 3, none⟩)), (61, .int .i64 (m : Int)), (62, .int .i64 (S : Int)), (63, .slice (some ⟨b53, 0, none⟩) LL.length c33), (64, .int .i64 (k : Int)), (65, .pointer (some ⟨b53, 0 + k * 4, none⟩)), (66, .pointer (some ⟨b53, 0 + k * 4, none⟩)), (67, .agg (pcs c.at_).toArray), (68, .slice (some ⟨b53, 0, none⟩) LL.length c33), (69, .int .i64 (k : Int)), (70, .pointer (some ⟨b53, 0 + k * 4, none⟩)), (71, .pointer (some ⟨b53, 0 + k * 4 + 3, none⟩)), (72, .int .i64 (m : Int)), (73, .bool false), (74, .bool false), (75, .slice (some ⟨b53, 0, none⟩) LL.length c33), (76, .int .i64 (k : Int)), (77, .pointer (some ⟨b53, 0 + k * 4, none⟩)), (78, .pointer (some ⟨b53, 0 + k * 4 + 3, none⟩)), (79, .int .i64 (m : Int)), (80, .bool false), (81, .bool false), (82, .bool false), (83, .pointer (some ⟨g57, 0, none⟩)), (84, .int .i64 c.at_.x), (85, .int .i64 (S : Int)), (86, .int .i64 0), (87, .bool false), (88, .bool false), (89, .bool false), (90, .pointer (some ⟨g57, 1, none⟩)), (91, .int .i64 c.at_.y), (92, .int .i64 (S : Int)), (93, .int .i64 0), (94, .bool false), (95, .bool false), (96, .bool false), (97, .pointer (some ⟨g57, 2, none⟩)), (98, .int .i64 c.at_.z), (99, .int .i64 (S : Int)), (100, .int .i64 0), (101, .bool false), (102, .bool false), (103, .pointer (some ⟨g5, 0, none⟩)), (104, .int .i64 p.x), (105, .pointer (some ⟨g57, 0, none⟩)), (106, .int .i64 c.at_.x), (107, .bool true), (108, .bool true), (109, .pointer (some ⟨g5, 0, none⟩)), (110, .int .i64 p.x), (111, .pointer (some ⟨g57, 0, none⟩)), (112, .int .i64 c.at_.x), (113, .int .i64 (S : Int)), (114, .int .i64 (c.at_.x + (S : Int))), (115, .bool false), (116, .bool false), (117, .bool false), (123, .bool false), (124, .bool false), (132, .bool false), (133, .bool false), (139, .bool false), (140, .bool false), (148, .bool false)] ⟨litGet (by kernel_rfl), ⟨litGet (by kernel_rfl), ⟨litGet (by kernel_rfl), ⟨litGet (by kernel_rfl), ⟨litGet (by kernel_rfl), ⟨litGet (by kernel_rfl), ⟨litGet (by kernel_rfl), ⟨litGet (by kernel_rfl), ⟨litGet (by kernel_rfl), ⟨litGet (by kernel_rfl), ⟨litGet (by kernel_rfl), ⟨litGet (by kernel_rfl), ⟨litGet (by kernel_rfl), ⟨litGet (by kernel_rfl), ⟨litGet (by kernel_rfl), ⟨litGet (by kernel_rfl), ⟨litGet (by kernel_rfl), ⟨litGet (by kernel_rfl), ⟨litGet (by kernel_rfl), ⟨litGet (by kernel_rfl), ⟨litGet (by kernel_rfl), ⟨litGet (by kernel_rfl), ⟨litGet (by kernel_rfl), ⟨litGet (by kernel_rfl), ⟨litGet (by kernel_rfl), ⟨litGet (by kernel_rfl), ⟨litGet (by kernel_rfl), ⟨litGet (by kernel_rfl), ⟨litGet (by kernel_rfl), ⟨litGet (by kernel_rfl), ⟨litGet (by kernel_rfl), ⟨litGet (by kernel_rfl), ⟨litGet (by kernel_rfl), ⟨litGet (by kernel_rfl), ⟨litGet (by kernel_rfl), ⟨litGet (by kernel_rfl), ⟨litGet (by kernel_rfl), ⟨litGet (by kernel_rfl), ⟨litGet (by kernel_rfl), ⟨litGet (by kernel_rfl), ⟨litGet (by kernel_rfl), ⟨litGet (by kernel_rfl), ⟨litGet (by kernel_rfl), ⟨litGet (by kernel_rfl), ⟨litGet (by kernel_rfl), ⟨litGet (by kernel_rfl), ⟨litGet (by kernel_rfl), ⟨litGet (by kernel_rfl), ⟨litGet (by kernel_rfl), ⟨litGet (by kernel_rfl), ⟨litGet (by kernel_rfl), ⟨litGet (by kernel_rfl), ⟨litGet (by kernel_rfl), ⟨litGet (by kernel_rfl), ⟨litGet (by kernel_rfl), ⟨litGet (by kernel_rfl), ⟨litGet (by kernel_rfl), ⟨litGet (by kernel_rfl), ⟨litGet (by kernel_rfl), ⟨litGet (by kernel_rfl), ⟨litGet (by kernel_rfl), ⟨litGet (by kernel_rfl), ⟨litGet (by kernel_rfl), ⟨litGet (by kernel_rfl), ⟨litGet (by kernel_rfl), ⟨litGet (by kernel_rfl), ⟨litGet (by kernel_rfl), ⟨litGet (by kernel_rfl), ⟨litGet (by kernel_rfl), ⟨litGet (by kernel_rfl), ⟨litGet (by kernel_rfl), ⟨litGet (by kernel_rfl), ⟨litGet (by kernel_rfl), ⟨litGet (by kernel_rfl), ⟨litGet (by kernel_rfl), ⟨litGet (by kernel_rfl), ⟨litGet (by kernel_rfl), ⟨litGet (by kernel_rfl), ⟨litGet (by kernel_rfl), ⟨litGet (by kernel_rfl), trivial⟩⟩⟩⟩⟩⟩⟩⟩⟩⟩⟩⟩⟩⟩⟩⟩⟩⟩⟩⟩⟩⟩⟩⟩⟩⟩⟩⟩⟩⟩⟩⟩⟩⟩⟩⟩⟩⟩⟩⟩⟩⟩⟩⟩⟩⟩⟩⟩⟩⟩⟩⟩⟩⟩⟩⟩⟩⟩⟩⟩⟩⟩⟩⟩⟩⟩⟩⟩⟩⟩⟩⟩⟩⟩⟩⟩⟩⟩⟩⟩ (fun X72 => ?_)
            refine wp_cond_false (litEv (by kernel_rfl)) ?_
            refine wp_skip ?_
            refine then_normal ?_
            exact ⟨n, by rw [hcnt, if_neg (fun h => absurd (hinC.1 (of_decide_eq_true h)) (by omega))]; omega, ⟨litSize, rfl, ⟨litGet (by kernel_rfl), ⟨litGet (by kernel_rfl), ⟨litGet (by kernel_rfl), ⟨litGet (by kernel_rfl), ⟨litGet (by kernel_rfl), ⟨litGet (by kernel_rfl), ⟨litGet (by kernel_rfl), ⟨litGet (by kernel_rfl), ⟨litGet (by kernel_rfl), ⟨litGet (by kernel_rfl), ⟨litGet (by kernel_rfl), ⟨litGet (by kernel_rfl), ⟨litGet (by kernel_rfl), ⟨litGet (by kernel_rfl), ⟨litGet (by kernel_rfl), ⟨litGet (by kernel_rfl), ⟨litGet (by kernel_rfl), ⟨litGet (by kernel_rfl), ⟨litGet (by kernel_rfl), ⟨litGet (by kernel_rfl), ⟨litGet (by kernel_rfl), ⟨litGet (by kernel_rfl), ⟨litGet (by kernel_rfl), ⟨litGet (by kernel_rfl), ⟨litGet (by kernel_rfl), ⟨litGet (by kernel_rfl), ⟨litGet (by kernel_rfl), ⟨litGet (by kernel_rfl), ⟨litGet (by kernel_rfl), ⟨litGet (by kernel_rfl), ⟨litGet (by kernel_rfl), ⟨litGet (by kernel_rfl), ⟨litGet (by kernel_rfl), ⟨litGet (by kernel_rfl), ⟨litGet (by kernel_rfl), ⟨litGet (by kernel_rfl), ⟨litGet (by kernel_rfl), ⟨litGet (by kernel_rfl), ⟨litGet (by kernel_rfl), ⟨litGet (by kernel_rfl), ⟨litGet (by kernel_rfl), ⟨litGet (by kernel_rfl), ⟨litGet (by kernel_rfl), ⟨litGet (by kernel_rfl), ⟨litGet (by kernel_rfl), ⟨litGet (by kernel_rfl), ⟨litGet (by kernel_rfl), ⟨litGet (by kernel_rfl), ⟨litGet (by kernel_rfl), ⟨litGet (by kernel_rfl), ⟨litGet (by kernel_rfl), ⟨litGet (by kernel_rfl), ⟨litGet (by kernel_rfl), ⟨litGet (by kernel_rfl), ⟨litGet (by kernel_rfl), ⟨litGet (by kernel_rfl), ⟨litGet (by kernel_rfl), ⟨litGet (by kernel_rfl), trivial⟩⟩⟩⟩⟩⟩⟩⟩⟩⟩⟩⟩⟩⟩⟩⟩⟩⟩⟩⟩⟩⟩⟩⟩⟩⟩⟩⟩⟩⟩⟩⟩⟩⟩⟩⟩⟩⟩⟩⟩⟩⟩⟩⟩⟩⟩⟩⟩⟩⟩⟩⟩⟩⟩⟩⟩⟩⟩⟩, hm60⟩
        · refine litVal (i := 4) (v := .bool false) rfl (wn rfl) (boolTo (decide_eq_false h65) (gGeq (A := p.x) (B := c.at_.x) (.tmp 104) (.tmp 106) rfl (litEv (by kernel_rfl)) (litEv (by kernel_rfl)))) rfl (by decide) ?_
          refine litVal (i := 5) (v := .bool false) rfl (wn rfl) (litRun (by kernel_rfl)) rfl (by decide) ?_
          refine plSkip (i := 6) rfl (wgN rfl rfl rfl (by decide) (by kernel_rfl)) ?_
          refine qPut rfl (by decide) ?_
          refine plSkip (i := 7) rfl (wgN rfl rfl rfl (by decide) (by kernel_rfl)) ?_
          refine qPut rfl (by decide) ?_
          refine plSkip (i := 8) rfl (wgN rfl rfl rfl (by decide) (by kernel_rfl)) ?_
          refine qPut rfl (by decide) ?_
          refine plSkip (i := 9) rfl (wgN rfl rfl rfl (by decide) (by kernel_rfl)) ?_
          refine qPut rfl (by decide) ?_
          refine plSkip (i := 10) rfl (wgN rfl rfl rfl (by decide) (by kernel_rfl)) ?_
          refine qPut rfl (by decide) ?_
          refine plSkip (i := 11) rfl (wgN rfl rfl rfl (by decide) (by kernel_rfl)) ?_
          refine qPut rfl (by decide) ?_
          refine plSkip (i := 12) rfl (wgN rfl rfl rfl (by decide) (by kernel_rfl)) ?_
          refine qPut rfl (by decide) ?_
          refine litVal (i := 13) (v := .bool false) rfl (wn rfl) (litRun (by kernel_rfl)) rfl (by decide) ?_
          refine litVal (i := 14) (v := .bool false) rfl (wn rfl) (litRun (by kernel_rfl)) rfl (by decide) ?_
          refine plSkip (i := 15) rfl (wgN rfl rfl rfl (by decide) (by kernel_rfl)) ?_
          refine qPut rfl (by decide) ?_
          refine plSkip (i := 16) rfl (wgN rfl rfl rfl (by decide) (by kernel_rfl)) ?_
          refine qPut rfl (by decide) ?_
          refine plSkip (i := 17) rfl (wgN rfl rfl rfl (by decide) (by kernel_rfl)) ?_
          refine qPut rfl (by decide) ?_
          refine plSkip (i := 18) rfl (wgN rfl rfl rfl (by decide) (by kernel_rfl)) ?_
          refine qPut rfl (by decide) ?_
          refine plSkip (i := 19) rfl (wgN rfl rfl rfl (by decide) (by kernel_rfl)) ?_
          refine qPut rfl (by decide) ?_
          refine litVal (i := 20) (v := .bool false) rfl (wn rfl) (litRun (by kernel_rfl)) rfl (by decide) ?_
          refine litVal (i := 21) (v := .bool false) rfl (wn rfl) (litRun (by kernel_rfl)) rfl (by decide) ?_
          refine plSkip (i := 22) rfl (wgN rfl rfl rfl (by decide) (by kernel_rfl)) ?_
          refine qPut rfl (by decide) ?_
          refine plSkip (i := 23) rfl (wgN rfl rfl rfl (by decide) (by kernel_rfl)) ?_
          refine qPut rfl (by decide) ?_
          refine plSkip (i := 24) rfl (wgN rfl rfl rfl (by decide) (by kernel_rfl)) ?_
          refine qPut rfl (by decide) ?_
          refine plSkip (i := 25) rfl (wgN rfl rfl rfl (by decide) (by kernel_rfl)) ?_
          refine qPut rfl (by decide) ?_
          refine plSkip (i := 26) rfl (wgN rfl rfl rfl (by decide) (by kernel_rfl)) ?_
          refine qPut rfl (by decide) ?_
          refine plSkip (i := 27) rfl (wgN rfl rfl rfl (by decide) (by kernel_rfl)) ?_
          refine qPut rfl (by decide) ?_
          refine plSkip (i := 28) rfl (wgN rfl rfl rfl (by decide) (by kernel_rfl)) ?_
          refine qPut rfl (by decide) ?_
          refine litVal (i := 29) (v := .bool false) rfl (wn rfl) (litRun (by kernel_rfl)) rfl (by decide) ?_
          refine litVal (i := 30) (v := .bool false) rfl (wn rfl) (litRun (by kernel_rfl)) rfl (by decide) ?_
          refine plSkip (i := 31) rfl (wgN rfl rfl rfl (by decide) (by kernel_rfl)) ?_
          refine qPut rfl (by decide) ?_
          refine plSkip (i := 32) rfl (wgN rfl rfl rfl (by decide) (by kernel_rfl)) ?_
          refine qPut rfl (by decide) ?_
          refine plSkip (i := 33) rfl (wgN rfl rfl rfl (by decide) (by kernel_rfl)) ?_
          refine qPut rfl (by decide) ?_
          refine plSkip (i := 34) rfl (wgN rfl rfl rfl (by decide) (by kernel_rfl)) ?_
          refine qPut rfl (by decide) ?_
          refine plSkip (i := 35) rfl (wgN rfl rfl rfl (by decide) (by kernel_rfl)) ?_
          refine qPut rfl (by decide) ?_
          refine litVal (i := 36) (v := .bool false) rfl (wn rfl) (litRun (by kernel_rfl)) rfl (by decide) ?_
          refine litVal (i := 37) (v := .bool false) rfl (wn rfl) (litRun (by kernel_rfl)) rfl (by decide) ?_
          refine plSkip (i := 38) rfl (wgN rfl rfl rfl (by decide) (by kernel_rfl)) ?_
          refine qPut rfl (by decide) ?_
          refine plSkip (i := 39) rfl (wgN rfl rfl rfl (by decide) (by kernel_rfl)) ?_
          refine qPut rfl (by decide) ?_
          refine plSkip (i := 40) rfl (wgN rfl rfl rfl (by decide) (by kernel_rfl)) ?_
          refine qPut rfl (by decide) ?_
          refine plSkip (i := 41) rfl (wgN rfl rfl rfl (by decide) (by kernel_rfl)) ?_
          refine qPut rfl (by decide) ?_
          refine plSkip (i := 42) rfl (wgN rfl rfl rfl (by decide) (by kernel_rfl)) ?_
          refine qPut rfl (by decide) ?_
          refine plSkip (i := 43) rfl (wgN rfl rfl rfl (by decide) (by kernel_rfl)) ?_
          refine qPut rfl (by decide) ?_
          refine plSkip (i := 44) rfl (wgN rfl rfl rfl (by decide) (by kernel_rfl)) ?_
          refine qPut rfl (by decide) ?_
          refine litVal (i := 45) (v := .bool false) rfl (wn rfl) (litRun (by kernel_rfl)) rfl (by decide) ?_
          refine plDone (by decide) ?_
          refine then_normal (hK64 _ _ ?_)
          refine wpPrune [(2, .pointer (some ⟨g2, 0, none⟩)), (3, .pointer (some ⟨g5, 0, none⟩)), (6, .slice (some ⟨b53, 0, none⟩) LL.length c33), (8, .slice A37 RR.length c38), (10, .int .i64 (n : Int)), (11, .int .i64 (k : Int)), (12, .int .i64 (S : Int)), (13, .pointer (some ⟨g57, 0, none⟩)), (51, .int .i64 (k : Int)), (52, .slice (some ⟨b53, 0, none⟩) LL.length c33), (53, .int .i64 (LL.length : Int)), (54, .bool true), (57, .slice (some ⟨b53, 0, none⟩) LL.length c33), (58, .int .i64 (k : Int)), (59, .pointer (some ⟨b53, 0 + k * 4, none⟩)), (60, .pointer (some ⟨b53, 0 + k * 4 + 3, none⟩)), (61, .int .i64 (m : Int)), (62, .int .i64 (S : Int)), (63, .slice (some ⟨b53, 0, none⟩) LL.length c33), (64, .int .i64 (k : Int)), (65, .pointer (some ⟨b53, 0 + k * 4, none⟩)), (66, .pointer (some ⟨b53, 0 + k * 4, none⟩)), (67, .agg (pcs c.at_).toArray), (68, .slice (some ⟨b53, 0, none⟩) LL.length c33), (69, .int .i64 (k : Int)), (70, .pointer (some ⟨b53, 0 + k * 4, none⟩)), (71, .pointer (some ⟨b53, 0 + k * 4 + 3, none⟩)), (72, .int .i64 (m : Int)), (73, .bool false), (74, .bool false), (75, .slice (some ⟨b53, 0, none⟩) LL.length c33), (76, .int .i64 (k : Int)), (77, .pointer (some ⟨b53, 0 + k * 4, none⟩)), (78, .pointer (some ⟨b53, 0 + k * 4 + 3, none⟩)), (79, .int .i64 (m : Int)), (80, .bool false), (81, .bool false), (82, .bool false), (83, .pointer (some ⟨g57, 0, none⟩)), (84, .int .i64 c.at_.x), (85, .int .i64 (S : Int)), (86, .int .i64 0), (87, .bool false), (88, .bool false), (89, .bool false), (90, .pointer (some ⟨g57, 1, none⟩)), (91, .int .i64 c.at_.y), (92, .int .i64 (S : Int)), (93, .int .i64 0), (94, .bool false), (95, .bool false), (96, .bool false), (97, .pointer (some ⟨g57, 2, none⟩)), (98, .int .i64 c.at_.z), (99, .int .i64 (S : Int)), (100, .int .i64 0), (101, .bool false), (102, .bool false), (103, .pointer (some ⟨g5, 0, none⟩)), (104, .int .i64 p.x), (105, .pointer (some ⟨g57, 0, none⟩)), (106, .int .i64 c.at_.x), (107, .bool false), (108, .bool false), (116, .bool false), (117, .bool false), (123, .bool false), (124, .bool false), (132, .bool false), (133, .bool false), (139, .bool false), (140, .bool false), (148, .bool false)] ⟨litGet (by kernel_rfl), ⟨litGet (by kernel_rfl), ⟨litGet (by kernel_rfl), ⟨litGet (by kernel_rfl), ⟨litGet (by kernel_rfl), ⟨litGet (by kernel_rfl), ⟨litGet (by kernel_rfl), ⟨litGet (by kernel_rfl), ⟨litGet (by kernel_rfl), ⟨litGet (by kernel_rfl), ⟨litGet (by kernel_rfl), ⟨litGet (by kernel_rfl), ⟨litGet (by kernel_rfl), ⟨litGet (by kernel_rfl), ⟨litGet (by kernel_rfl), ⟨litGet (by kernel_rfl), ⟨litGet (by kernel_rfl), ⟨litGet (by kernel_rfl), ⟨litGet (by kernel_rfl), ⟨litGet (by kernel_rfl), ⟨litGet (by kernel_rfl), ⟨litGet (by kernel_rfl), ⟨litGet (by kernel_rfl), ⟨litGet (by kernel_rfl), ⟨litGet (by kernel_rfl), ⟨litGet (by kernel_rfl), ⟨litGet (by kernel_rfl), ⟨litGet (by kernel_rfl), ⟨litGet (by kernel_rfl), ⟨litGet (by kernel_rfl), ⟨litGet (by kernel_rfl), ⟨litGet (by kernel_rfl), ⟨litGet (by kernel_rfl), ⟨litGet (by kernel_rfl), ⟨litGet (by kernel_rfl), ⟨litGet (by kernel_rfl), ⟨litGet (by kernel_rfl), ⟨litGet (by kernel_rfl), ⟨litGet (by kernel_rfl), ⟨litGet (by kernel_rfl), ⟨litGet (by kernel_rfl), ⟨litGet (by kernel_rfl), ⟨litGet (by kernel_rfl), ⟨litGet (by kernel_rfl), ⟨litGet (by kernel_rfl), ⟨litGet (by kernel_rfl), ⟨litGet (by kernel_rfl), ⟨litGet (by kernel_rfl), ⟨litGet (by kernel_rfl), ⟨litGet (by kernel_rfl), ⟨litGet (by kernel_rfl), ⟨litGet (by kernel_rfl), ⟨litGet (by kernel_rfl), ⟨litGet (by kernel_rfl), ⟨litGet (by kernel_rfl), ⟨litGet (by kernel_rfl), ⟨litGet (by kernel_rfl), ⟨litGet (by kernel_rfl), ⟨litGet (by kernel_rfl), ⟨litGet (by kernel_rfl), ⟨litGet (by kernel_rfl), ⟨litGet (by kernel_rfl), ⟨litGet (by kernel_rfl), ⟨litGet (by kernel_rfl), ⟨litGet (by kernel_rfl), ⟨litGet (by kernel_rfl), ⟨litGet (by kernel_rfl), ⟨litGet (by kernel_rfl), ⟨litGet (by kernel_rfl), ⟨litGet (by kernel_rfl), ⟨litGet (by kernel_rfl), ⟨litGet (by kernel_rfl), ⟨litGet (by kernel_rfl), trivial⟩⟩⟩⟩⟩⟩⟩⟩⟩⟩⟩⟩⟩⟩⟩⟩⟩⟩⟩⟩⟩⟩⟩⟩⟩⟩⟩⟩⟩⟩⟩⟩⟩⟩⟩⟩⟩⟩⟩⟩⟩⟩⟩⟩⟩⟩⟩⟩⟩⟩⟩⟩⟩⟩⟩⟩⟩⟩⟩⟩⟩⟩⟩⟩⟩⟩⟩⟩⟩⟩⟩⟩⟩ (fun X73 => ?_)
          refine wp_cond_false (litEv (by kernel_rfl)) ?_
          refine wp_skip ?_
          refine then_normal ?_
          exact ⟨n, by rw [hcnt, if_neg (fun h => absurd (hinC.1 (of_decide_eq_true h)) (by omega))]; omega, ⟨litSize, rfl, ⟨litGet (by kernel_rfl), ⟨litGet (by kernel_rfl), ⟨litGet (by kernel_rfl), ⟨litGet (by kernel_rfl), ⟨litGet (by kernel_rfl), ⟨litGet (by kernel_rfl), ⟨litGet (by kernel_rfl), ⟨litGet (by kernel_rfl), ⟨litGet (by kernel_rfl), ⟨litGet (by kernel_rfl), ⟨litGet (by kernel_rfl), ⟨litGet (by kernel_rfl), ⟨litGet (by kernel_rfl), ⟨litGet (by kernel_rfl), ⟨litGet (by kernel_rfl), ⟨litGet (by kernel_rfl), ⟨litGet (by kernel_rfl), ⟨litGet (by kernel_rfl), ⟨litGet (by kernel_rfl), ⟨litGet (by kernel_rfl), ⟨litGet (by kernel_rfl), ⟨litGet (by kernel_rfl), ⟨litGet (by kernel_rfl), ⟨litGet (by kernel_rfl), ⟨litGet (by kernel_rfl), ⟨litGet (by kernel_rfl), ⟨litGet (by kernel_rfl), ⟨litGet (by kernel_rfl), ⟨litGet (by kernel_rfl), ⟨litGet (by kernel_rfl), ⟨litGet (by kernel_rfl), ⟨litGet (by kernel_rfl), ⟨litGet (by kernel_rfl), ⟨litGet (by kernel_rfl), ⟨litGet (by kernel_rfl), ⟨litGet (by kernel_rfl), ⟨litGet (by kernel_rfl), ⟨litGet (by kernel_rfl), ⟨litGet (by kernel_rfl), ⟨litGet (by kernel_rfl), ⟨litGet (by kernel_rfl), ⟨litGet (by kernel_rfl), ⟨litGet (by kernel_rfl), ⟨litGet (by kernel_rfl), ⟨litGet (by kernel_rfl), ⟨litGet (by kernel_rfl), ⟨litGet (by kernel_rfl), ⟨litGet (by kernel_rfl), ⟨litGet (by kernel_rfl), ⟨litGet (by kernel_rfl), ⟨litGet (by kernel_rfl), ⟨litGet (by kernel_rfl), ⟨litGet (by kernel_rfl), ⟨litGet (by kernel_rfl), ⟨litGet (by kernel_rfl), ⟨litGet (by kernel_rfl), ⟨litGet (by kernel_rfl), ⟨litGet (by kernel_rfl), trivial⟩⟩⟩⟩⟩⟩⟩⟩⟩⟩⟩⟩⟩⟩⟩⟩⟩⟩⟩⟩⟩⟩⟩⟩⟩⟩⟩⟩⟩⟩⟩⟩⟩⟩⟩⟩⟩⟩⟩⟩⟩⟩⟩⟩⟩⟩⟩⟩⟩⟩⟩⟩⟩⟩⟩⟩⟩⟩⟩, hm60⟩
      · clear hm60
        intro a76 w74 hI_
        obtain ⟨n1, hn1, hF_, hm75⟩ := hI_
        obtain ⟨X77, rfl⟩ := frLit hF_
        clear hF_
        refine gwCut (fun a_ w_ => Fr a_ 300 [(2, .pointer (some ⟨g2, 0, none⟩)), (3, .pointer (some ⟨g5, 0, none⟩)), (6, .slice (some ⟨b53, 0, none⟩) LL.length c33), (8, .slice A37 RR.length c38), (10, .int .i64 (n1 : Int)), (11, .int .i64 (k : Int)), (12, .int .i64 (S : Int)), (13, .pointer (some ⟨g57, 0, none⟩)), (51, .int .i64 (k : Int)), (52, .slice (some ⟨b53, 0, none⟩) LL.length c33), (53, .int .i64 (LL.length : Int)), (54, .bool true), (57, .slice (some ⟨b53, 0, none⟩) LL.length c33), (58, .int .i64 (k : Int)), (59, .pointer (some ⟨b53, 0 + k * 4, none⟩)), (60, .pointer (some ⟨b53, 0 + k * 4 + 3, none⟩)), (61, .int .i64 (m : Int)), (62, .int .i64 (S : Int)), (63, .slice (some ⟨b53, 0, none⟩) LL.length c33), (64, .int .i64 (k : Int)), (65, .pointer (some ⟨b53, 0 + k * 4, none⟩)), (66, .pointer (some ⟨b53, 0 + k * 4, none⟩)), (67, .agg (pcs c.at_).toArray), (68, .slice (some ⟨b53, 0, none⟩) LL.length c33), (69, .int .i64 (k : Int)), (70, .pointer (some ⟨b53, 0 + k * 4, none⟩)), (71, .pointer (some ⟨b53, 0 + k * 4 + 3, none⟩)), (72, .int .i64 (m : Int)), (73, .bool false), (74, .bool false), (75, .slice (some ⟨b53, 0, none⟩) LL.length c33), (76, .int .i64 (k : Int)), (77, .pointer (some ⟨b53, 0 + k * 4, none⟩)), (78, .pointer (some ⟨b53, 0 + k * 4 + 3, none⟩)), (79, .int .i64 (m : Int)), (80, .bool false), (81, .bool false), (82, .bool false), (83, .pointer (some ⟨g57, 0, none⟩)), (84, .int .i64 c.at_.x), (85, .int .i64 (S : Int)), (86, .int .i64 0), (87, .bool false), (88, .bool false), (89, .bool false), (90, .pointer (some ⟨g57, 1, none⟩)), (91, .int .i64 c.at_.y), (92, .int .i64 (S : Int)), (93, .int .i64 0), (94, .bool false), (95, .bool false), (96, .bool false), (97, .pointer (some ⟨g57, 2, none⟩)), (98, .int .i64 c.at_.z), (99, .int .i64 (S : Int)), (100, .int .i64 0), (101, .bool false), (102, .bool false)] ∧ Mem w w_ [.arr g2 37 (bxs b), .arr g5 23 (pcs p), .row (.slice (some ⟨b53, 0, none⟩) LL.length c33) 27 4 LL.length (cus LL), .row (.slice A37 RR.length c38) 54 2 RR.length (rus RR), .arr g57 23 (pcs c.at_)]) ?_ ?_
        · refine wp_seq_k fun K78 hK78 => ?_
          refine mgStart hm75 (by kernel_rfl) ?_
          intro w80 hm79
          clear hm75
          refine mgTake (i := 0) (v := .int .i64 (k : Int)) rfl (by kernel_rfl) (wn rfl) (fun _ _ _ h => h) hm79 (fun w_ h_ => litRun (by kernel_rfl)) ?_
          refine mPut rfl (by decide) ?_
          refine mgTake (i := 1) (v := .int .i64 ((k : Int) + 7)) rfl (by kernel_rfl) (wn rfl) (fun _ _ _ h => h) hm79 (fun w_ h_ => addRun (A := (k : Int)) (B := 7) (C := (k : Int) + 7) (.tmp 151) (.const (.int .i64 7)) rfl (litEv (by kernel_rfl)) (litEv (by kernel_rfl)) rfl (by omega)) ?_
          refine mPut rfl (by decide) ?_
          refine mgTake (i := 2) (v := .slice (some ⟨b53, 0, none⟩) LL.length c33) rfl (by kernel_rfl) (wn rfl) (fun _ _ _ h => h) hm79 (fun w_ h_ => litRun (by kernel_rfl)) ?_
          refine mPut rfl (by decide) ?_
          refine mgTake (i := 3) (v := .int .i64 (LL.length : Int)) rfl (by kernel_rfl) (wn rfl) (fun _ _ _ h => h) hm79 (fun w_ h_ => lenSlRun (A := some ⟨b53, 0, none⟩) (n := LL.length) (c := c33) (.tmp 153) Ty.und_api_Cube rfl (litEv (by kernel_rfl))) ?_
          refine mPut rfl (by decide) ?_
          by_cases h81 : ((k : Int) + 7) < (LL.length : Int)
          · obtain ⟨d, hd⟩ : ∃ d, LL[k + 7]? = some d := ⟨LL[k + 7], List.getElem?_eq_getElem (by omega)⟩
            refine mgTake (i := 4) (v := .bool true) rfl (by kernel_rfl) (wn rfl) (fun _ _ _ h => h) hm79 (fun w_ h_ => boolTo (decide_eq_true h81) (lssRun (A := ((k : Int) + 7)) (B := (LL.length : Int)) (.tmp 152) (.tmp 154) rfl (litEv (by kernel_rfl)) (litEv (by kernel_rfl)))) ?_
            refine mPut rfl (by decide) ?_
            refine mgTake (i := 5) (v := .bool true) rfl (by kernel_rfl) (wn rfl) (fun _ _ _ h => h) hm79 (fun w_ h_ => litRun (by kernel_rfl)) ?_
            refine mPut rfl (by decide) ?_
            refine mgTake (i := 6) (v := .slice (some ⟨b53, 0, none⟩) LL.length c33) rfl (by kernel_rfl) (wgY rfl rfl rfl (by decide) (by kernel_rfl)) (fun _ _ _ h => h) hm79 (fun w_ h_ => litRun (by kernel_rfl)) ?_
            refine mPut rfl (by decide) ?_
            refine mgTake (i := 7) (v := .int .i64 (k : Int)) rfl (by kernel_rfl) (wgY rfl rfl rfl (by decide) (by kernel_rfl)) (fun _ _ _ h => h) hm79 (fun w_ h_ => litRun (by kernel_rfl)) ?_
            refine mPut rfl (by decide) ?_
            refine mgTake (i := 8) (v := .int .i64 ((k : Int) + 7)) rfl (by kernel_rfl) (wgY rfl rfl rfl (by decide) (by kernel_rfl)) (fun _ _ _ h => h) hm79 (fun w_ h_ => addRun (A := (k : Int)) (B := 7) (C := (k : Int) + 7) (.tmp 158) (.const (.int .i64 7)) rfl (litEv (by kernel_rfl)) (litEv (by kernel_rfl)) rfl (by omega)) ?_
            refine mPut rfl (by decide) ?_
            refine mgTake (i := 9) (v := .pointer (some ⟨b53, 0 + (k + 7) * 4, none⟩)) rfl (by kernel_rfl) (wgY rfl rfl rfl (by decide) (by kernel_rfl)) (fun _ _ _ h => h) hm79 (fun w_ h_ => gIaSl (b := b53) (off := 0) (n := LL.length) (c := c33) (kk := .i64) (K := ((k : Int) + 7)) (.tmp 157) (.tmp 159) (k + 7) Ty.sl_api_Cube rfl (litEv (by kernel_rfl)) (litEv (by kernel_rfl)) (by omega) (show k + 7 < LL.length by omega)) ?_
            refine mPut rfl (by decide) ?_
            refine mgTake (i := 10) (v := .pointer (some ⟨b53, 0 + (k + 7) * 4 + 3, none⟩)) rfl (by kernel_rfl) (wgY rfl rfl rfl (by decide) (by kernel_rfl)) (fun _ _ _ h => h) hm79 (fun w_ h_ => litRun (by kernel_rfl)) ?_
            refine mPut rfl (by decide) ?_
            refine mgTake (i := 11) (v := .int .i64 d.lvl) rfl (by kernel_rfl) (wgY rfl rfl rfl (by decide) (by kernel_rfl)) (fun _ _ _ h => h) hm79 (fun w_ h_ => gLoadRd (v := .int .i64 d.lvl) (m := (k + 7) * 4 + 3) (h_.rdRow 2 rfl) rfl (cus_at LL (k + 7) d hd 3 _ rfl) (by omega) (.tmp 161) (by kernel_rfl) rfl (litEv (by kernel_rfl))) ?_
            refine mPut rfl (by decide) ?_
            refine mgTake (i := 12) (v := .slice (some ⟨b53, 0, none⟩) LL.length c33) rfl (by kernel_rfl) (wgY rfl rfl rfl (by decide) (by kernel_rfl)) (fun _ _ _ h => h) hm79 (fun w_ h_ => litRun (by kernel_rfl)) ?_
            refine mPut rfl (by decide) ?_
            refine mgTake (i := 13) (v := .int .i64 (k : Int)) rfl (by kernel_rfl) (wgY rfl rfl rfl (by decide) (by kernel_rfl)) (fun _ _ _ h => h) hm79 (fun w_ h_ => litRun (by kernel_rfl)) ?_
            refine mPut rfl (by decide) ?_
            refine mgTake (i := 14) (v := .pointer (some ⟨b53, 0 + k * 4, none⟩)) rfl (by kernel_rfl) (wgY rfl rfl rfl (by decide) (by kernel_rfl)) (fun _ _ _ h => h) hm79 (fun w_ h_ => gIaSl (b := b53) (off := 0) (n := LL.length) (c := c33) (kk := .i64) (K := (k : Int)) (.tmp 163) (.tmp 164) k Ty.sl_api_Cube rfl (litEv (by kernel_rfl)) (litEv (by kernel_rfl)) (rfl) (show k < LL.length by omega)) ?_
            refine mPut rfl (by decide) ?_
            refine mgTake (i := 15) (v := .pointer (some ⟨b53, 0 + k * 4 + 3, none⟩)) rfl (by kernel_rfl) (wgY rfl rfl rfl (by decide) (by kernel_rfl)) (fun _ _ _ h => h) hm79 (fun w_ h_ => litRun (by kernel_rfl)) ?_
            refine mPut rfl (by decide) ?_
            refine mgTake (i := 16) (v := .int .i64 (m : Int)) rfl (by kernel_rfl) (wgY rfl rfl rfl (by decide) (by kernel_rfl)) (fun _ _ _ h => h) hm79 (fun w_ h_ => gLoadRd (v := .int .i64 (m : Int)) (m := k * 4 + 3) (h_.rdRow 2 rfl) rfl ((by rw [← hlv]; exact cus_at LL k c hc 3 _ rfl)) (by omega) (.tmp 166) (by kernel_rfl) rfl (litEv (by kernel_rfl))) ?_
            refine mPut rfl (by decide) ?_
            by_cases h82 : d.lvl = (m : Int)
            · refine mgTake (i := 17) (v := .bool true) rfl (by kernel_rfl) (wgY rfl rfl rfl (by decide) (by kernel_rfl)) (fun _ _ _ h => h) hm79 (fun w_ h_ => boolTo (decide_eq_true h82) (eqlRun (A := d.lvl) (B := (m : Int)) (.tmp 162) (.tmp 167) rfl (litEv (by kernel_rfl)) (litEv (by kernel_rfl)))) ?_
              refine mPut rfl (by decide) ?_
              refine mgTake (i := 18) (v := .bool true) rfl (by kernel_rfl) (wn rfl) (fun _ _ _ h => h) hm79 (fun w_ h_ => litRun (by kernel_rfl)) ?_
              refine mPut rfl (by decide) ?_
              refine mgTake (i := 19) (v := .bool true) rfl (by kernel_rfl) (wn rfl) (fun _ _ _ h => h) hm79 (fun w_ h_ => litRun (by kernel_rfl)) ?_
              refine mPut rfl (by decide) ?_
              refine mgTake (i := 20) (v := .pointer (some ⟨g57, 0, none⟩)) rfl (by kernel_rfl) (wgY rfl rfl rfl (by decide) (by kernel_rfl)) (fun _ _ _ h => h) hm79 (fun w_ h_ => litRun (by kernel_rfl)) ?_
              refine mPut rfl (by decide) ?_
              refine mgTake (i := 21) (v := .int .i64 c.at_.x) rfl (by kernel_rfl) (wgY rfl rfl rfl (by decide) (by kernel_rfl)) (fun _ _ _ h => h) hm79 (fun w_ h_ => gLoad (v := .int .i64 c.at_.x) (k := 0) 4 h_ rfl (by kernel_rfl) (.tmp 171) (by kernel_rfl) rfl (litEv (by kernel_rfl))) ?_
              refine mPut rfl (by decide) ?_
              refine mgTake (i := 22) (v := .int .i64 (S : Int)) rfl (by kernel_rfl) (wgY rfl rfl rfl (by decide) (by kernel_rfl)) (fun _ _ _ h => h) hm79 (fun w_ h_ => litRun (by kernel_rfl)) ?_
              refine mPut rfl (by decide) ?_
              refine mgTake (i := 23) (v := .int .i64 (2 * (S : Int))) rfl (by kernel_rfl) (wgY rfl rfl rfl (by decide) (by kernel_rfl)) (fun _ _ _ h => h) hm79 (fun w_ h_ => mulRun (A := 2) (B := (S : Int)) (C := 2 * (S : Int)) (.const (.int .i64 2)) (.tmp 173) rfl (litEv (by kernel_rfl)) (litEv (by kernel_rfl)) rfl (by omega)) ?_
              refine mPut rfl (by decide) ?_
              refine mgTake (i := 24) (v := .int .i64 (c.at_.x % (2 * (S : Int)))) rfl (by kernel_rfl) (wgY rfl rfl rfl (by decide) (by kernel_rfl)) (fun _ _ _ h => h) hm79 (fun w_ h_ => remRun (A := c.at_.x) (B := (2 * (S : Int))) (C := c.at_.x % (2 * (S : Int))) (.tmp 172) (.tmp 174) rfl (litEv (by kernel_rfl)) (litEv (by kernel_rfl)) (by omega) (by omega) rfl) ?_
              refine mPut rfl (by decide) ?_
              by_cases h83 : (c.at_.x % (2 * (S : Int))) = 0
              · refine mgTake (i := 25) (v := .bool true) rfl (by kernel_rfl) (wgY rfl rfl rfl (by decide) (by kernel_rfl)) (fun _ _ _ h => h) hm79 (fun w_ h_ => boolTo (decide_eq_true h83) (eqlRun (A := (c.at_.x % (2 * (S : Int)))) (B := 0) (.tmp 175) (.const (.int .i64 0)) rfl (litEv (by kernel_rfl)) (litEv (by kernel_rfl)))) ?_
                refine mPut rfl (by decide) ?_
                refine mgTake (i := 26) (v := .bool true) rfl (by kernel_rfl) (wn rfl) (fun _ _ _ h => h) hm79 (fun w_ h_ => litRun (by kernel_rfl)) ?_
                refine mPut rfl (by decide) ?_
                refine mgTake (i := 27) (v := .bool true) rfl (by kernel_rfl) (wn rfl) (fun _ _ _ h => h) hm79 (fun w_ h_ => litRun (by kernel_rfl)) ?_
                refine mPut rfl (by decide) ?_
                refine mgTake (i := 28) (v := .pointer (some ⟨g57, 1, none⟩)) rfl (by kernel_rfl) (wgY rfl rfl rfl (by decide) (by kernel_rfl)) (fun _ _ _ h => h) hm79 (fun w_ h_ => litRun (by kernel_rfl)) ?_
                refine mPut rfl (by decide) ?_
                refine mgTake (i := 29) (v := .int .i64 c.at_.y) rfl (by kernel_rfl) (wgY rfl rfl rfl (by decide) (by kernel_rfl)) (fun _ _ _ h => h) hm79 (fun w_ h_ => gLoad (v := .int .i64 c.at_.y) (k := 1) 4 h_ rfl (by kernel_rfl) (.tmp 179) (by kernel_rfl) rfl (litEv (by kernel_rfl))) ?_
                refine mPut rfl (by decide) ?_
                refine mgTake (i := 30) (v := .int .i64 (S : Int)) rfl (by kernel_rfl) (wgY rfl rfl rfl (by decide) (by kernel_rfl)) (fun _ _ _ h => h) hm79 (fun w_ h_ => litRun (by kernel_rfl)) ?_
                refine mPut rfl (by decide) ?_
                refine mgTake (i := 31) (v := .int .i64 (2 * (S : Int))) rfl (by kernel_rfl) (wgY rfl rfl rfl (by decide) (by kernel_rfl)) (fun _ _ _ h => h) hm79 (fun w_ h_ => mulRun (A := 2) (B := (S : Int)) (C := 2 * (S : Int)) (.const (.int .i64 2)) (.tmp 181) rfl (litEv (by kernel_rfl)) (litEv (by kernel_rfl)) rfl (by omega)) ?_
                refine mPut rfl (by decide) ?_
                refine mgTake (i := 32) (v := .int .i64 (c.at_.y % (2 * (S : Int)))) rfl (by kernel_rfl) (wgY rfl rfl rfl (by decide) (by kernel_rfl)) (fun _ _ _ h => h) hm79 (fun w_ h_ => remRun (A := c.at_.y) (B := (2 * (S : Int))) (C := c.at_.y % (2 * (S : Int))) (.tmp 180) (.tmp 182) rfl (litEv (by kernel_rfl)) (litEv (by kernel_rfl)) (by omega) (by omega) rfl) ?_
                refine mPut rfl (by decide) ?_
                by_cases h84 : (c.at_.y % (2 * (S : Int))) = 0
                · refine mgTake (i := 33) (v := .bool true) rfl (by kernel_rfl) (wgY rfl rfl rfl (by decide) (by kernel_rfl)) (fun _ _ _ h => h) hm79 (fun w_ h_ => boolTo (decide_eq_true h84) (eqlRun (A := (c.at_.y % (2 * (S : Int)))) (B := 0) (.tmp 183) (.const (.int .i64 0)) rfl (litEv (by kernel_rfl)) (litEv (by kernel_rfl)))) ?_
                  refine mPut rfl (by decide) ?_
                  refine mgTake (i := 34) (v := .bool true) rfl (by kernel_rfl) (wn rfl) (fun _ _ _ h => h) hm79 (fun w_ h_ => litRun (by kernel_rfl)) ?_
                  refine mPut rfl (by decide) ?_
                  refine mgTake (i := 35) (v := .bool true) rfl (by kernel_rfl) (wn rfl) (fun _ _ _ h => h) hm79 (fun w_ h_ => litRun (by kernel_rfl)) ?_
                  refine mPut rfl (by decide) ?_
                  refine mgTake (i := 36) (v := .pointer (some ⟨g57, 2, none⟩)) rfl (by kernel_rfl) (wgY rfl rfl rfl (by decide) (by kernel_rfl)) (fun _ _ _ h => h) hm79 (fun w_ h_ => litRun (by kernel_rfl)) ?_
                  refine mPut rfl (by decide) ?_
                  refine mgTake (i := 37) (v := .int .i64 c.at_.z) rfl (by kernel_rfl) (wgY rfl rfl rfl (by decide) (by kernel_rfl)) (fun _ _ _ h => h) hm79 (fun w_ h_ => gLoad (v := .int .i64 c.at_.z) (k := 2) 4 h_ rfl (by kernel_rfl) (.tmp 187) (by kernel_rfl) rfl (litEv (by kernel_rfl))) ?_
                  refine mPut rfl (by decide) ?_
                  refine mgTake (i := 38) (v := .int .i64 (S : Int)) rfl (by kernel_rfl) (wgY rfl rfl rfl (by decide) (by kernel_rfl)) (fun _ _ _ h => h) hm79 (fun w_ h_ => litRun (by kernel_rfl)) ?_
                  refine mPut rfl (by decide) ?_
                  refine mgTake (i := 39) (v := .int .i64 (2 * (S : Int))) rfl (by kernel_rfl) (wgY rfl rfl rfl (by decide) (by kernel_rfl)) (fun _ _ _ h => h) hm79 (fun w_ h_ => mulRun (A := 2) (B := (S : Int)) (C := 2 * (S : Int)) (.const (.int .i64 2)) (.tmp 189) rfl (litEv (by kernel_rfl)) (litEv (by kernel_rfl)) rfl (by omega)) ?_
                  refine mPut rfl (by decide) ?_
                  refine mgTake (i := 40) (v := .int .i64 (c.at_.z % (2 * (S : Int)))) rfl (by kernel_rfl) (wgY rfl rfl rfl (by decide) (by kernel_rfl)) (fun _ _ _ h => h) hm79 (fun w_ h_ => remRun (A := c.at_.z) (B := (2 * (S : Int))) (C := c.at_.z % (2 * (S : Int))) (.tmp 188) (.tmp 190) rfl (litEv (by kernel_rfl)) (litEv (by kernel_rfl)) (by omega) (by omega) rfl) ?_
                  refine mPut rfl (by decide) ?_
                  by_cases h85 : (c.at_.z % (2 * (S : Int))) = 0
                  · refine mgTake (i := 41) (v := .bool true) rfl (by kernel_rfl) (wgY rfl rfl rfl (by decide) (by kernel_rfl)) (fun _ _ _ h => h) hm79 (fun w_ h_ => boolTo (decide_eq_true h85) (eqlRun (A := (c.at_.z % (2 * (S : Int)))) (B := 0) (.tmp 191) (.const (.int .i64 0)) rfl (litEv (by kernel_rfl)) (litEv (by kernel_rfl)))) ?_
                    refine mPut rfl (by decide) ?_
                    refine mgTake (i := 42) (v := .bool true) rfl (by kernel_rfl) (wn rfl) (fun _ _ _ h => h) hm79 (fun w_ h_ => litRun (by kernel_rfl)) ?_
                    refine mPut rfl (by decide) ?_
                    refine mgTake (i := 43) (v := .bool true) rfl (by kernel_rfl) (wn rfl) (fun _ _ _ h => h) hm79 (fun w_ h_ => litRun (by kernel_rfl)) ?_
                    refine mPut rfl (by decide) ?_
                    refine mgTake (i := 44) (v := .slice (some ⟨b53, 0, none⟩) LL.length c33) rfl (by kernel_rfl) (wgY rfl rfl rfl (by decide) (by kernel_rfl)) (fun _ _ _ h => h) hm79 (fun w_ h_ => litRun (by kernel_rfl)) ?_
                    refine mPut rfl (by decide) ?_
                    refine mgTake (i := 45) (v := .int .i64 (k : Int)) rfl (by kernel_rfl) (wgY rfl rfl rfl (by decide) (by kernel_rfl)) (fun _ _ _ h => h) hm79 (fun w_ h_ => litRun (by kernel_rfl)) ?_
                    refine mPut rfl (by decide) ?_
                    refine mgTake (i := 46) (v := .int .i64 ((k : Int) + 7)) rfl (by kernel_rfl) (wgY rfl rfl rfl (by decide) (by kernel_rfl)) (fun _ _ _ h => h) hm79 (fun w_ h_ => addRun (A := (k : Int)) (B := 7) (C := (k : Int) + 7) (.tmp 196) (.const (.int .i64 7)) rfl (litEv (by kernel_rfl)) (litEv (by kernel_rfl)) rfl (by omega)) ?_
                    refine mPut rfl (by decide) ?_
                    refine mgTake (i := 47) (v := .pointer (some ⟨b53, 0 + (k + 7) * 4, none⟩)) rfl (by kernel_rfl) (wgY rfl rfl rfl (by decide) (by kernel_rfl)) (fun _ _ _ h => h) hm79 (fun w_ h_ => gIaSl (b := b53) (off := 0) (n := LL.length) (c := c33) (kk := .i64) (K := ((k : Int) + 7)) (.tmp 195) (.tmp 197) (k + 7) Ty.sl_api_Cube rfl (litEv (by kernel_rfl)) (litEv (by kernel_rfl)) (by omega) (show k + 7 < LL.length by omega)) ?_
                    refine mPut rfl (by decide) ?_
                    refine mgTake (i := 48) (v := .pointer (some ⟨b53, 0 + (k + 7) * 4, none⟩)) rfl (by kernel_rfl) (wgY rfl rfl rfl (by decide) (by kernel_rfl)) (fun _ _ _ h => h) hm79 (fun w_ h_ => litRun (by kernel_rfl)) ?_
                    refine mPut rfl (by decide) ?_
                    refine mgTake (i := 49) (v := .agg (pcs d.at_).toArray) rfl (by kernel_rfl) (wgY rfl rfl rfl (by decide) (by kernel_rfl)) (fun _ _ _ h => h) hm79 (fun w_ h_ => gLoadAgRd (vs := pcs d.at_) (m := (k + 7) * 4) (h_.rdRow 2 rfl) rfl (fun i u hu => cus_at LL (k + 7) d hd i u (ccs_pt hu)) (by kernel_rfl) (by omega) (.tmp 199) Ty.ag_voxel_api_Point rfl (litEv (by kernel_rfl))) ?_
                    refine mPut rfl (by decide) ?_
                    refine mgTake (i := 50) (v := .pointer (some ⟨g57, 0, none⟩)) rfl (by kernel_rfl) (wgY rfl rfl rfl (by decide) (by kernel_rfl)) (fun _ _ _ h => h) hm79 (fun w_ h_ => litRun (by kernel_rfl)) ?_
                    refine mPut rfl (by decide) ?_
                    refine mgTake (i := 51) (v := .int .i64 c.at_.x) rfl (by kernel_rfl) (wgY rfl rfl rfl (by decide) (by kernel_rfl)) (fun _ _ _ h => h) hm79 (fun w_ h_ => gLoad (v := .int .i64 c.at_.x) (k := 0) 4 h_ rfl (by kernel_rfl) (.tmp 201) (by kernel_rfl) rfl (litEv (by kernel_rfl))) ?_
                    refine mPut rfl (by decide) ?_
                    refine mgTake (i := 52) (v := .int .i64 (S : Int)) rfl (by kernel_rfl) (wgY rfl rfl rfl (by decide) (by kernel_rfl)) (fun _ _ _ h => h) hm79 (fun w_ h_ => litRun (by kernel_rfl)) ?_
                    refine mPut rfl (by decide) ?_
                    refine mgTake (i := 53) (v := .int .i64 (c.at_.x + (S : Int))) rfl (by kernel_rfl) (wgY rfl rfl rfl (by decide) (by kernel_rfl)) (fun _ _ _ h => h) hm79 (fun w_ h_ => addRun (A := c.at_.x) (B := (S : Int)) (C := c.at_.x + (S : Int)) (.tmp 202) (.tmp 203) rfl (litEv (by kernel_rfl)) (litEv (by kernel_rfl)) rfl (by omega)) ?_
                    refine mPut rfl (by decide) ?_
                    refine mgTake (i := 54) (v := .pointer (some ⟨g57, 1, none⟩)) rfl (by kernel_rfl) (wgY rfl rfl rfl (by decide) (by kernel_rfl)) (fun _ _ _ h => h) hm79 (fun w_ h_ => litRun (by kernel_rfl)) ?_
                    refine mPut rfl (by decide) ?_
                    refine mgTake (i := 55) (v := .int .i64 c.at_.y) rfl (by kernel_rfl) (wgY rfl rfl rfl (by decide) (by kernel_rfl)) (fun _ _ _ h => h) hm79 (fun w_ h_ => gLoad (v := .int .i64 c.at_.y) (k := 1) 4 h_ rfl (by kernel_rfl) (.tmp 205) (by kernel_rfl) rfl (litEv (by kernel_rfl))) ?_
                    refine mPut rfl (by decide) ?_
                    refine mgTake (i := 56) (v := .int .i64 (S : Int)) rfl (by kernel_rfl) (wgY rfl rfl rfl (by decide) (by kernel_rfl)) (fun _ _ _ h => h) hm79 (fun w_ h_ => litRun (by kernel_rfl)) ?_
                    refine mPut rfl (by decide) ?_
                    refine mgTake (i := 57) (v := .int .i64 (c.at_.y + (S : Int))) rfl (by kernel_rfl) (wgY rfl rfl rfl (by decide) (by kernel_rfl)) (fun _ _ _ h => h) hm79 (fun w_ h_ => addRun (A := c.at_.y) (B := (S : Int)) (C := c.at_.y + (S : Int)) (.tmp 206) (.tmp 207) rfl (litEv (by kernel_rfl)) (litEv (by kernel_rfl)) rfl (by omega)) ?_
                    refine mPut rfl (by decide) ?_
                    refine mgTake (i := 58) (v := .pointer (some ⟨g57, 2, none⟩)) rfl (by kernel_rfl) (wgY rfl rfl rfl (by decide) (by kernel_rfl)) (fun _ _ _ h => h) hm79 (fun w_ h_ => litRun (by kernel_rfl)) ?_
                    refine mPut rfl (by decide) ?_
                    refine mgTake (i := 59) (v := .int .i64 c.at_.z) rfl (by kernel_rfl) (wgY rfl rfl rfl (by decide) (by kernel_rfl)) (fun _ _ _ h => h) hm79 (fun w_ h_ => gLoad (v := .int .i64 c.at_.z) (k := 2) 4 h_ rfl (by kernel_rfl) (.tmp 209) (by kernel_rfl) rfl (litEv (by kernel_rfl))) ?_
                    refine mPut rfl (by decide) ?_
                    refine mgTake (i := 60) (v := .int .i64 (S : Int)) rfl (by kernel_rfl) (wgY rfl rfl rfl (by decide) (by kernel_rfl)) (fun _ _ _ h => h) hm79 (fun w_ h_ => litRun (by kernel_rfl)) ?_
                    refine mPut rfl (by decide) ?_
                    refine mgTake (i := 61) (v := .int .i64 (c.at_.z + (S : Int))) rfl (by kernel_rfl) (wgY rfl rfl rfl (by decide) (by kernel_rfl)) (fun _ _ _ h => h) hm79 (fun w_ h_ => addRun (A := c.at_.z) (B := (S : Int)) (C := c.at_.z + (S : Int)) (.tmp 210) (.tmp 211) rfl (litEv (by kernel_rfl)) (litEv (by kernel_rfl)) rfl (by omega)) ?_
                    refine mPut rfl (by decide) ?_
                    refine mgCall (i := 62) 32 [.int .i64 (c.at_.x + (S : Int)), .int .i64 (c.at_.y + (S : Int)), .int .i64 (c.at_.z + (S : Int))] [] [] (by kernel_rfl) rfl (by kernel_rfl) (wgY rfl rfl rfl (by decide) (by kernel_rfl)) rfl (litEv rfl) (litArgs (by kernel_rfl)) (at_any (c.at_.x + (S : Int)) (c.at_.y + (S : Int)) (c.at_.z + (S : Int)) _) ?_
                    rintro e w86 ⟨rfl, hbz⟩
                    have hm87 := hm79.below hbz
                    clear hbz hm79
                    refine ⟨_, rfl, hm87, ?_⟩
                    refine mPut rfl (by decide) ?_
                    refine mgTake (i := 63) (v := .bool false) rfl (by kernel_rfl) (wgY rfl rfl rfl (by decide) (by kernel_rfl)) (fun _ _ _ h => h) hm87 (fun w_ h_ => boolTo (decide_eq_false (fun he => eight_no hcov hmem (List.mem_of_getElem? hd) h82 hlv hS hin h83 h84 h85 he)) (eqPtRun (.tmp 200) (.tmp 213) d.at_ (⟨c.at_.x + (S : Int), c.at_.y + (S : Int), c.at_.z + (S : Int)⟩) rfl (litEv (by kernel_rfl)) (litEv (by kernel_rfl)))) ?_
                    refine mPut rfl (by decide) ?_
                    refine mgTake (i := 64) (v := .bool false) rfl (by kernel_rfl) (wn rfl) (fun _ _ _ h => h) hm87 (fun w_ h_ => litRun (by kernel_rfl)) ?_
                    refine mPut rfl (by decide) ?_
                    refine mgDone (by kernel_rfl) ?_
                    refine then_normal (hK78 _ _ ?_)
                    refine wp_cond_false (litEv (by kernel_rfl)) ?_
                    refine wp_skip ?_
                    refine then_normal ?_
                    exact ⟨⟨litSize, rfl, ⟨litGet (by kernel_rfl), ⟨litGet (by kernel_rfl), ⟨litGet (by kernel_rfl), ⟨litGet (by kernel_rfl), ⟨litGet (by kernel_rfl), ⟨litGet (by kernel_rfl), ⟨litGet (by kernel_rfl), ⟨litGet (by kernel_rfl), ⟨litGet (by kernel_rfl), ⟨litGet (by kernel_rfl), ⟨litGet (by kernel_rfl), ⟨litGet (by kernel_rfl), ⟨litGet (by kernel_rfl), ⟨litGet (by kernel_rfl), ⟨litGet (by kernel_rfl), ⟨litGet (by kernel_rfl), ⟨litGet (by kernel_rfl), ⟨litGet (by kernel_rfl), ⟨litGet (by kernel_rfl), ⟨litGet (by kernel_rfl), ⟨litGet (by kernel_rfl), ⟨litGet (by kernel_rfl), ⟨litGet (by kernel_rfl), ⟨litGet (by kernel_rfl), ⟨litGet (by kernel_rfl), ⟨litGet (by kernel_rfl), ⟨litGet (by kernel_rfl), ⟨litGet (by kernel_rfl), ⟨litGet (by kernel_rfl), ⟨litGet (by kernel_rfl), ⟨litGet (by kernel_rfl), ⟨litGet (by kernel_rfl), ⟨litGet (by kernel_rfl), ⟨litGet (by kernel_rfl), ⟨litGet (by kernel_rfl), ⟨litGet (by kernel_rfl), ⟨litGet (by kernel_rfl), ⟨litGet (by kernel_rfl), ⟨litGet (by kernel_rfl), ⟨litGet (by kernel_rfl), ⟨litGet (by kernel_rfl), ⟨litGet (by kernel_rfl), ⟨litGet (by kernel_rfl), ⟨litGet (by kernel_rfl), ⟨litGet (by kernel_rfl), ⟨litGet (by kernel_rfl), ⟨litGet (by kernel_rfl), ⟨litGet (by kernel_rfl), ⟨litGet (by kernel_rfl), ⟨litGet (by kernel_rfl), ⟨litGet (by kernel_rfl), ⟨litGet (by kernel_rfl), ⟨litGet (by kernel_rfl), ⟨litGet (by kernel_rfl), ⟨litGet (by kernel_rfl), ⟨litGet (by kernel_rfl), ⟨litGet (by kernel_rfl), ⟨litGet (by kernel_rfl), trivial⟩⟩⟩⟩⟩⟩⟩⟩⟩⟩⟩⟩⟩⟩⟩⟩⟩⟩⟩⟩⟩⟩⟩⟩⟩⟩⟩⟩⟩⟩⟩⟩⟩⟩⟩⟩⟩⟩⟩⟩⟩⟩⟩⟩⟩⟩⟩⟩⟩⟩⟩⟩⟩⟩⟩⟩⟩⟩⟩, hm87⟩
                  · refine mgTake (i := 41) (v := .bool false) rfl (by kernel_rfl) (wgY rfl rfl rfl (by decide) (by kernel_rfl)) (fun _ _ _ h => h) hm79 (fun w_ h_ => boolTo (decide_eq_false h85) (eqlRun (A := (c.at_.z % (2 * (S : Int)))) (B := 0) (.tmp 191) (.const (.int .i64 0)) rfl (litEv (by kernel_rfl)) (litEv (by kernel_rfl)))) ?_
                    refine mPut rfl (by decide) ?_
                    refine mgTake (i := 42) (v := .bool false) rfl (by kernel_rfl) (wn rfl) (fun _ _ _ h => h) hm79 (fun w_ h_ => litRun (by kernel_rfl)) ?_
                    refine mPut rfl (by decide) ?_
                    refine mgTake (i := 43) (v := .bool false) rfl (by kernel_rfl) (wn rfl) (fun _ _ _ h => h) hm79 (fun w_ h_ => litRun (by kernel_rfl)) ?_
                    refine mPut rfl (by decide) ?_
                    refine mgSkip (i := 44) rfl (by kernel_rfl) (wgN rfl rfl rfl (by decide) (by kernel_rfl)) (fun _ _ _ h => h) hm79 ?_
                    refine mPut rfl (by decide) ?_
                    refine mgSkip (i := 45) rfl (by kernel_rfl) (wgN rfl rfl rfl (by decide) (by kernel_rfl)) (fun _ _ _ h => h) hm79 ?_
                    refine mPut rfl (by decide) ?_
                    refine mgSkip (i := 46) rfl (by kernel_rfl) (wgN rfl rfl rfl (by decide) (by kernel_rfl)) (fun _ _ _ h => h) hm79 ?_
                    refine mPut rfl (by decide) ?_
                    refine mgSkip (i := 47) rfl (by kernel_rfl) (wgN rfl rfl rfl (by decide) (by kernel_rfl)) (fun _ _ _ h => h) hm79 ?_
                    refine mPut rfl (by decide) ?_
                    refine mgSkip (i := 48) rfl (by kernel_rfl) (wgN rfl rfl rfl (by decide) (by kernel_rfl)) (fun _ _ _ h => h) hm79 ?_
                    refine mPut rfl (by decide) ?_
                    refine mgSkip (i := 49) rfl (by kernel_rfl) (wgN rfl rfl rfl (by decide) (by kernel_rfl)) (fun _ _ _ h => h) hm79 ?_
                    refine mPut rfl (by decide) ?_
                    refine mgSkip (i := 50) rfl (by kernel_rfl) (wgN rfl rfl rfl (by decide) (by kernel_rfl)) (fun _ _ _ h => h) hm79 ?_
                    refine mPut rfl (by decide) ?_
                    refine mgSkip (i := 51) rfl (by kernel_rfl) (wgN rfl rfl rfl (by decide) (by kernel_rfl)) (fun _ _ _ h => h) hm79 ?_
                    refine mPut rfl (by decide) ?_
                    refine mgSkip (i := 52) rfl (by kernel_rfl) (wgN rfl rfl rfl (by decide) (by kernel_rfl)) (fun _ _ _ h => h) hm79 ?_
                    refine mPut rfl (by decide) ?_
                    refine mgSkip (i := 53) rfl (by kernel_rfl) (wgN rfl rfl rfl (by decide) (by kernel_rfl)) (fun _ _ _ h => h) hm79 ?_
                    refine mPut rfl (by decide) ?_
                    refine mgSkip (i := 54) rfl (by kernel_rfl) (wgN rfl rfl rfl (by decide) (by kernel_rfl)) (fun _ _ _ h => h) hm79 ?_
                    refine mPut rfl (by decide) ?_
                    refine mgSkip (i := 55) rfl (by kernel_rfl) (wgN rfl rfl rfl (by decide) (by kernel_rfl)) (fun _ _ _ h => h) hm79 ?_
                    refine mPut rfl (by decide) ?_
                    refine mgSkip (i := 56) rfl (by kernel_rfl) (wgN rfl rfl rfl (by decide) (by kernel_rfl)) (fun _ _ _ h => h) hm79 ?_
                    refine mPut rfl (by decide) ?_
                    refine mgSkip (i := 57) rfl (by kernel_rfl) (wgN rfl rfl rfl (by decide) (by kernel_rfl)) (fun _ _ _ h => h) hm79 ?_
                    refine mPut rfl (by decide) ?_
                    refine mgSkip (i := 58) rfl (by kernel_rfl) (wgN rfl rfl rfl (by decide) (by kernel_rfl)) (fun _ _ _ h => h) hm79 ?_
                    refine mPut rfl (by decide) ?_
                    refine mgSkip (i := 59) rfl (by kernel_rfl) (wgN rfl rfl rfl (by decide) (by kernel_rfl)) (fun _ _ _ h => h) hm79 ?_
                    refine mPut rfl (by decide) ?_
                    refine mgSkip (i := 60) rfl (by kernel_rfl) (wgN rfl rfl rfl (by decide) (by kernel_rfl)) (fun _ _ _ h => h) hm79 ?_
                    refine mPut rfl (by decide) ?_
                    refine mgSkip (i := 61) rfl (by kernel_rfl) (wgN rfl rfl rfl (by decide) (by kernel_rfl)) (fun _ _ _ h => h) hm79 ?_
                    refine mPut rfl (by decide) ?_
                    refine mgSkip (i := 62) rfl (by kernel_rfl) (wgN rfl rfl rfl (by decide) (by kernel_rfl)) (fun _ _ _ h => h) hm79 ?_
                    refine mPut rfl (by decide) ?_
                    refine mgSkip (i := 63) rfl (by kernel_rfl) (wgN rfl rfl rfl (by decide) (by kernel_rfl)) (fun _ _ _ h => h) hm79 ?_
                    refine mPut rfl (by decide) ?_
                    refine mgTake (i := 64) (v := .bool false) rfl (by kernel_rfl) (wn rfl) (fun _ _ _ h => h) hm79 (fun w_ h_ => litRun (by kernel_rfl)) ?_
                    refine mPut rfl (by decide) ?_
                    refine mgDone (by kernel_rfl) ?_
                    refine then_normal (hK78 _ _ ?_)
                    refine wpPrune [(2, .pointer (some ⟨g2, 0, none⟩)), (3, .pointer (some ⟨g5, 0, none⟩)), (6, .slice (some ⟨b53, 0, none⟩) LL.length c33), (8, .slice A37 RR.length c38), (10, .int .i64 (n1 : Int)), (11, .int .i64 (k : Int)), (12, .int .i64 (S : Int)), (13, .pointer (some ⟨g57, 0, none⟩)), (51, .int .i64 (k : Int)), (52, .slice (some ⟨b53, 0, none⟩) LL.length c33), (53, .int .i64 (LL.length : Int)), (54, .bool true), (57, .slice (some ⟨b53, 0, none⟩) LL.length c33), (58, .int .i64 (k : Int)), (59, .pointer (some ⟨b53, 0 + k * 4, none⟩)), (60, .pointer (some ⟨b53, 0 + k * 4 + 3, none⟩)), (61, .int .i64 (m : Int)), (62, .int .i64 (S : Int)), (63, .slice (some ⟨b53, 0, none⟩) LL.length c33), (64, .int .i64 (k : Int)), (65, .pointer (some ⟨b53, 0 + k * 4, none⟩)), (66, .pointer (some ⟨b53, 0 + k * 4, none⟩)), (67, .agg (pcs c.at_).toArray), (68, .slice (some ⟨b53, 0, none⟩) LL.length c33), (69, .int .i64 (k : Int)), (70, .pointer (some ⟨b53, 0 + k * 4, none⟩)), (71, .pointer (some ⟨b53, 0 + k * 4 + 3, none⟩)), (72, .int .i64 (m : Int)), (73, .bool false), (74, .bool false), (75, .slice (some ⟨b53, 0, none⟩) LL.length c33), (76, .int .i64 (k : Int)), (77, .pointer (some ⟨b53, 0 + k * 4, none⟩)), (78, .pointer (some ⟨b53, 0 + k * 4 + 3, none⟩)), (79, .int .i64 (m : Int)), (80, .bool false), (81, .bool false), (82, .bool false), (83, .pointer (some ⟨g57, 0, none⟩)), (84, .int .i64 c.at_.x), (85, .int .i64 (S : Int)), (86, .int .i64 0), (87, .bool false), (88, .bool false), (89, .bool false), (90, .pointer (some ⟨g57, 1, none⟩)), (91, .int .i64 c.at_.y), (92, .int .i64 (S : Int)), (93, .int .i64 0), (94, .bool false), (95, .bool false), (96, .bool false), (97, .pointer (some ⟨g57, 2, none⟩)), (98, .int .i64 c.at_.z), (99, .int .i64 (S : Int)), (100, .int .i64 0), (101, .bool false), (102, .bool false), (151, .int .i64 (k : Int)), (152, .int .i64 ((k : Int) + 7)), (153, .slice (some ⟨b53, 0, none⟩) LL.length c33), (154, .int .i64 (LL.length : Int)), (155, .bool true), (156, .bool true), (157, .slice (some ⟨b53, 0, none⟩) LL.length c33), (158, .int .i64 (k : Int)), (159, .int .i64 ((k : Int) + 7)), (160, .pointer (some ⟨b53, 0 + (k + 7) * 4, none⟩)), (161, .pointer (some ⟨b53, 0 + (k + 7) * 4 + 3, none⟩)), (162, .int .i64 d.lvl), (163, .slice (some ⟨b53, 0, none⟩) LL.length c33), (164, .int .i64 (k : Int)), (165, .pointer (some ⟨b53, 0 + k * 4, none⟩)), (166, .pointer (some ⟨b53, 0 + k * 4 + 3, none⟩)), (167, .int .i64 (m : Int)), (168, .bool true), (169, .bool true), (170, .bool true), (171, .pointer (some ⟨g57, 0, none⟩)), (172, .int .i64 c.at_.x), (173, .int .i64 (S : Int)), (174, .int .i64 (2 * (S : Int))), (175, .int .i64 (c.at_.x % (2 * (S : Int)))), (176, .bool true), (177, .bool true), (178, .bool true), (179, .pointer (some ⟨g57, 1, none⟩)), (180, .int .i64 c.at_.y), (181, .int .i64 (S : Int)), (182, .int .i64 (2 * (S : Int))), (183, .int .i64 (c.at_.y % (2 * (S : Int)))), (184, .bool true), (185, .bool true), (186, .bool true), (187, .pointer (some ⟨g57, 2, none⟩)), (188, .int .i64 c.at_.z), (189, .int .i64 (S : Int)), (190, .int .i64 (2 * (S : Int))), (191, .int .i64 (c.at_.z % (2 * (S : Int)))), (192, .bool false), (193, .bool false), (194, .bool false), (215, .bool false)] ⟨litGet (by kernel_rfl), ⟨litGet (by kernel_rfl), ⟨litGet (by kernel_rfl), ⟨litGet (by kernel_rfl), ⟨litGet (by kernel_rfl), ⟨litGet (by kernel_rfl), ⟨litGet (by kernel_rfl), ⟨litGet (by kernel_rfl), ⟨litGet (by kernel_rfl), ⟨litGet (by kernel_rfl), ⟨litGet (by kernel_rfl), ⟨litGet (by kernel_rfl), ⟨litGet (by kernel_rfl), ⟨litGet (by kernel_rfl), ⟨litGet (by kernel_rfl), ⟨litGet (by kernel_rfl), ⟨litGet (by kernel_rfl), ⟨litGet (by kernel_rfl), ⟨litGet (by kernel_rfl), ⟨litGet (by kernel_rfl), ⟨litGet (by kernel_rfl), ⟨litGet (by kernel_rfl), ⟨litGet (by kernel_rfl), ⟨litGet (by kernel_rfl), ⟨litGet (by kernel_rfl), ⟨litGet (by kernel_rfl), ⟨litGet (by kernel_rfl), ⟨litGet (by kernel_rfl), ⟨litGet (by kernel_rfl), ⟨litGet (by kernel_rfl), ⟨litGet (by kernel_rfl), ⟨litGet (by kernel_rfl), ⟨litGet (by kernel_rfl), ⟨litGet (by kernel_rfl), ⟨litGet (by kernel_rfl), ⟨litGet (by kernel_rfl), ⟨litGet (by kernel_rfl), ⟨litGet (by kernel_rfl), ⟨litGet (by kernel_rfl), ⟨litGet (by kernel_rfl), ⟨litGet (by kernel_rfl), ⟨litGet (by kernel_rfl), ⟨litGet (by kernel_rfl), ⟨litGet (by kernel_rfl), ⟨litGet (by kernel_rfl), ⟨litGet (by kernel_rfl), ⟨litGet (by kernel_rfl), ⟨litGet (by kernel_rfl), ⟨litGet (by kernel_rfl), ⟨litGet (by kernel_rfl), ⟨litGet (by kernel_rfl), ⟨litGet (by kernel_rfl), ⟨litGet (by kernel_rfl), ⟨litGet (by kernel_rfl), ⟨litGet (by kernel_rfl), ⟨litGet (by kernel_rfl), ⟨litGet (by kernel_rfl), ⟨litGet (by kernel_rfl), ⟨litGet (by kernel_rfl), ⟨litGet (by kernel_rfl), ⟨litGet (by kernel_rfl), ⟨litGet (by kernel_rfl), ⟨litGet (by kernel_rfl), ⟨litGet (by kernel_rfl), ⟨litGet (by kernel_rfl), ⟨litGet (by kernel_rfl), ⟨litGet (by kernel_rfl), ⟨litGet (by kernel_rfl), ⟨litGet (by kernel_rfl), ⟨litGet (by kernel_rfl), ⟨litGet (by kernel_rfl), ⟨litGet (by kernel_rfl), ⟨litGet (by kernel_rfl), ⟨litGet (by kernel_rfl), ⟨litGet (by kernel_rfl), ⟨litGet (by kernel_rfl), ⟨litGet (by kernel_rfl), ⟨litGet (by kernel_rfl), ⟨litGet (by kernel_rfl), ⟨litGet (by kernel_rfl), ⟨litGet (by kernel_rfl), ⟨litGet (by kernel_rfl), ⟨litGet (by kernel_rfl), ⟨litGet (by kernel_rfl), ⟨litGet (by kernel_rfl), ⟨litGet (by kernel_rfl), ⟨litGet (by kernel_rfl), ⟨litGet (by kernel_rfl), ⟨litGet (by kernel_rfl), ⟨litGet (by kernel_rfl), ⟨litGet (by kernel_rfl), ⟨litGet (by kernel_rfl), ⟨litGet (by kernel_rfl), ⟨litGet (by kernel_rfl), ⟨litGet (by kernel_rfl), ⟨litGet (by kernel_rfl), ⟨litGet (by kernel_rfl), ⟨litGet (by kernel_rfl), ⟨litGet (by kernel_rfl), ⟨litGet (by kernel_rfl), ⟨litGet (by kernel_rfl), ⟨litGet (by kernel_rfl), ⟨litGet (by kernel_rfl), trivial⟩⟩⟩⟩⟩⟩⟩⟩⟩⟩⟩⟩⟩⟩⟩⟩⟩⟩⟩⟩⟩⟩⟩⟩⟩⟩⟩⟩⟩⟩⟩⟩⟩⟩⟩⟩⟩⟩⟩⟩⟩⟩⟩⟩⟩⟩⟩⟩⟩⟩⟩⟩⟩⟩⟩⟩⟩⟩⟩⟩⟩⟩⟩⟩⟩⟩⟩⟩⟩⟩⟩⟩⟩⟩⟩⟩⟩⟩⟩⟩⟩⟩⟩⟩⟩⟩⟩⟩⟩⟩⟩⟩⟩⟩⟩⟩⟩⟩⟩⟩⟩⟩⟩ (fun X88 => ?_)
                    refine wp_cond_false (litEv (by kernel_rfl)) ?_
                    refine wp_skip ?_
                    refine then_normal ?_
                    exact ⟨⟨litSize, rfl, ⟨litGet (by kernel_rfl), ⟨litGet (by kernel_rfl), ⟨litGet (by kernel_rfl), ⟨litGet (by kernel_rfl), ⟨litGet (by kernel_rfl), ⟨litGet (by kernel_rfl), ⟨litGet (by kernel_rfl), ⟨litGet (by kernel_rfl), ⟨litGet (by kernel_rfl), ⟨litGet (by kernel_rfl), ⟨litGet (by kernel_rfl), ⟨litGet (by kernel_rfl), ⟨litGet (by kernel_rfl), ⟨litGet (by kernel_rfl), ⟨litGet (by kernel_rfl), ⟨litGet (by kernel_rfl), ⟨litGet (by kernel_rfl), ⟨litGet (by kernel_rfl), ⟨litGet (by kernel_rfl), ⟨litGet (by kernel_rfl), ⟨litGet (by kernel_rfl), ⟨litGet (by kernel_rfl), ⟨litGet (by kernel_rfl), ⟨litGet (by kernel_rfl), ⟨litGet (by kernel_rfl), ⟨litGet (by kernel_rfl), ⟨litGet (by kernel_rfl), ⟨litGet (by kernel_rfl), ⟨litGet (by kernel_rfl), ⟨litGet (by kernel_rfl), ⟨litGet (by kernel_rfl), ⟨litGet (by kernel_rfl), ⟨litGet (by kernel_rfl), ⟨litGet (by kernel_rfl), ⟨litGet (by kernel_rfl), ⟨litGet (by kernel_rfl), ⟨litGet (by kernel_rfl), ⟨litGet (by kernel_rfl), ⟨litGet (by kernel_rfl), ⟨litGet (by kernel_rfl), ⟨litGet (by kernel_rfl), ⟨litGet (by kernel_rfl), ⟨litGet (by kernel_rfl), ⟨litGet (by kernel_rfl), ⟨litGet (by kernel_rfl), ⟨litGet (by kernel_rfl), ⟨litGet (by kernel_rfl), ⟨litGet (by kernel_rfl), ⟨litGet (by kernel_rfl), ⟨litGet (by kernel_rfl), ⟨litGet (by kernel_rfl), ⟨litGet (by kernel_rfl), ⟨litGet (by kernel_rfl), ⟨litGet (by kernel_rfl), ⟨litGet (by kernel_rfl), ⟨litGet (by kernel_rfl), ⟨litGet (by kernel_rfl), ⟨litGet (by kernel_rfl), trivial⟩⟩⟩⟩⟩⟩⟩⟩⟩⟩⟩⟩⟩⟩⟩⟩⟩⟩⟩⟩⟩⟩⟩⟩⟩⟩⟩⟩⟩⟩⟩⟩⟩⟩⟩⟩⟩⟩⟩⟩⟩⟩⟩⟩⟩⟩⟩⟩⟩⟩⟩⟩⟩⟩⟩⟩⟩⟩⟩, hm79⟩
                · refine mgTake (i := 33) (v := .bool false) rfl (by kernel_rfl) (wgY rfl rfl rfl (by decide) (by kernel_rfl)) (fun _ _ _ h => h) hm79 (fun w_ h_ => boolTo (decide_eq_false h84) (eqlRun (A := (c.at_.y % (2 * (S : Int)))) (B := 0) (.tmp 183) (.const (.int .i64 0)) rfl (litEv (by kernel_rfl)) (litEv (by kernel_rfl)))) ?_
                  refine mPut rfl (by decide) ?_
                  refine mgTake (i := 34) (v := .bool false) rfl (by kernel_rfl) (wn rfl) (fun _ _ _ h => h) hm79 (fun w_ h_ => litRun (by kernel_rfl)) ?_
                  refine mPut rfl (by decide) ?_
                  refine mgTake (i := 35) (v := .bool false) rfl (by kernel_rfl) (wn rfl) (fun _ _ _ h => h) hm79 (fun w_ h_ => litRun (by kernel_rfl)) ?_
                  refine mPut rfl (by decide) ?_
                  refine mgSkip (i := 36) rfl (by kernel_rfl) (wgN rfl rfl rfl (by decide) (by kernel_rfl)) (fun _ _ _ h => h) hm79 ?_
                  refine mPut rfl (by decide) ?_
                  refine mgSkip (i := 37) rfl (by kernel_rfl) (wgN rfl rfl rfl (by decide) (by kernel_rfl)) (fun _ _ _ h => h) hm79 ?_
                  refine mPut rfl (by decide) ?_
                  refine mgSkip (i := 38) rfl (by kernel_rfl) (wgN rfl rfl rfl (by decide) (by kernel_rfl)) (fun _ _ _ h => h) hm79 ?_
                  refine mPut rfl (by decide) ?_
                  refine mgSkip (i := 39) rfl (by kernel_rfl) (wgN rfl rfl rfl (by decide) (by kernel_rfl)) (fun _ _ _ h => h) hm79 ?_
                  refine mPut rfl (by decide) ?_
                  refine mgSkip (i := 40) rfl (by kernel_rfl) (wgN rfl rfl rfl (by decide) (by kernel_rfl)) (fun _ _ _ h => h) hm79 ?_
                  refine mPut rfl (by decide) ?_
                  refine mgSkip (i := 41) rfl (by kernel_rfl) (wgN rfl rfl rfl (by decide) (by kernel_rfl)) (fun _ _ _ h => h) hm79 ?_
                  refine mPut rfl (by decide) ?_
                  refine mgTake (i := 42) (v := .bool false) rfl (by kernel_rfl) (wn rfl) (fun _ _ _ h => h) hm79 (fun w_ h_ => litRun (by kernel_rfl)) ?_
                  refine mPut rfl (by decide) ?_
                  refine mgTake (i := 43) (v := .bool false) rfl (by kernel_rfl) (wn rfl) (fun _ _ _ h => h) hm79 (fun w_ h_ => litRun (by kernel_rfl)) ?_
                  refine mPut rfl (by decide) ?_
                  refine mgSkip (i := 44) rfl (by kernel_rfl) (wgN rfl rfl rfl (by decide) (by kernel_rfl)) (fun _ _ _ h => h) hm79 ?_
                  refine mPut rfl (by decide) ?_
                  refine mgSkip (i := 45) rfl (by kernel_rfl) (wgN rfl rfl rfl (by decide) (by kernel_rfl)) (fun _ _ _ h => h) hm79 ?_
                  refine mPut rfl (by decide) ?_
                  refine mgSkip (i := 46) rfl (by kernel_rfl) (wgN rfl rfl rfl (by decide) (by kernel_rfl)) (fun _ _ _ h => h) hm79 ?_
                  refine mPut rfl (by decide) ?_
                  refine mgSkip (i := 47) rfl (by kernel_rfl) (wgN rfl rfl rfl (by decide) (by kernel_rfl)) (fun _ _ _ h => h) hm79 ?_
                  refine mPut rfl (by decide) ?_
                  refine mgSkip (i := 48) rfl (by kernel_rfl) (wgN rfl rfl rfl (by decide) (by kernel_rfl)) (fun _ _ _ h => h) hm79 ?_
                  refine mPut rfl (by decide) ?_
                  refine mgSkip (i := 49) rfl (by kernel_rfl) (wgN rfl rfl rfl (by decide) (by kernel_rfl)) (fun _ _ _ h => h) hm79 ?_
                  refine mPut rfl (by decide) ?_
                  refine mgSkip (i := 50) rfl (by kernel_rfl) (wgN rfl rfl rfl (by decide) (by kernel_rfl)) (fun _ _ _ h => h) hm79 ?_
                  refine mPut rfl (by decide) ?_
                  refine mgSkip (i := 51) rfl (by kernel_rfl) (wgN rfl rfl rfl (by decide) (by kernel_rfl)) (fun _ _ _ h => h) hm79 ?_
                  refine mPut rfl (by decide) ?_
                  refine mgSkip (i := 52) rfl (by kernel_rfl) (wgN rfl rfl rfl (by decide) (by kernel_rfl)) (fun _ _ _ h => h) hm79 ?_
                  refine mPut rfl (by decide) ?_
                  refine mgSkip (i := 53) rfl (by kernel_rfl) (wgN rfl rfl rfl (by decide) (by kernel_rfl)) (fun _ _ _ h => h) hm79 ?_
                  refine mPut rfl (by decide) ?_
                  refine mgSkip (i := 54) rfl (by kernel_rfl) (wgN rfl rfl rfl (by decide) (by kernel_rfl)) (fun _ _ _ h => h) hm79 ?_
                  refine mPut rfl (by decide) ?_
                  refine mgSkip (i := 55) rfl (by kernel_rfl) (wgN rfl rfl rfl (by decide) (by kernel_rfl)) (fun _ _ _ h => h) hm79 ?_
                  refine mPut rfl (by decide) ?_
                  refine mgSkip (i := 56) rfl (by kernel_rfl) (wgN rfl rfl rfl (by decide) (by kernel_rfl)) (fun _ _ _ h => h) hm79 ?_
                  refine mPut rfl (by decide) ?_
                  refine mgSkip (i := 57) rfl (by kernel_rfl) (wgN rfl rfl rfl (by decide) (by kernel_rfl)) (fun _ _ _ h => h) hm79 ?_
                  refine mPut rfl (by decide) ?_
                  refine mgSkip (i := 58) rfl (by kernel_rfl) (wgN rfl rfl rfl (by decide) (by kernel_rfl)) (fun _ _ _ h => h) hm79 ?_
                  refine mPut rfl (by decide) ?_
                  refine mgSkip (i := 59) rfl (by kernel_rfl) (wgN rfl rfl rfl (by decide) (by kernel_rfl)) (fun _ _ _ h => h) hm79 ?_
                  refine mPut rfl (by decide) ?_
                  refine mgSkip (i := 60) rfl (by kernel_rfl) (wgN rfl rfl rfl (by decide) (by kernel_rfl)) (fun _ _ _ h => h) hm79 ?_
                  refine mPut rfl (by decide) ?_
                  refine mgSkip (i := 61) rfl (by kernel_rfl) (wgN rfl rfl rfl (by decide) (by kernel_rfl)) (fun _ _ _ h => h) hm79 ?_
                  refine mPut rfl (by decide) ?_
                  refine mgSkip (i := 62) rfl (by kernel_rfl) (wgN rfl rfl rfl (by decide) (by kernel_rfl)) (fun _ _ _ h => h) hm79 ?_
                  refine mPut rfl (by decide) ?_
                  refine mgSkip (i := 63) rfl (by kernel_rfl) (wgN rfl rfl rfl (by decide) (by kernel_rfl)) (fun _ _ _ h => h) hm79 ?_
                  refine mPut rfl (by decide) ?_
                  refine mgTake (i := 64) (v := .bool false) rfl (by kernel_rfl) (wn rfl) (fun _ _ _ h => h) hm79 (fun w_ h_ => litRun (by kernel_rfl)) ?_
                  refine mPut rfl (by decide) ?_
                  refine mgDone (by kernel_rfl) ?_
                  refine then_normal (hK78 _ _ ?_)
                  refine wpPrune [(2, .pointer (some ⟨g2, 0, none⟩)), (3, .pointer (some ⟨g5, 0, none⟩)), (6, .slice (some ⟨b53, 0, none⟩) LL.length c33), (8, .slice A37 RR.length c38), (10, .int .i64 (n1 : Int)), (11, .int .i64 (k : Int)), (12, .int .i64 (S : Int)), (13, .pointer (some ⟨g57, 0, none⟩)), (51, .int .i64 (k : Int)), (52, .slice (some ⟨b53, 0, none⟩) LL.length c33), (53, .int .i64 (LL.length : Int)), (54, .bool true), (57, .slice (some ⟨b53, 0, none⟩) LL.length c33), (58, .int .i64 (k : Int)), (59, .pointer (some ⟨b53, 0 + k * 4, none⟩)), (60, .pointer (some ⟨b53, 0 + k * 4 + 3, none⟩)), (61, .int .i64 (m : Int)), (62, .int .i64 (S : Int)), (63, .slice (some ⟨b53, 0, none⟩) LL.length c33), (64, .int .i64 (k : Int)), (65, .pointer (some ⟨b53, 0 + k * 4, none⟩)), (66, .pointer (some ⟨b53, 0 + k * 4, none⟩)), (67, .agg (pcs c.at_).toArray), (68, .slice (some ⟨b53, 0, none⟩) LL.length c33), (69, .int .i64 (k : Int)), (70, .pointer (some ⟨b53, 0 + k * 4, none⟩)), (71, .pointer (some ⟨b53, 0 + k * 4 + 3, none⟩)), (72, .int .i64 (m : Int)), (73, .bool false), (74, .bool false), (75, .slice (some ⟨b53, 0, none⟩) LL.length c33), (76, .int .i64 (k : Int)), (77, .pointer (some ⟨b53, 0 + k * 4, none⟩)), (78, .pointer (some ⟨b53, 0 + k * 4 + 3, none⟩)), (79, .int .i64 (m : Int)), (80, .bool false), (81, .bool false), (82, .bool false), (83, .pointer (some ⟨g57, 0, none⟩)), (84, .int .i64 c.at_.x), (85, .int .i64 (S : Int)), (86, .int .i64 0), (87, .bool false), (88, .bool false), (89, .bool false), (90, .pointer (some ⟨g57, 1, none⟩)), (91, .int .i64 c.at_.y), (92, .int .i64 (S : Int)), (93, .int .i64 0), (94, .bool false), (95, .bool false), (96, .bool false), (97, .pointer (some ⟨g57, 2, none⟩)), (98, .int .i64 c.at_.z), (99, .int .i64 (S : Int)), (100, .int .i64 0), (101, .bool false), (102, .bool false), (151, .int .i64 (k : Int)), (152, .int .i64 ((k : Int) + 7)), (153, .slice (some ⟨b53, 0, none⟩) LL.length c33), (154, .int .i64 (LL.length : Int)), (155, .bool true), (156, .bool true), (157, .slice (some ⟨b53, 0, none⟩) LL.length c33), (158, .int .i64 (k : Int)), (159, .int .i64 ((k : Int) + 7)), (160, .pointer (some ⟨b53, 0 + (k + 7) * 4, none⟩)), (161, .pointer (some ⟨b53, 0 + (k + 7) * 4 + 3, none⟩)), (162, .int .i64 d.lvl), (163, .slice (some ⟨b53, 0, none⟩) LL.length c33), (164, .int .i64 (k : Int)), (165, .pointer (some ⟨b53, 0 + k * 4, none⟩)), (166, .pointer (some ⟨b53, 0 + k * 4 + 3, none⟩)), (167, .int .i64 (m : Int)), (168, .bool true), (169, .bool true), (170, .bool true), (171, .pointer (some ⟨g57, 0, none⟩)), (172, .int .i64 c.at_.x), (173, .int .i64 (S : Int)), (174, .int .i64 (2 * (S : Int))), (175, .int .i64 (c.at_.x % (2 * (S : Int)))), (176, .bool true), (177, .bool true), (178, .bool true), (179, .pointer (some ⟨g57, 1, none⟩)), (180, .int .i64 c.at_.y), (181, .int .i64 (S : Int)), (182, .int .i64 (2 * (S : Int))), (183, .int .i64 (c.at_.y % (2 * (S : Int)))), (184, .bool false), (185, .bool false), (186, .bool false), (193, .bool false), (194, .bool false), (215, .bool false)] ⟨litGet (by kernel_rfl), ⟨litGet (by kernel_rfl), ⟨litGet (by kernel_rfl), ⟨litGet (by kernel_rfl), ⟨litGet (by kernel_rfl), ⟨litGet (by kernel_rfl), ⟨litGet (by kernel_rfl), ⟨litGet (by kernel_rfl), ⟨litGet (by kernel_rfl), ⟨litGet (by kernel_rfl), ⟨litGet (by kernel_rfl), ⟨litGet (by kernel_rfl), ⟨litGet (by kernel_rfl), ⟨litGet (by kernel_rfl), ⟨litGet (by kernel_rfl), ⟨litGet (by kernel_rfl), ⟨litGet (by kernel_rfl), ⟨litGet (by kernel_rfl), ⟨litGet (by kernel_rfl), ⟨litGet (by kernel_rfl), ⟨litGet (by kernel_rfl), ⟨litGet (by kernel_rfl), ⟨litGet (by kernel_rfl), ⟨litGet (by kernel_rfl), ⟨litGet (by kernel_rfl), ⟨litGet (by kernel_rfl), ⟨litGet (by kernel_rfl), ⟨litGet (by kernel_rfl), ⟨litGet (by kernel_rfl), ⟨litGet (by kernel_rfl), ⟨litGet (by kernel_rfl), ⟨litGet (by kernel_rfl), ⟨litGet (by kernel_rfl), ⟨litGet (by kernel_rfl), ⟨litGet (by kernel_rfl), ⟨litGet (by kernel_rfl), ⟨litGet (by kernel_rfl), ⟨litGet (by kernel_rfl), ⟨litGet (by kernel_rfl), ⟨litGet (by kernel_rfl), ⟨litGet (by kernel_rfl), ⟨litGet (by kernel_rfl), ⟨litGet (by kernel_rfl), ⟨litGet (by kernel_rfl), ⟨litGet (by kernel_rfl), ⟨litGet (by kernel_rfl), ⟨litGet (by kernel_rfl), ⟨litGet (by kernel_rfl), ⟨litGet (by kernel_rfl), ⟨litGet (by kernel_rfl), ⟨litGet (by kernel_rfl), ⟨litGet (by kernel_rfl), ⟨litGet (by kernel_rfl), ⟨litGet (by kernel_rfl), ⟨litGet (by kernel_rfl), ⟨litGet (by kernel_rfl), ⟨litGet (by kernel_rfl), ⟨litGet (by kernel_rfl), ⟨litGet (by kernel_rfl), ⟨litGet (by kernel_rfl), ⟨litGet (by kernel_rfl), ⟨litGet (by kernel_rfl), ⟨litGet (by kernel_rfl), ⟨litGet (by kernel_rfl), ⟨litGet (by kernel_rfl), ⟨litGet (by kernel_rfl), ⟨litGet (by kernel_rfl), ⟨litGet (by kernel_rfl), ⟨litGet (by kernel_rfl), ⟨litGet (by kernel_rfl), ⟨litGet (by kernel_rfl), ⟨litGet (by kernel_rfl), ⟨litGet (by kernel_rfl), ⟨litGet (by kernel_rfl), ⟨litGet (by kernel_rfl), ⟨litGet (by kernel_rfl), ⟨litGet (by kernel_rfl), ⟨litGet (by kernel_rfl), ⟨litGet (by kernel_rfl), ⟨litGet (by kernel_rfl), ⟨litGet (by kernel_rfl), ⟨litGet (by kernel_rfl), ⟨litGet (by kernel_rfl), ⟨litGet (by kernel_rfl), ⟨litGet (by kernel_rfl), ⟨litGet (by kernel_rfl), ⟨litGet (by kernel_rfl), ⟨litGet (by kernel_rfl), ⟨litGet (by kernel_rfl), ⟨litGet (by kernel_rfl), ⟨litGet (by kernel_rfl), ⟨litGet (by kernel_rfl), ⟨litGet (by kernel_rfl), ⟨litGet (by kernel_rfl), ⟨litGet (by kernel_rfl), ⟨litGet (by kernel_rfl), ⟨litGet (by kernel_rfl), trivial⟩⟩⟩⟩⟩⟩⟩⟩⟩⟩⟩⟩⟩⟩⟩⟩⟩⟩⟩⟩⟩⟩⟩⟩⟩⟩⟩⟩⟩⟩⟩⟩⟩⟩⟩⟩⟩⟩⟩⟩⟩⟩⟩⟩⟩⟩⟩⟩⟩⟩⟩⟩⟩⟩⟩⟩⟩⟩⟩⟩⟩⟩⟩⟩⟩⟩⟩⟩⟩⟩⟩⟩⟩⟩⟩⟩⟩⟩⟩⟩⟩⟩⟩⟩⟩⟩⟩⟩⟩⟩⟩⟩⟩⟩⟩⟩⟩ (fun X89 => ?_)
                  refine wp_cond_false (litEv (by kernel_rfl)) ?_
                  refine wp_skip ?_
                  refine then_normal ?_
                  exact ⟨⟨litSize, rfl, ⟨litGet (by kernel_rfl), ⟨litGet (by kernel_rfl), ⟨litGet (by kernel_rfl), ⟨litGet (by kernel_rfl), ⟨litGet (by kernel_rfl), ⟨litGet (by kernel_rfl), ⟨litGet (by kernel_rfl), ⟨litGet (by kernel_rfl), ⟨litGet (by kernel_rfl), ⟨litGet (by kernel_rfl), ⟨litGet (by kernel_rfl), ⟨litGet (by kernel_rfl), ⟨litGet (by kernel_rfl), ⟨litGet (by kernel_rfl), ⟨litGet (by kernel_rfl), ⟨litGet (by kernel_rfl), ⟨litGet (by kernel_rfl), ⟨litGet (by kernel_rfl), ⟨litGet (by kernel_rfl), ⟨litGet (by kernel_rfl), ⟨litGet (by kernel_rfl), ⟨litGet (by kernel_rfl), ⟨litGet (by kernel_rfl), ⟨litGet (by kernel_rfl), ⟨litGet (by kernel_rfl), ⟨litGet (by kernel_rfl), ⟨litGet (by kernel_rfl), ⟨litGet (by kernel_rfl), ⟨litGet (by kernel_rfl), ⟨litGet (by kernel_rfl), ⟨litGet (by kernel_rfl), ⟨litGet (by kernel_rfl), ⟨litGet (by kernel_rfl), ⟨litGet (by kernel_rfl), ⟨litGet (by kernel_rfl), ⟨litGet (by kernel_rfl), ⟨litGet (by kernel_rfl), ⟨litGet (by kernel_rfl), ⟨litGet (by kernel_rfl), ⟨litGet (by kernel_rfl), ⟨litGet (by kernel_rfl), ⟨litGet (by kernel_rfl), ⟨litGet (by kernel_rfl), ⟨litGet (by kernel_rfl), ⟨litGet (by kernel_rfl), ⟨litGet (by kernel_rfl), ⟨litGet (by kernel_rfl), ⟨litGet (by kernel_rfl), ⟨litGet (by kernel_rfl), ⟨litGet (by kernel_rfl), ⟨litGet (by kernel_rfl), ⟨litGet (by kernel_rfl), ⟨litGet (by kernel_rfl), ⟨litGet (by kernel_rfl), ⟨litGet (by kernel_rfl), ⟨litGet (by kernel_rfl), ⟨litGet (by kernel_rfl), ⟨litGet (by kernel_rfl), trivial⟩⟩⟩⟩⟩⟩⟩⟩⟩⟩⟩⟩⟩⟩⟩⟩⟩⟩⟩⟩⟩⟩⟩⟩⟩⟩⟩⟩⟩⟩⟩⟩⟩⟩⟩⟩⟩⟩⟩⟩⟩⟩⟩⟩⟩⟩⟩⟩⟩⟩⟩⟩⟩⟩⟩⟩⟩⟩⟩, hm79⟩
              · refine mgTake (i := 25) (v := .bool false) rfl (by kernel_rfl) (wgY rfl rfl rfl (by decide) (by kernel_rfl)) (fun _ _ _ h => h) hm79 (fun w_ h_ => boolTo (decide_eq_false h83) (eqlRun (A := (c.at_.x % (2 * (S : Int)))) (B := 0) (.tmp 175) (.const (.int .i64 0)) rfl (litEv (by kernel_rfl)) (litEv (by kernel_rfl)))) ?_
                refine mPut rfl (by decide) ?_
                refine mgTake (i := 26) (v := .bool false) rfl (by kernel_rfl) (wn rfl) (fun _ _ _ h => h) hm79 (fun w_ h_ => litRun (by kernel_rfl)) ?_
                refine mPut rfl (by decide) ?_
                refine mgTake (i := 27) (v := .bool false) rfl (by kernel_rfl) (wn rfl) (fun _ _ _ h => h) hm79 (fun w_ h_ => litRun (by kernel_rfl)) ?_
                refine mPut rfl (by decide) ?_
                refine mgSkip (i := 28) rfl (by kernel_rfl) (wgN rfl rfl rfl (by decide) (by kernel_rfl)) (fun _ _ _ h => h) hm79 ?_
                refine mPut rfl (by decide) ?_
                refine mgSkip (i := 29) rfl (by kernel_rfl) (wgN rfl rfl rfl (by decide) (by kernel_rfl)) (fun _ _ _ h => h) hm79 ?_
                refine mPut rfl (by decide) ?_
                refine mgSkip (i := 30) rfl (by kernel_rfl) (wgN rfl rfl rfl (by decide) (by kernel_rfl)) (fun _ _ _ h => h) hm79 ?_
                refine mPut rfl (by decide) ?_
                refine mgSkip (i := 31) rfl (by kernel_rfl) (wgN rfl rfl rfl (by decide) (by kernel_rfl)) (fun _ _ _ h => h) hm79 ?_
                refine mPut rfl (by decide) ?_
                refine mgSkip (i := 32) rfl (by kernel_rfl) (wgN rfl rfl rfl (by decide) (by kernel_rfl)) (fun _ _ _ h => h) hm79 ?_
                refine mPut rfl (by decide) ?_
                refine mgSkip (i := 33) rfl (by kernel_rfl) (wgN rfl rfl rfl (by decide) (by kernel_rfl)) (fun _ _ _ h => h) hm79 ?_
                refine mPut rfl (by decide) ?_
                refine mgTake (i := 34) (v := .bool false) rfl (by kernel_rfl) (wn rfl) (fun _ _ _ h => h) hm79 (fun w_ h_ => litRun (by kernel_rfl)) ?_
                refine mPut rfl (by decide) ?_
                refine mgTake (i := 35) (v := .bool false) rfl (by kernel_rfl) (wn rfl) (fun _ _ _ h => h) hm79 (fun w_ h_ => litRun (by kernel_rfl)) ?_
                refine mPut rfl (by decide) ?_
                refine mgSkip (i := 36) rfl (by kernel_rfl) (wgN rfl rfl rfl (by decide) (by kernel_rfl)) (fun _ _ _ h => h) hm79 ?_
                refine mPut rfl (by decide) ?_
                refine mgSkip (i := 37) rfl (by kernel_rfl) (wgN rfl rfl rfl (by decide) (by kernel_rfl)) (fun _ _ _ h => h) hm79 ?_
                refine mPut rfl (by decide) ?_
                refine mgSkip (i := 38) rfl (by kernel_rfl) (wgN rfl rfl rfl (by decide) (by kernel_rfl)) (fun _ _ _ h => h) hm79 ?_
                refine mPut rfl (by decide) ?_
                refine mgSkip (i := 39) rfl (by kernel_rfl) (wgN rfl rfl rfl (by decide) (by kernel_rfl)) (fun _ _ _ h => h) hm79 ?_
                refine mPut rfl (by decide) ?_
                refine mgSkip (i := 40) rfl (by kernel_rfl) (wgN rfl rfl rfl (by decide) (by kernel_rfl)) (fun _ _ _ h => h) hm79 ?_
                refine mPut rfl (by decide) ?_
                refine mgSkip (i := 41) rfl (by kernel_rfl) (wgN rfl rfl rfl (by decide) (by kernel_rfl)) (fun _ _ _ h => h) hm79 ?_
                refine mPut rfl (by decide) ?_
                refine mgTake (i := 42) (v := .bool false) rfl (by kernel_rfl) (wn rfl) (fun _ _ _ h => h) hm79 (fun w_ h_ => litRun (by kernel_rfl)) ?_
                refine mPut rfl (by decide) ?_
                refine mgTake (i := 43) (v := .bool false) rfl (by kernel_rfl) (wn rfl) (fun _ _ _ h => h) hm79 (fun w_ h_ => litRun (by kernel_rfl)) ?_
                refine mPut rfl (by decide) ?_
                refine mgSkip (i := 44) rfl (by kernel_rfl) (wgN rfl rfl rfl (by decide) (by kernel_rfl)) (fun _ _ _ h => h) hm79 ?_
                refine mPut rfl (by decide) ?_
                refine mgSkip (i := 45) rfl (by kernel_rfl) (wgN rfl rfl rfl (by decide) (by kernel_rfl)) (fun _ _ _ h => h) hm79 ?_
                refine mPut rfl (by decide) ?_
                refine mgSkip (i := 46) rfl (by kernel_rfl) (wgN rfl rfl rfl (by decide) (by kernel_rfl)) (fun _ _ _ h => h) hm79 ?_
                refine mPut rfl (by decide) ?_
                refine mgSkip (i := 47) rfl (by kernel_rfl) (wgN rfl rfl rfl (by decide) (by kernel_rfl)) (fun _ _ _ h => h) hm79 ?_
                refine mPut rfl (by decide) ?_
                refine mgSkip (i := 48) rfl (by kernel_rfl) (wgN rfl rfl rfl (by decide) (by kernel_rfl)) (fun _ _ _ h => h) hm79 ?_
                refine mPut rfl (by decide) ?_
                refine mgSkip (i := 49) rfl (by kernel_rfl) (wgN rfl rfl rfl (by decide) (by kernel_rfl)) (fun _ _ _ h => h) hm79 ?_
                refine mPut rfl (by decide) ?_
                refine mgSkip (i := 50) rfl (by kernel_rfl) (wgN rfl rfl rfl (by decide) (by kernel_rfl)) (fun _ _ _ h => h) hm79 ?_
                refine mPut rfl (by decide) ?_
                refine mgSkip (i := 51) rfl (by kernel_rfl) (wgN rfl rfl rfl (by decide) (by kernel_rfl)) (fun _ _ _ h => h) hm79 ?_
                refine mPut rfl (by decide) ?_
                refine mgSkip (i := 52) rfl (by kernel_rfl) (wgN rfl rfl rfl (by decide) (by kernel_rfl)) (fun _ _ _ h => h) hm79 ?_
                refine mPut rfl (by decide) ?_
                refine mgSkip (i := 53) rfl (by kernel_rfl) (wgN rfl rfl rfl (by decide) (by kernel_rfl)) (fun _ _ _ h => h) hm79 ?_
                refine mPut rfl (by decide) ?_
                refine mgSkip (i := 54) rfl (by kernel_rfl) (wgN rfl rfl rfl (by decide) (by kernel_rfl)) (fun _ _ _ h => h) hm79 ?_
                refine mPut rfl (by decide) ?_
                refine mgSkip (i := 55) rfl (by kernel_rfl) (wgN rfl rfl rfl (by decide) (by kernel_rfl)) (fun _ _ _ h => h) hm79 ?_
                refine mPut rfl (by decide) ?_
                refine mgSkip (i := 56) rfl (by kernel_rfl) (wgN rfl rfl rfl (by decide) (by kernel_rfl)) (fun _ _ _ h => h) hm79 ?_
                refine mPut rfl (by decide) ?_
                refine mgSkip (i := 57) rfl (by kernel_rfl) (wgN rfl rfl rfl (by decide) (by kernel_rfl)) (fun _ _ _ h => h) hm79 ?_
                refine mPut rfl (by decide) ?_
                refine mgSkip (i := 58) rfl (by kernel_rfl) (wgN rfl rfl rfl (by decide) (by kernel_rfl)) (fun _ _ _ h => h) hm79 ?_
                refine mPut rfl (by decide) ?_
                refine mgSkip (i := 59) rfl (by kernel_rfl) (wgN rfl rfl rfl (by decide) (by kernel_rfl)) (fun _ _ _ h => h) hm79 ?_
                refine mPut rfl (by decide) ?_
                refine mgSkip (i := 60) rfl (by kernel_rfl) (wgN rfl rfl rfl (by decide) (by kernel_rfl)) (fun _ _ _ h => h) hm79 ?_
                refine mPut rfl (by decide) ?_
                refine mgSkip (i := 61) rfl (by kernel_rfl) (wgN rfl rfl rfl (by decide) (by kernel_rfl)) (fun _ _ _ h => h) hm79 ?_
                refine mPut rfl (by decide) ?_
                refine mgSkip (i := 62) rfl (by kernel_rfl) (wgN rfl rfl rfl (by decide) (by kernel_rfl)) (fun _ _ _ h => h) hm79 ?_
                refine mPut rfl (by decide) ?_
                refine mgSkip (i := 63) rfl (by kernel_rfl) (wgN rfl rfl rfl (by decide) (by kernel_rfl)) (fun _ _ _ h => h) hm79 ?_
                refine mPut rfl (by decide) ?_
                refine mgTake (i := 64) (v := .bool false) rfl (by kernel_rfl) (wn rfl) (fun _ _ _ h => h) hm79 (fun w_ h_ => litRun (by kernel_rfl)) ?_
                refine mPut rfl (by decide) ?_
                refine mgDone (by kernel_rfl) ?_
                refine then_normal (hK78 _ _ ?_)
                refine wpPrune [(2, .pointer (some ⟨g2, 0, none⟩)), (3, .pointer (some ⟨g5, 0, none⟩)), (6, .slice (some ⟨b53, 0, none⟩) LL.length c33), (8, .slice A37 RR.length c38), (10, .int .i64 (n1 : Int)), (11, .int .i64 (k : Int)), (12, .int .i64 (S : Int)), (13, .pointer (some ⟨g57, 0, none⟩)), (51, .int .i64 (k : Int)), (52, .slice (some ⟨b53, 0, none⟩) LL.length c33), (53, .int .i64 (LL.length : Int)), (54, .bool true), (57, .slice (some ⟨b53, 0, none⟩) LL.length c33), (58, .int .i64 (k : Int)), (59, .pointer (some ⟨b53, 0 + k * 4, none⟩)), (60, .pointer (some ⟨b53, 0 + k * 4 + 3, none⟩)), (61, .int .i64 (m : Int)), (62, .int .i64 (S : Int)), (63, .slice (some ⟨b53, 0, none⟩) LL.length c33), (64, .int .i64 (k : Int)), (65, .pointer (some ⟨b53, 0 + k * 4, none⟩)), (66, .pointer (some ⟨b53, 0 + k * 4, none⟩)), (67, .agg (pcs c.at_).toArray), (68, .slice (some ⟨b53, 0, none⟩) LL.length c33), (69, .int .i64 (k : Int)), (70, .pointer (some ⟨b53, 0 + k * 4, none⟩)), (71, .pointer (some ⟨b53, 0 + k * 4 + 3, none⟩)), (72, .int .i64 (m : Int)), (73, .bool false), (74, .bool false), (75, .slice (some ⟨b53, 0, none⟩) LL.length c33), (76, .int .i64 (k : Int)), (77, .pointer (some ⟨b53, 0 + k * 4, none⟩)), (78, .pointer (some ⟨b53, 0 + k * 4 + 3, none⟩)), (79, .int .i64 (m : Int)), (80, .bool false), (81, .bool false), (82, .bool false), (83, .pointer (some ⟨g57, 0, none⟩)), (84, .int .i64 c.at_.x), (85, .int .i64 (S : Int)), (86, .int .i64 0), (87, .bool false), (88, .bool false), (89, .bool false), (90, .pointer (some ⟨g57, 1, none⟩)), (91, .int .i64 c.at_.y), (92, .int .i64 (S : Int)), (93, .int .i64 0), (94, .bool false), (95, .bool false), (96, .bool false), (97, .pointer (some ⟨g57, 2, none⟩)), (98, .int .i64 c.at_.z), (99, .int .i64 (S : Int)), (100, .int .i64 0), (101, .bool false), (102, .bool false), (151, .int .i64 (k : Int)), (152, .int .i64 ((k : Int) + 7)), (153, .slice (some ⟨b53, 0, none⟩) LL.length c33), (154, .int .i64 (LL.length : Int)), (155, .bool true), (156, .bool true), (157, .slice (some ⟨b53, 0, none⟩) LL.length c33), (158, .int .i64 (k : Int)), (159, .int .i64 ((k : Int) + 7)), (160, .pointer (some ⟨b53, 0 + (k + 7) * 4, none⟩)), (161, .pointer (some ⟨b53, 0 + (k + 7) * 4 + 3, none⟩)), (162, .int .i64 d.lvl), (163, .slice (some ⟨b53, 0, none⟩) LL.length c33), (164, .int .i64 (k : Int)), (165, .pointer (some ⟨b53, 0 + k * 4, none⟩)), (166, .pointer (some ⟨b53, 0 + k * 4 + 3, none⟩)), (167, .int .i64 (m : Int)), (168, .bool true), (169, .bool true), (170, .bool true), (171, .pointer (some ⟨g57, 0, none⟩)), (172, .int .i64 c.at_.x), (173, .int .i64 (S : Int)), (174, .int .i64 (2 * (S : Int))), (175, .int .i64 (c.at_.x % (2 * (S : Int)))), (176, .bool false), (177, .bool false), (178, .bool false), (185, .bool false), (186, .bool false), (193, .bool false), (194, .bool false), (215, .bool false)] ⟨litGet (by kernel_rfl), ⟨litGet (by kernel_rfl), ⟨litGet (by kernel_rfl), ⟨litGet (by kernel_rfl), ⟨litGet (by kernel_rfl), ⟨litGet (by kernel_rfl), ⟨litGet (by kernel_rfl), ⟨litGet (by kernel_rfl), ⟨litGet (by kernel_rfl), ⟨litGet (by kernel_rfl), ⟨litGet (by kernel_rfl), ⟨litGet (by kernel_rfl), ⟨litGet (by kernel_rfl), ⟨litGet (by kernel_rfl), ⟨litGet (by kernel_rfl), ⟨litGet (by kernel_rfl), ⟨litGet (by kernel_rfl), ⟨litGet (by kernel_rfl), ⟨litGet (by kernel_rfl), ⟨litGet (by kernel_rfl), ⟨litGet (by kernel_rfl), ⟨litGet (by kernel_rfl), ⟨litGet (by kernel_rfl), ⟨litGet (by kernel_rfl), ⟨litGet (by kernel_rfl), ⟨litGet (by kernel_rfl), ⟨litGet (by kernel_rfl), ⟨litGet (by kernel_rfl), ⟨litGet (by kernel_rfl), ⟨litGet (by kernel_rfl), ⟨litGet (by kernel_rfl), ⟨litGet (by kernel_rfl), ⟨litGet (by kernel_rfl), ⟨litGet (by kernel_rfl), ⟨litGet (by kernel_rfl), ⟨litGet (by kernel_rfl), ⟨litGet (by kernel_rfl), ⟨litGet (by kernel_rfl), ⟨litGet (by kernel_rfl), ⟨litGet (by kernel_rfl), ⟨litGet (by kernel_rfl), ⟨litGet (by kernel_rfl), ⟨litGet (by kernel_rfl), ⟨litGet (by kernel_rfl), ⟨litGet (by kernel_rfl), ⟨litGet (by kernel_rfl), ⟨litGet (by kernel_rfl), ⟨litGet (by kernel_rfl), ⟨litGet (by kernel_rfl), ⟨litGet (by kernel_rfl), ⟨litGet (by kernel_rfl), ⟨litGet (by kernel_rfl), ⟨litGet (by kernel_rfl), ⟨litGet (by kernel_rfl), ⟨litGet (by kernel_rfl), ⟨litGet (by kernel_rfl), ⟨litGet (by kernel_rfl), ⟨litGet (by kernel_rfl), ⟨litGet (by kernel_rfl), ⟨litGet (by kernel_rfl), ⟨litGet (by kernel_rfl), ⟨litGet (by kernel_rfl), ⟨litGet (by kernel_rfl), ⟨litGet (by kernel_rfl), ⟨litGet (by kernel_rfl), ⟨litGet (by kernel_rfl), ⟨litGet (by kernel_rfl), ⟨litGet (by kernel_rfl), ⟨litGet (by kernel_rfl), ⟨litGet (by kernel_rfl), ⟨litGet (by kernel_rfl), ⟨litGet (by kernel_rfl), ⟨litGet (by kernel_rfl), ⟨litGet (by kernel_rfl), ⟨litGet (by kernel_rfl), ⟨litGet (by kernel_rfl), ⟨litGet (by kernel_rfl), ⟨litGet (by kernel_rfl), ⟨litGet (by kernel_rfl), ⟨litGet (by kernel_rfl), ⟨litGet (by kernel_rfl), ⟨litGet (by kernel_rfl), ⟨litGet (by kernel_rfl), ⟨litGet (by kernel_rfl), ⟨litGet (by kernel_rfl), ⟨litGet (by kernel_rfl), ⟨litGet (by kernel_rfl), ⟨litGet (by kernel_rfl), ⟨litGet (by kernel_rfl), ⟨litGet (by kernel_rfl), ⟨litGet (by kernel_rfl), trivial⟩⟩⟩⟩⟩⟩⟩⟩⟩⟩⟩⟩⟩⟩⟩⟩⟩⟩⟩⟩⟩⟩⟩⟩⟩⟩⟩⟩⟩⟩⟩⟩⟩⟩⟩⟩⟩⟩⟩⟩⟩⟩⟩⟩⟩⟩⟩⟩⟩⟩⟩⟩⟩⟩⟩⟩⟩⟩⟩⟩⟩⟩⟩⟩⟩⟩⟩⟩⟩⟩⟩⟩⟩⟩⟩⟩⟩⟩⟩⟩⟩⟩⟩⟩⟩⟩⟩⟩⟩⟩⟩ (fun X90 => ?_)
                refine wp_cond_false (litEv (by kernel_rfl)) ?_
                refine wp_skip ?_
                refine then_normal ?_
                exact ⟨⟨litSize, rfl, ⟨litGet (by kernel_rfl), ⟨litGet (by kernel_rfl), ⟨litGet (by kernel_rfl), ⟨litGet (by kernel_rfl), ⟨litGet (by kernel_rfl), ⟨litGet (by kernel_rfl), ⟨litGet (by kernel_rfl), ⟨litGet (by kernel_rfl), ⟨litGet (by kernel_rfl), ⟨litGet (by kernel_rfl), ⟨litGet (by kernel_rfl), ⟨litGet (by kernel_rfl), ⟨litGet (by kernel_rfl), ⟨litGet (by kernel_rfl), ⟨litGet (by kernel_rfl), ⟨litGet (by kernel_rfl), ⟨litGet (by kernel_rfl), ⟨litGet (by kernel_rfl), ⟨litGet (by kernel_rfl), ⟨litGet (by kernel_rfl), ⟨litGet (by kernel_rfl), ⟨litGet (by kernel_rfl), ⟨litGet (by kernel_rfl), ⟨litGet (by kernel_rfl), ⟨litGet (by kernel_rfl), ⟨litGet (by kernel_rfl), ⟨litGet (by kernel_rfl), ⟨litGet (by kernel_rfl), ⟨litGet (by kernel_rfl), ⟨litGet (by kernel_rfl), ⟨litGet (by kernel_rfl), ⟨litGet (by kernel_rfl), ⟨litGet (by kernel_rfl), ⟨litGet (by kernel_rfl), ⟨litGet (by kernel_rfl), ⟨litGet (by kernel_rfl), ⟨litGet (by kernel_rfl), ⟨litGet (by kernel_rfl), ⟨litGet (by kernel_rfl), ⟨litGet (by kernel_rfl), ⟨litGet (by kernel_rfl), ⟨litGet (by kernel_rfl), ⟨litGet (by kernel_rfl), ⟨litGet (by kernel_rfl), ⟨litGet (by kernel_rfl), ⟨litGet (by kernel_rfl), ⟨litGet (by kernel_rfl), ⟨litGet (by kernel_rfl), ⟨litGet (by kernel_rfl), ⟨litGet (by kernel_rfl), ⟨litGet (by kernel_rfl), ⟨litGet (by kernel_rfl), ⟨litGet (by kernel_rfl), ⟨litGet (by kernel_rfl), ⟨litGet (by kernel_rfl), ⟨litGet (by kernel_rfl), ⟨litGet (by kernel_rfl), ⟨litGet (by kernel_rfl), trivial⟩⟩⟩⟩⟩⟩⟩⟩⟩⟩⟩⟩⟩⟩⟩⟩⟩⟩⟩⟩⟩⟩⟩⟩⟩⟩⟩⟩⟩⟩⟩⟩⟩⟩⟩⟩⟩⟩⟩⟩⟩⟩⟩⟩⟩⟩⟩⟩⟩⟩⟩⟩⟩⟩⟩⟩⟩⟩⟩, hm79⟩
            · refine mgTake (i := 17) (v := .bool false) rfl (by kernel_rfl) (wgY rfl rfl rfl (by decide) (by kernel_rfl)) (fun _ _ _ h => h) hm79 (fun w_ h_ => boolTo (decide_eq_false h82) (eqlRun (A := d.lvl) (B := (m : Int)) (.tmp 162) (.tmp 167) rfl (litEv (by kernel_rfl)) (litEv (by kernel_rfl)))) ?_
              refine mPut rfl (by decide) ?_
              refine mgTake (i := 18) (v := .bool false) rfl (by kernel_rfl) (wn rfl) (fun _ _ _ h => h) hm79 (fun w_ h_ => litRun (by kernel_rfl)) ?_
              refine mPut rfl (by decide) ?_
              refine mgTake (i := 19) (v := .bool false) rfl (by kernel_rfl) (wn rfl) (fun _ _ _ h => h) hm79 (fun w_ h_ => litRun (by kernel_rfl)) ?_
              refine mPut rfl (by decide) ?_
              refine mgSkip (i := 20) rfl (by kernel_rfl) (wgN rfl rfl rfl (by decide) (by kernel_rfl)) (fun _ _ _ h => h) hm79 ?_
              refine mPut rfl (by decide) ?_
              refine mgSkip (i := 21) rfl (by kernel_rfl) (wgN rfl rfl rfl (by decide) (by kernel_rfl)) (fun _ _ _ h => h) hm79 ?_
              refine mPut rfl (by decide) ?_
              refine mgSkip (i := 22) rfl (by kernel_rfl) (wgN rfl rfl rfl (by decide) (by kernel_rfl)) (fun _ _ _ h => h) hm79 ?_
              refine mPut rfl (by decide) ?_
              refine mgSkip (i := 23) rfl (by kernel_rfl) (wgN rfl rfl rfl (by decide) (by kernel_rfl)) (fun _ _ _ h => h) hm79 ?_
              refine mPut rfl (by decide) ?_
              refine mgSkip (i := 24) rfl (by kernel_rfl) (wgN rfl rfl rfl (by decide) (by kernel_rfl)) (fun _ _ _ h => h) hm79 ?_
              refine mPut rfl (by decide) ?_
              refine mgSkip (i := 25) rfl (by kernel_rfl) (wgN rfl rfl rfl (by decide) (by kernel_rfl)) (fun _ _ _ h => h) hm79 ?_
              refine mPut rfl (by decide) ?_
              refine mgTake (i := 26) (v := .bool false) rfl (by kernel_rfl) (wn rfl) (fun _ _ _ h => h) hm79 (fun w_ h_ => litRun (by kernel_rfl)) ?_
              refine mPut rfl (by decide) ?_
              refine mgTake (i := 27) (v := .bool false) rfl (by kernel_rfl) (wn rfl) (fun _ _ _ h => h) hm79 (fun w_ h_ => litRun (by kernel_rfl)) ?_
              refine mPut rfl (by decide) ?_
              refine mgSkip (i := 28) rfl (by kernel_rfl) (wgN rfl rfl rfl (by decide) (by kernel_rfl)) (fun _ _ _ h => h) hm79 ?_
              refine mPut rfl (by decide) ?_
              refine mgSkip (i := 29) rfl (by kernel_rfl) (wgN rfl rfl rfl (by decide) (by kernel_rfl)) (fun _ _ _ h => h) hm79 ?_
              refine mPut rfl (by decide) ?_
              refine mgSkip (i := 30) rfl (by kernel_rfl) (wgN rfl rfl rfl (by decide) (by kernel_rfl)) (fun _ _ _ h => h) hm79 ?_
              refine mPut rfl (by decide) ?_
              refine mgSkip (i := 31) rfl (by kernel_rfl) (wgN rfl rfl rfl (by decide) (by kernel_rfl)) (fun _ _ _ h => h) hm79 ?_
              refine mPut rfl (by decide) ?_
              refine mgSkip (i := 32) rfl (by kernel_rfl) (wgN rfl rfl rfl (by decide) (by kernel_rfl)) (fun _ _ _ h => h) hm79 ?_
              refine mPut rfl (by decide) ?_
              refine mgSkip (i := 33) rfl (by kernel_rfl) (wgN rfl rfl rfl (by decide) (by kernel_rfl)) (fun _ _ _ h => h) hm79 ?_
              refine mPut rfl (by decide) ?_
              refine mgTake (i := 34) (v := .bool false) rfl (by kernel_rfl) (wn rfl) (fun _ _ _ h => h) hm79 (fun w_ h_ => litRun (by kernel_rfl)) ?_
              refine mPut rfl (by decide) ?_
              refine mgTake (i := 35) (v := .bool false) rfl (by kernel_rfl) (wn rfl) (fun _ _ _ h => h) hm79 (fun w_ h_ => litRun (by kernel_rfl)) ?_
              refine mPut rfl (by decide) ?_
              refine mgSkip (i := 36) rfl (by kernel_rfl) (wgN rfl rfl rfl (by decide) (by kernel_rfl)) (fun _ _ _ h => h) hm79 ?_
              refine mPut rfl (by decide) ?_
              refine mgSkip (i := 37) rfl (by kernel_rfl) (wgN rfl rfl rfl (by decide) (by kernel_rfl)) (fun _ _ _ h => h) hm79 ?_
              refine mPut rfl (by decide) ?_
              refine mgSkip (i := 38) rfl (by kernel_rfl) (wgN rfl rfl rfl (by decide) (by kernel_rfl)) (fun _ _ _ h => h) hm79 ?_
              refine mPut rfl (by decide) ?_
              refine mgSkip (i := 39) rfl (by kernel_rfl) (wgN rfl rfl rfl (by decide) (by kernel_rfl)) (fun _ _ _ h => h) hm79 ?_
              refine mPut rfl (by decide) ?_
              refine mgSkip (i := 40) rfl (by kernel_rfl) (wgN rfl rfl rfl (by decide) (by kernel_rfl)) (fun _ _ _ h => h) hm79 ?_
              refine mPut rfl (by decide) ?_
              refine mgSkip (i := 41) rfl (by kernel_rfl) (wgN rfl rfl rfl (by decide) (by kernel_rfl)) (fun _ _ _ h => h) hm79 ?_
              refine mPut rfl (by decide) ?_
              refine mgTake (i := 42) (v := .bool false) rfl (by kernel_rfl) (wn rfl) (fun _ _ _ h => h) hm79 (fun w_ h_ => litRun (by kernel_rfl)) ?_
              refine mPut rfl (by decide) ?_
              refine mgTake (i := 43) (v := .bool false) rfl (by kernel_rfl) (wn rfl) (fun _ _ _ h => h) hm79 (fun w_ h_ => litRun (by kernel_rfl)) ?_
              refine mPut rfl (by decide) ?_
              refine mgSkip (i := 44) rfl (by kernel_rfl) (wgN rfl rfl rfl (by decide) (by kernel_rfl)) (fun _ _ _ h => h) hm79 ?_
              refine mPut rfl (by decide) ?_
              refine mgSkip (i := 45) rfl (by kernel_rfl) (wgN rfl rfl rfl (by decide) (by kernel_rfl)) (fun _ _ _ h => h) hm79 ?_
              refine mPut rfl (by decide) ?_
              refine mgSkip (i := 46) rfl (by kernel_rfl) (wgN rfl rfl rfl (by decide) (by kernel_rfl)) (fun _ _ _ h => h) hm79 ?_
              refine mPut rfl (by decide) ?_
              refine mgSkip (i := 47) rfl (by kernel_rfl) (wgN rfl rfl rfl (by decide) (by kernel_rfl)) (fun _ _ _ h => h) hm79 ?_
              refine mPut rfl (by decide) ?_
              refine mgSkip (i := 48) rfl (by kernel_rfl) (wgN rfl rfl rfl (by decide) (by kernel_rfl)) (fun _ _ _ h => h) hm79 ?_
              refine mPut rfl (by decide) ?_
              refine mgSkip (i := 49) rfl (by kernel_rfl) (wgN rfl rfl rfl (by decide) (by kernel_rfl)) (fun _ _ _ h => h) hm79 ?_
              refine mPut rfl (by decide) ?_
              refine mgSkip (i := 50) rfl (by kernel_rfl) (wgN rfl rfl rfl (by decide) (by kernel_rfl)) (fun _ _ _ h => h) hm79 ?_
              refine mPut rfl (by decide) ?_
              refine mgSkip (i := 51) rfl (by kernel_rfl) (wgN rfl rfl rfl (by decide) (by kernel_rfl)) (fun _ _ _ h => h) hm79 ?_
              refine mPut rfl (by decide) ?_
              refine mgSkip (i := 52) rfl (by kernel_rfl) (wgN rfl rfl rfl (by decide) (by kernel_rfl)) (fun _ _ _ h => h) hm79 ?_
              refine mPut rfl (by decide) ?_
              refine mgSkip (i := 53) rfl (by kernel_rfl) (wgN rfl rfl rfl (by decide) (by kernel_rfl)) (fun _ _ _ h => h) hm79 ?_
              refine mPut rfl (by decide) ?_
              refine mgSkip (i := 54) rfl (by kernel_rfl) (wgN rfl rfl rfl (by decide) (by kernel_rfl)) (fun _ _ _ h => h) hm79 ?_
              refine mPut rfl (by decide) ?_
              refine mgSkip (i := 55) rfl (by kernel_rfl) (wgN rfl rfl rfl (by decide) (by kernel_rfl)) (fun _ _ _ h => h) hm79 ?_
              refine mPut rfl (by decide) ?_
              refine mgSkip (i := 56) rfl (by kernel_rfl) (wgN rfl rfl rfl (by decide) (by kernel_rfl)) (fun _ _ _ h => h) hm79 ?_
              refine mPut rfl (by decide) ?_
              refine mgSkip (i := 57) rfl (by kernel_rfl) (wgN rfl rfl rfl (by decide) (by kernel_rfl)) (fun _ _ _ h => h) hm79 ?_
              refine mPut rfl (by decide) ?_
              refine mgSkip (i := 58) rfl (by kernel_rfl) (wgN rfl rfl rfl (by decide) (by kernel_rfl)) (fun _ _ _ h => h) hm79 ?_
              refine mPut rfl (by decide) ?_
              refine mgSkip (i := 59) rfl (by kernel_rfl) (wgN rfl rfl rfl (by decide) (by kernel_rfl)) (fun _ _ _ h => h) hm79 ?_
              refine mPut rfl (by decide) ?_
              refine mgSkip (i := 60) rfl (by kernel_rfl) (wgN rfl rfl rfl (by decide) (by kernel_rfl)) (fun _ _ _ h => h) hm79 ?_
              refine mPut rfl (by decide) ?_
              refine mgSkip (i := 61) rfl (by kernel_rfl) (wgN rfl rfl rfl (by decide) (by kernel_rfl)) (fun _ _ _ h => h) hm79 ?_
              refine mPut rfl (by decide) ?_
              refine mgSkip (i := 62) rfl (by kernel_rfl) (wgN rfl rfl rfl (by decide) (by kernel_rfl)) (fun _ _ _ h => h) hm79 ?_
              refine mPut rfl (by decide) ?_
              refine mgSkip (i := 63) rfl (by kernel_rfl) (wgN rfl rfl rfl (by decide) (by kernel_rfl)) (fun _ _ _ h => h) hm79 ?_
              refine mPut rfl (by decide) ?_
              refine mgTake (i := 64) (v := .bool false) rfl (by kernel_rfl) (wn rfl) (fun _ _ _ h => h) hm79 (fun w_ h_ => litRun (by kernel_rfl)) ?_
              refine mPut rfl (by decide) ?_
              refine mgDone (by kernel_rfl) ?_
              refine then_normal (hK78 _ _ ?_)
              refine wpPrune [(2, .pointer (some ⟨g2, 0, none⟩)), (3, .pointer (some ⟨g5, 0, none⟩)), (6, .slice (some ⟨b53, 0, none⟩) LL.length c33), (8, .slice A37 RR.length c38), (10, .int .i64 (n1 : Int)), (11, .int .i64 (k : Int)), (12, .int .i64 (S : Int)), (13, .pointer (some ⟨g57, 0, none⟩)), (51, .int .i64 (k : Int)), (52, .slice (some ⟨b53, 0, none⟩) LL.length c33), (53, .int .i64 (LL.length : Int)), (54, .bool true), (57, .slice (some ⟨b53, 0, none⟩) LL.length c33), (58, .int .i64 (k : Int)), (59, .pointer (some ⟨b53, 0 + k * 4, none⟩)), (60, .pointer (some ⟨b53, 0 + k * 4 + 3, none⟩)), (61, .int .i64 (m : Int)), (62, .int .i64 (S : Int)), (63, .slice (some ⟨b53, 0, none⟩) LL.length c33), (64, .int .i64 (k : Int)), (65, .pointer (some ⟨b53, 0 + k * 4, none⟩)), (66, .pointer (some ⟨b53, 0 + k * 4, none⟩)), (67, .agg (pcs c.at_).toArray), (68, .slice (some ⟨b53, 0, none⟩) LL.length c33), (69, .int .i64 (k : Int)), (70, .pointer (some ⟨b53, 0 + k * 4, none⟩)), (71, .pointer (some ⟨b53, 0 + k * 4 + 3, none⟩)), (72, .int .i64 (m : Int)), (73, .bool false), (74, .bool false), (75, .slice (some ⟨b53, 0, none⟩) LL.length c33), (76, .int .i64 (k : Int)), (77, .pointer (some ⟨b53, 0 + k * 4, none⟩)), (78, .pointer (some ⟨b53, 0 + k * 4 + 3, none⟩)), (79, .int .i64 (m : Int)), (80, .bool false), (81, .bool false), (82, .bool false), (83, .pointer (some ⟨g57, 0, none⟩)), (84, .int .i64 c.at_.x), (85, .int .i64 (S : Int)), (86, .int .i64 0), (87, .bool false), (88, .bool false), (89, .bool false), (90, .pointer (some ⟨g57, 1, none⟩)), (91, .int .i64 c.at_.y), (92, .int .i64 (S : Int)), (93, .int .i64 0), (94, .bool false), (95, .bool false), (96, .bool false), (97, .pointer (some ⟨g57, 2, none⟩)), (98, .int .i64 c.at_.z), (99, .int .i64 (S : Int)), (100, .int .i64 0), (101, .bool false), (102, .bool false), (151, .int .i64 (k : Int)), (152, .int .i64 ((k : Int) + 7)), (153, .slice (some ⟨b53, 0, none⟩) LL.length c33), (154, .int .i64 (LL.length : Int)), (155, .bool true), (156, .bool true), (157, .slice (some ⟨b53, 0, none⟩) LL.length c33), (158, .int .i64 (k : Int)), (159, .int .i64 ((k : Int) + 7)), (160, .pointer (some ⟨b53, 0 + (k + 7) * 4, none⟩)), (161, .pointer (some ⟨b53, 0 + (k + 7) * 4 + 3, none⟩)), (162, .int .i64 d.lvl), (163, .slice (some ⟨b53, 0, none⟩) LL.length c33), (164, .int .i64 (k : Int)), (165, .pointer (some ⟨b53, 0 + k * 4, none⟩)), (166, .pointer (some ⟨b53, 0 + k * 4 + 3, none⟩)), (167, .int .i64 (m : Int)), (168, .bool false), (169, .bool false), (170, .bool false), (177, .bool false), (178, .bool false), (185, .bool false), (186, .bool false), (193, .bool false), (194, .bool false), (215, .bool false)] ⟨litGet (by kernel_rfl), ⟨litGet (by kernel_rfl), ⟨litGet (by kernel_rfl), ⟨litGet (by kernel_rfl), ⟨litGet (by kernel_rfl), ⟨litGet (by kernel_rfl), ⟨litGet (by kernel_rfl), ⟨litGet (by kernel_rfl), ⟨litGet (by kernel_rfl), ⟨litGet (by kernel_rfl), ⟨litGet (by kernel_rfl), ⟨litGet (by kernel_rfl), ⟨litGet (by kernel_rfl), ⟨litGet (by kernel_rfl), ⟨litGet (by kernel_rfl), ⟨litGet (by kernel_rfl), ⟨litGet (by kernel_rfl), ⟨litGet (by kernel_rfl), ⟨litGet (by kernel_rfl), ⟨litGet (by kernel_rfl), ⟨litGet (by kernel_rfl), ⟨litGet (by kernel_rfl), ⟨litGet (by kernel_rfl), ⟨litGet (by kernel_rfl), ⟨litGet (by kernel_rfl), ⟨litGet (by kernel_rfl), ⟨litGet (by kernel_rfl), ⟨litGet (by kernel_rfl), ⟨litGet (by kernel_rfl), ⟨litGet (by kernel_rfl), ⟨litGet (by kernel_rfl), ⟨litGet (by kernel_rfl), ⟨litGet (by kernel_rfl), ⟨litGet (by kernel_rfl), ⟨litGet (by kernel_rfl), ⟨litGet (by kernel_rfl), ⟨litGet (by kernel_rfl), ⟨litGet (by kernel_rfl), ⟨litGet (by kernel_rfl), ⟨litGet (by kernel_rfl), ⟨litGet (by kernel_rfl), ⟨litGet (by kernel_rfl), ⟨litGet (by kernel_rfl), ⟨litGet (by kernel_rfl), ⟨litGet (by kernel_rfl), ⟨litGet (by kernel_rfl), ⟨litGet (by kernel_rfl), ⟨litGet (by kernel_rfl), ⟨litGet (by kernel_rfl), ⟨litGet (by kernel_rfl), ⟨litGet (by kernel_rfl), ⟨litGet (by kernel_rfl), ⟨litGet (by kernel_rfl), ⟨litGet (by kernel_rfl), ⟨litGet (by kernel_rfl), ⟨litGet (by kernel_rfl), ⟨litGet (by kernel_rfl), ⟨litGet (by kernel_rfl), ⟨litGet (by kernel_rfl), ⟨litGet (by kernel_rfl), ⟨litGet (by kernel_rfl), ⟨litGet (by kernel_rfl), ⟨litGet (by kernel_rfl), ⟨litGet (by kernel_rfl), ⟨litGet (by kernel_rfl), ⟨litGet (by kernel_rfl), ⟨litGet (by kernel_rfl), ⟨litGet (by kernel_rfl), ⟨litGet (by kernel_rfl), ⟨litGet (by kernel_rfl), ⟨litGet (by kernel_rfl), ⟨litGet (by kernel_rfl), ⟨litGet (by kernel_rfl), ⟨litGet (by kernel_rfl), ⟨litGet (by kernel_rfl), ⟨litGet (by kernel_rfl), ⟨litGet (by kernel_rfl), ⟨litGet (by kernel_rfl), ⟨litGet (by kernel_rfl), ⟨litGet (by kernel_rfl), ⟨litGet (by kernel_rfl), ⟨litGet (by kernel_rfl), ⟨litGet (by kernel_rfl), ⟨litGet (by kernel_rfl), ⟨litGet (by kernel_rfl), trivial⟩⟩⟩⟩⟩⟩⟩⟩⟩⟩⟩⟩⟩⟩⟩⟩⟩⟩⟩⟩⟩⟩⟩⟩⟩⟩⟩⟩⟩⟩⟩⟩⟩⟩⟩⟩⟩⟩⟩⟩⟩⟩⟩⟩⟩⟩⟩⟩⟩⟩⟩⟩⟩⟩⟩⟩⟩⟩⟩⟩⟩⟩⟩⟩⟩⟩⟩⟩⟩⟩⟩⟩⟩⟩⟩⟩⟩⟩⟩⟩⟩⟩⟩⟩⟩ (fun X91 => ?_)
              refine wp_cond_false (litEv (by kernel_rfl)) ?_
              refine wp_skip ?_
              refine then_normal ?_
              exact ⟨⟨litSize, rfl, ⟨litGet (by kernel_rfl), ⟨litGet (by kernel_rfl), ⟨litGet (by kernel_rfl), ⟨litGet (by kernel_rfl), ⟨litGet (by kernel_rfl), ⟨litGet (by kernel_rfl), ⟨litGet (by kernel_rfl), ⟨litGet (by kernel_rfl), ⟨litGet (by kernel_rfl), ⟨litGet (by kernel_rfl), ⟨litGet (by kernel_rfl), ⟨litGet (by kernel_rfl), ⟨litGet (by kernel_rfl), ⟨litGet (by kernel_rfl), ⟨litGet (by kernel_rfl), ⟨litGet (by kernel_rfl), ⟨litGet (by kernel_rfl), ⟨litGet (by kernel_rfl), ⟨litGet (by kernel_rfl), ⟨litGet (by kernel_rfl), ⟨litGet (by kernel_rfl), ⟨litGet (by kernel_rfl), ⟨litGet (by kernel_rfl), ⟨litGet (by kernel_rfl), ⟨litGet (by kernel_rfl), ⟨litGet (by kernel_rfl), ⟨litGet (by kernel_rfl), ⟨litGet (by kernel_rfl), ⟨litGet (by kernel_rfl), ⟨litGet (by kernel_rfl), ⟨litGet (by kernel_rfl), ⟨litGet (by kernel_rfl), ⟨litGet (by kernel_rfl), ⟨litGet (by kernel_rfl), ⟨litGet (by kernel_rfl), ⟨litGet (by kernel_rfl), ⟨litGet (by kernel_rfl), ⟨litGet (by kernel_rfl), ⟨litGet (by kernel_rfl), ⟨litGet (by kernel_rfl), ⟨litGet (by kernel_rfl), ⟨litGet (by kernel_rfl), ⟨litGet (by kernel_rfl), ⟨litGet (by kernel_rfl), ⟨litGet (by kernel_rfl), ⟨litGet (by kernel_rfl), ⟨litGet (by kernel_rfl), ⟨litGet (by kernel_rfl), ⟨litGet (by kernel_rfl), ⟨litGet (by kernel_rfl), ⟨litGet (by kernel_rfl), ⟨litGet (by kernel_rfl), ⟨litGet (by kernel_rfl), ⟨litGet (by kernel_rfl), ⟨litGet (by kernel_rfl), ⟨litGet (by kernel_rfl), ⟨litGet (by kernel_rfl), ⟨litGet (by kernel_rfl), trivial⟩⟩⟩⟩⟩⟩⟩⟩⟩⟩⟩⟩⟩⟩⟩⟩⟩⟩⟩⟩⟩⟩⟩⟩⟩⟩⟩⟩⟩⟩⟩⟩⟩⟩⟩⟩⟩⟩⟩⟩⟩⟩⟩⟩⟩⟩⟩⟩⟩⟩⟩⟩⟩⟩⟩⟩⟩⟩⟩, hm79⟩
          · refine mgTake (i := 4) (v := .bool false) rfl (by kernel_rfl) (wn rfl) (fun _ _ _ h => h) hm79 (fun w_ h_ => boolTo (decide_eq_false h81) (lssRun (A := ((k : Int) + 7)) (B := (LL.length : Int)) (.tmp 152) (.tmp 154) rfl (litEv (by kernel_rfl)) (litEv (by kernel_rfl)))) ?_
            refine mPut rfl (by decide) ?_
            refine mgTake (i := 5) (v := .bool false) rfl (by kernel_rfl) (wn rfl) (fun _ _ _ h => h) hm79 (fun w_ h_ => litRun (by kernel_rfl)) ?_
            refine mPut rfl (by decide) ?_
            refine mgSkip (i := 6) rfl (by kernel_rfl) (wgN rfl rfl rfl (by decide) (by kernel_rfl)) (fun _ _ _ h => h) hm79 ?_
            refine mPut rfl (by decide) ?_
            refine mgSkip (i := 7) rfl (by kernel_rfl) (wgN rfl rfl rfl (by decide) (by kernel_rfl)) (fun _ _ _ h => h) hm79 ?_
            refine mPut rfl (by decide) ?_
            refine mgSkip (i := 8) rfl (by kernel_rfl) (wgN rfl rfl rfl (by decide) (by kernel_rfl)) (fun _ _ _ h => h) hm79 ?_
            refine mPut rfl (by decide) ?_
            refine mgSkip (i := 9) rfl (by kernel_rfl) (wgN rfl rfl rfl (by decide) (by kernel_rfl)) (fun _ _ _ h => h) hm79 ?_
            refine mPut rfl (by decide) ?_
            refine mgSkip (i := 10) rfl (by kernel_rfl) (wgN rfl rfl rfl (by decide) (by kernel_rfl)) (fun _ _ _ h => h) hm79 ?_
            refine mPut rfl (by decide) ?_
            refine mgSkip (i := 11) rfl (by kernel_rfl) (wgN rfl rfl rfl (by decide) (by kernel_rfl)) (fun _ _ _ h => h) hm79 ?_
            refine mPut rfl (by decide) ?_
            refine mgSkip (i := 12) rfl (by kernel_rfl) (wgN rfl rfl rfl (by decide) (by kernel_rfl)) (fun _ _ _ h => h) hm79 ?_
            refine mPut rfl (by decide) ?_
            refine mgSkip (i := 13) rfl (by kernel_rfl) (wgN rfl rfl rfl (by decide) (by kernel_rfl)) (fun _ _ _ h => h) hm79 ?_
            refine mPut rfl (by decide) ?_
            refine mgSkip (i := 14) rfl (by kernel_rfl) (wgN rfl rfl rfl (by decide) (by kernel_rfl)) (fun _ _ _ h => h) hm79 ?_
            refine mPut rfl (by decide) ?_
            refine mgSkip (i := 15) rfl (by kernel_rfl) (wgN rfl rfl rfl (by decide) (by kernel_rfl)) (fun _ _ _ h => h) hm79 ?_
            refine mPut rfl (by decide) ?_
            refine mgSkip (i := 16) rfl (by kernel_rfl) (wgN rfl rfl rfl (by decide) (by kernel_rfl)) (fun _ _ _ h => h) hm79 ?_
            refine mPut rfl (by decide) ?_
            refine mgSkip (i := 17) rfl (by kernel_rfl) (wgN rfl rfl rfl (by decide) (by kernel_rfl)) (fun _ _ _ h => h) hm79 ?_
            refine mPut rfl (by decide) ?_
            refine mgTake (i := 18) (v := .bool false) rfl (by kernel_rfl) (wn rfl) (fun _ _ _ h => h) hm79 (fun w_ h_ => litRun (by kernel_rfl)) ?_
            refine mPut rfl (by decide) ?_
            refine mgTake (i := 19) (v := .bool false) rfl (by kernel_rfl) (wn rfl) (fun _ _ _ h => h) hm79 (fun w_ h_ => litRun (by kernel_rfl)) ?_
            refine mPut rfl (by decide) ?_
            refine mgSkip (i := 20) rfl (by kernel_rfl) (wgN rfl rfl rfl (by decide) (by kernel_rfl)) (fun _ _ _ h => h) hm79 ?_
            refine mPut rfl (by decide) ?_
            refine mgSkip (i := 21) rfl (by kernel_rfl) (wgN rfl rfl rfl (by decide) (by kernel_rfl)) (fun _ _ _ h => h) hm79 ?_
            refine mPut rfl (by decide) ?_
            refine mgSkip (i := 22) rfl (by kernel_rfl) (wgN rfl rfl rfl (by decide) (by kernel_rfl)) (fun _ _ _ h => h) hm79 ?_
            refine mPut rfl (by decide) ?_
            refine mgSkip (i := 23) rfl (by kernel_rfl) (wgN rfl rfl rfl (by decide) (by kernel_rfl)) (fun _ _ _ h => h) hm79 ?_
            refine mPut rfl (by decide) ?_
            refine mgSkip (i := 24) rfl (by kernel_rfl) (wgN rfl rfl rfl (by decide) (by kernel_rfl)) (fun _ _ _ h => h) hm79 ?_
            refine mPut rfl (by decide) ?_
            refine mgSkip (i := 25) rfl (by kernel_rfl) (wgN rfl rfl rfl (by decide) (by kernel_rfl)) (fun _ _ _ h => h) hm79 ?_
            refine mPut rfl (by decide) ?_
            refine mgTake (i := 26) (v := .bool false) rfl (by kernel_rfl) (wn rfl) (fun _ _ _ h => h) hm79 (fun w_ h_ => litRun (by kernel_rfl)) ?_
            refine mPut rfl (by decide) ?_
            refine mgTake (i := 27) (v := .bool false) rfl (by kernel_rfl) (wn rfl) (fun _ _ _ h => h) hm79 (fun w_ h_ => litRun (by kernel_rfl)) ?_
            refine mPut rfl (by decide) ?_
            refine mgSkip (i := 28) rfl (by kernel_rfl) (wgN rfl rfl rfl (by decide) (by kernel_rfl)) (fun _ _ _ h => h) hm79 ?_
            refine mPut rfl (by decide) ?_
            refine mgSkip (i := 29) rfl (by kernel_rfl) (wgN rfl rfl rfl (by decide) (by kernel_rfl)) (fun _ _ _ h => h) hm79 ?_
            refine mPut rfl (by decide) ?_
            refine mgSkip (i := 30) rfl (by kernel_rfl) (wgN rfl rfl rfl (by decide) (by kernel_rfl)) (fun _ _ _ h => h) hm79 ?_
            refine mPut rfl (by decide) ?_
            refine mgSkip (i := 31) rfl (by kernel_rfl) (wgN rfl rfl rfl (by decide) (by kernel_rfl)) (fun _ _ _ h => h) hm79 ?_
            refine mPut rfl (by decide) ?_
            refine mgSkip (i := 32) rfl (by kernel_rfl) (wgN rfl rfl rfl (by decide) (by kernel_rfl)) (fun _ _ _ h => h) hm79 ?_
            refine mPut rfl (by decide) ?_
            refine mgSkip (i := 33) rfl (by kernel_rfl) (wgN rfl rfl rfl (by decide) (by kernel_rfl)) (fun _ _ _ h => h) hm79 ?_
            refine mPut rfl (by decide) ?_
            refine mgTake (i := 34) (v := .bool false) rfl (by kernel_rfl) (wn rfl) (fun _ _ _ h => h) hm79 (fun w_ h_ => litRun (by kernel_rfl)) ?_
            refine mPut rfl (by decide) ?_
            refine mgTake (i := 35) (v := .bool false) rfl (by kernel_rfl) (wn rfl) (fun _ _ _ h => h) hm79 (fun w_ h_ => litRun (by kernel_rfl)) ?_
            refine mPut rfl (by decide) ?_
            refine mgSkip (i := 36) rfl (by kernel_rfl) (wgN rfl rfl rfl (by decide) (by kernel_rfl)) (fun _ _ _ h => h) hm79 ?_
            refine mPut rfl (by decide) ?_
            refine mgSkip (i := 37) rfl (by kernel_rfl) (wgN rfl rfl rfl (by decide) (by kernel_rfl)) (fun _ _ _ h => h) hm79 ?_
            refine mPut rfl (by decide) ?_
            refine mgSkip (i := 38) rfl (by kernel_rfl) (wgN rfl rfl rfl (by decide) (by kernel_rfl)) (fun _ _ _ h => h) hm79 ?_
            refine mPut rfl (by decide) ?_
            refine mgSkip (i := 39) rfl (by kernel_rfl) (wgN rfl rfl rfl (by decide) (by kernel_rfl)) (fun _ _ _ h => h) hm79 ?_
            refine mPut rfl (by decide) ?_
            refine mgSkip (i := 40) rfl (by kernel_rfl) (wgN rfl rfl rfl (by decide) (by kernel_rfl)) (fun _ _ _ h => h) hm79 ?_
            refine mPut rfl (by decide) ?_
            refine mgSkip (i := 41) rfl (by kernel_rfl) (wgN rfl rfl rfl (by decide) (by kernel_rfl)) (fun _ _ _ h => h) hm79 ?_
            refine mPut rfl (by decide) ?_
            refine mgTake (i := 42) (v := .bool false) rfl (by kernel_rfl) (wn rfl) (fun _ _ _ h => h) hm79 (fun w_ h_ => litRun (by kernel_rfl)) ?_
            refine mPut rfl (by decide) ?_
            refine mgTake (i := 43) (v := .bool false) rfl (by kernel_rfl) (wn rfl) (fun _ _ _ h => h) hm79 (fun w_ h_ => litRun (by kernel_rfl)) ?_
            refine mPut rfl (by decide) ?_
            refine mgSkip (i := 44) rfl (by kernel_rfl) (wgN rfl rfl rfl (by decide) (by kernel_rfl)) (fun _ _ _ h => h) hm79 ?_
            refine mPut rfl (by decide) ?_
            refine mgSkip (i := 45) rfl (by kernel_rfl) (wgN rfl rfl rfl (by decide) (by kernel_rfl)) (fun _ _ _ h => h) hm79 ?_
            refine mPut rfl (by decide) ?_
            refine mgSkip (i := 46) rfl (by kernel_rfl) (wgN rfl rfl rfl (by decide) (by kernel_rfl)) (fun _ _ _ h => h) hm79 ?_
            refine mPut rfl (by decide) ?_
            refine mgSkip (i := 47) rfl (by kernel_rfl) (wgN rfl rfl rfl (by decide) (by kernel_rfl)) (fun _ _ _ h => h) hm79 ?_
            refine mPut rfl (by decide) ?_
            refine mgSkip (i := 48) rfl (by kernel_rfl) (wgN rfl rfl rfl (by decide) (by kernel_rfl)) (fun _ _ _ h => h) hm79 ?_
            refine mPut rfl (by decide) ?_
            refine mgSkip (i := 49) rfl (by kernel_rfl) (wgN rfl rfl rfl (by decide) (by kernel_rfl)) (fun _ _ _ h => h) hm79 ?_
            refine mPut rfl (by decide) ?_
            refine mgSkip (i := 50) rfl (by kernel_rfl) (wgN rfl rfl rfl (by decide) (by kernel_rfl)) (fun _ _ _ h => h) hm79 ?_
            refine mPut rfl (by decide) ?_
            refine mgSkip (i := 51) rfl (by kernel_rfl) (wgN rfl rfl rfl (by decide) (by kernel_rfl)) (fun _ _ _ h => h) hm79 ?_
            refine mPut rfl (by decide) ?_
            refine mgSkip (i := 52) rfl (by kernel_rfl) (wgN rfl rfl rfl (by decide) (by kernel_rfl)) (fun _ _ _ h => h) hm79 ?_
            refine mPut rfl (by decide) ?_
            refine mgSkip (i := 53) rfl (by kernel_rfl) (wgN rfl rfl rfl (by decide) (by kernel_rfl)) (fun _ _ _ h => h) hm79 ?_
            refine mPut rfl (by decide) ?_
            refine mgSkip (i := 54) rfl (by kernel_rfl) (wgN rfl rfl rfl (by decide) (by kernel_rfl)) (fun _ _ _ h => h) hm79 ?_
            refine mPut rfl (by decide) ?_
            refine mgSkip (i := 55) rfl (by kernel_rfl) (wgN rfl rfl rfl (by decide) (by kernel_rfl)) (fun _ _ _ h => h) hm79 ?_
            refine mPut rfl (by decide) ?_
            refine mgSkip (i := 56) rfl (by kernel_rfl) (wgN rfl rfl rfl (by decide) (by kernel_rfl)) (fun _ _ _ h => h) hm79 ?_
            refine mPut rfl (by decide) ?_
            refine mgSkip (i := 57) rfl (by kernel_rfl) (wgN rfl rfl rfl (by decide) (by kernel_rfl)) (fun _ _ _ h => h) hm79 ?_
            refine mPut rfl (by decide) ?_
            refine mgSkip (i := 58) rfl (by kernel_rfl) (wgN rfl rfl rfl (by decide) (by kernel_rfl)) (fun _ _ _ h => h) hm79 ?_
            refine mPut rfl (by decide) ?_
            refine mgSkip (i := 59) rfl (by kernel_rfl) (wgN rfl rfl rfl (by decide) (by kernel_rfl)) (fun _ _ _ h => h) hm79 ?_
            refine mPut rfl (by decide) ?_
            refine mgSkip (i := 60) rfl (by kernel_rfl) (wgN rfl rfl rfl (by decide) (by kernel_rfl)) (fun _ _ _ h => h) hm79 ?_
            refine mPut rfl (by decide) ?_
            refine mgSkip (i := 61) rfl (by kernel_rfl) (wgN rfl rfl rfl (by decide) (by kernel_rfl)) (fun _ _ _ h => h) hm79 ?_
            refine mPut rfl (by decide) ?_
            refine mgSkip (i := 62) rfl (by kernel_rfl) (wgN rfl rfl rfl (by decide) (by kernel_rfl)) (fun _ _ _ h => h) hm79 ?_
            refine mPut rfl (by decide) ?_
            refine mgSkip (i := 63) rfl (by kernel_rfl) (wgN rfl rfl rfl (by decide) (by kernel_rfl)) (fun _ _ _ h => h) hm79 ?_
            refine mPut rfl (by decide) ?_
            refine mgTake (i := 64) (v := .bool false) rfl (by kernel_rfl) (wn rfl) (fun _ _ _ h => h) hm79 (fun w_ h_ => litRun (by kernel_rfl)) ?_
            refine mPut rfl (by decide) ?_
            refine mgDone (by kernel_rfl) ?_
            refine then_normal (hK78 _ _ ?_)
            refine wpPrune [(2, .pointer (some ⟨g2, 0, none⟩)), (3, .pointer (some ⟨g5, 0, none⟩)), (6, .slice (some ⟨b53, 0, none⟩) LL.length c33), (8, .slice A37 RR.length c38), (10, .int .i64 (n1 : Int)), (11, .int .i64 (k : Int)), (12, .int .i64 (S : Int)), (13, .pointer (some ⟨g57, 0, none⟩)), (51, .int .i64 (k : Int)), (52, .slice (some ⟨b53, 0, none⟩) LL.length c33), (53, .int .i64 (LL.length : Int)), (54, .bool true), (57, .slice (some ⟨b53, 0, none⟩) LL.length c33), (58, .int .i64 (k : Int)), (59, .pointer (some ⟨b53, 0 + k * 4, none⟩)), (60, .pointer (some ⟨b53, 0 + k * 4 + 3, none⟩)), (61, .int .i64 (m : Int)), (62, .int .i64 (S : Int)), (63, .slice (some ⟨b53, 0, none⟩) LL.length c33), (64, .int .i64 (k : Int)), (65, .pointer (some ⟨b53, 0 + k * 4, none⟩)), (66, .pointer (some ⟨b53, 0 + k * 4, none⟩)), (67, .agg (pcs c.at_).toArray), (68, .slice (some ⟨b53, 0, none⟩) LL.length c33), (69, .int .i64 (k : Int)), (70, .pointer (some ⟨b53, 0 + k * 4, none⟩)), (71, .pointer (some ⟨b53, 0 + k * 4 + 3, none⟩)), (72, .int .i64 (m : Int)), (73, .bool false), (74, .bool false), (75, .slice (some ⟨b53, 0, none⟩) LL.length c33), (76, .int .i64 (k : Int)), (77, .pointer (some ⟨b53, 0 + k * 4, none⟩)), (78, .pointer (some ⟨b53, 0 + k * 4 + 3, none⟩)), (79, .int .i64 (m : Int)), (80, .bool false), (81, .bool false), (82, .bool false), (83, .pointer (some ⟨g57, 0, none⟩)), (84, .int .i64 c.at_.x), (85, .int .i64 (S : Int)), (86, .int .i64 0), (87, .bool false), (88, .bool false), (89, .bool false), (90, .pointer (some ⟨g57, 1, none⟩)), (91, .int .i64 c.at_.y), (92, .int .i64 (S : Int)), (93, .int .i64 0), (94, .bool false), (95, .bool false), (96, .bool false), (97, .pointer (some ⟨g57, 2, none⟩)), (98, .int .i64 c.at_.z), (99, .int .i64 (S : Int)), (100, .int .i64 0), (101, .bool false), (102, .bool false), (151, .int .i64 (k : Int)), (152, .int .i64 ((k : Int) + 7)), (153, .slice (some ⟨b53, 0, none⟩) LL.length c33), (154, .int .i64 (LL.length : Int)), (155, .bool false), (156, .bool false), (169, .bool false), (170, .bool false), (177, .bool false), (178, .bool false), (185, .bool false), (186, .bool false), (193, .bool false), (194, .bool false), (215, .bool false)] ⟨litGet (by kernel_rfl), ⟨litGet (by kernel_rfl), ⟨litGet (by kernel_rfl), ⟨litGet (by kernel_rfl), ⟨litGet (by kernel_rfl), ⟨litGet (by kernel_rfl), ⟨litGet (by kernel_rfl), ⟨litGet (by kernel_rfl), ⟨litGet (by kernel_rfl), ⟨litGet (by kernel_rfl), ⟨litGet (by kernel_rfl), ⟨litGet (by kernel_rfl), ⟨litGet (by kernel_rfl), ⟨litGet (by kernel_rfl), ⟨litGet (by kernel_rfl), ⟨litGet (by kernel_rfl), ⟨litGet (by kernel_rfl), ⟨litGet (by kernel_rfl), ⟨litGet (by kernel_rfl), ⟨litGet (by kernel_rfl), ⟨litGet (by kernel_rfl), ⟨litGet (by kernel_rfl), ⟨litGet (by kernel_rfl), ⟨litGet (by kernel_rfl), ⟨litGet (by kernel_rfl), ⟨litGet (by kernel_rfl), ⟨litGet (by kernel_rfl), ⟨litGet (by kernel_rfl), ⟨litGet (by kernel_rfl), ⟨litGet (by kernel_rfl), ⟨litGet (by kernel_rfl), ⟨litGet (by kernel_rfl), ⟨litGet (by kernel_rfl), ⟨litGet (by kernel_rfl), ⟨litGet (by kernel_rfl), ⟨litGet (by kernel_rfl), ⟨litGet (by kernel_rfl), ⟨litGet (by kernel_rfl), ⟨litGet (by kernel_rfl), ⟨litGet (by kernel_rfl), ⟨litGet (by kernel_rfl), ⟨litGet (by kernel_rfl), ⟨litGet (by kernel_rfl), ⟨litGet (by kernel_rfl), ⟨litGet (by kernel_rfl), ⟨litGet (by kernel_rfl), ⟨litGet (by kernel_rfl), ⟨litGet (by kernel_rfl), ⟨litGet (by kernel_rfl), ⟨litGet (by kernel_rfl), ⟨litGet (by kernel_rfl), ⟨litGet (by kernel_rfl), ⟨litGet (by kernel_rfl), ⟨litGet (by kernel_rfl), ⟨litGet (by kernel_rfl), ⟨litGet (by kernel_rfl), ⟨litGet (by kernel_rfl), ⟨litGet (by kernel_rfl), ⟨litGet (by kernel_rfl), ⟨litGet (by kernel_rfl), ⟨litGet (by kernel_rfl), ⟨litGet (by kernel_rfl), ⟨litGet (by kernel_rfl), ⟨litGet (by kernel_rfl), ⟨litGet (by kernel_rfl), ⟨litGet (by kernel_rfl), ⟨litGet (by kernel_rfl), ⟨litGet (by kernel_rfl), ⟨litGet (by kernel_rfl), ⟨litGet (by kernel_rfl), ⟨litGet (by kernel_rfl), ⟨litGet (by kernel_rfl), ⟨litGet (by kernel_rfl), trivial⟩⟩⟩⟩⟩⟩⟩⟩⟩⟩⟩⟩⟩⟩⟩⟩⟩⟩⟩⟩⟩⟩⟩⟩⟩⟩⟩⟩⟩⟩⟩⟩⟩⟩⟩⟩⟩⟩⟩⟩⟩⟩⟩⟩⟩⟩⟩⟩⟩⟩⟩⟩⟩⟩⟩⟩⟩⟩⟩⟩⟩⟩⟩⟩⟩⟩⟩⟩⟩⟩⟩⟩⟩ (fun X92 => ?_)
            refine wp_cond_false (litEv (by kernel_rfl)) ?_
            refine wp_skip ?_
            refine then_normal ?_
            exact ⟨⟨litSize, rfl, ⟨litGet (by kernel_rfl), ⟨litGet (by kernel_rfl), ⟨litGet (by kernel_rfl), ⟨litGet (by kernel_rfl), ⟨litGet (by kernel_rfl), ⟨litGet (by kernel_rfl), ⟨litGet (by kernel_rfl), ⟨litGet (by kernel_rfl), ⟨litGet (by kernel_rfl), ⟨litGet (by kernel_rfl), ⟨litGet (by kernel_rfl), ⟨litGet (by kernel_rfl), ⟨litGet (by kernel_rfl), ⟨litGet (by kernel_rfl), ⟨litGet (by kernel_rfl), ⟨litGet (by kernel_rfl), ⟨litGet (by kernel_rfl), ⟨litGet (by kernel_rfl), ⟨litGet (by kernel_rfl), ⟨litGet (by kernel_rfl), ⟨litGet (by kernel_rfl), ⟨litGet (by kernel_rfl), ⟨litGet (by kernel_rfl), ⟨litGet (by kernel_rfl), ⟨litGet (by kernel_rfl), ⟨litGet (by kernel_rfl), ⟨litGet (by kernel_rfl), ⟨litGet (by kernel_rfl), ⟨litGet (by kernel_rfl), ⟨litGet (by kernel_rfl), ⟨litGet (by kernel_rfl), ⟨litGet (by kernel_rfl), ⟨litGet (by kernel_rfl), ⟨litGet (by kernel_rfl), ⟨litGet (by kernel_rfl), ⟨litGet (by kernel_rfl), ⟨litGet (by kernel_rfl), ⟨litGet (by kernel_rfl), ⟨litGet (by kernel_rfl), ⟨litGet (by kernel_rfl), ⟨litGet (by kernel_rfl), ⟨litGet (by kernel_rfl), ⟨litGet (by kernel_rfl), ⟨litGet (by kernel_rfl), ⟨litGet (by kernel_rfl), ⟨litGet (by kernel_rfl), ⟨litGet (by kernel_rfl), ⟨litGet (by kernel_rfl), ⟨litGet (by kernel_rfl), ⟨litGet (by kernel_rfl), ⟨litGet (by kernel_rfl), ⟨litGet (by kernel_rfl), ⟨litGet (by kernel_rfl), ⟨litGet (by kernel_rfl), ⟨litGet (by kernel_rfl), ⟨litGet (by kernel_rfl), ⟨litGet (by kernel_rfl), ⟨litGet (by kernel_rfl), trivial⟩⟩⟩⟩⟩⟩⟩⟩⟩⟩⟩⟩⟩⟩⟩⟩⟩⟩⟩⟩⟩⟩⟩⟩⟩⟩⟩⟩⟩⟩⟩⟩⟩⟩⟩⟩⟩⟩⟩⟩⟩⟩⟩⟩⟩⟩⟩⟩⟩⟩⟩⟩⟩⟩⟩⟩⟩⟩⟩, hm79⟩
        · clear hm75
          intro a95 w93 hI_
          obtain ⟨hF_, hm94⟩ := hI_
          obtain ⟨X96, rfl⟩ := frLit hF_
          clear hF_
          refine wp_seq_k fun K97 hK97 => ?_
          refine mgStart hm94 (by kernel_rfl) ?_
          intro w99 hm98
          clear hm94
          refine mgTake (i := 0) (v := .int .i64 (k : Int)) rfl (by kernel_rfl) (wn rfl) (fun _ _ _ h => h) hm98 (fun w_ h_ => litRun (by kernel_rfl)) ?_
          refine mPut rfl (by decide) ?_
          by_cases h100 : 0 < (k : Int)
          · obtain ⟨kp, hkp⟩ : ∃ kp, k = kp + 1 := ⟨k - 1, by omega⟩
            obtain ⟨c1, hc1⟩ : ∃ c1, LL[kp]? = some c1 := ⟨LL[kp], List.getElem?_eq_getElem (by omega)⟩
            refine mgTake (i := 1) (v := .bool true) rfl (by kernel_rfl) (wn rfl) (fun _ _ _ h => h) hm98 (fun w_ h_ => boolTo (decide_eq_true h100) (gtrRun (A := (k : Int)) (B := 0) (.tmp 216) (.const (.int .i64 0)) rfl (litEv (by kernel_rfl)) (litEv (by kernel_rfl)))) ?_
            refine mPut rfl (by decide) ?_
            refine mgTake (i := 2) (v := .bool true) rfl (by kernel_rfl) (wn rfl) (fun _ _ _ h => h) hm98 (fun w_ h_ => litRun (by kernel_rfl)) ?_
            refine mPut rfl (by decide) ?_
            refine mgTake (i := 3) (v := .slice (some ⟨b53, 0, none⟩) LL.length c33) rfl (by kernel_rfl) (wgY rfl rfl rfl (by decide) (by kernel_rfl)) (fun _ _ _ h => h) hm98 (fun w_ h_ => litRun (by kernel_rfl)) ?_
            refine mPut rfl (by decide) ?_
            refine mgTake (i := 4) (v := .int .i64 (k : Int)) rfl (by kernel_rfl) (wgY rfl rfl rfl (by decide) (by kernel_rfl)) (fun _ _ _ h => h) hm98 (fun w_ h_ => litRun (by kernel_rfl)) ?_
            refine mPut rfl (by decide) ?_
            refine mgTake (i := 5) (v := .int .i64 ((k : Int) - 1)) rfl (by kernel_rfl) (wgY rfl rfl rfl (by decide) (by kernel_rfl)) (fun _ _ _ h => h) hm98 (fun w_ h_ => subRun (A := (k : Int)) (B := 1) (C := (k : Int) - 1) (.tmp 220) (.const (.int .i64 1)) rfl (litEv (by kernel_rfl)) (litEv (by kernel_rfl)) rfl (by omega)) ?_
            refine mPut rfl (by decide) ?_
            refine mgTake (i := 6) (v := .pointer (some ⟨b53, 0 + kp * 4, none⟩)) rfl (by kernel_rfl) (wgY rfl rfl rfl (by decide) (by kernel_rfl)) (fun _ _ _ h => h) hm98 (fun w_ h_ => gIaSl (b := b53) (off := 0) (n := LL.length) (c := c33) (kk := .i64) (K := ((k : Int) - 1)) (.tmp 219) (.tmp 221) kp Ty.sl_api_Cube rfl (litEv (by kernel_rfl)) (litEv (by kernel_rfl)) (by omega) (show kp < LL.length by omega)) ?_
            refine mPut rfl (by decide) ?_
            refine mgTake (i := 7) (v := .pointer (some ⟨b53, 0 + kp * 4, none⟩)) rfl (by kernel_rfl) (wgY rfl rfl rfl (by decide) (by kernel_rfl)) (fun _ _ _ h => h) hm98 (fun w_ h_ => litRun (by kernel_rfl)) ?_
            refine mPut rfl (by decide) ?_
            refine mgTake (i := 8) (v := .agg (pcs c1.at_).toArray) rfl (by kernel_rfl) (wgY rfl rfl rfl (by decide) (by kernel_rfl)) (fun _ _ _ h => h) hm98 (fun w_ h_ => gLoadAgRd (vs := pcs c1.at_) (m := kp * 4) (h_.rdRow 2 rfl) rfl (fun i u hu => cus_at LL kp c1 hc1 i u (ccs_pt hu)) (by kernel_rfl) (by omega) (.tmp 223) Ty.ag_voxel_api_Point rfl (litEv (by kernel_rfl))) ?_
            refine mPut rfl (by decide) ?_
            refine mgTake (i := 9) (v := .agg (pcs c.at_).toArray) rfl (by kernel_rfl) (wgY rfl rfl rfl (by decide) (by kernel_rfl)) (fun _ _ _ h => h) hm98 (fun w_ h_ => gLoadAg (vs := pcs c.at_) (k := 0) 4 h_ rfl (by kernel_rfl) (by kernel_rfl) (.tmp 13) Ty.ag_voxel_api_Point rfl (litEv (by kernel_rfl))) ?_
            refine mPut rfl (by decide) ?_
            refine mgCall (i := 10) 15 [.agg (pcs c1.at_).toArray, .agg (pcs c.at_).toArray] [] [] (by kernel_rfl) rfl (by kernel_rfl) (wgY rfl rfl rfl (by decide) (by kernel_rfl)) rfl (litEv rfl) (litArgs (by kernel_rfl)) (compare_any c1.at_ c.at_ _) ?_
            rintro e w101 ⟨rfl, hbz⟩
            have hm102 := hm98.below hbz
            clear hbz hm98
            refine ⟨_, rfl, hm102, ?_⟩
            refine mPut rfl (by decide) ?_
            refine mgTake (i := 11) (v := .bool false) rfl (by kernel_rfl) (wgY rfl rfl rfl (by decide) (by kernel_rfl)) (fun _ _ _ h => h) hm102 (fun w_ h_ => boolTo (decide_eq_false (Int.not_le.2 (cov_less hcov hc1 (hkp ▸ hc)))) (gGeq (A := (mCmp c1.at_ c.at_)) (B := 0) (.tmp 226) (.const (.int .i64 0)) rfl (litEv (by kernel_rfl)) (litEv (by kernel_rfl)))) ?_
            refine mPut rfl (by decide) ?_
            refine mgTake (i := 12) (v := .bool false) rfl (by kernel_rfl) (wn rfl) (fun _ _ _ h => h) hm102 (fun w_ h_ => litRun (by kernel_rfl)) ?_
            refine mPut rfl (by decide) ?_
            refine mgDone (by kernel_rfl) ?_
            refine then_normal (hK97 _ _ ?_)
            refine wp_cond_false (litEv (by kernel_rfl)) ?_
            refine wp_skip ?_
            refine inBlock_normal ?_
            refine then_normal (hK54 _ _ ?_)
            refine plStart ?_
            refine litVal (i := 0) (v := .int .i64 (k : Int)) rfl (wn rfl) (litRun (by kernel_rfl)) rfl (by decide) ?_
            refine litVal (i := 1) (v := .int .i64 ((k : Int) + 1)) rfl (wn rfl) (addRun (A := (k : Int)) (B := 1) (C := (k : Int) + 1) (.tmp 55) (.const (.int .i64 1)) rfl (litEv (by kernel_rfl)) (litEv (by kernel_rfl)) rfl (by omega)) rfl (by decide) ?_
            refine litVal (i := 2) (v := .int .i64 ((k : Int) + 1)) rfl (wn rfl) (litRun (by kernel_rfl)) rfl (by decide) ?_
            refine plDone (by decide) ?_
            refine then_normal ?_
            exact ⟨_, by omega, (k + 1), n1, rfl, by omega, hn1, ⟨litSize, rfl, ⟨litGet (by kernel_rfl), ⟨litGet (by kernel_rfl), ⟨litGet (by kernel_rfl), ⟨litGet (by kernel_rfl), ⟨litGet (by kernel_rfl), ⟨litGet (by kernel_rfl), trivial⟩⟩⟩⟩⟩⟩⟩, (hm102.firsts 4)⟩
          · refine mgTake (i := 1) (v := .bool false) rfl (by kernel_rfl) (wn rfl) (fun _ _ _ h => h) hm98 (fun w_ h_ => boolTo (decide_eq_false h100) (gtrRun (A := (k : Int)) (B := 0) (.tmp 216) (.const (.int .i64 0)) rfl (litEv (by kernel_rfl)) (litEv (by kernel_rfl)))) ?_
            refine mPut rfl (by decide) ?_
            refine mgTake (i := 2) (v := .bool false) rfl (by kernel_rfl) (wn rfl) (fun _ _ _ h => h) hm98 (fun w_ h_ => litRun (by kernel_rfl)) ?_
            refine mPut rfl (by decide) ?_
            refine mgSkip (i := 3) rfl (by kernel_rfl) (wgN rfl rfl rfl (by decide) (by kernel_rfl)) (fun _ _ _ h => h) hm98 ?_
            refine mPut rfl (by decide) ?_
            refine mgSkip (i := 4) rfl (by kernel_rfl) (wgN rfl rfl rfl (by decide) (by kernel_rfl)) (fun _ _ _ h => h) hm98 ?_
            refine mPut rfl (by decide) ?_
            refine mgSkip (i := 5) rfl (by kernel_rfl) (wgN rfl rfl rfl (by decide) (by kernel_rfl)) (fun _ _ _ h => h) hm98 ?_
            refine mPut rfl (by decide) ?_
            refine mgSkip (i := 6) rfl (by kernel_rfl) (wgN rfl rfl rfl (by decide) (by kernel_rfl)) (fun _ _ _ h => h) hm98 ?_
            refine mPut rfl (by decide) ?_
            refine mgSkip (i := 7) rfl (by kernel_rfl) (wgN rfl rfl rfl (by decide) (by kernel_rfl)) (fun _ _ _ h => h) hm98 ?_
            refine mPut rfl (by decide) ?_
            refine mgSkip (i := 8) rfl (by kernel_rfl) (wgN rfl rfl rfl (by decide) (by kernel_rfl)) (fun _ _ _ h => h) hm98 ?_
            refine mPut rfl (by decide) ?_
            refine mgSkip (i := 9) rfl (by kernel_rfl) (wgN rfl rfl rfl (by decide) (by kernel_rfl)) (fun _ _ _ h => h) hm98 ?_
            refine mPut rfl (by decide) ?_
            refine mgSkip (i := 10) rfl (by kernel_rfl) (wgN rfl rfl rfl (by decide) (by kernel_rfl)) (fun _ _ _ h => h) hm98 ?_
            refine mPut rfl (by decide) ?_
            refine mgSkip (i := 11) rfl (by kernel_rfl) (wgN rfl rfl rfl (by decide) (by kernel_rfl)) (fun _ _ _ h => h) hm98 ?_
            refine mPut rfl (by decide) ?_
            refine mgTake (i := 12) (v := .bool false) rfl (by kernel_rfl) (wn rfl) (fun _ _ _ h => h) hm98 (fun w_ h_ => litRun (by kernel_rfl)) ?_
            refine mPut rfl (by decide) ?_
            refine mgDone (by kernel_rfl) ?_
            refine then_normal (hK97 _ _ ?_)
            refine wp_cond_false (litEv (by kernel_rfl)) ?_
            refine wp_skip ?_
            refine inBlock_normal ?_
            refine then_normal (hK54 _ _ ?_)
            refine plStart ?_
            refine litVal (i := 0) (v := .int .i64 (k : Int)) rfl (wn rfl) (litRun (by kernel_rfl)) rfl (by decide) ?_
            refine litVal (i := 1) (v := .int .i64 ((k : Int) + 1)) rfl (wn rfl) (addRun (A := (k : Int)) (B := 1) (C := (k : Int) + 1) (.tmp 55) (.const (.int .i64 1)) rfl (litEv (by kernel_rfl)) (litEv (by kernel_rfl)) rfl (by omega)) rfl (by decide) ?_
            refine litVal (i := 2) (v := .int .i64 ((k : Int) + 1)) rfl (wn rfl) (litRun (by kernel_rfl)) rfl (by decide) ?_
            refine plDone (by decide) ?_
            refine then_normal ?_
            exact ⟨_, by omega, (k + 1), n1, rfl, by omega, hn1, ⟨litSize, rfl, ⟨litGet (by kernel_rfl), ⟨litGet (by kernel_rfl), ⟨litGet (by kernel_rfl), ⟨litGet (by kernel_rfl), ⟨litGet (by kernel_rfl), ⟨litGet (by kernel_rfl), trivial⟩⟩⟩⟩⟩⟩⟩, (hm98.firsts 4)⟩
    · have hn2 : n = LL.countP (fun c => decide (c.inC p)) := by rw [hn, List.take_of_length_le (by omega)]
      rw [cov_count hcov] at hn2
      refine litVal (i := 3) (v := .bool false) rfl (wn rfl) (boolTo (decide_eq_false h52) (lssRun (A := (k : Int)) (B := (LL.length : Int)) (.tmp 51) (.tmp 53) rfl (litEv (by kernel_rfl)) (litEv (by kernel_rfl)))) rfl (by decide) ?_
      refine plDone (by decide) ?_
      refine then_normal (hK51 _ _ ?_)
      refine wp_cond_false (litEv (by kernel_rfl)) ?_
      refine wp_exit ?_
      refine then_exit ?_
      refine then_exit ?_
      refine inBlock_exit ?_
      refine then_normal (hK44 _ _ ?_)
      refine wp_seq_k fun K103 hK103 => ?_
      refine plStart ?_
      refine litVal (i := 0) (v := .int .i64 0) rfl (wn rfl) (litRun (by kernel_rfl)) rfl (by decide) ?_
      refine plDone (by decide) ?_
      refine then_normal (hK103 _ _ ?_)
      refine wp_seq_k fun K104 hK104 => ?_
      refine plStart ?_
      refine litVal (i := 0) (v := .agg (pcs p).toArray) rfl (wn rfl) (gLoadAg (vs := pcs p) (k := 0) 1 hm47 rfl (by kernel_rfl) (by kernel_rfl) (.tmp 3) Ty.ag_voxel_api_Point rfl (litEv (by kernel_rfl))) rfl (by decide) ?_
      refine plCall (i := 1) 13 [.agg (pcs p).toArray] [] [] rfl (by kernel_rfl) (wn rfl) rfl (litEv rfl) (litArgs (by kernel_rfl)) (encode_any p _) ?_
      rintro e w105 ⟨rfl, hbz⟩
      have hm106 := hm47.below hbz
      clear hbz hm47
      refine ⟨_, rfl, ?_⟩
      refine qPut rfl (by decide) ?_
      refine litVal (i := 2) (v := .int .i64 (mEnc p)) rfl (wn rfl) (litRun (by kernel_rfl)) rfl (by decide) ?_
      refine plDone (by decide) ?_
      refine then_normal (hK104 _ _ ?_)
      refine wp_seq_k fun K107 hK107 => ?_
      refine wp_seq_k fun K108 hK108 => ?_
      refine plStart ?_
      refine litVal (i := 0) (v := .int .i64 0) rfl (wn rfl) (litRun (by kernel_rfl)) rfl (by decide) ?_
      refine plDone (by decide) ?_
      refine then_normal (hK108 _ _ ?_)
      refine wp_block ?_
      refine gwLoop (fun n_ a_ w_ => ∃ (j m2 : Nat), n_ = RR.length - j ∧ (j ≤ RR.length) ∧ (m2 = (RR.take j).countP (fun r => decide (r.first ≤ mEnc p ∧ mEnc p ≤ r.last))) ∧ Fr a_ 300 [(2, .pointer (some ⟨g2, 0, none⟩)), (3, .pointer (some ⟨g5, 0, none⟩)), (8, .slice A37 RR.length c38), (10, .int .i64 (n : Int)), (14, .int .i64 (m2 : Int)), (15, .int .i64 (mEnc p)), (16, .int .i64 (j : Int))] ∧ Mem w w_ [.arr g2 37 (bxs b), .arr g5 23 (pcs p), .row (.slice A32 LL.length c33) 27 4 LL.length (cus LL), .row (.slice A37 RR.length c38) 54 2 RR.length (rus RR)]) (RR.length - 0) ⟨0, 0, rfl, Nat.zero_le _, rfl, ⟨litSize, rfl, ⟨litGet (by kernel_rfl), ⟨litGet (by kernel_rfl), ⟨litGet (by kernel_rfl), ⟨litGet (by kernel_rfl), ⟨litGet (by kernel_rfl), ⟨litGet (by kernel_rfl), ⟨litGet (by kernel_rfl), trivial⟩⟩⟩⟩⟩⟩⟩⟩, hm106⟩ ?_
      clear hm106
      intro n_ a111 w109 hI_
      obtain ⟨j, m2, rfl, hj, hm2_, hF_, hm110⟩ := hI_
      obtain ⟨X112, rfl⟩ := frLit hF_
      clear hF_
      refine wp_seq_k fun K113 hK113 => ?_
      refine wp_seq_k fun K114 hK114 => ?_
      refine plStart ?_
      refine litVal (i := 0) (v := .int .i64 (j : Int)) rfl (wn rfl) (litRun (by kernel_rfl)) rfl (by decide) ?_
      refine litVal (i := 1) (v := .slice A37 RR.length c38) rfl (wn rfl) (litRun (by kernel_rfl)) rfl (by decide) ?_
      refine litVal (i := 2) (v := .int .i64 (RR.length : Int)) rfl (wn rfl) (lenSlRun (A := A37) (n := RR.length) (c := c38) (.tmp 232) Ty.und_api_Run rfl (litEv (by kernel_rfl))) rfl (by decide) ?_
      by_cases h115 : (j : Int) < (RR.length : Int)
      · obtain ⟨r, hr⟩ : ∃ r, RR[j]? = some r := ⟨RR[j], List.getElem?_eq_getElem (by omega)⟩
        have hrmem := List.mem_of_getElem? hr
        have hre := hruns.each r hrmem
        have hrl := hlast r hrmem
        have hcnt := cnt_succ (fun r : Run => decide (r.first ≤ mEnc p ∧ mEnc p ≤ r.last)) hr
        have hmj : m2 ≤ j := by rw [hm2_]; exact Nat.le_trans (List.countP_le_length ..) (List.length_take_le ..)
        obtain ⟨b116, rfl⟩ := hm110.rowBlk (A := A37) (n := RR.length) (c := c38) 3 rfl (by omega)
        refine litVal (i := 3) (v := .bool true) rfl (wn rfl) (boolTo (decide_eq_true h115) (lssRun (A := (j : Int)) (B := (RR.length : Int)) (.tmp 231) (.tmp 233) rfl (litEv (by kernel_rfl)) (litEv (by kernel_rfl)))) rfl (by decide) ?_
        refine plDone (by decide) ?_
        refine then_normal (hK114 _ _ ?_)
        refine wp_cond_true (litEv (by kernel_rfl)) ?_
        refine wp_skip ?_
        refine then_normal (hK113 _ _ ?_)
        refine wp_seq_k fun K117 hK117 => ?_
        refine wp_block ?_
        refine gwCut (fun a_ w_ => ∃ (m3 : Nat), (m3 = (RR.take (j + 1)).countP (fun r => decide (r.first ≤ mEnc p ∧ mEnc p ≤ r.last))) ∧ Fr a_ 300 [(2, .pointer (some ⟨g2, 0, none⟩)), (3, .pointer (some ⟨g5, 0, none⟩)), (8, .slice (some ⟨b116, 0, none⟩) RR.length c38), (10, .int .i64 (n : Int)), (14, .int .i64 (m3 : Int)), (15, .int .i64 (mEnc p)), (16, .int .i64 (j : Int)), (231, .int .i64 (j : Int)), (232, .slice (some ⟨b116, 0, none⟩) RR.length c38), (233, .int .i64 (RR.length : Int)), (234, .bool true)] ∧ Mem w w_ [.arr g2 37 (bxs b), .arr g5 23 (pcs p), .row (.slice A32 LL.length c33) 27 4 LL.length (cus LL), .row (.slice (some ⟨b116, 0, none⟩) RR.length c38) 54 2 RR.length (rus RR)]) ?_ ?_
        · refine wp_seq_k fun K118 hK118 => ?_
          refine plStart ?_
          refine litVal (i := 0) (v := .int .i64 (mEnc p)) rfl (wn rfl) (litRun (by kernel_rfl)) rfl (by decide) ?_
          refine litVal (i := 1) (v := .slice (some ⟨b116, 0, none⟩) RR.length c38) rfl (wn rfl) (litRun (by kernel_rfl)) rfl (by decide) ?_
          refine litVal (i := 2) (v := .int .i64 (j : Int)) rfl (wn rfl) (litRun (by kernel_rfl)) rfl (by decide) ?_
          refine litVal (i := 3) (v := .pointer (some ⟨b116, 0 + j * 2, none⟩)) rfl (wn rfl) (gIaSl (b := b116) (off := 0) (n := RR.length) (c := c38) (kk := .i64) (K := (j : Int)) (.tmp 238) (.tmp 239) j Ty.sl_api_Run rfl (litEv (by kernel_rfl)) (litEv (by kernel_rfl)) (rfl) (show j < RR.length by omega)) rfl (by decide) ?_
          refine litVal (i := 4) (v := .pointer (some ⟨b116, 0 + j * 2, none⟩)) rfl (wn rfl) (litRun (by kernel_rfl)) rfl (by decide) ?_
          refine litVal (i := 5) (v := .int .i64 r.first) rfl (wn rfl) (gLoadRd (v := .int .i64 r.first) (m := j * 2) (hm110.rdRow 3 rfl) rfl (rus_at RR j r hr 0 _ rfl) (by omega) (.tmp 241) (by kernel_rfl) rfl (litEv (by kernel_rfl))) rfl (by decide) ?_
          by_cases h119 : r.first ≤ (mEnc p)
          · refine litVal (i := 6) (v := .bool true) rfl (wn rfl) (boolTo (decide_eq_true h119) (gGeq (A := (mEnc p)) (B := r.first) (.tmp 237) (.tmp 242) rfl (litEv (by kernel_rfl)) (litEv (by kernel_rfl)))) rfl (by decide) ?_
            refine litVal (i := 7) (v := .bool true) rfl (wn rfl) (litRun (by kernel_rfl)) rfl (by decide) ?_
            refine litVal (i := 8) (v := .int .i64 (mEnc p)) rfl (wgY rfl rfl rfl (by decide) (by kernel_rfl)) (litRun (by kernel_rfl)) rfl (by decide) ?_
            refine litVal (i := 9) (v := .slice (some ⟨b116, 0, none⟩) RR.length c38) rfl (wgY rfl rfl rfl (by decide) (by kernel_rfl)) (litRun (by kernel_rfl)) rfl (by decide) ?_
            refine litVal (i := 10) (v := .int .i64 (j : Int)) rfl (wgY rfl rfl rfl (by decide) (by kernel_rfl)) (litRun (by kernel_rfl)) rfl (by decide) ?_
            refine litVal (i := 11) (v := .pointer (some ⟨b116, 0 + j * 2, none⟩)) rfl (wgY rfl rfl rfl (by decide) (by kernel_rfl)) (gIaSl (b := b116) (off := 0) (n := RR.length) (c := c38) (kk := .i64) (K := (j : Int)) (.tmp 246) (.tmp 247) j Ty.sl_api_Run rfl (litEv (by kernel_rfl)) (litEv (by kernel_rfl)) (rfl) (show j < RR.length by omega)) rfl (by decide) ?_
            refine litVal (i := 12) (v := .pointer (some ⟨b116, 0 + j * 2 + 1, none⟩)) rfl (wgY rfl rfl rfl (by decide) (by kernel_rfl)) (litRun (by kernel_rfl)) rfl (by decide) ?_
            refine litVal (i := 13) (v := .int .i64 r.last) rfl (wgY rfl rfl rfl (by decide) (by kernel_rfl)) (gLoadRd (v := .int .i64 r.last) (m := j * 2 + 1) (hm110.rdRow 3 rfl) rfl (rus_at RR j r hr 1 _ rfl) (by omega) (.tmp 249) (by kernel_rfl) rfl (litEv (by kernel_rfl))) rfl (by decide) ?_
            by_cases h120 : (mEnc p) ≤ r.last
            · refine litVal (i := 14) (v := .bool true) rfl (wgY rfl rfl rfl (by decide) (by kernel_rfl)) (boolTo (decide_eq_true h120) (leqRun (A := (mEnc p)) (B := r.last) (.tmp 245) (.tmp 250) rfl (litEv (by kernel_rfl)) (litEv (by kernel_rfl)))) rfl (by decide) ?_
              refine litVal (i := 15) (v := .bool true) rfl (wn rfl) (litRun (by kernel_rfl)) rfl (by decide) ?_
              refine plDone (by decide) ?_
              refine then_normal (hK118 _ _ ?_)
              refine wp_cond_true (litEv (by kernel_rfl)) ?_
              refine plStart ?_
              refine litVal (i := 0) (v := .int .i64 (m2 : Int)) rfl (wn rfl) (litRun (by kernel_rfl)) rfl (by decide) ?_
              refine litVal (i := 1) (v := .int .i64 ((m2 : Int) + 1)) rfl (wn rfl) (addRun (A := (m2 : Int)) (B := 1) (C := (m2 : Int) + 1) (.tmp 253) (.const (.int .i64 1)) rfl (litEv (by kernel_rfl)) (litEv (by kernel_rfl)) rfl (by omega)) rfl (by decide) ?_
              refine litVal (i := 2) (v := .int .i64 ((m2 : Int) + 1)) rfl (wn rfl) (litRun (by kernel_rfl)) rfl (by decide) ?_
              refine plDone (by decide) ?_
              refine then_normal ?_
              exact ⟨(m2 + 1), by rw [hcnt, if_pos (decide_eq_true (by omega))]; omega, ⟨litSize, rfl, ⟨litGet (by kernel_rfl), ⟨litGet (by kernel_rfl), ⟨litGet (by kernel_rfl), ⟨litGet (by kernel_rfl), ⟨litGet (by kernel_rfl), ⟨litGet (by kernel_rfl), ⟨litGet (by kernel_rfl), ⟨litGet (by kernel_rfl), ⟨litGet (by kernel_rfl), ⟨litGet (by kernel_rfl), ⟨litGet (by kernel_rfl), trivial⟩⟩⟩⟩⟩⟩⟩⟩⟩⟩⟩⟩, hm110⟩
            · refine litVal (i := 14) (v := .bool false) rfl (wgY rfl rfl rfl (by decide) (by kernel_rfl)) (boolTo (decide_eq_false h120) (leqRun (A := (mEnc p)) (B := r.last) (.tmp 245) (.tmp 250) rfl (litEv (by kernel_rfl)) (litEv (by kernel_rfl)))) rfl (by decide) ?_
              refine litVal (i := 15) (v := .bool false) rfl (wn rfl) (litRun (by kernel_rfl)) rfl (by decide) ?_
              refine plDone (by decide) ?_
              refine then_normal (hK118 _ _ ?_)
              refine wp_cond_false (litEv (by kernel_rfl)) ?_
              refine wp_skip ?_
              refine then_normal ?_
              exact ⟨m2, by rw [hcnt, if_neg (fun h => absurd (of_decide_eq_true h) (by omega))]; omega, ⟨litSize, rfl, ⟨litGet (by kernel_rfl), ⟨litGet (by kernel_rfl), ⟨litGet (by kernel_rfl), ⟨litGet (by kernel_rfl), ⟨litGet (by kernel_rfl), ⟨litGet (by kernel_rfl), ⟨litGet (by kernel_rfl), ⟨litGet (by kernel_rfl), ⟨litGet (by kernel_rfl), ⟨litGet (by kernel_rfl), ⟨litGet (by kernel_rfl), trivial⟩⟩⟩⟩⟩⟩⟩⟩⟩⟩⟩⟩, hm110⟩
          · refine litVal (i := 6) (v := .bool false) rfl (wn rfl) (boolTo (decide_eq_false h119) (gGeq (A := (mEnc p)) (B := r.first) (.tmp 237) (.tmp 242) rfl (litEv (by kernel_rfl)) (litEv (by kernel_rfl)))) rfl (by decide) ?_
            refine litVal (i := 7) (v := .bool false) rfl (wn rfl) (litRun (by kernel_rfl)) rfl (by decide) ?_
            refine plSkip (i := 8) rfl (wgN rfl rfl rfl (by decide) (by kernel_rfl)) ?_
            refine qPut rfl (by decide) ?_
            refine plSkip (i := 9) rfl (wgN rfl rfl rfl (by decide) (by kernel_rfl)) ?_
            refine qPut rfl (by decide) ?_
            refine plSkip (i := 10) rfl (wgN rfl rfl rfl (by decide) (by kernel_rfl)) ?_
            refine qPut rfl (by decide) ?_
            refine plSkip (i := 11) rfl (wgN rfl rfl rfl (by decide) (by kernel_rfl)) ?_
            refine qPut rfl (by decide) ?_
            refine plSkip (i := 12) rfl (wgN rfl rfl rfl (by decide) (by kernel_rfl)) ?_
            refine qPut rfl (by decide) ?_
            refine plSkip (i := 13) rfl (wgN rfl rfl rfl (by decide) (by kernel_rfl)) ?_
            refine qPut rfl (by decide) ?_
            refine plSkip (i := 14) rfl (wgN rfl rfl rfl (by decide) (by kernel_rfl)) ?_
            refine qPut rfl (by decide) ?_
            refine litVal (i := 15) (v := .bool false) rfl (wn rfl) (litRun (by kernel_rfl)) rfl (by decide) ?_
            refine plDone (by decide) ?_
            refine then_normal (hK118 _ _ ?_)
            refine wp_cond_false (litEv (by kernel_rfl)) ?_
            refine wp_skip ?_
            refine then_normal ?_
            exact ⟨m2, by rw [hcnt, if_neg (fun h => absurd (of_decide_eq_true h) (by omega))]; omega, ⟨litSize, rfl, ⟨litGet (by kernel_rfl), ⟨litGet (by kernel_rfl), ⟨litGet (by kernel_rfl), ⟨litGet (by kernel_rfl), ⟨litGet (by kernel_rfl), ⟨litGet (by kernel_rfl), ⟨litGet (by kernel_rfl), ⟨litGet (by kernel_rfl), ⟨litGet (by kernel_rfl), ⟨litGet (by kernel_rfl), ⟨litGet (by kernel_rfl), trivial⟩⟩⟩⟩⟩⟩⟩⟩⟩⟩⟩⟩, hm110⟩
        · clear hm110
          intro a123 w121 hI_
          obtain ⟨m3, hm3, hF_, hm122⟩ := hI_
          obtain ⟨X124, rfl⟩ := frLit hF_
          clear hF_
          refine wp_seq_k fun K125 hK125 => ?_
          refine mgStart hm122 (by kernel_rfl) ?_
          intro w127 hm126
          clear hm122
          refine mgTake (i := 0) (v := .slice (some ⟨b116, 0, none⟩) RR.length c38) rfl (by kernel_rfl) (wn rfl) (fun _ _ _ h => h) hm126 (fun w_ h_ => litRun (by kernel_rfl)) ?_
          refine mPut rfl (by decide) ?_
          refine mgTake (i := 1) (v := .int .i64 (j : Int)) rfl (by kernel_rfl) (wn rfl) (fun _ _ _ h => h) hm126 (fun w_ h_ => litRun (by kernel_rfl)) ?_
          refine mPut rfl (by decide) ?_
          refine mgTake (i := 2) (v := .pointer (some ⟨b116, 0 + j * 2, none⟩)) rfl (by kernel_rfl) (wn rfl) (fun _ _ _ h => h) hm126 (fun w_ h_ => gIaSl (b := b116) (off := 0) (n := RR.length) (c := c38) (kk := .i64) (K := (j : Int)) (.tmp 255) (.tmp 256) j Ty.sl_api_Run rfl (litEv (by kernel_rfl)) (litEv (by kernel_rfl)) (rfl) (show j < RR.length by omega)) ?_
          refine mPut rfl (by decide) ?_
          refine mgTake (i := 3) (v := .pointer (some ⟨b116, 0 + j * 2, none⟩)) rfl (by kernel_rfl) (wn rfl) (fun _ _ _ h => h) hm126 (fun w_ h_ => litRun (by kernel_rfl)) ?_
          refine mPut rfl (by decide) ?_
          refine mgTake (i := 4) (v := .int .i64 r.first) rfl (by kernel_rfl) (wn rfl) (fun _ _ _ h => h) hm126 (fun w_ h_ => gLoadRd (v := .int .i64 r.first) (m := j * 2) (h_.rdRow 3 rfl) rfl (rus_at RR j r hr 0 _ rfl) (by omega) (.tmp 258) (by kernel_rfl) rfl (litEv (by kernel_rfl))) ?_
          refine mPut rfl (by decide) ?_
          refine mgTake (i := 5) (v := .slice (some ⟨b116, 0, none⟩) RR.length c38) rfl (by kernel_rfl) (wn rfl) (fun _ _ _ h => h) hm126 (fun w_ h_ => litRun (by kernel_rfl)) ?_
          refine mPut rfl (by decide) ?_
          refine mgTake (i := 6) (v := .int .i64 (j : Int)) rfl (by kernel_rfl) (wn rfl) (fun _ _ _ h => h) hm126 (fun w_ h_ => litRun (by kernel_rfl)) ?_
          refine mPut rfl (by decide) ?_
          refine mgTake (i := 7) (v := .pointer (some ⟨b116, 0 + j * 2, none⟩)) rfl (by kernel_rfl) (wn rfl) (fun _ _ _ h => h) hm126 (fun w_ h_ => gIaSl (b := b116) (off := 0) (n := RR.length) (c := c38) (kk := .i64) (K := (j : Int)) (.tmp 260) (.tmp 261) j Ty.sl_api_Run rfl (litEv (by kernel_rfl)) (litEv (by kernel_rfl)) (rfl) (show j < RR.length by omega)) ?_
          refine mPut rfl (by decide) ?_
          refine mgTake (i := 8) (v := .pointer (some ⟨b116, 0 + j * 2 + 1, none⟩)) rfl (by kernel_rfl) (wn rfl) (fun _ _ _ h => h) hm126 (fun w_ h_ => litRun (by kernel_rfl)) ?_
          refine mPut rfl (by decide) ?_
          refine mgTake (i := 9) (v := .int .i64 r.last) rfl (by kernel_rfl) (wn rfl) (fun _ _ _ h => h) hm126 (fun w_ h_ => gLoadRd (v := .int .i64 r.last) (m := j * 2 + 1) (h_.rdRow 3 rfl) rfl (rus_at RR j r hr 1 _ rfl) (by omega) (.tmp 263) (by kernel_rfl) rfl (litEv (by kernel_rfl))) ?_
          refine mPut rfl (by decide) ?_
          refine mgTake (i := 10) (v := .bool false) rfl (by kernel_rfl) (wn rfl) (fun _ _ _ h => h) hm126 (fun w_ h_ => boolTo (decide_eq_false (by omega)) (gtrRun (A := r.first) (B := r.last) (.tmp 259) (.tmp 264) rfl (litEv (by kernel_rfl)) (litEv (by kernel_rfl)))) ?_
          refine mPut rfl (by decide) ?_
          refine mgTake (i := 11) (v := .bool false) rfl (by kernel_rfl) (wn rfl) (fun _ _ _ h => h) hm126 (fun w_ h_ => litRun (by kernel_rfl)) ?_
          refine mPut rfl (by decide) ?_
          refine mgTake (i := 12) (v := .int .i64 (j : Int)) rfl (by kernel_rfl) (wgY rfl rfl rfl (by decide) (by kernel_rfl)) (fun _ _ _ h => h) hm126 (fun w_ h_ => litRun (by kernel_rfl)) ?_
          refine mPut rfl (by decide) ?_
          by_cases h128 : 0 < (j : Int)
          · obtain ⟨jp, hjp⟩ : ∃ jp, j = jp + 1 := ⟨j - 1, by omega⟩
            obtain ⟨r1, hr1⟩ : ∃ r1, RR[jp]? = some r1 := ⟨RR[jp], List.getElem?_eq_getElem (by omega)⟩
            have hgap := gap_at hruns.gap hr1 (show RR[jp + 1]? = some r by rw [← hjp]; exact hr)
            have hr1e := hlast r1 (List.mem_of_getElem? hr1)
            have hr1f := hruns.each r1 (List.mem_of_getElem? hr1)
            refine mgTake (i := 13) (v := .bool true) rfl (by kernel_rfl) (wgY rfl rfl rfl (by decide) (by kernel_rfl)) (fun _ _ _ h => h) hm126 (fun w_ h_ => boolTo (decide_eq_true h128) (gtrRun (A := (j : Int)) (B := 0) (.tmp 267) (.const (.int .i64 0)) rfl (litEv (by kernel_rfl)) (litEv (by kernel_rfl)))) ?_
            refine mPut rfl (by decide) ?_
            refine mgTake (i := 14) (v := .bool true) rfl (by kernel_rfl) (wgY rfl rfl rfl (by decide) (by kernel_rfl)) (fun _ _ _ h => h) hm126 (fun w_ h_ => litRun (by kernel_rfl)) ?_
            refine mPut rfl (by decide) ?_
            refine mgTake (i := 15) (v := .slice (some ⟨b116, 0, none⟩) RR.length c38) rfl (by kernel_rfl) (wgY rfl rfl rfl (by decide) (by kernel_rfl)) (fun _ _ _ h => h) hm126 (fun w_ h_ => litRun (by kernel_rfl)) ?_
            refine mPut rfl (by decide) ?_
            refine mgTake (i := 16) (v := .int .i64 (j : Int)) rfl (by kernel_rfl) (wgY rfl rfl rfl (by decide) (by kernel_rfl)) (fun _ _ _ h => h) hm126 (fun w_ h_ => litRun (by kernel_rfl)) ?_
            refine mPut rfl (by decide) ?_
            refine mgTake (i := 17) (v := .int .i64 ((j : Int) - 1)) rfl (by kernel_rfl) (wgY rfl rfl rfl (by decide) (by kernel_rfl)) (fun _ _ _ h => h) hm126 (fun w_ h_ => subRun (A := (j : Int)) (B := 1) (C := (j : Int) - 1) (.tmp 271) (.const (.int .i64 1)) rfl (litEv (by kernel_rfl)) (litEv (by kernel_rfl)) rfl (by omega)) ?_
            refine mPut rfl (by decide) ?_
            refine mgTake (i := 18) (v := .pointer (some ⟨b116, 0 + jp * 2, none⟩)) rfl (by kernel_rfl) (wgY rfl rfl rfl (by decide) (by kernel_rfl)) (fun _ _ _ h => h) hm126 (fun w_ h_ => gIaSl (b := b116) (off := 0) (n := RR.length) (c := c38) (kk := .i64) (K := ((j : Int) - 1)) (.tmp 270) (.tmp 272) jp Ty.sl_api_Run rfl (litEv (by kernel_rfl)) (litEv (by kernel_rfl)) (by omega) (show jp < RR.length by omega)) ?_
            refine mPut rfl (by decide) ?_
            refine mgTake (i := 19) (v := .pointer (some ⟨b116, 0 + jp * 2 + 1, none⟩)) rfl (by kernel_rfl) (wgY rfl rfl rfl (by decide) (by kernel_rfl)) (fun _ _ _ h => h) hm126 (fun w_ h_ => litRun (by kernel_rfl)) ?_
            refine mPut rfl (by decide) ?_
            refine mgTake (i := 20) (v := .int .i64 r1.last) rfl (by kernel_rfl) (wgY rfl rfl rfl (by decide) (by kernel_rfl)) (fun _ _ _ h => h) hm126 (fun w_ h_ => gLoadRd (v := .int .i64 r1.last) (m := jp * 2 + 1) (h_.rdRow 3 rfl) rfl (rus_at RR jp r1 hr1 1 _ rfl) (by omega) (.tmp 274) (by kernel_rfl) rfl (litEv (by kernel_rfl))) ?_
            refine mPut rfl (by decide) ?_
            refine mgTake (i := 21) (v := .int .i64 (r1.last + 1)) rfl (by kernel_rfl) (wgY rfl rfl rfl (by decide) (by kernel_rfl)) (fun _ _ _ h => h) hm126 (fun w_ h_ => addRun (A := r1.last) (B := 1) (C := r1.last + 1) (.tmp 275) (.const (.int .i64 1)) rfl (litEv (by kernel_rfl)) (litEv (by kernel_rfl)) rfl (by omega)) ?_
            refine mPut rfl (by decide) ?_
            refine mgTake (i := 22) (v := .slice (some ⟨b116, 0, none⟩) RR.length c38) rfl (by kernel_rfl) (wgY rfl rfl rfl (by decide) (by kernel_rfl)) (fun _ _ _ h => h) hm126 (fun w_ h_ => litRun (by kernel_rfl)) ?_
            refine mPut rfl (by decide) ?_
            refine mgTake (i := 23) (v := .int .i64 (j : Int)) rfl (by kernel_rfl) (wgY rfl rfl rfl (by decide) (by kernel_rfl)) (fun _ _ _ h => h) hm126 (fun w_ h_ => litRun (by kernel_rfl)) ?_
            refine mPut rfl (by decide) ?_
            refine mgTake (i := 24) (v := .pointer (some ⟨b116, 0 + j * 2, none⟩)) rfl (by kernel_rfl) (wgY rfl rfl rfl (by decide) (by kernel_rfl)) (fun _ _ _ h => h) hm126 (fun w_ h_ => gIaSl (b := b116) (off := 0) (n := RR.length) (c := c38) (kk := .i64) (K := (j : Int)) (.tmp 277) (.tmp 278) j Ty.sl_api_Run rfl (litEv (by kernel_rfl)) (litEv (by kernel_rfl)) (rfl) (show j < RR.length by omega)) ?_
            refine mPut rfl (by decide) ?_
            refine mgTake (i := 25) (v := .pointer (some ⟨b116, 0 + j * 2, none⟩)) rfl (by kernel_rfl) (wgY rfl rfl rfl (by decide) (by kernel_rfl)) (fun _ _ _ h => h) hm126 (fun w_ h_ => litRun (by kernel_rfl)) ?_
            refine mPut rfl (by decide) ?_
            refine mgTake (i := 26) (v := .int .i64 r.first) rfl (by kernel_rfl) (wgY rfl rfl rfl (by decide) (by kernel_rfl)) (fun _ _ _ h => h) hm126 (fun w_ h_ => gLoadRd (v := .int .i64 r.first) (m := j * 2) (h_.rdRow 3 rfl) rfl (rus_at RR j r hr 0 _ rfl) (by omega) (.tmp 280) (by kernel_rfl) rfl (litEv (by kernel_rfl))) ?_
            refine mPut rfl (by decide) ?_
            refine mgTake (i := 27) (v := .bool false) rfl (by kernel_rfl) (wgY rfl rfl rfl (by decide) (by kernel_rfl)) (fun _ _ _ h => h) hm126 (fun w_ h_ => boolTo (decide_eq_false (by omega)) (gGeq (A := (r1.last + 1)) (B := r.first) (.tmp 276) (.tmp 281) rfl (litEv (by kernel_rfl)) (litEv (by kernel_rfl)))) ?_
            refine mPut rfl (by decide) ?_
            refine mgTake (i := 28) (v := .bool false) rfl (by kernel_rfl) (wgY rfl rfl rfl (by decide) (by kernel_rfl)) (fun _ _ _ h => h) hm126 (fun w_ h_ => litRun (by kernel_rfl)) ?_
            refine mPut rfl (by decide) ?_
            refine mgTake (i := 29) (v := .bool false) rfl (by kernel_rfl) (wn rfl) (fun _ _ _ h => h) hm126 (fun w_ h_ => litRun (by kernel_rfl)) ?_
            refine mPut rfl (by decide) ?_
            refine mgDone (by kernel_rfl) ?_
            refine then_normal (hK125 _ _ ?_)
            refine wp_cond_false (litEv (by kernel_rfl)) ?_
            refine wp_skip ?_
            refine inBlock_normal ?_
            refine then_normal (hK117 _ _ ?_)
            refine plStart ?_
            refine litVal (i := 0) (v := .int .i64 (j : Int)) rfl (wn rfl) (litRun (by kernel_rfl)) rfl (by decide) ?_
            refine litVal (i := 1) (v := .int .i64 ((j : Int) + 1)) rfl (wn rfl) (addRun (A := (j : Int)) (B := 1) (C := (j : Int) + 1) (.tmp 235) (.const (.int .i64 1)) rfl (litEv (by kernel_rfl)) (litEv (by kernel_rfl)) rfl (by omega)) rfl (by decide) ?_
            refine litVal (i := 2) (v := .int .i64 ((j : Int) + 1)) rfl (wn rfl) (litRun (by kernel_rfl)) rfl (by decide) ?_
            refine plDone (by decide) ?_
            refine then_normal ?_
            exact ⟨_, by omega, (j + 1), m3, rfl, by omega, hm3, ⟨litSize, rfl, ⟨litGet (by kernel_rfl), ⟨litGet (by kernel_rfl), ⟨litGet (by kernel_rfl), ⟨litGet (by kernel_rfl), ⟨litGet (by kernel_rfl), ⟨litGet (by kernel_rfl), ⟨litGet (by kernel_rfl), trivial⟩⟩⟩⟩⟩⟩⟩⟩, hm126⟩
          · refine mgTake (i := 13) (v := .bool false) rfl (by kernel_rfl) (wgY rfl rfl rfl (by decide) (by kernel_rfl)) (fun _ _ _ h => h) hm126 (fun w_ h_ => boolTo (decide_eq_false h128) (gtrRun (A := (j : Int)) (B := 0) (.tmp 267) (.const (.int .i64 0)) rfl (litEv (by kernel_rfl)) (litEv (by kernel_rfl)))) ?_
            refine mPut rfl (by decide) ?_
            refine mgTake (i := 14) (v := .bool false) rfl (by kernel_rfl) (wgY rfl rfl rfl (by decide) (by kernel_rfl)) (fun _ _ _ h => h) hm126 (fun w_ h_ => litRun (by kernel_rfl)) ?_
            refine mPut rfl (by decide) ?_
            refine mgSkip (i := 15) rfl (by kernel_rfl) (wgN rfl rfl rfl (by decide) (by kernel_rfl)) (fun _ _ _ h => h) hm126 ?_
            refine mPut rfl (by decide) ?_
            refine mgSkip (i := 16) rfl (by kernel_rfl) (wgN rfl rfl rfl (by decide) (by kernel_rfl)) (fun _ _ _ h => h) hm126 ?_
            refine mPut rfl (by decide) ?_
            refine mgSkip (i := 17) rfl (by kernel_rfl) (wgN rfl rfl rfl (by decide) (by kernel_rfl)) (fun _ _ _ h => h) hm126 ?_
            refine mPut rfl (by decide) ?_
            refine mgSkip (i := 18) rfl (by kernel_rfl) (wgN rfl rfl rfl (by decide) (by kernel_rfl)) (fun _ _ _ h => h) hm126 ?_
            refine mPut rfl (by decide) ?_
            refine mgSkip (i := 19) rfl (by kernel_rfl) (wgN rfl rfl rfl (by decide) (by kernel_rfl)) (fun _ _ _ h => h) hm126 ?_
            refine mPut rfl (by decide) ?_
            refine mgSkip (i := 20) rfl (by kernel_rfl) (wgN rfl rfl rfl (by decide) (by kernel_rfl)) (fun _ _ _ h => h) hm126 ?_
            refine mPut rfl (by decide) ?_
            refine mgSkip (i := 21) rfl (by kernel_rfl) (wgN rfl rfl rfl (by decide) (by kernel_rfl)) (fun _ _ _ h => h) hm126 ?_
            refine mPut rfl (by decide) ?_
            refine mgSkip (i := 22) rfl (by kernel_rfl) (wgN rfl rfl rfl (by decide) (by kernel_rfl)) (fun _ _ _ h => h) hm126 ?_
            refine mPut rfl (by decide) ?_
            refine mgSkip (i := 23) rfl (by kernel_rfl) (wgN rfl rfl rfl (by decide) (by kernel_rfl)) (fun _ _ _ h => h) hm126 ?_
            refine mPut rfl (by decide) ?_
            refine mgSkip (i := 24) rfl (by kernel_rfl) (wgN rfl rfl rfl (by decide) (by kernel_rfl)) (fun _ _ _ h => h) hm126 ?_
            refine mPut rfl (by decide) ?_
            refine mgSkip (i := 25) rfl (by kernel_rfl) (wgN rfl rfl rfl (by decide) (by kernel_rfl)) (fun _ _ _ h => h) hm126 ?_
            refine mPut rfl (by decide) ?_
            refine mgSkip (i := 26) rfl (by kernel_rfl) (wgN rfl rfl rfl (by decide) (by kernel_rfl)) (fun _ _ _ h => h) hm126 ?_
            refine mPut rfl (by decide) ?_
            refine mgSkip (i := 27) rfl (by kernel_rfl) (wgN rfl rfl rfl (by decide) (by kernel_rfl)) (fun _ _ _ h => h) hm126 ?_
            refine mPut rfl (by decide) ?_
            refine mgTake (i := 28) (v := .bool false) rfl (by kernel_rfl) (wgY rfl rfl rfl (by decide) (by kernel_rfl)) (fun _ _ _ h => h) hm126 (fun w_ h_ => litRun (by kernel_rfl)) ?_
            refine mPut rfl (by decide) ?_
            refine mgTake (i := 29) (v := .bool false) rfl (by kernel_rfl) (wn rfl) (fun _ _ _ h => h) hm126 (fun w_ h_ => litRun (by kernel_rfl)) ?_
            refine mPut rfl (by decide) ?_
            refine mgDone (by kernel_rfl) ?_
            refine then_normal (hK125 _ _ ?_)
            refine wpPrune [(2, .pointer (some ⟨g2, 0, none⟩)), (3, .pointer (some ⟨g5, 0, none⟩)), (8, .slice (some ⟨b116, 0, none⟩) RR.length c38), (10, .int .i64 (n : Int)), (14, .int .i64 (m3 : Int)), (15, .int .i64 (mEnc p)), (16, .int .i64 (j : Int)), (231, .int .i64 (j : Int)), (232, .slice (some ⟨b116, 0, none⟩) RR.length c38), (233, .int .i64 (RR.length : Int)), (234, .bool true), (255, .slice (some ⟨b116, 0, none⟩) RR.length c38), (256, .int .i64 (j : Int)), (257, .pointer (some ⟨b116, 0 + j * 2, none⟩)), (258, .pointer (some ⟨b116, 0 + j * 2, none⟩)), (259, .int .i64 r.first), (260, .slice (some ⟨b116, 0, none⟩) RR.length c38), (261, .int .i64 (j : Int)), (262, .pointer (some ⟨b116, 0 + j * 2, none⟩)), (263, .pointer (some ⟨b116, 0 + j * 2 + 1, none⟩)), (264, .int .i64 r.last), (265, .bool false), (266, .bool false), (267, .int .i64 (j : Int)), (268, .bool false), (269, .bool false), (283, .bool false), (284, .bool false)] ⟨litGet (by kernel_rfl), ⟨litGet (by kernel_rfl), ⟨litGet (by kernel_rfl), ⟨litGet (by kernel_rfl), ⟨litGet (by kernel_rfl), ⟨litGet (by kernel_rfl), ⟨litGet (by kernel_rfl), ⟨litGet (by kernel_rfl), ⟨litGet (by kernel_rfl), ⟨litGet (by kernel_rfl), ⟨litGet (by kernel_rfl), ⟨litGet (by kernel_rfl), ⟨litGet (by kernel_rfl), ⟨litGet (by kernel_rfl), ⟨litGet (by kernel_rfl), ⟨litGet (by kernel_rfl), ⟨litGet (by kernel_rfl), ⟨litGet (by kernel_rfl), ⟨litGet (by kernel_rfl), ⟨litGet (by kernel_rfl), ⟨litGet (by kernel_rfl), ⟨litGet (by kernel_rfl), ⟨litGet (by kernel_rfl), ⟨litGet (by kernel_rfl), ⟨litGet (by kernel_rfl), ⟨litGet (by kernel_rfl), ⟨litGet (by kernel_rfl), ⟨litGet (by kernel_rfl), trivial⟩⟩⟩⟩⟩⟩⟩⟩⟩⟩⟩⟩⟩⟩⟩⟩⟩⟩⟩⟩⟩⟩⟩⟩⟩⟩⟩⟩ (fun X129 => ?_)
            refine wp_cond_false (litEv (by kernel_rfl)) ?_
            refine wp_skip ?_
            refine inBlock_normal ?_
            refine then_normal (hK117 _ _ ?_)
            refine plStart ?_
            refine litVal (i := 0) (v := .int .i64 (j : Int)) rfl (wn rfl) (litRun (by kernel_rfl)) rfl (by decide) ?_
            refine litVal (i := 1) (v := .int .i64 ((j : Int) + 1)) rfl (wn rfl) (addRun (A := (j : Int)) (B := 1) (C := (j : Int) + 1) (.tmp 235) (.const (.int .i64 1)) rfl (litEv (by kernel_rfl)) (litEv (by kernel_rfl)) rfl (by omega)) rfl (by decide) ?_
            refine litVal (i := 2) (v := .int .i64 ((j : Int) + 1)) rfl (wn rfl) (litRun (by kernel_rfl)) rfl (by decide) ?_
            refine plDone (by decide) ?_
            refine then_normal ?_
            exact ⟨_, by omega, (j + 1), m3, rfl, by omega, hm3, ⟨litSize, rfl, ⟨litGet (by kernel_rfl), ⟨litGet (by kernel_rfl), ⟨litGet (by kernel_rfl), ⟨litGet (by kernel_rfl), ⟨litGet (by kernel_rfl), ⟨litGet (by kernel_rfl), ⟨litGet (by kernel_rfl), trivial⟩⟩⟩⟩⟩⟩⟩⟩, hm126⟩
      · have hm2 : m2 = RR.countP (fun r => decide (r.first ≤ mEnc p ∧ mEnc p ≤ r.last)) := by rw [hm2_, List.take_of_length_le (by omega)]
        rw [hrc] at hm2
        refine litVal (i := 3) (v := .bool false) rfl (wn rfl) (boolTo (decide_eq_false h115) (lssRun (A := (j : Int)) (B := (RR.length : Int)) (.tmp 231) (.tmp 233) rfl (litEv (by kernel_rfl)) (litEv (by kernel_rfl)))) rfl (by decide) ?_
        refine plDone (by decide) ?_
        refine then_normal (hK114 _ _ ?_)
        refine wp_cond_false (litEv (by kernel_rfl)) ?_
        refine wp_exit ?_
        refine then_exit ?_
        refine then_exit ?_
        refine inBlock_exit ?_
        refine then_normal (hK107 _ _ ?_)
        refine wp_seq_k fun K130 hK130 => ?_
        refine plStart ?_
        refine litVal (i := 0) (v := .int .i64 0) rfl (wn rfl) (litRun (by kernel_rfl)) rfl (by decide) ?_
        refine plDone (by decide) ?_
        refine then_normal (hK130 _ _ ?_)
        refine wp_seq_k fun K131 hK131 => ?_
        refine plStart ?_
        refine litVal (i := 0) (v := .agg (bxs b).toArray) rfl (wn rfl) (gLoadAg (vs := bxs b) (k := 0) 0 hm110 rfl (by kernel_rfl) (by kernel_rfl) (.tmp 2) Ty.ag_voxel_api_Box rfl (litEv (by kernel_rfl))) rfl (by decide) ?_
        refine litVal (i := 1) (v := .agg (pcs p).toArray) rfl (wn rfl) (gLoadAg (vs := pcs p) (k := 0) 1 hm110 rfl (by kernel_rfl) (by kernel_rfl) (.tmp 3) Ty.ag_voxel_api_Point rfl (litEv (by kernel_rfl))) rfl (by decide) ?_
        refine plCall (i := 2) 33 [.agg (bxs b).toArray, .agg (pcs p).toArray] [] [] rfl (by kernel_rfl) (wn rfl) rfl (litEv rfl) (litArgs (by kernel_rfl)) (refCell_any b p _) ?_
        rintro e w132 ⟨rfl, hbz⟩
        have hm133 := hm110.below hbz
        clear hbz hm110
        refine ⟨_, rfl, ?_⟩
        refine qPut rfl (by decide) ?_
        rcases bool_or (decide (p.In ∧ b.has p)) with h134 | h134
        · rw [h134]
          refine litVal (i := 3) (v := .bool false) rfl (wn rfl) (litRun (by kernel_rfl)) rfl (by decide) ?_
          refine plDone (by decide) ?_
          refine then_normal (hK131 _ _ ?_)
          refine wp_seq_k fun K135 hK135 => ?_
          refine wp_seq_k fun K136 hK136 => ?_
          refine plStart ?_
          refine litVal (i := 0) (v := .bool false) rfl (wn rfl) (litRun (by kernel_rfl)) rfl (by decide) ?_
          refine plDone (by decide) ?_
          refine then_normal (hK136 _ _ ?_)
          refine wpPrune [(10, .int .i64 (n : Int)), (14, .int .i64 (m2 : Int)), (17, .int .i64 0), (288, .bool false)] ⟨litGet (by kernel_rfl), ⟨litGet (by kernel_rfl), ⟨litGet (by kernel_rfl), ⟨litGet (by kernel_rfl), trivial⟩⟩⟩⟩ (fun X137 => ?_)
          refine wp_cond_false (litEv (by kernel_rfl)) ?_
          refine wp_skip ?_
          refine then_normal (hK135 _ _ ?_)
          refine wp_seq_k fun K138 hK138 => ?_
          refine plStart ?_
          refine plCall (i := 0) 21 [] [] [] rfl (by kernel_rfl) (wn rfl) rfl (litEv rfl) (litArgs (by kernel_rfl)) (sanity_any _) ?_
          rintro e w139 ⟨rfl, hbz⟩
          have hm140 := hm133.below hbz
          clear hbz hm133
          refine ⟨_, rfl, ?_⟩
          refine qPut rfl (by decide) ?_
          refine litVal (i := 1) (v := .bool true) rfl (wn rfl) (litRun (by kernel_rfl)) rfl (by decide) ?_
          refine litVal (i := 2) (v := .int .i64 (n : Int)) rfl (wgY rfl rfl rfl (by decide) (by kernel_rfl)) (litRun (by kernel_rfl)) rfl (by decide) ?_
          refine litVal (i := 3) (v := .int .i64 0) rfl (wgY rfl rfl rfl (by decide) (by kernel_rfl)) (litRun (by kernel_rfl)) rfl (by decide) ?_
          refine litVal (i := 4) (v := .bool true) rfl (wgY rfl rfl rfl (by decide) (by kernel_rfl)) (boolTo (decide_eq_true (by rw [hn2, if_neg (of_decide_eq_false h134)]; rfl)) (eqlRun (A := (n : Int)) (B := 0) (.tmp 291) (.tmp 292) rfl (litEv (by kernel_rfl)) (litEv (by kernel_rfl)))) rfl (by decide) ?_
          refine litVal (i := 5) (v := .bool true) rfl (wn rfl) (litRun (by kernel_rfl)) rfl (by decide) ?_
          refine litVal (i := 6) (v := .bool true) rfl (wn rfl) (litRun (by kernel_rfl)) rfl (by decide) ?_
          refine litVal (i := 7) (v := .int .i64 (m2 : Int)) rfl (wgY rfl rfl rfl (by decide) (by kernel_rfl)) (litRun (by kernel_rfl)) rfl (by decide) ?_
          refine litVal (i := 8) (v := .int .i64 0) rfl (wgY rfl rfl rfl (by decide) (by kernel_rfl)) (litRun (by kernel_rfl)) rfl (by decide) ?_
          refine litVal (i := 9) (v := .bool true) rfl (wgY rfl rfl rfl (by decide) (by kernel_rfl)) (boolTo (decide_eq_true (by rw [hm2, if_neg (of_decide_eq_false h134)]; rfl)) (eqlRun (A := (m2 : Int)) (B := 0) (.tmp 296) (.tmp 297) rfl (litEv (by kernel_rfl)) (litEv (by kernel_rfl)))) rfl (by decide) ?_
          refine litVal (i := 10) (v := .bool true) rfl (wn rfl) (litRun (by kernel_rfl)) rfl (by decide) ?_
          refine litVal (i := 11) (v := .bool true) rfl (wn rfl) (litRun (by kernel_rfl)) rfl (by decide) ?_
          refine plDone (by decide) ?_
          refine then_normal (hK138 _ _ ?_)
          refine wpPrune [(4, .bool true)] ⟨litGet (by kernel_rfl), trivial⟩ (fun X141 => ?_)
          refine wp_ret ?_
          refine bodyPost_ret (v := .bool true) (gRes1 rfl (gResTmp (t := 4) (v := .bool true) (litGet (by kernel_rfl)))) rfl ?_
          exact ⟨by first | rfl | simp_all, hm140.bel⟩
        · rw [h134]
          refine litVal (i := 3) (v := .bool true) rfl (wn rfl) (litRun (by kernel_rfl)) rfl (by decide) ?_
          refine plDone (by decide) ?_
          refine then_normal (hK131 _ _ ?_)
          refine wp_seq_k fun K142 hK142 => ?_
          refine wp_seq_k fun K143 hK143 => ?_
          refine plStart ?_
          refine litVal (i := 0) (v := .bool true) rfl (wn rfl) (litRun (by kernel_rfl)) rfl (by decide) ?_
          refine plDone (by decide) ?_
          refine then_normal (hK143 _ _ ?_)
          refine wpPrune [(10, .int .i64 (n : Int)), (14, .int .i64 (m2 : Int)), (17, .int .i64 0), (288, .bool true)] ⟨litGet (by kernel_rfl), ⟨litGet (by kernel_rfl), ⟨litGet (by kernel_rfl), ⟨litGet (by kernel_rfl), trivial⟩⟩⟩⟩ (fun X144 => ?_)
          refine wp_cond_true (litEv (by kernel_rfl)) ?_
          refine plStart ?_
          refine litVal (i := 0) (v := .int .i64 1) rfl (wn rfl) (litRun (by kernel_rfl)) rfl (by decide) ?_
          refine plDone (by decide) ?_
          refine then_normal (hK142 _ _ ?_)
          refine wp_seq_k fun K145 hK145 => ?_
          refine plStart ?_
          refine plCall (i := 0) 21 [] [] [] rfl (by kernel_rfl) (wn rfl) rfl (litEv rfl) (litArgs (by kernel_rfl)) (sanity_any _) ?_
          rintro e w146 ⟨rfl, hbz⟩
          have hm147 := hm133.below hbz
          clear hbz hm133
          refine ⟨_, rfl, ?_⟩
          refine qPut rfl (by decide) ?_
          refine litVal (i := 1) (v := .bool true) rfl (wn rfl) (litRun (by kernel_rfl)) rfl (by decide) ?_
          refine litVal (i := 2) (v := .int .i64 (n : Int)) rfl (wgY rfl rfl rfl (by decide) (by kernel_rfl)) (litRun (by kernel_rfl)) rfl (by decide) ?_
          refine litVal (i := 3) (v := .int .i64 1) rfl (wgY rfl rfl rfl (by decide) (by kernel_rfl)) (litRun (by kernel_rfl)) rfl (by decide) ?_
          refine litVal (i := 4) (v := .bool true) rfl (wgY rfl rfl rfl (by decide) (by kernel_rfl)) (boolTo (decide_eq_true (by rw [hn2, if_pos (of_decide_eq_true h134)]; rfl)) (eqlRun (A := (n : Int)) (B := 1) (.tmp 291) (.tmp 292) rfl (litEv (by kernel_rfl)) (litEv (by kernel_rfl)))) rfl (by decide) ?_
          refine litVal (i := 5) (v := .bool true) rfl (wn rfl) (litRun (by kernel_rfl)) rfl (by decide) ?_
          refine litVal (i := 6) (v := .bool true) rfl (wn rfl) (litRun (by kernel_rfl)) rfl (by decide) ?_
          refine litVal (i := 7) (v := .int .i64 (m2 : Int)) rfl (wgY rfl rfl rfl (by decide) (by kernel_rfl)) (litRun (by kernel_rfl)) rfl (by decide) ?_
          refine litVal (i := 8) (v := .int .i64 1) rfl (wgY rfl rfl rfl (by decide) (by kernel_rfl)) (litRun (by kernel_rfl)) rfl (by decide) ?_
          refine litVal (i := 9) (v := .bool true) rfl (wgY rfl rfl rfl (by decide) (by kernel_rfl)) (boolTo (decide_eq_true (by rw [hm2, if_pos (of_decide_eq_true h134)]; rfl)) (eqlRun (A := (m2 : Int)) (B := 1) (.tmp 296) (.tmp 297) rfl (litEv (by kernel_rfl)) (litEv (by kernel_rfl)))) rfl (by decide) ?_
          refine litVal (i := 10) (v := .bool true) rfl (wn rfl) (litRun (by kernel_rfl)) rfl (by decide) ?_
          refine litVal (i := 11) (v := .bool true) rfl (wn rfl) (litRun (by kernel_rfl)) rfl (by decide) ?_
          refine plDone (by decide) ?_
          refine then_normal (hK145 _ _ ?_)
          refine wpPrune [(4, .bool true)] ⟨litGet (by kernel_rfl), trivial⟩ (fun X148 => ?_)
          refine wp_ret ?_
          refine bodyPost_ret (v := .bool true) (gRes1 rfl (gResTmp (t := 4) (v := .bool true) (litGet (by kernel_rfl)))) rfl ?_
          exact ⟨by first | rfl | simp_all, hm147.bel⟩
set_option maxRecDepth 100000 in
set_option maxHeartbeats 4000000 in
theorem tile_no (b : Bx) (p : Pt) (LL : List Cube) (RR : List Run) (hC : mCubes b = (LL, 2)) (hR : mRuns b = (RR, 2)) (w : World) : Calls Try.prog 6 #[.agg (bxs b).toArray, .agg (pcs p).toArray] w (RetB w true) := by
  have hm0 := Mem.nil w
  go_enter Try.func6, Try.ntmps6
  refine litStart 300 [(0, .agg (bxs b).toArray), (1, .agg (pcs p).toArray)] (by kernel_rfl) (fun X0 => ?_)
  refine wp_seq_k fun K1 hK1 => ?_
  refine plStart ?_
  refine plBox hm0 (cs := bxs b) (i := 0) rfl (wn rfl) rfl (litEv (by kernel_rfl)) ?_
  intro g2 w4 hm3
  clear hm0
  simp only [List.cons_append, List.nil_append, List.set_cons_succ, List.set_cons_zero] at hm3
  refine qPut rfl (by decide) ?_
  refine plBox hm3 (cs := pcs p) (i := 1) rfl (wn rfl) rfl (litEv (by kernel_rfl)) ?_
  intro g5 w7 hm6
  clear hm3
  simp only [List.cons_append, List.nil_append, List.set_cons_succ, List.set_cons_zero] at hm6
  refine qPut rfl (by decide) ?_
  refine litVal (i := 2) (v := .bool false) rfl (wn rfl) (litRun (by kernel_rfl)) rfl (by decide) ?_
  refine plDone (by decide) ?_
  refine then_normal (hK1 _ _ ?_)
  refine wp_seq_k fun K8 hK8 => ?_
  refine plStart ?_
  refine litVal (i := 0) (v := .agg (bxs b).toArray) rfl (wn rfl) (gLoadAg (vs := bxs b) (k := 0) 0 hm6 rfl (by kernel_rfl) (by kernel_rfl) (.tmp 2) Ty.ag_voxel_api_Box rfl (litEv (by kernel_rfl))) rfl (by decide) ?_
  refine plCall (i := 1) 31 [.agg (bxs b).toArray] [] [] rfl (by kernel_rfl) (wn rfl) rfl (litEv rfl) (litArgs (by kernel_rfl)) (small_any b _) ?_
  rintro e w9 ⟨rfl, hbz⟩
  have hm10 := hm6.below hbz
  clear hbz hm6
  refine ⟨_, rfl, ?_⟩
  refine qPut rfl (by decide) ?_
  rcases bool_or (decide b.small) with h11 | h11
  · rw [h11]
    refine litVal (i := 2) (v := .bool false) rfl (wn rfl) (litRun (by kernel_rfl)) rfl (by decide) ?_
    refine plDone (by decide) ?_
    refine then_normal (hK8 _ _ ?_)
    refine wp_seq_k fun K12 hK12 => ?_
    refine plStart ?_
    refine litVal (i := 0) (v := .agg (bxs b).toArray) rfl (wn rfl) (gLoadAg (vs := bxs b) (k := 0) 0 hm10 rfl (by kernel_rfl) (by kernel_rfl) (.tmp 2) Ty.ag_voxel_api_Box rfl (litEv (by kernel_rfl))) rfl (by decide) ?_
    refine plCall (i := 1) 22 [.agg (bxs b).toArray] [] [] rfl (by kernel_rfl) (wn rfl) rfl (litEv rfl) (litArgs (by kernel_rfl)) (by have h := cubes_any b w9; rw [hC] at h; exact h) ?_
    rintro e w13 ⟨v, rfl, hown, hbz⟩
    obtain ⟨A15, c16, rfl, hrd⟩ := Rd.of_own hown
    clear hrd
    have hm14 := hm10.newRow hbz hown
    clear hown hbz hm10
    simp only [List.cons_append, List.nil_append, List.set_cons_succ, List.set_cons_zero] at hm14
    refine ⟨_, rfl, ?_⟩
    refine qPut rfl (by decide) ?_
    refine litVal (i := 2) (v := .tuple #[.slice A15 LL.length c16, .int .i64 2]) rfl (wn rfl) (litRun (by kernel_rfl)) rfl (by decide) ?_
    refine litVal (i := 3) (v := .slice A15 LL.length c16) rfl (wn rfl) (litRun (by kernel_rfl)) rfl (by decide) ?_
    refine litVal (i := 4) (v := .int .i64 2) rfl (wn rfl) (litRun (by kernel_rfl)) rfl (by decide) ?_
    refine litVal (i := 5) (v := .slice A15 LL.length c16) rfl (wn rfl) (litRun (by kernel_rfl)) rfl (by decide) ?_
    refine litVal (i := 6) (v := .int .i64 2) rfl (wn rfl) (litRun (by kernel_rfl)) rfl (by decide) ?_
    refine plDone (by decide) ?_
    refine then_normal (hK12 _ _ ?_)
    refine wp_seq_k fun K17 hK17 => ?_
    refine plStart ?_
    refine litVal (i := 0) (v := .agg (bxs b).toArray) rfl (wn rfl) (gLoadAg (vs := bxs b) (k := 0) 0 hm14 rfl (by kernel_rfl) (by kernel_rfl) (.tmp 2) Ty.ag_voxel_api_Box rfl (litEv (by kernel_rfl))) rfl (by decide) ?_
    refine plCall (i := 1) 24 [.agg (bxs b).toArray] [] [] rfl (by kernel_rfl) (wn rfl) rfl (litEv rfl) (litArgs (by kernel_rfl)) (by have h := runs_any b w13; rw [hR] at h; exact h) ?_
    rintro e w18 ⟨v, rfl, hown, hbz⟩
    obtain ⟨A20, c21, rfl, hrd⟩ := Rd.of_own hown
    clear hrd
    have hm19 := hm14.newRow hbz hown
    clear hown hbz hm14
    simp only [List.cons_append, List.nil_append, List.set_cons_succ, List.set_cons_zero] at hm19
    refine ⟨_, rfl, ?_⟩
    refine qPut rfl (by decide) ?_
    refine litVal (i := 2) (v := .tuple #[.slice A20 RR.length c21, .int .i64 2]) rfl (wn rfl) (litRun (by kernel_rfl)) rfl (by decide) ?_
    refine litVal (i := 3) (v := .slice A20 RR.length c21) rfl (wn rfl) (litRun (by kernel_rfl)) rfl (by decide) ?_
    refine litVal (i := 4) (v := .int .i64 2) rfl (wn rfl) (litRun (by kernel_rfl)) rfl (by decide) ?_
    refine litVal (i := 5) (v := .slice A20 RR.length c21) rfl (wn rfl) (litRun (by kernel_rfl)) rfl (by decide) ?_
    refine litVal (i := 6) (v := .int .i64 2) rfl (wn rfl) (litRun (by kernel_rfl)) rfl (by decide) ?_
    refine plDone (by decide) ?_
    refine then_normal (hK17 _ _ ?_)
    refine wpPrune [(2, .pointer (some ⟨g2, 0, none⟩)), (3, .pointer (some ⟨g5, 0, none⟩)), (4, .bool false), (5, .bool false), (6, .slice A15 LL.length c16), (7, .int .i64 2), (8, .slice A20 RR.length c21), (9, .int .i64 2)] ⟨litGet (by kernel_rfl), ⟨litGet (by kernel_rfl), ⟨litGet (by kernel_rfl), ⟨litGet (by kernel_rfl), ⟨litGet (by kernel_rfl), ⟨litGet (by kernel_rfl), ⟨litGet (by kernel_rfl), ⟨litGet (by kernel_rfl), trivial⟩⟩⟩⟩⟩⟩⟩⟩ (fun X22 => ?_)
    refine wp_seq_k fun K23 hK23 => ?_
    refine wp_seq_k fun K24 hK24 => ?_
    refine plStart ?_
    refine litVal (i := 0) (v := .bool false) rfl (wn rfl) (litRun (by kernel_rfl)) rfl (by decide) ?_
    refine litVal (i := 1) (v := .bool true) rfl (wn rfl) (litRun (by kernel_rfl)) rfl (by decide) ?_
    refine litVal (i := 2) (v := .bool true) rfl (wn rfl) (litRun (by kernel_rfl)) rfl (by decide) ?_
    refine plSkip (i := 3) rfl (wgN rfl rfl rfl (by decide) (by kernel_rfl)) ?_
    refine qPut rfl (by decide) ?_
    refine plSkip (i := 4) rfl (wgN rfl rfl rfl (by decide) (by kernel_rfl)) ?_
    refine qPut rfl (by decide) ?_
    refine litVal (i := 5) (v := .bool true) rfl (wn rfl) (litRun (by kernel_rfl)) rfl (by decide) ?_
    refine litVal (i := 6) (v := .bool true) rfl (wn rfl) (litRun (by kernel_rfl)) rfl (by decide) ?_
    refine plSkip (i := 7) rfl (wgN rfl rfl rfl (by decide) (by kernel_rfl)) ?_
    refine qPut rfl (by decide) ?_
    refine plSkip (i := 8) rfl (wgN rfl rfl rfl (by decide) (by kernel_rfl)) ?_
    refine qPut rfl (by decide) ?_
    refine litVal (i := 9) (v := .bool true) rfl (wn rfl) (litRun (by kernel_rfl)) rfl (by decide) ?_
    refine plDone (by decide) ?_
    refine then_normal (hK24 _ _ ?_)
    refine wp_cond_true (litEv (by kernel_rfl)) ?_
    refine wp_seq_k fun K25 hK25 => ?_
    refine plStart ?_
    refine plCall (i := 0) 21 [] [] [] rfl (by kernel_rfl) (wn rfl) rfl (litEv rfl) (litArgs (by kernel_rfl)) (sanity_any _) ?_
    rintro e w26 ⟨rfl, hbz⟩
    have hm27 := hm19.below hbz
    clear hbz hm19
    refine ⟨_, rfl, ?_⟩
    refine qPut rfl (by decide) ?_
    refine litVal (i := 1) (v := .bool true) rfl (wn rfl) (litRun (by kernel_rfl)) rfl (by decide) ?_
    refine litVal (i := 2) (v := .bool false) rfl (wgY rfl rfl rfl (by decide) (by kernel_rfl)) (litRun (by kernel_rfl)) rfl (by decide) ?_
    refine litVal (i := 3) (v := .bool true) rfl (wgY rfl rfl rfl (by decide) (by kernel_rfl)) (litRun (by kernel_rfl)) rfl (by decide) ?_
    refine litVal (i := 4) (v := .bool true) rfl (wgY rfl rfl rfl (by decide) (by kernel_rfl)) (litRun (by kernel_rfl)) rfl (by decide) ?_
    refine plSkip (i := 5) rfl (wgN rfl rfl rfl (by decide) (by kernel_rfl)) ?_
    refine qPut rfl (by decide) ?_
    refine plSkip (i := 6) rfl (wgN rfl rfl rfl (by decide) (by kernel_rfl)) ?_
    refine qPut rfl (by decide) ?_
    refine plSkip (i := 7) rfl (wgN rfl rfl rfl (by decide) (by kernel_rfl)) ?_
    refine qPut rfl (by decide) ?_
    refine litVal (i := 8) (v := .bool true) rfl (wgY rfl rfl rfl (by decide) (by kernel_rfl)) (litRun (by kernel_rfl)) rfl (by decide) ?_
    refine litVal (i := 9) (v := .bool true) rfl (wn rfl) (litRun (by kernel_rfl)) rfl (by decide) ?_
    refine litVal (i := 10) (v := .bool true) rfl (wn rfl) (litRun (by kernel_rfl)) rfl (by decide) ?_
    refine plDone (by decide) ?_
    refine then_normal (hK25 _ _ ?_)
    refine wpPrune [(2, .pointer (some ⟨g2, 0, none⟩)), (3, .pointer (some ⟨g5, 0, none⟩)), (4, .bool true), (6, .slice A15 LL.length c16), (8, .slice A20 RR.length c21)] ⟨litGet (by kernel_rfl), ⟨litGet (by kernel_rfl), ⟨litGet (by kernel_rfl), ⟨litGet (by kernel_rfl), ⟨litGet (by kernel_rfl), trivial⟩⟩⟩⟩⟩ (fun X28 => ?_)
    refine wp_ret ?_
    refine then_ret ?_
    refine bodyPost_ret (v := .bool true) (gRes1 rfl (gResTmp (t := 4) (v := .bool true) (litGet (by kernel_rfl)))) rfl ?_
    exact ⟨by first | rfl | simp_all, hm27.bel⟩
  · rw [h11]
    refine litVal (i := 2) (v := .bool true) rfl (wn rfl) (litRun (by kernel_rfl)) rfl (by decide) ?_
    refine plDone (by decide) ?_
    refine then_normal (hK8 _ _ ?_)
    refine wp_seq_k fun K29 hK29 => ?_
    refine plStart ?_
    refine litVal (i := 0) (v := .agg (bxs b).toArray) rfl (wn rfl) (gLoadAg (vs := bxs b) (k := 0) 0 hm10 rfl (by kernel_rfl) (by kernel_rfl) (.tmp 2) Ty.ag_voxel_api_Box rfl (litEv (by kernel_rfl))) rfl (by decide) ?_
    refine plCall (i := 1) 22 [.agg (bxs b).toArray] [] [] rfl (by kernel_rfl) (wn rfl) rfl (litEv rfl) (litArgs (by kernel_rfl)) (by have h := cubes_any b w9; rw [hC] at h; exact h) ?_
    rintro e w30 ⟨v, rfl, hown, hbz⟩
    obtain ⟨A32, c33, rfl, hrd⟩ := Rd.of_own hown
    clear hrd
    have hm31 := hm10.newRow hbz hown
    clear hown hbz hm10
    simp only [List.cons_append, List.nil_append, List.set_cons_succ, List.set_cons_zero] at hm31
    refine ⟨_, rfl, ?_⟩
    refine qPut rfl (by decide) ?_
    refine litVal (i := 2) (v := .tuple #[.slice A32 LL.length c33, .int .i64 2]) rfl (wn rfl) (litRun (by kernel_rfl)) rfl (by decide) ?_
    refine litVal (i := 3) (v := .slice A32 LL.length c33) rfl (wn rfl) (litRun (by kernel_rfl)) rfl (by decide) ?_
    refine litVal (i := 4) (v := .int .i64 2) rfl (wn rfl) (litRun (by kernel_rfl)) rfl (by decide) ?_
    refine litVal (i := 5) (v := .slice A32 LL.length c33) rfl (wn rfl) (litRun (by kernel_rfl)) rfl (by decide) ?_
    refine litVal (i := 6) (v := .int .i64 2) rfl (wn rfl) (litRun (by kernel_rfl)) rfl (by decide) ?_
    refine plDone (by decide) ?_
    refine then_normal (hK29 _ _ ?_)
    refine wp_seq_k fun K34 hK34 => ?_
    refine plStart ?_
    refine litVal (i := 0) (v := .agg (bxs b).toArray) rfl (wn rfl) (gLoadAg (vs := bxs b) (k := 0) 0 hm31 rfl (by kernel_rfl) (by kernel_rfl) (.tmp 2) Ty.ag_voxel_api_Box rfl (litEv (by kernel_rfl))) rfl (by decide) ?_
    refine plCall (i := 1) 24 [.agg (bxs b).toArray] [] [] rfl (by kernel_rfl) (wn rfl) rfl (litEv rfl) (litArgs (by kernel_rfl)) (by have h := runs_any b w30; rw [hR] at h; exact h) ?_
    rintro e w35 ⟨v, rfl, hown, hbz⟩
    obtain ⟨A37, c38, rfl, hrd⟩ := Rd.of_own hown
    clear hrd
    have hm36 := hm31.newRow hbz hown
    clear hown hbz hm31
    simp only [List.cons_append, List.nil_append, List.set_cons_succ, List.set_cons_zero] at hm36
    refine ⟨_, rfl, ?_⟩
    refine qPut rfl (by decide) ?_
    refine litVal (i := 2) (v := .tuple #[.slice A37 RR.length c38, .int .i64 2]) rfl (wn rfl) (litRun (by kernel_rfl)) rfl (by decide) ?_
    refine litVal (i := 3) (v := .slice A37 RR.length c38) rfl (wn rfl) (litRun (by kernel_rfl)) rfl (by decide) ?_
    refine litVal (i := 4) (v := .int .i64 2) rfl (wn rfl) (litRun (by kernel_rfl)) rfl (by decide) ?_
    refine litVal (i := 5) (v := .slice A37 RR.length c38) rfl (wn rfl) (litRun (by kernel_rfl)) rfl (by decide) ?_
    refine litVal (i := 6) (v := .int .i64 2) rfl (wn rfl) (litRun (by kernel_rfl)) rfl (by decide) ?_
    refine plDone (by decide) ?_
    refine then_normal (hK34 _ _ ?_)
    refine wpPrune [(2, .pointer (some ⟨g2, 0, none⟩)), (3, .pointer (some ⟨g5, 0, none⟩)), (4, .bool false), (5, .bool true), (6, .slice A32 LL.length c33), (7, .int .i64 2), (8, .slice A37 RR.length c38), (9, .int .i64 2)] ⟨litGet (by kernel_rfl), ⟨litGet (by kernel_rfl), ⟨litGet (by kernel_rfl), ⟨litGet (by kernel_rfl), ⟨litGet (by kernel_rfl), ⟨litGet (by kernel_rfl), ⟨litGet (by kernel_rfl), ⟨litGet (by kernel_rfl), trivial⟩⟩⟩⟩⟩⟩⟩⟩ (fun X39 => ?_)
    refine wp_seq_k fun K40 hK40 => ?_
    refine wp_seq_k fun K41 hK41 => ?_
    refine plStart ?_
    refine litVal (i := 0) (v := .bool true) rfl (wn rfl) (litRun (by kernel_rfl)) rfl (by decide) ?_
    refine litVal (i := 1) (v := .bool false) rfl (wn rfl) (litRun (by kernel_rfl)) rfl (by decide) ?_
    refine litVal (i := 2) (v := .bool false) rfl (wn rfl) (litRun (by kernel_rfl)) rfl (by decide) ?_
    refine litVal (i := 3) (v := .int .i64 2) rfl (wgY rfl rfl rfl (by decide) (by kernel_rfl)) (litRun (by kernel_rfl)) rfl (by decide) ?_
    refine litVal (i := 4) (v := .bool true) rfl (wgY rfl rfl rfl (by decide) (by kernel_rfl)) (litRun (by kernel_rfl)) rfl (by decide) ?_
    refine litVal (i := 5) (v := .bool true) rfl (wn rfl) (litRun (by kernel_rfl)) rfl (by decide) ?_
    refine litVal (i := 6) (v := .bool true) rfl (wn rfl) (litRun (by kernel_rfl)) rfl (by decide) ?_
    refine plSkip (i := 7) rfl (wgN rfl rfl rfl (by decide) (by kernel_rfl)) ?_
    refine qPut rfl (by decide) ?_
    refine plSkip (i := 8) rfl (wgN rfl rfl rfl (by decide) (by kernel_rfl)) ?_
    refine qPut rfl (by decide) ?_
    refine litVal (i := 9) (v := .bool true) rfl (wn rfl) (litRun (by kernel_rfl)) rfl (by decide) ?_
    refine plDone (by decide) ?_
    refine then_normal (hK41 _ _ ?_)
    refine wp_cond_true (litEv (by kernel_rfl)) ?_
    refine wp_seq_k fun K42 hK42 => ?_
    refine plStart ?_
    refine plCall (i := 0) 21 [] [] [] rfl (by kernel_rfl) (wn rfl) rfl (litEv rfl) (litArgs (by kernel_rfl)) (sanity_any _) ?_
    rintro e w43 ⟨rfl, hbz⟩
    have hm44 := hm36.below hbz
    clear hbz hm36
    refine ⟨_, rfl, ?_⟩
    refine qPut rfl (by decide) ?_
    refine litVal (i := 1) (v := .bool true) rfl (wn rfl) (litRun (by kernel_rfl)) rfl (by decide) ?_
    refine litVal (i := 2) (v := .bool true) rfl (wgY rfl rfl rfl (by decide) (by kernel_rfl)) (litRun (by kernel_rfl)) rfl (by decide) ?_
    refine litVal (i := 3) (v := .bool false) rfl (wgY rfl rfl rfl (by decide) (by kernel_rfl)) (litRun (by kernel_rfl)) rfl (by decide) ?_
    refine litVal (i := 4) (v := .bool false) rfl (wgY rfl rfl rfl (by decide) (by kernel_rfl)) (litRun (by kernel_rfl)) rfl (by decide) ?_
    refine litVal (i := 5) (v := .int .i64 2) rfl (wgY rfl rfl rfl (by decide) (by kernel_rfl)) (litRun (by kernel_rfl)) rfl (by decide) ?_
    refine litVal (i := 6) (v := .int .i64 2) rfl (wgY rfl rfl rfl (by decide) (by kernel_rfl)) (litRun (by kernel_rfl)) rfl (by decide) ?_
    refine litVal (i := 7) (v := .bool true) rfl (wgY rfl rfl rfl (by decide) (by kernel_rfl)) (litRun (by kernel_rfl)) rfl (by decide) ?_
    refine litVal (i := 8) (v := .bool true) rfl (wgY rfl rfl rfl (by decide) (by kernel_rfl)) (litRun (by kernel_rfl)) rfl (by decide) ?_
    refine litVal (i := 9) (v := .bool true) rfl (wn rfl) (litRun (by kernel_rfl)) rfl (by decide) ?_
    refine litVal (i := 10) (v := .bool true) rfl (wn rfl) (litRun (by kernel_rfl)) rfl (by decide) ?_
    refine plDone (by decide) ?_
    refine then_normal (hK42 _ _ ?_)
    refine wpPrune [(2, .pointer (some ⟨g2, 0, none⟩)), (3, .pointer (some ⟨g5, 0, none⟩)), (4, .bool true), (6, .slice A32 LL.length c33), (8, .slice A37 RR.length c38)] ⟨litGet (by kernel_rfl), ⟨litGet (by kernel_rfl), ⟨litGet (by kernel_rfl), ⟨litGet (by kernel_rfl), ⟨litGet (by kernel_rfl), trivial⟩⟩⟩⟩⟩ (fun X45 => ?_)
    refine wp_ret ?_
    refine then_ret ?_
    refine bodyPost_ret (v := .bool true) (gRes1 rfl (gResTmp (t := 4) (v := .bool true) (litGet (by kernel_rfl)))) rfl ?_
    exact ⟨by first | rfl | simp_all, hm44.bel⟩
theorem mCubes_len {b : Bx} : (mCubes b).1.length ≤ 4096 := by
  unfold mCubes
  split
  · split
    · exact Nat.zero_le _
    · show (cubesL b 14 p0 []).length ≤ 4096
      omega
  · exact Nat.zero_le _
theorem walk_MortonCubesTile (b : Bx) (p : Pt) (w : World) (_b0 : -9223372036854775808 ≤ b.mn.x ∧ b.mn.x ≤ 9223372036854775807) (_b1 : -9223372036854775808 ≤ b.mn.y ∧ b.mn.y ≤ 9223372036854775807) (_b2 : -9223372036854775808 ≤ b.mn.z ∧ b.mn.z ≤ 9223372036854775807) (_b3 : -9223372036854775808 ≤ b.mx.x ∧ b.mx.x ≤ 9223372036854775807) (_b4 : -9223372036854775808 ≤ b.mx.y ∧ b.mx.y ≤ 9223372036854775807) (_b5 : -9223372036854775808 ≤ b.mx.z ∧ b.mx.z ≤ 9223372036854775807) (_b6 : -9223372036854775808 ≤ p.x ∧ p.x ≤ 9223372036854775807) (_b7 : -9223372036854775808 ≤ p.y ∧ p.y ≤ 9223372036854775807) (_b8 : -9223372036854775808 ≤ p.z ∧ p.z ≤ 9223372036854775807) : Calls Try.prog 6 #[.agg (bxs b).toArray, .agg (pcs p).toArray] w (RetB w true) := by
  have hR : mRuns b = (runsOf (mCubes b).1, (mCubes b).2) := rfl
  have hl := mCubes_len (b := b)
  have hl2 := runsOf_len (mCubes b).1
  have hlast := runsOf_last (M := fun t => t ≤ 8796093022208) (mCubes b).1 (fun c hc => (cubeLast_in (mCubes_all c hc)).2)
  have hcov := mCubes_cov (b := b)
  have herr : (mCubes b).2 = 0 ∨ (mCubes b).2 = 2 := by
    unfold mCubes
    split
    · split
      · exact Or.inr rfl
      · exact Or.inl rfl
    · exact Or.inl rfl
  have hrc := fun h => runs_count (b := b) (L := (mCubes b).1) h p
  have hrk := fun h => runs_ok (b := b) (L := (mCubes b).1) h
  obtain ⟨LL, hLL⟩ : ∃ LL, LL = (mCubes b).1 := ⟨_, rfl⟩
  have hC : mCubes b = (LL, (mCubes b).2) := by rw [hLL]
  rw [← hLL] at hR hl hl2 hlast hcov hrc hrk
  rcases herr with he | he
  · rw [he] at hC hR
    exact tile_yes b p LL _ hC hR hl (Nat.le_trans hl2 hl) (hcov he) (hrk (hcov he)) hlast (hrc (hcov he)) w (by assumption) (by assumption) (by assumption)
  · rw [he] at hC hR
    exact tile_no b p LL _ hC hR w
end Go.Proofs.Ytkfijpghjjnpkaa
