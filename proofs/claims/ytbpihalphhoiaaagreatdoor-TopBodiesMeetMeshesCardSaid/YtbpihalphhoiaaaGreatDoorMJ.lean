/-
 MJ: several texts in one. No statement is proved here.
-/
import Derived.Test.YtbpihalphhoiaaaGreatDoorMZ
import Derived.Test.YtbpihalphhoiaaaGreatDoorMD
import Derived.Test.YtbpihalphhoiaaaGreatDoorME
import Derived.Test.YtbpihalphhoiaaaGreatDoorMB
import Derived.Test.YtbpihalphhoiaaaGreatDoorMI
import Derived.Test.YtbpihalphhoiaaaGreatDoorCards
import Derived.Test.YtbpihalphhoiaaaGreatDoorTie
import Derived.Test.YtbpihalphhoiaaaGreatDoorMF
import Derived.ProofKit
import Derived.OpenShut
import Derived.Deep.DeepHandedRow
import Derived.Lib.LaidTab
import Derived.Test.YtbpihalphhoiaaaGreatDoorMA
set_option maxRecDepth 100000
set_option maxHeartbeats 4000000
set_option linter.unusedVariables false
set_option linter.unusedSimpArgs false
namespace Go.Proofs.YtbpihalphhoiaaaGreatDoor
open Go.RowKit
section
variable {g : Gr} {T : List Mat} {a b p : Pt} {k : Nat}
end
theorem bxs_inj {b c : Bx} : bxs b = bxs c ↔ b = c := by
 obtain ⟨⟨a1, a2, a3⟩, ⟨a4, a5, a6⟩⟩ := b
 obtain ⟨⟨c1, c2, c3⟩, ⟨c4, c5, c6⟩⟩ := c
 simp [bxs, pcs, and_assoc]
theorem take_all_succ_ {P : Int → Prop} {l : List Int} {k : Nat} {p : Int} (hp : l[k]? = some p) (h : ∀ q ∈ l.take k, P q) (h1 : P p) : ∀ q ∈ l.take (k + 1), P q := by
 intro q hq
 rw [List.take_add_one, List.mem_append, hp] at hq
 rcases hq with hq | hq
 ·exact h q hq
 ·simp at hq; rw [hq]; exact h1
def befP (q : Qd) : Pt := stepP q.p q.ax (-1)
def solidP (q : Qd) : Pt := if q.up then befP q else q.p
def emptyP (q : Qd) : Pt := if q.up then q.p else befP q
def nearB : Bx := ⟨⟨-20, -20, -20⟩, ⟨21, 21, 21⟩⟩
theorem dec_tl : ∀ k : Nat, k < 8 → mDec ((k : Int) * 64) = (tlP k, true) := by decide +kernel
theorem decT_any (k : Nat) (hk : k < 8) (w : World) : Calls Tryz.prog 99 #[.int .i64 (0 + (k : Int) * 64)] w (RetV w (.tuple #[.agg (pcs (tlP k)).toArray, .bool true])) := by
 have h := decode_any ((k : Int) * 64) w
 rw [dec_tl k hk] at h
 rw [Int.zero_add]
 exact h
theorem encT_any (w : World) : Calls Tryz.prog 98 #[.agg (pcs (tlP 0)).toArray] w (RetV w (.int .i64 0)) := by
 have h := encode_any (tlP 0) w
 rw [enc_tlP (by decide)] at h
 exact h
theorem planL_succ (k : Nat) : planL (k + 1) = planL k ++ [tlK k] := by unfold planL; rw [List.range_succ, List.map_append]; rfl
theorem tlsP_get {n k : Nat} (h : k < n) : ∀ (i : Nat) (u : Value), (pcs (tlP k))[i]? = some u → (tlsC (planL n))[k * 4 + 1 + i]? = some u := fun i u hu => by
 rw [Nat.add_assoc]
 exact tlsC_get (planL_get h) (1 + i) u (by rw [Nat.add_comm 1 i]; exact hu)
theorem valid_any (g : Gr) (A : Option Addr) (c : Nat) (w : World) (hrd : Rd w w.heap.size 1 A g.cells.length c (ics g.cells)) : Calls Tryz.prog 23 #[.agg (gcs g A c).toArray] w (RetV w (.bool (decide g.Valid))) := by
 have hcap := hrd.cap
 have hle := hrd.le
 unfold maxLen at hcap
 have hm0 := Mem.nil w
 go_enter Tryz.func23, Tryz.ntmps23
 refine litStart 57 [(0, .agg (gcs g A c).toArray)] kr_ (fun X0 => ?_)
 refine sp_ fun _ hK1 => ?_
 refine plBox hm0 (cs := gcs g A c) (i := 0) rfl (wn rfl) rfl le_ ?_
 intro g2 w4 hm3
 clear hm0
 try simp only [lc_] at hm3
 refine qP rfl ?_
 refine lF_ ?_
 refine pt_ hK1 ?_
 refine sp_ fun _ hK5 => ?_
 refine lp_ g2 0 ?_
 refine lp_ g2 0 ?_
 refine lv_ rfl (.agg (pcs g.box.mn).toArray) (la_ 0 0 hm3 Ty.ag_voxel_api_Point) ?_
 refine plCall (i := 3) 68 [.agg (pcs g.box.mn).toArray] [] [] rfl kr_ (wn rfl) rfl le_ (litArgs kr_) (ranged_any g.box.mn _) ?_
 rintro e w6 ⟨rfl, hbz⟩
 have hm7 := hm3.below hbz
 clear hbz hm3
 refine ⟨_, rfl, ?_⟩
 refine qP rfl ?_
 rcases bool_or (decide g.box.mn.rng) with h8 | h8
 ·rw [h8]
  refine lF_ ?_
  refine pt_ hK5 ?_
  refine sp_ fun _ hK9 => ?_
  refine lp_ g2 0 ?_
  refine lp_ g2 3 ?_
  refine lv_ rfl (.agg (pcs g.box.mx).toArray) (la_ 3 0 hm7 Ty.ag_voxel_api_Point) ?_
  refine plCall (i := 3) 68 [.agg (pcs g.box.mx).toArray] [] [] rfl kr_ (wn rfl) rfl le_ (litArgs kr_) (ranged_any g.box.mx _) ?_
  rintro e w10 ⟨rfl, hbz⟩
  have hm11 := hm7.below hbz
  clear hbz hm7
  refine ⟨_, rfl, ?_⟩
  refine qP rfl ?_
  rcases bool_or (decide g.box.mx.rng) with h12 | h12
  ·rw [h12]
   refine lF_ ?_
   refine pt_ hK9 ?_
   refine sk_ fun _ hK13 => ?_
   refine sp_ fun _ hK14 => ?_
   refine lF_ ?_
   refine lT_ ?_
   refine lT_ ?_
   refine ps_ (i := 3) ?_
   refine ps_ (i := 4) ?_
   refine lT_ ?_
   refine pt_ hK14 ?_
   refine wpPrune [(1, .pointer (some ⟨g2, 0, none⟩)), (2, .bool false), (21, .bool true)] fo_ (fun X15 => ?_)
   refine wp_cond_true le_ ?_
   refine sp_ fun _ hK16 => ?_
   refine lF_ ?_
   refine pt_ hK16 ?_
   refine wp_ret ?_
   refine then_ret ?_
   refine br_ 2 (.bool false) ?_
   exact ⟨congrArg (fun b_ => Ending.returned (.bool b_)) (decide_eq_false (fun h_ => of_decide_eq_false h8 h_.1.1)).symm, hm11.bel⟩
  rw [h12]
  refine lT_ ?_
  refine pt_ hK9 ?_
  refine sk_ fun _ hK17 => ?_
  refine sp_ fun _ hK18 => ?_
  refine lF_ ?_
  refine lT_ ?_
  refine lT_ ?_
  refine ps_ (i := 3) ?_
  refine ps_ (i := 4) ?_
  refine lT_ ?_
  refine pt_ hK18 ?_
  refine wpPrune [(1, .pointer (some ⟨g2, 0, none⟩)), (2, .bool false), (21, .bool true)] fo_ (fun X19 => ?_)
  refine wp_cond_true le_ ?_
  refine sp_ fun _ hK20 => ?_
  refine lF_ ?_
  refine pt_ hK20 ?_
  refine wp_ret ?_
  refine then_ret ?_
  refine br_ 2 (.bool false) ?_
  exact ⟨congrArg (fun b_ => Ending.returned (.bool b_)) (decide_eq_false (fun h_ => of_decide_eq_false h8 h_.1.1)).symm, hm11.bel⟩
 rw [h8]
 refine lT_ ?_
 refine pt_ hK5 ?_
 refine sp_ fun _ hK21 => ?_
 refine lp_ g2 0 ?_
 refine lp_ g2 3 ?_
 refine lv_ rfl (.agg (pcs g.box.mx).toArray) (la_ 3 0 hm7 Ty.ag_voxel_api_Point) ?_
 refine plCall (i := 3) 68 [.agg (pcs g.box.mx).toArray] [] [] rfl kr_ (wn rfl) rfl le_ (litArgs kr_) (ranged_any g.box.mx _) ?_
 rintro e w22 ⟨rfl, hbz⟩
 have hm23 := hm7.below hbz
 clear hbz hm7
 refine ⟨_, rfl, ?_⟩
 refine qP rfl ?_
 rcases bool_or (decide g.box.mx.rng) with h24 | h24
 ·rw [h24]
  refine lF_ ?_
  refine pt_ hK21 ?_
  refine sk_ fun _ hK25 => ?_
  refine sp_ fun _ hK26 => ?_
  refine lT_ ?_
  refine lF_ ?_
  refine lF_ ?_
  refine lw_ rfl (.bool false) (litRun kr_) ?_
  refine lw_ rfl (.bool true) (litRun kr_) ?_
  refine lT_ ?_
  refine pt_ hK26 ?_
  refine wpPrune [(1, .pointer (some ⟨g2, 0, none⟩)), (2, .bool false), (21, .bool true)] fo_ (fun X27 => ?_)
  refine wp_cond_true le_ ?_
  refine sp_ fun _ hK28 => ?_
  refine lF_ ?_
  refine pt_ hK28 ?_
  refine wp_ret ?_
  refine then_ret ?_
  refine br_ 2 (.bool false) ?_
  exact ⟨congrArg (fun b_ => Ending.returned (.bool b_)) (decide_eq_false (fun h_ => of_decide_eq_false h24 h_.1.2)).symm, hm23.bel⟩
 rw [h24]
 refine lT_ ?_
 refine pt_ hK21 ?_
 refine sk_ fun _ hK29 => ?_
 refine sp_ fun _ hK30 => ?_
 refine lT_ ?_
 refine lF_ ?_
 refine lF_ ?_
 refine lw_ rfl (.bool true) (litRun kr_) ?_
 refine lw_ rfl (.bool false) (litRun kr_) ?_
 refine lF_ ?_
 refine pt_ hK30 ?_
 refine wpPrune [(1, .pointer (some ⟨g2, 0, none⟩)), (2, .bool false), (21, .bool false)] fo_ (fun X31 => ?_)
 refine wp_cond_false le_ ?_
 refine wp_skip ?_
 refine tn_ hK29 ?_
 refine sp_ fun _ hK32 => ?_
 refine lp_ g2 0 ?_
 refine lv_ rfl (.agg (bxs g.box).toArray) (la_ 0 0 hm23 Ty.ag_voxel_api_Box) ?_
 refine plCall (i := 2) 69 [.agg (bxs g.box).toArray] [] [] rfl kr_ (wn rfl) rfl le_ (litArgs kr_) (vol_any g.box ⟨of_decide_eq_true h8, of_decide_eq_true h24⟩ _) ?_
 rintro e w33 ⟨rfl, hbz⟩
 have hm34 := hm23.below hbz
 clear hbz hm23
 refine ⟨_, rfl, ?_⟩
 refine qP rfl ?_
 refine li_ g.box.vol ?_
 refine pt_ hK32 ?_
 refine sk_ fun _ hK35 => ?_
 refine sp_ fun _ hK36 => ?_
 refine li_ g.box.vol ?_
 by_cases h37 : g.box.vol = 0
 ·refine lv_ rfl _ (eqT_ h37) ?_
  refine lT_ ?_
  refine lw_ rfl (.pointer (some ⟨g2, 0, none⟩)) (litRun kr_) ?_
  refine lw_ rfl (.agg (bxs g.box).toArray) (la_ 0 0 hm34 Ty.ag_voxel_api_Box) ?_
  refine lw_ rfl (.agg (bxs ⟨⟨0, 0, 0⟩, ⟨0, 0, 0⟩⟩).toArray) (litRun kr_) ?_
  by_cases h38 : g.box = bx0
  ·refine lw_ rfl (.bool false) (boolTo (by rw [decide_eq_true h38]; rfl) (neqAgRun 2 (.tmp 29) (.tmp 30) (bxs g.box) (bxs bx0) (decide (g.box = bx0)) (by rw [decide_eq_true_iff, bxs_inj]) kr_ rfl kr_ kr_ kr_ kr_ rfl le_ le_)) ?_
   refine lF_ ?_
   refine lF_ ?_
   refine lw_ rfl (.int .i64 g.box.vol) (litRun kr_) ?_
   by_cases h39 : 2097152 < g.box.vol
   ·refine lw_ rfl _ (gtT_ h39) ?_
    refine lT_ ?_
    refine lT_ ?_
    refine ps_ (i := 13) ?_
    refine ps_ (i := 14) ?_
    refine ps_ (i := 15) ?_
    refine ps_ (i := 16) ?_
    refine ps_ (i := 17) ?_
    refine lT_ ?_
    refine pt_ hK36 ?_
    refine wpPrune [(1, .pointer (some ⟨g2, 0, none⟩)), (2, .bool false), (5, .int .i64 g.box.vol), (43, .bool true)] fo_ (fun X40 => ?_)
    refine wp_cond_true le_ ?_
    refine sp_ fun _ hK41 => ?_
    refine lF_ ?_
    refine pt_ hK41 ?_
    refine wp_ret ?_
    refine then_ret ?_
    refine br_ 2 (.bool false) ?_
    exact ⟨congrArg (fun b_ => Ending.returned (.bool b_)) (decide_eq_false (fun h_ => h_.2.1 (Or.inr (Or.inl h39)))).symm, hm34.bel⟩
   refine lw_ rfl _ (gtF_ h39) ?_
   refine lF_ ?_
   refine lF_ ?_
   refine lw_ rfl (.pointer (some ⟨g2, 6, none⟩)) (litRun kr_) ?_
   refine lw_ rfl (.slice A g.cells.length c) (ld_ 6 0 hm34) ?_
   refine lw_ rfl (.int .i64 (g.cells.length : Int)) (ln_ A g.cells.length c Ty.und_L_int) ?_
   refine lw_ rfl (.int .i64 g.box.vol) (litRun kr_) ?_
   by_cases h42 : (g.cells.length : Int) = g.box.vol
   ·refine lw_ rfl _ (neT_ h42) ?_
    refine lF_ ?_
    refine pt_ hK36 ?_
    refine wpPrune [(1, .pointer (some ⟨g2, 0, none⟩)), (2, .bool false), (5, .int .i64 g.box.vol), (43, .bool false)] fo_ (fun X43 => ?_)
    refine wp_cond_false le_ ?_
    refine wp_skip ?_
    refine tn_ hK35 ?_
    refine sk_ fun _ hK44 => ?_
    refine sp_ fun _ hK45 => ?_
    refine li_ 0 ?_
    refine pt_ hK45 ?_
    refine wp_block ?_
    refine gwLoop (fun n_ a_ w_ => ∃ (k : Nat), n_ = g.cells.length - k ∧ (k ≤ g.cells.length) ∧ (∀ c ∈ g.cells.take k, 0 ≤ c ∧ c < 256) ∧ Fr a_ 57 [(1, .pointer (some ⟨g2, 0, none⟩)), (5, .int .i64 g.box.vol), (6, .int .i64 (k : Int))] ∧ Mem w w_ [.arr g2 28 (gcs g A c)]) (g.cells.length - 0) ⟨0, rfl, (Nat.zero_le _), (by simp), ⟨litSize, rfl, fo_⟩, (hm34.sub (.cons_cons _ .slnil))⟩ ?_
    clear hm34
    intro n_ a48 w46 hI_
    obtain ⟨k, rfl, hk_, hk2_, hF_, hm47⟩ := hI_
    obtain ⟨X49, rfl⟩ := frLit hF_
    clear hF_
    refine sk_ fun _ hK50 => ?_
    refine sp_ fun _ hK51 => ?_
    refine li_ k ?_
    refine li_ g.box.vol ?_
    by_cases h52 : (k : Int) < g.box.vol
    ·have hkl : k < g.cells.length := by omega
     obtain ⟨n, hn⟩ : ∃ n, g.cells[k]? = some n := ⟨_, List.getElem?_eq_getElem hkl⟩
     obtain ⟨b9_, off9_, rfl, _, _⟩ := hrd.cells (by omega)
     refine lv_ rfl _ (lsT_ h52) ?_
     refine pt_ hK51 ?_
     refine wp_cond_true le_ ?_
     refine wp_skip ?_
     refine tn_ hK50 ?_
     refine sk_ fun _ hK53 => ?_
     refine wp_block ?_
     refine sp_ fun _ hK54 => ?_
     refine lp_ g2 6 ?_
     refine lv_ rfl (.slice (some ⟨b9_, off9_, none⟩) g.cells.length c) (ld_ 6 0 hm47) ?_
     refine li_ k ?_
     refine lv_ rfl (.pointer (some ⟨b9_, off9_ + k * 1, none⟩)) (ia_ c k Ty.sl_L_int rfl hkl) ?_
     refine lv_ rfl (.int .i64 n) (lr_ (m := k * 1) ((Rd.below hrd hm47.bel).more hm47.bel.size) (icsGet hn) (by omega)) ?_
     refine plCall (i := 5) 70 [.int .i64 n] [] [] rfl kr_ (wn rfl) rfl le_ (litArgs kr_) (isMat_any n _) ?_
     rintro e w55 ⟨rfl, hbz⟩
     have hm56 := hm47.below hbz
     clear hbz hm47
     refine ⟨_, rfl, ?_⟩
     refine qP rfl ?_
     rcases bool_or (decide (0 ≤ n ∧ n < 256)) with h57 | h57
     ·rw [h57]
      refine lF_ ?_
      refine pt_ hK54 ?_
      refine sp_ fun _ hK58 => ?_
      refine lF_ ?_
      refine lT_ ?_
      refine pt_ hK58 ?_
      refine wp_cond_true le_ ?_
      refine sp_ fun _ hK59 => ?_
      refine lF_ ?_
      refine pt_ hK59 ?_
      refine wp_ret ?_
      refine inBlock_ret ?_
      refine then_ret ?_
      refine then_ret ?_
      refine inBlock_ret ?_
      refine then_ret ?_
      refine br_ 2 (.bool false) ?_
      exact ⟨congrArg (fun b_ => Ending.returned (.bool b_)) (decide_eq_false (fun h_ => of_decide_eq_false h57 (h_.2.2 n (List.mem_of_getElem? hn)))).symm, hm56.bel⟩
     rw [h57]
     refine lT_ ?_
     refine pt_ hK54 ?_
     refine sp_ fun _ hK60 => ?_
     refine lT_ ?_
     refine lF_ ?_
     refine pt_ hK60 ?_
     refine wp_cond_false le_ ?_
     refine wp_skip ?_
     refine inBlock_normal ?_
     refine tn_ hK53 ?_
     refine plStart ?_
     refine li_ k ?_
     refine lv_ rfl _ (ad_ (k : Int) 1) ?_
     refine li_ ((k : Int) + 1) ?_
     refine plD ?_
     refine then_normal ?_
     exact ⟨_, by omega, (k + 1), rfl, (by omega), (take_all_succ_ hn hk2_ (of_decide_eq_true h57)), ⟨litSize, rfl, fo_⟩, (hm56.sub (.cons_cons _ .slnil))⟩
    refine lv_ rfl _ (lsF_ h52) ?_
    refine pt_ hK51 ?_
    refine wp_cond_false le_ ?_
    refine wp_exit ?_
    refine then_exit ?_
    refine then_exit ?_
    refine inBlock_exit ?_
    refine tn_ hK44 ?_
    refine sp_ fun _ hK61 => ?_
    refine lT_ ?_
    refine pt_ hK61 ?_
    refine wp_ret ?_
    refine br_ 2 (.bool true) ?_
    exact ⟨congrArg (fun b_ => Ending.returned (.bool b_)) (decide_eq_true ⟨⟨of_decide_eq_true h8, of_decide_eq_true h24⟩, (fun h_ => by rcases h_ with h1_ | h1_ | h1_; exact h1_.2 h38; exact h39 h1_; exact h1_ h42), (by rw [List.take_of_length_le (by omega)] at hk2_; exact hk2_)⟩).symm, hm47.bel⟩
   refine lw_ rfl _ (neF_ h42) ?_
   refine lT_ ?_
   refine pt_ hK36 ?_
   refine wpPrune [(1, .pointer (some ⟨g2, 0, none⟩)), (2, .bool false), (5, .int .i64 g.box.vol), (43, .bool true)] fo_ (fun X62 => ?_)
   refine wp_cond_true le_ ?_
   refine sp_ fun _ hK63 => ?_
   refine lF_ ?_
   refine pt_ hK63 ?_
   refine wp_ret ?_
   refine then_ret ?_
   refine br_ 2 (.bool false) ?_
   exact ⟨congrArg (fun b_ => Ending.returned (.bool b_)) (decide_eq_false (fun h_ => h_.2.1 (Or.inr (Or.inr h42)))).symm, hm34.bel⟩
  refine lw_ rfl (.bool true) (boolTo (by rw [decide_eq_false h38]; rfl) (neqAgRun 2 (.tmp 29) (.tmp 30) (bxs g.box) (bxs bx0) (decide (g.box = bx0)) (by rw [decide_eq_true_iff, bxs_inj]) kr_ rfl kr_ kr_ kr_ kr_ rfl le_ le_)) ?_
  refine lT_ ?_
  refine lT_ ?_
  refine ps_ (i := 9) ?_
  refine ps_ (i := 10) ?_
  refine lT_ ?_
  refine lT_ ?_
  refine ps_ (i := 13) ?_
  refine ps_ (i := 14) ?_
  refine ps_ (i := 15) ?_
  refine ps_ (i := 16) ?_
  refine ps_ (i := 17) ?_
  refine lT_ ?_
  refine pt_ hK36 ?_
  refine wpPrune [(1, .pointer (some ⟨g2, 0, none⟩)), (2, .bool false), (5, .int .i64 g.box.vol), (43, .bool true)] fo_ (fun X64 => ?_)
  refine wp_cond_true le_ ?_
  refine sp_ fun _ hK65 => ?_
  refine lF_ ?_
  refine pt_ hK65 ?_
  refine wp_ret ?_
  refine then_ret ?_
  refine br_ 2 (.bool false) ?_
  exact ⟨congrArg (fun b_ => Ending.returned (.bool b_)) (decide_eq_false (fun h_ => h_.2.1 (Or.inl ⟨h37, h38⟩))).symm, hm34.bel⟩
 refine lv_ rfl _ (eqF_ h37) ?_
 refine lF_ ?_
 refine ps_ (i := 3) ?_
 refine ps_ (i := 4) ?_
 refine ps_ (i := 5) ?_
 refine ps_ (i := 6) ?_
 refine lF_ ?_
 refine lF_ ?_
 refine lw_ rfl (.int .i64 g.box.vol) (litRun kr_) ?_
 by_cases h66 : 2097152 < g.box.vol
 ·refine lw_ rfl _ (gtT_ h66) ?_
  refine lT_ ?_
  refine lT_ ?_
  refine ps_ (i := 13) ?_
  refine ps_ (i := 14) ?_
  refine ps_ (i := 15) ?_
  refine ps_ (i := 16) ?_
  refine ps_ (i := 17) ?_
  refine lT_ ?_
  refine pt_ hK36 ?_
  refine wpPrune [(1, .pointer (some ⟨g2, 0, none⟩)), (2, .bool false), (5, .int .i64 g.box.vol), (43, .bool true)] fo_ (fun X67 => ?_)
  refine wp_cond_true le_ ?_
  refine sp_ fun _ hK68 => ?_
  refine lF_ ?_
  refine pt_ hK68 ?_
  refine wp_ret ?_
  refine then_ret ?_
  refine br_ 2 (.bool false) ?_
  exact ⟨congrArg (fun b_ => Ending.returned (.bool b_)) (decide_eq_false (fun h_ => h_.2.1 (Or.inr (Or.inl h66)))).symm, hm34.bel⟩
 refine lw_ rfl _ (gtF_ h66) ?_
 refine lF_ ?_
 refine lF_ ?_
 refine lw_ rfl (.pointer (some ⟨g2, 6, none⟩)) (litRun kr_) ?_
 refine lw_ rfl (.slice A g.cells.length c) (ld_ 6 0 hm34) ?_
 refine lw_ rfl (.int .i64 (g.cells.length : Int)) (ln_ A g.cells.length c Ty.und_L_int) ?_
 refine lw_ rfl (.int .i64 g.box.vol) (litRun kr_) ?_
 by_cases h69 : (g.cells.length : Int) = g.box.vol
 ·refine lw_ rfl _ (neT_ h69) ?_
  refine lF_ ?_
  refine pt_ hK36 ?_
  refine wpPrune [(1, .pointer (some ⟨g2, 0, none⟩)), (2, .bool false), (5, .int .i64 g.box.vol), (43, .bool false)] fo_ (fun X70 => ?_)
  refine wp_cond_false le_ ?_
  refine wp_skip ?_
  refine tn_ hK35 ?_
  refine sk_ fun _ hK71 => ?_
  refine sp_ fun _ hK72 => ?_
  refine li_ 0 ?_
  refine pt_ hK72 ?_
  refine wp_block ?_
  refine gwLoop (fun n_ a_ w_ => ∃ (k : Nat), n_ = g.cells.length - k ∧ (k ≤ g.cells.length) ∧ (∀ c ∈ g.cells.take k, 0 ≤ c ∧ c < 256) ∧ Fr a_ 57 [(1, .pointer (some ⟨g2, 0, none⟩)), (5, .int .i64 g.box.vol), (6, .int .i64 (k : Int))] ∧ Mem w w_ [.arr g2 28 (gcs g A c)]) (g.cells.length - 0) ⟨0, rfl, (Nat.zero_le _), (by simp), ⟨litSize, rfl, fo_⟩, (hm34.sub (.cons_cons _ .slnil))⟩ ?_
  clear hm34
  intro n_ a75 w73 hI_
  obtain ⟨k, rfl, hk_, hk2_, hF_, hm74⟩ := hI_
  obtain ⟨X76, rfl⟩ := frLit hF_
  clear hF_
  refine sk_ fun _ hK77 => ?_
  refine sp_ fun _ hK78 => ?_
  refine li_ k ?_
  refine li_ g.box.vol ?_
  by_cases h79 : (k : Int) < g.box.vol
  ·have hkl : k < g.cells.length := by omega
   obtain ⟨n, hn⟩ : ∃ n, g.cells[k]? = some n := ⟨_, List.getElem?_eq_getElem hkl⟩
   obtain ⟨b9_, off9_, rfl, _, _⟩ := hrd.cells (by omega)
   refine lv_ rfl _ (lsT_ h79) ?_
   refine pt_ hK78 ?_
   refine wp_cond_true le_ ?_
   refine wp_skip ?_
   refine tn_ hK77 ?_
   refine sk_ fun _ hK80 => ?_
   refine wp_block ?_
   refine sp_ fun _ hK81 => ?_
   refine lp_ g2 6 ?_
   refine lv_ rfl (.slice (some ⟨b9_, off9_, none⟩) g.cells.length c) (ld_ 6 0 hm74) ?_
   refine li_ k ?_
   refine lv_ rfl (.pointer (some ⟨b9_, off9_ + k * 1, none⟩)) (ia_ c k Ty.sl_L_int rfl hkl) ?_
   refine lv_ rfl (.int .i64 n) (lr_ (m := k * 1) ((Rd.below hrd hm74.bel).more hm74.bel.size) (icsGet hn) (by omega)) ?_
   refine plCall (i := 5) 70 [.int .i64 n] [] [] rfl kr_ (wn rfl) rfl le_ (litArgs kr_) (isMat_any n _) ?_
   rintro e w82 ⟨rfl, hbz⟩
   have hm83 := hm74.below hbz
   clear hbz hm74
   refine ⟨_, rfl, ?_⟩
   refine qP rfl ?_
   rcases bool_or (decide (0 ≤ n ∧ n < 256)) with h84 | h84
   ·rw [h84]
    refine lF_ ?_
    refine pt_ hK81 ?_
    refine sp_ fun _ hK85 => ?_
    refine lF_ ?_
    refine lT_ ?_
    refine pt_ hK85 ?_
    refine wp_cond_true le_ ?_
    refine sp_ fun _ hK86 => ?_
    refine lF_ ?_
    refine pt_ hK86 ?_
    refine wp_ret ?_
    refine inBlock_ret ?_
    refine then_ret ?_
    refine then_ret ?_
    refine inBlock_ret ?_
    refine then_ret ?_
    refine br_ 2 (.bool false) ?_
    exact ⟨congrArg (fun b_ => Ending.returned (.bool b_)) (decide_eq_false (fun h_ => of_decide_eq_false h84 (h_.2.2 n (List.mem_of_getElem? hn)))).symm, hm83.bel⟩
   rw [h84]
   refine lT_ ?_
   refine pt_ hK81 ?_
   refine sp_ fun _ hK87 => ?_
   refine lT_ ?_
   refine lF_ ?_
   refine pt_ hK87 ?_
   refine wp_cond_false le_ ?_
   refine wp_skip ?_
   refine inBlock_normal ?_
   refine tn_ hK80 ?_
   refine plStart ?_
   refine li_ k ?_
   refine lv_ rfl _ (ad_ (k : Int) 1) ?_
   refine li_ ((k : Int) + 1) ?_
   refine plD ?_
   refine then_normal ?_
   exact ⟨_, by omega, (k + 1), rfl, (by omega), (take_all_succ_ hn hk2_ (of_decide_eq_true h84)), ⟨litSize, rfl, fo_⟩, (hm83.sub (.cons_cons _ .slnil))⟩
  refine lv_ rfl _ (lsF_ h79) ?_
  refine pt_ hK78 ?_
  refine wp_cond_false le_ ?_
  refine wp_exit ?_
  refine then_exit ?_
  refine then_exit ?_
  refine inBlock_exit ?_
  refine tn_ hK71 ?_
  refine sp_ fun _ hK88 => ?_
  refine lT_ ?_
  refine pt_ hK88 ?_
  refine wp_ret ?_
  refine br_ 2 (.bool true) ?_
  exact ⟨congrArg (fun b_ => Ending.returned (.bool b_)) (decide_eq_true ⟨⟨of_decide_eq_true h8, of_decide_eq_true h24⟩, (fun h_ => by rcases h_ with h1_ | h1_ | h1_; exact h37 h1_.1; exact h66 h1_; exact h1_ h69), (by rw [List.take_of_length_le (by omega)] at hk2_; exact hk2_)⟩).symm, hm74.bel⟩
 refine lw_ rfl _ (neF_ h69) ?_
 refine lT_ ?_
 refine pt_ hK36 ?_
 refine wpPrune [(1, .pointer (some ⟨g2, 0, none⟩)), (2, .bool false), (5, .int .i64 g.box.vol), (43, .bool true)] fo_ (fun X89 => ?_)
 refine wp_cond_true le_ ?_
 refine sp_ fun _ hK90 => ?_
 refine lF_ ?_
 refine pt_ hK90 ?_
 refine wp_ret ?_
 refine then_ret ?_
 refine br_ 2 (.bool false) ?_
 exact ⟨congrArg (fun b_ => Ending.returned (.bool b_)) (decide_eq_false (fun h_ => h_.2.1 (Or.inr (Or.inr h69)))).symm, hm34.bel⟩
theorem topnear_any (p : Pt) (w : World) : Calls Tryz.prog 7 #[.agg (pcs p).toArray] w (RetV w (.bool (decide (nearB.has p)))) := by
 have hm0 := Mem.nil w
 go_enter Tryz.func7, Tryz.ntmps7
 refine litStart 8 [(0, .agg (pcs p).toArray)] kr_ (fun X0 => ?_)
 refine sp_ fun _ hK1 => ?_
 refine plBox hm0 (cs := pcs p) (i := 0) rfl (wn rfl) rfl le_ ?_
 intro g2 w4 hm3
 clear hm0
 try simp only [lc_] at hm3
 refine qP rfl ?_
 refine lF_ ?_
 refine pt_ hK1 ?_
 refine sp_ fun _ hK5 => ?_
 refine lv_ rfl (.agg (pcs p).toArray) (la_ 0 0 hm3 Ty.ag_voxel_api_Point) ?_
 refine lk_ (.agg (pcs ⟨-20, -20, -20⟩).toArray) ?_
 refine lk_ (.agg (pcs ⟨21, 21, 21⟩).toArray) ?_
 refine lk_ (.agg (bxs ⟨⟨-20, -20, -20⟩, ⟨21, 21, 21⟩⟩).toArray) ?_
 refine plCall (i := 4) 28 [.agg (pcs p).toArray, .agg (bxs ⟨⟨-20, -20, -20⟩, ⟨21, 21, 21⟩⟩).toArray] [] [] rfl kr_ (wn rfl) rfl le_ (litArgs kr_) (in_any p nearB _) ?_
 rintro e w6 ⟨rfl, hbz⟩
 have hm7 := hm3.below hbz
 clear hbz hm3
 refine ⟨_, rfl, ?_⟩
 refine qP rfl ?_
 rcases bool_or (decide (nearB.has p)) with h8 | h8
 ·rw [h8]
  refine lF_ ?_
  refine pt_ hK5 ?_
  refine wp_ret ?_
  refine br_ 2 (.bool false) ?_
  exact ⟨by rw [h8], hm7.bel⟩
 rw [h8]
 refine lT_ ?_
 refine pt_ hK5 ?_
 refine wp_ret ?_
 refine br_ 2 (.bool true) ?_
 exact ⟨by rw [h8], hm7.bel⟩
theorem cellBox_any (p : Pt) (hp : p.w 1000) (w : World) : Calls Tryz.prog 12 #[.agg (pcs p).toArray] w (RetV w (.agg (bxs ⟨p, ⟨p.x + 1, p.y + 1, p.z + 1⟩⟩).toArray)) := by
 unfold Pt.w at hp
 have hm0 := Mem.nil w
 go_enter Tryz.func12, Tryz.ntmps12
 refine litStart 15 [(0, .agg (pcs p).toArray)] kr_ (fun X0 => ?_)
 refine sp_ fun _ hK1 => ?_
 refine plBox hm0 (cs := pcs p) (i := 0) rfl (wn rfl) rfl le_ ?_
 intro g2 w4 hm3
 clear hm0
 try simp only [lc_] at hm3
 refine qP rfl ?_
 refine plAlloc (z := [.int .i64 0, .int .i64 0, .int .i64 0, .int .i64 0, .int .i64 0, .int .i64 0]) Ty.ag_voxel_api_Box hm3 (i := 1) rfl (wn rfl) rfl ?_
 intro g5 w7 hm6
 clear hm3
 try simp only [lc_] at hm6
 refine qP rfl ?_
 refine pt_ hK1 ?_
 refine sp_ fun _ hK8 => ?_
 refine lv_ rfl (.agg (pcs p).toArray) (la_ 0 0 hm6 Ty.ag_voxel_api_Point) ?_
 refine lp_ g2 0 ?_
 refine lv_ rfl (.int .i64 p.x) (ld_ 0 0 hm6) ?_
 refine lv_ rfl _ (ad_ p.x 1) ?_
 refine lp_ g2 1 ?_
 refine lv_ rfl (.int .i64 p.y) (ld_ 1 0 hm6) ?_
 refine lv_ rfl _ (ad_ p.y 1) ?_
 refine lp_ g2 2 ?_
 refine lv_ rfl (.int .i64 p.z) (ld_ 2 0 hm6) ?_
 refine lv_ rfl _ (ad_ p.z 1) ?_
 refine lk_ (.agg (pcs ⟨p.x + 1, p.y + 1, p.z + 1⟩).toArray) ?_
 refine lk_ (.agg (bxs ⟨p, ⟨p.x + 1, p.y + 1, p.z + 1⟩⟩).toArray) ?_
 refine plStore 1 Ty.ag_voxel_api_Box hm6 rfl (i := 12) (cs := bxs ⟨p, ⟨p.x + 1, p.y + 1, p.z + 1⟩⟩) rfl (wn rfl) rfl le_ le_ rfl rfl kr_ ?_
 intro w10 hm9
 clear hm6
 try simp only [lc_] at hm9
 refine qNone rfl ?_
 refine pt_ hK8 ?_
 refine wpPrune [(2, .pointer (some ⟨g5, 0, none⟩))] fo_ (fun X11 => ?_)
 refine wp_ret ?_
 refine bodyPost_ret (v := .agg (bxs ⟨p, ⟨p.x + 1, p.y + 1, p.z + 1⟩⟩).toArray) (gRes1 rfl (gResAg (cs := bxs ⟨p, ⟨p.x + 1, p.y + 1, p.z + 1⟩⟩) 1 hm9 rfl Ty.ag_voxel_api_Box rfl (lg_))) rfl ?_
 exact ⟨by rfl, hm9.bel⟩
theorem rcube4_any (w : World) : Calls Tryz.prog 24 #[.int .i64 4] w (RetV w (.agg (bxs (cubeB 4)).toArray)) := by
 have hm0 := Mem.nil w
 go_enter Tryz.func24, Tryz.ntmps24
 refine litStart 8 [(0, .int .i64 4)] kr_ (fun X0 => ?_)
 refine sp_ fun _ hK1 => ?_
 refine plAlloc (z := [.int .i64 0, .int .i64 0, .int .i64 0, .int .i64 0, .int .i64 0, .int .i64 0]) Ty.ag_voxel_api_Box hm0 (i := 0) rfl (wn rfl) rfl ?_
 intro g2 w4 hm3
 clear hm0
 try simp only [lc_] at hm3
 refine qP rfl ?_
 refine pt_ hK1 ?_
 refine sp_ fun _ hK5 => ?_
 refine li_ 4 ?_
 refine li_ 4 ?_
 refine li_ 4 ?_
 refine lk_ (.agg (pcs ⟨4, 4, 4⟩).toArray) ?_
 refine lk_ (.agg (bxs ⟨⟨0, 0, 0⟩, ⟨4, 4, 4⟩⟩).toArray) ?_
 refine plStore 0 Ty.ag_voxel_api_Box hm3 rfl (i := 5) (cs := bxs ⟨⟨0, 0, 0⟩, ⟨4, 4, 4⟩⟩) rfl (wn rfl) rfl le_ le_ rfl rfl kr_ ?_
 intro w7 hm6
 clear hm3
 try simp only [lc_] at hm6
 refine qNone rfl ?_
 refine pt_ hK5 ?_
 refine wp_ret ?_
 refine bodyPost_ret (v := .agg (bxs ⟨⟨0, 0, 0⟩, ⟨4, 4, 4⟩⟩).toArray) (gRes1 rfl (gResAg (cs := bxs ⟨⟨0, 0, 0⟩, ⟨4, 4, 4⟩⟩) 0 hm6 rfl Ty.ag_voxel_api_Box rfl (lg_))) rfl ?_
 exact ⟨by rfl, hm6.bel⟩
theorem rcube8_any (w : World) : Calls Tryz.prog 24 #[.int .i64 8] w (RetV w (.agg (bxs (cubeB 8)).toArray)) := by
 have hm0 := Mem.nil w
 go_enter Tryz.func24, Tryz.ntmps24
 refine litStart 8 [(0, .int .i64 8)] kr_ (fun X0 => ?_)
 refine sp_ fun _ hK1 => ?_
 refine plAlloc (z := [.int .i64 0, .int .i64 0, .int .i64 0, .int .i64 0, .int .i64 0, .int .i64 0]) Ty.ag_voxel_api_Box hm0 (i := 0) rfl (wn rfl) rfl ?_
 intro g2 w4 hm3
 clear hm0
 try simp only [lc_] at hm3
 refine qP rfl ?_
 refine pt_ hK1 ?_
 refine sp_ fun _ hK5 => ?_
 refine li_ 8 ?_
 refine li_ 8 ?_
 refine li_ 8 ?_
 refine lk_ (.agg (pcs ⟨8, 8, 8⟩).toArray) ?_
 refine lk_ (.agg (bxs ⟨⟨0, 0, 0⟩, ⟨8, 8, 8⟩⟩).toArray) ?_
 refine plStore 0 Ty.ag_voxel_api_Box hm3 rfl (i := 5) (cs := bxs ⟨⟨0, 0, 0⟩, ⟨8, 8, 8⟩⟩) rfl (wn rfl) rfl le_ le_ rfl rfl kr_ ?_
 intro w7 hm6
 clear hm3
 try simp only [lc_] at hm6
 refine qNone rfl ?_
 refine pt_ hK5 ?_
 refine wp_ret ?_
 refine bodyPost_ret (v := .agg (bxs ⟨⟨0, 0, 0⟩, ⟨8, 8, 8⟩⟩).toArray) (gRes1 rfl (gResAg (cs := bxs ⟨⟨0, 0, 0⟩, ⟨8, 8, 8⟩⟩) 0 hm6 rfl Ty.ag_voxel_api_Box rfl (lg_))) rfl ?_
 exact ⟨by rfl, hm6.bel⟩
theorem count0_any (k : Nat) (w : World) : Calls Tryz.prog 100 #[.agg (tlc (tlK k)).toArray] w (RetV w (.int .i64 64)) := by
 have hm0 := Mem.nil w
 go_enter Tryz.func100, Tryz.ntmps100
 refine litStart 8 [(0, .agg (tlc (tlK k)).toArray)] kr_ (fun X0 => ?_)
 refine sp_ fun _ hK1 => ?_
 refine plBox hm0 (cs := tlc (tlK k)) (i := 0) rfl (wn rfl) rfl le_ ?_
 intro g2 w4 hm3
 clear hm0
 try simp only [lc_] at hm3
 refine qP rfl ?_
 refine li_ 0 ?_
 refine pt_ hK1 ?_
 refine sp_ fun _ hK5 => ?_
 refine lp_ g2 0 ?_
 refine lv_ rfl (.int .i64 0) (ld_ 0 0 hm3) ?_
 refine li_ 2 ?_
 refine li_ 6 ?_
 refine li_ 64 ?_
 refine li_ 64 ?_
 refine pt_ hK5 ?_
 refine wp_ret ?_
 refine br_ 2 (.int .i64 64) ?_
 exact ⟨by rfl, hm3.bel⟩
theorem frow_any (n : Nat) (hn : n ≤ 8) (w : World) : Calls Tryz.prog 71 #[.agg (tlc (tlK 0)).toArray, .int .i64 (n : Int)] w (fun e w' => ∃ v, e = .returned v ∧ w'.ownsRow w.heap.size 63 4 v n (tlsC (planL n)) ∧ Below w.heap.size w w') := by
 have hm0 := Mem.nil w
 go_enter Tryz.func71, Tryz.ntmps71
 refine litStart 36 [(0, .agg (tlc (tlK 0)).toArray), (1, .int .i64 (n : Int))] kr_ (fun X0 => ?_)
 refine sp_ fun _ hK1 => ?_
 refine plBox hm0 (cs := tlc (tlK 0)) (i := 0) rfl (wn rfl) rfl le_ ?_
 intro g2 w4 hm3
 clear hm0
 try simp only [lc_] at hm3
 refine qP rfl ?_
 refine lk_ (.slice none 0 0) ?_
 refine pt_ hK1 ?_
 refine sp_ fun _ hK5 => ?_
 refine lk_ (.slice none 0 0) ?_
 refine pt_ hK5 ?_
 refine sp_ fun _ hK6 => ?_
 refine lp_ g2 1 ?_
 refine lv_ rfl (.agg (pcs (tlP 0)).toArray) (la_ 1 0 hm3 Ty.ag_voxel_api_Point) ?_
 refine plCall (i := 2) 98 [.agg (pcs (tlP 0)).toArray] [] [] rfl kr_ (wn rfl) rfl le_ (litArgs kr_) (encT_any _) ?_
 rintro e w7 ⟨rfl, hbz⟩
 have hm8 := hm3.below hbz
 clear hbz hm3
 refine ⟨_, rfl, ?_⟩
 refine qP rfl ?_
 refine li_ 0 ?_
 refine pt_ hK6 ?_
 refine sk_ fun _ hK9 => ?_
 refine sp_ fun _ hK10 => ?_
 refine li_ n ?_
 refine li_ 0 ?_
 refine pt_ hK10 ?_
 refine wp_block ?_
 have hm11 := Mem.nilFront hm8 63 4
 clear hm8
 refine gwLoop (fun n_ a_ w_ => ∃ (k : Nat) (A : Option Addr) (c : Nat), n_ = n - k ∧ (k ≤ n) ∧ Fr a_ 36 [(2, .pointer (some ⟨g2, 0, none⟩)), (4, .slice none 0 0), (5, .slice A k c), (6, .int .i64 0), (13, .int .i64 (n : Int)), (14, .int .i64 (k : Int))] ∧ Mem w w_ [.row (.slice A k c) 63 4 k (tlsC (planL k)), .arr g2 63 (tlc (tlK 0))]) (n - 0) ⟨0, none, 0, rfl, (Nat.zero_le _), ⟨litSize, rfl, fo_⟩, hm11⟩ ?_
 clear hm11
 intro n_ a14 w12 hI_
 obtain ⟨k, A, c, rfl, hk, hF_, hm13⟩ := hI_
 obtain ⟨X15, rfl⟩ := frLit hF_
 clear hF_
 refine sp_ fun _ hK16 => ?_
 by_cases h17 : (k : Int) < (n : Int)
 ·refine lv_ rfl _ (lsT_ h17) ?_
  refine pt_ hK16 ?_
  refine sk_ fun _ hK18 => ?_
  refine wp_cond_true le_ ?_
  refine wp_skip ?_
  refine tn_ hK18 ?_
  refine sk_ fun _ hK19 => ?_
  refine wp_block ?_
  refine sp_ fun _ hK20 => ?_
  refine li_ k ?_
  refine li_ k ?_
  refine pt_ hK20 ?_
  refine sp_ fun _ hK21 => ?_
  refine li_ 0 ?_
  refine li_ k ?_
  refine lv_ rfl (.agg (tlc (tlK 0)).toArray) (la_ 0 1 hm13 Ty.ag_voxel_api_Tile) ?_
  refine plCall (i := 3) 100 [.agg (tlc (tlK 0)).toArray] [] [] rfl kr_ (wn rfl) rfl le_ (litArgs kr_) (count0_any 0 _) ?_
  rintro e w22 ⟨rfl, hbz⟩
  have hm23 := hm13.below hbz
  clear hbz hm13
  refine ⟨_, rfl, ?_⟩
  refine qP rfl ?_
  refine lv_ rfl (.int .i64 ((k : Int) * 64)) (mulRun (A := (k : Int)) (B := 64) (C := (k : Int) * 64) (.tmp 19) (.tmp 21) rfl le_ le_ rfl (by omega)) ?_
  refine lv_ rfl _ (ad_ 0 ((k : Int) * 64)) ?_
  refine plCall (i := 6) 99 [.int .i64 (0 + ((k : Int) * 64))] [] [] rfl kr_ (wn rfl) rfl le_ (litArgs kr_) (decT_any k (by omega) _) ?_
  rintro e w24 ⟨rfl, hbz⟩
  have hm25 := hm23.below hbz
  clear hbz hm23
  refine ⟨_, rfl, ?_⟩
  refine qP rfl ?_
  refine lk_ (.tuple #[.agg (pcs (tlP k)).toArray, .bool true]) ?_
  refine lk_ (.agg (pcs (tlP k)).toArray) ?_
  refine lT_ ?_
  refine plAlloc (z := [.int .i64 0, .int .i64 0, .int .i64 0]) Ty.ag_voxel_api_Point hm25 (i := 10) rfl (wn rfl) rfl ?_
  intro g26 w28 hm27
  clear hm25
  try simp only [lc_] at hm27
  refine qP rfl ?_
  refine plStore 2 Ty.ag_voxel_api_Point hm27 rfl (i := 11) (cs := pcs (tlP k)) rfl (wn rfl) rfl le_ le_ rfl rfl kr_ ?_
  intro w30 hm29
  clear hm27
  try simp only [lc_] at hm29
  refine qNone rfl ?_
  refine lT_ ?_
  refine pt_ hK21 ?_
  refine plStart ?_
  refine lk_ (.slice A k c) ?_
  refine lp_ g2 0 ?_
  refine lv_ rfl (.int .i64 0) (ld_ 0 1 hm29) ?_
  refine lv_ rfl (.agg (pcs (tlP k)).toArray) (la_ 0 2 hm29 Ty.ag_voxel_api_Point) ?_
  refine lk_ (.agg ([.int .i64 0, .int .i64 ((tlP k).x), .int .i64 ((tlP k).y), .int .i64 ((tlP k).z)]).toArray) ?_
  refine plLit (cs := [.int .i64 0, .int .i64 ((tlP k).x), .int .i64 ((tlP k).y), .int .i64 ((tlP k).z)]) (n := 1) Ty.sl_L_api_Tile hm29 (i := 5) rfl (wn rfl) rfl (by decide) (by decide) (by rw [lit_eval]; kernel_rfl) ?_
  intro g31 w33 hm32
  clear hm29
  try simp only [lc_] at hm32
  refine qP rfl ?_
  refine plApp1 (v := .slice A k c) (n := k) (xs := tlsC (planL k)) (ys := [.int .i64 0, .int .i64 ((tlP k).x), .int .i64 ((tlP k).y), .int .i64 ((tlP k).z)]) 0 3 Ty.sl_L_api_Tile hm32 rfl rfl (i := 6) rfl (wn rfl) rfl le_ le_ kr_ kr_ (by omega) (by omega) ?_
  intro v38 w35 hm34
  clear hm32
  try simp only [lc_] at hm34
  replace hm34 := Mem.rowEq (v := v38) (e := 63) (size := 4) (n := k + 1) (n' := (k + 1)) (xs := (tlsC (planL k)) ++ ([.int .i64 0, .int .i64 ((tlP k).x), .int .i64 ((tlP k).y), .int .i64 ((tlP k).z)])) (xs' := tlsC (planL (k + 1))) 0 hm34 rfl (by rfl) (by rw [planL_succ, tlsC_app]; rfl)
  try simp only [lc_] at hm34
  obtain ⟨A36, c37, rfl⟩ := Mem.rowSl (v := v38) (e := 63) (size := 4) (n := (k + 1)) (xs := tlsC (planL (k + 1))) 0 hm34 rfl
  refine qP rfl ?_
  refine lk_ (.slice A36 (k + 1) c37) ?_
  refine plD ?_
  refine inBlock_normal ?_
  refine tn_ hK19 ?_
  refine plStart ?_
  refine lv_ rfl _ (ad_ (k : Int) 1) ?_
  refine li_ ((k : Int) + 1) ?_
  refine plD ?_
  refine then_normal ?_
  exact ⟨_, by omega, (k + 1), A36, c37, rfl, (by omega), ⟨litSize, rfl, fo_⟩, (hm34.sub (.cons_cons _ (.cons_cons _ (.cons _ (.cons _ .slnil)))))⟩
 refine lv_ rfl _ (lsF_ h17) ?_
 refine pt_ hK16 ?_
 refine sk_ fun _ hK39 => ?_
 refine wp_cond_false le_ ?_
 refine wp_exit ?_
 refine then_exit ?_
 refine then_exit ?_
 refine inBlock_exit ?_
 refine tn_ hK9 ?_
 refine sp_ fun _ hK40 => ?_
 refine lk_ (.slice A k c) ?_
 refine lk_ (.slice A k c) ?_
 refine pt_ hK40 ?_
 refine wp_ret ?_
 refine br_ 4 (.slice A k c) ?_
 obtain rfl : k = n := by omega
 exact ⟨_, rfl, hm13.row 0 rfl, hm13.bel⟩
theorem uniform2_any (w : World) : Calls Tryz.prog 25 #[.int .i64 2, .int .i64 0] w (fun e w' => ∃ v, e = .returned (.tuple #[v, .int .i64 0]) ∧ w'.ownsRow w.heap.size 63 4 v 1 (tlsC (planL 1)) ∧ Below w.heap.size w w') := by
 have hm0 := Mem.nil w
 go_enter Tryz.func25, Tryz.ntmps25
 refine litStart 35 [(0, .int .i64 2), (1, .int .i64 0)] kr_ (fun X0 => ?_)
 refine sp_ fun _ hK1 => ?_
 refine lk_ (.slice none 0 0) ?_
 refine li_ 0 ?_
 refine pt_ hK1 ?_
 refine sk_ fun _ hK2 => ?_
 refine wp_block ?_
 refine sp_ fun _ hK3 => ?_
 refine li_ 2 ?_
 refine lF_ ?_
 refine lF_ ?_
 refine lw_ rfl (.int .i64 2) (litRun kr_) ?_
 refine lw_ rfl (.bool false) (litRun kr_) ?_
 refine lF_ ?_
 refine lF_ ?_
 refine pt_ hK3 ?_
 refine wp_cond_false le_ ?_
 refine sp_ fun _ hK4 => ?_
 refine li_ 0 ?_
 refine lF_ ?_
 refine lF_ ?_
 refine lw_ rfl (.int .i64 0) (litRun kr_) ?_
 refine lw_ rfl (.int .i64 2) (litRun kr_) ?_
 refine lw_ rfl (.int .i64 0) (litRun kr_) ?_
 refine lw_ rfl (.bool false) (litRun kr_) ?_
 refine lF_ ?_
 refine lF_ ?_
 refine pt_ hK4 ?_
 refine wpPrune [(0, .int .i64 2), (1, .int .i64 0), (4, .slice none 0 0), (5, .int .i64 0), (14, .bool false)] fo_ (fun X5 => ?_)
 refine wp_cond_false le_ ?_
 refine wp_skip ?_
 refine inBlock_normal ?_
 refine tn_ hK2 ?_
 refine sp_ fun _ hK6 => ?_
 refine li_ 2 ?_
 refine li_ 0 ?_
 refine li_ 0 ?_
 refine li_ 0 ?_
 refine li_ 0 ?_
 refine li_ 1 ?_
 refine li_ 1 ?_
 refine pt_ hK6 ?_
 refine sk_ fun _ hK7 => ?_
 refine sp_ fun _ hK8 => ?_
 refine li_ 1 ?_
 refine lF_ ?_
 refine pt_ hK8 ?_
 refine wp_cond_false le_ ?_
 refine wp_skip ?_
 refine tn_ hK7 ?_
 refine sp_ fun _ hK9 => ?_
 refine li_ 0 ?_
 refine lk_ (.agg ([.int .i64 0, .int .i64 0, .int .i64 0, .int .i64 0]).toArray) ?_
 refine li_ 1 ?_
 refine plCall (i := 3) 71 [.agg ([.int .i64 0, .int .i64 0, .int .i64 0, .int .i64 0]).toArray, .int .i64 1] [] [] rfl kr_ (wn rfl) rfl le_ (litArgs kr_) (by exact frow_any 1 (by decide) _) ?_
 rintro e w10 ⟨v_, rfl, hown_, hbz⟩
 obtain ⟨pA, pc, rfl, hrd_⟩ := Rd.of_own hown_
 clear hrd_
 replace hown_ : World.ownsRow w10 _ 63 4 _ 1 (tlsC (planL 1)) := hown_
 have hm11 := hm0.newRow hbz hown_
 clear hown_ hbz hm0
 try simp only [lc_] at hm11
 refine ⟨_, rfl, ?_⟩
 refine qP rfl ?_
 refine lk_ (.slice pA 1 pc) ?_
 refine li_ 0 ?_
 refine pt_ hK9 ?_
 refine wpPrune [(4, .slice pA 1 pc), (5, .int .i64 0)] fo_ (fun X12 => ?_)
 refine wp_ret ?_
 refine bodyPost_ret (v := .tuple #[.slice pA 1 pc, .int .i64 0]) (gRes2 rfl (gResTmp (t := 4) (v := .slice pA 1 pc) (lg_)) (gResTmp (t := 5) (v := .int .i64 0) (lg_))) rfl ?_
 exact ⟨_, rfl, hm11.row 0 rfl, hm11.bel⟩
theorem uniform3_any (w : World) : Calls Tryz.prog 25 #[.int .i64 3, .int .i64 0] w (fun e w' => ∃ v, e = .returned (.tuple #[v, .int .i64 0]) ∧ w'.ownsRow w.heap.size 63 4 v 8 (tlsC (planL 8)) ∧ Below w.heap.size w w') := by
 have hm0 := Mem.nil w
 go_enter Tryz.func25, Tryz.ntmps25
 refine litStart 35 [(0, .int .i64 3), (1, .int .i64 0)] kr_ (fun X0 => ?_)
 refine sp_ fun _ hK1 => ?_
 refine lk_ (.slice none 0 0) ?_
 refine li_ 0 ?_
 refine pt_ hK1 ?_
 refine sk_ fun _ hK2 => ?_
 refine wp_block ?_
 refine sp_ fun _ hK3 => ?_
 refine li_ 3 ?_
 refine lF_ ?_
 refine lF_ ?_
 refine lw_ rfl (.int .i64 3) (litRun kr_) ?_
 refine lw_ rfl (.bool false) (litRun kr_) ?_
 refine lF_ ?_
 refine lF_ ?_
 refine pt_ hK3 ?_
 refine wp_cond_false le_ ?_
 refine sp_ fun _ hK4 => ?_
 refine li_ 0 ?_
 refine lF_ ?_
 refine lF_ ?_
 refine lw_ rfl (.int .i64 0) (litRun kr_) ?_
 refine lw_ rfl (.int .i64 3) (litRun kr_) ?_
 refine lw_ rfl (.int .i64 1) (litRun kr_) ?_
 refine lw_ rfl (.bool false) (litRun kr_) ?_
 refine lF_ ?_
 refine lF_ ?_
 refine pt_ hK4 ?_
 refine wpPrune [(0, .int .i64 3), (1, .int .i64 0), (4, .slice none 0 0), (5, .int .i64 0), (14, .bool false)] fo_ (fun X5 => ?_)
 refine wp_cond_false le_ ?_
 refine wp_skip ?_
 refine inBlock_normal ?_
 refine tn_ hK2 ?_
 refine sp_ fun _ hK6 => ?_
 refine li_ 3 ?_
 refine li_ 1 ?_
 refine li_ 0 ?_
 refine li_ 1 ?_
 refine li_ 3 ?_
 refine li_ 8 ?_
 refine li_ 8 ?_
 refine pt_ hK6 ?_
 refine sk_ fun _ hK7 => ?_
 refine sp_ fun _ hK8 => ?_
 refine li_ 8 ?_
 refine lF_ ?_
 refine pt_ hK8 ?_
 refine wp_cond_false le_ ?_
 refine wp_skip ?_
 refine tn_ hK7 ?_
 refine sp_ fun _ hK9 => ?_
 refine li_ 0 ?_
 refine lk_ (.agg ([.int .i64 0, .int .i64 0, .int .i64 0, .int .i64 0]).toArray) ?_
 refine li_ 8 ?_
 refine plCall (i := 3) 71 [.agg ([.int .i64 0, .int .i64 0, .int .i64 0, .int .i64 0]).toArray, .int .i64 8] [] [] rfl kr_ (wn rfl) rfl le_ (litArgs kr_) (by exact frow_any 8 (by decide) _) ?_
 rintro e w10 ⟨v_, rfl, hown_, hbz⟩
 obtain ⟨pA, pc, rfl, hrd_⟩ := Rd.of_own hown_
 clear hrd_
 replace hown_ : World.ownsRow w10 _ 63 4 _ 8 (tlsC (planL 8)) := hown_
 have hm11 := hm0.newRow hbz hown_
 clear hown_ hbz hm0
 try simp only [lc_] at hm11
 refine ⟨_, rfl, ?_⟩
 refine qP rfl ?_
 refine lk_ (.slice pA 8 pc) ?_
 refine li_ 0 ?_
 refine pt_ hK9 ?_
 refine wpPrune [(4, .slice pA 8 pc), (5, .int .i64 0)] fo_ (fun X12 => ?_)
 refine wp_ret ?_
 refine bodyPost_ret (v := .tuple #[.slice pA 8 pc, .int .i64 0]) (gRes2 rfl (gResTmp (t := 4) (v := .slice pA 8 pc) (lg_)) (gResTmp (t := 5) (v := .int .i64 0) (lg_))) rfl ?_
 exact ⟨_, rfl, hm11.row 0 rfl, hm11.bel⟩
theorem rcubeS_any {d sd : Int} {n : Nat} (hd : (d = 2 ∧ n = 1 ∧ sd = 4) ∨ (d = 3 ∧ n = 8 ∧ sd = 8)) (w : World) : Calls Tryz.prog 24 #[.int .i64 sd] w (RetV w (.agg (bxs (cubeB sd)).toArray)) := by
 rcases hd with ⟨rfl, rfl, rfl⟩ | ⟨rfl, rfl, rfl⟩
 ·exact rcube4_any w
 ·exact rcube8_any w
theorem uniformD_any {d sd : Int} {n : Nat} (hd : (d = 2 ∧ n = 1 ∧ sd = 4) ∨ (d = 3 ∧ n = 8 ∧ sd = 8)) (w : World) : Calls Tryz.prog 25 #[.int .i64 d, .int .i64 0] w (fun e w' => ∃ v, e = .returned (.tuple #[v, .int .i64 0]) ∧ w'.ownsRow w.heap.size 63 4 v n (tlsC (planL n)) ∧ Below w.heap.size w w') := by
 rcases hd with ⟨rfl, rfl, rfl⟩ | ⟨rfl, rfl, rfl⟩
 ·exact uniform2_any w
 ·exact uniform3_any w
def cellI (g : Gr) (k i : Nat) : List Int := (List.range i).map fun i => g.get (posP k i)
def cellsG (g : Gr) (n : Nat) : List (List Int) := (List.range n).map fun k => cellI g k 64
theorem cellI_succ (g : Gr) (k i : Nat) : cellI g k (i + 1) = cellI g k i ++ [g.get (posP k i)] := by unfold cellI; rw [List.range_succ, List.map_append]; rfl
theorem cellsG_succ (g : Gr) (n : Nat) : cellsG g (n + 1) = cellsG g n ++ [cellI g n 64] := by unfold cellsG; rw [List.range_succ, List.map_append]; rfl
theorem addP_any (k i : Nat) (hi : i < 64) (w : World) : Calls Tryz.prog 27 #[.agg (pcs (tlP k)).toArray, .agg (pcs ⟨(i : Int) % 4, (i : Int) / 4 % 4, (i : Int) / 16⟩).toArray] w (RetV w (.agg (pcs (posP k i)).toArray)) := by
 have e : (⟨(i : Int) % 4, (i : Int) / 4 % 4, (i : Int) / 16⟩ : Pt) = brk i := by unfold brk; simp only [Pt.mk.injEq]; omega
 have h1 := tlP_bd k
 have h2 := brk_bd hi
 rw [e]
 exact add_any (tlP k) (brk i) (by omega) (by omega) (by omega) w
def toSl (e : Ent) : Sl3 := ⟨e.A, e.c, e.ids⟩
theorem slV_of {e : Ent} (h : e.ids.length = 64) : slV (toSl e) = entV e := by unfold slV toSl entV; rw [h]
theorem slsC_of {Es : List Ent} (h : ∀ e ∈ Es, e.ids.length = 64) : slsC (Es.map toSl) = Es.map entV := by
 unfold slsC
 rw [List.map_map]
 exact List.map_congr_left fun e he => slV_of (h e he)
theorem Mem.cellsIn {w0 w : World} {L : List Res} {A : Option Addr} {c : Nat} {t : TypeId} {Es : List Ent} (h : Mem w0 w L) (j : Nat) (hj : L[j]? = some (.row (.slice A Es.length c) t 1 Es.length (Es.map entV))) (hE : ∀ e ∈ Es, rowE e ∈ L) (h64 : ∀ e ∈ Es, e.ids.length = 64) : CellsIn w A c (Es.map toSl) := by
 refine ⟨?_, fun x hx => ?_⟩
 ·rw [slsC_of h64, List.length_map]; exact h.rdRow j hj
 ·obtain ⟨e, he, rfl⟩ := List.mem_map.1 hx
  have h1 := h.entRd (hE e he)
  have h2 := h64 e he
  rw [h2] at h1
  exact ⟨h2, h1⟩
theorem cells_64 {g : Gr} {n : Nat} {Es : List Ent} (h : Es.map (·.ids) = cellsG g n) : ∀ e ∈ Es, e.ids.length = 64 := by
 intro e he
 have h2 : e.ids ∈ cellsG g n := by rw [← h]; exact List.mem_map_of_mem he
 unfold cellsG at h2
 obtain ⟨k, _, hk⟩ := List.mem_map.1 h2
 rw [← hk]; simp [cellI]
theorem fulld_any (g : Gr) (A : Option Addr) (c : Nat) (d sd : Int) (n : Nat) (hd : (d = 2 ∧ n = 1 ∧ sd = 4) ∨ (d = 3 ∧ n = 8 ∧ sd = 8)) (w : World) (hrd : Rd w w.heap.size 1 A g.cells.length c (ics g.cells)) : Calls Tryz.prog 6 #[.agg (gcs g A c).toArray, .int .i64 d] w (fun e w' => (¬ (g.Valid ∧ g.box = cubeB sd) ∧ e = .returned (.tuple #[.slice none 0 0, .slice none 0 0, .bool false]) ∧ Below w.heap.size w w') ∨ ((g.Valid ∧ g.box = cubeB sd) ∧ ∃ (Es : List Ent) (A1 A2 : Option Addr) (c1 c2 : Nat), e = .returned (.tuple #[.slice A1 n c1, .slice A2 Es.length c2, .bool true]) ∧ Es.map (·.ids) = cellsG g n ∧ Mem w w' (.row (.slice A2 Es.length c2) 26 1 Es.length (Es.map entV) :: .row (.slice A1 n c1) 63 4 n (tlsC (planL n)) :: Es.map rowE))) := by
 have hm0 := Mem.nil w
 go_enter Tryz.func6, Tryz.ntmps6
 refine litStart 74 [(0, .agg (gcs g A c).toArray), (1, .int .i64 d)] kr_ (fun X0 => ?_)
 refine sp_ fun _ hK1 => ?_
 refine plBox hm0 (cs := gcs g A c) (i := 0) rfl (wn rfl) rfl le_ ?_
 intro g2 w4 hm3
 clear hm0
 try simp only [lc_] at hm3
 refine qP rfl ?_
 refine lk_ (.slice none 0 0) ?_
 refine lk_ (.slice none 0 0) ?_
 refine lF_ ?_
 refine pt_ hK1 ?_
 refine sk_ fun _ hK5 => ?_
 refine sk_ fun _ hK6 => ?_
 refine mgStart hm3 kr_ ?_
 intro w8 hm7
 clear hm3
 refine mk_ (i := 0) (v := .int .i64 d) rfl rfl (fun _ _ _ h => h) hm7 rfl ?_
 refine mt_ 1 rfl (.bool false) hm7 (fun w_ h_ => lsF_ (show ¬ d < 2 by omega)) ?_
 refine mk_ (i := 2) (v := .bool false) rfl rfl (fun _ _ _ h => h) hm7 rfl ?_
 refine mgTake (i := 3) (v := .int .i64 d) rfl kr_ (wgY rfl rfl rfl (by decide) kr_) (fun _ _ _ h => h) hm7 (fun w_ h_ => litRun kr_) ?_
 refine mP rfl ?_
 refine mgTake (i := 4) (v := .bool false) rfl kr_ (wgY rfl rfl rfl (by decide) kr_) (fun _ _ _ h => h) hm7 (fun w_ h_ => boolTo (decide_eq_false (show ¬ 3 < d by omega)) (gtrRun (A := d) (B := 3) (.tmp 16) (.const (.int .i64 3)) rfl le_ le_)) ?_
 refine mP rfl ?_
 refine mk_ (i := 5) (v := .bool false) rfl rfl (fun _ _ _ h => h) hm7 rfl ?_
 refine mk_ (i := 6) (v := .bool false) rfl rfl (fun _ _ _ h => h) hm7 rfl ?_
 refine mgTake (i := 7) (v := .agg (gcs g A c).toArray) rfl kr_ (wgY rfl rfl rfl (by decide) kr_) (fun _ _ _ h => h) hm7 (fun w_ h_ => gLoadAg (vs := gcs g A c) (k := 0) 0 h_ rfl kr_ kr_ (.tmp 2) Ty.ag_voxel_api_Grid rfl le_) ?_
 refine mP rfl ?_
 refine mgCall (i := 8) 23 [.agg (gcs g A c).toArray] [] [] kr_ rfl kr_ (wgY rfl rfl rfl (by decide) kr_) rfl le_ (litArgs kr_) (valid_any g A c _ ((Rd.below hrd hm7.bel).more hm7.bel.size)) ?_
 rintro e w9 ⟨rfl, hbz⟩
 have hm10 := hm7.below hbz
 clear hbz hm7
 refine ⟨_, rfl, hm10, ?_⟩
 refine mP rfl ?_
 rcases bool_or (decide g.Valid) with h11 | h11
 ·rw [h11]
  refine mgTake (i := 9) (v := .bool true) rfl kr_ (wgY rfl rfl rfl (by decide) kr_) (fun _ _ _ h => h) hm10 (fun w_ h_ => litRun kr_) ?_
  refine mP rfl ?_
  refine mk_ (i := 10) (v := .bool true) rfl rfl (fun _ _ _ h => h) hm10 rfl ?_
  refine mk_ (i := 11) (v := .bool true) rfl rfl (fun _ _ _ h => h) hm10 rfl ?_
  refine mgSkip (i := 12) rfl kr_ (wgN rfl rfl rfl (by decide) kr_) (fun _ _ _ h => h) hm10 ?_
  refine mP rfl ?_
  refine mgSkip (i := 13) rfl kr_ (wgN rfl rfl rfl (by decide) kr_) (fun _ _ _ h => h) hm10 ?_
  refine mP rfl ?_
  refine mgSkip (i := 14) rfl kr_ (wgN rfl rfl rfl (by decide) kr_) (fun _ _ _ h => h) hm10 ?_
  refine mP rfl ?_
  refine mgSkip (i := 15) rfl kr_ (wgN rfl rfl rfl (by decide) kr_) (fun _ _ _ h => h) hm10 ?_
  refine mP rfl ?_
  refine mgSkip (i := 16) rfl kr_ (wgN rfl rfl rfl (by decide) kr_) (fun _ _ _ h => h) hm10 ?_
  refine mP rfl ?_
  refine mgSkip (i := 17) rfl kr_ (wgN rfl rfl rfl (by decide) kr_) (fun _ _ _ h => h) hm10 ?_
  refine mP rfl ?_
  refine mk_ (i := 18) (v := .bool true) rfl rfl (fun _ _ _ h => h) hm10 rfl ?_
  refine mgDone kr_ ?_
  refine tn_ hK6 ?_
  refine wpPrune [(1, .int .i64 d), (2, .pointer (some ⟨g2, 0, none⟩)), (4, .slice none 0 0), (5, .slice none 0 0), (6, .bool false), (31, .bool true)] fo_ (fun X12 => ?_)
  refine wp_cond_true le_ ?_
  refine sp_ fun _ hK13 => ?_
  refine lk_ (.slice none 0 0) ?_
  refine lk_ (.slice none 0 0) ?_
  refine lF_ ?_
  refine pt_ hK13 ?_
  refine wp_ret ?_
  refine then_ret ?_
  refine bodyPost_ret (v := .tuple #[.slice none 0 0, .slice none 0 0, .bool false]) (gRes3 rfl (gResTmp (t := 4) (v := .slice none 0 0) (lg_)) (gResTmp (t := 5) (v := .slice none 0 0) (lg_)) (gResTmp (t := 6) (v := .bool false) (lg_))) rfl ?_
  exact Or.inl ⟨fun h_ => of_decide_eq_false h11 h_.1, rfl, hm10.bel⟩
 rw [h11]
 have hvd_ : g.Valid := of_decide_eq_true h11
 refine mgTake (i := 9) (v := .bool false) rfl kr_ (wgY rfl rfl rfl (by decide) kr_) (fun _ _ _ h => h) hm10 (fun w_ h_ => litRun kr_) ?_
 refine mP rfl ?_
 refine mk_ (i := 10) (v := .bool false) rfl rfl (fun _ _ _ h => h) hm10 rfl ?_
 refine mk_ (i := 11) (v := .bool false) rfl rfl (fun _ _ _ h => h) hm10 rfl ?_
 refine mgTake (i := 12) (v := .pointer (some ⟨g2, 0, none⟩)) rfl kr_ (wgY rfl rfl rfl (by decide) kr_) (fun _ _ _ h => h) hm10 (fun w_ h_ => litRun kr_) ?_
 refine mP rfl ?_
 refine mgTake (i := 13) (v := .agg (bxs g.box).toArray) rfl kr_ (wgY rfl rfl rfl (by decide) kr_) (fun _ _ _ h => h) hm10 (fun w_ h_ => gLoadAg (vs := bxs g.box) (k := 0) 0 h_ rfl kr_ kr_ (.tmp 25) Ty.ag_voxel_api_Box rfl le_) ?_
 refine mP rfl ?_
 refine mgTake (i := 14) (v := .int .i64 d) rfl kr_ (wgY rfl rfl rfl (by decide) kr_) (fun _ _ _ h => h) hm10 (fun w_ h_ => litRun kr_) ?_
 refine mP rfl ?_
 refine mgTake (i := 15) (v := .int .i64 sd) rfl kr_ (wgY rfl rfl rfl (by decide) kr_) (fun _ _ _ h => h) hm10 (fun w_ h_ => by rcases hd with ⟨rfl, rfl, rfl⟩ | ⟨rfl, rfl, rfl⟩ <;> exact litRun kr_) ?_
 refine mP rfl ?_
 refine mgCall (i := 16) 24 [.int .i64 sd] [] [] kr_ rfl kr_ (wgY rfl rfl rfl (by decide) kr_) rfl le_ (litArgs kr_) (rcubeS_any hd _) ?_
 rintro e w14 ⟨rfl, hbz⟩
 have hm15 := hm10.below hbz
 clear hbz hm10
 refine ⟨_, rfl, hm15, ?_⟩
 refine mP rfl ?_
 by_cases h16 : g.box = (cubeB sd)
 ·refine mgTake (i := 17) (v := .bool false) rfl kr_ (wgY rfl rfl rfl (by decide) kr_) (fun _ _ _ h => h) hm15 (fun w_ h_ => boolTo (by rw [decide_eq_true h16]; rfl) (neqAgRun 2 (.tmp 26) (.tmp 29) (bxs g.box) (bxs (cubeB sd)) (decide (g.box = (cubeB sd))) (by rw [decide_eq_true_iff, bxs_inj]) kr_ rfl kr_ kr_ kr_ kr_ rfl le_ le_)) ?_
  refine mP rfl ?_
  refine mk_ (i := 18) (v := .bool false) rfl rfl (fun _ _ _ h => h) hm15 rfl ?_
  refine mgDone kr_ ?_
  refine tn_ hK6 ?_
  refine wpPrune [(1, .int .i64 d), (2, .pointer (some ⟨g2, 0, none⟩)), (4, .slice none 0 0), (5, .slice none 0 0), (6, .bool false), (31, .bool false)] fo_ (fun X17 => ?_)
  refine wp_cond_false le_ ?_
  refine wp_skip ?_
  refine tn_ hK5 ?_
  refine sp_ fun _ hK18 => ?_
  refine li_ d ?_
  refine plCall (i := 1) 25 [.int .i64 d, .int .i64 0] [] [] rfl kr_ (wn rfl) rfl le_ (litArgs kr_) (uniformD_any hd _) ?_
  rintro e w19 ⟨v_, rfl, hown_, hbz⟩
  obtain ⟨pA, pc, rfl, hrd_⟩ := Rd.of_own hown_
  clear hrd_
  replace hown_ : World.ownsRow w19 _ 63 4 _ n (tlsC (planL n)) := hown_
  have hm20 := hm15.newRow hbz hown_
  clear hown_ hbz hm15
  try simp only [lc_] at hm20
  obtain ⟨b21, rfl⟩ := hm20.rowBlk (A := pA) (n := n) (c := pc) 1 rfl (by omega)
  refine ⟨_, rfl, ?_⟩
  refine qP rfl ?_
  refine lk_ (.tuple #[.slice (some ⟨b21, 0, none⟩) n pc, .int .i64 0]) ?_
  refine lk_ (.slice (some ⟨b21, 0, none⟩) n pc) ?_
  refine li_ 0 ?_
  refine lk_ (.slice (some ⟨b21, 0, none⟩) n pc) ?_
  refine li_ 0 ?_
  refine pt_ hK18 ?_
  refine sk_ fun _ hK22 => ?_
  refine sp_ fun _ hK23 => ?_
  refine li_ 0 ?_
  refine lF_ ?_
  refine pt_ hK23 ?_
  refine wp_cond_false le_ ?_
  refine wp_skip ?_
  refine tn_ hK22 ?_
  refine sp_ fun _ hK24 => ?_
  refine lk_ (.slice none 0 0) ?_
  refine pt_ hK24 ?_
  refine sk_ fun _ hK25 => ?_
  refine sp_ fun _ hK26 => ?_
  refine li_ 0 ?_
  refine pt_ hK26 ?_
  refine wp_block ?_
  have hm27 := Mem.nilFront hm20 26 1
  clear hm20
  refine gwLoop (fun n_ a_ w_ => ∃ (k : Nat) (A2 : Option Addr) (c2 : Nat) (Es : List Ent), n_ = n - k ∧ (k ≤ n) ∧ (Es.map (·.ids) = cellsG g k) ∧ Fr a_ 74 [(2, .pointer (some ⟨g2, 0, none⟩)), (4, .slice none 0 0), (5, .slice none 0 0), (6, .bool false), (7, .slice (some ⟨b21, 0, none⟩) n pc), (9, .slice A2 Es.length c2), (10, .int .i64 (k : Int))] ∧ Mem w w_ ((.row (.slice A2 Es.length c2) 26 1 Es.length (Es.map entV)) :: (.arr g2 28 (gcs g A c)) :: (.row (.slice (some ⟨b21, 0, none⟩) n pc) 63 4 n (tlsC (planL n))) :: (Es.map rowE))) (n - 0) ⟨0, none, 0, [], rfl, (Nat.zero_le _), rfl, ⟨litSize, rfl, fo_⟩, (hm27.sub (.cons_cons _ (.cons_cons _ (.cons_cons _ (List.Sublist.refl _)))))⟩ ?_
  clear hm27
  intro n_ a30 w28 hI_
  obtain ⟨k, A2, c2, Es, rfl, hk, hE, hF_, hm29⟩ := hI_
  obtain ⟨X31, rfl⟩ := frLit hF_
  clear hF_
  refine sk_ fun _ hK32 => ?_
  refine sp_ fun _ hK33 => ?_
  refine li_ k ?_
  refine lk_ (.slice (some ⟨b21, 0, none⟩) n pc) ?_
  refine lv_ rfl (.int .i64 (n : Int)) (ln_ (some ⟨b21, 0, none⟩) n pc Ty.und_L_api_Tile) ?_
  by_cases h34 : (k : Int) < (n : Int)
  ·have hEl_ : Es.length ≤ 8 := by have h_ := congrArg List.length hE; rw [List.length_map] at h_; simp [cellsG] at h_; omega
   refine lv_ rfl _ (lsT_ h34) ?_
   refine pt_ hK33 ?_
   refine wp_cond_true le_ ?_
   refine wp_skip ?_
   refine tn_ hK32 ?_
   refine sk_ fun _ hK35 => ?_
   refine wp_block ?_
   refine sp_ fun _ hK36 => ?_
   refine lk_ (.slice none 0 0) ?_
   refine pt_ hK36 ?_
   refine sk_ fun _ hK37 => ?_
   refine sp_ fun _ hK38 => ?_
   refine li_ 0 ?_
   refine pt_ hK38 ?_
   refine wp_block ?_
   have hm39 := Mem.nilFront hm29 3 1
   clear hm29
   refine gwLoop (fun n_ a_ w_ => ∃ (i : Nat) (A3 : Option Addr) (c3 : Nat), n_ = 64 - i ∧ (i ≤ 64) ∧ Fr a_ 74 [(2, .pointer (some ⟨g2, 0, none⟩)), (4, .slice none 0 0), (5, .slice none 0 0), (6, .bool false), (7, .slice (some ⟨b21, 0, none⟩) n pc), (9, .slice A2 Es.length c2), (10, .int .i64 (k : Int)), (11, .slice A3 i c3), (12, .int .i64 (i : Int)), (39, .int .i64 (k : Int)), (40, .slice (some ⟨b21, 0, none⟩) n pc), (41, .int .i64 (n : Int)), (42, .bool true)] ∧ Mem w w_ ((.row (.slice A3 i c3) 3 1 i (ics (cellI g k i))) :: (.row (.slice A2 Es.length c2) 26 1 Es.length (Es.map entV)) :: (.arr g2 28 (gcs g A c)) :: (.row (.slice (some ⟨b21, 0, none⟩) n pc) 63 4 n (tlsC (planL n))) :: (Es.map rowE))) (64 - 0) ⟨0, none, 0, rfl, (Nat.zero_le _), ⟨litSize, rfl, fo_⟩, hm39⟩ ?_
   clear hm39
   intro n_ a42 w40 hI_
   obtain ⟨i, A3, c3, rfl, hi, hF_, hm41⟩ := hI_
   obtain ⟨X43, rfl⟩ := frLit hF_
   clear hF_
   refine sk_ fun _ hK44 => ?_
   refine sp_ fun _ hK45 => ?_
   refine li_ i ?_
   by_cases h46 : (i : Int) < 64
   ·refine lv_ rfl _ (lsT_ h46) ?_
    refine pt_ hK45 ?_
    refine wp_cond_true le_ ?_
    refine wp_skip ?_
    refine tn_ hK44 ?_
    refine sk_ fun _ hK47 => ?_
    refine wp_block ?_
    refine aoStart (aoV [fun _ => .slice A3 i c3, fun _ => .agg (gcs g A c).toArray, fun _ => .slice (some ⟨b21, 0, none⟩) n pc, fun _ => .int .i64 (k : Int), fun _ => .pointer (some ⟨b21, 0 + k * 4, none⟩), fun _ => .pointer (some ⟨b21, 0 + k * 4 + 1, none⟩), fun _ => .agg (pcs (tlP k)).toArray, fun _ => .int .i64 (i : Int), fun _ => .int .i64 ((i : Int) % 4), fun _ => .int .i64 (i : Int), fun _ => .int .i64 ((i : Int) / 4), fun _ => .int .i64 (((i : Int) / 4) % 4), fun _ => .int .i64 (i : Int), fun _ => .int .i64 ((i : Int) / 16), fun _ => .agg (pcs ⟨(i : Int) % 4, ((i : Int) / 4) % 4, (i : Int) / 16⟩).toArray, fun _ => .agg (pcs (posP k i)).toArray, fun _ => .int .i64 (g.get (posP k i)), fun γ_ => .slice (some ⟨(γ_.getD 0 0), 0, none⟩) 1 1, fun γ_ => .slice (rA (γ_.getD 0 0)) (i + 1) (rC (γ_.getD 0 0)), fun γ_ => .slice (rA (γ_.getD 0 0)) (i + 1) (rC (γ_.getD 0 0))]) (aoA [[], [], [], [], [], [], [], [], [], [], [], [], [], [], [], [], [], [17], [18], [18]]) (fun b_ g_ => ((bsel (b_ 18) (.row (.slice (rA (g_ 18)) (i + 1) (rC (g_ 18))) 3 1 (i + 1) ((ics (cellI g k i)) ++ ([.int .i64 (g.get (posP k i))] : List Value))) (.row (.slice A3 i c3) 3 1 i (ics (cellI g k i)))) :: (.row (.slice A2 Es.length c2) 26 1 Es.length (Es.map entV)) :: (.arr g2 28 (gcs g A c)) :: (.row (.slice (some ⟨b21, 0, none⟩) n pc) 63 4 n (tlsC (planL n))) :: (bsel (b_ 17) (.arr (g_ 17) 3 ([.int .i64 (g.get (posP k i))])) .free) :: (Es.map rowE))) hm41 kr_ kr_ (fun w_ h_ => (Mem.insAt 4 h_.pushFree)) (fun b_ g_ h_ => by show (fun (x17_ x18_ : Bool) => (((bsel x18_ (.row (.slice (rA (g_ 18)) (i + 1) (rC (g_ 18))) 3 1 (i + 1) ((ics (cellI g k i)) ++ ([.int .i64 (g.get (posP k i))] : List Value))) (.row (.slice A3 i c3) 3 1 i (ics (cellI g k i)))) :: (.row (.slice A2 Es.length c2) 26 1 Es.length (Es.map entV)) :: (.arr g2 28 (gcs g A c)) :: (.row (.slice (some ⟨b21, 0, none⟩) n pc) 63 4 n (tlsC (planL n))) :: (bsel x17_ (.arr (g_ 17) 3 ([.int .i64 (g.get (posP k i))])) .free) :: (Es.map rowE)) : List Res)) (b_ 17) (b_ 18) = _; rw [h_ 17 (by decide), h_ 18 (by decide)]) ?_ ?_
    ·refine aoNext rfl aoK_ ?_
     refine aoNext rfl (aoV_ (fun b_ g_ X_ w_ h_b h_ => valTo (b := .agg (gcs g A c).toArray) kr_ (la_ 0 2 h_ Ty.ag_voxel_api_Grid))) ?_
     refine aoNext rfl aoK_ ?_
     refine aoNext rfl aoK_ ?_
     refine aoNext rfl (aoV_ (fun b_ g_ X_ w_ h_b h_ => valTo (b := .pointer (some ⟨b21, 0 + k * 4, none⟩)) kr_ (ia_ pc k Ty.sl_L_api_Tile rfl (show k < n by omega)))) ?_
     refine aoNext rfl aoK_ ?_
     refine aoNext rfl (aoV_ (fun b_ g_ X_ w_ h_b h_ => valTo (b := .agg (pcs (tlP k)).toArray) kr_ (lar_ (m := k * 4 + 1) (h_.rdRow 3 rfl) (tlsP_get (show k < n by omega)) (by omega) Ty.ag_voxel_api_Point))) ?_
     refine aoNext rfl aoK_ ?_
     refine aoNext rfl (aoV_ (fun b_ g_ X_ w_ h_b h_ => valTo (b := .int .i64 ((i : Int) % 4)) kr_ (gRem (A := (i : Int)) (B := 4) (C := (i : Int) % 4) (.tmp 56) (.const (.int .i64 4)) rfl le_ le_ rfl (by omega) (by omega)))) ?_
     refine aoNext rfl aoK_ ?_
     refine aoNext rfl (aoV_ (fun b_ g_ X_ w_ h_b h_ => valTo (b := .int .i64 ((i : Int) / 4)) kr_ (gQuo (A := (i : Int)) (B := 4) (C := (i : Int) / 4) (.tmp 58) (.const (.int .i64 4)) rfl le_ le_ rfl (by omega) (by omega)))) ?_
     refine aoNext rfl (aoV_ (fun b_ g_ X_ w_ h_b h_ => valTo (b := .int .i64 (((i : Int) / 4) % 4)) kr_ (gRem (A := ((i : Int) / 4)) (B := 4) (C := ((i : Int) / 4) % 4) (.tmp 59) (.const (.int .i64 4)) rfl le_ le_ rfl (by omega) (by omega)))) ?_
     refine aoNext rfl aoK_ ?_
     refine aoNext rfl (aoV_ (fun b_ g_ X_ w_ h_b h_ => valTo (b := .int .i64 ((i : Int) / 16)) kr_ (gQuo (A := (i : Int)) (B := 16) (C := (i : Int) / 16) (.tmp 61) (.const (.int .i64 16)) rfl le_ le_ rfl (by omega) (by omega)))) ?_
     refine aoNext rfl aoK_ ?_
     refine aoNext rfl (aoC_ 27 (fun g_ => [.agg (pcs (tlP k)).toArray, .agg (pcs ⟨(i : Int) % 4, ((i : Int) / 4) % 4, (i : Int) / 16⟩).toArray]) [] [] (fun b_ g_ w_ h_b h_ => (addP_any k i (by omega) _).mono (fun _ _ h_r => ⟨h_r.1.trans kr_, h_r.2⟩))) ?_
     refine aoNext rfl (aoC_ 26 (fun g_ => [.agg (gcs g A c).toArray, .agg (pcs (posP k i)).toArray]) [] [] (fun b_ g_ w_ h_b h_ => (get_any g hvd_ A c (posP k i) _ ((Rd.below hrd h_.bel).more h_.bel.size)).mono (fun _ _ h_r => ⟨h_r.1.trans kr_, h_r.2⟩))) ?_
     refine aoNext rfl (aoLit (cs := fun g_ => [.int .i64 (g.get (posP k i))]) (n := 1) 4 (fun g_ => [(65, .int .i64 (g.get (posP k i)))]) (fun g_ a_ h_k => ⟨(h_k.inn 16 _ _ kr_ rfl rfl).trans kr_, trivial⟩) Ty.sl_L_int (fun g_ X_ => (wn rfl)) rfl (by decide) (by decide) (fun g_ X_ => by rw [lit_eval]; kernel_rfl) (fun _ _ _ => ⟨_, rfl⟩) (fun b_ g_ γ_ h_b => by kernel_rfl) (fun _ => by kernel_rfl) kr_) ?_
     refine aoNext rfl (aoApp1 (v := fun g_ => .slice A3 i c3) (gb := fun g_ => (g_ 17)) (n := i) (xs := ics (cellI g k i)) (ys := ([.int .i64 (g.get (posP k i))] : List Value)) 0 4 (fun g_ => [(49, .slice A3 i c3), (66, .slice (some ⟨(g_ 17), 0, none⟩) 1 1)]) (fun g_ a_ h_k => ⟨(h_k.inn 0 _ _ kr_ rfl rfl).trans kr_, (h_k.inn 17 _ _ kr_ rfl rfl).trans kr_, trivial⟩) Ty.sl_L_int (fun b_ g_ h_b => by show some ((bsel (b_ 18) (.row (.slice (rA (g_ 18)) (i + 1) (rC (g_ 18))) 3 1 (i + 1) ((ics (cellI g k i)) ++ ([.int .i64 (g.get (posP k i))] : List Value))) (.row (.slice A3 i c3) 3 1 i (ics (cellI g k i))))) = some (.row (.slice A3 i c3) 3 1 i (ics (cellI g k i)) : Res); rw [bselF h_b.no]) (fun b_ g_ h_b => by show some (bsel (b_ 17) (Res.arr (g_ 17) 3 ([.int .i64 (g.get (posP k i))] : List Value)) Res.free) = some (Res.arr (g_ 17) 3 ([.int .i64 (g.get (posP k i))] : List Value)); rw [bselT (h_b.pre 17 kr_)]) (fun g_ X_ => (wn rfl)) rfl (fun g_ X_ => litEv kr_) (fun g_ X_ => litEv kr_) kr_ kr_ (by omega) (by omega) (fun b_ g_ γ_ h_b => by kernel_rfl) (fun _ => by kernel_rfl) kr_) ?_
     refine aoNext rfl aoK_ ?_
     exact aoDone (by decide)
    intro g_ a_ w49 hF_ hm48
    obtain ⟨X50, rfl⟩ := frLit (⟨hF_.size, hF_.defers, ⟨hF_.o_ 2, hF_.o_ 4, hF_.o_ 5, hF_.o_ 6, hF_.o_ 7, hF_.o_ 9, hF_.o_ 10, hF_.i_ 19, hF_.o_ 12, hF_.o_ 39, hF_.o_ 40, hF_.o_ 41, hF_.o_ 42, hF_.o_ 45, hF_.o_ 46, hF_.i_ 0, hF_.i_ 1, hF_.i_ 2, hF_.i_ 3, hF_.i_ 4, hF_.i_ 5, hF_.i_ 6, hF_.i_ 7, hF_.i_ 8, hF_.i_ 9, hF_.i_ 10, hF_.i_ 11, hF_.i_ 12, hF_.i_ 13, hF_.i_ 14, hF_.i_ 15, hF_.i_ 16, hF_.i_ 17, hF_.i_ 18, trivial⟩⟩ : Fr _ 74 [(2, .pointer (some ⟨g2, 0, none⟩)), (4, .slice none 0 0), (5, .slice none 0 0), (6, .bool false), (7, .slice (some ⟨b21, 0, none⟩) n pc), (9, .slice A2 Es.length c2), (10, .int .i64 (k : Int)), (11, .slice (rA (g_ 18)) (i + 1) (rC (g_ 18))), (12, .int .i64 (i : Int)), (39, .int .i64 (k : Int)), (40, .slice (some ⟨b21, 0, none⟩) n pc), (41, .int .i64 (n : Int)), (42, .bool true), (45, .int .i64 (i : Int)), (46, .bool true), (49, .slice A3 i c3), (50, .agg (gcs g A c).toArray), (51, .slice (some ⟨b21, 0, none⟩) n pc), (52, .int .i64 (k : Int)), (53, .pointer (some ⟨b21, 0 + k * 4, none⟩)), (54, .pointer (some ⟨b21, 0 + k * 4 + 1, none⟩)), (55, .agg (pcs (tlP k)).toArray), (56, .int .i64 (i : Int)), (57, .int .i64 ((i : Int) % 4)), (58, .int .i64 (i : Int)), (59, .int .i64 ((i : Int) / 4)), (60, .int .i64 (((i : Int) / 4) % 4)), (61, .int .i64 (i : Int)), (62, .int .i64 ((i : Int) / 16)), (63, .agg (pcs ⟨(i : Int) % 4, ((i : Int) / 4) % 4, (i : Int) / 16⟩).toArray), (64, .agg (pcs (posP k i)).toArray), (65, .int .i64 (g.get (posP k i))), (66, .slice (some ⟨(g_ 17), 0, none⟩) 1 1), (67, .slice (rA (g_ 18)) (i + 1) (rC (g_ 18)))])
    clear hF_
    have hm51 : Mem w w49 ((.row (.slice (rA (g_ 18)) (i + 1) (rC (g_ 18))) 3 1 (i + 1) ((ics (cellI g k i)) ++ ([.int .i64 (g.get (posP k i))] : List Value))) :: (.row (.slice A2 Es.length c2) 26 1 Es.length (Es.map entV)) :: (.arr g2 28 (gcs g A c)) :: (.row (.slice (some ⟨b21, 0, none⟩) n pc) 63 4 n (tlsC (planL n))) :: (.arr (g_ 17) 3 ([.int .i64 (g.get (posP k i))])) :: (Es.map rowE)) := hm48
    clear hm48 hm41
    generalize rA (g_ 18) = A52 at hm51 ⊢
    generalize rC (g_ 18) = c53 at hm51 ⊢
    generalize g_ 17 = g54 at hm51 ⊢
    clear g_
    refine inBlock_normal ?_
    refine tn_ hK47 ?_
    refine plStart ?_
    refine li_ i ?_
    refine lv_ rfl _ (ad_ (i : Int) 1) ?_
    refine li_ ((i : Int) + 1) ?_
    refine plD ?_
    refine then_normal ?_
    have hm55 := Mem.rowEq (v := .slice A52 (i + 1) c53) (e := 3) (size := 1) (n := i + 1) (n' := i + 1) (xs := (ics (cellI g k i)) ++ ([.int .i64 (g.get (posP k i))] : List Value)) (xs' := ics (cellI g k (i + 1))) 0 hm51 rfl (by rfl) (by rw [cellI_succ]; simp [ics])
    clear hm51
    try simp only [lc_] at hm55
    exact ⟨_, by omega, (i + 1), A52, c53, rfl, (by omega), ⟨litSize, rfl, fo_⟩, (hm55.sub (.cons_cons _ (.cons_cons _ (.cons_cons _ (.cons_cons _ (.cons _ (List.Sublist.refl _)))))))⟩
   have hi64_ : i = 64 := by omega
   rw [hi64_] at hm41
   have hm56 : Mem w w40 ((.row (.slice A3 64 c3) 3 1 64 (ics (cellI g k 64))) :: (.row (.slice A2 Es.length c2) 26 1 Es.length (Es.map entV)) :: (.arr g2 28 (gcs g A c)) :: (.row (.slice (some ⟨b21, 0, none⟩) n pc) 63 4 n (tlsC (planL n))) :: (Es.map rowE)) := hm41
   clear hm41
   rw [hi64_]
   refine lF_ ?_
   refine pt_ hK45 ?_
   refine wp_cond_false le_ ?_
   refine wp_exit ?_
   refine then_exit ?_
   refine then_exit ?_
   refine inBlock_exit ?_
   refine tn_ hK37 ?_
   refine plStart ?_
   refine lk_ (.slice A2 Es.length c2) ?_
   refine lk_ (.slice A3 64 c3) ?_
   refine plLit (cs := [.slice A3 64 c3]) (n := 1) Ty.sl_L_L_int hm56 (i := 2) rfl (wn rfl) rfl (by decide) (by decide) (by rw [lit_eval]; kernel_rfl) ?_
   intro g57 w59 hm58
   clear hm56
   try simp only [lc_] at hm58
   replace hm58 := hm58.i4
   refine qP rfl ?_
   refine plApp1 (v := .slice A2 Es.length c2) (n := Es.length) (xs := (Es.map entV)) (ys := [.slice A3 64 c3]) 1 4 Ty.sl_L_L_int hm58 rfl rfl (i := 3) rfl (wn rfl) rfl le_ le_ kr_ kr_ (by omega) (by omega) ?_
   intro v64 w61 hm60
   clear hm58
   try simp only [lc_] at hm60
   replace hm60 := Mem.rowEq (v := v64) (e := 26) (size := 1) (n := Es.length + 1) (n' := (Es ++ [(⟨⟨p0, p0⟩, A3, c3, cellI g k 64⟩ : Ent)]).length) (xs := (Es.map entV) ++ ([.slice A3 64 c3])) (xs' := ((Es ++ [(⟨⟨p0, p0⟩, A3, c3, cellI g k 64⟩ : Ent)]).map entV)) 1 hm60 rfl (by simp) (by rw [List.map_append]; rfl)
   try simp only [lc_] at hm60
   obtain ⟨A62, c63, rfl⟩ := Mem.rowSl (v := v64) (e := 26) (size := 1) (n := (Es ++ [(⟨⟨p0, p0⟩, A3, c3, cellI g k 64⟩ : Ent)]).length) (xs := ((Es ++ [(⟨⟨p0, p0⟩, A3, c3, cellI g k 64⟩ : Ent)]).map entV)) 1 hm60 rfl
   refine qP rfl ?_
   refine lk_ (.slice A62 ((Es ++ [(⟨⟨p0, p0⟩, A3, c3, cellI g k 64⟩ : Ent)]).length) c63) ?_
   refine plD ?_
   refine inBlock_normal ?_
   refine tn_ hK35 ?_
   refine plStart ?_
   refine li_ k ?_
   refine lv_ rfl _ (ad_ (k : Int) 1) ?_
   refine li_ ((k : Int) + 1) ?_
   refine plD ?_
   refine then_normal ?_
   have hm65 := hm60.f3
   clear hm60
   have hm66 := hm65.f3
   clear hm65
   have hm67 := hm66.f3
   clear hm66
   have hm68 := hm67.f3
   clear hm67
   have hm69 : Mem w w61 ((.row (.slice A3 64 c3) 3 1 64 (ics (cellI g k 64))) :: (.row (.slice A62 ((Es ++ [(⟨⟨p0, p0⟩, A3, c3, cellI g k 64⟩ : Ent)]).length) c63) 26 1 ((Es ++ [(⟨⟨p0, p0⟩, A3, c3, cellI g k 64⟩ : Ent)]).length) ((Es ++ [(⟨⟨p0, p0⟩, A3, c3, cellI g k 64⟩ : Ent)]).map entV)) :: (.arr g2 28 (gcs g A c)) :: (.row (.slice (some ⟨b21, 0, none⟩) n pc) 63 4 n (tlsC (planL n))) :: (Es.map rowE)) := (hm68.sub (.cons_cons _ (.cons_cons _ (.cons_cons _ (.cons_cons _ (.cons _ (List.Sublist.refl _)))))))
   clear hm68
   have hm70 := Mem.rowSnoc (L := [.row (.slice A62 ((Es ++ [(⟨⟨p0, p0⟩, A3, c3, cellI g k 64⟩ : Ent)]).length) c63) 26 1 ((Es ++ [(⟨⟨p0, p0⟩, A3, c3, cellI g k 64⟩ : Ent)]).length) ((Es ++ [(⟨⟨p0, p0⟩, A3, c3, cellI g k 64⟩ : Ent)]).map entV), .arr g2 28 (gcs g A c), .row (.slice (some ⟨b21, 0, none⟩) n pc) 63 4 n (tlsC (planL n))]) (e := (⟨⟨p0, p0⟩, A3, c3, cellI g k 64⟩ : Ent)) (E := Es) hm69
   exact ⟨_, by omega, (k + 1), A62, c63, (Es ++ [(⟨⟨p0, p0⟩, A3, c3, cellI g k 64⟩ : Ent)]), rfl, (by omega), (by rw [List.map_append, hE, cellsG_succ]; rfl), ⟨litSize, rfl, fo_⟩, hm70⟩
  have hke_ : k = n := by omega
  refine lv_ rfl _ (lsF_ h34) ?_
  refine pt_ hK33 ?_
  refine wp_cond_false le_ ?_
  refine wp_exit ?_
  refine then_exit ?_
  refine then_exit ?_
  refine inBlock_exit ?_
  refine tn_ hK25 ?_
  refine sp_ fun _ hK71 => ?_
  refine lk_ (.slice (some ⟨b21, 0, none⟩) n pc) ?_
  refine lk_ (.slice A2 Es.length c2) ?_
  refine lk_ (.slice (some ⟨b21, 0, none⟩) n pc) ?_
  refine lk_ (.slice A2 Es.length c2) ?_
  refine lT_ ?_
  refine pt_ hK71 ?_
  refine wpPrune [(4, .slice (some ⟨b21, 0, none⟩) n pc), (5, .slice A2 Es.length c2), (6, .bool true)] fo_ (fun X72 => ?_)
  refine wp_ret ?_
  refine bodyPost_ret (v := .tuple #[.slice (some ⟨b21, 0, none⟩) n pc, .slice A2 Es.length c2, .bool true]) (gRes3 rfl (gResTmp (t := 4) (v := .slice (some ⟨b21, 0, none⟩) n pc) (lg_)) (gResTmp (t := 5) (v := .slice A2 Es.length c2) (lg_)) (gResTmp (t := 6) (v := .bool true) (lg_))) rfl ?_
  rw [hke_] at hE
  exact Or.inr ⟨⟨hvd_, h16⟩, Es, _, _, _, _, rfl, hE, (hm29.sub (.cons_cons _ (.cons _ (.cons_cons _ (List.Sublist.refl _)))))⟩
 refine mgTake (i := 17) (v := .bool true) rfl kr_ (wgY rfl rfl rfl (by decide) kr_) (fun _ _ _ h => h) hm15 (fun w_ h_ => boolTo (by rw [decide_eq_false h16]; rfl) (neqAgRun 2 (.tmp 26) (.tmp 29) (bxs g.box) (bxs (cubeB sd)) (decide (g.box = (cubeB sd))) (by rw [decide_eq_true_iff, bxs_inj]) kr_ rfl kr_ kr_ kr_ kr_ rfl le_ le_)) ?_
 refine mP rfl ?_
 refine mk_ (i := 18) (v := .bool true) rfl rfl (fun _ _ _ h => h) hm15 rfl ?_
 refine mgDone kr_ ?_
 refine tn_ hK6 ?_
 refine wpPrune [(1, .int .i64 d), (2, .pointer (some ⟨g2, 0, none⟩)), (4, .slice none 0 0), (5, .slice none 0 0), (6, .bool false), (31, .bool true)] fo_ (fun X73 => ?_)
 refine wp_cond_true le_ ?_
 refine sp_ fun _ hK74 => ?_
 refine lk_ (.slice none 0 0) ?_
 refine lk_ (.slice none 0 0) ?_
 refine lF_ ?_
 refine pt_ hK74 ?_
 refine wp_ret ?_
 refine then_ret ?_
 refine bodyPost_ret (v := .tuple #[.slice none 0 0, .slice none 0 0, .bool false]) (gRes3 rfl (gResTmp (t := 4) (v := .slice none 0 0) (lg_)) (gResTmp (t := 5) (v := .slice none 0 0) (lg_)) (gResTmp (t := 6) (v := .bool false) (lg_))) rfl ?_
 exact Or.inl ⟨fun h_ => h16 h_.2, rfl, hm15.bel⟩
theorem fullno_any (g : Gr) (A : Option Addr) (c : Nat) (d : Int) (hd : ¬ (d = 2 ∨ d = 3)) (w : World) : Calls Tryz.prog 6 #[.agg (gcs g A c).toArray, .int .i64 d] w (fun e w' => e = .returned (.tuple #[.slice none 0 0, .slice none 0 0, .bool false]) ∧ Below w.heap.size w w') := by
 have hm0 := Mem.nil w
 go_enter Tryz.func6, Tryz.ntmps6
 refine litStart 74 [(0, .agg (gcs g A c).toArray), (1, .int .i64 d)] kr_ (fun X0 => ?_)
 refine sp_ fun _ hK1 => ?_
 refine plBox hm0 (cs := gcs g A c) (i := 0) rfl (wn rfl) rfl le_ ?_
 intro g2 w4 hm3
 clear hm0
 try simp only [lc_] at hm3
 refine qP rfl ?_
 refine lk_ (.slice none 0 0) ?_
 refine lk_ (.slice none 0 0) ?_
 refine lF_ ?_
 refine pt_ hK1 ?_
 refine sk_ fun _ hK5 => ?_
 refine sk_ fun _ hK6 => ?_
 refine mgStart hm3 kr_ ?_
 intro w8 hm7
 clear hm3
 refine mk_ (i := 0) (v := .int .i64 d) rfl rfl (fun _ _ _ h => h) hm7 rfl ?_
 by_cases h9 : d < 2
 ·refine mt_ 1 rfl (.bool true) hm7 (fun w_ h_ => lsT_ h9) ?_
  refine mk_ (i := 2) (v := .bool true) rfl rfl (fun _ _ _ h => h) hm7 rfl ?_
  refine mgSkip (i := 3) rfl kr_ (wgN rfl rfl rfl (by decide) kr_) (fun _ _ _ h => h) hm7 ?_
  refine mP rfl ?_
  refine mgSkip (i := 4) rfl kr_ (wgN rfl rfl rfl (by decide) kr_) (fun _ _ _ h => h) hm7 ?_
  refine mP rfl ?_
  refine mk_ (i := 5) (v := .bool true) rfl rfl (fun _ _ _ h => h) hm7 rfl ?_
  refine mk_ (i := 6) (v := .bool true) rfl rfl (fun _ _ _ h => h) hm7 rfl ?_
  refine mgSkip (i := 7) rfl kr_ (wgN rfl rfl rfl (by decide) kr_) (fun _ _ _ h => h) hm7 ?_
  refine mP rfl ?_
  refine mgSkip (i := 8) rfl kr_ (wgN rfl rfl rfl (by decide) kr_) (fun _ _ _ h => h) hm7 ?_
  refine mP rfl ?_
  refine mgSkip (i := 9) rfl kr_ (wgN rfl rfl rfl (by decide) kr_) (fun _ _ _ h => h) hm7 ?_
  refine mP rfl ?_
  refine mk_ (i := 10) (v := .bool true) rfl rfl (fun _ _ _ h => h) hm7 rfl ?_
  refine mk_ (i := 11) (v := .bool true) rfl rfl (fun _ _ _ h => h) hm7 rfl ?_
  refine mgSkip (i := 12) rfl kr_ (wgN rfl rfl rfl (by decide) kr_) (fun _ _ _ h => h) hm7 ?_
  refine mP rfl ?_
  refine mgSkip (i := 13) rfl kr_ (wgN rfl rfl rfl (by decide) kr_) (fun _ _ _ h => h) hm7 ?_
  refine mP rfl ?_
  refine mgSkip (i := 14) rfl kr_ (wgN rfl rfl rfl (by decide) kr_) (fun _ _ _ h => h) hm7 ?_
  refine mP rfl ?_
  refine mgSkip (i := 15) rfl kr_ (wgN rfl rfl rfl (by decide) kr_) (fun _ _ _ h => h) hm7 ?_
  refine mP rfl ?_
  refine mgSkip (i := 16) rfl kr_ (wgN rfl rfl rfl (by decide) kr_) (fun _ _ _ h => h) hm7 ?_
  refine mP rfl ?_
  refine mgSkip (i := 17) rfl kr_ (wgN rfl rfl rfl (by decide) kr_) (fun _ _ _ h => h) hm7 ?_
  refine mP rfl ?_
  refine mk_ (i := 18) (v := .bool true) rfl rfl (fun _ _ _ h => h) hm7 rfl ?_
  refine mgDone kr_ ?_
  refine tn_ hK6 ?_
  refine wpPrune [(1, .int .i64 d), (2, .pointer (some ⟨g2, 0, none⟩)), (4, .slice none 0 0), (5, .slice none 0 0), (6, .bool false), (31, .bool true)] fo_ (fun X10 => ?_)
  refine wp_cond_true le_ ?_
  refine sp_ fun _ hK11 => ?_
  refine lk_ (.slice none 0 0) ?_
  refine lk_ (.slice none 0 0) ?_
  refine lF_ ?_
  refine pt_ hK11 ?_
  refine wp_ret ?_
  refine then_ret ?_
  refine bodyPost_ret (v := .tuple #[.slice none 0 0, .slice none 0 0, .bool false]) (gRes3 rfl (gResTmp (t := 4) (v := .slice none 0 0) (lg_)) (gResTmp (t := 5) (v := .slice none 0 0) (lg_)) (gResTmp (t := 6) (v := .bool false) (lg_))) rfl ?_
  exact ⟨rfl, hm7.bel⟩
 refine mt_ 1 rfl (.bool false) hm7 (fun w_ h_ => lsF_ h9) ?_
 refine mk_ (i := 2) (v := .bool false) rfl rfl (fun _ _ _ h => h) hm7 rfl ?_
 refine mgTake (i := 3) (v := .int .i64 d) rfl kr_ (wgY rfl rfl rfl (by decide) kr_) (fun _ _ _ h => h) hm7 (fun w_ h_ => litRun kr_) ?_
 refine mP rfl ?_
 refine mgTake (i := 4) (v := .bool true) rfl kr_ (wgY rfl rfl rfl (by decide) kr_) (fun _ _ _ h => h) hm7 (fun w_ h_ => boolTo (decide_eq_true (show 3 < d by omega)) (gtrRun (A := d) (B := 3) (.tmp 16) (.const (.int .i64 3)) rfl le_ le_)) ?_
 refine mP rfl ?_
 refine mk_ (i := 5) (v := .bool true) rfl rfl (fun _ _ _ h => h) hm7 rfl ?_
 refine mk_ (i := 6) (v := .bool true) rfl rfl (fun _ _ _ h => h) hm7 rfl ?_
 refine mgSkip (i := 7) rfl kr_ (wgN rfl rfl rfl (by decide) kr_) (fun _ _ _ h => h) hm7 ?_
 refine mP rfl ?_
 refine mgSkip (i := 8) rfl kr_ (wgN rfl rfl rfl (by decide) kr_) (fun _ _ _ h => h) hm7 ?_
 refine mP rfl ?_
 refine mgSkip (i := 9) rfl kr_ (wgN rfl rfl rfl (by decide) kr_) (fun _ _ _ h => h) hm7 ?_
 refine mP rfl ?_
 refine mk_ (i := 10) (v := .bool true) rfl rfl (fun _ _ _ h => h) hm7 rfl ?_
 refine mk_ (i := 11) (v := .bool true) rfl rfl (fun _ _ _ h => h) hm7 rfl ?_
 refine mgSkip (i := 12) rfl kr_ (wgN rfl rfl rfl (by decide) kr_) (fun _ _ _ h => h) hm7 ?_
 refine mP rfl ?_
 refine mgSkip (i := 13) rfl kr_ (wgN rfl rfl rfl (by decide) kr_) (fun _ _ _ h => h) hm7 ?_
 refine mP rfl ?_
 refine mgSkip (i := 14) rfl kr_ (wgN rfl rfl rfl (by decide) kr_) (fun _ _ _ h => h) hm7 ?_
 refine mP rfl ?_
 refine mgSkip (i := 15) rfl kr_ (wgN rfl rfl rfl (by decide) kr_) (fun _ _ _ h => h) hm7 ?_
 refine mP rfl ?_
 refine mgSkip (i := 16) rfl kr_ (wgN rfl rfl rfl (by decide) kr_) (fun _ _ _ h => h) hm7 ?_
 refine mP rfl ?_
 refine mgSkip (i := 17) rfl kr_ (wgN rfl rfl rfl (by decide) kr_) (fun _ _ _ h => h) hm7 ?_
 refine mP rfl ?_
 refine mk_ (i := 18) (v := .bool true) rfl rfl (fun _ _ _ h => h) hm7 rfl ?_
 refine mgDone kr_ ?_
 refine tn_ hK6 ?_
 refine wpPrune [(1, .int .i64 d), (2, .pointer (some ⟨g2, 0, none⟩)), (4, .slice none 0 0), (5, .slice none 0 0), (6, .bool false), (31, .bool true)] fo_ (fun X12 => ?_)
 refine wp_cond_true le_ ?_
 refine sp_ fun _ hK13 => ?_
 refine lk_ (.slice none 0 0) ?_
 refine lk_ (.slice none 0 0) ?_
 refine lF_ ?_
 refine pt_ hK13 ?_
 refine wp_ret ?_
 refine then_ret ?_
 refine bodyPost_ret (v := .tuple #[.slice none 0 0, .slice none 0 0, .bool false]) (gRes3 rfl (gResTmp (t := 4) (v := .slice none 0 0) (lg_)) (gResTmp (t := 5) (v := .slice none 0 0) (lg_)) (gResTmp (t := 6) (v := .bool false) (lg_))) rfl ?_
 exact ⟨rfl, hm7.bel⟩
end Go.Proofs.YtbpihalphhoiaaaGreatDoor
namespace Go.Proofs.YtbpihalphhoiaaaGreatDoor
theorem solid_eq {g : Gr} {T : List Mat} {n : Nat} (hn : n = 1 ∨ n = 8) (hb : g.box = cubeB (sideN n)) (p : Pt) : solidAt g T p = solF (cellsG g n) T n p := by
 have hh : g.box.has p ↔ inC (sideN n) p := by
  rw [hb]
  unfold Bx.has cubeB p0 inC
  simp only
 unfold solidAt solF
 by_cases h : inC (sideN n) p
 ·rw [decide_eq_true (hh.2 h), decide_eq_true h]
  obtain ⟨h1, h2, h3⟩ := posP_no hn h
  have e : cellF (cellsG g n) p = g.get p := by
   have e1 : (cellsG g n).getD (tNo p) [] = cellI g (tNo p) 64 := by unfold cellsG; rw [List.getD_eq_getElem?_getD, List.getElem?_map, List.getElem?_range h1]; rfl
   have e2 : (cellI g (tNo p) 64).getD (bNo p) 0 = g.get (posP (tNo p) (bNo p)) := by unfold cellI; rw [List.getD_eq_getElem?_getD, List.getElem?_map, List.getElem?_range h2]; rfl
   unfold cellF
   rw [e1, e2, h3]
  rw [e]
 ·rw [decide_eq_false (fun e => h (hh.1 e)), decide_eq_false h]; rfl
theorem sum_zero : ∀ (n : Nat) (g : Nat → Nat), (∀ i, i < n → g i = 0) → ((List.range n).map g).sum = 0
 | 0, _, _ => rfl
 | n + 1, g, h => by
  rw [List.range_succ, List.map_append, List.sum_append, sum_zero n g (fun i hi => h i (by omega))]
  simp [h n (by omega)]
theorem sum_one : ∀ (n : Nat) (g : Nat → Nat) (j : Nat), j < n → g j = 1 → (∀ i, i < n → i ≠ j → g i = 0) → ((List.range n).map g).sum = 1
 | 0, _, j, hj, _, _ => absurd hj (Nat.not_lt_zero _)
 | n + 1, g, j, hj, h1, h0 => by
  rw [List.range_succ, List.map_append, List.sum_append]
  by_cases hjn : j = n
  ·subst hjn
   rw [sum_zero j g (fun i hi => h0 i (by omega) (by omega))]
   simp [h1]
  ·rw [sum_one n g j (by omega) h1 (fun i hi hne => h0 i (by omega) hne)]
   simp [h0 n (by omega) (fun e => hjn e.symm)]
def hitB (q u : Pt) (x : Qd) : Bool := decide (solidP x = q) && decide (emptyP x = u)
theorem quad_sides {f : Pt → Bool} {p : Pt} {d : Dr} (hd : d ∈ drL) {x : Qd} (hx : x ∈ quadD f p d) : solidP x = p ∧ emptyP x = p.add d.st := by
 unfold quadD at hx
 split at hx
 ·rw [List.mem_singleton] at hx
  subst hx
  obtain ⟨px, py, pz⟩ := p
  unfold drL at hd
  simp only [List.mem_cons, List.not_mem_nil, or_false] at hd
  rcases hd with rfl | rfl | rfl | rfl | rfl | rfl <;> simp [solidP, emptyP, befP, stepP, Pt.add] <;> omega
 ·cases hx
theorem cnt_other {f : Pt → Bool} {p q u : Pt} (h : p ≠ q) : (quadI f p).countP (hitB q u) = 0 := by
 rw [List.countP_eq_zero]
 intro x hx
 unfold quadI at hx
 obtain ⟨d, hd, hx⟩ := List.mem_flatMap.1 hx
 have := (quad_sides hd hx).1
 unfold hitB
 rw [this]
 simp [h]
theorem cnt_dir {f : Pt → Bool} {q u : Pt} (hq : f q = true) (hu : f u = false) {d : Dr} (hd : d ∈ drL) : (quadD f q d).countP (hitB q u) = if q.add d.st = u then 1 else 0 := by
 by_cases h : q.add d.st = u
 ·rw [if_pos h]
  have hx : quadD f q d = [⟨if d.up then q.add d.st else q, d.ax, d.up, 1⟩] := by unfold quadD; rw [if_pos ⟨hq, by rw [h]; exact hu⟩]
  have hs := quad_sides hd (x := ⟨if d.up then q.add d.st else q, d.ax, d.up, 1⟩) (by rw [hx]; exact List.mem_singleton.2 rfl)
  rw [hx, List.countP_cons, List.countP_nil]
  unfold hitB
  rw [hs.1, hs.2, h]
  simp
 ·rw [if_neg h, List.countP_eq_zero]
  intro x hx
  have := (quad_sides hd hx).2
  unfold hitB
  rw [this]
  simp [h]
theorem cnt_here {f : Pt → Bool} {q u : Pt} (hq : f q = true) (hu : f u = false) (h1 : (q.x - u.x) * (q.x - u.x) + (q.y - u.y) * (q.y - u.y) + (q.z - u.z) * (q.z - u.z) = 1) : (quadI f q).countP (hitB q u) = 1 := by
 have sq : ∀ x : Int, 0 ≤ x * x ∧ (¬ (-1 ≤ x ∧ x ≤ 1) → 4 ≤ x * x) := fun x => by
  refine ⟨?_, fun h => ?_⟩
  ·rcases Int.le_total 0 x with h | h
   ·exact Int.mul_nonneg h h
   ·exact Int.mul_nonneg_of_nonpos_of_nonpos h h
  ·rcases Int.le_total 0 x with h0 | h0
   ·have := Int.mul_le_mul (show 2 ≤ x by omega) (show 2 ≤ x by omega) (by omega) h0; omega
   ·have := Int.mul_le_mul (show 2 ≤ -x by omega) (show 2 ≤ -x by omega) (by omega) (by omega)
    rw [Int.neg_mul_neg] at this; omega
 have hx := sq (q.x - u.x)
 have hy := sq (q.y - u.y)
 have hz := sq (q.z - u.z)
 have bx : -1 ≤ q.x - u.x ∧ q.x - u.x ≤ 1 := Decidable.byContradiction fun h => by have := hx.2 h; omega
 have by_ : -1 ≤ q.y - u.y ∧ q.y - u.y ≤ 1 := Decidable.byContradiction fun h => by have := hy.2 h; omega
 have bz : -1 ≤ q.z - u.z ∧ q.z - u.z ≤ 1 := Decidable.byContradiction fun h => by have := hz.2 h; omega
 have c : ∀ d ∈ drL, (quadD f q d).countP (hitB q u) = if q.add d.st = u then 1 else 0 := fun d hd => cnt_dir hq hu hd
 unfold quadI
 simp only [drL, List.flatMap_cons, List.flatMap_nil, List.countP_append, List.countP_nil]
 rw [c ⟨0, false, ⟨-1, 0, 0⟩⟩ (by decide), c ⟨0, true, ⟨1, 0, 0⟩⟩ (by decide), c ⟨1, false, ⟨0, -1, 0⟩⟩ (by decide), c ⟨1, true, ⟨0, 1, 0⟩⟩ (by decide), c ⟨2, false, ⟨0, 0, -1⟩⟩ (by decide), c ⟨2, true, ⟨0, 0, 1⟩⟩ (by decide)]
 obtain ⟨qx, qy, qz⟩ := q
 obtain ⟨ux, uy, uz⟩ := u
 simp only [Pt.add, Pt.mk.injEq] at *
 generalize ex : qx - ux = X at *
 generalize ey : qy - uy = Y at *
 generalize ez : qz - uz = Z at *
 rcases (by omega : X = -1 ∨ X = 0 ∨ X = 1) with rfl | rfl | rfl <;> rcases (by omega : Y = -1 ∨ Y = 0 ∨ Y = 1) with rfl | rfl | rfl <;> rcases (by omega : Z = -1 ∨ Z = 0 ∨ Z = 1) with rfl | rfl | rfl <;> first
  | (exfalso; simp at h1; done)
  | (repeat first | rw [if_pos (by omega)] | rw [if_neg (by omega)])
theorem cnt_one {f : Pt → Bool} {n : Nat} (hn : n = 1 ∨ n = 8) {q u : Pt} (hin : inC (sideN n) q) (hq : f q = true) (hu : f u = false) (h1 : (q.x - u.x) * (q.x - u.x) + (q.y - u.y) * (q.y - u.y) + (q.z - u.z) * (q.z - u.z) = 1) : (quadsU f n).countP (hitB q u) = 1 := by
 obtain ⟨hk, hi, hp⟩ := posP_no hn hin
 unfold quadsU
 rw [List.countP_flatMap]
 refine sum_one n _ (tNo q) hk ?_ fun k hk' hne => ?_
 ·show (quadK f (tNo q)).countP (hitB q u) = 1
  unfold quadK
  rw [List.countP_flatMap]
  refine sum_one 64 _ (bNo q) hi ?_ fun i hi' hne => ?_
  ·show (quadI f (posP (tNo q) (bNo q))).countP (hitB q u) = 1
   rw [hp]; exact cnt_here hq hu h1
  ·refine cnt_other fun e => hne ?_
   have := (tNo_pos (show tNo q < 8 by omega) hi').2
   rw [e] at this; exact this.symm
 ·show (quadK f k).countP (hitB q u) = 0
  unfold quadK
  rw [List.countP_flatMap]
  refine sum_zero 64 _ fun i hi' => ?_
  refine cnt_other fun e => hne ?_
  have := (tNo_pos (show k < 8 by omega) hi').1
  rw [e] at this; exact this.symm
theorem solF_inC {ls : List (List Int)} {T : List Mat} {n : Nat} {p : Pt} (h : solF ls T n p = true) : inC (sideN n) p := by
 unfold solF at h
 rw [Bool.and_eq_true] at h
 exact of_decide_eq_true h.1
theorem lsOf_map (Es : List Ent) : lsOf (Es.map toSl) = Es.map (·.ids) := by unfold lsOf; rw [List.map_map]; rfl
end Go.Proofs.YtbpihalphhoiaaaGreatDoor
namespace Go.Proofs.YtbpihalphhoiaaaGreatDoor
open Go.ChangeShapes Go.WideShapes Go.ChangeAt Go.RowKit
set_option maxRecDepth 100000
theorem gSides : Tryz.prog.globalNamed "voxel/faces.sides" = some 0 := by kernel_rfl
theorem gSidesT : (Tryz.prog.globals[0]?).map (·.type) = some 112 := by kernel_rfl
theorem gCellsA : Tryz.prog.cellsOf 112 = 30 := by kernel_rfl
theorem gCellsD : Tryz.prog.cellsOf 111 = 5 := by kernel_rfl
theorem gCellsP : Tryz.prog.cellsOf 23 = 3 := by kernel_rfl
theorem gUndI : Tryz.prog.underlying 3 = some (.int .i64) := by kernel_rfl
theorem gUndB : Tryz.prog.underlying 4 = some .bool := by kernel_rfl
section
variable {H : Type} {enc : TypeId × Value → H} {w : World} {base fuel : Nat} {sp : Nat → Bool} {held : Bool} {c : List Value} {p : List MemPlace}
theorem take1 {k : Nat} {v : Value} (h : (c.drop k).take 1 = [v]) : c[k]? = some v := by
 have h2 := congrArg (·[0]?) h
 simpa [List.getElem?_take, List.getElem?_drop] using h2
theorem int_cell {k : Nat} {x : Int} {a : DataW H × List MemPlace} (h : DataW.trod enc Tryz.prog w base sp held fuel 3 ((c.drop k).take 1) = some a) (ha : a.1 = .lit (.int .i64 x)) : c[k]? = some (.int .i64 x) := by
 obtain ⟨n, h1, rfl, _⟩ := DataW.trod_int gUndI h
 simp only [DataW.lit.injEq, Lit.int.injEq, true_and] at ha
 subst ha
 exact take1 h1
theorem bool_cell {k : Nat} {b : Bool} {a : DataW H × List MemPlace} (h : DataW.trod enc Tryz.prog w base sp held fuel 4 ((c.drop k).take 1) = some a) (ha : a.1 = .lit (.bool b)) : c[k]? = some (.bool b) := by
 obtain ⟨n, h1, rfl⟩ := DataW.trod_bool gUndB h
 simp only [DataW.lit.injEq, Lit.bool.injEq] at ha
 subst ha
 exact take1 h1
theorem pt_cells {x y z : Int} (h : DataW.trod enc Tryz.prog w base sp held fuel 23 c = some (.agg [.lit (.int .i64 x), .lit (.int .i64 y), .lit (.int .i64 z)], p)) : c = pcs ⟨x, y, z⟩ := by
 obtain ⟨xs, n, _, he, hl, hxl, hf⟩ := DataW.trod_struct Tryz.underlying23 h
 have hxs : xs.map (·.1) = [.lit (.int .i64 x), .lit (.int .i64 y), .lit (.int .i64 z)] := by
  have h1 := congrArg Prod.fst he
  simp only [DataW.agg.injEq] at h1
  exact h1.symm
 rcases xs with _ | ⟨a0, _ | ⟨a1, _ | ⟨a2, _ | ⟨_, _⟩⟩⟩⟩ <;> simp at hxs
 have e0 := int_cell (k := 0) (hf 0 _ rfl) hxs.1
 have e1 := int_cell (k := 1) (hf 1 _ rfl) hxs.2.1
 have e2 := int_cell (k := 2) (hf 2 _ rfl) hxs.2.2
 rw [gCellsP] at hl
 rcases c with _ | ⟨c0, _ | ⟨c1, _ | ⟨c2, _ | ⟨_, _⟩⟩⟩⟩ <;> simp at hl
 simp at e0 e1 e2
 rw [e0, e1, e2]; rfl
theorem dir_cells {ax x y z : Int} {up : Bool} (h : DataW.trod enc Tryz.prog w base sp held fuel 111 c = some (.agg [.lit (.int .i64 ax), .lit (.bool up), .agg [.lit (.int .i64 x), .lit (.int .i64 y), .lit (.int .i64 z)]], p)) : c = drc ⟨ax, up, ⟨x, y, z⟩⟩ := by
 obtain ⟨xs, n, _, he, hl, hxl, hf⟩ := DataW.trod_struct Tryz.underlying111 h
 have hxs : xs.map (·.1) = [.lit (.int .i64 ax), .lit (.bool up), .agg [.lit (.int .i64 x), .lit (.int .i64 y), .lit (.int .i64 z)]] := by
  have h1 := congrArg Prod.fst he
  simp only [DataW.agg.injEq] at h1
  exact h1.symm
 rcases xs with _ | ⟨a0, _ | ⟨a1, _ | ⟨⟨d2, p2⟩, _ | ⟨_, _⟩⟩⟩⟩ <;> simp at hxs
 have e0 := int_cell (k := 0) (hf 0 _ rfl) hxs.1
 have e1 := bool_cell (k := 1) (hf 1 _ rfl) hxs.2.1
 have h2 := hf 2 _ rfl
 obtain ⟨_, _, rfl⟩ := hxs
 have e2 : (c.drop 2).take 3 = pcs ⟨x, y, z⟩ := pt_cells h2
 rw [gCellsD] at hl
 rcases c with _ | ⟨c0, _ | ⟨c1, _ | ⟨c2, _ | ⟨c3, _ | ⟨c4, _ | ⟨_, _⟩⟩⟩⟩⟩⟩ <;> simp at hl
 simp at e0 e1
 simp [pcs] at e2
 rw [e0, e1, e2.1, e2.2.1, e2.2.2]; rfl
theorem chunk {l : List Value} {k j : Nat} (hj : j < 5) : l[k * 5 + j]? = ((l.drop (k * 5)).take 5)[j]? := by
 rw [List.getElem?_take, if_pos hj, List.getElem?_drop]
theorem sides_cells (h : DataW.trod enc Tryz.prog w base sp held fuel 112 c = some (Rows.laid_voxel_faces_sides, p)) : c = drsC drL := by
 obtain ⟨xs, n, _, he, hl, hxl, hf⟩ := DataW.trod_array Tryz.underlying112 h
 have h1 := congrArg Prod.fst he
 unfold Rows.laid_voxel_faces_sides at h1
 simp only [DataW.agg.injEq] at h1
 rcases xs with _ | ⟨⟨b0, p0_⟩, _ | ⟨⟨b1, p1_⟩, _ | ⟨⟨b2, p2_⟩, _ | ⟨⟨b3, p3_⟩, _ | ⟨⟨b4, p4_⟩, _ | ⟨⟨b5, p5_⟩, _ | ⟨_, _⟩⟩⟩⟩⟩⟩⟩ <;> simp at h1
 obtain ⟨rfl, rfl, rfl, rfl, rfl, rfl⟩ := h1
 have f0 : (c.drop (0 * 5)).take 5 = _ := dir_cells (hf 0 (by decide))
 have f1 : (c.drop (1 * 5)).take 5 = _ := dir_cells (hf 1 (by decide))
 have f2 : (c.drop (2 * 5)).take 5 = _ := dir_cells (hf 2 (by decide))
 have f3 : (c.drop (3 * 5)).take 5 = _ := dir_cells (hf 3 (by decide))
 have f4 : (c.drop (4 * 5)).take 5 = _ := dir_cells (hf 4 (by decide))
 have f5 : (c.drop (5 * 5)).take 5 = _ := dir_cells (hf 5 (by decide))
 rw [gCellsA] at hl
 have hall : ∀ k, k < 6 → ∃ d, drL[k]? = some d ∧ (c.drop (k * 5)).take 5 = drc d := by
  intro k hk
  match k, hk with
  | 0, _ => exact ⟨_, rfl, f0⟩
  | 1, _ => exact ⟨_, rfl, f1⟩
  | 2, _ => exact ⟨_, rfl, f2⟩
  | 3, _ => exact ⟨_, rfl, f3⟩
  | 4, _ => exact ⟨_, rfl, f4⟩
  | 5, _ => exact ⟨_, rfl, f5⟩
  | k + 6, hk => omega
 have hlen : (drsC drL).length = 30 := rfl
 refine List.ext_getElem? fun i => ?_
 by_cases hi : i < 30
 ·obtain ⟨d, hd, hc⟩ := hall (i / 5) (by omega)
  have hm : i % 5 < 5 := Nat.mod_lt _ (by decide)
  have ei : i = i / 5 * 5 + i % 5 := by omega
  have hdl : (drc d).length = 5 := rfl
  have hu : (drc d)[i % 5]? = some ((drc d)[i % 5]'(by omega)) := List.getElem?_eq_getElem _
  have h2 := flatG drc 5 (fun _ => rfl) hd (i % 5) _ hu
  rw [ei, chunk hm, hc, hu]
  exact h2.symm
 ·rw [List.getElem?_eq_none (by omega), List.getElem?_eq_none (by omega)]
end
theorem blocks_there {W : World} {g : Nat} {v : Value} (h : W.cell? ⟨g, 0, none⟩ = some v) : g < W.heap.size := by
 unfold World.cell? at h
 rcases Nat.lt_or_ge g W.heap.size with h' | h'
 ·exact h'
 ·rw [show W.heap[(⟨g, 0, none⟩ : Addr).block]? = none from Array.getElem?_eq_none h'] at h
  simp at h
theorem laid_own1 {W : World} (h : laidMetH Tryz.prog [("voxel/faces.sides", Rows.laid_voxel_faces_sides)] W) : SidesIn W := by
 have h' : laidMet Tryz.prog [("voxel/faces.sides", Rows.laid_voxel_faces_sides)] W := h
 obtain ⟨ps, ⟨g', t', cs, fuel, p, q, hg', ht', hvar, hd, _, _⟩, _⟩ := h'
 obtain rfl := Option.some.inj (gSides.symm.trans hg')
 obtain rfl := Option.some.inj (gSidesT.symm.trans ht')
 have hcs : cs.toList = drsC drL := sides_cells hd
 have hcell : ∀ (i : Nat) (u : Value), (drsC drL)[i]? = some u → W.cell? ⟨0, 0 + i, none⟩ = some u := by
  intro i u hu
  rw [Nat.zero_add]
  have hv := World.var?_cell gSides hvar i
  rw [hv]
  have h3 : cs.toList[i]? = some u := by rw [hcs]; exact hu
  simpa using h3
 refine ⟨rfl, Nat.le_refl _, by decide, fun _ => ⟨0, 0, rfl, blocks_there (hcell 0 _ rfl), hcell⟩⟩
def fillTab : Obj → Obj
 | .cells _ t frozen => .cells (drsC drL).toArray t frozen
 | o => o
noncomputable def laidWorld (os : Os) : World :=
 { World.holding Tryz.prog os ⟨#[], #[], []⟩ with heap := (World.holding Tryz.prog os ⟨#[], #[], []⟩).heap.modify 0 fillTab }
theorem laid_met1 (os : Os) (args : Array Value) : laidMet Tryz.prog [("voxel/faces.sides", Rows.laid_voxel_faces_sides)] ((laidWorld os).forCall (fun _ _ => 0) ⟨#[], args, []⟩).memory :=
 laidMet_of_run' 8 kr_ kr_
end Go.Proofs.YtbpihalphhoiaaaGreatDoor
namespace Go.Proofs.YtbpihalphhoiaaaGreatDoor
set_option maxRecDepth 100000
open Go.RowKit Go.ChangeShapes Go.WideShapes
section
variable {H : Type} {enc : TypeId × Value → H} {P : Program} {w : World} {base : Nat} {held : Bool} {spare : Nat → Bool} {cs : List Value} {ls : List (Nat × TypeId)}
theorem leaf_at {o : Nat} {v : Value} (h : (cs.drop o).take 1 = [v]) : cs[o]? = some v := by
 have h2 : ((cs.drop o).take 1)[0]? = some v := by rw [h]; rfl
 rwa [List.getElem?_take, if_pos (by omega), List.getElem?_drop, Nat.add_zero] at h2
theorem leaf_bool (h : ∀ p ∈ ls, ∃ fuel' y, DataW.trod enc P w base spare held fuel' p.2 ((cs.drop p.1).take (P.cellsOf p.2)) = some y) {o : Nat} {t : TypeId} (hp : ls.contains (o, t) = true) (ht : P.underlying t = some .bool) (hc : P.cellsOf t = 1) :
 ∃ b, cs[o]? = some (.bool b) := by
 obtain ⟨f, y, hy⟩ := h (o, t) (by simpa using hp)
 simp only [hc] at hy
 obtain ⟨b, hb, _⟩ := DataW.trod_bool ht hy
 exact ⟨b, leaf_at hb⟩
theorem leaf_str (h : ∀ p ∈ ls, ∃ fuel' y, DataW.trod enc P w base spare held fuel' p.2 ((cs.drop p.1).take (P.cellsOf p.2)) = some y) {o : Nat} {t : TypeId} (hp : ls.contains (o, t) = true) (ht : P.underlying t = some .string) (hc : P.cellsOf t = 1) :
 ∃ s : List UInt8, cs[o]? = some (.string ⟨s.toArray⟩) := by
 obtain ⟨f, y, hy⟩ := h (o, t) (by simpa using hp)
 simp only [hc] at hy
 obtain ⟨b, hb, _⟩ := DataW.trod_string ht hy
 refine ⟨b.data.toList, ?_⟩
 have : (⟨b.data.toList.toArray⟩ : ByteArray) = b := by cases b; simp
 rw [this]
 exact leaf_at hb
theorem leaf_ints {e : TypeId} (h : ∀ p ∈ ls, ∃ fuel' y, DataW.trod enc P w base (fun _ => true) held fuel' p.2 ((cs.drop p.1).take (P.cellsOf p.2)) = some y) {o : Nat} {t : TypeId} (hp : ls.contains (o, t) = true) (ht : P.underlying t = some (.slice e)) (he : P.underlying e = some (.int .i64)) (hce : P.cellsOf e = 1) (hc : P.cellsOf t = 1) :
 ∃ (A : Option Addr) (c : Nat) (zs : List Int), cs[o]? = some (.slice A zs.length c) ∧ Rd w w.heap.size 1 A zs.length c (ics zs) := by
 obtain ⟨f, y, hy⟩ := h (o, t) (by simpa using hp)
 simp only [hc] at hy
 obtain ⟨A, n, c, xs, D, sp, hcs, hn, hr, _, _, _, _⟩ := br_slice (fun z : Int => [Value.int .i64 z]) (fun _ (_ : DataW H) => True) ht hce (by decide)
  (fun fuel cs' d pl _ hh => by obtain ⟨z, rfl, _, hz⟩ := DataW.trod_int he hh; exact ⟨z, rfl, trivial⟩) hy
 subst hn
 refine ⟨A, c, xs, leaf_at hcs, ?_⟩
 have e1 : ics xs = xs.flatMap fun z => [Value.int .i64 z] := by unfold ics; rw [flat_one]
 rw [e1]; exact hr
end
theorem eq7 {cs : List Value} {a b c d e f g : Value} (hl : cs.length = 7) (h0 : cs[0]? = some a) (h1 : cs[1]? = some b) (h2 : cs[2]? = some c) (h3 : cs[3]? = some d) (h4 : cs[4]? = some e) (h5 : cs[5]? = some f) (h6 : cs[6]? = some g) : cs = [a, b, c, d, e, f, g] := by
 match cs, hl with
 | [x, y, z, u, v, w, q], _ => simp_all
theorem eq8 {cs : List Value} {a b c d e f g h : Value} (hl : cs.length = 8) (h0 : cs[0]? = some a) (h1 : cs[1]? = some b) (h2 : cs[2]? = some c) (h3 : cs[3]? = some d) (h4 : cs[4]? = some e) (h5 : cs[5]? = some f) (h6 : cs[6]? = some g) (h7 : cs[7]? = some h) : cs = [a, b, c, d, e, f, g, h] := by
 match cs, hl with
 | [x, y, z, u, v, w, q, r], _ => simp_all
section
variable {H : Type} {enc : TypeId × Value → H} {W : World} {held : Bool} {b0 : Nat} {r : Reach}
theorem br_grid {v : Value} {d : DataW H} {pl : List MemPlace} (hval : Value.okWide Tryz.prog W r b0 28 v) (h : DataW.Trod enc Tryz.prog W 0 (fun _ => true) held 28 v d pl) :
 ∃ (g : Gr) (A : Option Addr) (c : Nat), v = .agg (gcs g A c).toArray ∧ Rd W W.heap.size 1 A g.cells.length c (ics g.cells) := by
 obtain ⟨cs, rfl, hl, f⟩ := br_flat (m := 8) (n := 7) (ls := [(0, 3), (1, 3), (2, 3), (3, 3), (4, 3), (5, 3), (6, 26)]) kr_ kr_ kr_ hval h
 obtain ⟨z0, e0, _⟩ := leaf_int f (o := 0) (t := 3) kr_ Tryz.underlying3 kr_
 obtain ⟨z1, e1, _⟩ := leaf_int f (o := 1) (t := 3) kr_ Tryz.underlying3 kr_
 obtain ⟨z2, e2, _⟩ := leaf_int f (o := 2) (t := 3) kr_ Tryz.underlying3 kr_
 obtain ⟨z3, e3, _⟩ := leaf_int f (o := 3) (t := 3) kr_ Tryz.underlying3 kr_
 obtain ⟨z4, e4, _⟩ := leaf_int f (o := 4) (t := 3) kr_ Tryz.underlying3 kr_
 obtain ⟨z5, e5, _⟩ := leaf_int f (o := 5) (t := 3) kr_ Tryz.underlying3 kr_
 obtain ⟨A, c, zs, e6, hr⟩ := leaf_ints f (o := 6) (t := 26) kr_ Tryz.underlying26 Tryz.underlying3 kr_ kr_
 obtain rfl := eq7 hl e0 e1 e2 e3 e4 e5 e6
 exact ⟨⟨⟨⟨z0, z1, z2⟩, ⟨z3, z4, z5⟩⟩, zs⟩, A, c, rfl, hr⟩
theorem br_table {v : Value} {d : DataW H} {pl : List MemPlace} (hval : Value.okWide Tryz.prog W r b0 29 v) (h : DataW.Trod enc Tryz.prog W 0 (fun _ => true) held 29 v d pl) :
 ∃ (T : List Mat) (A : Option Addr) (c : Nat), v = .slice A T.length c ∧ Rd W W.heap.size 8 A T.length c (mts T) := by
 obtain ⟨a0, n0, c0, rfl⟩ := okWide_slice Tryz.underlying29 hval
 obtain ⟨fuel, hf⟩ := h
 obtain ⟨A, n, c, xs, D, sp, hcs, hn, hr, _, _, _, _⟩ := br_slice mcs (fun _ (_ : DataW H) => True) Tryz.underlying29 (show Tryz.prog.cellsOf 122 = 8 by kernel_rfl) (by decide)
  (fun fuel cs' d pl hl hh => by
   have f := br_leaves 8 122 [(0, 9), (1, 4), (2, 4), (3, 4), (4, 3), (5, 3), (6, 3), (7, 3)] kr_ fuel cs' _ (by rw [hl]; kernel_rfl) hh
   obtain ⟨s, e0⟩ := leaf_str f (o := 0) (t := 9) kr_ Tryz.underlying9 kr_
   obtain ⟨b1, e1⟩ := leaf_bool f (o := 1) (t := 4) kr_ Tryz.underlying4 kr_
   obtain ⟨b2, e2⟩ := leaf_bool f (o := 2) (t := 4) kr_ Tryz.underlying4 kr_
   obtain ⟨b3, e3⟩ := leaf_bool f (o := 3) (t := 4) kr_ Tryz.underlying4 kr_
   obtain ⟨z4, e4, _⟩ := leaf_int f (o := 4) (t := 3) kr_ Tryz.underlying3 kr_
   obtain ⟨z5, e5, _⟩ := leaf_int f (o := 5) (t := 3) kr_ Tryz.underlying3 kr_
   obtain ⟨z6, e6, _⟩ := leaf_int f (o := 6) (t := 3) kr_ Tryz.underlying3 kr_
   obtain ⟨z7, e7, _⟩ := leaf_int f (o := 7) (t := 3) kr_ Tryz.underlying3 kr_
   exact ⟨⟨s, b1, b2, b3, z4, z5, z6, z7⟩, eq8 hl e0 e1 e2 e3 e4 e5 e6 e7, trivial⟩) hf
 simp only [Value.cells, List.cons.injEq, Value.slice.injEq, and_true] at hcs
 obtain ⟨rfl, rfl, rfl⟩ := hcs
 subst hn
 exact ⟨xs, a0, c0, rfl, hr⟩
end
end Go.Proofs.YtbpihalphhoiaaaGreatDoor
