/-
 ME: several texts in one. No statement is proved here.
-/
import Derived.Test.YtgjgjimgomhbmaaGreatDoorMD
import Derived.Test.YtgjgjimgomhbmaaGreatDoorMB
import Derived.Recover
import Derived.Defers
import Derived.Test.YtgjgjimgomhbmaaGreatDoorMC
set_option maxRecDepth 100000
set_option maxHeartbeats 4000000
set_option linter.unusedVariables false
set_option linter.unusedSimpArgs false
namespace Go.Proofs.YtgjgjimgomhbmaaGreatDoor
open Go.RowKit
theorem enc_le (n : Int) : (enc n).length ≤ 10 := by
 unfold enc
 have key : ∀ (f m : Nat), (encN f m).length ≤ f + 1 := by
  intro f
  induction f with
  | zero => intro m; simp [encN]
  | succ f ih =>
   intro m
   rw [encN]
   split
   ·simp
   ·have := ih (m / 128)
    simp only [List.length_cons]
    omega
 exact key 9 _
theorem encI_le (l : List Int) : (encI l).length ≤ 10 + 10 * l.length := by
 unfold encI
 rw [List.length_append]
 have h1 := enc_le l.length
 have h2 : ((l.map enc).flatten).length ≤ 10 * l.length := by
  induction l with
  | nil => simp
  | cons x l ih =>
   have h := enc_le x
   have h3 := ih (enc_le _)
   simp only [List.map_cons, List.flatten_cons, List.length_append, List.length_cons]
   omega
 omega
theorem encD_le (n : Nat) (D : List UInt8) : (encD n D).length ≤ 10 + D.length := by
 unfold encD
 have := enc_le n
 rw [List.length_append]
 omega
section
variable {P : Program} {w : World} {o : Oper} {a : Act}
theorem convBsRun {B n c : Nat} {A : Option Addr} {src e dst : TypeId} (x : Operand) (l : List UInt8) (hs : P.underlying src = some (.slice e)) (he : P.underlying e = some (.int .u8)) (hd : P.underlying dst = some .string) (hr : Rd w B 1 A n c (bcs l)) (ho : o.op = .convert src dst x) (hx : a.eval x = .slice A n c) : (execOp a.eval o).run P w = .ok (.value (.string ⟨l.toArray⟩)) w := by
 unfold execOp
 simp only [ho, hx, Sem.run_bind, Sem.run_pure, conv_bs hs he hd hr, Result.andThen_ok]
end
def NewA (B : Nat) (A : Option Addr) : Prop := ∀ a, A = some a → B ≤ a.block
theorem NewA.none (B : Nat) : NewA B none := fun _ h => by cases h
theorem NewA.mono {B B' : Nat} {A : Option Addr} (h : NewA B A) (hb : B' ≤ B) : NewA B' A := fun a ha => Nat.le_trans hb (h a ha)
theorem own_new {w : World} {B size n m c : Nat} {e : TypeId} {A : Option Addr} {xs : List Value} (h : w.ownsRow B e size (.slice A n c) m xs) : NewA B A := by
 intro a ha
 subst ha
 exact (World.ownsRow.lt h a.block rfl).1
structure Hd.Fit (h : Hd) : Prop where
 c20 : h.counts.length ≤ 20
 r20 : h.rn ≤ 20
 tick : isI64 h.tick
 depth : isI64 h.depth
 counts : ∀ x ∈ h.counts, isI64 x
theorem Hd.Fit.two {h : Hd} (f : h.Fit) : ∀ x ∈ [h.tick, h.depth], isI64 x := by
 intro x hx
 simp at hx
 rcases hx with rfl | rfl
 ·exact f.tick
 ·exact f.depth
theorem grow_any (n : Nat) (hn : 0 < n) (hn2 : n ≤ 100000) (w : World) : Calls Tryz.prog 95 #[.slice none 0 0, .int .i64 (n : Int)] w (fun e w' => ∃ v, e = .returned v ∧ w'.ownsRow w.heap.size 5 1 v 0 ([]) ∧ Below w.heap.size w w') := by
 have hm0 := Mem.nil w
 go_enter Tryz.func95, Tryz.ntmps95
 refine litStart 27 [(0, .slice none 0 0), (1, .int .i64 (n : Int))] kr_ (fun X0 => ?_)
 refine wp_seq_k fun K1 hK1 => ?_
 refine plStart ?_
 refine lk_ (.slice none 0 0) ?_
 refine plD ?_
 refine tn_ hK1 ?_
 refine wp_seq_k fun K2 hK2 => ?_
 refine wp_seq_k fun K3 hK3 => ?_
 refine plStart ?_
 refine lk_ (.int .i64 (n : Int)) ?_
 refine litVal (v := .bool false) rfl (wn rfl) (boolTo (decide_eq_false (show ¬ (n : Int) < 0 by omega)) (lssRun (A := (n : Int)) (B := 0) (.tmp 5) (.const (.int .i64 0)) rfl le_ le_)) rfl (by decide) ?_
 refine plD ?_
 refine tn_ hK3 ?_
 refine wp_cond_false le_ ?_
 refine wp_skip ?_
 refine tn_ hK2 ?_
 refine wp_seq_k fun K4 hK4 => ?_
 refine wp_seq_k fun K5 hK5 => ?_
 refine plStart ?_
 refine lk_ (.int .i64 (n : Int)) ?_
 refine lk_ (.slice none 0 0) ?_
 refine litVal (v := .int .i64 0) rfl (wn rfl) (gCap (A := none) (n := 0) (c := 0) (.tmp 9) Ty.und_L_uint8 rfl le_) rfl (by decide) ?_
 refine lk_ (.slice none 0 0) ?_
 refine litVal (v := .int .i64 0) rfl (wn rfl) (lenSlRun (A := none) (n := 0) (c := 0) (.tmp 11) Ty.und_L_uint8 rfl le_) rfl (by decide) ?_
 refine lk_ (.int .i64 0) ?_
 refine litVal (v := .int .i64 ((n : Int) - 0)) rfl (wn rfl) (subRun (A := (n : Int)) (B := 0) (C := (n : Int) - 0) (.tmp 8) (.tmp 13) rfl le_ le_ rfl (by omega)) rfl (by decide) ?_
 refine lk_ (.int .i64 ((n : Int) - 0)) ?_
 refine plD ?_
 refine tn_ hK5 ?_
 refine wp_seq_k fun K6 hK6 => ?_
 refine plStart ?_
 refine lk_ (.int .i64 ((n : Int) - 0)) ?_
 refine litVal (v := .bool true) rfl (wn rfl) (boolTo (decide_eq_true (show 0 < ((n : Int) - 0) by omega)) (gtrRun (A := ((n : Int) - 0)) (B := 0) (.tmp 15) (.const (.int .i64 0)) rfl le_ le_)) rfl (by decide) ?_
 refine plD ?_
 refine tn_ hK6 ?_
 refine wp_cond_true le_ ?_
 refine plStart ?_
 refine lk_ (.slice none 0 0) ?_
 refine lk_ (.slice none 0 0) ?_
 refine litVal (v := .int .i64 0) rfl (wn rfl) (gCap (A := none) (n := 0) (c := 0) (.tmp 18) Ty.und_L_uint8 rfl le_) rfl (by decide) ?_
 refine litVal (i := 3) (v := .slice none 0 0) rfl (wn rfl) (sliceNil (.tmp 17) (.tmp 19) Ty.sl_L_uint8 rfl le_ le_) rfl (by decide) ?_
 refine lk_ (.int .i64 ((n : Int) - 0)) ?_
 refine plAppZ (n := n) Ty.sl_L_uint8 kr_ hm0 (i := 5) rfl (wn rfl) rfl le_ le_ (by omega) (by omega) (by omega) ?_
 intro g7 c8 xs9 w10 hm11
 clear hm0
 try simp only [lc1_, lc2_, lc3_, lc4_] at hm11
 refine qP rfl ?_
 refine lk_ (.slice none 0 0) ?_
 refine litVal (v := .int .i64 0) rfl (wn rfl) (lenSlRun (A := none) (n := 0) (c := 0) (.tmp 23) Ty.und_L_uint8 rfl le_) rfl (by decide) ?_
 refine litVal (i := 8) (v := .slice (some ⟨g7, 0, none⟩) 0 c8) rfl (wn rfl) (sliceRow0 (n := n) (c := c8) (.tmp 22) (.tmp 24) Ty.sl_L_uint8 rfl le_ le_) rfl (by decide) ?_
 have hm12 := Mem.row0 0 hm11 rfl
 clear hm11
 try simp only [lc1_, lc2_, lc3_, lc4_] at hm12
 refine lk_ (.slice (some ⟨g7, 0, none⟩) 0 c8) ?_
 refine plD ?_
 refine tn_ hK4 ?_
 refine wpPrune [(0, .slice (some ⟨g7, 0, none⟩) 0 c8), (4, .slice none 0 0)] ⟨lg_, ⟨lg_, trivial⟩⟩ (fun X13 => ?_)
 refine wp_seq_k fun K14 hK14 => ?_
 refine plStart ?_
 refine lk_ (.slice (some ⟨g7, 0, none⟩) 0 c8) ?_
 refine lk_ (.slice (some ⟨g7, 0, none⟩) 0 c8) ?_
 refine plD ?_
 refine tn_ hK14 ?_
 refine wp_ret ?_
 refine bodyPost_ret (v := .slice (some ⟨g7, 0, none⟩) 0 c8) (gRes1 rfl (gResTmp (t := 4) (v := .slice (some ⟨g7, 0, none⟩) 0 c8) (lg_))) rfl ?_
 exact ⟨_, rfl, hm12.row 0 rfl, hm12.bel⟩
theorem concat_any (l1 l2 l3 : List UInt8) (b : Nat) (A1 A2 A3 : Option Addr) (c1 c2 c3 : Nat) (hn : 0 < l1.length + l2.length + l3.length) (hn2 : l1.length + l2.length + l3.length ≤ 100000) (w : World) (hr : Rd w w.heap.size 1 (some ⟨b, 0, none⟩) 3 3 [.slice A1 l1.length c1, .slice A2 l2.length c2, .slice A3 l3.length c3]) (hr1 : Rd w w.heap.size 1 A1 l1.length c1 (bcs l1)) (hr2 : Rd w w.heap.size 1 A2 l2.length c2 (bcs l2)) (hr3 : Rd w w.heap.size 1 A3 l3.length c3 (bcs l3)) : Calls Tryz.prog 45 #[.slice (some ⟨b, 0, none⟩) 3 3] w (fun e w' => ∃ v, e = .returned v ∧ w'.ownsRow w.heap.size 5 1 v (l1 ++ l2 ++ l3).length (bcs (l1 ++ l2 ++ l3)) ∧ Below w.heap.size w w') := by
 have hm0 := Mem.nil w
 go_enter Tryz.func45, Tryz.ntmps45
 refine litStart 36 [(0, .slice (some ⟨b, 0, none⟩) 3 3)] kr_ (fun X0 => ?_)
 refine wp_seq_k fun K1 hK1 => ?_
 refine plStart ?_
 refine lk_ (.slice none 0 0) ?_
 refine plD ?_
 refine tn_ hK1 ?_
 refine wp_seq_k fun K2 hK2 => ?_
 refine plStart ?_
 refine lk_ (.int .i64 0) ?_
 refine plD ?_
 refine tn_ hK2 ?_
 refine wp_seq_k fun K3 hK3 => ?_
 refine wp_seq_k fun K4 hK4 => ?_
 refine plStart ?_
 refine lk_ (.slice (some ⟨b, 0, none⟩) 3 3) ?_
 refine litVal (v := .int .i64 3) rfl (wn rfl) (lenSlRun (A := some ⟨b, 0, none⟩) (n := 3) (c := 3) (.tmp 9) Ty.und_L_L_uint8 rfl le_) rfl (by decide) ?_
 refine lk_ (.int .i64 0) ?_
 refine plD ?_
 refine tn_ hK4 ?_
 refine wp_block ?_
 refine roundsStart 3 ?_
 refine wp_seq_k fun K5 hK5 => ?_
 refine plStart ?_
 refine lk_ (.bool true) ?_
 refine plD ?_
 refine tn_ hK5 ?_
 refine wp_seq_k fun K6 hK6 => ?_
 refine wp_cond_true le_ ?_
 refine wp_skip ?_
 refine tn_ hK6 ?_
 refine wp_seq_k fun K7 hK7 => ?_
 refine wp_block ?_
 refine wp_seq_k fun K8 hK8 => ?_
 refine plStart ?_
 refine litVal (v := .pointer (some ⟨b, 0 + 0 * 1, none⟩)) rfl (wn rfl) (gIaSl (b := b) (off := 0) (n := 3) (c := 3) (kk := .i64) (K := 0) (.tmp 9) (.tmp 11) 0 Ty.sl_L_L_uint8 rfl le_ le_ (rfl) (by decide)) rfl (by decide) ?_
 refine litVal (v := .slice A1 l1.length c1) rfl (wn rfl) (gLoadRd (v := .slice A1 l1.length c1) (m := 0 * 1) ((Rd.below hr hm0.bel).more hm0.bel.size) rfl (rfl) (by decide) (.tmp 13) kr_ rfl le_) rfl (by decide) ?_
 refine lk_ (.slice A1 l1.length c1) ?_
 refine plD ?_
 refine tn_ hK8 ?_
 refine wp_seq_k fun K9 hK9 => ?_
 refine plStart ?_
 refine lk_ (.int .i64 0) ?_
 refine lk_ (.slice A1 l1.length c1) ?_
 refine litVal (v := .int .i64 (l1.length : Int)) rfl (wn rfl) (lenSlRun (A := A1) (n := l1.length) (c := c1) (.tmp 16) Ty.und_L_uint8 rfl le_) rfl (by decide) ?_
 refine litVal (v := .int .i64 (l1.length : Int)) rfl (wn rfl) (addRun (A := 0) (B := (l1.length : Int)) (C := (l1.length : Int)) (.tmp 15) (.tmp 17) rfl le_ le_ (by omega) (by omega)) rfl (by decide) ?_
 refine lk_ (.int .i64 (l1.length : Int)) ?_
 refine plD ?_
 refine tn_ hK9 ?_
 refine wp_seq_k fun K10 hK10 => ?_
 refine plStart ?_
 refine lk_ (.int .i64 (l1.length : Int)) ?_
 refine litVal (v := .bool false) rfl (wn rfl) (boolTo (decide_eq_false (show ¬ (l1.length : Int) < 0 by omega)) (lssRun (A := (l1.length : Int)) (B := 0) (.tmp 19) (.const (.int .i64 0)) rfl le_ le_)) rfl (by decide) ?_
 refine plD ?_
 refine tn_ hK10 ?_
 refine wp_cond_false le_ ?_
 refine wp_skip ?_
 refine inBlock_normal ?_
 refine tn_ hK7 ?_
 refine plStart ?_
 refine lk_ (.int .i64 1) ?_
 refine lk_ (.int .i64 1) ?_
 refine plD ?_
 refine then_normal (roundsNext ?_)
 refine wp_seq_k fun K11 hK11 => ?_
 refine plStart ?_
 refine lk_ (.bool true) ?_
 refine plD ?_
 refine tn_ hK11 ?_
 refine wp_seq_k fun K12 hK12 => ?_
 refine wp_cond_true le_ ?_
 refine wp_skip ?_
 refine tn_ hK12 ?_
 refine wp_seq_k fun K13 hK13 => ?_
 refine wp_block ?_
 refine wp_seq_k fun K14 hK14 => ?_
 refine plStart ?_
 refine litVal (v := .pointer (some ⟨b, 0 + 1 * 1, none⟩)) rfl (wn rfl) (gIaSl (b := b) (off := 0) (n := 3) (c := 3) (kk := .i64) (K := 1) (.tmp 9) (.tmp 11) 1 Ty.sl_L_L_uint8 rfl le_ le_ (rfl) (by decide)) rfl (by decide) ?_
 refine litVal (v := .slice A2 l2.length c2) rfl (wn rfl) (gLoadRd (v := .slice A2 l2.length c2) (m := 1 * 1) ((Rd.below hr hm0.bel).more hm0.bel.size) rfl (rfl) (by decide) (.tmp 13) kr_ rfl le_) rfl (by decide) ?_
 refine lk_ (.slice A2 l2.length c2) ?_
 refine plD ?_
 refine tn_ hK14 ?_
 refine wp_seq_k fun K15 hK15 => ?_
 refine plStart ?_
 refine lk_ (.int .i64 (l1.length : Int)) ?_
 refine lk_ (.slice A2 l2.length c2) ?_
 refine litVal (v := .int .i64 (l2.length : Int)) rfl (wn rfl) (lenSlRun (A := A2) (n := l2.length) (c := c2) (.tmp 16) Ty.und_L_uint8 rfl le_) rfl (by decide) ?_
 refine litVal (v := .int .i64 ((l1.length + l2.length : Nat) : Int)) rfl (wn rfl) (addRun (A := (l1.length : Int)) (B := (l2.length : Int)) (C := ((l1.length + l2.length : Nat) : Int)) (.tmp 15) (.tmp 17) rfl le_ le_ (by omega) (by omega)) rfl (by decide) ?_
 refine lk_ (.int .i64 ((l1.length + l2.length : Nat) : Int)) ?_
 refine plD ?_
 refine tn_ hK15 ?_
 refine wp_seq_k fun K16 hK16 => ?_
 refine plStart ?_
 refine lk_ (.int .i64 ((l1.length + l2.length : Nat) : Int)) ?_
 refine litVal (v := .bool false) rfl (wn rfl) (boolTo (decide_eq_false (show ¬ ((l1.length + l2.length : Nat) : Int) < 0 by omega)) (lssRun (A := ((l1.length + l2.length : Nat) : Int)) (B := 0) (.tmp 19) (.const (.int .i64 0)) rfl le_ le_)) rfl (by decide) ?_
 refine plD ?_
 refine tn_ hK16 ?_
 refine wpPrune [(0, .slice (some ⟨b, 0, none⟩) 3 3), (2, .slice none 0 0), (3, .int .i64 ((l1.length + l2.length : Nat) : Int)), (5, .slice A2 l2.length c2), (9, .slice (some ⟨b, 0, none⟩) 3 3), (10, .int .i64 3), (11, .int .i64 1), (12, .bool true), (13, .pointer (some ⟨b, 0 + 1 * 1, none⟩)), (14, .slice A2 l2.length c2), (15, .int .i64 (l1.length : Int)), (16, .slice A2 l2.length c2), (17, .int .i64 (l2.length : Int)), (18, .int .i64 ((l1.length + l2.length : Nat) : Int)), (19, .int .i64 ((l1.length + l2.length : Nat) : Int)), (20, .bool false), (22, .int .i64 1)] ⟨lg_, ⟨lg_, ⟨lg_, ⟨lg_, ⟨lg_, ⟨lg_, ⟨lg_, ⟨lg_, ⟨lg_, ⟨lg_, ⟨lg_, ⟨lg_, ⟨lg_, ⟨lg_, ⟨lg_, ⟨lg_, ⟨lg_, trivial⟩⟩⟩⟩⟩⟩⟩⟩⟩⟩⟩⟩⟩⟩⟩⟩⟩ (fun X17 => ?_)
 refine wp_cond_false le_ ?_
 refine wp_skip ?_
 refine inBlock_normal ?_
 refine tn_ hK13 ?_
 refine plStart ?_
 refine lk_ (.int .i64 2) ?_
 refine lk_ (.int .i64 2) ?_
 refine plD ?_
 refine then_normal (roundsNext ?_)
 refine wp_seq_k fun K18 hK18 => ?_
 refine plStart ?_
 refine lk_ (.bool true) ?_
 refine plD ?_
 refine tn_ hK18 ?_
 refine wp_seq_k fun K19 hK19 => ?_
 refine wp_cond_true le_ ?_
 refine wp_skip ?_
 refine tn_ hK19 ?_
 refine wp_seq_k fun K20 hK20 => ?_
 refine wp_block ?_
 refine wp_seq_k fun K21 hK21 => ?_
 refine plStart ?_
 refine litVal (v := .pointer (some ⟨b, 0 + 2 * 1, none⟩)) rfl (wn rfl) (gIaSl (b := b) (off := 0) (n := 3) (c := 3) (kk := .i64) (K := 2) (.tmp 9) (.tmp 11) 2 Ty.sl_L_L_uint8 rfl le_ le_ (rfl) (by decide)) rfl (by decide) ?_
 refine litVal (v := .slice A3 l3.length c3) rfl (wn rfl) (gLoadRd (v := .slice A3 l3.length c3) (m := 2 * 1) ((Rd.below hr hm0.bel).more hm0.bel.size) rfl (rfl) (by decide) (.tmp 13) kr_ rfl le_) rfl (by decide) ?_
 refine lk_ (.slice A3 l3.length c3) ?_
 refine plD ?_
 refine tn_ hK21 ?_
 refine wp_seq_k fun K22 hK22 => ?_
 refine plStart ?_
 refine lk_ (.int .i64 ((l1.length + l2.length : Nat) : Int)) ?_
 refine lk_ (.slice A3 l3.length c3) ?_
 refine litVal (v := .int .i64 (l3.length : Int)) rfl (wn rfl) (lenSlRun (A := A3) (n := l3.length) (c := c3) (.tmp 16) Ty.und_L_uint8 rfl le_) rfl (by decide) ?_
 refine litVal (v := .int .i64 ((l1.length + l2.length + l3.length : Nat) : Int)) rfl (wn rfl) (addRun (A := ((l1.length + l2.length : Nat) : Int)) (B := (l3.length : Int)) (C := ((l1.length + l2.length + l3.length : Nat) : Int)) (.tmp 15) (.tmp 17) rfl le_ le_ (by omega) (by omega)) rfl (by decide) ?_
 refine lk_ (.int .i64 ((l1.length + l2.length + l3.length : Nat) : Int)) ?_
 refine plD ?_
 refine tn_ hK22 ?_
 refine wp_seq_k fun K23 hK23 => ?_
 refine plStart ?_
 refine lk_ (.int .i64 ((l1.length + l2.length + l3.length : Nat) : Int)) ?_
 refine litVal (v := .bool false) rfl (wn rfl) (boolTo (decide_eq_false (show ¬ ((l1.length + l2.length + l3.length : Nat) : Int) < 0 by omega)) (lssRun (A := ((l1.length + l2.length + l3.length : Nat) : Int)) (B := 0) (.tmp 19) (.const (.int .i64 0)) rfl le_ le_)) rfl (by decide) ?_
 refine plD ?_
 refine tn_ hK23 ?_
 refine wpPrune [(0, .slice (some ⟨b, 0, none⟩) 3 3), (2, .slice none 0 0), (3, .int .i64 ((l1.length + l2.length + l3.length : Nat) : Int)), (5, .slice A3 l3.length c3), (9, .slice (some ⟨b, 0, none⟩) 3 3), (10, .int .i64 3), (11, .int .i64 2), (12, .bool true), (13, .pointer (some ⟨b, 0 + 2 * 1, none⟩)), (14, .slice A3 l3.length c3), (15, .int .i64 ((l1.length + l2.length : Nat) : Int)), (16, .slice A3 l3.length c3), (17, .int .i64 (l3.length : Int)), (18, .int .i64 ((l1.length + l2.length + l3.length : Nat) : Int)), (19, .int .i64 ((l1.length + l2.length + l3.length : Nat) : Int)), (20, .bool false), (22, .int .i64 2)] ⟨lg_, ⟨lg_, ⟨lg_, ⟨lg_, ⟨lg_, ⟨lg_, ⟨lg_, ⟨lg_, ⟨lg_, ⟨lg_, ⟨lg_, ⟨lg_, ⟨lg_, ⟨lg_, ⟨lg_, ⟨lg_, ⟨lg_, trivial⟩⟩⟩⟩⟩⟩⟩⟩⟩⟩⟩⟩⟩⟩⟩⟩⟩ (fun X24 => ?_)
 refine wp_cond_false le_ ?_
 refine wp_skip ?_
 refine inBlock_normal ?_
 refine tn_ hK20 ?_
 refine plStart ?_
 refine lk_ (.int .i64 3) ?_
 refine lk_ (.int .i64 3) ?_
 refine plD ?_
 refine then_normal (roundsNext ?_)
 refine wp_seq_k fun K25 hK25 => ?_
 refine plStart ?_
 refine lk_ (.bool false) ?_
 refine plD ?_
 refine tn_ hK25 ?_
 refine wp_seq_k fun K26 hK26 => ?_
 refine wp_cond_false le_ ?_
 refine wp_exit ?_
 refine then_exit ?_
 refine then_exit ?_
 refine inBlock_exit ?_
 refine tn_ hK3 ?_
 refine wpPrune [(0, .slice (some ⟨b, 0, none⟩) 3 3), (2, .slice none 0 0), (3, .int .i64 ((l1.length + l2.length + l3.length : Nat) : Int))] ⟨lg_, ⟨lg_, ⟨lg_, trivial⟩⟩⟩ (fun X27 => ?_)
 refine wp_seq_k fun K28 hK28 => ?_
 refine plStart ?_
 refine lk_ (.int .i64 ((l1.length + l2.length + l3.length : Nat) : Int)) ?_
 refine plCall (i := 1) 95 [.slice none 0 0, .int .i64 ((l1.length + l2.length + l3.length : Nat) : Int)] [] [] rfl kr_ (wn rfl) rfl le_ (litArgs kr_) (grow_any (l1.length + l2.length + l3.length) (by omega) (by omega) _) ?_
 rintro e w29 ⟨v31, rfl, hown_, hbz⟩
 obtain ⟨A32, c33, rfl, hrd_⟩ := Rd.of_own hown_
 clear hrd_
 have hm30 := hm0.newRow hbz hown_
 clear hown_ hbz
 clear hm0
 try simp only [lc1_, lc2_, lc3_, lc4_] at hm30
 refine ⟨_, rfl, ?_⟩
 refine qP rfl ?_
 refine lk_ (.slice A32 0 c33) ?_
 refine plD ?_
 refine tn_ hK28 ?_
 refine wp_seq_k fun K34 hK34 => ?_
 refine wp_seq_k fun K35 hK35 => ?_
 refine plStart ?_
 refine lk_ (.slice (some ⟨b, 0, none⟩) 3 3) ?_
 refine litVal (v := .int .i64 3) rfl (wn rfl) (lenSlRun (A := some ⟨b, 0, none⟩) (n := 3) (c := 3) (.tmp 25) Ty.und_L_L_uint8 rfl le_) rfl (by decide) ?_
 refine lk_ (.int .i64 0) ?_
 refine plD ?_
 refine tn_ hK35 ?_
 refine wp_block ?_
 refine roundsStart 3 ?_
 refine wp_seq_k fun K36 hK36 => ?_
 refine plStart ?_
 refine lk_ (.bool true) ?_
 refine plD ?_
 refine tn_ hK36 ?_
 refine wp_seq_k fun K37 hK37 => ?_
 refine wp_cond_true le_ ?_
 refine wp_skip ?_
 refine tn_ hK37 ?_
 refine wp_seq_k fun K38 hK38 => ?_
 refine wp_block ?_
 refine wp_seq_k fun K39 hK39 => ?_
 refine plStart ?_
 refine litVal (v := .pointer (some ⟨b, 0 + 0 * 1, none⟩)) rfl (wn rfl) (gIaSl (b := b) (off := 0) (n := 3) (c := 3) (kk := .i64) (K := 0) (.tmp 25) (.tmp 27) 0 Ty.sl_L_L_uint8 rfl le_ le_ (rfl) (by decide)) rfl (by decide) ?_
 refine litVal (v := .slice A1 l1.length c1) rfl (wn rfl) (gLoadRd (v := .slice A1 l1.length c1) (m := 0 * 1) ((Rd.below hr hm30.bel).more hm30.bel.size) rfl (rfl) (by decide) (.tmp 29) kr_ rfl le_) rfl (by decide) ?_
 refine lk_ (.slice A1 l1.length c1) ?_
 refine plD ?_
 refine tn_ hK39 ?_
 refine plStart ?_
 refine lk_ (.slice A32 0 c33) ?_
 refine lk_ (.slice A1 l1.length c1) ?_
 refine plAppR (v := .slice A32 0 c33) (n := 0) (xs := []) (ys := bcs l1) (A := A1) (m := l1.length) (c := c1) 0 Ty.sl_L_uint8 hm30 rfl ((Rd.below hr1 hm30.bel).more hm30.bel.size) (i := 2) rfl (wn rfl) rfl le_ le_ (bcs_one l1) (by first | omega | (simp only [List.length_append]; omega)) (by first | omega | (simp only [List.length_append]; omega)) ?_
 intro v44 w41 hm40
 clear hm30
 try simp only [lc1_, lc2_, lc3_, lc4_] at hm40
 replace hm40 := Mem.rowEq (v := v44) (e := 5) (size := 1) (n := 0 + l1.length) (n' := l1.length) (xs := ([]) ++ (bcs l1)) (xs' := bcs l1) 0 hm40 rfl (Nat.zero_add _) (rfl)
 try simp only [lc1_, lc2_, lc3_, lc4_] at hm40
 obtain ⟨A42, c43, rfl⟩ := Mem.rowSl (v := v44) (e := 5) (size := 1) (n := l1.length) (xs := bcs l1) 0 hm40 rfl
 refine qP rfl ?_
 refine lk_ (.slice A42 l1.length c43) ?_
 refine plD ?_
 refine inBlock_normal ?_
 refine tn_ hK38 ?_
 refine plStart ?_
 refine lk_ (.int .i64 1) ?_
 refine lk_ (.int .i64 1) ?_
 refine plD ?_
 refine then_normal (roundsNext ?_)
 refine wp_seq_k fun K45 hK45 => ?_
 refine plStart ?_
 refine lk_ (.bool true) ?_
 refine plD ?_
 refine tn_ hK45 ?_
 refine wp_seq_k fun K46 hK46 => ?_
 refine wp_cond_true le_ ?_
 refine wp_skip ?_
 refine tn_ hK46 ?_
 refine wp_seq_k fun K47 hK47 => ?_
 refine wp_block ?_
 refine wp_seq_k fun K48 hK48 => ?_
 refine plStart ?_
 refine litVal (v := .pointer (some ⟨b, 0 + 1 * 1, none⟩)) rfl (wn rfl) (gIaSl (b := b) (off := 0) (n := 3) (c := 3) (kk := .i64) (K := 1) (.tmp 25) (.tmp 27) 1 Ty.sl_L_L_uint8 rfl le_ le_ (rfl) (by decide)) rfl (by decide) ?_
 refine litVal (v := .slice A2 l2.length c2) rfl (wn rfl) (gLoadRd (v := .slice A2 l2.length c2) (m := 1 * 1) ((Rd.below hr hm40.bel).more hm40.bel.size) rfl (rfl) (by decide) (.tmp 29) kr_ rfl le_) rfl (by decide) ?_
 refine lk_ (.slice A2 l2.length c2) ?_
 refine plD ?_
 refine tn_ hK48 ?_
 refine plStart ?_
 refine lk_ (.slice A42 l1.length c43) ?_
 refine lk_ (.slice A2 l2.length c2) ?_
 refine plAppR (v := .slice A42 l1.length c43) (n := l1.length) (xs := bcs l1) (ys := bcs l2) (A := A2) (m := l2.length) (c := c2) 0 Ty.sl_L_uint8 hm40 rfl ((Rd.below hr2 hm40.bel).more hm40.bel.size) (i := 2) rfl (wn rfl) rfl le_ le_ (bcs_one l2) (by first | omega | (simp only [List.length_append]; omega)) (by first | omega | (simp only [List.length_append]; omega)) ?_
 intro v53 w50 hm49
 clear hm40
 try simp only [lc1_, lc2_, lc3_, lc4_] at hm49
 replace hm49 := Mem.rowEq (v := v53) (e := 5) (size := 1) (n := l1.length + l2.length) (n' := (l1 ++ l2).length) (xs := (bcs l1) ++ (bcs l2)) (xs' := bcs (l1 ++ l2)) 0 hm49 rfl (by simp only [List.length_append]) ((bcs_append _ _).symm)
 try simp only [lc1_, lc2_, lc3_, lc4_] at hm49
 obtain ⟨A51, c52, rfl⟩ := Mem.rowSl (v := v53) (e := 5) (size := 1) (n := (l1 ++ l2).length) (xs := bcs (l1 ++ l2)) 0 hm49 rfl
 refine qP rfl ?_
 refine lk_ (.slice A51 ((l1 ++ l2).length) c52) ?_
 refine plD ?_
 refine inBlock_normal ?_
 refine tn_ hK47 ?_
 refine wpPrune [(2, .slice none 0 0), (6, .slice A51 ((l1 ++ l2).length) c52), (8, .slice A2 l2.length c2), (25, .slice (some ⟨b, 0, none⟩) 3 3), (26, .int .i64 3), (27, .int .i64 1), (28, .bool true), (29, .pointer (some ⟨b, 0 + 1 * 1, none⟩)), (30, .slice A2 l2.length c2), (31, .slice A42 l1.length c43), (32, .slice A2 l2.length c2), (33, .slice A51 ((l1 ++ l2).length) c52), (34, .int .i64 1)] ⟨lg_, ⟨lg_, ⟨lg_, ⟨lg_, ⟨lg_, ⟨lg_, ⟨lg_, ⟨lg_, ⟨lg_, ⟨lg_, ⟨lg_, ⟨lg_, ⟨lg_, trivial⟩⟩⟩⟩⟩⟩⟩⟩⟩⟩⟩⟩⟩ (fun X54 => ?_)
 refine plStart ?_
 refine lk_ (.int .i64 2) ?_
 refine lk_ (.int .i64 2) ?_
 refine plD ?_
 refine then_normal (roundsNext ?_)
 refine wp_seq_k fun K55 hK55 => ?_
 refine plStart ?_
 refine lk_ (.bool true) ?_
 refine plD ?_
 refine tn_ hK55 ?_
 refine wp_seq_k fun K56 hK56 => ?_
 refine wp_cond_true le_ ?_
 refine wp_skip ?_
 refine tn_ hK56 ?_
 refine wp_seq_k fun K57 hK57 => ?_
 refine wp_block ?_
 refine wp_seq_k fun K58 hK58 => ?_
 refine plStart ?_
 refine litVal (v := .pointer (some ⟨b, 0 + 2 * 1, none⟩)) rfl (wn rfl) (gIaSl (b := b) (off := 0) (n := 3) (c := 3) (kk := .i64) (K := 2) (.tmp 25) (.tmp 27) 2 Ty.sl_L_L_uint8 rfl le_ le_ (rfl) (by decide)) rfl (by decide) ?_
 refine litVal (v := .slice A3 l3.length c3) rfl (wn rfl) (gLoadRd (v := .slice A3 l3.length c3) (m := 2 * 1) ((Rd.below hr hm49.bel).more hm49.bel.size) rfl (rfl) (by decide) (.tmp 29) kr_ rfl le_) rfl (by decide) ?_
 refine lk_ (.slice A3 l3.length c3) ?_
 refine plD ?_
 refine tn_ hK58 ?_
 refine plStart ?_
 refine lk_ (.slice A51 ((l1 ++ l2).length) c52) ?_
 refine lk_ (.slice A3 l3.length c3) ?_
 refine plAppR (v := .slice A51 ((l1 ++ l2).length) c52) (n := (l1 ++ l2).length) (xs := bcs (l1 ++ l2)) (ys := bcs l3) (A := A3) (m := l3.length) (c := c3) 0 Ty.sl_L_uint8 hm49 rfl ((Rd.below hr3 hm49.bel).more hm49.bel.size) (i := 2) rfl (wn rfl) rfl le_ le_ (bcs_one l3) (by first | omega | (simp only [List.length_append]; omega)) (by first | omega | (simp only [List.length_append]; omega)) ?_
 intro v63 w60 hm59
 clear hm49
 try simp only [lc1_, lc2_, lc3_, lc4_] at hm59
 replace hm59 := Mem.rowEq (v := v63) (e := 5) (size := 1) (n := ((l1 ++ l2).length) + l3.length) (n' := (l1 ++ l2 ++ l3).length) (xs := (bcs (l1 ++ l2)) ++ (bcs l3)) (xs' := bcs (l1 ++ l2 ++ l3)) 0 hm59 rfl (by simp only [List.length_append]) ((bcs_append _ _).symm)
 try simp only [lc1_, lc2_, lc3_, lc4_] at hm59
 obtain ⟨A61, c62, rfl⟩ := Mem.rowSl (v := v63) (e := 5) (size := 1) (n := (l1 ++ l2 ++ l3).length) (xs := bcs (l1 ++ l2 ++ l3)) 0 hm59 rfl
 refine qP rfl ?_
 refine lk_ (.slice A61 ((l1 ++ l2 ++ l3).length) c62) ?_
 refine plD ?_
 refine inBlock_normal ?_
 refine tn_ hK57 ?_
 refine plStart ?_
 refine lk_ (.int .i64 3) ?_
 refine lk_ (.int .i64 3) ?_
 refine plD ?_
 refine then_normal (roundsNext ?_)
 refine wp_seq_k fun K64 hK64 => ?_
 refine plStart ?_
 refine lk_ (.bool false) ?_
 refine plD ?_
 refine tn_ hK64 ?_
 refine wpPrune [(2, .slice none 0 0), (6, .slice A61 ((l1 ++ l2 ++ l3).length) c62), (8, .slice A3 l3.length c3), (25, .slice (some ⟨b, 0, none⟩) 3 3), (26, .int .i64 3), (27, .int .i64 3), (28, .bool false), (29, .pointer (some ⟨b, 0 + 2 * 1, none⟩)), (30, .slice A3 l3.length c3), (31, .slice A51 ((l1 ++ l2).length) c52), (32, .slice A3 l3.length c3), (33, .slice A61 ((l1 ++ l2 ++ l3).length) c62), (34, .int .i64 3)] ⟨lg_, ⟨lg_, ⟨lg_, ⟨lg_, ⟨lg_, ⟨lg_, ⟨lg_, ⟨lg_, ⟨lg_, ⟨lg_, ⟨lg_, ⟨lg_, ⟨lg_, trivial⟩⟩⟩⟩⟩⟩⟩⟩⟩⟩⟩⟩⟩ (fun X65 => ?_)
 refine wp_seq_k fun K66 hK66 => ?_
 refine wp_cond_false le_ ?_
 refine wp_exit ?_
 refine then_exit ?_
 refine then_exit ?_
 refine inBlock_exit ?_
 refine tn_ hK34 ?_
 refine wp_seq_k fun K67 hK67 => ?_
 refine plStart ?_
 refine lk_ (.slice A61 ((l1 ++ l2 ++ l3).length) c62) ?_
 refine lk_ (.slice A61 ((l1 ++ l2 ++ l3).length) c62) ?_
 refine plD ?_
 refine tn_ hK67 ?_
 refine wpPrune [(2, .slice A61 ((l1 ++ l2 ++ l3).length) c62)] ⟨lg_, trivial⟩ (fun X68 => ?_)
 refine wp_ret ?_
 refine bodyPost_ret (v := .slice A61 ((l1 ++ l2 ++ l3).length) c62) (gRes1 rfl (gResTmp (t := 2) (v := .slice A61 ((l1 ++ l2 ++ l3).length) c62) (lg_))) rfl ?_
 exact ⟨_, rfl, hm59.row 0 rfl, hm59.bel⟩
theorem encI_len2 (l : List Int) : ∃ n, (encI l).length = n + 1 := by
 have h : (enc l.length).length ≠ 0 := by
  unfold enc
  rw [encN]
  split <;> simp
 unfold encI
 rw [List.length_append]
 exact ⟨(enc l.length).length + ((l.map enc).flatten).length - 1, by omega⟩
theorem encI_pos (l : List Int) : 0 < (encI l).length := by
 obtain ⟨n, h⟩ := encI_len2 l
 omega
theorem encode_any (h : Hd) (A : Option Addr) (c : Nat) (B : Option Addr) (d : Nat) (w : World) (hA : Rd w w.heap.size 1 A h.counts.length c (ics h.counts)) (hB : Rd w w.heap.size 16 B h.rn d (bcs h.D)) (hf : h.Fit) : Calls Tryz.prog 13 #[.agg (hcs h A c B d).toArray] w (fun e w' => ∃ v, e = .returned v ∧ w'.ownsRow w.heap.size 5 1 v (encH h).length (bcs (encH h)) ∧ Below w.heap.size w w') := by
 have hld_ := hB.len
 rw [bcs_length] at hld_
 have hm0 := Mem.nil w
 go_enter Tryz.func13, Tryz.ntmps13
 refine litStart 17 [(0, .agg (hcs h A c B d).toArray)] kr_ (fun X0 => ?_)
 refine wp_seq_k fun K1 hK1 => ?_
 refine plStart ?_
 refine plBox hm0 (cs := hcs h A c B d) (i := 0) rfl (wn rfl) rfl le_ ?_
 intro g2 w4 hm3
 clear hm0
 try simp only [lc1_, lc2_, lc3_, lc4_] at hm3
 refine qP rfl ?_
 refine lk_ (.slice none 0 0) ?_
 refine plD ?_
 refine tn_ hK1 ?_
 refine wp_seq_k fun K5 hK5 => ?_
 refine mgStart hm3 kr_ ?_
 intro w7 hm6
 clear hm3
 refine mk_ (i := 0) (v := .pointer (some ⟨g2, 0, none⟩)) rfl rfl (fun _ _ _ h => h) hm6 rfl ?_
 refine mgTake (i := 1) (v := .int .i64 h.tick) rfl kr_ (wn rfl) (fun _ _ _ h => h) hm6 (fun w_ h_ => gLoad (v := .int .i64 h.tick) (k := 0) 0 h_ rfl kr_ (.tmp 3) kr_ rfl le_) ?_
 refine mP rfl ?_
 refine mk_ (i := 2) (v := .pointer (some ⟨g2, 2, none⟩)) rfl rfl (fun _ _ _ h => h) hm6 rfl ?_
 refine mgTake (i := 3) (v := .int .i64 h.depth) rfl kr_ (wn rfl) (fun _ _ _ h => h) hm6 (fun w_ h_ => gLoad (v := .int .i64 h.depth) (k := 2) 0 h_ rfl kr_ (.tmp 5) kr_ rfl le_) ?_
 refine mP rfl ?_
 refine mk_ (i := 6) (v := .pointer (some ⟨g2, 1, none⟩)) rfl rfl (fun _ _ _ h => h) hm6 rfl ?_
 refine mgTake (i := 7) (v := .slice A h.counts.length c) rfl kr_ (wn rfl) (fun _ _ _ h => h) hm6 (fun w_ h_ => gLoad (v := .slice A h.counts.length c) (k := 1) 0 h_ rfl kr_ (.tmp 9) kr_ rfl le_) ?_
 refine mP rfl ?_
 refine mk_ (i := 9) (v := .pointer (some ⟨g2, 3, none⟩)) rfl rfl (fun _ _ _ h => h) hm6 rfl ?_
 refine mgTake (i := 10) (v := .slice B h.rn d) rfl kr_ (wn rfl) (fun _ _ _ h => h) hm6 (fun w_ h_ => gLoad (v := .slice B h.rn d) (k := 3) 0 h_ rfl kr_ (.tmp 12) kr_ rfl le_) ?_
 refine mP rfl ?_
 refine mgLit (cs := [.int .i64 h.tick, .int .i64 h.depth]) (n := 2) Ty.sl_L_int hm6 (i := 4) kr_ rfl (wn rfl) rfl (by decide) (by decide) (by rw [lit_eval]; kernel_rfl) ?_
 intro g8 w10 hm9
 clear hm6
 try simp only [lc1_, lc2_, lc3_, lc4_] at hm9 ⊢
 refine mP rfl ?_
 refine mgCall (i := 5) 46 [.slice (some ⟨g8, 0, none⟩) 2 2] [] [] kr_ rfl kr_ (wn rfl) rfl le_ (litArgs kr_) (ints_any [h.tick, h.depth] (some ⟨g8, 0, none⟩) 2 2 _ _ (Rd.of_arr (t := 3) (cs := ([h.tick, h.depth].map iv)) (hm9.arr 1 kr_) kr_ (of_decide_eq_true kr_)) (Nat.le_refl _) hf.two (by have q_ := encI_le [h.tick, h.depth]; have := hf.c20; (try simp at q_); omega)) ?_
 rintro e w11 ⟨v13, rfl, hown_, hbz⟩
 obtain ⟨A14, c15, rfl, hrd_⟩ := Rd.of_own hown_
 clear hrd_
 have hm12 := hm9.newRow hbz hown_
 clear hown_ hbz
 try simp only [lc1_, lc2_, lc3_, lc4_] at hm12
 refine ⟨_, rfl, (hm12.sub (.cons_cons _ (.cons_cons _ (.cons _ .slnil)))), ?_⟩
 refine mgMore (L' := [.arr g2 25 (hcs h A c B d), .arr g8 3 ([.int .i64 h.tick, .int .i64 h.depth]), .row (.slice A14 ((encI [h.tick, h.depth]).length) c15) 5 1 ((encI [h.tick, h.depth]).length) (bcs (encI [h.tick, h.depth]))]) (fun w_ h_ => (h_.sub (.cons_cons _ (.cons_cons _ (.cons _ .slnil))))) ?_
 refine mP rfl ?_
 refine mgCall (i := 8) 46 [.slice A h.counts.length c] [] [] kr_ rfl kr_ (wn rfl) rfl le_ (litArgs kr_) (ints_any h.counts A h.counts.length c _ _ ((Rd.below hA hm12.bel).more hm12.bel.size) (Nat.le_refl _) hf.counts (by have q_ := encI_le h.counts; have := hf.c20; (try simp at q_); omega)) ?_
 rintro e w16 ⟨v18, rfl, hown_, hbz⟩
 obtain ⟨A19, c20, rfl, hrd_⟩ := Rd.of_own hown_
 clear hrd_
 have hm17 := hm12.newRow hbz hown_
 clear hown_ hbz
 try simp only [lc1_, lc2_, lc3_, lc4_] at hm17
 refine ⟨_, rfl, (hm17.sub (.cons_cons _ (.cons_cons _ (.cons_cons _ (.cons _ .slnil))))), ?_⟩
 refine mgMore (L' := [.arr g2 25 (hcs h A c B d), .arr g8 3 ([.int .i64 h.tick, .int .i64 h.depth]), .row (.slice A14 ((encI [h.tick, h.depth]).length) c15) 5 1 ((encI [h.tick, h.depth]).length) (bcs (encI [h.tick, h.depth])), .row (.slice A19 ((encI h.counts).length) c20) 5 1 ((encI h.counts).length) (bcs (encI h.counts))]) (fun w_ h_ => (h_.sub (.cons_cons _ (.cons_cons _ (.cons_cons _ (.cons _ .slnil)))))) ?_
 refine mP rfl ?_
 refine mgCall (i := 11) 47 [.slice B h.rn d] [] [] kr_ rfl kr_ (wn rfl) rfl le_ (litArgs kr_) (digs_any h.D B h.rn d _ _ ((Rd.below hB hm17.bel).more hm17.bel.size) (Nat.le_refl _) (by have := encD_le h.rn h.D; have := hf.r20; omega)) ?_
 rintro e w21 ⟨v23, rfl, hown_, hbz⟩
 obtain ⟨A24, c25, rfl, hrd_⟩ := Rd.of_own hown_
 clear hrd_
 have hm22 := hm17.newRow hbz hown_
 clear hown_ hbz
 try simp only [lc1_, lc2_, lc3_, lc4_] at hm22
 refine ⟨_, rfl, (hm22.sub (.cons_cons _ (.cons_cons _ (.cons_cons _ (.cons_cons _ (.cons _ .slnil)))))), ?_⟩
 refine mgMore (L' := [.arr g2 25 (hcs h A c B d), .arr g8 3 ([.int .i64 h.tick, .int .i64 h.depth]), .row (.slice A14 ((encI [h.tick, h.depth]).length) c15) 5 1 ((encI [h.tick, h.depth]).length) (bcs (encI [h.tick, h.depth])), .row (.slice A19 ((encI h.counts).length) c20) 5 1 ((encI h.counts).length) (bcs (encI h.counts)), .row (.slice A24 ((encD h.rn h.D).length) c25) 5 1 ((encD h.rn h.D).length) (bcs (encD h.rn h.D))]) (fun w_ h_ => (h_.sub (.cons_cons _ (.cons_cons _ (.cons_cons _ (.cons_cons _ (.cons _ .slnil))))))) ?_
 refine mP rfl ?_
 refine mgLit (cs := [.slice A14 ((encI [h.tick, h.depth]).length) c15, .slice A19 ((encI h.counts).length) c20, .slice A24 ((encD h.rn h.D).length) c25]) (n := 3) Ty.sl_L_L_uint8 hm22 (i := 12) kr_ rfl (wn rfl) rfl (by decide) (by decide) (by rw [lit_eval]; kernel_rfl) ?_
 intro g26 w28 hm27
 clear hm22
 try simp only [lc1_, lc2_, lc3_, lc4_] at hm27 ⊢
 refine mP rfl ?_
 refine mgCall (i := 13) 45 [.slice (some ⟨g26, 0, none⟩) 3 3] [] [] kr_ rfl kr_ (wn rfl) rfl le_ (litArgs kr_) (concat_any (encI [h.tick, h.depth]) (encI h.counts) (encD h.rn h.D) g26 A14 A19 A24 c15 c20 c25 (by have := encI_pos [h.tick, h.depth]; omega) (by have q1_ := encI_le [h.tick, h.depth]; have q2_ := encI_le h.counts; have q3_ := encD_le h.rn h.D; have := hf.c20; have := hf.r20; (try simp at q1_); omega) _ (Rd.of_arr (t := 40) (cs := [.slice A14 ((encI [h.tick, h.depth]).length) c15, .slice A19 ((encI h.counts).length) c20, .slice A24 ((encD h.rn h.D).length) c25]) (hm27.arr 5 kr_) kr_ (of_decide_eq_true kr_)) (hm27.rdRow 2 rfl) (hm27.rdRow 3 rfl) (hm27.rdRow 4 rfl)) ?_
 rintro e w29 ⟨v31, rfl, hown_, hbz⟩
 obtain ⟨A32, c33, rfl, hrd_⟩ := Rd.of_own hown_
 clear hrd_
 have hm30 := hm27.newRow hbz hown_
 clear hown_ hbz
 try simp only [lc1_, lc2_, lc3_, lc4_] at hm30
 refine ⟨_, rfl, (hm30.sub (.cons_cons _ (.cons_cons _ (.cons_cons _ (.cons_cons _ (.cons_cons _ (.cons_cons _ (.cons _ .slnil)))))))), ?_⟩
 refine mgMore (L' := [.arr g2 25 (hcs h A c B d), .arr g8 3 ([.int .i64 h.tick, .int .i64 h.depth]), .row (.slice A14 ((encI [h.tick, h.depth]).length) c15) 5 1 ((encI [h.tick, h.depth]).length) (bcs (encI [h.tick, h.depth])), .row (.slice A19 ((encI h.counts).length) c20) 5 1 ((encI h.counts).length) (bcs (encI h.counts)), .row (.slice A24 ((encD h.rn h.D).length) c25) 5 1 ((encD h.rn h.D).length) (bcs (encD h.rn h.D)), .arr g26 40 ([.slice A14 ((encI [h.tick, h.depth]).length) c15, .slice A19 ((encI h.counts).length) c20, .slice A24 ((encD h.rn h.D).length) c25]), .row (.slice A32 ((encH h).length) c33) 5 1 ((encH h).length) (bcs (encH h))]) (fun w_ h_ => (h_.sub (.cons_cons _ (.cons_cons _ (.cons_cons _ (.cons_cons _ (.cons_cons _ (.cons_cons _ (.cons _ .slnil))))))))) ?_
 refine mP rfl ?_
 refine mk_ (i := 14) (v := .slice A32 ((encH h).length) c33) rfl rfl (fun _ _ _ h => h) hm30 rfl ?_
 refine mgDone kr_ ?_
 refine tn_ hK5 ?_
 refine wpPrune [(2, .slice A32 ((encH h).length) c33)] ⟨lg_, trivial⟩ (fun X34 => ?_)
 refine wp_ret ?_
 refine bodyPost_ret (v := .slice A32 ((encH h).length) c33) (gRes1 rfl (gResTmp (t := 2) (v := .slice A32 ((encH h).length) c33) (lg_))) rfl ?_
 exact ⟨_, rfl, hm30.row 6 rfl, hm30.bel⟩
theorem rencode_any (h : Hd) (A : Option Addr) (c : Nat) (B : Option Addr) (d : Nat) (w : World) (hA : Rd w w.heap.size 1 A h.counts.length c (ics h.counts)) (hB : Rd w w.heap.size 16 B h.rn d (bcs h.D)) (hf : h.Fit) : Calls Tryz.prog 31 #[.agg (hcs h A c B d).toArray] w (fun e w' => ∃ v, e = .returned v ∧ w'.ownsRow w.heap.size 5 1 v (encH h).length (bcs (encH h)) ∧ Below w.heap.size w w') := by
 have hld_ := hB.len
 rw [bcs_length] at hld_
 have hm0 := Mem.nil w
 go_enter Tryz.func31, Tryz.ntmps31
 refine litStart 20 [(0, .agg (hcs h A c B d).toArray)] kr_ (fun X0 => ?_)
 refine wp_seq_k fun K1 hK1 => ?_
 refine plStart ?_
 refine plBox hm0 (cs := hcs h A c B d) (i := 0) rfl (wn rfl) rfl le_ ?_
 intro g2 w4 hm3
 clear hm0
 try simp only [lc1_, lc2_, lc3_, lc4_] at hm3
 refine qP rfl ?_
 refine lk_ (.slice none 0 0) ?_
 refine plD ?_
 refine tn_ hK1 ?_
 refine wp_seq_k fun K5 hK5 => ?_
 refine plStart ?_
 refine lk_ (.pointer (some ⟨g2, 0, none⟩)) ?_
 refine litVal (v := .int .i64 h.tick) rfl (wn rfl) (gLoad (v := .int .i64 h.tick) (k := 0) 0 hm3 rfl kr_ (.tmp 4) kr_ rfl le_) rfl (by decide) ?_
 refine lk_ (.pointer (some ⟨g2, 2, none⟩)) ?_
 refine litVal (v := .int .i64 h.depth) rfl (wn rfl) (gLoad (v := .int .i64 h.depth) (k := 2) 0 hm3 rfl kr_ (.tmp 6) kr_ rfl le_) rfl (by decide) ?_
 refine plLit (cs := [.int .i64 h.tick, .int .i64 h.depth]) (n := 2) Ty.sl_L_int hm3 (i := 4) rfl (wn rfl) rfl (by decide) (by decide) (by rw [lit_eval]; kernel_rfl) ?_
 intro g6 w8 hm7
 clear hm3
 try simp only [lc1_, lc2_, lc3_, lc4_] at hm7
 refine qP rfl ?_
 refine plCall (i := 5) 71 [.slice (some ⟨g6, 0, none⟩) 2 2] [] [] rfl kr_ (wn rfl) rfl le_ (litArgs kr_) (refInts_any [h.tick, h.depth] (some ⟨g6, 0, none⟩) 2 2 _ _ (Rd.of_arr (t := 3) (cs := ([h.tick, h.depth].map iv)) (hm7.arr 1 kr_) kr_ (of_decide_eq_true kr_)) (Nat.le_refl _) hf.two (by have q_ := encI_le [h.tick, h.depth]; have := hf.c20; (try simp at q_); omega)) ?_
 rintro e w9 ⟨v11, rfl, hown_, hbz⟩
 obtain ⟨A12, c13, rfl, hrd_⟩ := Rd.of_own hown_
 clear hrd_
 have hm10 := hm7.newRow hbz hown_
 clear hown_ hbz
 clear hm7
 try simp only [lc1_, lc2_, lc3_, lc4_] at hm10
 refine ⟨_, rfl, ?_⟩
 refine qP rfl ?_
 refine lk_ (.slice A12 ((encI [h.tick, h.depth]).length) c13) ?_
 refine plD ?_
 refine tn_ hK5 ?_
 refine wp_seq_k fun K14 hK14 => ?_
 refine plStart ?_
 refine lk_ (.slice A12 ((encI [h.tick, h.depth]).length) c13) ?_
 refine lk_ (.pointer (some ⟨g2, 1, none⟩)) ?_
 refine litVal (v := .slice A h.counts.length c) rfl (wn rfl) (gLoad (v := .slice A h.counts.length c) (k := 1) 0 hm10 rfl kr_ (.tmp 11) kr_ rfl le_) rfl (by decide) ?_
 refine plCall (i := 3) 71 [.slice A h.counts.length c] [] [] rfl kr_ (wn rfl) rfl le_ (litArgs kr_) (refInts_any h.counts A h.counts.length c _ _ ((Rd.below hA hm10.bel).more hm10.bel.size) (Nat.le_refl _) hf.counts (by have q_ := encI_le h.counts; have := hf.c20; (try simp at q_); omega)) ?_
 rintro e w15 ⟨v17, rfl, hown_, hbz⟩
 obtain ⟨A18, c19, rfl, hrd_⟩ := Rd.of_own hown_
 clear hrd_
 have hm16 := hm10.newRow hbz hown_
 clear hown_ hbz
 clear hm10
 try simp only [lc1_, lc2_, lc3_, lc4_] at hm16
 refine ⟨_, rfl, ?_⟩
 refine qP rfl ?_
 refine plAppR (v := .slice A12 ((encI [h.tick, h.depth]).length) c13) (n := (encI [h.tick, h.depth]).length) (xs := bcs (encI [h.tick, h.depth])) (ys := bcs (encI h.counts)) (A := A18) (m := (encI h.counts).length) (c := c19) 2 Ty.sl_L_uint8 hm16 rfl (hm16.rdRow 3 rfl) (i := 4) rfl (wn rfl) rfl le_ le_ (bcs_one _) (by have q1_ := encI_le [h.tick, h.depth]; have q2_ := encI_le h.counts; have := hf.c20; (try simp at q1_); omega) (by have q1_ := encI_le [h.tick, h.depth]; have q2_ := encI_le h.counts; have := hf.c20; (try simp at q1_); omega) ?_
 intro v24 w21 hm20
 clear hm16
 try simp only [lc1_, lc2_, lc3_, lc4_] at hm20
 replace hm20 := Mem.rowEq (v := v24) (e := 5) (size := 1) (n := ((encI [h.tick, h.depth]).length) + ((encI h.counts).length)) (n' := (encI [h.tick, h.depth] ++ encI h.counts).length) (xs := (bcs (encI [h.tick, h.depth])) ++ (bcs (encI h.counts))) (xs' := bcs (encI [h.tick, h.depth] ++ encI h.counts)) 2 hm20 rfl (by simp only [List.length_append]) ((bcs_append _ _).symm)
 try simp only [lc1_, lc2_, lc3_, lc4_] at hm20
 obtain ⟨A22, c23, rfl⟩ := Mem.rowSl (v := v24) (e := 5) (size := 1) (n := (encI [h.tick, h.depth] ++ encI h.counts).length) (xs := bcs (encI [h.tick, h.depth] ++ encI h.counts)) 2 hm20 rfl
 refine qP rfl ?_
 refine lk_ (.slice A22 ((encI [h.tick, h.depth] ++ encI h.counts).length) c23) ?_
 refine plD ?_
 refine tn_ hK14 ?_
 refine wpPrune [(1, .pointer (some ⟨g2, 0, none⟩)), (2, .slice none 0 0), (3, .slice A22 ((encI [h.tick, h.depth] ++ encI h.counts).length) c23)] ⟨lg_, ⟨lg_, ⟨lg_, trivial⟩⟩⟩ (fun X25 => ?_)
 refine wp_seq_k fun K26 hK26 => ?_
 refine plStart ?_
 refine lk_ (.slice A22 ((encI [h.tick, h.depth] ++ encI h.counts).length) c23) ?_
 refine lk_ (.pointer (some ⟨g2, 3, none⟩)) ?_
 refine litVal (v := .slice B h.rn d) rfl (wn rfl) (gLoad (v := .slice B h.rn d) (k := 3) 0 hm20 rfl kr_ (.tmp 16) kr_ rfl le_) rfl (by decide) ?_
 refine plCall (i := 3) 72 [.slice B h.rn d] [] [] rfl kr_ (wn rfl) rfl le_ (litArgs kr_) (refDigs_any h.D B h.rn d _ _ ((Rd.below hB hm20.bel).more hm20.bel.size) (Nat.le_refl _) (by have := encD_le h.rn h.D; have := hf.r20; omega)) ?_
 rintro e w27 ⟨v29, rfl, hown_, hbz⟩
 obtain ⟨A30, c31, rfl, hrd_⟩ := Rd.of_own hown_
 clear hrd_
 have hm28 := hm20.newRow hbz hown_
 clear hown_ hbz
 clear hm20
 try simp only [lc1_, lc2_, lc3_, lc4_] at hm28
 refine ⟨_, rfl, ?_⟩
 refine qP rfl ?_
 refine plAppR (v := .slice A22 ((encI [h.tick, h.depth] ++ encI h.counts).length) c23) (n := (encI [h.tick, h.depth] ++ encI h.counts).length) (xs := bcs (encI [h.tick, h.depth] ++ encI h.counts)) (ys := bcs (encD h.rn h.D)) (A := A30) (m := (encD h.rn h.D).length) (c := c31) 2 Ty.sl_L_uint8 hm28 rfl (hm28.rdRow 4 rfl) (i := 4) rfl (wn rfl) rfl le_ le_ (bcs_one _) (by have q1_ := encI_le [h.tick, h.depth]; have q2_ := encI_le h.counts; have q3_ := encD_le h.rn h.D; have := hf.c20; have := hf.r20; (try simp at q1_); simp only [List.length_append]; omega) (by have q1_ := encI_le [h.tick, h.depth]; have q2_ := encI_le h.counts; have q3_ := encD_le h.rn h.D; have := hf.c20; have := hf.r20; (try simp at q1_); simp only [List.length_append]; omega) ?_
 intro v36 w33 hm32
 clear hm28
 try simp only [lc1_, lc2_, lc3_, lc4_] at hm32
 replace hm32 := Mem.rowEq (v := v36) (e := 5) (size := 1) (n := ((encI [h.tick, h.depth] ++ encI h.counts).length) + ((encD h.rn h.D).length)) (n' := (encH h).length) (xs := (bcs (encI [h.tick, h.depth] ++ encI h.counts)) ++ (bcs (encD h.rn h.D))) (xs' := bcs (encH h)) 2 hm32 rfl (by unfold encH; simp only [List.length_append]) (by unfold encH; exact (bcs_append _ _).symm)
 try simp only [lc1_, lc2_, lc3_, lc4_] at hm32
 obtain ⟨A34, c35, rfl⟩ := Mem.rowSl (v := v36) (e := 5) (size := 1) (n := (encH h).length) (xs := bcs (encH h)) 2 hm32 rfl
 refine qP rfl ?_
 refine lk_ (.slice A34 ((encH h).length) c35) ?_
 refine plD ?_
 refine tn_ hK26 ?_
 refine wp_ret ?_
 refine bodyPost_ret (v := .slice A34 ((encH h).length) c35) (gRes1 rfl (gResTmp (t := 2) (v := .slice A34 ((encH h).length) c35) (lg_))) rfl ?_
 exact ⟨_, rfl, hm32.row 2 rfl, hm32.bel⟩
def digH (h : Hd) : List UInt8 := ofDig 8 [encH h]
theorem encH_le {h : Hd} (hf : h.Fit) (hD : h.D.length = h.rn * 16) : (encH h).length ≤ 1000 := by
 have q1 := encI_le [h.tick, h.depth]
 have q2 := encI_le h.counts
 have q3 := encD_le h.rn h.D
 have := hf.c20
 have := hf.r20
 unfold encH
 simp only [List.length_append, List.length_cons, List.length_nil] at *
 omega
theorem input_le {m : List UInt8} (h : m.length ≤ 1000) : (inputOf 8 [m]).length ≤ 1000000000 := by
 have := enc_le m.length
 unfold inputOf partsOf encS
 simp
 omega
theorem digestH_any (h : Hd) (A : Option Addr) (c : Nat) (B : Option Addr) (d : Nat) (w : World) (hT : Tabs w) (hA : Rd w w.heap.size 1 A h.counts.length c (ics h.counts)) (hB : Rd w w.heap.size 16 B h.rn d (bcs h.D)) (hf : h.Fit) : Calls Tryz.prog 26 #[.agg (hcs h A c B d).toArray] w (RetV w (.agg (bcs (digH h)).toArray)) := by
 have hld_ := hB.len
 rw [bcs_length] at hld_
 have hz_ := hT.size
 have hm0 := Mem.nil w
 go_enter Tryz.func26, Tryz.ntmps26
 refine litStart 8 [(0, .agg (hcs h A c B d).toArray)] kr_ (fun X0 => ?_)
 refine wp_seq_k fun K1 hK1 => ?_
 refine plStart ?_
 refine plBox hm0 (cs := hcs h A c B d) (i := 0) rfl (wn rfl) rfl le_ ?_
 intro g2 w4 hm3
 clear hm0
 try simp only [lc1_, lc2_, lc3_, lc4_] at hm3
 refine qP rfl ?_
 refine plAlloc (z := [.int .u8 0, .int .u8 0, .int .u8 0, .int .u8 0, .int .u8 0, .int .u8 0, .int .u8 0, .int .u8 0, .int .u8 0, .int .u8 0, .int .u8 0, .int .u8 0, .int .u8 0, .int .u8 0, .int .u8 0, .int .u8 0]) Ty.ag_voxel_api_Digest hm3 (i := 1) rfl (wn rfl) rfl ?_
 intro g5 w7 hm6
 clear hm3
 try simp only [lc1_, lc2_, lc3_, lc4_] at hm6
 refine qP rfl ?_
 refine plD ?_
 refine tn_ hK1 ?_
 refine wp_seq_k fun K8 hK8 => ?_
 refine plStart ?_
 refine litVal (v := .agg (hcs h A c B d).toArray) rfl (wn rfl) (gLoadAg (vs := hcs h A c B d) (k := 0) 0 hm6 rfl kr_ kr_ (.tmp 1) Ty.ag_voxel_api_Header rfl le_) rfl (by decide) ?_
 refine plCall (i := 1) 13 [.agg (hcs h A c B d).toArray] [] [] rfl kr_ (wn rfl) rfl le_ (litArgs kr_) (encode_any h A c B d _ ((Rd.below hA hm6.bel).more hm6.bel.size) ((Rd.below hB hm6.bel).more hm6.bel.size) hf) ?_
 rintro e w9 ⟨v11, rfl, hown_, hbz⟩
 obtain ⟨A12, c13, rfl, hrd_⟩ := Rd.of_own hown_
 clear hrd_
 have hm10 := hm6.newRow hbz hown_
 clear hown_ hbz
 clear hm6
 try simp only [lc1_, lc2_, lc3_, lc4_] at hm10
 refine ⟨_, rfl, ?_⟩
 refine qP rfl ?_
 refine litVal (i := 2) (v := .string ⟨(encH h).toArray⟩) rfl (wn rfl) (convBsRun (.tmp 4) (encH h) kr_ (e := 5) kr_ kr_ (hm10.rdRow 2 rfl) rfl le_) rfl (by decide) ?_
 refine plLit (cs := [.string ⟨(encH h).toArray⟩]) (n := 1) Ty.sl_L_string hm10 (i := 3) rfl (wn rfl) rfl (by decide) (by decide) (by rw [lit_eval]; kernel_rfl) ?_
 intro g14 w16 hm15
 clear hm10
 try simp only [lc1_, lc2_, lc3_, lc4_] at hm15
 refine qP rfl ?_
 refine plCall (i := 4) 62 [.int .i64 8, .slice (some ⟨g14, 0, none⟩) 1 1] [] [] rfl kr_ (wn rfl) rfl le_ (litArgs kr_) (of_any 8 [encH h] (some ⟨g14, 0, none⟩) 1 1 _ _ (hT.below hm15.bel (by have := hT.size; omega)) (Rd.of_arr (t := 9) (cs := ([encH h].map sv)) (hm15.arr 3 kr_) kr_ (of_decide_eq_true kr_)) (Nat.le_refl _) (by have := encH_le hf hld_; exact input_le this) (by simp)) ?_
 rintro e w17 ⟨rfl, hbz⟩
 have hm18 := hm15.below hbz
 clear hbz hm15
 refine ⟨_, rfl, ?_⟩
 refine qP rfl ?_
 refine plStore 1 Ty.ag_voxel_api_Digest hm18 rfl (i := 5) (cs := bcs (digH h)) rfl (wn rfl) rfl le_ le_ rfl (by rw [bcs_length]; exact ofDig_len _ _) (List.all_eq_true.2 (bcs_one _)) ?_
 intro w20 hm19
 clear hm18
 try simp only [lc1_, lc2_, lc3_, lc4_] at hm19
 refine qNone rfl ?_
 refine plD ?_
 refine tn_ hK8 ?_
 refine wp_ret ?_
 refine bodyPost_ret (v := .agg (bcs (digH h)).toArray) (gRes1 rfl (gResAg (cs := bcs (digH h)) 1 hm19 rfl Ty.ag_voxel_api_Digest rfl (lg_))) rfl ?_
 exact ⟨by rfl, hm19.bel⟩
theorem rdigestH_any (h : Hd) (A : Option Addr) (c : Nat) (B : Option Addr) (d : Nat) (w : World) (hT : TabsR w) (hA : Rd w w.heap.size 1 A h.counts.length c (ics h.counts)) (hB : Rd w w.heap.size 16 B h.rn d (bcs h.D)) (hf : h.Fit) : Calls Tryz.prog 27 #[.agg (hcs h A c B d).toArray] w (RetV w (.agg (bcs (digH h)).toArray)) := by
 have hld_ := hB.len
 rw [bcs_length] at hld_
 have hz_ := hT.size
 have hm0 := Mem.nil w
 go_enter Tryz.func27, Tryz.ntmps27
 refine litStart 8 [(0, .agg (hcs h A c B d).toArray)] kr_ (fun X0 => ?_)
 refine wp_seq_k fun K1 hK1 => ?_
 refine plStart ?_
 refine plBox hm0 (cs := hcs h A c B d) (i := 0) rfl (wn rfl) rfl le_ ?_
 intro g2 w4 hm3
 clear hm0
 try simp only [lc1_, lc2_, lc3_, lc4_] at hm3
 refine qP rfl ?_
 refine plAlloc (z := [.int .u8 0, .int .u8 0, .int .u8 0, .int .u8 0, .int .u8 0, .int .u8 0, .int .u8 0, .int .u8 0, .int .u8 0, .int .u8 0, .int .u8 0, .int .u8 0, .int .u8 0, .int .u8 0, .int .u8 0, .int .u8 0]) Ty.ag_voxel_api_Digest hm3 (i := 1) rfl (wn rfl) rfl ?_
 intro g5 w7 hm6
 clear hm3
 try simp only [lc1_, lc2_, lc3_, lc4_] at hm6
 refine qP rfl ?_
 refine plD ?_
 refine tn_ hK1 ?_
 refine wp_seq_k fun K8 hK8 => ?_
 refine plStart ?_
 refine litVal (v := .agg (hcs h A c B d).toArray) rfl (wn rfl) (gLoadAg (vs := hcs h A c B d) (k := 0) 0 hm6 rfl kr_ kr_ (.tmp 1) Ty.ag_voxel_api_Header rfl le_) rfl (by decide) ?_
 refine plCall (i := 1) 31 [.agg (hcs h A c B d).toArray] [] [] rfl kr_ (wn rfl) rfl le_ (litArgs kr_) (rencode_any h A c B d _ ((Rd.below hA hm6.bel).more hm6.bel.size) ((Rd.below hB hm6.bel).more hm6.bel.size) hf) ?_
 rintro e w9 ⟨v11, rfl, hown_, hbz⟩
 obtain ⟨A12, c13, rfl, hrd_⟩ := Rd.of_own hown_
 clear hrd_
 have hm10 := hm6.newRow hbz hown_
 clear hown_ hbz
 clear hm6
 try simp only [lc1_, lc2_, lc3_, lc4_] at hm10
 refine ⟨_, rfl, ?_⟩
 refine qP rfl ?_
 refine litVal (i := 2) (v := .string ⟨(encH h).toArray⟩) rfl (wn rfl) (convBsRun (.tmp 4) (encH h) kr_ (e := 5) kr_ kr_ (hm10.rdRow 2 rfl) rfl le_) rfl (by decide) ?_
 refine plLit (cs := [.string ⟨(encH h).toArray⟩]) (n := 1) Ty.sl_L_string hm10 (i := 3) rfl (wn rfl) rfl (by decide) (by decide) (by rw [lit_eval]; kernel_rfl) ?_
 intro g14 w16 hm15
 clear hm10
 try simp only [lc1_, lc2_, lc3_, lc4_] at hm15
 refine qP rfl ?_
 refine plCall (i := 4) 63 [.int .i64 8, .slice (some ⟨g14, 0, none⟩) 1 1] [] [] rfl kr_ (wn rfl) rfl le_ (litArgs kr_) (refOf_any 8 [encH h] (some ⟨g14, 0, none⟩) 1 1 _ _ (hT.below hm15.bel (by have := hT.size; omega)) (Rd.of_arr (t := 9) (cs := ([encH h].map sv)) (hm15.arr 3 kr_) kr_ (of_decide_eq_true kr_)) (Nat.le_refl _) (by have := encH_le hf hld_; exact input_le this) (by simp)) ?_
 rintro e w17 ⟨rfl, hbz⟩
 have hm18 := hm15.below hbz
 clear hbz hm15
 refine ⟨_, rfl, ?_⟩
 refine qP rfl ?_
 refine plStore 1 Ty.ag_voxel_api_Digest hm18 rfl (i := 5) (cs := bcs (digH h)) rfl (wn rfl) rfl le_ le_ rfl (by rw [bcs_length]; exact ofDig_len _ _) (List.all_eq_true.2 (bcs_one _)) ?_
 intro w20 hm19
 clear hm18
 try simp only [lc1_, lc2_, lc3_, lc4_] at hm19
 refine qNone rfl ?_
 refine plD ?_
 refine tn_ hK8 ?_
 refine wp_ret ?_
 refine bodyPost_ret (v := .agg (bcs (digH h)).toArray) (gRes1 rfl (gResAg (cs := bcs (digH h)) 1 hm19 rfl Ty.ag_voxel_api_Digest rfl (lg_))) rfl ?_
 exact ⟨by rfl, hm19.bel⟩
end Go.Proofs.YtgjgjimgomhbmaaGreatDoor
namespace Go.Proofs.YtgjgjimgomhbmaaGreatDoor
def decH (l : List UInt8) : Hd × Int :=
 if (decI l).2.2 ≠ 0 then (hd0, (decI l).2.2) else
 if (decI l).1.length ≠ 2 then (hd0, 6) else
 if (decI (l.drop (decI l).2.1.toNat)).2.2 ≠ 0 then (hd0, (decI (l.drop (decI l).2.1.toNat)).2.2) else
 if (decD ((l.drop (decI l).2.1.toNat).drop (decI (l.drop (decI l).2.1.toNat)).2.1.toNat)).2.2 ≠ 0 then (hd0, (decD ((l.drop (decI l).2.1.toNat).drop (decI (l.drop (decI l).2.1.toNat)).2.1.toNat)).2.2) else
 if (decI l).2.1 + (decI (l.drop (decI l).2.1.toNat)).2.1 + (decD ((l.drop (decI l).2.1.toNat).drop (decI (l.drop (decI l).2.1.toNat)).2.1.toNat)).2.1 ≠ l.length then (hd0, 6) else
 let h : Hd := ⟨(decI l).1.getD 0 0, (decI (l.drop (decI l).2.1.toNat)).1, (decI l).1.getD 1 0, (decD ((l.drop (decI l).2.1.toNat).drop (decI (l.drop (decI l).2.1.toNat)).2.1.toNat)).1.length / 16, (decD ((l.drop (decI l).2.1.toNat).drop (decI (l.drop (decI l).2.1.toNat)).2.1.toNat)).1⟩
 if ckH h ≠ 0 then (hd0, ckH h) else (h, 0)
section
variable {l : List UInt8} {a b : List Int} {D : List UInt8} {ua ub uc ea eb ec : Int}
theorem decH_a (h1 : decI l = (a, ua, ea)) (he : ¬ ea = 0) : decH l = (hd0, ea) := by
 unfold decH; rw [h1]; simp [he]
theorem decH_two (h1 : decI l = (a, ua, 0)) (h2 : ¬ (a.length : Int) = 2) : decH l = (hd0, 6) := by
 unfold decH; rw [h1]
 have : ¬ a.length = 2 := by omega
 simp [this]
theorem decH_b (h1 : decI l = (a, ua, 0)) (h2 : (a.length : Int) = 2) (h3 : decI (l.drop ua.toNat) = (b, ub, eb)) (he : ¬ eb = 0) : decH l = (hd0, eb) := by
 unfold decH; rw [h1]
 have h4 : a.length = 2 := by omega
 simp [h4, h3, he]
theorem decH_c (h1 : decI l = (a, ua, 0)) (h2 : (a.length : Int) = 2) (h3 : decI (l.drop ua.toNat) = (b, ub, 0)) (h5 : decD ((l.drop ua.toNat).drop ub.toNat) = (D, uc, ec)) (he : ¬ ec = 0) : decH l = (hd0, ec) := by
 unfold decH; rw [h1]
 have h4 : a.length = 2 := by omega
 simp only [ne_eq, not_true_eq_false, if_false, h4, h3, h5, he, not_false_eq_true, if_true]
theorem decH_len (h1 : decI l = (a, ua, 0)) (h2 : (a.length : Int) = 2) (h3 : decI (l.drop ua.toNat) = (b, ub, 0)) (h5 : decD ((l.drop ua.toNat).drop ub.toNat) = (D, uc, 0)) (h6 : ¬ ua + ub + uc = (l.length : Int)) : decH l = (hd0, 6) := by
 unfold decH; rw [h1]
 have h4 : a.length = 2 := by omega
 simp only [ne_eq, not_true_eq_false, if_false, h4, h3, h5, h6, not_false_eq_true, if_true]
theorem decH_end {x y : Int} (h1 : decI l = (a, ua, 0)) (h2 : (a.length : Int) = 2) (h3 : decI (l.drop ua.toNat) = (b, ub, 0)) (h5 : decD ((l.drop ua.toNat).drop ub.toNat) = (D, uc, 0)) (h6 : ua + ub + uc = (l.length : Int)) (hx : a[0]? = some x) (hy : a[1]? = some y) : decH l = if ckH ⟨x, b, y, D.length / 16, D⟩ ≠ 0 then (hd0, ckH ⟨x, b, y, D.length / 16, D⟩) else (⟨x, b, y, D.length / 16, D⟩, 0) := by
 unfold decH; rw [h1]
 have h4 : a.length = 2 := by omega
 have ex : a.getD 0 0 = x := by simp [List.getD, hx]
 have ey : a.getD 1 0 = y := by simp [List.getD, hy]
 simp only [ne_eq, not_true_eq_false, if_false, h4, h3, h5, h6, ex, ey]
end
end Go.Proofs.YtgjgjimgomhbmaaGreatDoor
namespace Go.Proofs.YtgjgjimgomhbmaaGreatDoor
open Go.RowKit
theorem encI_ge (l : List Int) : l.length ≤ (encI l).length := by
 unfold encI
 rw [List.length_append]
 have h2 : l.length ≤ ((l.map enc).flatten).length := by
  induction l with
  | nil => simp
  | cons x l ih =>
   have h : 1 ≤ (enc x).length := by
    have : (enc x).length ≠ 0 := by
     unfold enc; rw [encN]; split <;> simp
    omega
   simp only [List.map_cons, List.flatten_cons, List.length_append, List.length_cons]
   omega
 omega
theorem decI_le {l : List UInt8} {r : List Int} {u : Int} (h : decI l = (r, u, 0)) : r.length ≤ l.length := by
 have h1 := (decI_canon h).1
 have h2 := encI_ge r
 rw [← h1, List.length_take] at h2
 omega
theorem decD_le {l D : List UInt8} {u : Int} (h : decD l = (D, u, 0)) : D.length ≤ l.length := by
 have h1 := (decD_canon h).1
 have h2 : D.length ≤ (encD (D.length / 16) D).length := by unfold encD; rw [List.length_append]; omega
 rw [← h1, List.length_take] at h2
 omega
theorem rdecode_any (l : List UInt8) (A : Option Addr) (c : Nat) (w : World) (hr : Rd w w.heap.size 1 A l.length c (bcs l)) (hl : l.length ≤ 1000000) : Calls Tryz.prog 37 #[.slice A l.length c] w (fun e w' => ∃ A c B d, e = .returned (.tuple #[.agg (hcs (decH l).1 A c B d).toArray, .int .i64 (decH l).2]) ∧ Rd w' w'.heap.size 1 A (decH l).1.counts.length c (ics (decH l).1.counts) ∧ Rd w' w'.heap.size 16 B (decH l).1.rn d (bcs (decH l).1.D) ∧ NewA w.heap.size A ∧ NewA w.heap.size B ∧ Below w.heap.size w w') := by
 have hm0 := Mem.nil w
 go_enter Tryz.func37, Tryz.ntmps37
 refine litStart 80 [(0, .slice A l.length c)] kr_ (fun X0 => ?_)
 refine wp_seq_k fun K1 hK1 => ?_
 refine plStart ?_
 refine plAlloc (z := [.int .i64 0, .slice none 0 0, .int .i64 0, .slice none 0 0]) Ty.ag_voxel_api_Header hm0 (i := 0) rfl (wn rfl) rfl ?_
 intro g2 w4 hm3
 clear hm0
 try simp only [lc1_, lc2_, lc3_, lc4_] at hm3
 refine qP rfl ?_
 refine lk_ (.int .i64 0) ?_
 refine plD ?_
 refine tn_ hK1 ?_
 refine wp_seq_k fun K5 hK5 => ?_
 refine plStart ?_
 refine lk_ (.slice A l.length c) ?_
 obtain ⟨a, ua, ea, hda⟩ : ∃ r_ u_ e_, decI l = (r_, u_, e_) := ⟨_, _, _, rfl⟩
 refine plCall (i := 1) 88 [.slice A l.length c] [] [] rfl kr_ (wn rfl) rfl le_ (litArgs kr_) (by have h_ := refGetInts_any l A l.length c _ w4 ((Rd.below hr hm3.bel).more hm3.bel.size) (Nat.le_refl _) (by first | omega | (simp only [List.length_drop]; omega)); rw [hda] at h_; exact h_) ?_
 rintro e w6 ⟨v8, n_, rfl, hown_, hbz⟩
 have hn_ : a.length = n_ * 1 := by have q_ := hown_.1; rw [List.length_map] at q_; exact q_
 obtain rfl : n_ = a.length := by omega
 obtain ⟨A9, c10, rfl, hrd_⟩ := Rd.of_own hown_
 clear hrd_ hn_
 replace hown_ : World.ownsRow w6 _ 3 1 _ a.length (ics a) := hown_
 have hm7 := hm3.newRow hbz hown_
 clear hown_ hbz hm3
 try simp only [lc1_, lc2_, lc3_, lc4_] at hm7
 refine ⟨_, rfl, ?_⟩
 refine qP rfl ?_
 refine lk_ (.tuple #[.slice A9 a.length c10, .int .i64 ua, .int .i64 ea]) ?_
 refine lk_ (.slice A9 a.length c10) ?_
 refine lk_ (.int .i64 ua) ?_
 refine lk_ (.int .i64 ea) ?_
 refine lk_ (.slice A9 a.length c10) ?_
 refine lk_ (.int .i64 ua) ?_
 refine lk_ (.int .i64 ea) ?_
 refine plD ?_
 refine tn_ hK5 ?_
 refine wp_seq_k fun K11 hK11 => ?_
 refine wp_seq_k fun K12 hK12 => ?_
 refine plStart ?_
 refine lk_ (.int .i64 ea) ?_
 by_cases h13 : ea = 0
 ·subst h13
  have hca_ := decI_canon hda
  refine lk_ (.bool false) ?_
  refine plD ?_
  refine tn_ hK12 ?_
  refine wp_cond_false le_ ?_
  refine wp_skip ?_
  refine tn_ hK11 ?_
  refine wp_seq_k fun K14 hK14 => ?_
  refine wp_seq_k fun K15 hK15 => ?_
  refine plStart ?_
  refine lk_ (.slice A9 a.length c10) ?_
  refine litVal (v := .int .i64 (a.length : Int)) rfl (wn rfl) (lenSlRun (A := A9) (n := a.length) (c := c10) (.tmp 25) Ty.und_L_int rfl le_) rfl (by decide) ?_
  by_cases h16 : (a.length : Int) = 2
  ·have h2_ := h16
   obtain ⟨x, hx⟩ : ∃ x, a[0]? = some x := ⟨_, List.getElem?_eq_getElem (by omega)⟩
   obtain ⟨y, hy⟩ : ∃ y, a[1]? = some y := ⟨_, List.getElem?_eq_getElem (by omega)⟩
   have hyb_ := decI_i64 hda y (List.mem_of_getElem? hy)
   unfold isI64 at hyb_
   obtain ⟨b17, rfl⟩ := hm7.rowBlk (A := A9) (n := a.length) (c := c10) 1 rfl (by omega)
   refine litVal (v := .bool false) rfl (wn rfl) (boolTo (by rw [decide_eq_true h16]; rfl) (neqRun (A := (a.length : Int)) (B := 2) (.tmp 26) (.const (.int .i64 2)) rfl le_ le_)) rfl (by decide) ?_
   refine plD ?_
   refine tn_ hK15 ?_
   refine wp_cond_false le_ ?_
   refine wp_skip ?_
   refine tn_ hK14 ?_
   refine wp_seq_k fun K18 hK18 => ?_
   refine plStart ?_
   refine lk_ (.slice A l.length c) ?_
   refine lk_ (.int .i64 ua) ?_
   obtain ⟨A1, hr1, hs_A1⟩ := sliceL_eq (V := ua.toNat) Ty.sl_L_uint8 hr (by omega)
   rw [Nat.mul_one, show (bcs l).drop (ua.toNat) = bcs (l.drop (ua.toNat)) from by unfold bcs; rw [List.map_drop], show l.length - (ua.toNat) = (l.drop (ua.toNat)).length from List.length_drop.symm] at hr1
   rw [show l.length - (ua.toNat) = (l.drop (ua.toNat)).length from List.length_drop.symm] at hs_A1
   refine litVal (i := 2) (v := .slice A1 ((l.drop (ua.toNat)).length) (c - (ua.toNat))) rfl (wn rfl) (sliceLRun (k := ua) (.tmp 30) (.tmp 31) hs_A1 rfl le_ le_ (by omega)) rfl (by decide) ?_
   obtain ⟨b, ub, eb, hdb⟩ : ∃ r_ u_ e_, decI (l.drop (ua.toNat)) = (r_, u_, e_) := ⟨_, _, _, rfl⟩
   refine plCall (i := 3) 88 [.slice A1 ((l.drop (ua.toNat)).length) (c - (ua.toNat))] [] [] rfl kr_ (wn rfl) rfl le_ (litArgs kr_) (by have h_ := refGetInts_any (l.drop (ua.toNat)) A1 (l.drop (ua.toNat)).length (c - (ua.toNat)) _ w6 ((Rd.below hr1 hm7.bel).more hm7.bel.size) (Nat.le_refl _) (by first | omega | (simp only [List.length_drop]; omega)); rw [hdb] at h_; exact h_) ?_
   rintro e w19 ⟨v21, n_, rfl, hown_, hbz⟩
   have hn_ : b.length = n_ * 1 := by have q_ := hown_.1; rw [List.length_map] at q_; exact q_
   obtain rfl : n_ = b.length := by omega
   obtain ⟨A22, c23, rfl, hrd_⟩ := Rd.of_own hown_
   clear hrd_ hn_
   replace hown_ : World.ownsRow w19 _ 3 1 _ b.length (ics b) := hown_
   have hm20 := hm7.newRow hbz hown_
   clear hown_ hbz hm7
   try simp only [lc1_, lc2_, lc3_, lc4_] at hm20
   refine ⟨_, rfl, ?_⟩
   refine qP rfl ?_
   refine lk_ (.tuple #[.slice A22 b.length c23, .int .i64 ub, .int .i64 eb]) ?_
   refine lk_ (.slice A22 b.length c23) ?_
   refine lk_ (.int .i64 ub) ?_
   refine lk_ (.int .i64 eb) ?_
   refine lk_ (.slice A22 b.length c23) ?_
   refine lk_ (.int .i64 ub) ?_
   refine lk_ (.int .i64 eb) ?_
   refine plD ?_
   refine tn_ hK18 ?_
   refine wpPrune [(0, .slice A l.length c), (2, .pointer (some ⟨g2, 0, none⟩)), (3, .int .i64 0), (4, .slice (some ⟨b17, 0, none⟩) a.length c10), (5, .int .i64 ua), (7, .slice A22 b.length c23), (8, .int .i64 ub), (9, .int .i64 eb)] ⟨lg_, ⟨lg_, ⟨lg_, ⟨lg_, ⟨lg_, ⟨lg_, ⟨lg_, ⟨lg_, trivial⟩⟩⟩⟩⟩⟩⟩⟩ (fun X24 => ?_)
   refine wp_seq_k fun K25 hK25 => ?_
   refine wp_seq_k fun K26 hK26 => ?_
   refine plStart ?_
   refine lk_ (.int .i64 eb) ?_
   by_cases h27 : eb = 0
   ·subst h27
    have hcb_ := decI_canon hdb
    have hbl_ := decI_le hdb
    rw [List.length_drop] at hbl_
    have hcb2_ : ub ≤ (l.length : Int) - ua := by have := hcb_.2.2; rw [List.length_drop] at this; omega
    refine lk_ (.bool false) ?_
    refine plD ?_
    refine tn_ hK26 ?_
    refine wp_cond_false le_ ?_
    refine wp_skip ?_
    refine tn_ hK25 ?_
    refine wp_seq_k fun K28 hK28 => ?_
    refine plStart ?_
    refine lk_ (.slice A l.length c) ?_
    refine lk_ (.int .i64 ua) ?_
    refine lk_ (.int .i64 ub) ?_
    refine litVal (v := .int .i64 (ua + ub)) rfl (wn rfl) (addRun (A := ua) (B := ub) (C := ua + ub) (.tmp 43) (.tmp 44) rfl le_ le_ rfl (by omega)) rfl (by decide) ?_
    obtain ⟨A2, hr2, hs_A2⟩ := sliceL_eq (V := ua.toNat + ub.toNat) Ty.sl_L_uint8 hr (by omega)
    rw [Nat.mul_one, show (bcs l).drop (ua.toNat + ub.toNat) = bcs (l.drop (ua.toNat + ub.toNat)) from by unfold bcs; rw [List.map_drop], show l.length - (ua.toNat + ub.toNat) = (l.drop (ua.toNat + ub.toNat)).length from List.length_drop.symm] at hr2
    rw [show l.length - (ua.toNat + ub.toNat) = (l.drop (ua.toNat + ub.toNat)).length from List.length_drop.symm] at hs_A2
    refine litVal (i := 4) (v := .slice A2 ((l.drop (ua.toNat + ub.toNat)).length) (c - (ua.toNat + ub.toNat))) rfl (wn rfl) (sliceLRun (k := ua + ub) (.tmp 42) (.tmp 45) hs_A2 rfl le_ le_ (by omega)) rfl (by decide) ?_
    obtain ⟨D, uc, ec, hdc⟩ : ∃ r_ u_ e_, decD (l.drop (ua.toNat + ub.toNat)) = (r_, u_, e_) := ⟨_, _, _, rfl⟩
    refine plCall (i := 5) 89 [.slice A2 ((l.drop (ua.toNat + ub.toNat)).length) (c - (ua.toNat + ub.toNat))] [] [] rfl kr_ (wn rfl) rfl le_ (litArgs kr_) (by have h_ := refGetDigs_any (l.drop (ua.toNat + ub.toNat)) A2 (l.drop (ua.toNat + ub.toNat)).length (c - (ua.toNat + ub.toNat)) _ w19 ((Rd.below hr2 hm20.bel).more hm20.bel.size) (Nat.le_refl _) (by first | omega | (simp only [List.length_drop]; omega)); rw [hdc] at h_; exact h_) ?_
    rintro e w29 ⟨v31, n_, rfl, hown_, hbz⟩
    have hn_ : D.length = n_ * 16 := by have q_ := hown_.1; rw [bcs_length] at q_; exact q_
    obtain rfl : n_ = (D.length / 16) := by omega
    obtain ⟨A32, c33, rfl, hrd_⟩ := Rd.of_own hown_
    clear hrd_ hn_
    replace hown_ : World.ownsRow w29 _ 27 16 _ (D.length / 16) (bcs D) := hown_
    have hm30 := hm20.newRow hbz hown_
    clear hown_ hbz hm20
    try simp only [lc1_, lc2_, lc3_, lc4_] at hm30
    refine ⟨_, rfl, ?_⟩
    refine qP rfl ?_
    refine lk_ (.tuple #[.slice A32 (D.length / 16) c33, .int .i64 uc, .int .i64 ec]) ?_
    refine lk_ (.slice A32 (D.length / 16) c33) ?_
    refine lk_ (.int .i64 uc) ?_
    refine lk_ (.int .i64 ec) ?_
    refine lk_ (.slice A32 (D.length / 16) c33) ?_
    refine lk_ (.int .i64 uc) ?_
    refine lk_ (.int .i64 ec) ?_
    refine plD ?_
    refine tn_ hK28 ?_
    refine wpPrune [(0, .slice A l.length c), (2, .pointer (some ⟨g2, 0, none⟩)), (3, .int .i64 0), (4, .slice (some ⟨b17, 0, none⟩) a.length c10), (5, .int .i64 ua), (7, .slice A22 b.length c23), (8, .int .i64 ub), (10, .slice A32 (D.length / 16) c33), (11, .int .i64 uc), (12, .int .i64 ec)] ⟨lg_, ⟨lg_, ⟨lg_, ⟨lg_, ⟨lg_, ⟨lg_, ⟨lg_, ⟨lg_, ⟨lg_, ⟨lg_, trivial⟩⟩⟩⟩⟩⟩⟩⟩⟩⟩ (fun X34 => ?_)
    refine wp_seq_k fun K35 hK35 => ?_
    refine wp_seq_k fun K36 hK36 => ?_
    refine plStart ?_
    have hdc2_ : decD ((l.drop ua.toNat).drop ub.toNat) = (D, uc, ec) := by rw [List.drop_drop]; exact hdc
    have hcB_ := hcb_.2.2
    refine lk_ (.int .i64 ec) ?_
    by_cases h37 : ec = 0
    ·subst h37
     have hDl_ := decD_le hdc
     rw [List.length_drop] at hDl_
     have hcc_ := decD_canon hdc
     refine lk_ (.bool false) ?_
     refine plD ?_
     refine tn_ hK36 ?_
     refine wp_cond_false le_ ?_
     refine wp_skip ?_
     refine tn_ hK35 ?_
     refine wp_seq_k fun K38 hK38 => ?_
     refine wp_seq_k fun K39 hK39 => ?_
     refine plStart ?_
     have hcc2_ := hcc_.2.2.2
     rw [List.length_drop] at hcc2_
     refine lk_ (.int .i64 ua) ?_
     refine lk_ (.int .i64 ub) ?_
     refine litVal (v := .int .i64 (ua + ub)) rfl (wn rfl) (addRun (A := ua) (B := ub) (C := ua + ub) (.tmp 55) (.tmp 56) rfl le_ le_ rfl (by omega)) rfl (by decide) ?_
     refine lk_ (.int .i64 uc) ?_
     refine litVal (v := .int .i64 ((ua + ub) + uc)) rfl (wn rfl) (addRun (A := (ua + ub)) (B := uc) (C := (ua + ub) + uc) (.tmp 57) (.tmp 58) rfl le_ le_ rfl (by omega)) rfl (by decide) ?_
     refine lk_ (.slice A l.length c) ?_
     refine litVal (v := .int .i64 (l.length : Int)) rfl (wn rfl) (lenSlRun (A := A) (n := l.length) (c := c) (.tmp 60) Ty.und_L_uint8 rfl le_) rfl (by decide) ?_
     by_cases h40 : ((ua + ub) + uc) = (l.length : Int)
     ·refine litVal (v := .bool false) rfl (wn rfl) (boolTo (by rw [decide_eq_true h40]; rfl) (neqRun (A := ((ua + ub) + uc)) (B := (l.length : Int)) (.tmp 59) (.tmp 61) rfl le_ le_)) rfl (by decide) ?_
      refine plD ?_
      refine tn_ hK39 ?_
      refine wpPrune [(2, .pointer (some ⟨g2, 0, none⟩)), (3, .int .i64 0), (4, .slice (some ⟨b17, 0, none⟩) a.length c10), (7, .slice A22 b.length c23), (10, .slice A32 (D.length / 16) c33), (62, .bool false)] ⟨lg_, ⟨lg_, ⟨lg_, ⟨lg_, ⟨lg_, ⟨lg_, trivial⟩⟩⟩⟩⟩⟩ (fun X41 => ?_)
      refine wp_cond_false le_ ?_
      refine wp_skip ?_
      refine tn_ hK38 ?_
      refine wp_seq_k fun K42 hK42 => ?_
      refine aoStart (aoV [fun _ => .slice (some ⟨b17, 0, none⟩) a.length c10, fun _ => .pointer (some ⟨b17, 0 + 0 * 1, none⟩), fun _ => .int .i64 x, fun _ => .slice (some ⟨b17, 0, none⟩) a.length c10, fun _ => .pointer (some ⟨b17, 0 + 1 * 1, none⟩), fun _ => .int .i64 y, fun _ => .slice A22 b.length c23, fun _ => .slice A32 (D.length / 16) c33, fun _ => .agg ([.int .i64 x, .slice A22 b.length c23, .int .i64 y, .slice A32 (D.length / 16) c33]).toArray, fun γ_ => .pointer (some ⟨(γ_.getD 0 0), 0, none⟩), fun _ => undef]) (aoA [[], [], [], [], [], [], [], [], [], [9], []]) (fun b_ g_ => ((.arr g2 25 ([.int .i64 0, .slice none 0 0, .int .i64 0, .slice none 0 0])) :: (.row (.slice (some ⟨b17, 0, none⟩) a.length c10) 3 1 a.length (ics a)) :: (.row (.slice A22 b.length c23) 3 1 b.length (ics b)) :: (.row (.slice A32 (D.length / 16) c33) 27 16 (D.length / 16) (bcs D)) :: (bsel (b_ 9) (.arr (g_ 9) 25 (bsel (b_ 10) [.int .i64 x, .slice A22 b.length c23, .int .i64 y, .slice A32 (D.length / 16) c33] [.int .i64 0, .slice none 0 0, .int .i64 0, .slice none 0 0])) .free) :: [])) hm30 kr_ kr_ (fun w_ h_ => h_.pushFree) (fun b_ g_ h_ => by show (fun (x9_ x10_ : Bool) => (((.arr g2 25 ([.int .i64 0, .slice none 0 0, .int .i64 0, .slice none 0 0])) :: (.row (.slice (some ⟨b17, 0, none⟩) a.length c10) 3 1 a.length (ics a)) :: (.row (.slice A22 b.length c23) 3 1 b.length (ics b)) :: (.row (.slice A32 (D.length / 16) c33) 27 16 (D.length / 16) (bcs D)) :: (bsel x9_ (.arr (g_ 9) 25 (bsel x10_ [.int .i64 x, .slice A22 b.length c23, .int .i64 y, .slice A32 (D.length / 16) c33] [.int .i64 0, .slice none 0 0, .int .i64 0, .slice none 0 0])) .free) :: []) : List Res)) (b_ 9) (b_ 10) = _; rw [h_ 9 (by decide), h_ 10 (by decide)]) ?_ ?_
      ·refine aoNext rfl (aoVal (fun g_ => [(4, .slice (some ⟨b17, 0, none⟩) a.length c10)]) (fun g_ a_ h_k => ⟨(h_k.out 4 kr_).trans (lg_), trivial⟩) (fun g_ X_ => (wn rfl)) (fun b_ g_ => by kernel_rfl) (fun b_ g_ X_ w_ h_b h_ => valTo (b := .slice (some ⟨b17, 0, none⟩) a.length c10) kr_ (litRun kr_))) ?_
       refine aoNext rfl (aoVal (fun g_ => [(64, .slice (some ⟨b17, 0, none⟩) a.length c10)]) (fun g_ a_ h_k => ⟨(h_k.inn 0 _ _ kr_ rfl rfl).trans kr_, trivial⟩) (fun g_ X_ => (wn rfl)) (fun b_ g_ => by kernel_rfl) (fun b_ g_ X_ w_ h_b h_ => valTo (b := .pointer (some ⟨b17, 0 + 0 * 1, none⟩)) kr_ (gIaSl (b := b17) (off := 0) (n := a.length) (c := c10) (kk := .i64) (K := 0) (.tmp 64) (.const (.int .i64 0)) 0 Ty.sl_L_int rfl le_ le_ (rfl) (by omega)))) ?_
       refine aoNext rfl (aoVal (fun g_ => [(65, .pointer (some ⟨b17, 0 + 0 * 1, none⟩))]) (fun g_ a_ h_k => ⟨(h_k.inn 1 _ _ kr_ rfl rfl).trans kr_, trivial⟩) (fun g_ X_ => (wn rfl)) (fun b_ g_ => by kernel_rfl) (fun b_ g_ X_ w_ h_b h_ => valTo (b := .int .i64 x) kr_ (gLoadRd (v := .int .i64 x) (m := 0 * 1) (h_.rdRow 1 rfl) rfl (ics_at hx) (by omega) (.tmp 65) kr_ rfl le_))) ?_
       refine aoNext rfl (aoVal (fun g_ => [(4, .slice (some ⟨b17, 0, none⟩) a.length c10)]) (fun g_ a_ h_k => ⟨(h_k.out 4 kr_).trans (lg_), trivial⟩) (fun g_ X_ => (wn rfl)) (fun b_ g_ => by kernel_rfl) (fun b_ g_ X_ w_ h_b h_ => valTo (b := .slice (some ⟨b17, 0, none⟩) a.length c10) kr_ (litRun kr_))) ?_
       refine aoNext rfl (aoVal (fun g_ => [(67, .slice (some ⟨b17, 0, none⟩) a.length c10)]) (fun g_ a_ h_k => ⟨(h_k.inn 3 _ _ kr_ rfl rfl).trans kr_, trivial⟩) (fun g_ X_ => (wn rfl)) (fun b_ g_ => by kernel_rfl) (fun b_ g_ X_ w_ h_b h_ => valTo (b := .pointer (some ⟨b17, 0 + 1 * 1, none⟩)) kr_ (gIaSl (b := b17) (off := 0) (n := a.length) (c := c10) (kk := .i64) (K := 1) (.tmp 67) (.const (.int .i64 1)) 1 Ty.sl_L_int rfl le_ le_ (rfl) (by omega)))) ?_
       refine aoNext rfl (aoVal (fun g_ => [(68, .pointer (some ⟨b17, 0 + 1 * 1, none⟩))]) (fun g_ a_ h_k => ⟨(h_k.inn 4 _ _ kr_ rfl rfl).trans kr_, trivial⟩) (fun g_ X_ => (wn rfl)) (fun b_ g_ => by kernel_rfl) (fun b_ g_ X_ w_ h_b h_ => valTo (b := .int .i64 y) kr_ (gLoadRd (v := .int .i64 y) (m := 1 * 1) (h_.rdRow 1 rfl) rfl (ics_at hy) (by omega) (.tmp 68) kr_ rfl le_))) ?_
       refine aoNext rfl (aoVal (fun g_ => [(7, .slice A22 b.length c23)]) (fun g_ a_ h_k => ⟨(h_k.out 7 kr_).trans (lg_), trivial⟩) (fun g_ X_ => (wn rfl)) (fun b_ g_ => by kernel_rfl) (fun b_ g_ X_ w_ h_b h_ => valTo (b := .slice A22 b.length c23) kr_ (litRun kr_))) ?_
       refine aoNext rfl (aoVal (fun g_ => [(10, .slice A32 (D.length / 16) c33)]) (fun g_ a_ h_k => ⟨(h_k.out 10 kr_).trans (lg_), trivial⟩) (fun g_ X_ => (wn rfl)) (fun b_ g_ => by kernel_rfl) (fun b_ g_ X_ w_ h_b h_ => valTo (b := .slice A32 (D.length / 16) c33) kr_ (litRun kr_))) ?_
       refine aoNext rfl (aoVal (fun g_ => [(66, .int .i64 x), (69, .int .i64 y), (70, .slice A22 b.length c23), (71, .slice A32 (D.length / 16) c33)]) (fun g_ a_ h_k => ⟨(h_k.inn 2 _ _ kr_ rfl rfl).trans kr_, (h_k.inn 5 _ _ kr_ rfl rfl).trans kr_, (h_k.inn 6 _ _ kr_ rfl rfl).trans kr_, (h_k.inn 7 _ _ kr_ rfl rfl).trans kr_, trivial⟩) (fun g_ X_ => (wn rfl)) (fun b_ g_ => by kernel_rfl) (fun b_ g_ X_ w_ h_b h_ => valTo (b := .agg ([.int .i64 x, .slice A22 b.length c23, .int .i64 y, .slice A32 (D.length / 16) c33]).toArray) kr_ (litRun kr_))) ?_
       refine aoNext rfl (aoNewAg (z := [.int .i64 0, .slice none 0 0, .int .i64 0, .slice none 0 0]) 4 Ty.ag_voxel_api_Header rfl rfl (fun _ _ _ => ⟨_, rfl⟩) (fun b_ g_ γ_ h_b => Eq.trans kr_ (congrArg (fun x_ => List.set _ 4 (Res.arr γ_ 25 x_)) (bselF (α := List Value) (h_b.post 10 kr_) [.int .i64 x, .slice A22 b.length c23, .int .i64 y, .slice A32 (D.length / 16) c33] [.int .i64 0, .slice none 0 0, .int .i64 0, .slice none 0 0]))) (fun _ => by kernel_rfl) kr_) ?_
       refine aoNext rfl (aoStore (gb := fun g_ => (g_ 9)) (k := 0) (cur := fun g_ => [.int .i64 0, .slice none 0 0, .int .i64 0, .slice none 0 0]) (vs := fun g_ => [.int .i64 x, .slice A22 b.length c23, .int .i64 y, .slice A32 (D.length / 16) c33]) 4 (fun g_ => [(13, .pointer (some ⟨(g_ 9), 0, none⟩)), (72, .agg ([.int .i64 x, .slice A22 b.length c23, .int .i64 y, .slice A32 (D.length / 16) c33]).toArray)]) (fun g_ a_ h_k => ⟨(h_k.inn 9 _ _ kr_ rfl rfl).trans kr_, (h_k.inn 8 _ _ kr_ rfl rfl).trans kr_, trivial⟩) Ty.ag_voxel_api_Header (fun b_ g_ h_b => by show some (bsel (b_ 9) (Res.arr (g_ 9) 25 (bsel (b_ 10) [.int .i64 x, .slice A22 b.length c23, .int .i64 y, .slice A32 (D.length / 16) c33] [.int .i64 0, .slice none 0 0, .int .i64 0, .slice none 0 0])) Res.free) = some (Res.arr (g_ 9) 25 ([.int .i64 0, .slice none 0 0, .int .i64 0, .slice none 0 0])); rw [bselT (h_b.pre 9 kr_), bselF h_b.no]) (fun g_ X_ => (wn rfl)) rfl (fun g_ X_ => litEv kr_) (fun g_ X_ => litEv kr_) (fun _ => by kernel_rfl) (fun _ => by kernel_rfl) (fun _ => by kernel_rfl) (fun b_ g_ h_b => Eq.trans (b := List.set (((.arr g2 25 ([.int .i64 0, .slice none 0 0, .int .i64 0, .slice none 0 0])) :: (.row (.slice (some ⟨b17, 0, none⟩) a.length c10) 3 1 a.length (ics a)) :: (.row (.slice A22 b.length c23) 3 1 b.length (ics b)) :: (.row (.slice A32 (D.length / 16) c33) 27 16 (D.length / 16) (bcs D)) :: (bsel (b_ 9) (.arr (g_ 9) 25 (bsel (b_ 10) [.int .i64 x, .slice A22 b.length c23, .int .i64 y, .slice A32 (D.length / 16) c33] [.int .i64 0, .slice none 0 0, .int .i64 0, .slice none 0 0])) .free) :: [])) 4 (bsel (b_ 9) (Res.arr (g_ 9) 25 ([.int .i64 x, .slice A22 b.length c23, .int .i64 y, .slice A32 (D.length / 16) c33])) Res.free)) kr_ (congrArg (fun x_ => List.set _ 4 x_) (bselT (h_b.pre 9 kr_) _ _))) rfl) ?_
       exact aoDone (by decide)
      intro g_ a_ w44 hF_ hm43
      obtain ⟨X45, rfl⟩ := frLit (⟨hF_.size, hF_.defers, ⟨(hF_.out 2 kr_).trans (lg_), (hF_.out 3 kr_).trans (lg_), (hF_.inn 9 _ _ rfl rfl).trans kr_, (hF_.inn 0 _ _ rfl rfl).trans kr_, (hF_.inn 1 _ _ rfl rfl).trans kr_, (hF_.inn 2 _ _ rfl rfl).trans kr_, (hF_.inn 3 _ _ rfl rfl).trans kr_, (hF_.inn 4 _ _ rfl rfl).trans kr_, (hF_.inn 5 _ _ rfl rfl).trans kr_, (hF_.inn 6 _ _ rfl rfl).trans kr_, (hF_.inn 7 _ _ rfl rfl).trans kr_, (hF_.inn 8 _ _ rfl rfl).trans kr_, trivial⟩⟩ : Fr _ 80 [(2, .pointer (some ⟨g2, 0, none⟩)), (3, .int .i64 0), (13, .pointer (some ⟨(g_ 9), 0, none⟩)), (64, .slice (some ⟨b17, 0, none⟩) a.length c10), (65, .pointer (some ⟨b17, 0 + 0 * 1, none⟩)), (66, .int .i64 x), (67, .slice (some ⟨b17, 0, none⟩) a.length c10), (68, .pointer (some ⟨b17, 0 + 1 * 1, none⟩)), (69, .int .i64 y), (70, .slice A22 b.length c23), (71, .slice A32 (D.length / 16) c33), (72, .agg ([.int .i64 x, .slice A22 b.length c23, .int .i64 y, .slice A32 (D.length / 16) c33]).toArray)])
      clear hF_
      have hm46 : Mem w w44 [.arr g2 25 ([.int .i64 0, .slice none 0 0, .int .i64 0, .slice none 0 0]), .row (.slice (some ⟨b17, 0, none⟩) a.length c10) 3 1 a.length (ics a), .row (.slice A22 b.length c23) 3 1 b.length (ics b), .row (.slice A32 (D.length / 16) c33) 27 16 (D.length / 16) (bcs D), .arr (g_ 9) 25 ([.int .i64 x, .slice A22 b.length c23, .int .i64 y, .slice A32 (D.length / 16) c33])] := hm43
      clear hm43 hm30
      generalize g_ 9 = g47 at hm46 ⊢
      clear g_
      refine tn_ hK42 ?_
      refine wp_seq_k fun K48 hK48 => ?_
      refine plStart ?_
      refine litVal (v := .agg ([.int .i64 x, .slice A22 b.length c23, .int .i64 y, .slice A32 (D.length / 16) c33]).toArray) rfl (wn rfl) (gLoadAg (vs := [.int .i64 x, .slice A22 b.length c23, .int .i64 y, .slice A32 (D.length / 16) c33]) (k := 0) 4 hm46 rfl kr_ kr_ (.tmp 13) Ty.ag_voxel_api_Header rfl le_) rfl (by decide) ?_
      refine plCall (i := 1) 30 [.agg ([.int .i64 x, .slice A22 b.length c23, .int .i64 y, .slice A32 (D.length / 16) c33]).toArray] [] [] rfl kr_ (wn rfl) rfl le_ (litArgs kr_) (by exact rcheck_any ⟨x, b, y, D.length / 16, D⟩ A22 c23 A32 c33 _ (hm46.rdRow 2 rfl) (hm46.rdRow 3 rfl) (by show b.length ≤ _; omega) (by show D.length / 16 ≤ _; omega) hyb_) ?_
      rintro e w49 ⟨rfl, hbz⟩
      have hm50 := hm46.below hbz
      clear hbz hm46
      refine ⟨_, rfl, ?_⟩
      refine qP rfl ?_
      refine lk_ (.int .i64 (ckH ⟨x, b, y, D.length / 16, D⟩)) ?_
      refine plD ?_
      refine tn_ hK48 ?_
      refine wp_seq_k fun K51 hK51 => ?_
      refine wp_seq_k fun K52 hK52 => ?_
      refine plStart ?_
      refine lk_ (.int .i64 (ckH ⟨x, b, y, D.length / 16, D⟩)) ?_
      by_cases h53 : (ckH ⟨x, b, y, D.length / 16, D⟩) = 0
      ·refine litVal (v := .bool false) rfl (wn rfl) (boolTo (by rw [decide_eq_true h53]; rfl) (neqRun (A := (ckH ⟨x, b, y, D.length / 16, D⟩)) (B := 0) (.tmp 75) (.const (.int .i64 0)) rfl le_ le_)) rfl (by decide) ?_
       refine plD ?_
       refine tn_ hK52 ?_
       refine wp_cond_false le_ ?_
       refine wp_skip ?_
       refine tn_ hK51 ?_
       refine wpPrune [(2, .pointer (some ⟨g2, 0, none⟩)), (3, .int .i64 0), (13, .pointer (some ⟨g47, 0, none⟩))] ⟨lg_, ⟨lg_, ⟨lg_, trivial⟩⟩⟩ (fun X54 => ?_)
       refine wp_seq_k fun K55 hK55 => ?_
       refine plStart ?_
       refine litVal (v := .agg ([.int .i64 x, .slice A22 b.length c23, .int .i64 y, .slice A32 (D.length / 16) c33]).toArray) rfl (wn rfl) (gLoadAg (vs := [.int .i64 x, .slice A22 b.length c23, .int .i64 y, .slice A32 (D.length / 16) c33]) (k := 0) 4 hm50 rfl kr_ kr_ (.tmp 13) Ty.ag_voxel_api_Header rfl le_) rfl (by decide) ?_
       refine plStore 0 Ty.ag_voxel_api_Header hm50 rfl (i := 1) (cs := [.int .i64 x, .slice A22 b.length c23, .int .i64 y, .slice A32 (D.length / 16) c33]) rfl (wn rfl) rfl le_ le_ rfl rfl kr_ ?_
       intro w57 hm56
       clear hm50
       try simp only [lc1_, lc2_, lc3_, lc4_] at hm56
       refine qNone rfl ?_
       refine lk_ (.int .i64 0) ?_
       refine plD ?_
       refine tn_ hK55 ?_
       refine wp_ret ?_
       refine bodyPost_ret (v := .tuple #[.agg ([.int .i64 x, .slice A22 b.length c23, .int .i64 y, .slice A32 (D.length / 16) c33]).toArray, .int .i64 0]) (gRes2 rfl (gResAg (cs := [.int .i64 x, .slice A22 b.length c23, .int .i64 y, .slice A32 (D.length / 16) c33]) 0 hm56 rfl Ty.ag_voxel_api_Header rfl (lg_)) (gResTmp (t := 3) (v := .int .i64 0) (lg_))) rfl ?_
       have hfin_ := (decH_end hda h2_ hdb hdc2_ h40 hx hy).trans (if_neg (fun h_ => h_ h53))
       exact ⟨A22, c23, A32, c33, by rw [hfin_]; rfl, by rw [hfin_]; exact (hm56.rdRow 2 rfl), by rw [hfin_]; exact (hm56.rdRow 3 rfl), (own_new (hm56.row 2 rfl)), (own_new (hm56.row 3 rfl)), hm56.bel⟩
      refine litVal (v := .bool true) rfl (wn rfl) (boolTo (by rw [decide_eq_false h53]; rfl) (neqRun (A := (ckH ⟨x, b, y, D.length / 16, D⟩)) (B := 0) (.tmp 75) (.const (.int .i64 0)) rfl le_ le_)) rfl (by decide) ?_
      refine plD ?_
      refine tn_ hK52 ?_
      refine wp_cond_true le_ ?_
      refine wp_seq_k fun K58 hK58 => ?_
      refine plStart ?_
      refine lk_ (.agg ([.int .i64 0, .slice none 0 0, .int .i64 0, .slice none 0 0]).toArray) ?_
      refine lk_ (.int .i64 (ckH ⟨x, b, y, D.length / 16, D⟩)) ?_
      refine plStore 0 Ty.ag_voxel_api_Header hm50 rfl (i := 2) (cs := [.int .i64 0, .slice none 0 0, .int .i64 0, .slice none 0 0]) rfl (wn rfl) rfl le_ le_ rfl rfl kr_ ?_
      intro w60 hm59
      clear hm50
      try simp only [lc1_, lc2_, lc3_, lc4_] at hm59
      refine qNone rfl ?_
      refine lk_ (.int .i64 (ckH ⟨x, b, y, D.length / 16, D⟩)) ?_
      refine plD ?_
      refine tn_ hK58 ?_
      refine wpPrune [(2, .pointer (some ⟨g2, 0, none⟩)), (3, .int .i64 (ckH ⟨x, b, y, D.length / 16, D⟩)), (13, .pointer (some ⟨g47, 0, none⟩))] ⟨lg_, ⟨lg_, ⟨lg_, trivial⟩⟩⟩ (fun X61 => ?_)
      refine wp_ret ?_
      refine then_ret ?_
      refine bodyPost_ret (v := .tuple #[.agg ([.int .i64 0, .slice none 0 0, .int .i64 0, .slice none 0 0]).toArray, .int .i64 (ckH ⟨x, b, y, D.length / 16, D⟩)]) (gRes2 rfl (gResAg (cs := [.int .i64 0, .slice none 0 0, .int .i64 0, .slice none 0 0]) 0 hm59 rfl Ty.ag_voxel_api_Header rfl (lg_)) (gResTmp (t := 3) (v := .int .i64 (ckH ⟨x, b, y, D.length / 16, D⟩)) (lg_))) rfl ?_
      have hfin_ := (decH_end hda h2_ hdb hdc2_ h40 hx hy).trans (if_pos h53)
      exact ⟨none, 0, none, 0, by rw [hfin_]; rfl, by rw [hfin_]; exact Rd.nil _ _ 1, by rw [hfin_]; exact Rd.nil _ _ 16, NewA.none _, NewA.none _, hm59.bel⟩
     refine litVal (v := .bool true) rfl (wn rfl) (boolTo (by rw [decide_eq_false h40]; rfl) (neqRun (A := ((ua + ub) + uc)) (B := (l.length : Int)) (.tmp 59) (.tmp 61) rfl le_ le_)) rfl (by decide) ?_
     refine plD ?_
     refine tn_ hK39 ?_
     refine wpPrune [(2, .pointer (some ⟨g2, 0, none⟩)), (3, .int .i64 0), (4, .slice (some ⟨b17, 0, none⟩) a.length c10), (7, .slice A22 b.length c23), (10, .slice A32 (D.length / 16) c33), (62, .bool true)] ⟨lg_, ⟨lg_, ⟨lg_, ⟨lg_, ⟨lg_, ⟨lg_, trivial⟩⟩⟩⟩⟩⟩ (fun X62 => ?_)
     refine wp_cond_true le_ ?_
     refine wp_seq_k fun K63 hK63 => ?_
     refine plStart ?_
     refine lk_ (.agg ([.int .i64 0, .slice none 0 0, .int .i64 0, .slice none 0 0]).toArray) ?_
     refine plStore 0 Ty.ag_voxel_api_Header hm30 rfl (i := 1) (cs := [.int .i64 0, .slice none 0 0, .int .i64 0, .slice none 0 0]) rfl (wn rfl) rfl le_ le_ rfl rfl kr_ ?_
     intro w65 hm64
     clear hm30
     try simp only [lc1_, lc2_, lc3_, lc4_] at hm64
     refine qNone rfl ?_
     refine lk_ (.int .i64 6) ?_
     refine plD ?_
     refine tn_ hK63 ?_
     refine wp_ret ?_
     refine then_ret ?_
     refine bodyPost_ret (v := .tuple #[.agg ([.int .i64 0, .slice none 0 0, .int .i64 0, .slice none 0 0]).toArray, .int .i64 6]) (gRes2 rfl (gResAg (cs := [.int .i64 0, .slice none 0 0, .int .i64 0, .slice none 0 0]) 0 hm64 rfl Ty.ag_voxel_api_Header rfl (lg_)) (gResTmp (t := 3) (v := .int .i64 6) (lg_))) rfl ?_
     have hfin_ := decH_len hda h2_ hdb hdc2_ h40
     exact ⟨none, 0, none, 0, by rw [hfin_]; rfl, by rw [hfin_]; exact Rd.nil _ _ 1, by rw [hfin_]; exact Rd.nil _ _ 16, NewA.none _, NewA.none _, hm64.bel⟩
    refine litVal (v := .bool true) rfl (wn rfl) (boolTo (by rw [decide_eq_false h37]; rfl) (neqRun (A := ec) (B := 0) (.tmp 51) (.const (.int .i64 0)) rfl le_ le_)) rfl (by decide) ?_
    refine plD ?_
    refine tn_ hK36 ?_
    refine wp_cond_true le_ ?_
    refine wp_seq_k fun K66 hK66 => ?_
    refine plStart ?_
    refine lk_ (.agg ([.int .i64 0, .slice none 0 0, .int .i64 0, .slice none 0 0]).toArray) ?_
    refine lk_ (.int .i64 ec) ?_
    refine plStore 0 Ty.ag_voxel_api_Header hm30 rfl (i := 2) (cs := [.int .i64 0, .slice none 0 0, .int .i64 0, .slice none 0 0]) rfl (wn rfl) rfl le_ le_ rfl rfl kr_ ?_
    intro w68 hm67
    clear hm30
    try simp only [lc1_, lc2_, lc3_, lc4_] at hm67
    refine qNone rfl ?_
    refine lk_ (.int .i64 ec) ?_
    refine plD ?_
    refine tn_ hK66 ?_
    refine wp_ret ?_
    refine then_ret ?_
    refine bodyPost_ret (v := .tuple #[.agg ([.int .i64 0, .slice none 0 0, .int .i64 0, .slice none 0 0]).toArray, .int .i64 ec]) (gRes2 rfl (gResAg (cs := [.int .i64 0, .slice none 0 0, .int .i64 0, .slice none 0 0]) 0 hm67 rfl Ty.ag_voxel_api_Header rfl (lg_)) (gResTmp (t := 3) (v := .int .i64 ec) (lg_))) rfl ?_
    have hfin_ := decH_c hda h2_ hdb hdc2_ h37
    exact ⟨none, 0, none, 0, by rw [hfin_]; rfl, by rw [hfin_]; exact Rd.nil _ _ 1, by rw [hfin_]; exact Rd.nil _ _ 16, NewA.none _, NewA.none _, hm67.bel⟩
   refine litVal (v := .bool true) rfl (wn rfl) (boolTo (by rw [decide_eq_false h27]; rfl) (neqRun (A := eb) (B := 0) (.tmp 37) (.const (.int .i64 0)) rfl le_ le_)) rfl (by decide) ?_
   refine plD ?_
   refine tn_ hK26 ?_
   refine wp_cond_true le_ ?_
   refine wp_seq_k fun K69 hK69 => ?_
   refine plStart ?_
   refine lk_ (.agg ([.int .i64 0, .slice none 0 0, .int .i64 0, .slice none 0 0]).toArray) ?_
   refine lk_ (.int .i64 eb) ?_
   refine plStore 0 Ty.ag_voxel_api_Header hm20 rfl (i := 2) (cs := [.int .i64 0, .slice none 0 0, .int .i64 0, .slice none 0 0]) rfl (wn rfl) rfl le_ le_ rfl rfl kr_ ?_
   intro w71 hm70
   clear hm20
   try simp only [lc1_, lc2_, lc3_, lc4_] at hm70
   refine qNone rfl ?_
   refine lk_ (.int .i64 eb) ?_
   refine plD ?_
   refine tn_ hK69 ?_
   refine wp_ret ?_
   refine then_ret ?_
   refine bodyPost_ret (v := .tuple #[.agg ([.int .i64 0, .slice none 0 0, .int .i64 0, .slice none 0 0]).toArray, .int .i64 eb]) (gRes2 rfl (gResAg (cs := [.int .i64 0, .slice none 0 0, .int .i64 0, .slice none 0 0]) 0 hm70 rfl Ty.ag_voxel_api_Header rfl (lg_)) (gResTmp (t := 3) (v := .int .i64 eb) (lg_))) rfl ?_
   have hfin_ := decH_b hda h2_ hdb h27
   exact ⟨none, 0, none, 0, by rw [hfin_]; rfl, by rw [hfin_]; exact Rd.nil _ _ 1, by rw [hfin_]; exact Rd.nil _ _ 16, NewA.none _, NewA.none _, hm70.bel⟩
  refine litVal (v := .bool true) rfl (wn rfl) (boolTo (by rw [decide_eq_false h16]; rfl) (neqRun (A := (a.length : Int)) (B := 2) (.tmp 26) (.const (.int .i64 2)) rfl le_ le_)) rfl (by decide) ?_
  refine plD ?_
  refine tn_ hK15 ?_
  refine wp_cond_true le_ ?_
  refine wp_seq_k fun K72 hK72 => ?_
  refine plStart ?_
  refine lk_ (.agg ([.int .i64 0, .slice none 0 0, .int .i64 0, .slice none 0 0]).toArray) ?_
  refine plStore 0 Ty.ag_voxel_api_Header hm7 rfl (i := 1) (cs := [.int .i64 0, .slice none 0 0, .int .i64 0, .slice none 0 0]) rfl (wn rfl) rfl le_ le_ rfl rfl kr_ ?_
  intro w74 hm73
  clear hm7
  try simp only [lc1_, lc2_, lc3_, lc4_] at hm73
  refine qNone rfl ?_
  refine lk_ (.int .i64 6) ?_
  refine plD ?_
  refine tn_ hK72 ?_
  refine wpPrune [(0, .slice A l.length c), (2, .pointer (some ⟨g2, 0, none⟩)), (3, .int .i64 6), (4, .slice A9 a.length c10), (5, .int .i64 ua)] ⟨lg_, ⟨lg_, ⟨lg_, ⟨lg_, ⟨lg_, trivial⟩⟩⟩⟩⟩ (fun X75 => ?_)
  refine wp_ret ?_
  refine then_ret ?_
  refine bodyPost_ret (v := .tuple #[.agg ([.int .i64 0, .slice none 0 0, .int .i64 0, .slice none 0 0]).toArray, .int .i64 6]) (gRes2 rfl (gResAg (cs := [.int .i64 0, .slice none 0 0, .int .i64 0, .slice none 0 0]) 0 hm73 rfl Ty.ag_voxel_api_Header rfl (lg_)) (gResTmp (t := 3) (v := .int .i64 6) (lg_))) rfl ?_
  have hfin_ := decH_two hda h16
  exact ⟨none, 0, none, 0, by rw [hfin_]; rfl, by rw [hfin_]; exact Rd.nil _ _ 1, by rw [hfin_]; exact Rd.nil _ _ 16, NewA.none _, NewA.none _, hm73.bel⟩
 refine litVal (v := .bool true) rfl (wn rfl) (boolTo (by rw [decide_eq_false h13]; rfl) (neqRun (A := ea) (B := 0) (.tmp 21) (.const (.int .i64 0)) rfl le_ le_)) rfl (by decide) ?_
 refine plD ?_
 refine tn_ hK12 ?_
 refine wp_cond_true le_ ?_
 refine wp_seq_k fun K76 hK76 => ?_
 refine plStart ?_
 refine lk_ (.agg ([.int .i64 0, .slice none 0 0, .int .i64 0, .slice none 0 0]).toArray) ?_
 refine lk_ (.int .i64 ea) ?_
 refine plStore 0 Ty.ag_voxel_api_Header hm7 rfl (i := 2) (cs := [.int .i64 0, .slice none 0 0, .int .i64 0, .slice none 0 0]) rfl (wn rfl) rfl le_ le_ rfl rfl kr_ ?_
 intro w78 hm77
 clear hm7
 try simp only [lc1_, lc2_, lc3_, lc4_] at hm77
 refine qNone rfl ?_
 refine lk_ (.int .i64 ea) ?_
 refine plD ?_
 refine tn_ hK76 ?_
 refine wp_ret ?_
 refine then_ret ?_
 refine bodyPost_ret (v := .tuple #[.agg ([.int .i64 0, .slice none 0 0, .int .i64 0, .slice none 0 0]).toArray, .int .i64 ea]) (gRes2 rfl (gResAg (cs := [.int .i64 0, .slice none 0 0, .int .i64 0, .slice none 0 0]) 0 hm77 rfl Ty.ag_voxel_api_Header rfl (lg_)) (gResTmp (t := 3) (v := .int .i64 ea) (lg_))) rfl ?_
 have hfin_ := decH_a hda h13
 exact ⟨none, 0, none, 0, by rw [hfin_]; rfl, by rw [hfin_]; exact Rd.nil _ _ 1, by rw [hfin_]; exact Rd.nil _ _ 16, NewA.none _, NewA.none _, hm77.bel⟩
section
variable {P : Program} {ops : Array Oper} {Q : Exit → Act → World → Prop} {a : Act} {w w0 : World} {o : Oper} {L M : List Res} {i c fuel : Nat} {listed : Array Bool}
theorem glVal {v : Value} (hr : Region.ready .any ops listed = [i]) (hi : ops.toList[i]? = some o) (hc : (listed.setIfInBounds i true).getD c true = true) (hw : Region.wanted o (yielded ops a.tmps) = true) (hy : (execOp a.eval o).run P w = .ok (.value v) w)
 (h : MGL P ops Q w0 M c fuel (listed.setIfInBounds i true) (a.put o.dst v) w) : MGL P ops Q w0 M c (fuel + 1) listed a w :=
 ⟨lgNext hr hi hc (opVal hw hy h.out)⟩
end
theorem callOpP {P : Program} {w : World} {ops : Array Oper} {rest : List Oper} {o : Oper} {a : Act} {Q : Exit → Act → World → Prop} {c : Operand} {args : Array Operand} {argTypes : Array TypeId} (f : FuncId) (vals first caps : List Value)
 (hf : callable P f = true) (hgd : Region.wanted o (yielded ops a.tmps) = true) (ho : o.op = .call { callee := .value c, args, argTypes }) (hc : a.eval c = .func (.func f) first.toArray caps.toArray) (hargs : args.toList.map a.eval = vals)
 (h : Calls P f (first ++ vals ++ caps).toArray w (fun e w' => ∃ ch, e = .panicked ch ∧ Q (.panic ch) a w')) : wpList P ops Q (o :: rest) a w := by
 unfold callable at hf
 cases hfn : P.funcs[f]? with
 | none => rw [hfn] at hf; cases hf
 | some fn =>
  rw [hfn] at hf
  simp only [Bool.and_eq_true, Bool.not_eq_true', beq_eq_false_iff_ne] at hf
  obtain ⟨h1, h2⟩ := hf
  obtain ⟨b, hb⟩ := Option.isSome_iff_exists.1 h2
  refine wpList_want hgd fun K hK => ?_
  unfold Oper.wp execOp
  have hargs' : args.map a.eval = vals.toArray := by
   apply Array.ext'
   rw [Array.toList_map, hargs]
  have hrun : ∀ vs, (callFunc f vs).run P w = .ok (.enter f vs) w := fun vs => by simp [callFunc, hfn, h1, hb]
  have happ : first.toArray ++ vals.toArray ++ caps.toArray = (first ++ vals ++ caps).toArray := by simp
  simp only [ho, resolve, hc, Deferred.ofValue, invoke, Sem.run_bind, Sem.run_pure, Result.andThen_ok, hargs', hrun, Oper.upon, happ]
  refine h.mono fun e w' ⟨v, he, hw⟩ => ?_
  subst he
  exact hw
theorem plCallP {P : Program} {ops : Array Oper} {Q : Exit → Act → World → Prop} {a : Act} {w : World} {o : Oper} {i : Nat} {c : Operand} {args : Array Operand} {argTypes : Array TypeId} {R : Ending → World → Prop} (f : FuncId) (vals first caps : List Value)
 (hi : ops.toList[i]? = some o) (hf : callable P f = true) (hw : Region.wanted o (yielded ops a.tmps) = true) (ho : o.op = .call { callee := .value c, args, argTypes }) (hc : a.eval c = .func (.func f) first.toArray caps.toArray) (hargs : args.toList.map a.eval = vals)
 (hC : Calls P f (first ++ vals ++ caps).toArray w R) (h : ∀ e w', R e w' → ∃ ch, e = .panicked ch ∧ Q (.panic ch) a w') : PL P ops Q i a w :=
 plOf hi (callOpP f vals first caps hf hw ho hc hargs (hC.mono fun e w' he => h e w' he))
theorem plPanic {P : Program} {ops : Array Oper} {Q : Exit → Act → World → Prop} {a : Act} {w : World} {o : Oper} {i : Nat} {v : Value} (hi : ops.toList[i]? = some o) (hw : Region.wanted o (yielded ops a.tmps) = true) (hr : (execOp a.eval o).run P w = .halt (.panic v) w) (h : Q (.panic [{ v, recovered := false }]) a w) : PL P ops Q i a w :=
 plOf hi (wpList_want hw fun K hK => by unfold Oper.wp; rw [hr]; exact h)
theorem then_panic {K : Act → World → Prop} {Q : Exit → Act → World → Prop} {ch : List PanicEntry} {a : Act} {w : World} (h : Q (.panic ch) a w) : Exit.then K Q (.panic ch) a w := h
namespace LD
def lit (ds : List Deferred) (N : Nat) (X : Nat → Value) (l : List (Nat × Value)) : Act := { tmps := ((List.range N).map fun i => slotOf l i (X i)).toArray, defers := ds }
section
variable {ds : List Deferred} {N : Nat} {X : Nat → Value} {l : List (Nat × Value)} {P : Program} {w w0 : World} {o : Oper} {ops : Array Oper} {Q : Exit → Act → World → Prop} {i : Nat}
theorem lit_get? (k : Nat) : (lit ds N X l).tmps[k]? = if k < N then some (slotOf l k (X k)) else none := by
 unfold lit
 simp only [List.getElem?_toArray, List.getElem?_map]
 by_cases h : k < N
 ·rw [List.getElem?_range h, if_pos h]; rfl
 ·rw [List.getElem?_eq_none (by simp; omega), if_neg h]; rfl
theorem lit_getD (k : Nat) : (lit ds N X l).tmps.getD k undef = if k < N then slotOf l k (X k) else undef := by
 rw [Array.getD_eq_getD_getElem?, lit_get?]
 split <;> rfl
theorem lit_eval : (lit ds N X l).eval = litEval N X l := by
 funext x
 cases x with
 | tmp k => exact lit_getD k
 | _ => rfl
theorem lit_put {d : Nat} {v : Value} (_h : d < N) : (lit ds N X l).put (some d) v = lit ds N X ((d, v) :: l) := by
 unfold Act.put lit
 simp only
 congr 1
 apply Array.ext
 ·simp
 ·intro k h1 h2
  simp only [Array.size_setIfInBounds, List.size_toArray, List.length_map, List.length_range] at h1
  by_cases hk : d = k
  ·subst hk
   simp [slotOf]
  ·simp [hk, slotOf]
theorem litEv {x : Operand} {v : Value} (h : litEval N X l x = v) : (lit ds N X l).eval x = v := by rw [lit_eval]; exact h
theorem litRun {r : Result Next} (h : (execOp (litEval N X l) o).run P w = r) : (execOp (lit ds N X l).eval o).run P w = r := by rw [lit_eval]; exact h
theorem litArgs {args : List Operand} {vals : List Value} (h : args.map (litEval N X l) = vals) : args.map (lit ds N X l).eval = vals := by rw [lit_eval]; exact h
theorem litGet {k : Nat} {v : Value} (h : litEval N X l (.tmp k) = v) : (lit ds N X l).tmps.getD k undef = v := litEv h
theorem wgY {j dj : Nat} {b : Bool} {oj : Oper} (hg : o.guard = some (j, b)) (hj : ops.toList[j]? = some oj) (hd : oj.dst = some dj) (hN : (decide (dj < N)) = true) (hv : litEval N X l (.tmp dj) = .bool b) : Region.wanted o (yielded ops (lit ds N X l).tmps) = true := by
 have hj' : ops[j]? = some oj := by rw [← hj]; simp
 have hN' := of_decide_eq_true hN
 have hs : (lit ds N X l).tmps[dj]? = some (.bool b) := by
  rw [lit_get?, if_pos hN']
  have : litEval N X l (.tmp dj) = slotOf l dj (X dj) := if_pos hN'
  rw [← this, hv]
 simp [Region.wanted, hg, yielded, hj', hd, hs]
theorem wgN {j dj : Nat} {b : Bool} {oj : Oper} (hg : o.guard = some (j, b)) (hj : ops.toList[j]? = some oj) (hd : oj.dst = some dj) (hN : (decide (dj < N)) = true) (hv : litEval N X l (.tmp dj) = .bool !b) : Region.wanted o (yielded ops (lit ds N X l).tmps) = false := by
 have hj' : ops[j]? = some oj := by rw [← hj]; simp
 have hN' := of_decide_eq_true hN
 have hs : (lit ds N X l).tmps[dj]? = some (.bool !b) := by
  rw [lit_get?, if_pos hN']
  have : litEval N X l (.tmp dj) = slotOf l dj (X dj) := if_pos hN'
  rw [← this, hv]
 simp [Region.wanted, hg, yielded, hj', hd, hs]
theorem wgU {j dj : Nat} {b : Bool} {oj : Oper} (hg : o.guard = some (j, b)) (hj : ops.toList[j]? = some oj) (hd : oj.dst = some dj) (hN : (decide (dj < N)) = true) (hv : litEval N X l (.tmp dj) = undef) : Region.wanted o (yielded ops (lit ds N X l).tmps) = false := by
 have hj' : ops[j]? = some oj := by rw [← hj]; simp
 have hN' := of_decide_eq_true hN
 have hs : (lit ds N X l).tmps[dj]? = some undef := by
  rw [lit_get?, if_pos hN']
  have : litEval N X l (.tmp dj) = slotOf l dj (X dj) := if_pos hN'
  rw [← this, hv]
 simp [Region.wanted, hg, yielded, hj', hd, hs, undef]
theorem qPut {d : Nat} {v : Value} {dst : Option Tmp} (hd : dst = some d) (hN : (decide (d < N)) = true) (h : PL P ops Q i (lit ds N X ((d, v) :: l)) w) : PL P ops Q i ((lit ds N X l).put dst v) w := by
 rw [hd, lit_put (of_decide_eq_true hN)]; exact h
theorem qNone {v : Value} {dst : Option Tmp} (hd : dst = none) (h : PL P ops Q i (lit ds N X l) w) : PL P ops Q i ((lit ds N X l).put dst v) w := by
 rw [hd]; exact h
theorem mPut {L : List Res} {fuel : Nat} {listed : Array Bool} {d : Nat} {v : Value} {dst : Option Tmp} (hd : dst = some d) (hN : (decide (d < N)) = true) (h : MG P ops Q w0 L fuel listed (lit ds N X ((d, v) :: l)) w) : MG P ops Q w0 L fuel listed ((lit ds N X l).put dst v) w := by
 rw [hd, lit_put (of_decide_eq_true hN)]; exact h
theorem mNone {L : List Res} {fuel : Nat} {listed : Array Bool} {v : Value} {dst : Option Tmp} (hd : dst = none) (h : MG P ops Q w0 L fuel listed (lit ds N X l) w) : MG P ops Q w0 L fuel listed ((lit ds N X l).put dst v) w := by
 rw [hd]; exact h
theorem litStart {c : Code} {a : Act} (N : Nat) (l : List (Nat × Value)) (h : a = lit ds N (fun _ => undef) l) (k : ∀ X, c.wp P Q (lit ds N X l) w) : c.wp P Q a w := by
 rw [h]; exact k _
theorem litSize : (lit ds N X l).tmps.size = N := by simp [lit]
theorem litVal {v : Value} {d : Nat} (hi : ops.toList[i]? = some o) (hw : Region.wanted o (yielded ops (lit ds N X l).tmps) = true) (hr : (execOp (lit ds N X l).eval o).run P w = .ok (.value v) w) (hd : o.dst = some d) (hN : (decide (d < N)) = true) (h : PL P ops Q (i + 1) (lit ds N X ((d, v) :: l)) w) : PL P ops Q i (lit ds N X l) w :=
 plVal hi hw hr (qPut hd hN h)
theorem lk {v : Value} {d : Nat} (hi : ops.toList[i]? = some o) (hg : o.guard = none) (hd : o.dst = some d) (h : PL P ops Q (i + 1) (lit ds N X ((d, v) :: l)) w) (hr : (execOp (litEval N X l) o).run P w = .ok (.value v) w := by kernel_rfl) (hN : (decide (d < N)) = true := by decide) : PL P ops Q i (lit ds N X l) w :=
 litVal hi (wn hg) (litRun hr) hd hN h
theorem mk_ {L : List Res} {fuel : Nat} {listed : Array Bool} {v : Value} {d : Nat} (hi : ops.toList[i]? = some o) (hg : o.guard = none) (hQ : ∀ c a w, Q (.panic c) (a.put o.dst v) w → Q (.panic c) a w) (hm : Mem w0 w L) (hd : o.dst = some d)
 (h : MG P ops Q w0 L fuel (listed.setIfInBounds i true) (lit ds N X ((d, v) :: l)) w) (hf : mayFirst ops listed i = true := by kernel_rfl) (hr : ∀ w, (execOp (litEval N X l) o).run P w = .ok (.value v) w := by intro _; kernel_rfl) (hN : (decide (d < N)) = true := by decide) : MG P ops Q w0 L (fuel + 1) listed (lit ds N X l) w :=
 mgTake hi hf (wn hg) hQ hm (fun w _ => litRun (hr w)) (mPut hd hN h)
theorem plD {a : Act} (h : Q .normal a w) (hi : ops.toList.length ≤ i := by decide) : PL P ops Q i a w := plDone hi h
theorem qP {d : Nat} {v : Value} {dst : Option Tmp} (hd : dst = some d) (h : PL P ops Q i (lit ds N X ((d, v) :: l)) w) (hN : (decide (d < N)) = true := by decide) : PL P ops Q i ((lit ds N X l).put dst v) w := qPut hd hN h
theorem mP {L : List Res} {fuel : Nat} {listed : Array Bool} {d : Nat} {v : Value} {dst : Option Tmp} (hd : dst = some d) (h : MG P ops Q w0 L fuel listed (lit ds N X ((d, v) :: l)) w) (hN : (decide (d < N)) = true := by decide) : MG P ops Q w0 L fuel listed ((lit ds N X l).put dst v) w := mPut hd hN h
theorem plDefer {d : Deferred} (hi : ops.toList[i]? = some o) (hw : Region.wanted o (yielded ops (lit ds N X l).tmps) = true) (hr : (execOp (lit ds N X l).eval o).run P w = .ok (.defer d) w) (hd : o.dst = none) (h : PL P ops Q (i + 1) (lit (d :: ds) N X l) w) : PL P ops Q i (lit ds N X l) w :=
 plOf hi (wpList_want hw fun K hK => by unfold Oper.wp; rw [hr, Oper.upon_defer, hd]; exact hK _ _ h.out)
end
section
variable {P : Program} {ops : Array Oper} {Q : Exit → Act → World → Prop} {a : Act} {w w0 : World} {o : Oper} {L M : List Res} {i c fuel : Nat} {listed : Array Bool} {ds : List Deferred} {N : Nat} {X : Nat → Value} {l : List (Nat × Value)}
theorem glNone {v : Value} {dst : Option Tmp} (hd : dst = none) (h : MGL P ops Q w0 M c fuel listed (lit ds N X l) w) : MGL P ops Q w0 M c fuel listed ((lit ds N X l).put dst v) w := by
 rw [hd]; exact h
theorem glP {d : Nat} {v : Value} {dst : Option Tmp} (hd : dst = some d) (h : MGL P ops Q w0 M c fuel listed (lit ds N X ((d, v) :: l)) w) (hN : (decide (d < N)) = true := by decide) : MGL P ops Q w0 M c fuel listed ((lit ds N X l).put dst v) w := by
 rw [hd, lit_put (of_decide_eq_true hN)]; exact h
theorem glk {v : Value} {d : Nat} (hi : ops.toList[i]? = some o) (hg : o.guard = none) (hQ : ∀ c a w, Q (.panic c) (a.put o.dst v) w → Q (.panic c) a w) (hm : Mem w0 w M) (hd : o.dst = some d)
 (h : MGL P ops Q w0 M c fuel (listed.setIfInBounds i true) (lit ds N X ((d, v) :: l)) w) (hf : (mayFirst ops listed i && (List.range c).contains i && reachD ops (List.range c) 8 c i && closedD ops (List.range c) listed && !(i == c) && !listed.getD c true) = true := by kernel_rfl) (hr : ∀ w, (execOp (litEval N X l) o).run P w = .ok (.value v) w := by intro _; kernel_rfl) (hN : (decide (d < N)) = true := by decide) : MGL P ops Q w0 M c (fuel + 1) listed (lit ds N X l) w :=
 glTake hi hf (wn hg) hQ hm (fun w _ => litRun (hr w)) (glP hd h hN)
end
structure Fr {ds : List Deferred} (a : Act) (N : Nat) (l : List (Nat × Value)) : Prop where
 size : a.tmps.size = N
 defers : a.defers = ds
 known : FrIs a l
theorem frIs_nil {a : Act} : ∀ {l : List (Nat × Value)}, FrIs a l → FrIs { a with defers := [] } l
 | [], _ => trivial
 | _ :: _, h => ⟨h.1, frIs_nil h.2⟩
theorem frLit {ds : List Deferred} {a : Act} {N : Nat} {l : List (Nat × Value)} (h : Fr (ds := ds) a N l) : ∃ X : Nat → Value, a = lit ds N X l := by
 obtain ⟨X, e⟩ := _root_.Go.Proofs.YtgjgjimgomhbmaaGreatDoor.Fr.lit (⟨h.size, rfl, frIs_nil h.known⟩ : _root_.Go.Proofs.YtgjgjimgomhbmaaGreatDoor.Fr { a with defers := [] } N l)
 refine ⟨X, ?_⟩
 obtain ⟨tmps, defers⟩ := a
 have hd : defers = ds := h.defers
 have ht : tmps = _ := congrArg Act.tmps e
 subst hd
 rw [ht]
 rfl
section
variable {P : Program} {ops : Array Oper} {Q : Exit → Act → World → Prop} {w0 : World} {a0 : Act} {N : Nat} {val : Nat → List Nat → Value} {adr : Nat → List Nat} {L : (Nat → Bool) → (Nat → Nat) → List Res} {i : Nat} {o : Oper} {ds : List Deferred}
structure AoKn (ds : List Deferred) (ops : Array Oper) (a0 : Act) (N : Nat) (val : Nat → List Nat → Value) (adr : Nat → List Nat) (i : Nat) (g : Nat → Nat) (a : Act) : Prop where
 size : a.tmps.size = N
 defers : a.defers = ds
 inn : ∀ j o d, waitsFor ops i j = true → ops.toList[j]? = some o → o.dst = some d → a.tmps.getD d undef = val j ((adr j).map g)
 out : ∀ k, aoOut ops i k = true → a.tmps.getD k undef = a0.tmps.getD k undef
structure AoFin (ds : List Deferred) (ops : Array Oper) (a0 : Act) (N : Nat) (val : Nat → List Nat → Value) (adr : Nat → List Nat) (g : Nat → Nat) (a : Act) : Prop where
 size : a.tmps.size = N
 defers : a.defers = ds
 inn : ∀ j o d, ops.toList[j]? = some o → o.dst = some d → a.tmps.getD d undef = val j ((adr j).map g)
 out : ∀ k, aoNo ops k = true → a.tmps.getD k undef = a0.tmps.getD k undef
def AoStep (ds : List Deferred) (P : Program) (ops : Array Oper) (Q : Exit → Act → World → Prop) (w0 : World) (a0 : Act) (N : Nat) (val : Nat → List Nat → Value) (adr : Nat → List Nat) (L : (Nat → Bool) → (Nat → Nat) → List Res) (i : Nat) (o : Oper) : Prop :=
 ∀ (b : Nat → Bool) (g : Nat → Nat) (a : Act) (w : World), b i = false → (∀ j, aoReach ops 2 i j = true → b j = true) → (∀ j, aoReach ops 2 j i = true → b j = false) → AoKn ds ops a0 N val adr i g a → Mem w0 w (L b g) →
  wpList P ops (Exit.then (fun a' w' => ∃ γ, a' = a.put o.dst (val i ((adr i).map (upd g i γ))) ∧ Mem w0 w' (L (upd b i true) (upd g i γ))) Q) [o] a w
structure AoSt (ds : List Deferred) (ops : Array Oper) (w0 : World) (a0 : Act) (N : Nat) (val : Nat → List Nat → Value) (adr : Nat → List Nat) (L : (Nat → Bool) → (Nat → Nat) → List Res) (listed : Array Bool) (g : Nat → Nat) (a : Act) (w : World) : Prop where
 size : a.tmps.size = N
 defers : a.defers = ds
 inn : ∀ i o d, ops.toList[i]? = some o → o.dst = some d → listed.getD i true = true → a.tmps.getD d undef = val i ((adr i).map g)
 out : ∀ k, (∀ i o, ops.toList[i]? = some o → listed.getD i true = true → o.dst ≠ some k) → a.tmps.getD k undef = a0.tmps.getD k undef
 mem : Mem w0 w (L (fun i => listed.getD i true) g)
theorem ao_go (hchk : aoCheck ops adr N = true) (hstep : ∀ i o, ops.toList[i]? = some o → AoStep ds P ops Q w0 a0 N val adr L i o)
    (hend : ∀ g a w, AoFin ds ops a0 N val adr g a → Mem w0 w (L (fun _ => true) g) → Q .normal a w) :
    ∀ (m : Nat) (listed : Array Bool) (g : Nat → Nat) (a : Act) (w : World), ((List.range ops.toList.length).filter fun i => !listed.getD i true).length = m → listed.size = ops.size →
      (∀ j p, listed.getD j true = true → waitsFor ops j p = true → listed.getD p true = true) → AoSt ds ops w0 a0 N val adr L listed g a w → wpAny P .any ops Q m listed a w := by
  intro m
  induction m with
  | zero =>
    intro listed g a w hm hsz _ hS
    have hall : ∀ i, listed.getD i true = true := fun i => by
      by_cases hi : i < ops.toList.length
      · have := List.length_eq_zero_iff.1 hm
        rw [List.filter_eq_nil_iff] at this
        simpa using this i (List.mem_range.2 hi)
      · have : listed.size ≤ i := by rw [hsz]; simpa using hi
        simp [this]
    refine ⟨?_, hend g a w ⟨hS.size, hS.defers, fun j o d ho hd => hS.inn j o d ho hd (hall j), fun k hk => hS.out k fun i o ho _ => ?_⟩ ?_⟩
    · apply List.eq_nil_iff_forall_not_mem.2
      intro i hi
      have := (mem_ready.1 hi).1
      rw [hall i] at this
      cases this
    · have h1 := List.all_eq_true.1 hk i (List.mem_range.2 (List.getElem?_eq_some_iff.1 ho).1)
      rw [ho] at h1
      simpa using h1
    · have := hS.mem
      rwa [show (fun i => listed.getD i true) = fun _ => true from funext hall] at this
  | succ m ih =>
    intro listed g a w hm hsz hcl hS
    have hun : ∃ i, i < ops.toList.length ∧ listed.getD i true = false := by
      cases hf : (List.range ops.toList.length).filter fun i => !listed.getD i true with
      | nil => rw [hf] at hm; simp at hm
      | cons i r =>
        have : i ∈ (List.range ops.toList.length).filter fun i => !listed.getD i true := by rw [hf]; exact List.mem_cons_self
        rw [List.mem_filter, List.mem_range] at this
        exact ⟨i, this.1, by simpa using this.2⟩
    refine ⟨fun h0 => ?_, fun i hi => ?_⟩
    · exfalso
      have key : ∀ (n i : Nat), i ≤ n → i < ops.toList.length → listed.getD i true = false → False := by
        intro n
        induction n using Nat.strongRecOn with
        | ind n ihn =>
          intro i hin hil hiu
          obtain ⟨o, ho⟩ : ∃ o, ops.toList[i]? = some o := ⟨ops.toList[i], List.getElem?_eq_getElem hil⟩
          have ho' : ops[i]? = some o := by rw [← ho]; simp
          have hr : i ∈ Region.ready .any ops listed := by
            refine mem_ready.2 ⟨hiu, o, ho', fun e he hb => ?_⟩
            have hlt := (aoChk hchk ho).1 e he hb
            have hlt2 : e.on < listed.size := by rw [hsz]; have : ops.toList.length = ops.size := by simp
                                                 omega
            cases hq : listed.getD e.on true with
            | true => simp [hlt2] at hq ⊢; exact hq
            | false => exact (ihn e.on (by omega) e.on (Nat.le_refl _) (by omega) hq).elim
          rw [h0] at hr
          cases hr
      obtain ⟨i, hi, hiu⟩ := hun
      exact key i i (Nat.le_refl _) hi hiu
    · obtain ⟨hiu, o, ho', hall⟩ := mem_ready.1 hi
      have ho : ops.toList[i]? = some o := by rw [← ho']; simp
      have hil : i < ops.toList.length := (List.getElem?_eq_some_iff.1 ho).1
      have hils : i < listed.size := by rw [hsz]; simpa using hil
      have hpre : ∀ j, waitsFor ops i j = true → listed.getD j true = true := fun j hw => waits_ready hi hw
      obtain ⟨hc1, hc2, hc3⟩ := aoChk hchk ho
      have hne : ∀ j, listed.getD j true = true → j ≠ i := fun j hj e => by rw [e, hiu] at hj; cases hj
      have hK : AoKn ds ops a0 N val adr i g a := ⟨hS.size, hS.defers, fun j o2 d hw ho2 hd => hS.inn j o2 d ho2 hd (hpre j hw), fun k hk => hS.out k fun j o2 ho2 hj => by
        have h1 := List.all_eq_true.1 hk j (List.mem_range.2 (List.getElem?_eq_some_iff.1 ho2).1)
        rw [ho2] at h1
        simp only [Option.map_some, Option.getD_some, Bool.or_eq_true, decide_eq_true_eq, beq_iff_eq] at h1
        rcases h1 with (h1 | h1) | h1
        · exact h1
        · exact (hne j hj h1).elim
        · have := hcl j i hj h1
          rw [hiu] at this
          cases this⟩
      have hpost : ∀ j, aoReach ops 2 j i = true → listed.getD j true = false := fun j hw => by
        cases hj : listed.getD j true with
        | false => rfl
        | true => rw [aoReach_listed hcl 2 j i hj hw] at hiu; cases hiu
      have hpre2 : ∀ j, aoReach ops 2 i j = true → listed.getD j true = true := fun j hw => by
        unfold aoReach at hw
        rw [Bool.or_eq_true] at hw
        rcases hw with hw | hw
        · exact hpre j hw
        · obtain ⟨q, _, h2⟩ := List.any_eq_true.1 hw
          rw [Bool.and_eq_true] at h2
          exact aoReach_listed hcl 1 q j (hpre q h2.1) h2.2
      have h1 := hstep i o ho (fun i => listed.getD i true) g a w hiu hpre2 hpost hK hS.mem
      refine wpOp_mono (fun a' w' h' => ?_) (wpOp_of_list ho' h1)
      obtain ⟨γ, rfl, hM⟩ := h'
      have hb : (fun k => (listed.setIfInBounds i true).getD k true) = upd (fun k => listed.getD k true) i true := by
        funext k
        unfold upd
        by_cases hk : k = i
        · subst hk; simp [hils]
        · rw [if_neg hk, getD_set_ne true (Ne.symm hk)]
      have hcl' : ∀ j p, (listed.setIfInBounds i true).getD j true = true → waitsFor ops j p = true → (listed.setIfInBounds i true).getD p true = true := by
        intro j p hj hw
        by_cases hpi : p = i
        · subst hpi; simp [hils]
        · rw [getD_set_ne true (Ne.symm hpi)]
          by_cases hji : j = i
          · subst hji; exact hpre p hw
          · rw [getD_set_ne true (Ne.symm hji)] at hj; exact hcl j p hj hw
      have hval : ∀ j, j ≠ i → j < ops.toList.length → listed.getD j true = true → (adr j).map (upd g i γ) = (adr j).map g := by
        intro j hji hjl hj
        refine List.map_congr_left fun x hx => ?_
        unfold upd
        rw [if_neg]
        intro e
        obtain ⟨oj, hoj⟩ : ∃ o, ops.toList[j]? = some o := ⟨ops.toList[j], List.getElem?_eq_getElem hjl⟩
        rcases (aoChk hchk hoj).2.2 x hx with h2 | h2
        · exact hji (h2.symm.trans e)
        · have h3 := aoReach_listed hcl 2 j x hj h2
          rw [e, hiu] at h3
          cases h3
      refine ih (listed.setIfInBounds i true) (upd g i γ) _ _ ?_ (by simpa using hsz) hcl' ⟨?_, ?_, ?_, ?_, by rw [hb]; exact hM⟩
      · have hf : ((List.range ops.toList.length).filter fun k => !(listed.setIfInBounds i true).getD k true) = ((List.range ops.toList.length).filter fun k => !listed.getD k true).filter (· != i) := by
          rw [List.filter_filter]
          apply List.filter_congr
          intro k _
          by_cases hk : k = i
          · subst hk; simp [hils]
          · rw [getD_set_ne true (Ne.symm hk)]; simp [hk]
        have hmem : i ∈ (List.range ops.toList.length).filter fun k => !listed.getD k true := List.mem_filter.2 ⟨List.mem_range.2 hil, by rw [hiu]; rfl⟩
        have hnd : ((List.range ops.toList.length).filter fun k => !listed.getD k true).Nodup := List.Pairwise.filter _ List.nodup_range
        rw [hf, ← List.Nodup.erase_eq_filter hnd, List.length_erase_of_mem hmem, hm]
        rfl
      · cases hd : o.dst <;> simp [Act.put, hS.size]
      · cases hd : o.dst <;> simp [Act.put, hS.defers]
      · intro j oj d hoj hd hj
        have hjl := (List.getElem?_eq_some_iff.1 hoj).1
        by_cases hji : j = i
        · subst hji
          obtain rfl : oj = o := Option.some.inj (hoj.symm.trans ho)
          rw [hd, getD_put_same (by rw [hS.size]; exact (hc2 d hd).1)]
        · have hj' : listed.getD j true = true := by rwa [getD_set_ne true (Ne.symm hji)] at hj
          rw [hval j hji hjl hj', ← hS.inn j oj d hoj hd hj']
          cases hd2 : o.dst with
          | none => rfl
          | some d2 =>
            refine getD_put_other fun e => ?_
            subst e
            exact (hc2 d2 hd2).2 j oj hji hoj hd
      · intro k hk
        have h2 : ∀ j oj, ops.toList[j]? = some oj → listed.getD j true = true → oj.dst ≠ some k := fun j oj hoj hj => hk j oj hoj (by rw [getD_set_ne true (Ne.symm (hne j hj))]; exact hj)
        rw [← hS.out k h2]
        cases hd2 : o.dst with
        | none => rfl
        | some d2 =>
          refine getD_put_other fun e => ?_
          subst e
          exact hk i o ho (by simp [hils]) hd2
def AoFrom (ds : List Deferred) (P : Program) (ops : Array Oper) (Q : Exit → Act → World → Prop) (w0 : World) (a0 : Act) (N : Nat) (val : Nat → List Nat → Value) (adr : Nat → List Nat) (L : (Nat → Bool) → (Nat → Nat) → List Res) (i : Nat) : Prop :=
 ∀ j o, i ≤ j → ops.toList[j]? = some o → AoStep ds P ops Q w0 a0 N val adr L j o
theorem aoNext {i : Nat} {o : Oper} (hi : ops.toList[i]? = some o) (h : AoStep ds P ops Q w0 a0 N val adr L i o) (hr : AoFrom ds P ops Q w0 a0 N val adr L (i + 1)) : AoFrom ds P ops Q w0 a0 N val adr L i := by
 intro j oj hj hoj
 by_cases h2 : j = i
 ·subst h2
  obtain rfl : oj = o := Option.some.inj (hoj.symm.trans hi)
  exact h
 ·exact hr j oj (by omega) hoj
theorem aoDone {i : Nat} (hi : ops.toList.length ≤ i) : AoFrom ds P ops Q w0 a0 N val adr L i := by
 intro j oj hj hoj
 have := (List.getElem?_eq_some_iff.1 hoj).1
 omega
theorem aoStart {id : Nat} {X : Nat → Value} {l : List (Nat × Value)} {w : World} {L0 : List Res} (val : Nat → List Nat → Value) (adr : Nat → List Nat) (L : (Nat → Bool) → (Nat → Nat) → List Res) (hm : Mem w0 w L0) (hmode : P.follows .mixedOrders = true)
 (hchk : aoCheck ops adr N = true) (hL : ∀ w', Mem w0 w' L0 → Mem w0 w' (L (fun _ => false) (fun _ => 0)))
 (hLb : ∀ (b : Nat → Bool) g, (∀ i, i < ops.toList.length → b i = false) → L b g = L (fun _ => false) g)
 (hstep : AoFrom ds P ops Q w0 (lit ds N X l) N val adr L 0)
 (hend : ∀ g a w, AoFin ds ops (lit ds N X l) N val adr g a → Mem w0 w (L (fun _ => true) g) → Q .normal a w) : (Code.region id ops true).wp P Q (lit ds N X l) w := by
 refine wp_region_any hmode ?_
 have hlen : ops.toList.length = ops.size := by simp
 have hrep : ∀ i, i < ops.toList.length → (Array.replicate ops.size false).getD i true = false := fun i hi => by simp [hlen ▸ hi]
 refine ao_go hchk (fun i o ho => hstep i o (Nat.zero_le _) ho) hend ops.size _ (fun _ => 0) _ _ ?_ (by simp) ?_ ⟨litSize, rfl, ?_, ?_, ?_⟩
 ·rw [List.filter_eq_self.2 (fun i hi => by rw [hrep i (List.mem_range.1 hi)]; rfl)]
  simp
 ·intro j p hj hw
  exfalso
  by_cases hl : j < ops.toList.length
  ·rw [hrep j hl] at hj; cases hj
  ·unfold waitsFor at hw
   rw [List.getElem?_eq_none (by omega)] at hw
   cases hw
 ·intro i o d hi _ hli
  rw [hrep i (List.getElem?_eq_some_iff.1 hi).1] at hli
  cases hli
 ·intro k _
  rfl
 ·rw [hLb _ _ hrep]
  exact hL _ hm.drew
theorem aoVal (li : (Nat → Nat) → List (Nat × Value)) (hfr : ∀ g a, AoKn ds ops a0 N val adr i g a → FrIs a (li g))
 (hw : ∀ g X, Region.wanted o (yielded ops (lit ds N X (li g)).tmps) = true) (hL : ∀ b g, L (upd b i true) g = L b g)
 (hr : ∀ b g X w, AoB ops i b → Mem w0 w (L b g) → (execOp (lit ds N X (li g)).eval o).run P w = .ok (.value (val i ((adr i).map g))) w) : AoStep ds P ops Q w0 a0 N val adr L i o := by
 intro b g a w hb hp hp2 hk hm
 obtain ⟨X, rfl⟩ := frLit (⟨hk.size, hk.defers, hfr g a hk⟩ : Fr a N (li g))
 refine opVal (hw g X) (hr b g X w ⟨hb, hp, hp2⟩ hm) ⟨g i, ?_, ?_⟩
 ·rw [upd_self]
 ·rw [upd_self, hL]; exact hm
theorem aoStore {x y : Operand} {ty : TypeId} {n k : Nat} {z : Array Value} {gb : (Nat → Nat) → Nat} {cur vs : (Nat → Nat) → List Value} {t : TypeId} (j : Nat) (li : (Nat → Nat) → List (Nat × Value)) (hfr : ∀ g a, AoKn ds ops a0 N val adr i g a → FrIs a (li g)) (T : AgTy P ty z n) (hj : ∀ b g, AoB ops i b → (L b g)[j]? = some (.arr (gb g) t (cur g)))
 (hw : ∀ g X, Region.wanted o (yielded ops (lit ds N X (li g)).tmps) = true) (ho : o.op = .store ty x y) (hx : ∀ g X, (lit ds N X (li g)).eval x = .pointer (some ⟨gb g, k, none⟩)) (hy : ∀ g X, (lit ds N X (li g)).eval y = .agg (vs g).toArray)
 (hs : ∀ g, (decide (k + n ≤ (cur g).length)) = true) (hl : ∀ g, (vs g).length = n) (h1 : ∀ g, ((vs g).all fun u => u.oneCell') = true) (hL : ∀ b g, AoB ops i b → L (upd b i true) g = (L b g).set j (.arr (gb g) t (spl (cur g) k (vs g)))) (hd : o.dst = none) : AoStep ds P ops Q w0 a0 N val adr L i o := by
 intro b g a w hb hp hp2 hk hm
 obtain ⟨X, rfl⟩ := frLit (⟨hk.size, hk.defers, hfr g a hk⟩ : Fr a N (li g))
 have hj' := hj b g ⟨hb, hp, hp2⟩
 refine stMidG x y (vs g) T (hw g X) ho (hx g X) (hy g X) (hm.arr j hj') (hl g) (of_decide_eq_true (hs g)) (fun u hu => List.all_eq_true.1 (h1 g) u hu) fun w' hA hG => ⟨g i, ?_, ?_⟩
 ·rw [hd]; rfl
 ·rw [upd_self, hL b g ⟨hb, hp, hp2⟩]; exact hm.set j hj' hA hG
theorem aoStore1 {x y : Operand} {ty : TypeId} {k : Nat} {gb : (Nat → Nat) → Nat} {cur : (Nat → Nat) → List Value} {v v0 : (Nat → Nat) → Value} {t : TypeId} (j : Nat) (li : (Nat → Nat) → List (Nat × Value)) (hfr : ∀ g a, AoKn ds ops a0 N val adr i g a → FrIs a (li g)) (hsz : (P.info? ty).map (·.size) = some 1) (hj : ∀ b g, AoB ops i b → (L b g)[j]? = some (.arr (gb g) t (cur g)))
 (hw : ∀ g X, Region.wanted o (yielded ops (lit ds N X (li g)).tmps) = true) (ho : o.op = .store ty x y) (hx : ∀ g X, (lit ds N X (li g)).eval x = .pointer (some ⟨gb g, k, none⟩)) (hy : ∀ g X, (lit ds N X (li g)).eval y = v g)
 (hk : ∀ g, (cur g)[k]? = some (v0 g)) (hv : ∀ g, (v g).cells = #[v g]) (h1 : ∀ g, (v g).oneCell' = true) (hL : ∀ b g, AoB ops i b → L (upd b i true) g = (L b g).set j (.arr (gb g) t ((cur g).set k (v g)))) (hd : o.dst = none) : AoStep ds P ops Q w0 a0 N val adr L i o := by
 intro b g a w hb hp hp2 hkn hm
 obtain ⟨X, rfl⟩ := frLit (⟨hkn.size, hkn.defers, hfr g a hkn⟩ : Fr a N (li g))
 have hj' := hj b g ⟨hb, hp, hp2⟩
 refine stCellG x y hsz (hw g X) ho (hx g X) (hy g X) (hm.arr j hj') (hk g) (hv g) (h1 g) fun w' hA hG => ⟨g i, ?_, ?_⟩
 ·rw [hd]; rfl
 ·rw [upd_self, hL b g ⟨hb, hp, hp2⟩]; exact hm.set j hj' hA hG
end
end LD
theorem need_ok (w : World) : Calls Tryz.prog 43 #[.int .i64 0] w (RetV w (.tuple #[])) := by
 have hm0 := Mem.nil w
 go_enter Tryz.func43, Tryz.ntmps43
 refine litStart 6 [(0, .int .i64 0)] kr_ (fun X0 => ?_)
 refine wp_seq_k fun K1 hK1 => ?_
 refine plStart ?_
 refine lk_ (.int .i64 0) ?_
 refine lk_ (.bool false) ?_
 refine plD ?_
 refine tn_ hK1 ?_
 refine wp_cond_false le_ ?_
 refine wp_skip ?_
 refine bodyPost_end (v := .tuple #[]) (gRes0 rfl ) rfl ?_
 exact ⟨by rfl, hm0.bel⟩
theorem need_okE (e : Int) (h : e = 0) (w : World) : Calls Tryz.prog 43 #[.int .i64 e] w (RetV w (.tuple #[])) := by subst h; exact need_ok w
theorem need_pan (e : Int) (h : ¬ e = 0) (w : World) : Calls Tryz.prog 43 #[.int .i64 e] w (fun x w' => x = .panicked [{ v := .iface 30 (.int .i64 e), recovered := false }] ∧ Below w.heap.size w w') := by
 have hm0 := Mem.nil w
 go_enter Tryz.func43, Tryz.ntmps43
 refine litStart 6 [(0, .int .i64 e)] kr_ (fun X0 => ?_)
 refine wp_seq_k fun K1 hK1 => ?_
 refine plStart ?_
 refine lk_ (.int .i64 e) ?_
 refine litVal (v := .bool true) rfl (wn rfl) (boolTo (by rw [decide_eq_false h]; rfl) (neqRun (A := e) (B := 0) (.tmp 2) (.const (.int .i64 0)) rfl le_ le_)) rfl (by decide) ?_
 refine plD ?_
 refine tn_ hK1 ?_
 refine wp_cond_true le_ ?_
 refine plStart ?_
 refine lk_ (.int .i64 e) ?_
 refine lk_ (.iface 30 (.int .i64 e)) ?_
 refine plPanic (i := 2) (v := .iface 30 (.int .i64 e)) rfl (wn rfl) (litRun kr_) ?_
 exact ⟨rfl, rfl, hm0.bel⟩
theorem dec1_idle (g2 g3 : Nat) (w : World) : CallsD Tryz.prog 41 #[.pointer (some ⟨g2, 0, none⟩), .pointer (some ⟨g3, 0, none⟩)] .returning w fun e u' w' => e = .returned (.tuple #[]) ∧ u' = .returning ∧ w' = w := by
 refine callsD_of_wpS Tryz.func41 rfl fun c₀ cs hu => ?_
 apply wpS_seq
 apply wpS_region
 simp [wpOpsS, go_sem, recoverD, hu, Tryz.ntmps41, Exit.thenS]
 apply wpS_seq
 apply wpS_region
 simp [wpOpsS, go_sem, Exit.thenS, Array.replicate]
 refine wpS_cond (t := false) (by simp [Act.eval, Array.replicate]) ?_
 simp only [Bool.false_eq_true, if_false]
 refine wpS_of_wp (wp_skip ?_)
 cases c₀
 simp_all [bodyPostS, results, Tryz.results41]
theorem dec1_pan (g2 g3 : Nat) (t : Int) (A : Option Addr) (n c : Nat) (dp : Int) (B : Option Addr) (m d : Nat) (v pv : Int) (M : List Res) (w0 w : World) (hm0 : Mem w0 w (.arr g2 25 [.int .i64 t, .slice A n c, .int .i64 dp, .slice B m d] :: .arr g3 30 [.int .i64 v] :: M)) :
 CallsD Tryz.prog 41 #[.pointer (some ⟨g2, 0, none⟩), .pointer (some ⟨g3, 0, none⟩)] (.panicking [{ v := .iface 30 (.int .i64 pv), recovered := false }]) w fun e u' w' => e = .returned (.tuple #[]) ∧ u' = .panicking [{ v := .iface 30 (.int .i64 pv), recovered := true }] ∧ Mem w0 w' (.arr g2 25 [.int .i64 0, .slice none 0 0, .int .i64 0, .slice none 0 0] :: .arr g3 30 [.int .i64 pv] :: M) := by
 refine callsD_of_wpS Tryz.func41 rfl fun c₀ cs hu => ?_
 apply wpS_seq
 apply wpS_region
 simp [wpOpsS, go_sem, recoverD, hu, Tryz.ntmps41, Exit.thenS]
 apply wpS_seq
 apply wpS_region
 simp [wpOpsS, go_sem, Exit.thenS, Array.replicate]
 refine wpS_cond (t := true) (by simp [Act.eval, Array.replicate]) ?_
 simp only [if_true]
 refine wpS_of_wp ?_
 refine litStart 9 [(0, .pointer (some ⟨g2, 0, none⟩)), (1, .pointer (some ⟨g3, 0, none⟩)), (2, .iface 30 (.int .i64 pv)), (3, .iface 30 (.int .i64 pv)), (4, .iface 30 (.int .i64 pv)), (5, .bool true)] kr_ (fun X0 => ?_)
 refine aoStart (aoV [fun _ => .agg ([.int .i64 0, .slice none 0 0, .int .i64 0, .slice none 0 0]).toArray, fun _ => .iface 30 (.int .i64 pv), fun _ => .int .i64 pv, fun _ => undef, fun _ => undef]) (aoA [[], [], [], [], []]) (fun b_ g_ => ((.arr g2 25 (bsel (b_ 3) [.int .i64 0, .slice none 0 0, .int .i64 0, .slice none 0 0] [.int .i64 t, .slice A n c, .int .i64 dp, .slice B m d])) :: (.arr g3 30 (bsel (b_ 4) [.int .i64 pv] [.int .i64 v])) :: M)) hm0 kr_ kr_ (fun w_ h_ => h_) (fun b_ g_ h_ => by show (fun (x3_ x4_ : Bool) => (((.arr g2 25 (bsel x3_ [.int .i64 0, .slice none 0 0, .int .i64 0, .slice none 0 0] [.int .i64 t, .slice A n c, .int .i64 dp, .slice B m d])) :: (.arr g3 30 (bsel x4_ [.int .i64 pv] [.int .i64 v])) :: M) : List Res)) (b_ 3) (b_ 4) = _; rw [h_ 3 (by decide), h_ 4 (by decide)]) ?_ ?_
 ·refine aoNext rfl (aoVal (fun g_ => []) (fun _ _ _ => trivial) (fun g_ X_ => (wn rfl)) (fun b_ g_ => by kernel_rfl) (fun b_ g_ X_ w_ h_b h_ => valTo (b := .agg ([.int .i64 0, .slice none 0 0, .int .i64 0, .slice none 0 0]).toArray) kr_ (litRun kr_))) ?_
  refine aoNext rfl (aoVal (fun g_ => [(2, .iface 30 (.int .i64 pv))]) (fun g_ a_ h_k => ⟨(h_k.out 2 kr_).trans (lg_), trivial⟩) (fun g_ X_ => (wn rfl)) (fun b_ g_ => by kernel_rfl) (fun b_ g_ X_ w_ h_b h_ => valTo (b := .iface 30 (.int .i64 pv)) kr_ (litRun kr_))) ?_
  refine aoNext rfl (aoVal (fun g_ => [(7, .iface 30 (.int .i64 pv))]) (fun g_ a_ h_k => ⟨(h_k.inn 1 _ _ kr_ rfl rfl).trans kr_, trivial⟩) (fun g_ X_ => (wn rfl)) (fun b_ g_ => by kernel_rfl) (fun b_ g_ X_ w_ h_b h_ => valTo (b := .int .i64 pv) kr_ (litRun kr_))) ?_
  refine aoNext rfl (aoStore (gb := fun g_ => g2) (k := 0) (cur := fun g_ => [.int .i64 t, .slice A n c, .int .i64 dp, .slice B m d]) (vs := fun g_ => [.int .i64 0, .slice none 0 0, .int .i64 0, .slice none 0 0]) 0 (fun g_ => [(0, .pointer (some ⟨g2, 0, none⟩)), (6, .agg ([.int .i64 0, .slice none 0 0, .int .i64 0, .slice none 0 0]).toArray)]) (fun g_ a_ h_k => ⟨(h_k.out 0 kr_).trans (lg_), (h_k.inn 0 _ _ kr_ rfl rfl).trans kr_, trivial⟩) Ty.ag_voxel_api_Header (fun b_ g_ h_b => by show some (Res.arr g2 25 (bsel (b_ 3) [.int .i64 0, .slice none 0 0, .int .i64 0, .slice none 0 0] [.int .i64 t, .slice A n c, .int .i64 dp, .slice B m d])) = some (Res.arr g2 25 ([.int .i64 t, .slice A n c, .int .i64 dp, .slice B m d])); rw [bselF h_b.no]) (fun g_ X_ => (wn rfl)) rfl (fun g_ X_ => litEv kr_) (fun g_ X_ => litEv kr_) (fun _ => by kernel_rfl) (fun _ => by kernel_rfl) (fun _ => by kernel_rfl) (fun b_ g_ h_b => by kernel_rfl) rfl) ?_
  refine aoNext rfl (aoStore1 (gb := fun g_ => g3) (k := 0) (cur := fun g_ => [.int .i64 v]) (v := fun g_ => .int .i64 pv) (v0 := fun g_ => .int .i64 v) 1 (fun g_ => [(1, .pointer (some ⟨g3, 0, none⟩)), (8, .int .i64 pv)]) (fun g_ a_ h_k => ⟨(h_k.out 1 kr_).trans (lg_), (h_k.inn 2 _ _ kr_ rfl rfl).trans kr_, trivial⟩) kr_ (fun b_ g_ h_b => by show some (Res.arr g3 30 (bsel (b_ 4) [.int .i64 pv] [.int .i64 v])) = some (Res.arr g3 30 ([.int .i64 v])); rw [bselF h_b.no]) (fun g_ X_ => (wn rfl)) rfl (fun g_ X_ => litEv kr_) (fun g_ X_ => litEv kr_) (fun _ => rfl) (fun _ => rfl) (fun _ => rfl) (fun b_ g_ h_b => by kernel_rfl) rfl) ?_
  exact aoDone (by decide)
 intro g_ a_ w2 hF_ hm1
 obtain ⟨X3, rfl⟩ := frLit (⟨hF_.size, hF_.defers, ⟨(hF_.inn 0 _ _ rfl rfl).trans kr_, (hF_.inn 1 _ _ rfl rfl).trans kr_, (hF_.inn 2 _ _ rfl rfl).trans kr_, trivial⟩⟩ : Fr _ 9 [(6, .agg ([.int .i64 0, .slice none 0 0, .int .i64 0, .slice none 0 0]).toArray), (7, .iface 30 (.int .i64 pv)), (8, .int .i64 pv)])
 clear hF_
 have hm4 : Mem w0 w2 ((.arr g2 25 ([.int .i64 0, .slice none 0 0, .int .i64 0, .slice none 0 0])) :: (.arr g3 30 ([.int .i64 pv])) :: M) := hm1
 clear hm1 hm0
 exact ⟨rfl, _, rfl, _, gRes0 rfl, rfl, rfl, hm4⟩
namespace LD
abbrev decDef (g2 g3 : Nat) : Deferred := { target := .fn (.func 41) #[.pointer (some ⟨g2, 0, none⟩), .pointer (some ⟨g3, 0, none⟩)], args := #[] }
section
variable {fn : Func} {R : Ending → World → Prop} {N : Nat} {X : Nat → Value} {l : List (Nat × Value)} {w0 w : World} {g2 g3 n c m d : Nat} {t dp v pv : Int} {A B : Option Addr} {M : List Res}
theorem decLeave (hres : fn.results = #[.cell 2 25, .cell 3 30]) (hm : Mem w0 w (.arr g2 25 [.int .i64 t, .slice A n c, .int .i64 dp, .slice B m d] :: .arr g3 30 [.int .i64 v] :: M)) (h2 : litEval N X l (.tmp 2) = .pointer (some ⟨g2, 0, none⟩)) (h3 : litEval N X l (.tmp 3) = .pointer (some ⟨g3, 0, none⟩))
 (hR : R (.returned (.tuple #[.agg [.int .i64 t, .slice A n c, .int .i64 dp, .slice B m d].toArray, .int .i64 v])) w) : bodyPostD Tryz.prog fn R .ret (lit [decDef g2 g3] N X l) w := by
 refine leaves_cons (f := 41) (args := #[.pointer (some ⟨g2, 0, none⟩), .pointer (some ⟨g3, 0, none⟩)]) (by simp) (by simp [go_sem]) ?_
 refine (dec1_idle g2 g3 w).mono ?_
 rintro e u' w'' ⟨rfl, rfl, rfl⟩
 exact ⟨_, gRes2 hres (gResAg 0 hm rfl Ty.ag_voxel_api_Header rfl (litGet h2)) (gResCell 1 hm rfl rfl kr_ (litGet h3)), hR⟩
theorem decLeaveP (hres : fn.results = #[.cell 2 25, .cell 3 30]) (hm : Mem w0 w (.arr g2 25 [.int .i64 t, .slice A n c, .int .i64 dp, .slice B m d] :: .arr g3 30 [.int .i64 v] :: M)) (h2 : litEval N X l (.tmp 2) = .pointer (some ⟨g2, 0, none⟩)) (h3 : litEval N X l (.tmp 3) = .pointer (some ⟨g3, 0, none⟩))
 (hR : ∀ w', Mem w0 w' (.arr g2 25 [.int .i64 0, .slice none 0 0, .int .i64 0, .slice none 0 0] :: .arr g3 30 [.int .i64 pv] :: M) → R (.returned (.tuple #[.agg [.int .i64 0, .slice none 0 0, .int .i64 0, .slice none 0 0].toArray, .int .i64 pv])) w') :
 bodyPostD Tryz.prog fn R (.panic [{ v := .iface 30 (.int .i64 pv), recovered := false }]) (lit [decDef g2 g3] N X l) w := by
 refine leaves_cons (f := 41) (args := #[.pointer (some ⟨g2, 0, none⟩), .pointer (some ⟨g3, 0, none⟩)]) (by simp) (by simp [go_sem]) ?_
 refine (dec1_pan g2 g3 t A n c dp B m d v pv M w0 w hm).mono ?_
 rintro e u' w'' ⟨rfl, rfl, hm2⟩
 exact ⟨_, gRes2 hres (gResAg 0 hm2 rfl Ty.ag_voxel_api_Header rfl (litGet h2)) (gResCell 1 hm2 rfl rfl kr_ (litGet h3)), hR w'' hm2⟩
end
theorem decode_any (l : List UInt8) (A : Option Addr) (c : Nat) (w : World) (hr : Rd w w.heap.size 1 A l.length c (bcs l)) (hl : l.length ≤ 1000000) : Calls Tryz.prog 12 #[.slice A l.length c] w (fun e w' => ∃ A c B d, e = .returned (.tuple #[.agg (hcs (decH l).1 A c B d).toArray, .int .i64 (decH l).2]) ∧ Rd w' w'.heap.size 1 A (decH l).1.counts.length c (ics (decH l).1.counts) ∧ Rd w' w'.heap.size 16 B (decH l).1.rn d (bcs (decH l).1.D) ∧ NewA w.heap.size A ∧ NewA w.heap.size B ∧ Below w.heap.size w w') := by
 have hm0 := Mem.nil w
 go_enter_defers Tryz.func12, Tryz.ntmps12
 refine litStart (ds := []) 61 [(0, .slice A l.length c)] kr_ (fun X0 => ?_)
 refine wp_seq_k fun K1 hK1 => ?_
 refine plStart ?_
 refine plAlloc (z := [.int .i64 0, .slice none 0 0, .int .i64 0, .slice none 0 0]) Ty.ag_voxel_api_Header hm0 (i := 0) rfl (wn rfl) rfl ?_
 intro g2 w4 hm3
 clear hm0
 try simp only [lc1_, lc2_, lc3_, lc4_] at hm3
 refine qP rfl ?_
 refine plAlloc1 (v := .int .i64 0) kr_ hm3 (i := 1) rfl (wn rfl) rfl ?_
 intro g5 w7 hm6
 clear hm3
 try simp only [lc1_, lc2_, lc3_, lc4_] at hm6
 refine qP rfl ?_
 refine plD ?_
 refine tn_ hK1 ?_
 refine wp_seq_k fun K8 hK8 => ?_
 refine plStart ?_
 refine lk (v := .func (.func 41) #[] #[.pointer (some ⟨g2, 0, none⟩), .pointer (some ⟨g5, 0, none⟩)]) rfl rfl rfl ?_
 refine plDefer (i := 1) (d := decDef g2 g5) rfl (wn rfl) (litRun kr_) rfl ?_
 refine plD ?_
 refine tn_ hK8 ?_
 refine wp_seq_k fun K9 hK9 => ?_
 refine plStart ?_
 refine lk (v := .slice A l.length c) rfl rfl rfl ?_
 obtain ⟨a, ua, ea, hda⟩ : ∃ r_ u_ e_, decI l = (r_, u_, e_) := ⟨_, _, _, rfl⟩
 refine plCall (i := 1) 42 [.slice A l.length c] [] [] rfl kr_ (wn rfl) rfl (litEv kr_) (litArgs kr_) (by have h_ := getInts_any l A l.length c _ w7 ((Rd.below hr hm6.bel).more hm6.bel.size) (Nat.le_refl _) (by first | omega | (simp only [List.length_drop]; omega)); rw [hda] at h_; exact h_) ?_
 rintro e w10 ⟨v12, n_, rfl, hown_, hbz⟩
 have hn_ : a.length = n_ * 1 := by have q_ := hown_.1; rw [List.length_map] at q_; exact q_
 obtain rfl : n_ = a.length := by omega
 obtain ⟨A13, c14, rfl, hrd_⟩ := Rd.of_own hown_
 clear hrd_ hn_
 replace hown_ : World.ownsRow w10 _ 3 1 _ a.length (ics a) := hown_
 have hm11 := hm6.newRow hbz hown_
 clear hown_ hbz hm6
 try simp only [lc1_, lc2_, lc3_, lc4_] at hm11
 refine ⟨_, rfl, ?_⟩
 refine qP rfl ?_
 refine lk (v := .tuple #[.slice A13 a.length c14, .int .i64 ua, .int .i64 ea]) rfl rfl rfl ?_
 refine lk (v := .slice A13 a.length c14) rfl rfl rfl ?_
 refine lk (v := .int .i64 ua) rfl rfl rfl ?_
 refine lk (v := .int .i64 ea) rfl rfl rfl ?_
 refine lk (v := .slice A13 a.length c14) rfl rfl rfl ?_
 refine lk (v := .int .i64 ua) rfl rfl rfl ?_
 refine lk (v := .int .i64 ea) rfl rfl rfl ?_
 refine plD ?_
 refine tn_ hK9 ?_
 refine wp_seq_k fun K15 hK15 => ?_
 refine plStart ?_
 refine lk (v := .int .i64 ea) rfl rfl rfl ?_
 by_cases h16 : ea = 0
 ·subst h16
  have hca_ := decI_canon hda
  refine plCall (i := 1) 43 [.int .i64 0] [] [] rfl kr_ (wn rfl) rfl (litEv kr_) (litArgs kr_) ((need_okE 0 rfl _)) ?_
  rintro e w17 ⟨rfl, hbz⟩
  have hm18 := hm11.below hbz
  clear hbz hm11
  refine ⟨_, rfl, ?_⟩
  refine qP rfl ?_
  refine plD ?_
  refine tn_ hK15 ?_
  refine wp_seq_k fun K19 hK19 => ?_
  refine wp_seq_k fun K20 hK20 => ?_
  refine plStart ?_
  refine lk (v := .slice A13 a.length c14) rfl rfl rfl ?_
  refine litVal (v := .int .i64 (a.length : Int)) rfl (wn rfl) (lenSlRun (A := A13) (n := a.length) (c := c14) (.tmp 16) Ty.und_L_int rfl (litEv kr_)) rfl (by decide) ?_
  by_cases h21 : (a.length : Int) = 2
  ·have h2_ := h21
   obtain ⟨x, hx⟩ : ∃ x, a[0]? = some x := ⟨_, List.getElem?_eq_getElem (by omega)⟩
   obtain ⟨y, hy⟩ : ∃ y, a[1]? = some y := ⟨_, List.getElem?_eq_getElem (by omega)⟩
   have hyb_ := decI_i64 hda y (List.mem_of_getElem? hy)
   unfold isI64 at hyb_
   obtain ⟨b22, rfl⟩ := hm18.rowBlk (A := A13) (n := a.length) (c := c14) 2 rfl (by omega)
   refine litVal (v := .bool false) rfl (wn rfl) (boolTo (by rw [decide_eq_true h21]; rfl) (neqRun (A := (a.length : Int)) (B := 2) (.tmp 17) (.const (.int .i64 2)) rfl (litEv kr_) (litEv kr_))) rfl (by decide) ?_
   refine plD ?_
   refine tn_ hK20 ?_
   refine wp_cond_false (litEv kr_) ?_
   refine wp_skip ?_
   refine tn_ hK19 ?_
   refine wp_seq_k fun K23 hK23 => ?_
   obtain ⟨A1, hr1, hs_A1⟩ := sliceL_eq (V := ua.toNat) Ty.sl_L_uint8 hr (by omega)
   rw [Nat.mul_one, show (bcs l).drop (ua.toNat) = bcs (l.drop (ua.toNat)) from List.map_drop.symm, show l.length - (ua.toNat) = (l.drop (ua.toNat)).length from List.length_drop.symm] at hr1
   rw [show l.length - (ua.toNat) = (l.drop (ua.toNat)).length from List.length_drop.symm] at hs_A1
   refine aoStart (aoV [fun _ => .slice (some ⟨b22, 0, none⟩) a.length c14, fun _ => .pointer (some ⟨b22, 0 + 0 * 1, none⟩), fun _ => .int .i64 x, fun _ => .slice (some ⟨b22, 0, none⟩) a.length c14, fun _ => .pointer (some ⟨b22, 0 + 1 * 1, none⟩), fun _ => .int .i64 y, fun _ => .slice A l.length c, fun _ => .int .i64 ua, fun _ => .slice A1 ((l.drop (ua.toNat)).length) (c - (ua.toNat)), fun _ => .pointer (some ⟨g2, 0, none⟩), fun _ => undef, fun _ => .pointer (some ⟨g2, 2, none⟩), fun _ => undef, fun _ => .slice A1 ((l.drop (ua.toNat)).length) (c - (ua.toNat))]) (aoA [[], [], [], [], [], [], [], [], [], [], [], [], [], []]) (fun b_ g_ => ((.arr g2 25 (bsel (b_ 12) [.int .i64 x, .slice none 0 0, .int .i64 y, .slice none 0 0] (bsel (b_ 10) [.int .i64 x, .slice none 0 0, .int .i64 0, .slice none 0 0] [.int .i64 0, .slice none 0 0, .int .i64 0, .slice none 0 0]))) :: (.arr g5 30 ([.int .i64 0])) :: (.row (.slice (some ⟨b22, 0, none⟩) a.length c14) 3 1 a.length (ics a)) :: [])) hm18 kr_ kr_ (fun w_ h_ => h_) (fun b_ g_ h_ => by show (fun (x10_ x12_ : Bool) => (((.arr g2 25 (bsel x12_ [.int .i64 x, .slice none 0 0, .int .i64 y, .slice none 0 0] (bsel x10_ [.int .i64 x, .slice none 0 0, .int .i64 0, .slice none 0 0] [.int .i64 0, .slice none 0 0, .int .i64 0, .slice none 0 0]))) :: (.arr g5 30 ([.int .i64 0])) :: (.row (.slice (some ⟨b22, 0, none⟩) a.length c14) 3 1 a.length (ics a)) :: []) : List Res)) (b_ 10) (b_ 12) = _; rw [h_ 10 (by decide), h_ 12 (by decide)]) ?_ ?_
   ·refine aoNext rfl (aoVal (fun g_ => [(4, .slice (some ⟨b22, 0, none⟩) a.length c14)]) (fun g_ a_ h_k => ⟨(h_k.out 4 kr_).trans (litGet kr_), trivial⟩) (fun g_ X_ => (wn rfl)) (fun b_ g_ => by kernel_rfl) (fun b_ g_ X_ w_ h_b h_ => valTo (b := .slice (some ⟨b22, 0, none⟩) a.length c14) kr_ (litRun kr_))) ?_
    refine aoNext rfl (aoVal (fun g_ => [(20, .slice (some ⟨b22, 0, none⟩) a.length c14)]) (fun g_ a_ h_k => ⟨(h_k.inn 0 _ _ kr_ rfl rfl).trans kr_, trivial⟩) (fun g_ X_ => (wn rfl)) (fun b_ g_ => by kernel_rfl) (fun b_ g_ X_ w_ h_b h_ => valTo (b := .pointer (some ⟨b22, 0 + 0 * 1, none⟩)) kr_ (gIaSl (b := b22) (off := 0) (n := a.length) (c := c14) (kk := .i64) (K := 0) (.tmp 20) (.const (.int .i64 0)) 0 Ty.sl_L_int rfl (litEv kr_) (litEv kr_) (rfl) (by omega)))) ?_
    refine aoNext rfl (aoVal (fun g_ => [(21, .pointer (some ⟨b22, 0 + 0 * 1, none⟩))]) (fun g_ a_ h_k => ⟨(h_k.inn 1 _ _ kr_ rfl rfl).trans kr_, trivial⟩) (fun g_ X_ => (wn rfl)) (fun b_ g_ => by kernel_rfl) (fun b_ g_ X_ w_ h_b h_ => valTo (b := .int .i64 x) kr_ ((fun (h_ : Mem _ w_ ((.arr g2 25 ([.int .i64 0, .slice none 0 0, .int .i64 0, .slice none 0 0])) :: (.arr g5 30 ([.int .i64 0])) :: (.row (.slice (some ⟨b22, 0, none⟩) a.length c14) 3 1 a.length (ics a)) :: [])) => gLoadRd (v := .int .i64 x) (m := 0 * 1) (h_.rdRow 2 rfl) rfl (ics_at hx) (by omega) (.tmp 21) kr_ rfl (litEv kr_)) (by have h2_ : Mem w w_ ((.arr g2 25 (bsel (b_ 12) [.int .i64 x, .slice none 0 0, .int .i64 y, .slice none 0 0] (bsel (b_ 10) [.int .i64 x, .slice none 0 0, .int .i64 0, .slice none 0 0] [.int .i64 0, .slice none 0 0, .int .i64 0, .slice none 0 0]))) :: (.arr g5 30 ([.int .i64 0])) :: (.row (.slice (some ⟨b22, 0, none⟩) a.length c14) 3 1 a.length (ics a)) :: []) := h_; rw [bselF (h_b.post 12 kr_), bselF (h_b.post 10 kr_)] at h2_; exact h2_)))) ?_
    refine aoNext rfl (aoVal (fun g_ => [(4, .slice (some ⟨b22, 0, none⟩) a.length c14)]) (fun g_ a_ h_k => ⟨(h_k.out 4 kr_).trans (litGet kr_), trivial⟩) (fun g_ X_ => (wn rfl)) (fun b_ g_ => by kernel_rfl) (fun b_ g_ X_ w_ h_b h_ => valTo (b := .slice (some ⟨b22, 0, none⟩) a.length c14) kr_ (litRun kr_))) ?_
    refine aoNext rfl (aoVal (fun g_ => [(23, .slice (some ⟨b22, 0, none⟩) a.length c14)]) (fun g_ a_ h_k => ⟨(h_k.inn 3 _ _ kr_ rfl rfl).trans kr_, trivial⟩) (fun g_ X_ => (wn rfl)) (fun b_ g_ => by kernel_rfl) (fun b_ g_ X_ w_ h_b h_ => valTo (b := .pointer (some ⟨b22, 0 + 1 * 1, none⟩)) kr_ (gIaSl (b := b22) (off := 0) (n := a.length) (c := c14) (kk := .i64) (K := 1) (.tmp 23) (.const (.int .i64 1)) 1 Ty.sl_L_int rfl (litEv kr_) (litEv kr_) (rfl) (by omega)))) ?_
    refine aoNext rfl (aoVal (fun g_ => [(24, .pointer (some ⟨b22, 0 + 1 * 1, none⟩))]) (fun g_ a_ h_k => ⟨(h_k.inn 4 _ _ kr_ rfl rfl).trans kr_, trivial⟩) (fun g_ X_ => (wn rfl)) (fun b_ g_ => by kernel_rfl) (fun b_ g_ X_ w_ h_b h_ => valTo (b := .int .i64 y) kr_ (gLoadRd (v := .int .i64 y) (m := 1 * 1) (h_.rdRow 2 rfl) rfl (ics_at hy) (by omega) (.tmp 24) kr_ rfl (litEv kr_)))) ?_
    refine aoNext rfl (aoVal (fun g_ => [(0, .slice A l.length c)]) (fun g_ a_ h_k => ⟨(h_k.out 0 kr_).trans (litGet kr_), trivial⟩) (fun g_ X_ => (wn rfl)) (fun b_ g_ => by kernel_rfl) (fun b_ g_ X_ w_ h_b h_ => valTo (b := .slice A l.length c) kr_ (litRun kr_))) ?_
    refine aoNext rfl (aoVal (fun g_ => [(5, .int .i64 ua)]) (fun g_ a_ h_k => ⟨(h_k.out 5 kr_).trans (litGet kr_), trivial⟩) (fun g_ X_ => (wn rfl)) (fun b_ g_ => by kernel_rfl) (fun b_ g_ X_ w_ h_b h_ => valTo (b := .int .i64 ua) kr_ (litRun kr_))) ?_
    refine aoNext rfl (aoVal (fun g_ => [(26, .slice A l.length c), (27, .int .i64 ua)]) (fun g_ a_ h_k => ⟨(h_k.inn 6 _ _ kr_ rfl rfl).trans kr_, (h_k.inn 7 _ _ kr_ rfl rfl).trans kr_, trivial⟩) (fun g_ X_ => (wn rfl)) (fun b_ g_ => by kernel_rfl) (fun b_ g_ X_ w_ h_b h_ => valTo (b := .slice A1 ((l.drop (ua.toNat)).length) (c - (ua.toNat))) kr_ (sliceLRun (k := ua) (.tmp 26) (.tmp 27) hs_A1 rfl (litEv kr_) (litEv kr_) (by omega)))) ?_
    refine aoNext rfl (aoVal (fun g_ => [(2, .pointer (some ⟨g2, 0, none⟩))]) (fun g_ a_ h_k => ⟨(h_k.out 2 kr_).trans (litGet kr_), trivial⟩) (fun g_ X_ => (wn rfl)) (fun b_ g_ => by kernel_rfl) (fun b_ g_ X_ w_ h_b h_ => valTo (b := .pointer (some ⟨g2, 0, none⟩)) kr_ (litRun kr_))) ?_
    refine aoNext rfl (aoStore1 (gb := fun g_ => g2) (k := 0) (cur := fun g_ => [.int .i64 0, .slice none 0 0, .int .i64 0, .slice none 0 0]) (v := fun g_ => .int .i64 x) (v0 := fun g_ => .int .i64 0) 0 (fun g_ => [(22, .int .i64 x), (29, .pointer (some ⟨g2, 0, none⟩))]) (fun g_ a_ h_k => ⟨(h_k.inn 2 _ _ kr_ rfl rfl).trans kr_, (h_k.inn 9 _ _ kr_ rfl rfl).trans kr_, trivial⟩) kr_ (fun b_ g_ h_b => by show some (Res.arr g2 25 (bsel (b_ 12) [.int .i64 x, .slice none 0 0, .int .i64 y, .slice none 0 0] (bsel (b_ 10) [.int .i64 x, .slice none 0 0, .int .i64 0, .slice none 0 0] [.int .i64 0, .slice none 0 0, .int .i64 0, .slice none 0 0]))) = some (Res.arr g2 25 ([.int .i64 0, .slice none 0 0, .int .i64 0, .slice none 0 0])); rw [bselF (h_b.post 12 kr_), bselF h_b.no]) (fun g_ X_ => (wn rfl)) rfl (fun g_ X_ => litEv kr_) (fun g_ X_ => litEv kr_) (fun _ => rfl) (fun _ => rfl) (fun _ => rfl) (fun b_ g_ h_b => Eq.trans kr_ (congrArg (fun x_ => List.set _ 0 (Res.arr g2 25 x_)) (bselF (α := List Value) (h_b.post 12 kr_) [.int .i64 x, .slice none 0 0, .int .i64 y, .slice none 0 0] [.int .i64 x, .slice none 0 0, .int .i64 0, .slice none 0 0]))) rfl) ?_
    refine aoNext rfl (aoVal (fun g_ => [(2, .pointer (some ⟨g2, 0, none⟩))]) (fun g_ a_ h_k => ⟨(h_k.out 2 kr_).trans (litGet kr_), trivial⟩) (fun g_ X_ => (wn rfl)) (fun b_ g_ => by kernel_rfl) (fun b_ g_ X_ w_ h_b h_ => valTo (b := .pointer (some ⟨g2, 2, none⟩)) kr_ (litRun kr_))) ?_
    refine aoNext rfl (aoStore1 (gb := fun g_ => g2) (k := 2) (cur := fun g_ => [.int .i64 x, .slice none 0 0, .int .i64 0, .slice none 0 0]) (v := fun g_ => .int .i64 y) (v0 := fun g_ => .int .i64 0) 0 (fun g_ => [(25, .int .i64 y), (30, .pointer (some ⟨g2, 2, none⟩))]) (fun g_ a_ h_k => ⟨(h_k.inn 5 _ _ kr_ rfl rfl).trans kr_, (h_k.inn 11 _ _ kr_ rfl rfl).trans kr_, trivial⟩) kr_ (fun b_ g_ h_b => by show some (Res.arr g2 25 (bsel (b_ 12) [.int .i64 x, .slice none 0 0, .int .i64 y, .slice none 0 0] (bsel (b_ 10) [.int .i64 x, .slice none 0 0, .int .i64 0, .slice none 0 0] [.int .i64 0, .slice none 0 0, .int .i64 0, .slice none 0 0]))) = some (Res.arr g2 25 ([.int .i64 x, .slice none 0 0, .int .i64 0, .slice none 0 0])); rw [bselF h_b.no, bselT (h_b.pre 10 kr_)]) (fun g_ X_ => (wn rfl)) rfl (fun g_ X_ => litEv kr_) (fun g_ X_ => litEv kr_) (fun _ => rfl) (fun _ => rfl) (fun _ => rfl) (fun b_ g_ h_b => by kernel_rfl) rfl) ?_
    refine aoNext rfl (aoVal (fun g_ => [(28, .slice A1 ((l.drop (ua.toNat)).length) (c - (ua.toNat)))]) (fun g_ a_ h_k => ⟨(h_k.inn 8 _ _ kr_ rfl rfl).trans kr_, trivial⟩) (fun g_ X_ => (wn rfl)) (fun b_ g_ => by kernel_rfl) (fun b_ g_ X_ w_ h_b h_ => valTo (b := .slice A1 ((l.drop (ua.toNat)).length) (c - (ua.toNat))) kr_ (litRun kr_))) ?_
    exact aoDone (by decide)
   intro g_ a_ w25 hF_ hm24
   obtain ⟨X26, rfl⟩ := frLit (⟨hF_.size, hF_.defers, ⟨(hF_.inn 13 _ _ rfl rfl).trans kr_, (hF_.out 2 kr_).trans (litGet kr_), (hF_.out 3 kr_).trans (litGet kr_), (hF_.out 5 kr_).trans (litGet kr_), (hF_.out 6 kr_).trans (litGet kr_), (hF_.inn 0 _ _ rfl rfl).trans kr_, (hF_.inn 1 _ _ rfl rfl).trans kr_, (hF_.inn 2 _ _ rfl rfl).trans kr_, (hF_.inn 3 _ _ rfl rfl).trans kr_, (hF_.inn 4 _ _ rfl rfl).trans kr_, (hF_.inn 5 _ _ rfl rfl).trans kr_, (hF_.inn 6 _ _ rfl rfl).trans kr_, (hF_.inn 7 _ _ rfl rfl).trans kr_, (hF_.inn 8 _ _ rfl rfl).trans kr_, (hF_.inn 9 _ _ rfl rfl).trans kr_, (hF_.inn 11 _ _ rfl rfl).trans kr_, trivial⟩⟩ : Fr _ 61 [(0, .slice A1 ((l.drop (ua.toNat)).length) (c - (ua.toNat))), (2, .pointer (some ⟨g2, 0, none⟩)), (3, .pointer (some ⟨g5, 0, none⟩)), (5, .int .i64 ua), (6, .int .i64 0), (20, .slice (some ⟨b22, 0, none⟩) a.length c14), (21, .pointer (some ⟨b22, 0 + 0 * 1, none⟩)), (22, .int .i64 x), (23, .slice (some ⟨b22, 0, none⟩) a.length c14), (24, .pointer (some ⟨b22, 0 + 1 * 1, none⟩)), (25, .int .i64 y), (26, .slice A l.length c), (27, .int .i64 ua), (28, .slice A1 ((l.drop (ua.toNat)).length) (c - (ua.toNat))), (29, .pointer (some ⟨g2, 0, none⟩)), (30, .pointer (some ⟨g2, 2, none⟩))])
   clear hF_
   have hm27 : Mem w w25 [.arr g2 25 ([.int .i64 x, .slice none 0 0, .int .i64 y, .slice none 0 0]), .arr g5 30 ([.int .i64 0]), .row (.slice (some ⟨b22, 0, none⟩) a.length c14) 3 1 a.length (ics a)] := hm24
   clear hm24 hm18
   refine tn_ hK23 ?_
   refine wp_seq_k fun K28 hK28 => ?_
   refine plStart ?_
   refine lk (v := .slice A1 ((l.drop (ua.toNat)).length) (c - (ua.toNat))) rfl rfl rfl ?_
   obtain ⟨b, ub, eb, hdb⟩ : ∃ r_ u_ e_, decI (l.drop (ua.toNat)) = (r_, u_, e_) := ⟨_, _, _, rfl⟩
   refine plCall (i := 1) 42 [.slice A1 ((l.drop (ua.toNat)).length) (c - (ua.toNat))] [] [] rfl kr_ (wn rfl) rfl (litEv kr_) (litArgs kr_) (by have h_ := getInts_any (l.drop (ua.toNat)) A1 (l.drop (ua.toNat)).length (c - (ua.toNat)) _ w25 ((Rd.below hr1 hm27.bel).more hm27.bel.size) (Nat.le_refl _) (by first | omega | (simp only [List.length_drop]; omega)); rw [hdb] at h_; exact h_) ?_
   rintro e w29 ⟨v31, n_, rfl, hown_, hbz⟩
   have hn_ : b.length = n_ * 1 := by have q_ := hown_.1; rw [List.length_map] at q_; exact q_
   obtain rfl : n_ = b.length := by omega
   obtain ⟨A32, c33, rfl, hrd_⟩ := Rd.of_own hown_
   clear hrd_ hn_
   replace hown_ : World.ownsRow w29 _ 3 1 _ b.length (ics b) := hown_
   have hm30 := hm27.newRow hbz hown_
   clear hown_ hbz hm27
   try simp only [lc1_, lc2_, lc3_, lc4_] at hm30
   refine ⟨_, rfl, ?_⟩
   refine qP rfl ?_
   refine lk (v := .tuple #[.slice A32 b.length c33, .int .i64 ub, .int .i64 eb]) rfl rfl rfl ?_
   refine lk (v := .slice A32 b.length c33) rfl rfl rfl ?_
   refine lk (v := .int .i64 ub) rfl rfl rfl ?_
   refine lk (v := .int .i64 eb) rfl rfl rfl ?_
   refine lk (v := .pointer (some ⟨g2, 1, none⟩)) rfl rfl rfl ?_
   refine plStore1 (v := .slice A32 b.length c33) (k := 1) 0 kr_ hm30 rfl (i := 7) rfl (wn rfl) rfl (litEv kr_) (litEv kr_) rfl rfl rfl ?_
   intro w35 hm34
   clear hm30
   try simp only [lc1_, lc2_, lc3_, lc4_] at hm34
   refine qNone rfl ?_
   refine lk (v := .int .i64 ub) rfl rfl rfl ?_
   refine lk (v := .int .i64 eb) rfl rfl rfl ?_
   refine plD ?_
   refine tn_ hK28 ?_
   refine wp_seq_k fun K36 hK36 => ?_
   refine plStart ?_
   refine lk (v := .int .i64 eb) rfl rfl rfl ?_
   by_cases h37 : eb = 0
   ·subst h37
    have hcb_ := decI_canon hdb
    have hbl_ := decI_le hdb
    rw [List.length_drop] at hbl_
    have hcb2_ : ub ≤ (l.length : Int) - ua := by have := hcb_.2.2; rw [List.length_drop] at this; omega
    refine plCall (i := 1) 43 [.int .i64 0] [] [] rfl kr_ (wn rfl) rfl (litEv kr_) (litArgs kr_) ((need_okE 0 rfl _)) ?_
    rintro e w38 ⟨rfl, hbz⟩
    have hm39 := hm34.below hbz
    clear hbz hm34
    refine ⟨_, rfl, ?_⟩
    refine qP rfl ?_
    refine plD ?_
    refine tn_ hK36 ?_
    refine wp_seq_k fun K40 hK40 => ?_
    refine plStart ?_
    have hcB_ := hcb_.2.2
    refine lk (v := .slice A1 ((l.drop (ua.toNat)).length) (c - (ua.toNat))) rfl rfl rfl ?_
    refine lk (v := .int .i64 ub) rfl rfl rfl ?_
    obtain ⟨A2, hr2, hs_A2⟩ := sliceL_eq (V := ub.toNat) Ty.sl_L_uint8 hr1 (by omega)
    rw [Nat.mul_one, show (bcs (l.drop (ua.toNat))).drop (ub.toNat) = bcs ((l.drop (ua.toNat)).drop (ub.toNat)) from List.map_drop.symm, show (l.drop (ua.toNat)).length - (ub.toNat) = ((l.drop (ua.toNat)).drop (ub.toNat)).length from List.length_drop.symm] at hr2
    rw [show (l.drop (ua.toNat)).length - (ub.toNat) = ((l.drop (ua.toNat)).drop (ub.toNat)).length from List.length_drop.symm] at hs_A2
    refine litVal (i := 2) (v := .slice A2 (((l.drop (ua.toNat)).drop (ub.toNat)).length) ((c - (ua.toNat)) - (ub.toNat))) rfl (wn rfl) (sliceLRun (k := ub) (.tmp 40) (.tmp 41) hs_A2 rfl (litEv kr_) (litEv kr_) (by omega)) rfl (by decide) ?_
    refine lk (v := .slice A2 (((l.drop (ua.toNat)).drop (ub.toNat)).length) ((c - (ua.toNat)) - (ub.toNat))) rfl rfl rfl ?_
    refine plD ?_
    refine tn_ hK40 ?_
    refine wp_seq_k fun K41 hK41 => ?_
    refine plStart ?_
    refine lk (v := .slice A2 (((l.drop (ua.toNat)).drop (ub.toNat)).length) ((c - (ua.toNat)) - (ub.toNat))) rfl rfl rfl ?_
    obtain ⟨D, uc, ec, hdc⟩ : ∃ r_ u_ e_, decD ((l.drop (ua.toNat)).drop (ub.toNat)) = (r_, u_, e_) := ⟨_, _, _, rfl⟩
    refine plCall (i := 1) 44 [.slice A2 (((l.drop (ua.toNat)).drop (ub.toNat)).length) ((c - (ua.toNat)) - (ub.toNat))] [] [] rfl kr_ (wn rfl) rfl (litEv kr_) (litArgs kr_) (by have h_ := getDigs_any ((l.drop (ua.toNat)).drop (ub.toNat)) A2 ((l.drop (ua.toNat)).drop (ub.toNat)).length ((c - (ua.toNat)) - (ub.toNat)) _ w38 ((Rd.below hr2 hm39.bel).more hm39.bel.size) (Nat.le_refl _) (by first | omega | (simp only [List.length_drop]; omega)); rw [hdc] at h_; exact h_) ?_
    rintro e w42 ⟨v44, n_, rfl, hown_, hbz⟩
    have hn_ : D.length = n_ * 16 := by have q_ := hown_.1; rw [bcs_length] at q_; exact q_
    obtain rfl : n_ = (D.length / 16) := by omega
    obtain ⟨A45, c46, rfl, hrd_⟩ := Rd.of_own hown_
    clear hrd_ hn_
    replace hown_ : World.ownsRow w42 _ 27 16 _ (D.length / 16) (bcs D) := hown_
    have hm43 := hm39.newRow hbz hown_
    clear hown_ hbz hm39
    try simp only [lc1_, lc2_, lc3_, lc4_] at hm43
    refine ⟨_, rfl, ?_⟩
    refine qP rfl ?_
    refine lk (v := .tuple #[.slice A45 (D.length / 16) c46, .int .i64 uc, .int .i64 ec]) rfl rfl rfl ?_
    refine lk (v := .slice A45 (D.length / 16) c46) rfl rfl rfl ?_
    refine lk (v := .int .i64 uc) rfl rfl rfl ?_
    refine lk (v := .int .i64 ec) rfl rfl rfl ?_
    refine lk (v := .pointer (some ⟨g2, 3, none⟩)) rfl rfl rfl ?_
    refine plStore1 (v := .slice A45 (D.length / 16) c46) (k := 3) 0 kr_ hm43 rfl (i := 7) rfl (wn rfl) rfl (litEv kr_) (litEv kr_) rfl rfl rfl ?_
    intro w48 hm47
    clear hm43
    try simp only [lc1_, lc2_, lc3_, lc4_] at hm47
    refine qNone rfl ?_
    refine lk (v := .int .i64 uc) rfl rfl rfl ?_
    refine lk (v := .int .i64 ec) rfl rfl rfl ?_
    refine plD ?_
    refine tn_ hK41 ?_
    refine wp_seq_k fun K49 hK49 => ?_
    refine plStart ?_
    refine lk (v := .int .i64 ec) rfl rfl rfl ?_
    by_cases h50 : ec = 0
    ·subst h50
     have hDl_ := decD_le hdc
     rw [List.length_drop] at hDl_
     have hcc_ := decD_canon hdc
     have hDl2_ : (l.drop ua.toNat).length ≤ l.length := by rw [List.length_drop]; omega
     refine plCall (i := 1) 43 [.int .i64 0] [] [] rfl kr_ (wn rfl) rfl (litEv kr_) (litArgs kr_) ((need_okE 0 rfl _)) ?_
     rintro e w51 ⟨rfl, hbz⟩
     have hm52 := hm47.below hbz
     clear hbz hm47
     refine ⟨_, rfl, ?_⟩
     refine qP rfl ?_
     refine plD ?_
     refine tn_ hK49 ?_
     refine wp_seq_k fun K53 hK53 => ?_
     refine wp_seq_k fun K54 hK54 => ?_
     refine plStart ?_
     refine lk (v := .int .i64 uc) rfl rfl rfl ?_
     refine lk (v := .slice A2 (((l.drop (ua.toNat)).drop (ub.toNat)).length) ((c - (ua.toNat)) - (ub.toNat))) rfl rfl rfl ?_
     refine litVal (v := .int .i64 (((l.drop (ua.toNat)).drop (ub.toNat)).length : Int)) rfl (wn rfl) (lenSlRun (A := A2) (n := ((l.drop (ua.toNat)).drop (ub.toNat)).length) (c := ((c - (ua.toNat)) - (ub.toNat))) (.tmp 53) Ty.und_L_uint8 rfl (litEv kr_)) rfl (by decide) ?_
     by_cases h55 : uc = (((l.drop (ua.toNat)).drop (ub.toNat)).length : Int)
     ·refine litVal (v := .bool false) rfl (wn rfl) (boolTo (by rw [decide_eq_true h55]; rfl) (neqRun (A := uc) (B := (((l.drop (ua.toNat)).drop (ub.toNat)).length : Int)) (.tmp 52) (.tmp 54) rfl (litEv kr_) (litEv kr_))) rfl (by decide) ?_
      refine plD ?_
      refine tn_ hK54 ?_
      refine wp_cond_false (litEv kr_) ?_
      refine wp_skip ?_
      refine tn_ hK53 ?_
      refine wp_seq_k fun K56 hK56 => ?_
      refine plStart ?_
      refine litVal (v := .agg ([.int .i64 x, .slice A32 b.length c33, .int .i64 y, .slice A45 (D.length / 16) c46]).toArray) rfl (wn rfl) (gLoadAg (vs := [.int .i64 x, .slice A32 b.length c33, .int .i64 y, .slice A45 (D.length / 16) c46]) (k := 0) 0 hm52 rfl kr_ kr_ (.tmp 2) Ty.ag_voxel_api_Header rfl (litEv kr_)) rfl (by decide) ?_
      refine plCall (i := 1) 14 [.agg ([.int .i64 x, .slice A32 b.length c33, .int .i64 y, .slice A45 (D.length / 16) c46]).toArray] [] [] rfl kr_ (wn rfl) rfl (litEv kr_) (litArgs kr_) (by exact check_any ⟨x, b, y, D.length / 16, D⟩ A32 c33 A45 c46 _ (hm52.rdRow 3 rfl) (hm52.rdRow 4 rfl) (by show b.length ≤ _; omega) (by show D.length / 16 ≤ _; omega) hyb_) ?_
      rintro e w57 ⟨rfl, hbz⟩
      have hm58 := hm52.below hbz
      clear hbz hm52
      refine ⟨_, rfl, ?_⟩
      refine qP rfl ?_
      by_cases h59 : (ckH ⟨x, b, y, D.length / 16, D⟩) = 0
      ·refine plCall (i := 2) 43 [.int .i64 (ckH ⟨x, b, y, D.length / 16, D⟩)] [] [] rfl kr_ (wn rfl) rfl (litEv kr_) (litArgs kr_) ((need_okE (ckH ⟨x, b, y, D.length / 16, D⟩) h59 _)) ?_
       rintro e w60 ⟨rfl, hbz⟩
       have hm61 := hm58.below hbz
       clear hbz hm58
       refine ⟨_, rfl, ?_⟩
       refine qP rfl ?_
       refine plD ?_
       refine tn_ hK56 ?_
       refine wp_seq_k fun K62 hK62 => ?_
       refine plStart ?_
       refine litVal (v := .agg ([.int .i64 x, .slice A32 b.length c33, .int .i64 y, .slice A45 (D.length / 16) c46]).toArray) rfl (wn rfl) (gLoadAg (vs := [.int .i64 x, .slice A32 b.length c33, .int .i64 y, .slice A45 (D.length / 16) c46]) (k := 0) 0 hm61 rfl kr_ kr_ (.tmp 2) Ty.ag_voxel_api_Header rfl (litEv kr_)) rfl (by decide) ?_
       refine plStore 0 Ty.ag_voxel_api_Header hm61 rfl (i := 1) (cs := [.int .i64 x, .slice A32 b.length c33, .int .i64 y, .slice A45 (D.length / 16) c46]) rfl (wn rfl) rfl (litEv kr_) (litEv kr_) rfl rfl kr_ ?_
       intro w64 hm63
       clear hm61
       try simp only [lc1_, lc2_, lc3_, lc4_] at hm63
       refine qNone rfl ?_
       refine plStore1 (v := .int .i64 0) (k := 0) 1 kr_ hm63 rfl (i := 2) rfl (wn rfl) rfl (litEv kr_) (litEv kr_) rfl rfl rfl ?_
       intro w66 hm65
       clear hm63
       try simp only [lc1_, lc2_, lc3_, lc4_] at hm65
       refine qNone rfl ?_
       refine plD ?_
       refine tn_ hK62 ?_
       refine wp_ret ?_
       have hfin_ := (decH_end hda h2_ hdb hdc (by have q_ := h55; rw [List.length_drop, List.length_drop] at q_; have q1_ := hca_.2; have q2_ := hcb_.2; omega) hx hy).trans (if_neg (fun h_ => h_ h59))
       refine decLeave rfl hm65 kr_ kr_ ?_
       exact ⟨A32, c33, A45, c46, by rw [hfin_]; rfl, by rw [hfin_]; exact (hm65.rdRow 3 rfl), by rw [hfin_]; exact (hm65.rdRow 4 rfl), (own_new (hm65.row 3 rfl)), (own_new (hm65.row 4 rfl)), hm65.bel⟩
      refine plCallP (i := 2) 43 [.int .i64 (ckH ⟨x, b, y, D.length / 16, D⟩)] [] [] rfl kr_ (wn rfl) rfl (litEv kr_) (litArgs kr_) (need_pan (ckH ⟨x, b, y, D.length / 16, D⟩) h59 _) ?_
      rintro e_ w67 ⟨rfl, hbz⟩
      have hm68 := hm58.below hbz
      clear hbz hm58
      refine ⟨_, rfl, ?_⟩
      refine then_panic ?_
      have hfin_ := (decH_end hda h2_ hdb hdc (by have q_ := h55; rw [List.length_drop, List.length_drop] at q_; have q1_ := hca_.2; have q2_ := hcb_.2; omega) hx hy).trans (if_pos h59)
      refine decLeaveP rfl hm68 kr_ kr_ fun w_ hm_ => ?_
      exact ⟨none, 0, none, 0, by rw [hfin_]; rfl, by rw [hfin_]; exact Rd.nil _ _ 1, by rw [hfin_]; exact Rd.nil _ _ 16, NewA.none _, NewA.none _, hm_.bel⟩
     refine litVal (v := .bool true) rfl (wn rfl) (boolTo (by rw [decide_eq_false h55]; rfl) (neqRun (A := uc) (B := (((l.drop (ua.toNat)).drop (ub.toNat)).length : Int)) (.tmp 52) (.tmp 54) rfl (litEv kr_) (litEv kr_))) rfl (by decide) ?_
     refine plD ?_
     refine tn_ hK54 ?_
     refine wp_cond_true (litEv kr_) ?_
     refine plStart ?_
     refine plCallP (i := 0) 43 [.int .i64 6] [] [] rfl kr_ (wn rfl) rfl (litEv kr_) (litArgs kr_) (need_pan 6 (by decide) _) ?_
     rintro e_ w69 ⟨rfl, hbz⟩
     have hm70 := hm52.below hbz
     clear hbz hm52
     refine ⟨_, rfl, ?_⟩
     refine then_panic ?_
     have hfin_ := decH_len hda h2_ hdb hdc (by have q_ := h55; rw [List.length_drop, List.length_drop] at q_; have q1_ := hca_.2; have q2_ := hcb_.2; omega)
     refine decLeaveP rfl hm70 kr_ kr_ fun w_ hm_ => ?_
     exact ⟨none, 0, none, 0, by rw [hfin_]; rfl, by rw [hfin_]; exact Rd.nil _ _ 1, by rw [hfin_]; exact Rd.nil _ _ 16, NewA.none _, NewA.none _, hm_.bel⟩
    refine plCallP (i := 1) 43 [.int .i64 ec] [] [] rfl kr_ (wn rfl) rfl (litEv kr_) (litArgs kr_) (need_pan ec h50 _) ?_
    rintro e_ w71 ⟨rfl, hbz⟩
    have hm72 := hm47.below hbz
    clear hbz hm47
    refine ⟨_, rfl, ?_⟩
    refine then_panic ?_
    have hfin_ := decH_c hda h2_ hdb hdc h50
    refine decLeaveP rfl hm72 kr_ kr_ fun w_ hm_ => ?_
    exact ⟨none, 0, none, 0, by rw [hfin_]; rfl, by rw [hfin_]; exact Rd.nil _ _ 1, by rw [hfin_]; exact Rd.nil _ _ 16, NewA.none _, NewA.none _, hm_.bel⟩
   refine plCallP (i := 1) 43 [.int .i64 eb] [] [] rfl kr_ (wn rfl) rfl (litEv kr_) (litArgs kr_) (need_pan eb h37 _) ?_
   rintro e_ w73 ⟨rfl, hbz⟩
   have hm74 := hm34.below hbz
   clear hbz hm34
   refine ⟨_, rfl, ?_⟩
   refine then_panic ?_
   have hfin_ := decH_b hda h2_ hdb h37
   refine decLeaveP rfl hm74 kr_ kr_ fun w_ hm_ => ?_
   exact ⟨none, 0, none, 0, by rw [hfin_]; rfl, by rw [hfin_]; exact Rd.nil _ _ 1, by rw [hfin_]; exact Rd.nil _ _ 16, NewA.none _, NewA.none _, hm_.bel⟩
  refine litVal (v := .bool true) rfl (wn rfl) (boolTo (by rw [decide_eq_false h21]; rfl) (neqRun (A := (a.length : Int)) (B := 2) (.tmp 17) (.const (.int .i64 2)) rfl (litEv kr_) (litEv kr_))) rfl (by decide) ?_
  refine plD ?_
  refine tn_ hK20 ?_
  refine wp_cond_true (litEv kr_) ?_
  refine plStart ?_
  refine plCallP (i := 0) 43 [.int .i64 6] [] [] rfl kr_ (wn rfl) rfl (litEv kr_) (litArgs kr_) (need_pan 6 (by decide) _) ?_
  rintro e_ w75 ⟨rfl, hbz⟩
  have hm76 := hm18.below hbz
  clear hbz hm18
  refine ⟨_, rfl, ?_⟩
  refine then_panic ?_
  have hfin_ := decH_two hda h21
  refine decLeaveP rfl hm76 kr_ kr_ fun w_ hm_ => ?_
  exact ⟨none, 0, none, 0, by rw [hfin_]; rfl, by rw [hfin_]; exact Rd.nil _ _ 1, by rw [hfin_]; exact Rd.nil _ _ 16, NewA.none _, NewA.none _, hm_.bel⟩
 refine plCallP (i := 1) 43 [.int .i64 ea] [] [] rfl kr_ (wn rfl) rfl (litEv kr_) (litArgs kr_) (need_pan ea h16 _) ?_
 rintro e_ w77 ⟨rfl, hbz⟩
 have hm78 := hm11.below hbz
 clear hbz hm11
 refine ⟨_, rfl, ?_⟩
 refine then_panic ?_
 have hfin_ := decH_a hda h16
 refine decLeaveP rfl hm78 kr_ kr_ fun w_ hm_ => ?_
 exact ⟨none, 0, none, 0, by rw [hfin_]; rfl, by rw [hfin_]; exact Rd.nil _ _ 1, by rw [hfin_]; exact Rd.nil _ _ 16, NewA.none _, NewA.none _, hm_.bel⟩
end LD
structure Lv where
 num : Int
 pins : Int
 h : Hd
 A : Option Addr
 c : Nat
 B : Option Addr
 d : Nat
def lvc (v : Lv) : List Value := [.int .i64 v.num, .int .i64 v.pins] ++ hcs v.h v.A v.c v.B v.d
def lvs (l : List Lv) : List Value := l.flatMap lvc
theorem lvs_cons (p : Lv) (l : List Lv) : lvs (p :: l) = lvc p ++ lvs l := rfl
theorem lvs_app (l m : List Lv) : lvs (l ++ m) = lvs l ++ lvs m := List.flatMap_append
theorem lvs_get {p : Lv} : ∀ {l : List Lv} {k : Nat}, l[k]? = some p → ∀ (i : Nat) (u : Value), (lvc p)[i]? = some u → (lvs l)[k * 6 + i]? = some u
 | [], k, h, _, _, _ => by simp at h
 | q :: l, 0, h, i, u, hu => by
  simp at h; subst h
  have hi : i < 6 := (List.getElem?_eq_some_iff.1 hu).1
  rw [lvs_cons, List.getElem?_append_left (by show _ < 6; omega), Nat.zero_mul, Nat.zero_add]
  exact hu
 | q :: l, k + 1, h, i, u, hu => by
  rw [lvs_cons, List.getElem?_append_right (by show 6 ≤ _; omega)]
  have e : (k + 1) * 6 + i - (lvc q).length = k * 6 + i := by show (k + 1) * 6 + i - 6 = _; omega
  rw [e]
  exact lvs_get (l := l) (by simpa using h) i u hu
theorem lvs_one (l : List Lv) : ∀ u ∈ lvs l, u.oneCell' = true := by
 intro u hu
 obtain ⟨p, _, hp⟩ := List.mem_flatMap.1 hu
 unfold lvc hcs at hp
 simp only [List.mem_append, List.mem_cons, List.not_mem_nil, or_false] at hp
 rcases hp with (rfl | rfl) | rfl | rfl | rfl | rfl <;> rfl
structure Lv.At (v : Lv) (w : World) : Prop where
 a : Rd w w.heap.size 1 v.A v.h.counts.length v.c (ics v.h.counts)
 b : Rd w w.heap.size 16 v.B v.h.rn v.d (bcs v.h.D)
theorem Lv.At.below {v : Lv} {w w' : World} (h : v.At w) (b : Below w.heap.size w w') : v.At w' :=
 ⟨(Rd.below h.a b).more b.size, (Rd.below h.b b).more b.size⟩
def AllAt (l : List Lv) (w : World) : Prop := ∀ v ∈ l, v.At w
theorem AllAt.below {l : List Lv} {w w' : World} (h : AllAt l w) (b : Below w.heap.size w w') : AllAt l w' := fun v hv => (h v hv).below b
def placeG (num : Int) : Nat → List Lv → Int
 | _, [] => -1
 | k, v :: l => if v.num = num then k else placeG num (k + 1) l
def placeP (l : List Lv) (num : Int) : Int := placeG num 0 l
theorem placeG_spec (num : Int) (l0 : List Lv) : ∀ (l : List Lv) (k : Nat), l0.drop k = l → (placeG num k l = -1 ∧ ∀ v ∈ l, ¬ v.num = num) ∨ ∃ (i : Nat) (v : Lv), placeG num k l = (i : Int) ∧ l0[i]? = some v ∧ v.num = num
 | [], _, _ => Or.inl ⟨rfl, fun _ h => by cases h⟩
 | t :: l, k, hd => by
  have ht : l0[k]? = some t := by
   have h1 : (l0.drop k)[0]? = some t := by rw [hd]; rfl
   rw [List.getElem?_drop] at h1
   exact h1
  have hd2 : l0.drop (k + 1) = l := by rw [← List.drop_drop, hd]; rfl
  rw [placeG]
  by_cases h : t.num = num
  ·rw [if_pos h]
   exact Or.inr ⟨k, t, rfl, ht, h⟩
  ·rw [if_neg h]
   rcases placeG_spec num l0 l (k + 1) hd2 with ⟨h1, h2⟩ | h1
   ·left
    refine ⟨h1, fun u hu => ?_⟩
    rcases List.mem_cons.1 hu with rfl | hu
    ·exact h
    ·exact h2 u hu
   ·exact Or.inr h1
theorem placeP_spec (num : Int) (l : List Lv) : (placeP l num = -1 ∧ ∀ v ∈ l, ¬ v.num = num) ∨ ∃ (i : Nat) (v : Lv), placeP l num = (i : Int) ∧ l[i]? = some v ∧ v.num = num := placeG_spec num l l 0 rfl
theorem place_yes {num : Int} {l : List Lv} {k : Nat} {t : Lv} {r : Int} (ht : l[k]? = some t) (hr : placeG num k (l.drop k) = r) (h : t.num = num) : (k : Int) = r := by
 obtain ⟨hl, he⟩ := List.getElem?_eq_some_iff.1 ht
 rw [List.drop_eq_getElem_cons hl, he, placeG, if_pos h] at hr
 exact hr
theorem place_no {num : Int} {l : List Lv} {k : Nat} {t : Lv} {r : Int} (ht : l[k]? = some t) (hr : placeG num k (l.drop k) = r) (h : ¬ t.num = num) : placeG num (k + 1) (l.drop (k + 1)) = r := by
 obtain ⟨hl, he⟩ := List.getElem?_eq_some_iff.1 ht
 rw [List.drop_eq_getElem_cons hl, he, placeG, if_neg h] at hr
 exact hr
def pinsP (l : List Lv) : Int := (l.map (·.pins)).sum
theorem pinsP_take {l : List Lv} {k : Nat} {t : Lv} (h : l[k]? = some t) : pinsP (l.take (k + 1)) = pinsP (l.take k) + t.pins := by
 unfold pinsP
 rw [List.take_add_one, h]
 simp
def PinsOk (l : List Lv) : Prop := ∀ v ∈ l, 0 ≤ v.pins ∧ v.pins ≤ 1000
theorem pinsP_bd {l : List Lv} (h : PinsOk l) : 0 ≤ pinsP l ∧ pinsP l ≤ 1000 * (l.length : Int) := by
 induction l with
 | nil => simp [pinsP]
 | cons v l ih =>
  have h1 := h v (by simp)
  have h2 := ih fun u hu => h u (by simp [hu])
  have e : pinsP (v :: l) = v.pins + pinsP l := by simp [pinsP]
  rw [e, List.length_cons]
  omega
def tbs (S : Value) (next : Int) : List Value := [S, .int .i64 next]
theorem index1_any (v : Lv) (num : Int) (g : Nat) (w : World) (hg : Rd w w.heap.size 1 (some ⟨g, 0, none⟩) 1 1 [.int .i64 num]) : Calls Tryz.prog 103 #[.agg (lvc v).toArray, .pointer (some ⟨g, 0 + 0 * 1, none⟩)] w (RetV w (.bool (decide (v.num = num)))) := by
 have hm0 := Mem.nil w
 go_enter Tryz.func103, Tryz.ntmps103
 refine litStart 8 [(0, .agg (lvc v).toArray), (1, .pointer (some ⟨g, 0 + 0 * 1, none⟩))] kr_ (fun X0 => ?_)
 refine wp_seq_k fun K1 hK1 => ?_
 refine plStart ?_
 refine plBox hm0 (cs := lvc v) (i := 0) rfl (wn rfl) rfl le_ ?_
 intro g2 w4 hm3
 clear hm0
 try simp only [lc1_, lc2_, lc3_, lc4_] at hm3
 refine qP rfl ?_
 refine lk_ (.bool false) ?_
 refine plD ?_
 refine tn_ hK1 ?_
 refine wp_seq_k fun K5 hK5 => ?_
 refine plStart ?_
 refine lk_ (.pointer (some ⟨g2, 0, none⟩)) ?_
 refine litVal (v := .int .i64 v.num) rfl (wn rfl) (gLoad (v := .int .i64 v.num) (k := 0) 0 hm3 rfl kr_ (.tmp 4) kr_ rfl le_) rfl (by decide) ?_
 refine litVal (v := .int .i64 num) rfl (wn rfl) (gLoadRd (v := .int .i64 num) (m := 0 * 1) ((Rd.below hg hm3.bel).more hm3.bel.size) rfl (rfl) (by decide) (.tmp 1) kr_ rfl le_) rfl (by decide) ?_
 by_cases h6 : v.num = num
 ·refine litVal (v := .bool true) rfl (wn rfl) (boolTo (decide_eq_true h6) (eqlRun (A := v.num) (B := num) (.tmp 5) (.tmp 6) rfl le_ le_)) rfl (by decide) ?_
  refine lk_ (.bool true) ?_
  refine plD ?_
  refine tn_ hK5 ?_
  refine wp_ret ?_
  refine bodyPost_ret (v := .bool true) (gRes1 rfl (gResTmp (t := 3) (v := .bool true) (lg_))) rfl ?_
  exact ⟨congrArg (fun b_ => Ending.returned (.bool b_)) (decide_eq_true (by assumption)).symm, hm3.bel⟩
 refine litVal (v := .bool false) rfl (wn rfl) (boolTo (decide_eq_false h6) (eqlRun (A := v.num) (B := num) (.tmp 5) (.tmp 6) rfl le_ le_)) rfl (by decide) ?_
 refine lk_ (.bool false) ?_
 refine plD ?_
 refine tn_ hK5 ?_
 refine wp_ret ?_
 refine bodyPost_ret (v := .bool false) (gRes1 rfl (gResTmp (t := 3) (v := .bool false) (lg_))) rfl ?_
 exact ⟨congrArg (fun b_ => Ending.returned (.bool b_)) (decide_eq_false (by assumption)).symm, hm3.bel⟩
theorem idxF_any (l : List Lv) (S : Option Addr) (cS : Nat) (num : Int) (g : Nat) (w : World) (hS : Rd w w.heap.size 6 S l.length cS (lvs l)) (hl : l.length ≤ 1000) (hg : Rd w w.heap.size 1 (some ⟨g, 0, none⟩) 1 1 [.int .i64 num]) : Calls Tryz.prog 102 #[.slice S l.length cS, .func (.func 103) #[] #[.pointer (some ⟨g, 0, none⟩)]] w (RetV w (.int .i64 (placeP l num))) := by
 have hm0 := Mem.nil w
 go_enter Tryz.func102, Tryz.ntmps102
 refine litStart 19 [(0, .slice S l.length cS), (1, .func (.func 103) #[] #[.pointer (some ⟨g, 0, none⟩)])] kr_ (fun X0 => ?_)
 refine wp_seq_k fun K1 hK1 => ?_
 refine plStart ?_
 refine lk_ (.int .i64 0) ?_
 refine plD ?_
 refine tn_ hK1 ?_
 refine wp_seq_k fun K2 hK2 => ?_
 refine wp_seq_k fun K3 hK3 => ?_
 refine plStart ?_
 refine lk_ (.slice S l.length cS) ?_
 refine litVal (v := .int .i64 (l.length : Int)) rfl (wn rfl) (lenSlRun (A := S) (n := l.length) (c := cS) (.tmp 6) Ty.und_L_api_Version rfl le_) rfl (by decide) ?_
 refine lk_ (.int .i64 0) ?_
 refine plD ?_
 refine tn_ hK3 ?_
 refine wp_block ?_
 refine gwLoop (fun n_ a_ w_ => ∃ (k : Nat), n_ = l.length - k ∧ (k ≤ l.length) ∧ (placeG num k (l.drop k) = placeP l num) ∧ Fr a_ 19 [(0, .slice S l.length cS), (1, .func (.func 103) #[] #[.pointer (some ⟨g, 0, none⟩)]), (7, .int .i64 (l.length : Int)), (8, .int .i64 (k : Int))] ∧ Mem w w_ []) (l.length - 0) ⟨0, rfl, (Nat.zero_le _), rfl, ⟨litSize, rfl, ⟨lg_, ⟨lg_, ⟨lg_, ⟨lg_, trivial⟩⟩⟩⟩⟩, (hm0.sub .slnil)⟩ ?_
 clear hm0
 intro n_ a6 w4 hI_
 obtain ⟨k, rfl, hk, hf, hF_, hm5⟩ := hI_
 obtain ⟨X7, rfl⟩ := frLit hF_
 clear hF_
 refine wp_seq_k fun K8 hK8 => ?_
 refine plStart ?_
 by_cases h9 : (k : Int) < (l.length : Int)
 ·obtain ⟨v, hkv⟩ : ∃ v, l[k]? = some v := ⟨_, List.getElem?_eq_getElem (by omega)⟩
  obtain ⟨b_, o_, rfl, _, _⟩ := hS.cells (by omega)
  refine litVal (v := .bool true) rfl (wn rfl) (boolTo (decide_eq_true h9) (lssRun (A := (k : Int)) (B := (l.length : Int)) (.tmp 8) (.tmp 7) rfl le_ le_)) rfl (by decide) ?_
  refine plD ?_
  refine tn_ hK8 ?_
  refine wp_seq_k fun K10 hK10 => ?_
  refine wp_cond_true le_ ?_
  refine wp_skip ?_
  refine tn_ hK10 ?_
  refine wp_seq_k fun K11 hK11 => ?_
  refine wp_block ?_
  refine wp_seq_k fun K12 hK12 => ?_
  refine plStart ?_
  refine lk_ (.int .i64 (k : Int)) ?_
  refine lk_ (.int .i64 (k : Int)) ?_
  refine plD ?_
  refine tn_ hK12 ?_
  refine wp_seq_k fun K13 hK13 => ?_
  refine plStart ?_
  refine lk_ (.func (.func 103) #[] #[.pointer (some ⟨g, 0, none⟩)]) ?_
  refine lk_ (.slice (some ⟨b_, o_, none⟩) l.length cS) ?_
  refine lk_ (.int .i64 (k : Int)) ?_
  refine litVal (v := .pointer (some ⟨b_, o_ + k * 6, none⟩)) rfl (wn rfl) (gIaSl (b := b_) (off := o_) (n := l.length) (c := cS) (kk := .i64) (K := (k : Int)) (.tmp 12) (.tmp 13) k Ty.sl_L_api_Version rfl le_ le_ (rfl) (by omega)) rfl (by decide) ?_
  refine litVal (v := .agg (lvc v).toArray) rfl (wn rfl) (gLoadAgRd (vs := lvc v) (m := k * 6) ((Rd.below hS hm5.bel).more hm5.bel.size) rfl (fun i_ u_ hu_ => lvs_get hkv i_ u_ hu_) kr_ (by omega) (.tmp 14) Ty.ag_voxel_api_Version rfl le_) rfl (by decide) ?_
  refine plCall (i := 5) 103 [.agg (lvc v).toArray] [] [.pointer (some ⟨g, 0, none⟩)] rfl kr_ (wn rfl) rfl le_ (litArgs kr_) (index1_any v num g _ ((Rd.below hg hm5.bel).more hm5.bel.size)) ?_
  rintro e w14 ⟨rfl, hbz⟩
  have hm15 := hm5.below hbz
  clear hbz hm5
  refine ⟨_, rfl, ?_⟩
  refine qP rfl ?_
  rcases bool_or (decide (v.num = num)) with h16 | h16
  ·rw [h16]
   refine plD ?_
   refine tn_ hK13 ?_
   refine wp_cond_false le_ ?_
   refine wp_skip ?_
   refine inBlock_normal ?_
   refine tn_ hK11 ?_
   refine plStart ?_
   refine litVal (v := .int .i64 ((k : Int) + 1)) rfl (wn rfl) (addRun (A := (k : Int)) (B := 1) (C := (k : Int) + 1) (.tmp 8) (.const (.int .i64 1)) rfl le_ le_ rfl (by omega)) rfl (by decide) ?_
   refine lk_ (.int .i64 ((k : Int) + 1)) ?_
   refine plD ?_
   refine then_normal ?_
   exact ⟨_, by omega, (k + 1), rfl, (by omega), (place_no hkv hf (of_decide_eq_false h16)), ⟨litSize, rfl, ⟨lg_, ⟨lg_, ⟨lg_, ⟨lg_, trivial⟩⟩⟩⟩⟩, (hm15.sub .slnil)⟩
  rw [h16]
  refine plD ?_
  refine tn_ hK13 ?_
  refine wp_cond_true le_ ?_
  refine wp_seq_k fun K17 hK17 => ?_
  refine plStart ?_
  refine lk_ (.int .i64 (k : Int)) ?_
  refine lk_ (.int .i64 (k : Int)) ?_
  refine plD ?_
  refine tn_ hK17 ?_
  refine wp_ret ?_
  refine inBlock_ret ?_
  refine then_ret ?_
  refine then_ret ?_
  refine inBlock_ret ?_
  refine then_ret ?_
  refine bodyPost_ret (v := .int .i64 (k : Int)) (gRes1 rfl (gResTmp (t := 4) (v := .int .i64 (k : Int)) (lg_))) rfl ?_
  exact ⟨congrArg (fun n_ => Ending.returned (.int .i64 n_)) (place_yes hkv hf (of_decide_eq_true h16)), hm15.bel⟩
 refine litVal (v := .bool false) rfl (wn rfl) (boolTo (decide_eq_false h9) (lssRun (A := (k : Int)) (B := (l.length : Int)) (.tmp 8) (.tmp 7) rfl le_ le_)) rfl (by decide) ?_
 refine plD ?_
 refine tn_ hK8 ?_
 refine wp_seq_k fun K18 hK18 => ?_
 refine wp_cond_false le_ ?_
 refine wp_exit ?_
 refine then_exit ?_
 refine then_exit ?_
 refine inBlock_exit ?_
 refine tn_ hK2 ?_
 refine wp_seq_k fun K19 hK19 => ?_
 refine plStart ?_
 refine lk_ (.int .i64 (-1)) ?_
 refine plD ?_
 refine tn_ hK19 ?_
 refine wp_ret ?_
 refine bodyPost_ret (v := .int .i64 (-1)) (gRes1 rfl (gResTmp (t := 4) (v := .int .i64 (-1)) (lg_))) rfl ?_
 rw [List.drop_of_length_le (by omega)] at hf
 exact ⟨congrArg (fun n_ => Ending.returned (.int .i64 n_)) hf, hm5.bel⟩
theorem index_any (l : List Lv) (S : Option Addr) (cS : Nat) (nx : Int) (num : Int) (w : World) (hS : Rd w w.heap.size 6 S l.length cS (lvs l)) (hl : l.length ≤ 1000) : Calls Tryz.prog 58 #[.agg (tbs (.slice S l.length cS) nx).toArray, .int .i64 num] w (RetV w (.int .i64 (placeP l num))) := by
 have hm0 := Mem.nil w
 go_enter Tryz.func58, Tryz.ntmps58
 refine litStart 9 [(0, .agg (tbs (.slice S l.length cS) nx).toArray), (1, .int .i64 num)] kr_ (fun X0 => ?_)
 refine wp_seq_k fun K1 hK1 => ?_
 refine plStart ?_
 refine plBox hm0 (cs := tbs (.slice S l.length cS) nx) (i := 0) rfl (wn rfl) rfl le_ ?_
 intro g2 w4 hm3
 clear hm0
 try simp only [lc1_, lc2_, lc3_, lc4_] at hm3
 refine qP rfl ?_
 refine plBox1 (v := .int .i64 num) hm3 (i := 1) rfl (wn rfl) rfl le_ rfl ?_
 intro g5 w7 hm6
 clear hm3
 try simp only [lc1_, lc2_, lc3_, lc4_] at hm6
 refine qP rfl ?_
 refine lk_ (.int .i64 0) ?_
 refine plD ?_
 refine tn_ hK1 ?_
 refine wp_seq_k fun K8 hK8 => ?_
 refine plStart ?_
 refine lk_ (.pointer (some ⟨g2, 0, none⟩)) ?_
 refine litVal (v := .slice S l.length cS) rfl (wn rfl) (gLoad (v := .slice S l.length cS) (k := 0) 0 hm6 rfl kr_ (.tmp 5) kr_ rfl le_) rfl (by decide) ?_
 refine lk_ (.func (.func 103) #[] #[.pointer (some ⟨g5, 0, none⟩)]) ?_
 refine plCall (i := 3) 102 [.slice S l.length cS, .func (.func 103) #[] #[.pointer (some ⟨g5, 0, none⟩)]] [] [] rfl kr_ (wn rfl) rfl le_ (litArgs kr_) (idxF_any l S cS num g5 _ ((Rd.below hS hm6.bel).more hm6.bel.size) hl (Rd.of_arr (n := 1) (size := 1) (hm6.arr 1 rfl) rfl (by decide))) ?_
 rintro e w9 ⟨rfl, hbz⟩
 have hm10 := hm6.below hbz
 clear hbz hm6
 refine ⟨_, rfl, ?_⟩
 refine qP rfl ?_
 refine lk_ (.int .i64 (placeP l num)) ?_
 refine plD ?_
 refine tn_ hK8 ?_
 refine wp_ret ?_
 refine bodyPost_ret (v := .int .i64 (placeP l num)) (gRes1 rfl (gResTmp (t := 4) (v := .int .i64 (placeP l num)) (lg_))) rfl ?_
 exact ⟨by rfl, hm10.bel⟩
theorem eqNilRun {P : Program} {w : World} {o : Oper} {a : Act} {t e ty : TypeId} {A : Option Addr} {n c : Nat} (x y : Operand) (b : Bool) (hb : A.isNone = b) (ht : P.underlying t = some (.slice e)) (ho : o.op = .binOp .eql t x y ty) (hx : a.eval x = .slice A n c) (hy : a.eval y = .slice none 0 0) : (execOp a.eval o).run P w = .ok (.value (.bool b)) w := by
 subst hb
 unfold execOp
 have hr := Lib.run_eql_slice_nil (P := P) w t e A n c 0 0 ht
 simp only [ho, hx, hy]
 simp [eqGuard, ht, hr]
theorem ics_one (l : List Int) : ∀ u ∈ ics l, u.oneCell' = true := by
 intro u hu
 unfold ics at hu
 obtain ⟨x, _, rfl⟩ := List.mem_map.1 hu
 rfl
theorem rd_none {w : World} {B size n c : Nat} {xs : List Value} (h : Rd w B size none n c xs) (hs : 0 < size) : n = 0 ∧ xs = [] := by
 have hn : n = 0 := by
  rcases Nat.eq_zero_or_pos n with h0 | h0
  ·exact h0
  ·obtain ⟨b, off, e, _⟩ := h.cells (Nat.mul_pos h0 hs)
   cases e
 subst hn
 refine ⟨rfl, List.eq_nil_of_length_eq_zero ?_⟩
 have := h.len
 omega
theorem cloneI_any (l : List Int) (n : Nat) (A : Option Addr) (c : Nat) (w : World) (hr : Rd w w.heap.size 1 A n c (ics l)) (hn : n ≤ 1000000) : Calls Tryz.prog 55 #[.slice A n c] w (fun e w' => ∃ v, e = .returned v ∧ w'.ownsRow w.heap.size 3 1 v n (ics l) ∧ Below w.heap.size w w') := by
 have hm0 := Mem.nil w
 go_enter Tryz.func55, Tryz.ntmps55
 refine litStart 8 [(0, .slice A n c)] kr_ (fun X0 => ?_)
 refine wp_seq_k fun K1 hK1 => ?_
 refine plStart ?_
 refine lk_ (.slice none 0 0) ?_
 refine plD ?_
 refine tn_ hK1 ?_
 refine wp_seq_k fun K2 hK2 => ?_
 refine wp_seq_k fun K3 hK3 => ?_
 refine plStart ?_
 refine lk_ (.slice A n c) ?_
 rcases A with _ | p_
 ·refine litVal (i := 1) (v := .bool true) rfl (wn rfl) (eqNilRun (A := none) (n := n) (c := c) (.tmp 3) (.const (.slice none 0 0)) true rfl Ty.und_L_int rfl le_ le_) rfl (by decide) ?_
  refine plD ?_
  refine tn_ hK3 ?_
  refine wp_cond_true le_ ?_
  refine wp_seq_k fun K4 hK4 => ?_
  refine plStart ?_
  refine lk_ (.slice none 0 0) ?_
  refine plD ?_
  refine tn_ hK4 ?_
  refine wp_ret ?_
  refine then_ret ?_
  refine bodyPost_ret (v := .slice none 0 0) (gRes1 rfl (gResTmp (t := 2) (v := .slice none 0 0) (lg_))) rfl ?_
  obtain ⟨rfl, hx_⟩ := rd_none hr (by decide)
  exact ⟨_, rfl, by rw [hx_]; exact World.ownsRow_nil _ _ _ _, hm0.bel⟩
 refine litVal (i := 1) (v := .bool false) rfl (wn rfl) (eqNilRun (A := some p_) (n := n) (c := c) (.tmp 3) (.const (.slice none 0 0)) false rfl Ty.und_L_int rfl le_ le_) rfl (by decide) ?_
 refine plD ?_
 refine tn_ hK3 ?_
 refine wp_cond_false le_ ?_
 refine wp_skip ?_
 refine tn_ hK2 ?_
 refine wp_seq_k fun K5 hK5 => ?_
 refine plStart ?_
 refine plLit0 Ty.sl_L_int hm0 (i := 0) rfl (wn rfl) rfl rfl ?_
 intro g6 w8 hm7
 clear hm0
 try simp only [lc1_, lc2_, lc3_, lc4_] at hm7
 refine qP rfl ?_
 refine lk_ (.slice (some p_) n c) ?_
 refine plAppR (v := .slice (some ⟨g6, 0, none⟩) 0 0) (n := 0) (xs := []) (ys := ics l) (A := (some p_)) (m := n) (c := c) 0 Ty.sl_L_int hm7 rfl ((Rd.below hr hm7.bel).more hm7.bel.size) (i := 2) rfl (wn rfl) rfl le_ le_ (ics_one _) (by omega) (by omega) ?_
 intro v13 w10 hm9
 clear hm7
 try simp only [lc1_, lc2_, lc3_, lc4_] at hm9
 replace hm9 := Mem.rowEq (v := v13) (e := 3) (size := 1) (n := 0 + n) (n' := n) (xs := ([]) ++ (ics l)) (xs' := ics l) 0 hm9 rfl (Nat.zero_add _) (rfl)
 try simp only [lc1_, lc2_, lc3_, lc4_] at hm9
 obtain ⟨A11, c12, rfl⟩ := Mem.rowSl (v := v13) (e := 3) (size := 1) (n := n) (xs := ics l) 0 hm9 rfl
 refine qP rfl ?_
 refine lk_ (.slice A11 n c12) ?_
 refine plD ?_
 refine tn_ hK5 ?_
 refine wp_ret ?_
 refine bodyPost_ret (v := .slice A11 n c12) (gRes1 rfl (gResTmp (t := 2) (v := .slice A11 n c12) (lg_))) rfl ?_
 exact ⟨_, rfl, hm9.row 0 rfl, hm9.bel⟩
theorem cloneD_any (l : List UInt8) (n : Nat) (A : Option Addr) (c : Nat) (w : World) (hr : Rd w w.heap.size 16 A n c (bcs l)) (hn : n ≤ 1000000) : Calls Tryz.prog 56 #[.slice A n c] w (fun e w' => ∃ v, e = .returned v ∧ w'.ownsRow w.heap.size 27 16 v n (bcs l) ∧ Below w.heap.size w w') := by
 have hm0 := Mem.nil w
 go_enter Tryz.func56, Tryz.ntmps56
 refine litStart 8 [(0, .slice A n c)] kr_ (fun X0 => ?_)
 refine wp_seq_k fun K1 hK1 => ?_
 refine plStart ?_
 refine lk_ (.slice none 0 0) ?_
 refine plD ?_
 refine tn_ hK1 ?_
 refine wp_seq_k fun K2 hK2 => ?_
 refine wp_seq_k fun K3 hK3 => ?_
 refine plStart ?_
 refine lk_ (.slice A n c) ?_
 rcases A with _ | p_
 ·refine litVal (i := 1) (v := .bool true) rfl (wn rfl) (eqNilRun (A := none) (n := n) (c := c) (.tmp 3) (.const (.slice none 0 0)) true rfl Ty.und_L_api_Digest rfl le_ le_) rfl (by decide) ?_
  refine plD ?_
  refine tn_ hK3 ?_
  refine wp_cond_true le_ ?_
  refine wp_seq_k fun K4 hK4 => ?_
  refine plStart ?_
  refine lk_ (.slice none 0 0) ?_
  refine plD ?_
  refine tn_ hK4 ?_
  refine wp_ret ?_
  refine then_ret ?_
  refine bodyPost_ret (v := .slice none 0 0) (gRes1 rfl (gResTmp (t := 2) (v := .slice none 0 0) (lg_))) rfl ?_
  obtain ⟨rfl, hx_⟩ := rd_none hr (by decide)
  exact ⟨_, rfl, by rw [hx_]; exact World.ownsRow_nil _ _ _ _, hm0.bel⟩
 refine litVal (i := 1) (v := .bool false) rfl (wn rfl) (eqNilRun (A := some p_) (n := n) (c := c) (.tmp 3) (.const (.slice none 0 0)) false rfl Ty.und_L_api_Digest rfl le_ le_) rfl (by decide) ?_
 refine plD ?_
 refine tn_ hK3 ?_
 refine wp_cond_false le_ ?_
 refine wp_skip ?_
 refine tn_ hK2 ?_
 refine wp_seq_k fun K5 hK5 => ?_
 refine plStart ?_
 refine plLit0 Ty.sl_L_api_Digest hm0 (i := 0) rfl (wn rfl) rfl rfl ?_
 intro g6 w8 hm7
 clear hm0
 try simp only [lc1_, lc2_, lc3_, lc4_] at hm7
 refine qP rfl ?_
 refine lk_ (.slice (some p_) n c) ?_
 refine plAppR (v := .slice (some ⟨g6, 0, none⟩) 0 0) (n := 0) (xs := []) (ys := bcs l) (A := (some p_)) (m := n) (c := c) 0 Ty.sl_L_api_Digest hm7 rfl ((Rd.below hr hm7.bel).more hm7.bel.size) (i := 2) rfl (wn rfl) rfl le_ le_ (bcs_one _) (by omega) (by omega) ?_
 intro v13 w10 hm9
 clear hm7
 try simp only [lc1_, lc2_, lc3_, lc4_] at hm9
 replace hm9 := Mem.rowEq (v := v13) (e := 27) (size := 16) (n := 0 + n) (n' := n) (xs := ([]) ++ (bcs l)) (xs' := bcs l) 0 hm9 rfl (Nat.zero_add _) (rfl)
 try simp only [lc1_, lc2_, lc3_, lc4_] at hm9
 obtain ⟨A11, c12, rfl⟩ := Mem.rowSl (v := v13) (e := 27) (size := 16) (n := n) (xs := bcs l) 0 hm9 rfl
 refine qP rfl ?_
 refine lk_ (.slice A11 n c12) ?_
 refine plD ?_
 refine tn_ hK5 ?_
 refine wp_ret ?_
 refine bodyPost_ret (v := .slice A11 n c12) (gRes1 rfl (gResTmp (t := 2) (v := .slice A11 n c12) (lg_))) rfl ?_
 exact ⟨_, rfl, hm9.row 0 rfl, hm9.bel⟩
theorem cloneV_any (l : List Lv) (n : Nat) (A : Option Addr) (c : Nat) (w : World) (hr : Rd w w.heap.size 6 A n c (lvs l)) (hn : n ≤ 1000000) : Calls Tryz.prog 57 #[.slice A n c] w (fun e w' => ∃ v, e = .returned v ∧ w'.ownsRow w.heap.size 84 6 v n (lvs l) ∧ Below w.heap.size w w') := by
 have hm0 := Mem.nil w
 go_enter Tryz.func57, Tryz.ntmps57
 refine litStart 8 [(0, .slice A n c)] kr_ (fun X0 => ?_)
 refine wp_seq_k fun K1 hK1 => ?_
 refine plStart ?_
 refine lk_ (.slice none 0 0) ?_
 refine plD ?_
 refine tn_ hK1 ?_
 refine wp_seq_k fun K2 hK2 => ?_
 refine wp_seq_k fun K3 hK3 => ?_
 refine plStart ?_
 refine lk_ (.slice A n c) ?_
 rcases A with _ | p_
 ·refine litVal (i := 1) (v := .bool true) rfl (wn rfl) (eqNilRun (A := none) (n := n) (c := c) (.tmp 3) (.const (.slice none 0 0)) true rfl Ty.und_L_api_Version rfl le_ le_) rfl (by decide) ?_
  refine plD ?_
  refine tn_ hK3 ?_
  refine wp_cond_true le_ ?_
  refine wp_seq_k fun K4 hK4 => ?_
  refine plStart ?_
  refine lk_ (.slice none 0 0) ?_
  refine plD ?_
  refine tn_ hK4 ?_
  refine wp_ret ?_
  refine then_ret ?_
  refine bodyPost_ret (v := .slice none 0 0) (gRes1 rfl (gResTmp (t := 2) (v := .slice none 0 0) (lg_))) rfl ?_
  obtain ⟨rfl, hx_⟩ := rd_none hr (by decide)
  exact ⟨_, rfl, by rw [hx_]; exact World.ownsRow_nil _ _ _ _, hm0.bel⟩
 refine litVal (i := 1) (v := .bool false) rfl (wn rfl) (eqNilRun (A := some p_) (n := n) (c := c) (.tmp 3) (.const (.slice none 0 0)) false rfl Ty.und_L_api_Version rfl le_ le_) rfl (by decide) ?_
 refine plD ?_
 refine tn_ hK3 ?_
 refine wp_cond_false le_ ?_
 refine wp_skip ?_
 refine tn_ hK2 ?_
 refine wp_seq_k fun K5 hK5 => ?_
 refine plStart ?_
 refine plLit0 Ty.sl_L_api_Version hm0 (i := 0) rfl (wn rfl) rfl rfl ?_
 intro g6 w8 hm7
 clear hm0
 try simp only [lc1_, lc2_, lc3_, lc4_] at hm7
 refine qP rfl ?_
 refine lk_ (.slice (some p_) n c) ?_
 refine plAppR (v := .slice (some ⟨g6, 0, none⟩) 0 0) (n := 0) (xs := []) (ys := lvs l) (A := (some p_)) (m := n) (c := c) 0 Ty.sl_L_api_Version hm7 rfl ((Rd.below hr hm7.bel).more hm7.bel.size) (i := 2) rfl (wn rfl) rfl le_ le_ (lvs_one _) (by omega) (by omega) ?_
 intro v13 w10 hm9
 clear hm7
 try simp only [lc1_, lc2_, lc3_, lc4_] at hm9
 replace hm9 := Mem.rowEq (v := v13) (e := 84) (size := 6) (n := 0 + n) (n' := n) (xs := ([]) ++ (lvs l)) (xs' := lvs l) 0 hm9 rfl (Nat.zero_add _) (rfl)
 try simp only [lc1_, lc2_, lc3_, lc4_] at hm9
 obtain ⟨A11, c12, rfl⟩ := Mem.rowSl (v := v13) (e := 84) (size := 6) (n := n) (xs := lvs l) 0 hm9 rfl
 refine qP rfl ?_
 refine lk_ (.slice A11 n c12) ?_
 refine plD ?_
 refine tn_ hK5 ?_
 refine wp_ret ?_
 refine bodyPost_ret (v := .slice A11 n c12) (gRes1 rfl (gResTmp (t := 2) (v := .slice A11 n c12) (lg_))) rfl ?_
 exact ⟨_, rfl, hm9.row 0 rfl, hm9.bel⟩
end Go.Proofs.YtgjgjimgomhbmaaGreatDoor
