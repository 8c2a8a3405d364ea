/-
 MJ: several texts in one. No statement is proved here.
-/
import Derived.Test.YtbpihalphhoiaaaGreatDoorMZ
import Derived.Test.YtbpihalphhoiaaaGreatDoorMD
import Derived.Test.YtbpihalphhoiaaaGreatDoorME
import Derived.Test.YtbpihalphhoiaaaGreatDoorMB
import Derived.Test.YtbpihalphhoiaaaGreatDoorMI
import Derived.Test.YtbpihalphhoiaaaGreatDoorCards
import Derived.Test.YtbpihalphhoiaaaGreatDoorTie
import Derived.Test.YtbpihalphhoiaaaGreatDoorMF
import Derived.ProofKit
import Derived.OpenShut
import Derived.Deep.DeepHandedRow
import Derived.Lib.LaidTab
import Derived.Test.YtbpihalphhoiaaaGreatDoorMA
set_option maxRecDepth 100000
set_option maxHeartbeats 4000000
set_option linter.unusedVariables false
set_option linter.unusedSimpArgs false
namespace Go.Proofs.YtbpihalphhoiaaaGreatDoor
open Go.RowKit
theorem each_fr {w0 w : World} (a b : Pt) (ha : a.rng) (hb : b.rng) (vf : FuncId) (first caps : List Value) (hvf : callable Tryz.prog vf = true) (Vp : Nat → List Res → Prop) (Rp : List Res → Prop) (hvis : ∀ (i : Nat) (c : Pt) (w : World) (V M : List Res), (walk a b)[i]? = some c → Vp i V → Mem w0 w (V ++ M) → Calls Tryz.prog vf (first ++ [Value.agg (pcs c).toArray] ++ caps).toArray w (fun e w' => ∃ t V', e = .returned (.bool t) ∧ Mem w0 w' (V' ++ M) ∧ (t = true → Vp (i + 1) V') ∧ (t = false → Rp V'))) (hend : ∀ V, Vp (walk a b).length V → Rp V) (V0 : List Res) (h0 : Vp 0 V0) (R : List Res) (hm : Mem w0 w (V0 ++ R)) :
 Calls Tryz.prog 47 #[.agg (pcs a).toArray, .agg (pcs b).toArray, .func (.func vf) first.toArray caps.toArray] w (fun e w' => e = .returned (.tuple #[]) ∧ ∃ V, Mem w0 w' (V ++ R) ∧ Rp V) := by
 refine (each_any a b ha hb vf first caps hvf (fun i V => ∃ V', V = V' ++ R ∧ Vp i V') (fun V => ∃ V', V = V' ++ R ∧ Rp V') ?_ (fun V ⟨V', h1, h2⟩ => ⟨V', h1, hend V' h2⟩) (V0 ++ R) ⟨V0, rfl, h0⟩ hm).mono ?_
 ·rintro i c w V M hc ⟨V', rfl, hV⟩ hm
  refine (hvis i c w V' (R ++ M) hc hV (by rw [← List.append_assoc]; exact hm)).mono ?_
  rintro e w' ⟨t, V2, h1, h2, h3, h4⟩
  exact ⟨t, V2 ++ R, h1, by rw [List.append_assoc]; exact h2, fun ht => ⟨V2, rfl, h3 ht⟩, fun ht => ⟨V2, rfl, h4 ht⟩⟩
 ·rintro e w' ⟨h1, V, h2, V', rfl, h3⟩
  exact ⟨h1, V', h2, h3⟩
theorem memRd2 {w : World} {A B : Option Addr} {s1 n1 c1 s2 n2 c2 : Nat} {xs ys : List Value} (h1 : Rd w w.heap.size s1 A n1 c1 xs) (h2 : Rd w w.heap.size s2 B n2 c2 ys) : Mem w w [.rd A s1 n1 c1 xs, .rd B s2 n2 c2 ys] :=
 ⟨Below.refl _ _, fun r hr => by
  rcases List.mem_cons.1 hr with rfl | hr
  ·exact h1
  ·rw [List.mem_singleton] at hr; subst hr; exact h2, List.pairwise_cons.2 ⟨fun r hr => by rw [List.mem_singleton] at hr; subst hr; exact Or.inl ⟨rfl, rfl⟩, List.pairwise_singleton _ _⟩⟩
def hcs (at_ bef : Pt) (i : Int) : List Value := pcs at_ ++ pcs bef ++ [.int .i64 i]
def fV (g : Gr) (A : Option Addr) (c : Nat) (A2 : Option Addr) (c2 : Nat) (T : List Mat) (gif gtb gn gh gfo : Nat) (n : Int) (h : List Value) (fo : Bool) : List Res :=
 [.rd A 1 g.cells.length c (ics g.cells), .rd A2 8 T.length c2 (mts T), .arr gif 103 [.iface 50 (.agg (gcs g A c).toArray)], .arr gtb 29 [.slice A2 T.length c2], .arr gn 3 [.int .i64 n], .arr gh 52 h, .arr gfo 4 [.bool fo]]
def firstH (g : Gr) (T : List Mat) (a b : Pt) : List Value := if ckE a b = 0 then (match firstSol (solidAt g T) (walk a b) 0 with
 | some (k, p) => hcs p (befOf (walk a b) a k) (k : Int)
 | .none => hcs p0 p0 0) else hcs p0 p0 0
def firstE (g : Gr) (T : List Mat) (a b : Pt) : Int := if ckE a b = 0 then (match firstSol (solidAt g T) (walk a b) 0 with
 | some _ => 0
 | .none => 9) else ckE a b
section
variable {g : Gr} {T : List Mat} {a b p : Pt} {k : Nat}
theorem firstH_err (h : ¬ ckE a b = 0) : firstH g T a b = hcs p0 p0 0 := if_neg h
theorem firstE_err (h : ¬ ckE a b = 0) : firstE g T a b = ckE a b := if_neg h
theorem firstH_some (h : ckE a b = 0) (hf : firstSol (solidAt g T) (walk a b) 0 = some (k, p)) : firstH g T a b = hcs p (befOf (walk a b) a k) (k : Int) := by unfold firstH; rw [if_pos h, hf]
theorem firstE_some (h : ckE a b = 0) (hf : firstSol (solidAt g T) (walk a b) 0 = some (k, p)) : firstE g T a b = 0 := by unfold firstE; rw [if_pos h, hf]
theorem firstH_none (h : ckE a b = 0) (hf : firstSol (solidAt g T) (walk a b) 0 = .none) : firstH g T a b = hcs p0 p0 0 := by unfold firstH; rw [if_pos h, hf]
theorem firstE_none (h : ckE a b = 0) (hf : firstSol (solidAt g T) (walk a b) 0 = .none) : firstE g T a b = 9 := by unfold firstE; rw [if_pos h, hf]
end
def visB (g : Gr) (T : List Mat) (a b p : Pt) : Bool := decide (p = a) || decide (p = b) || !solidAt g T p
def vV (g : Gr) (A : Option Addr) (c : Nat) (A2 : Option Addr) (c2 : Nat) (T : List Mat) (gif gtb ga gb gfo : Nat) (a b : Pt) (fo : Bool) : List Res :=
 [.rd A 1 g.cells.length c (ics g.cells), .rd A2 8 T.length c2 (mts T), .arr gif 103 [.iface 50 (.agg (gcs g A c).toArray)], .arr gtb 29 [.slice A2 T.length c2], .arr ga 23 (pcs a), .arr gb 23 (pcs b), .arr gfo 4 [.bool fo]]
def visR (g : Gr) (T : List Mat) (a b : Pt) : Bool := if ckE a b = 0 then (walk a b).all (visB g T a b) else false
theorem visAll_no {l : List Pt} {f : Pt → Bool} {i : Nat} {p : Pt} (hc : l[i]? = some p) (h : f p = false) : l.all f = false := by
 rw [Bool.eq_false_iff]
 intro h2
 have := List.all_eq_true.1 h2 p (List.mem_of_getElem? hc)
 rw [h] at this; cases this
theorem visAll_end {g : Gr} {A : Option Addr} {c : Nat} {A2 : Option Addr} {c2 : Nat} {T : List Mat} {gif gtb ga gb gfo : Nat} {a b : Pt} {l : List Pt} {V : List Res} (h : V = vV g A c A2 c2 T gif gtb ga gb gfo a b true ∧ ∀ q ∈ l.take l.length, visB g T a b q = true) : V = vV g A c A2 c2 T gif gtb ga gb gfo a b (l.all (visB g T a b)) := by
 obtain ⟨rfl, h2⟩ := h
 rw [List.take_length] at h2
 rw [List.all_eq_true.2 h2]
def FRp (g : Gr) (A : Option Addr) (c : Nat) (A2 : Option Addr) (c2 : Nat) (T : List Mat) (gif gtb gn gh gfo : Nat) (l : List Pt) (a : Pt) (V : List Res) : Prop :=
 match firstSol (solidAt g T) l 0 with
 | some (k, p) => V = fV g A c A2 c2 T gif gtb gn gh gfo (k : Int) (hcs p (befOf l a k) (k : Int)) true
 | .none => V = fV g A c A2 c2 T gif gtb gn gh gfo (l.length : Int) (hcs p0 (befOf l a l.length) 0) false
theorem FRp_end {g : Gr} {A : Option Addr} {c : Nat} {A2 : Option Addr} {c2 : Nat} {T : List Mat} {gif gtb gn gh gfo : Nat} {a : Pt} {l : List Pt} {V : List Res} (h : V = fV g A c A2 c2 T gif gtb gn gh gfo (l.length : Int) (hcs p0 (befOf l a l.length) 0) false ∧ ∀ q ∈ l.take l.length, solidAt g T q = false) : FRp g A c A2 c2 T gif gtb gn gh gfo l a V := by
 obtain ⟨rfl, h2⟩ := h
 rw [List.take_length] at h2
 unfold FRp
 rw [firstSol_none h2]
theorem cell_any (g : Gr) (hv : g.Valid) (A : Option Addr) (c : Nat) (p : Pt) (w : World) (hrd : Rd w w.heap.size 1 A g.cells.length c (ics g.cells)) : Calls Tryz.prog 153 #[.agg (gcs g A c).toArray, .agg (pcs p).toArray] w (RetV w (.tuple #[.int .i64 (g.get p), .bool (decide (g.box.has p))])) := by
 have hm0 := Mem.nil w
 go_enter Tryz.func153, Tryz.ntmps153
 refine litStart 17 [(0, .agg (gcs g A c).toArray), (1, .agg (pcs p).toArray)] kr_ (fun X0 => ?_)
 refine sp_ fun _ hK1 => ?_
 refine plBox hm0 (cs := gcs g A c) (i := 0) rfl (wn rfl) rfl le_ ?_
 intro g2 w4 hm3
 clear hm0
 try simp only [lc_] at hm3
 refine qP rfl ?_
 refine plBox hm3 (cs := pcs p) (i := 1) rfl (wn rfl) rfl le_ ?_
 intro g5 w7 hm6
 clear hm3
 try simp only [lc_] at hm6
 refine qP rfl ?_
 refine li_ 0 ?_
 refine lF_ ?_
 refine pt_ hK1 ?_
 refine sp_ fun _ hK8 => ?_
 refine lv_ rfl (.agg (pcs p).toArray) (la_ 0 1 hm6 Ty.ag_voxel_api_Point) ?_
 refine lp_ g2 0 ?_
 refine lp_ g2 0 ?_
 refine lv_ rfl (.agg (bxs g.box).toArray) (la_ 0 0 hm6 Ty.ag_voxel_api_Box) ?_
 refine plCall (i := 4) 28 [.agg (pcs p).toArray, .agg (bxs g.box).toArray] [] [] rfl kr_ (wn rfl) rfl le_ (litArgs kr_) (in_any p g.box _) ?_
 rintro e w9 ⟨rfl, hbz⟩
 have hm10 := hm6.below hbz
 clear hbz hm6
 refine ⟨_, rfl, ?_⟩
 refine qP rfl ?_
 rcases bool_or (decide (g.box.has p)) with h11 | h11
 ·rw [h11]
  refine lF_ ?_
  refine pt_ hK8 ?_
  refine sp_ fun _ hK12 => ?_
  refine lp_ g2 0 ?_
  refine lv_ rfl (.agg (gcs g A c).toArray) (la_ 0 0 hm10 Ty.ag_voxel_api_Grid) ?_
  refine lv_ rfl (.agg (pcs p).toArray) (la_ 0 1 hm10 Ty.ag_voxel_api_Point) ?_
  refine plCall (i := 3) 26 [.agg (gcs g A c).toArray, .agg (pcs p).toArray] [] [] rfl kr_ (wn rfl) rfl le_ (litArgs kr_) (get_any g hv A c p _ ((Rd.below hrd hm10.bel).more hm10.bel.size)) ?_
  rintro e w13 ⟨rfl, hbz⟩
  have hm14 := hm10.below hbz
  clear hbz hm10
  refine ⟨_, rfl, ?_⟩
  refine qP rfl ?_
  refine lF_ ?_
  refine li_ (g.get p) ?_
  refine lF_ ?_
  refine pt_ hK12 ?_
  refine wpPrune [(4, .int .i64 (g.get p)), (5, .bool false)] fo_ (fun X15 => ?_)
  refine wp_ret ?_
  refine bodyPost_ret (v := .tuple #[.int .i64 (g.get p), .bool false]) (gRes2 rfl (gResTmp (t := 4) (v := .int .i64 (g.get p)) (lg_)) (gResTmp (t := 5) (v := .bool false) (lg_))) rfl ?_
  exact ⟨by rw [h11], hm14.bel⟩
 rw [h11]
 refine lT_ ?_
 refine pt_ hK8 ?_
 refine sp_ fun _ hK16 => ?_
 refine lp_ g2 0 ?_
 refine lv_ rfl (.agg (gcs g A c).toArray) (la_ 0 0 hm10 Ty.ag_voxel_api_Grid) ?_
 refine lv_ rfl (.agg (pcs p).toArray) (la_ 0 1 hm10 Ty.ag_voxel_api_Point) ?_
 refine plCall (i := 3) 26 [.agg (gcs g A c).toArray, .agg (pcs p).toArray] [] [] rfl kr_ (wn rfl) rfl le_ (litArgs kr_) (get_any g hv A c p _ ((Rd.below hrd hm10.bel).more hm10.bel.size)) ?_
 rintro e w17 ⟨rfl, hbz⟩
 have hm18 := hm10.below hbz
 clear hbz hm10
 refine ⟨_, rfl, ?_⟩
 refine qP rfl ?_
 refine lT_ ?_
 refine li_ (g.get p) ?_
 refine lT_ ?_
 refine pt_ hK16 ?_
 refine wpPrune [(4, .int .i64 (g.get p)), (5, .bool true)] fo_ (fun X19 => ?_)
 refine wp_ret ?_
 refine bodyPost_ret (v := .tuple #[.int .i64 (g.get p), .bool true]) (gRes2 rfl (gResTmp (t := 4) (v := .int .i64 (g.get p)) (lg_)) (gResTmp (t := 5) (v := .bool true) (lg_))) rfl ?_
 exact ⟨by rw [h11], hm18.bel⟩
theorem solid_any (g : Gr) (hv : g.Valid) (T : List Mat) (A : Option Addr) (c : Nat) (A2 : Option Addr) (c2 : Nat) (p : Pt) (w : World) (hrd : Rd w w.heap.size 1 A g.cells.length c (ics g.cells)) (htb : Rd w w.heap.size 8 A2 T.length c2 (mts T)) : Calls Tryz.prog 49 #[.iface 50 (.agg (gcs g A c).toArray), .slice A2 T.length c2, .agg (pcs p).toArray] w (RetV w (.bool (solidAt g T p))) := by
 have hm0 := Mem.nil w
 go_enter Tryz.func49, Tryz.ntmps49
 refine litStart 21 [(0, .iface 50 (.agg (gcs g A c).toArray)), (1, .slice A2 T.length c2), (2, .agg (pcs p).toArray)] kr_ (fun X0 => ?_)
 refine sp_ fun _ hK1 => ?_
 refine plBox hm0 (cs := pcs p) (i := 0) rfl (wn rfl) rfl le_ ?_
 intro g2 w4 hm3
 clear hm0
 try simp only [lc_] at hm3
 refine qP rfl ?_
 refine lF_ ?_
 refine pt_ hK1 ?_
 refine sp_ fun _ hK5 => ?_
 refine lk_ (.iface 50 (.agg (gcs g A c).toArray)) ?_
 refine lv_ rfl (.agg (pcs p).toArray) (la_ 0 0 hm3 Ty.ag_voxel_api_Point) ?_
 rcases bool_or (decide (g.box.has p)) with h6 | h6
 ·refine plInv (i := 2) 153 50 (.agg (gcs g A c).toArray) [.agg (pcs p).toArray] rfl kr_ (wn rfl) rfl le_ (fun _ => by kernel_rfl) (litArgs kr_) (cell_any g hv A c p _ ((Rd.below hrd hm3.bel).more hm3.bel.size)) ?_
  rintro e w7 ⟨rfl, hbz⟩
  have hm8 := hm3.below hbz
  clear hbz hm3
  rw [h6]
  refine ⟨_, rfl, ?_⟩
  refine qP rfl ?_
  refine lk_ (.tuple #[.int .i64 (g.get p), .bool false]) ?_
  refine li_ (g.get p) ?_
  refine lF_ ?_
  refine li_ (g.get p) ?_
  refine lF_ ?_
  refine pt_ hK5 ?_
  refine sp_ fun _ hK9 => ?_
  refine lF_ ?_
  refine lF_ ?_
  refine ps_ (i := 2) ?_
  refine ps_ (i := 3) ?_
  refine ps_ (i := 4) ?_
  refine lF_ ?_
  refine lF_ ?_
  refine pt_ hK9 ?_
  refine wpPrune [(6, .bool false)] fo_ (fun X10 => ?_)
  refine wp_ret ?_
  refine br_ 6 (.bool false) ?_
  exact ⟨congrArg (fun b_ => Ending.returned (.bool b_)) (show _ = solidAt g T p from by unfold solidAt; rw [h6]; rfl), hm8.bel⟩
 refine plInv (i := 2) 153 50 (.agg (gcs g A c).toArray) [.agg (pcs p).toArray] rfl kr_ (wn rfl) rfl le_ (fun _ => by kernel_rfl) (litArgs kr_) (cell_any g hv A c p _ ((Rd.below hrd hm3.bel).more hm3.bel.size)) ?_
 rintro e w11 ⟨rfl, hbz⟩
 have hm12 := hm3.below hbz
 clear hbz hm3
 rw [h6]
 refine ⟨_, rfl, ?_⟩
 refine qP rfl ?_
 refine lk_ (.tuple #[.int .i64 (g.get p), .bool true]) ?_
 refine li_ (g.get p) ?_
 refine lT_ ?_
 refine li_ (g.get p) ?_
 refine lT_ ?_
 refine pt_ hK5 ?_
 refine sp_ fun _ hK13 => ?_
 refine lT_ ?_
 refine lT_ ?_
 refine lw_ rfl (.slice A2 T.length c2) (litRun kr_) ?_
 refine lw_ rfl (.int .i64 (g.get p)) (litRun kr_) ?_
 refine plCall (i := 4) 29 [.slice A2 T.length c2, .int .i64 (g.get p)] [] [] rfl kr_ (wgY rfl rfl rfl (by decide) kr_) rfl le_ (litArgs kr_) (solidM_any T (g.get p) A2 c2 _ ((Rd.below htb hm12.bel).more hm12.bel.size)) ?_
 rintro e w14 ⟨rfl, hbz⟩
 have hm15 := hm12.below hbz
 clear hbz hm12
 refine ⟨_, rfl, ?_⟩
 refine qP rfl ?_
 rcases bool_or ((matAt T ((g.get p))).solid) with h16 | h16
 ·rw [h16]
  refine lF_ ?_
  refine lF_ ?_
  refine pt_ hK13 ?_
  refine wpPrune [(6, .bool false)] fo_ (fun X17 => ?_)
  refine wp_ret ?_
  refine br_ 6 (.bool false) ?_
  exact ⟨congrArg (fun b_ => Ending.returned (.bool b_)) (show _ = solidAt g T p from by unfold solidAt; rw [h6, h16]; rfl), hm15.bel⟩
 rw [h16]
 refine lT_ ?_
 refine lT_ ?_
 refine pt_ hK13 ?_
 refine wpPrune [(6, .bool true)] fo_ (fun X18 => ?_)
 refine wp_ret ?_
 refine br_ 6 (.bool true) ?_
 exact ⟨congrArg (fun b_ => Ending.returned (.bool b_)) (show _ = solidAt g T p from by unfold solidAt; rw [h6, h16]; rfl), hm15.bel⟩
theorem visFirst_any {w0 w : World} (g : Gr) (hv : g.Valid) (T : List Mat) (A : Option Addr) (c : Nat) (A2 : Option Addr) (c2 : Nat) (gif gtb gn gh gfo : Nat) (l : List Pt) (a : Pt) (hl : l.length ≤ 1000000) (i : Nat) (p : Pt) (V M : List Res) (hc : l[i]? = some p) (hV : V = fV g A c A2 c2 T gif gtb gn gh gfo (i : Int) (hcs p0 (befOf l a i) 0) false ∧ ∀ q ∈ l.take i, solidAt g T q = false) (hm : Mem w0 w (V ++ M)) : Calls Tryz.prog 48 #[.agg (pcs p).toArray, .pointer (some ⟨gif, 0, none⟩), .pointer (some ⟨gtb, 0, none⟩), .pointer (some ⟨gn, 0, none⟩), .pointer (some ⟨gh, 0, none⟩), .pointer (some ⟨gfo, 0, none⟩)] w (fun e w' => ∃ t V', e = .returned (.bool t) ∧ Mem w0 w' (V' ++ M) ∧ (t = true → V' = fV g A c A2 c2 T gif gtb gn gh gfo ((i + 1 : Nat) : Int) (hcs p0 (befOf l a (i + 1)) 0) false ∧ ∀ q ∈ l.take (i + 1), solidAt g T q = false) ∧ (t = false → FRp g A c A2 c2 T gif gtb gn gh gfo l a V')) := by
 obtain ⟨rfl, hno⟩ := hV
 have hil := (List.getElem?_eq_some_iff.1 hc).1
 have hm0 := hm
 go_enter Tryz.func48, Tryz.ntmps48
 refine litStart 20 [(0, .agg (pcs p).toArray), (1, .pointer (some ⟨gif, 0, none⟩)), (2, .pointer (some ⟨gtb, 0, none⟩)), (3, .pointer (some ⟨gn, 0, none⟩)), (4, .pointer (some ⟨gh, 0, none⟩)), (5, .pointer (some ⟨gfo, 0, none⟩))] kr_ (fun X0 => ?_)
 refine sp_ fun _ hK1 => ?_
 refine plBox hm0 (cs := pcs p) (i := 0) rfl (wn rfl) rfl le_ ?_
 intro g2 w4 hm3
 clear hm0
 try simp only [lc_] at hm3
 replace hm3 := hm3.i7
 refine qP rfl ?_
 refine lF_ ?_
 refine pt_ hK1 ?_
 refine sk_ fun _ hK5 => ?_
 refine sp_ fun _ hK6 => ?_
 refine lv_ rfl (.iface 50 (.agg (gcs g A c).toArray)) (ld_ 0 2 hm3) ?_
 refine lv_ rfl (.slice A2 T.length c2) (ld_ 0 3 hm3) ?_
 refine lv_ rfl (.agg (pcs p).toArray) (la_ 0 7 hm3 Ty.ag_voxel_api_Point) ?_
 refine plCall (i := 3) 49 [.iface 50 (.agg (gcs g A c).toArray), .slice A2 T.length c2, .agg (pcs p).toArray] [] [] rfl kr_ (wn rfl) rfl le_ (litArgs kr_) (solid_any g hv T A c A2 c2 p _ (hm3.rd 0 rfl) (hm3.rd 1 rfl)) ?_
 rintro e w7 ⟨rfl, hbz⟩
 have hm8 := hm3.below hbz
 clear hbz hm3
 refine ⟨_, rfl, ?_⟩
 refine qP rfl ?_
 rcases bool_or (solidAt g T p) with h9 | h9
 ·rw [h9]
  refine pt_ hK6 ?_
  refine wp_cond_false le_ ?_
  refine wp_skip ?_
  refine tn_ hK5 ?_
  refine sp_ fun _ hK10 => ?_
  refine lv_ rfl (.agg (pcs p).toArray) (la_ 0 7 hm8 Ty.ag_voxel_api_Point) ?_
  refine lp_ gh 3 ?_
  refine plStoreAt 5 Ty.ag_voxel_api_Point hm8 rfl (i := 2) (cs := pcs p) (k := 3) rfl (wn rfl) rfl le_ le_ kr_ rfl kr_ ?_
  intro w12 hm11
  clear hm8
  have hm13 : Mem w0 w12 ((.rd A 1 g.cells.length c (ics g.cells)) :: (.rd A2 8 T.length c2 (mts T)) :: (.arr gif 103 ([.iface 50 (.agg (gcs g A c).toArray)])) :: (.arr gtb 29 ([.slice A2 T.length c2])) :: (.arr gn 3 ([.int .i64 (i : Int)])) :: (.arr gh 52 ([.int .i64 0, .int .i64 0, .int .i64 0, .int .i64 p.x, .int .i64 p.y, .int .i64 p.z, .int .i64 0])) :: (.arr gfo 4 ([.bool false])) :: (.arr g2 23 (pcs p)) :: M) := hm11
  clear hm11
  refine qNone rfl ?_
  refine pt_ hK10 ?_
  refine sp_ fun _ hK14 => ?_
  refine lv_ rfl (.int .i64 (i : Int)) (ld_ 0 4 hm13) ?_
  refine lv_ rfl (.int .i64 ((i + 1 : Nat) : Int)) (addRun (A := (i : Int)) (B := 1) (C := ((i + 1 : Nat) : Int)) (.tmp 18) (.const (.int .i64 1)) rfl le_ le_ (by omega) (by omega)) ?_
  refine plStore1 (v := .int .i64 ((i + 1 : Nat) : Int)) (k := 0) 4 kr_ hm13 rfl (i := 2) rfl (wn rfl) rfl le_ le_ rfl rfl rfl ?_
  intro w16 hm15
  clear hm13
  try simp only [lc_] at hm15
  refine qNone rfl ?_
  refine pt_ hK14 ?_
  refine wpPrune [(7, .bool false)] fo_ (fun X17 => ?_)
  refine sp_ fun _ hK18 => ?_
  refine lT_ ?_
  refine pt_ hK18 ?_
  refine wp_ret ?_
  refine br_ 7 (.bool true) ?_
  exact ⟨true, _, rfl, hm15.keep 7 1, fun _ => ⟨by rw [befOf_succ hc]; rfl, take_all_succ hc hno h9⟩, (fun h_ => (by cases h_))⟩
 rw [h9]
 refine pt_ hK6 ?_
 refine wp_cond_true le_ ?_
 refine sk_ fun _ hK19 => ?_
 refine aoStart (aoV [fun _ => .agg (pcs p).toArray, fun _ => .int .i64 (i : Int), fun _ => .pointer (some ⟨gh, 0, none⟩), fun _ => undef, fun _ => .pointer (some ⟨gh, 6, none⟩), fun _ => undef, fun _ => undef]) (aoA [[], [], [], [], [], [], []]) (fun b_ g_ => ((.rd A 1 g.cells.length c (ics g.cells)) :: (.rd A2 8 T.length c2 (mts T)) :: (.arr gif 103 ([.iface 50 (.agg (gcs g A c).toArray)])) :: (.arr gtb 29 ([.slice A2 T.length c2])) :: (.arr gn 3 ([.int .i64 (i : Int)])) :: (.arr gh 52 (bsel (b_ 5) [.int .i64 p.x, .int .i64 p.y, .int .i64 p.z, .int .i64 ((befOf l a i).x), .int .i64 ((befOf l a i).y), .int .i64 ((befOf l a i).z), .int .i64 (i : Int)] (bsel (b_ 3) [.int .i64 p.x, .int .i64 p.y, .int .i64 p.z, .int .i64 ((befOf l a i).x), .int .i64 ((befOf l a i).y), .int .i64 ((befOf l a i).z), .int .i64 0] (hcs p0 (befOf l a i) 0)))) :: (.arr gfo 4 (bsel (b_ 6) [.bool true] [.bool false])) :: (.arr g2 23 (pcs p)) :: M)) hm8 kr_ kr_ (fun w_ h_ => h_) (fun b_ g_ h_ => by show (fun (x3_ x5_ x6_ : Bool) => (((.rd A 1 g.cells.length c (ics g.cells)) :: (.rd A2 8 T.length c2 (mts T)) :: (.arr gif 103 ([.iface 50 (.agg (gcs g A c).toArray)])) :: (.arr gtb 29 ([.slice A2 T.length c2])) :: (.arr gn 3 ([.int .i64 (i : Int)])) :: (.arr gh 52 (bsel x5_ [.int .i64 p.x, .int .i64 p.y, .int .i64 p.z, .int .i64 ((befOf l a i).x), .int .i64 ((befOf l a i).y), .int .i64 ((befOf l a i).z), .int .i64 (i : Int)] (bsel x3_ [.int .i64 p.x, .int .i64 p.y, .int .i64 p.z, .int .i64 ((befOf l a i).x), .int .i64 ((befOf l a i).y), .int .i64 ((befOf l a i).z), .int .i64 0] (hcs p0 (befOf l a i) 0)))) :: (.arr gfo 4 (bsel x6_ [.bool true] [.bool false])) :: (.arr g2 23 (pcs p)) :: M) : List Res)) (b_ 3) (b_ 5) (b_ 6) = _; rw [h_ 3 (by decide), h_ 5 (by decide), h_ 6 (by decide)]) ?_ ?_
 ·refine aoNext rfl (aoV_ (fun b_ g_ X_ w_ h_b h_ => valTo (b := .agg (pcs p).toArray) kr_ ((fun (h_ : Mem _ w_ ((.rd A 1 g.cells.length c (ics g.cells)) :: (.rd A2 8 T.length c2 (mts T)) :: (.arr gif 103 ([.iface 50 (.agg (gcs g A c).toArray)])) :: (.arr gtb 29 ([.slice A2 T.length c2])) :: (.arr gn 3 ([.int .i64 (i : Int)])) :: (.arr gh 52 (hcs p0 (befOf l a i) 0)) :: (.arr gfo 4 ([.bool false])) :: (.arr g2 23 (pcs p)) :: M)) => gLoadAg (vs := pcs p) (k := 0) 7 h_ rfl kr_ kr_ (.tmp 6) Ty.ag_voxel_api_Point rfl le_) (by have h2_ : Mem w0 w_ ((.rd A 1 g.cells.length c (ics g.cells)) :: (.rd A2 8 T.length c2 (mts T)) :: (.arr gif 103 ([.iface 50 (.agg (gcs g A c).toArray)])) :: (.arr gtb 29 ([.slice A2 T.length c2])) :: (.arr gn 3 ([.int .i64 (i : Int)])) :: (.arr gh 52 (bsel (b_ 5) [.int .i64 p.x, .int .i64 p.y, .int .i64 p.z, .int .i64 ((befOf l a i).x), .int .i64 ((befOf l a i).y), .int .i64 ((befOf l a i).z), .int .i64 (i : Int)] (bsel (b_ 3) [.int .i64 p.x, .int .i64 p.y, .int .i64 p.z, .int .i64 ((befOf l a i).x), .int .i64 ((befOf l a i).y), .int .i64 ((befOf l a i).z), .int .i64 0] (hcs p0 (befOf l a i) 0)))) :: (.arr gfo 4 (bsel (b_ 6) [.bool true] [.bool false])) :: (.arr g2 23 (pcs p)) :: M) := h_; rw [bselF (h_b.post 5 kr_), bselF (h_b.post 3 kr_), bselF (h_b.post 6 kr_)] at h2_; exact h2_)))) ?_
  refine aoNext rfl (aoV_ (fun b_ g_ X_ w_ h_b h_ => valTo (b := .int .i64 (i : Int)) kr_ ((fun (h_ : Mem _ w_ ((.rd A 1 g.cells.length c (ics g.cells)) :: (.rd A2 8 T.length c2 (mts T)) :: (.arr gif 103 ([.iface 50 (.agg (gcs g A c).toArray)])) :: (.arr gtb 29 ([.slice A2 T.length c2])) :: (.arr gn 3 ([.int .i64 (i : Int)])) :: (.arr gh 52 (bsel (b_ 5) [.int .i64 p.x, .int .i64 p.y, .int .i64 p.z, .int .i64 ((befOf l a i).x), .int .i64 ((befOf l a i).y), .int .i64 ((befOf l a i).z), .int .i64 (i : Int)] (bsel (b_ 3) [.int .i64 p.x, .int .i64 p.y, .int .i64 p.z, .int .i64 ((befOf l a i).x), .int .i64 ((befOf l a i).y), .int .i64 ((befOf l a i).z), .int .i64 0] (hcs p0 (befOf l a i) 0)))) :: (.arr gfo 4 ([.bool false])) :: (.arr g2 23 (pcs p)) :: M)) => gLoad (v := .int .i64 (i : Int)) (k := 0) 4 h_ rfl kr_ (.tmp 3) kr_ rfl le_) (by have h2_ : Mem w0 w_ ((.rd A 1 g.cells.length c (ics g.cells)) :: (.rd A2 8 T.length c2 (mts T)) :: (.arr gif 103 ([.iface 50 (.agg (gcs g A c).toArray)])) :: (.arr gtb 29 ([.slice A2 T.length c2])) :: (.arr gn 3 ([.int .i64 (i : Int)])) :: (.arr gh 52 (bsel (b_ 5) [.int .i64 p.x, .int .i64 p.y, .int .i64 p.z, .int .i64 ((befOf l a i).x), .int .i64 ((befOf l a i).y), .int .i64 ((befOf l a i).z), .int .i64 (i : Int)] (bsel (b_ 3) [.int .i64 p.x, .int .i64 p.y, .int .i64 p.z, .int .i64 ((befOf l a i).x), .int .i64 ((befOf l a i).y), .int .i64 ((befOf l a i).z), .int .i64 0] (hcs p0 (befOf l a i) 0)))) :: (.arr gfo 4 (bsel (b_ 6) [.bool true] [.bool false])) :: (.arr g2 23 (pcs p)) :: M) := h_; rw [bselF (h_b.post 6 kr_)] at h2_; exact h2_)))) ?_
  refine aoNext rfl aoK_ ?_
  refine aoNext rfl (aoStore (gb := fun g_ => gh) (k := 0) (cur := fun g_ => hcs p0 (befOf l a i) 0) (vs := fun g_ => pcs p) 5 (fun g_ => [(12, .agg (pcs p).toArray), (14, .pointer (some ⟨gh, 0, none⟩))]) (fun g_ a_ h_k => ⟨(h_k.inn 0 _ _ kr_ rfl rfl).trans kr_, (h_k.inn 2 _ _ kr_ rfl rfl).trans kr_, trivial⟩) Ty.ag_voxel_api_Point (fun b_ g_ h_b => by show some (Res.arr gh 52 (bsel (b_ 5) [.int .i64 p.x, .int .i64 p.y, .int .i64 p.z, .int .i64 ((befOf l a i).x), .int .i64 ((befOf l a i).y), .int .i64 ((befOf l a i).z), .int .i64 (i : Int)] (bsel (b_ 3) [.int .i64 p.x, .int .i64 p.y, .int .i64 p.z, .int .i64 ((befOf l a i).x), .int .i64 ((befOf l a i).y), .int .i64 ((befOf l a i).z), .int .i64 0] (hcs p0 (befOf l a i) 0)))) = some (Res.arr gh 52 (hcs p0 (befOf l a i) 0)); rw [bselF (h_b.post 5 kr_), bselF h_b.no]) (fun g_ X_ => (wn rfl)) rfl (fun g_ X_ => litEv kr_) (fun g_ X_ => litEv kr_) (fun _ => by kernel_rfl) (fun _ => by kernel_rfl) (fun _ => by kernel_rfl) (fun b_ g_ h_b => Eq.trans kr_ (congrArg (fun x_ => List.set _ 5 (Res.arr gh 52 x_)) (bselF (α := List Value) (h_b.post 5 kr_) [.int .i64 p.x, .int .i64 p.y, .int .i64 p.z, .int .i64 ((befOf l a i).x), .int .i64 ((befOf l a i).y), .int .i64 ((befOf l a i).z), .int .i64 (i : Int)] [.int .i64 p.x, .int .i64 p.y, .int .i64 p.z, .int .i64 ((befOf l a i).x), .int .i64 ((befOf l a i).y), .int .i64 ((befOf l a i).z), .int .i64 0]))) rfl) ?_
  refine aoNext rfl aoK_ ?_
  refine aoNext rfl (aoStore1 (gb := fun g_ => gh) (k := 6) (cur := fun g_ => [.int .i64 p.x, .int .i64 p.y, .int .i64 p.z, .int .i64 ((befOf l a i).x), .int .i64 ((befOf l a i).y), .int .i64 ((befOf l a i).z), .int .i64 0]) (v := fun g_ => .int .i64 (i : Int)) (v0 := fun g_ => .int .i64 0) 5 (fun g_ => [(13, .int .i64 (i : Int)), (15, .pointer (some ⟨gh, 6, none⟩))]) (fun g_ a_ h_k => ⟨(h_k.inn 1 _ _ kr_ rfl rfl).trans kr_, (h_k.inn 4 _ _ kr_ rfl rfl).trans kr_, trivial⟩) kr_ (fun b_ g_ h_b => by show some (Res.arr gh 52 (bsel (b_ 5) [.int .i64 p.x, .int .i64 p.y, .int .i64 p.z, .int .i64 ((befOf l a i).x), .int .i64 ((befOf l a i).y), .int .i64 ((befOf l a i).z), .int .i64 (i : Int)] (bsel (b_ 3) [.int .i64 p.x, .int .i64 p.y, .int .i64 p.z, .int .i64 ((befOf l a i).x), .int .i64 ((befOf l a i).y), .int .i64 ((befOf l a i).z), .int .i64 0] (hcs p0 (befOf l a i) 0)))) = some (Res.arr gh 52 ([.int .i64 p.x, .int .i64 p.y, .int .i64 p.z, .int .i64 ((befOf l a i).x), .int .i64 ((befOf l a i).y), .int .i64 ((befOf l a i).z), .int .i64 0])); rw [bselF h_b.no, bselT (h_b.pre 3 kr_)]) (fun g_ X_ => (wn rfl)) rfl (fun g_ X_ => litEv kr_) (fun g_ X_ => litEv kr_) (fun _ => rfl) (fun _ => rfl) (fun _ => rfl) (fun b_ g_ h_b => by kernel_rfl) rfl) ?_
  refine aoNext rfl (aoStore1 (gb := fun g_ => gfo) (k := 0) (cur := fun g_ => [.bool false]) (v := fun g_ => .bool true) (v0 := fun g_ => .bool false) 6 (fun g_ => [(5, .pointer (some ⟨gfo, 0, none⟩))]) (fun g_ a_ h_k => ⟨(h_k.out 5 kr_).trans (lg_), trivial⟩) kr_ (fun b_ g_ h_b => by show some (Res.arr gfo 4 (bsel (b_ 6) [.bool true] [.bool false])) = some (Res.arr gfo 4 ([.bool false])); rw [bselF h_b.no]) (fun g_ X_ => (wn rfl)) rfl (fun g_ X_ => litEv kr_) (fun g_ X_ => litEv kr_) (fun _ => rfl) (fun _ => rfl) (fun _ => rfl) (fun b_ g_ h_b => by kernel_rfl) rfl) ?_
  exact aoDone (by decide)
 intro g_ a_ w21 hF_ hm20
 obtain ⟨X22, rfl⟩ := frLit (⟨hF_.size, hF_.defers, ⟨hF_.o_ 3, hF_.o_ 4, hF_.o_ 6, hF_.o_ 7, hF_.i_ 0, hF_.i_ 1, hF_.i_ 2, hF_.i_ 4, trivial⟩⟩ : Fr _ 20 [(3, .pointer (some ⟨gn, 0, none⟩)), (4, .pointer (some ⟨gh, 0, none⟩)), (6, .pointer (some ⟨g2, 0, none⟩)), (7, .bool false), (12, .agg (pcs p).toArray), (13, .int .i64 (i : Int)), (14, .pointer (some ⟨gh, 0, none⟩)), (15, .pointer (some ⟨gh, 6, none⟩))])
 clear hF_
 have hm23 : Mem w0 w21 ((.rd A 1 g.cells.length c (ics g.cells)) :: (.rd A2 8 T.length c2 (mts T)) :: (.arr gif 103 ([.iface 50 (.agg (gcs g A c).toArray)])) :: (.arr gtb 29 ([.slice A2 T.length c2])) :: (.arr gn 3 ([.int .i64 (i : Int)])) :: (.arr gh 52 ([.int .i64 p.x, .int .i64 p.y, .int .i64 p.z, .int .i64 ((befOf l a i).x), .int .i64 ((befOf l a i).y), .int .i64 ((befOf l a i).z), .int .i64 (i : Int)])) :: (.arr gfo 4 ([.bool true])) :: (.arr g2 23 (pcs p)) :: M) := hm20
 clear hm20 hm8
 refine tn_ hK19 ?_
 refine sp_ fun _ hK24 => ?_
 refine lF_ ?_
 refine pt_ hK24 ?_
 refine wp_ret ?_
 refine then_ret ?_
 refine br_ 7 (.bool false) ?_
 exact ⟨false, _, rfl, hm23.keep 7 1, (fun h_ => (by cases h_)), fun _ => by unfold FRp; rw [firstSol_some hc h9 hno, Nat.zero_add]; rfl⟩
theorem visVis_any {w0 w : World} (g : Gr) (hv : g.Valid) (T : List Mat) (A : Option Addr) (c : Nat) (A2 : Option Addr) (c2 : Nat) (gif gtb ga gb gfo : Nat) (l : List Pt) (a b : Pt) (i : Nat) (p : Pt) (V M : List Res) (hc : l[i]? = some p) (hV : V = vV g A c A2 c2 T gif gtb ga gb gfo a b true ∧ ∀ q ∈ l.take i, visB g T a b q = true) (hm : Mem w0 w (V ++ M)) : Calls Tryz.prog 50 #[.agg (pcs p).toArray, .pointer (some ⟨ga, 0, none⟩), .pointer (some ⟨gb, 0, none⟩), .pointer (some ⟨gif, 0, none⟩), .pointer (some ⟨gtb, 0, none⟩), .pointer (some ⟨gfo, 0, none⟩)] w (fun e w' => ∃ t V', e = .returned (.bool t) ∧ Mem w0 w' (V' ++ M) ∧ (t = true → V' = vV g A c A2 c2 T gif gtb ga gb gfo a b true ∧ ∀ q ∈ l.take (i + 1), visB g T a b q = true) ∧ (t = false → V' = vV g A c A2 c2 T gif gtb ga gb gfo a b (l.all (visB g T a b)))) := by
 obtain ⟨rfl, hno⟩ := hV
 have hm0 := hm
 go_enter Tryz.func50, Tryz.ntmps50
 refine litStart 24 [(0, .agg (pcs p).toArray), (1, .pointer (some ⟨ga, 0, none⟩)), (2, .pointer (some ⟨gb, 0, none⟩)), (3, .pointer (some ⟨gif, 0, none⟩)), (4, .pointer (some ⟨gtb, 0, none⟩)), (5, .pointer (some ⟨gfo, 0, none⟩))] kr_ (fun X0 => ?_)
 refine sp_ fun _ hK1 => ?_
 refine plBox hm0 (cs := pcs p) (i := 0) rfl (wn rfl) rfl le_ ?_
 intro g2 w4 hm3
 clear hm0
 try simp only [lc_] at hm3
 replace hm3 := hm3.i7
 refine qP rfl ?_
 refine lF_ ?_
 refine pt_ hK1 ?_
 refine sp_ fun _ hK5 => ?_
 refine lv_ rfl (.agg (pcs p).toArray) (la_ 0 7 hm3 Ty.ag_voxel_api_Point) ?_
 refine lv_ rfl (.agg (pcs a).toArray) (la_ 0 4 hm3 Ty.ag_voxel_api_Point) ?_
 by_cases h6 : p = a
 ·refine lv_ rfl (.bool true) (boolTo (decide_eq_true h6) (eqPtRun (.tmp 8) (.tmp 9) p a kr_ kr_ kr_ kr_ rfl le_ le_)) ?_
  refine lT_ ?_
  refine ps_ (i := 4) ?_
  refine ps_ (i := 5) ?_
  refine ps_ (i := 6) ?_
  refine lT_ ?_
  refine lT_ ?_
  refine ps_ (i := 9) ?_
  refine ps_ (i := 10) ?_
  refine ps_ (i := 11) ?_
  refine ps_ (i := 12) ?_
  refine ps_ (i := 13) ?_
  refine lT_ ?_
  refine plStore1 (v := .bool true) (k := 0) 6 kr_ hm3 rfl (i := 15) rfl (wn rfl) rfl le_ le_ rfl rfl rfl ?_
  intro w8 hm7
  clear hm3
  try simp only [lc_] at hm7
  refine qNone rfl ?_
  refine pt_ hK5 ?_
  refine wpPrune [(5, .pointer (some ⟨gfo, 0, none⟩)), (7, .bool false)] fo_ (fun X9 => ?_)
  refine sp_ fun _ hK10 => ?_
  refine lv_ rfl (.bool true) (ld_ 0 6 hm7) ?_
  refine lT_ ?_
  refine pt_ hK10 ?_
  refine wp_ret ?_
  refine br_ 7 (.bool true) ?_
  exact ⟨true, _, rfl, hm7.keep 7 1, fun _ => ⟨rfl, take_all_succ hc hno (by unfold visB; simp [h6])⟩, (fun h_ => (by cases h_))⟩
 refine lv_ rfl (.bool false) (boolTo (decide_eq_false h6) (eqPtRun (.tmp 8) (.tmp 9) p a kr_ kr_ kr_ kr_ rfl le_ le_)) ?_
 refine lF_ ?_
 refine lw_ rfl (.agg (pcs p).toArray) (la_ 0 7 hm3 Ty.ag_voxel_api_Point) ?_
 refine lw_ rfl (.agg (pcs b).toArray) (la_ 0 5 hm3 Ty.ag_voxel_api_Point) ?_
 by_cases h11 : p = b
 ·refine lw_ rfl (.bool true) (boolTo (decide_eq_true h11) (eqPtRun (.tmp 12) (.tmp 13) p b kr_ kr_ kr_ kr_ rfl le_ le_)) ?_
  refine lT_ ?_
  refine lT_ ?_
  refine ps_ (i := 9) ?_
  refine ps_ (i := 10) ?_
  refine ps_ (i := 11) ?_
  refine ps_ (i := 12) ?_
  refine ps_ (i := 13) ?_
  refine lT_ ?_
  refine plStore1 (v := .bool true) (k := 0) 6 kr_ hm3 rfl (i := 15) rfl (wn rfl) rfl le_ le_ rfl rfl rfl ?_
  intro w13 hm12
  clear hm3
  try simp only [lc_] at hm12
  refine qNone rfl ?_
  refine pt_ hK5 ?_
  refine wpPrune [(5, .pointer (some ⟨gfo, 0, none⟩)), (7, .bool false)] fo_ (fun X14 => ?_)
  refine sp_ fun _ hK15 => ?_
  refine lv_ rfl (.bool true) (ld_ 0 6 hm12) ?_
  refine lT_ ?_
  refine pt_ hK15 ?_
  refine wp_ret ?_
  refine br_ 7 (.bool true) ?_
  exact ⟨true, _, rfl, hm12.keep 7 1, fun _ => ⟨rfl, take_all_succ hc hno (by unfold visB; simp [h6, h11])⟩, (fun h_ => (by cases h_))⟩
 refine lw_ rfl (.bool false) (boolTo (decide_eq_false h11) (eqPtRun (.tmp 12) (.tmp 13) p b kr_ kr_ kr_ kr_ rfl le_ le_)) ?_
 refine lF_ ?_
 refine lF_ ?_
 refine lw_ rfl (.iface 50 (.agg (gcs g A c).toArray)) (ld_ 0 2 hm3) ?_
 refine lw_ rfl (.slice A2 T.length c2) (ld_ 0 3 hm3) ?_
 refine lw_ rfl (.agg (pcs p).toArray) (la_ 0 7 hm3 Ty.ag_voxel_api_Point) ?_
 refine plCall (i := 12) 49 [.iface 50 (.agg (gcs g A c).toArray), .slice A2 T.length c2, .agg (pcs p).toArray] [] [] rfl kr_ (wgY rfl rfl rfl (by decide) kr_) rfl le_ (litArgs kr_) (solid_any g hv T A c A2 c2 p _ (hm3.rd 0 rfl) (hm3.rd 1 rfl)) ?_
 rintro e w16 ⟨rfl, hbz⟩
 have hm17 := hm3.below hbz
 clear hbz hm3
 refine ⟨_, rfl, ?_⟩
 refine qP rfl ?_
 rcases bool_or (solidAt g T p) with h18 | h18
 ·rw [h18]
  refine lw_ rfl (.bool true) (litRun kr_) ?_
  refine lT_ ?_
  refine plStore1 (v := .bool true) (k := 0) 6 kr_ hm17 rfl (i := 15) rfl (wn rfl) rfl le_ le_ rfl rfl rfl ?_
  intro w20 hm19
  clear hm17
  try simp only [lc_] at hm19
  refine qNone rfl ?_
  refine pt_ hK5 ?_
  refine wpPrune [(5, .pointer (some ⟨gfo, 0, none⟩)), (7, .bool false)] fo_ (fun X21 => ?_)
  refine sp_ fun _ hK22 => ?_
  refine lv_ rfl (.bool true) (ld_ 0 6 hm19) ?_
  refine lT_ ?_
  refine pt_ hK22 ?_
  refine wp_ret ?_
  refine br_ 7 (.bool true) ?_
  exact ⟨true, _, rfl, hm19.keep 7 1, fun _ => ⟨rfl, take_all_succ hc hno (by unfold visB; simp [h6, h11, h18])⟩, (fun h_ => (by cases h_))⟩
 rw [h18]
 refine lw_ rfl (.bool false) (litRun kr_) ?_
 refine lF_ ?_
 refine plStore1 (v := .bool false) (k := 0) 6 kr_ hm17 rfl (i := 15) rfl (wn rfl) rfl le_ le_ rfl rfl rfl ?_
 intro w24 hm23
 clear hm17
 try simp only [lc_] at hm23
 refine qNone rfl ?_
 refine pt_ hK5 ?_
 refine wpPrune [(5, .pointer (some ⟨gfo, 0, none⟩)), (7, .bool false)] fo_ (fun X25 => ?_)
 refine sp_ fun _ hK26 => ?_
 refine lv_ rfl (.bool false) (ld_ 0 6 hm23) ?_
 refine lF_ ?_
 refine pt_ hK26 ?_
 refine wp_ret ?_
 refine br_ 7 (.bool false) ?_
 exact ⟨false, _, rfl, hm23.keep 7 1, (fun h_ => (by cases h_)), fun _ => by rw [visAll_no hc (by unfold visB; simp [h6, h11, h18])]; rfl⟩
theorem first_any (g : Gr) (hv : g.Valid) (T : List Mat) (A : Option Addr) (c : Nat) (A2 : Option Addr) (c2 : Nat) (a b : Pt) (w : World) (hrd : Rd w w.heap.size 1 A g.cells.length c (ics g.cells)) (htb : Rd w w.heap.size 8 A2 T.length c2 (mts T)) : Calls Tryz.prog 14 #[.iface 50 (.agg (gcs g A c).toArray), .slice A2 T.length c2, .agg (pcs a).toArray, .agg (pcs b).toArray] w (RetV w (.tuple #[.agg (firstH g T a b).toArray, .int .i64 (firstE g T a b)])) := by
 have hwl0 : ckE a b = 0 → (walk a b).length ≤ 1000000 := fun h => by have h1 := walk_len a b; have h2 := (ckE_ok h).2.2; omega
 have hm0 := memRd2 hrd htb
 go_enter Tryz.func14, Tryz.ntmps14
 refine litStart 31 [(0, .iface 50 (.agg (gcs g A c).toArray)), (1, .slice A2 T.length c2), (2, .agg (pcs a).toArray), (3, .agg (pcs b).toArray)] kr_ (fun X0 => ?_)
 refine sp_ fun _ hK1 => ?_
 refine plBox1 (v := .iface 50 (.agg (gcs g A c).toArray)) hm0 (i := 0) rfl (wn rfl) rfl le_ rfl ?_
 intro g2 w4 hm3
 clear hm0
 try simp only [lc_] at hm3
 refine qP rfl ?_
 refine plBox1 (v := .slice A2 T.length c2) hm3 (i := 1) rfl (wn rfl) rfl le_ rfl ?_
 intro g5 w7 hm6
 clear hm3
 try simp only [lc_] at hm6
 refine qP rfl ?_
 refine plBox hm6 (cs := pcs a) (i := 2) rfl (wn rfl) rfl le_ ?_
 intro g8 w10 hm9
 clear hm6
 try simp only [lc_] at hm9
 refine qP rfl ?_
 refine plBox hm9 (cs := pcs b) (i := 3) rfl (wn rfl) rfl le_ ?_
 intro g11 w13 hm12
 clear hm9
 try simp only [lc_] at hm12
 refine qP rfl ?_
 refine plAlloc (z := [.int .i64 0, .int .i64 0, .int .i64 0, .int .i64 0, .int .i64 0, .int .i64 0, .int .i64 0]) Ty.ag_voxel_ray_Hit hm12 (i := 4) rfl (wn rfl) rfl ?_
 intro g14 w16 hm15
 clear hm12
 try simp only [lc_] at hm15
 refine qP rfl ?_
 refine li_ 0 ?_
 refine pt_ hK1 ?_
 refine sk_ fun _ hK17 => ?_
 refine sp_ fun _ hK18 => ?_
 refine lv_ rfl (.agg (pcs a).toArray) (la_ 0 4 hm15 Ty.ag_voxel_api_Point) ?_
 refine lv_ rfl (.agg (pcs b).toArray) (la_ 0 5 hm15 Ty.ag_voxel_api_Point) ?_
 refine plCall (i := 2) 46 [.agg (pcs a).toArray, .agg (pcs b).toArray] [] [] rfl kr_ (wn rfl) rfl le_ (litArgs kr_) (check_any a b _) ?_
 rintro e w19 ⟨rfl, hbz⟩
 have hm20 := hm15.below hbz
 clear hbz hm15
 refine ⟨_, rfl, ?_⟩
 refine qP rfl ?_
 refine li_ (ckE a b) ?_
 refine pt_ hK18 ?_
 refine sp_ fun _ hK21 => ?_
 refine li_ (ckE a b) ?_
 by_cases h22 : (ckE a b) = 0
 ·refine lv_ rfl _ (neT_ h22) ?_
  refine pt_ hK21 ?_
  refine wp_cond_false le_ ?_
  refine wp_skip ?_
  refine tn_ hK17 ?_
  refine sp_ fun _ hK23 => ?_
  refine lv_ rfl (.agg (pcs a).toArray) (la_ 0 4 hm20 Ty.ag_voxel_api_Point) ?_
  refine lk_ (.agg ([.int .i64 0, .int .i64 0, .int .i64 0, .int .i64 a.x, .int .i64 a.y, .int .i64 a.z, .int .i64 0]).toArray) ?_
  refine plAlloc (z := [.int .i64 0, .int .i64 0, .int .i64 0, .int .i64 0, .int .i64 0, .int .i64 0, .int .i64 0]) Ty.ag_voxel_ray_Hit hm20 (i := 2) rfl (wn rfl) rfl ?_
  intro g24 w26 hm25
  clear hm20
  try simp only [lc_] at hm25
  refine qP rfl ?_
  refine plAlloc1 (v := .int .i64 0) kr_ hm25 (i := 3) rfl (wn rfl) rfl ?_
  intro g27 w29 hm28
  clear hm25
  try simp only [lc_] at hm28
  refine qP rfl ?_
  refine plAlloc1 (v := .bool false) kr_ hm28 (i := 4) rfl (wn rfl) rfl ?_
  intro g30 w32 hm31
  clear hm28
  try simp only [lc_] at hm31
  refine qP rfl ?_
  refine plStore 7 Ty.ag_voxel_ray_Hit hm31 rfl (i := 5) (cs := [.int .i64 0, .int .i64 0, .int .i64 0, .int .i64 a.x, .int .i64 a.y, .int .i64 a.z, .int .i64 0]) rfl (wn rfl) rfl le_ le_ rfl rfl kr_ ?_
  intro w34 hm33
  clear hm31
  try simp only [lc_] at hm33
  refine qNone rfl ?_
  refine plStore1 (v := .int .i64 0) (k := 0) 8 kr_ hm33 rfl (i := 6) rfl (wn rfl) rfl le_ le_ rfl rfl rfl ?_
  intro w36 hm35
  clear hm33
  try simp only [lc_] at hm35
  refine qNone rfl ?_
  refine plStore1 (v := .bool false) (k := 0) 9 kr_ hm35 rfl (i := 7) rfl (wn rfl) rfl le_ le_ rfl rfl rfl ?_
  intro w38 hm37
  clear hm35
  try simp only [lc_] at hm37
  refine qNone rfl ?_
  refine pt_ hK23 ?_
  refine sp_ fun _ hK39 => ?_
  rcases hfs : firstSol (solidAt g T) (walk a b) 0 with _ | ⟨k, q⟩
  ·refine lv_ rfl (.agg (pcs a).toArray) (la_ 0 4 hm37 Ty.ag_voxel_api_Point) ?_
   refine lv_ rfl (.agg (pcs b).toArray) (la_ 0 5 hm37 Ty.ag_voxel_api_Point) ?_
   refine lk_ (.func (.func 48) #[] #[.pointer (some ⟨g2, 0, none⟩), .pointer (some ⟨g5, 0, none⟩), .pointer (some ⟨g27, 0, none⟩), .pointer (some ⟨g24, 0, none⟩), .pointer (some ⟨g30, 0, none⟩)]) ?_
   have hm40 := hm37.f9
   clear hm37
   have hm41 := hm40.f8
   clear hm40
   have hm42 := hm41.f9
   clear hm41
   have hm43 := hm42.f6
   clear hm42
   have hm44 := hm43.f6
   clear hm43
   have hm45 := hm44.f6
   clear hm44
   have hm46 := hm45.f6
   clear hm45
   refine plCall (i := 3) 47 [.agg (pcs a).toArray, .agg (pcs b).toArray, .func (.func 48) #[] #[.pointer (some ⟨g2, 0, none⟩), .pointer (some ⟨g5, 0, none⟩), .pointer (some ⟨g27, 0, none⟩), .pointer (some ⟨g24, 0, none⟩), .pointer (some ⟨g30, 0, none⟩)]] [] [] rfl kr_ (wn rfl) rfl le_ (litArgs kr_) (each_fr a b (ckE_ok h22).1 (ckE_ok h22).2.1 48 [] [.pointer (some ⟨g2, 0, none⟩), .pointer (some ⟨g5, 0, none⟩), .pointer (some ⟨g27, 0, none⟩), .pointer (some ⟨g24, 0, none⟩), .pointer (some ⟨g30, 0, none⟩)] kr_ (fun i V => V = fV g A c A2 c2 T g2 g5 g27 g24 g30 (i : Int) (hcs p0 (befOf (walk a b) a i) 0) false ∧ ∀ q ∈ (walk a b).take i, solidAt g T q = false) (FRp g A c A2 c2 T g2 g5 g27 g24 g30 (walk a b) a) (fun i c_ w V M hc hV hm => visFirst_any g hv T A c A2 c2 g2 g5 g27 g24 g30 (walk a b) a (hwl0 h22) i c_ V M hc hV hm) (fun V h => FRp_end h) (fV g A c A2 c2 T g2 g5 g27 g24 g30 0 (hcs p0 a 0) false) ⟨rfl, by simp⟩ [.arr g8 23 (pcs a), .arr g11 23 (pcs b), .arr g14 52 ([.int .i64 0, .int .i64 0, .int .i64 0, .int .i64 0, .int .i64 0, .int .i64 0, .int .i64 0])] hm46) ?_
   rintro e w47 ⟨rfl, V_, hm48, hR_⟩
   clear hm46
   unfold FRp at hR_
   rw [hfs] at hR_
   replace hR_ : V_ = fV g A c A2 c2 T g2 g5 g27 g24 g30 ((walk a b).length : Int) (hcs p0 (befOf (walk a b) a (walk a b).length) 0) false := hR_
   subst hR_
   have hm49 : Mem w w47 [.rd A 1 g.cells.length c (ics g.cells), .rd A2 8 T.length c2 (mts T), .arr g2 103 ([.iface 50 (.agg (gcs g A c).toArray)]), .arr g5 29 ([.slice A2 T.length c2]), .arr g27 3 ([.int .i64 ((walk a b).length : Int)]), .arr g24 52 (hcs p0 (befOf (walk a b) a (walk a b).length) 0), .arr g30 4 ([.bool false]), .arr g8 23 (pcs a), .arr g11 23 (pcs b), .arr g14 52 ([.int .i64 0, .int .i64 0, .int .i64 0, .int .i64 0, .int .i64 0, .int .i64 0, .int .i64 0])] := hm48
   clear hm48
   refine ⟨_, rfl, ?_⟩
   refine qP rfl ?_
   refine pt_ hK39 ?_
   refine wpPrune [(8, .pointer (some ⟨g14, 0, none⟩)), (9, .int .i64 0), (11, .pointer (some ⟨g24, 0, none⟩)), (13, .pointer (some ⟨g30, 0, none⟩))] fo_ (fun X50 => ?_)
   refine sk_ fun _ hK51 => ?_
   refine sp_ fun _ hK52 => ?_
   refine lv_ rfl (.bool false) (ld_ 0 6 hm49) ?_
   refine lT_ ?_
   refine pt_ hK52 ?_
   refine wp_cond_true le_ ?_
   refine sp_ fun _ hK53 => ?_
   refine lk_ (.agg ([.int .i64 0, .int .i64 0, .int .i64 0, .int .i64 0, .int .i64 0, .int .i64 0, .int .i64 0]).toArray) ?_
   refine plStore 9 Ty.ag_voxel_ray_Hit hm49 rfl (i := 1) (cs := [.int .i64 0, .int .i64 0, .int .i64 0, .int .i64 0, .int .i64 0, .int .i64 0, .int .i64 0]) rfl (wn rfl) rfl le_ le_ rfl rfl kr_ ?_
   intro w55 hm54
   clear hm49
   try simp only [lc_] at hm54
   refine qNone rfl ?_
   refine li_ 9 ?_
   refine pt_ hK53 ?_
   refine wp_ret ?_
   refine then_ret ?_
   refine bodyPost_ret (v := .tuple #[.agg ([.int .i64 0, .int .i64 0, .int .i64 0, .int .i64 0, .int .i64 0, .int .i64 0, .int .i64 0]).toArray, .int .i64 9]) (gRes2 rfl (gResAg (cs := [.int .i64 0, .int .i64 0, .int .i64 0, .int .i64 0, .int .i64 0, .int .i64 0, .int .i64 0]) 9 hm54 rfl Ty.ag_voxel_ray_Hit rfl (lg_)) (gResTmp (t := 9) (v := .int .i64 9) (lg_))) rfl ?_
   exact ⟨by rw [firstH_none h22 hfs, firstE_none h22 hfs] <;> rfl, hm54.bel⟩
  ·refine lv_ rfl (.agg (pcs a).toArray) (la_ 0 4 hm37 Ty.ag_voxel_api_Point) ?_
   refine lv_ rfl (.agg (pcs b).toArray) (la_ 0 5 hm37 Ty.ag_voxel_api_Point) ?_
   refine lk_ (.func (.func 48) #[] #[.pointer (some ⟨g2, 0, none⟩), .pointer (some ⟨g5, 0, none⟩), .pointer (some ⟨g27, 0, none⟩), .pointer (some ⟨g24, 0, none⟩), .pointer (some ⟨g30, 0, none⟩)]) ?_
   have hm56 := hm37.f9
   clear hm37
   have hm57 := hm56.f8
   clear hm56
   have hm58 := hm57.f9
   clear hm57
   have hm59 := hm58.f6
   clear hm58
   have hm60 := hm59.f6
   clear hm59
   have hm61 := hm60.f6
   clear hm60
   have hm62 := hm61.f6
   clear hm61
   refine plCall (i := 3) 47 [.agg (pcs a).toArray, .agg (pcs b).toArray, .func (.func 48) #[] #[.pointer (some ⟨g2, 0, none⟩), .pointer (some ⟨g5, 0, none⟩), .pointer (some ⟨g27, 0, none⟩), .pointer (some ⟨g24, 0, none⟩), .pointer (some ⟨g30, 0, none⟩)]] [] [] rfl kr_ (wn rfl) rfl le_ (litArgs kr_) (each_fr a b (ckE_ok h22).1 (ckE_ok h22).2.1 48 [] [.pointer (some ⟨g2, 0, none⟩), .pointer (some ⟨g5, 0, none⟩), .pointer (some ⟨g27, 0, none⟩), .pointer (some ⟨g24, 0, none⟩), .pointer (some ⟨g30, 0, none⟩)] kr_ (fun i V => V = fV g A c A2 c2 T g2 g5 g27 g24 g30 (i : Int) (hcs p0 (befOf (walk a b) a i) 0) false ∧ ∀ q ∈ (walk a b).take i, solidAt g T q = false) (FRp g A c A2 c2 T g2 g5 g27 g24 g30 (walk a b) a) (fun i c_ w V M hc hV hm => visFirst_any g hv T A c A2 c2 g2 g5 g27 g24 g30 (walk a b) a (hwl0 h22) i c_ V M hc hV hm) (fun V h => FRp_end h) (fV g A c A2 c2 T g2 g5 g27 g24 g30 0 (hcs p0 a 0) false) ⟨rfl, by simp⟩ [.arr g8 23 (pcs a), .arr g11 23 (pcs b), .arr g14 52 ([.int .i64 0, .int .i64 0, .int .i64 0, .int .i64 0, .int .i64 0, .int .i64 0, .int .i64 0])] hm62) ?_
   rintro e w63 ⟨rfl, V_, hm64, hR_⟩
   clear hm62
   unfold FRp at hR_
   rw [hfs] at hR_
   replace hR_ : V_ = fV g A c A2 c2 T g2 g5 g27 g24 g30 (k : Int) (hcs q (befOf (walk a b) a k) (k : Int)) true := hR_
   subst hR_
   have hm65 : Mem w w63 [.rd A 1 g.cells.length c (ics g.cells), .rd A2 8 T.length c2 (mts T), .arr g2 103 ([.iface 50 (.agg (gcs g A c).toArray)]), .arr g5 29 ([.slice A2 T.length c2]), .arr g27 3 ([.int .i64 (k : Int)]), .arr g24 52 (hcs q (befOf (walk a b) a k) (k : Int)), .arr g30 4 ([.bool true]), .arr g8 23 (pcs a), .arr g11 23 (pcs b), .arr g14 52 ([.int .i64 0, .int .i64 0, .int .i64 0, .int .i64 0, .int .i64 0, .int .i64 0, .int .i64 0])] := hm64
   clear hm64
   refine ⟨_, rfl, ?_⟩
   refine qP rfl ?_
   refine pt_ hK39 ?_
   refine wpPrune [(8, .pointer (some ⟨g14, 0, none⟩)), (9, .int .i64 0), (11, .pointer (some ⟨g24, 0, none⟩)), (13, .pointer (some ⟨g30, 0, none⟩))] fo_ (fun X66 => ?_)
   refine sk_ fun _ hK67 => ?_
   refine sp_ fun _ hK68 => ?_
   refine lv_ rfl (.bool true) (ld_ 0 6 hm65) ?_
   refine lF_ ?_
   refine pt_ hK68 ?_
   refine wp_cond_false le_ ?_
   refine wp_skip ?_
   refine tn_ hK67 ?_
   refine sp_ fun _ hK69 => ?_
   refine lv_ rfl (.agg (hcs q (befOf (walk a b) a k) (k : Int)).toArray) (la_ 0 5 hm65 Ty.ag_voxel_ray_Hit) ?_
   refine plStore 9 Ty.ag_voxel_ray_Hit hm65 rfl (i := 1) (cs := hcs q (befOf (walk a b) a k) (k : Int)) rfl (wn rfl) rfl le_ le_ rfl rfl kr_ ?_
   intro w71 hm70
   clear hm65
   try simp only [lc_] at hm70
   refine qNone rfl ?_
   refine li_ 0 ?_
   refine pt_ hK69 ?_
   refine wp_ret ?_
   refine bodyPost_ret (v := .tuple #[.agg (hcs q (befOf (walk a b) a k) (k : Int)).toArray, .int .i64 0]) (gRes2 rfl (gResAg (cs := hcs q (befOf (walk a b) a k) (k : Int)) 9 hm70 rfl Ty.ag_voxel_ray_Hit rfl (lg_)) (gResTmp (t := 9) (v := .int .i64 0) (lg_))) rfl ?_
   exact ⟨by rw [firstH_some h22 hfs, firstE_some h22 hfs] <;> rfl, hm70.bel⟩
 refine lv_ rfl _ (neF_ h22) ?_
 refine pt_ hK21 ?_
 refine wp_cond_true le_ ?_
 refine sp_ fun _ hK72 => ?_
 refine lk_ (.agg ([.int .i64 0, .int .i64 0, .int .i64 0, .int .i64 0, .int .i64 0, .int .i64 0, .int .i64 0]).toArray) ?_
 refine li_ (ckE a b) ?_
 refine plStore 6 Ty.ag_voxel_ray_Hit hm20 rfl (i := 2) (cs := [.int .i64 0, .int .i64 0, .int .i64 0, .int .i64 0, .int .i64 0, .int .i64 0, .int .i64 0]) rfl (wn rfl) rfl le_ le_ rfl rfl kr_ ?_
 intro w74 hm73
 clear hm20
 try simp only [lc_] at hm73
 refine qNone rfl ?_
 refine li_ (ckE a b) ?_
 refine pt_ hK72 ?_
 refine wpPrune [(4, .pointer (some ⟨g2, 0, none⟩)), (5, .pointer (some ⟨g5, 0, none⟩)), (6, .pointer (some ⟨g8, 0, none⟩)), (7, .pointer (some ⟨g11, 0, none⟩)), (8, .pointer (some ⟨g14, 0, none⟩)), (9, .int .i64 (ckE a b))] fo_ (fun X75 => ?_)
 refine wp_ret ?_
 refine then_ret ?_
 refine bodyPost_ret (v := .tuple #[.agg ([.int .i64 0, .int .i64 0, .int .i64 0, .int .i64 0, .int .i64 0, .int .i64 0, .int .i64 0]).toArray, .int .i64 (ckE a b)]) (gRes2 rfl (gResAg (cs := [.int .i64 0, .int .i64 0, .int .i64 0, .int .i64 0, .int .i64 0, .int .i64 0, .int .i64 0]) 6 hm73 rfl Ty.ag_voxel_ray_Hit rfl (lg_)) (gResTmp (t := 9) (v := .int .i64 (ckE a b)) (lg_))) rfl ?_
 exact ⟨by rw [firstH_err h22, firstE_err h22] <;> rfl, hm73.bel⟩
theorem visible_any (g : Gr) (hv : g.Valid) (T : List Mat) (A : Option Addr) (c : Nat) (A2 : Option Addr) (c2 : Nat) (a b : Pt) (w : World) (hrd : Rd w w.heap.size 1 A g.cells.length c (ics g.cells)) (htb : Rd w w.heap.size 8 A2 T.length c2 (mts T)) : Calls Tryz.prog 15 #[.iface 50 (.agg (gcs g A c).toArray), .slice A2 T.length c2, .agg (pcs a).toArray, .agg (pcs b).toArray] w (RetV w (.tuple #[.bool (visR g T a b), .int .i64 (ckE a b)])) := by
 have hm0 := memRd2 hrd htb
 go_enter Tryz.func15, Tryz.ntmps15
 refine litStart 23 [(0, .iface 50 (.agg (gcs g A c).toArray)), (1, .slice A2 T.length c2), (2, .agg (pcs a).toArray), (3, .agg (pcs b).toArray)] kr_ (fun X0 => ?_)
 refine sp_ fun _ hK1 => ?_
 refine plBox1 (v := .iface 50 (.agg (gcs g A c).toArray)) hm0 (i := 0) rfl (wn rfl) rfl le_ rfl ?_
 intro g2 w4 hm3
 clear hm0
 try simp only [lc_] at hm3
 refine qP rfl ?_
 refine plBox1 (v := .slice A2 T.length c2) hm3 (i := 1) rfl (wn rfl) rfl le_ rfl ?_
 intro g5 w7 hm6
 clear hm3
 try simp only [lc_] at hm6
 refine qP rfl ?_
 refine plBox hm6 (cs := pcs a) (i := 2) rfl (wn rfl) rfl le_ ?_
 intro g8 w10 hm9
 clear hm6
 try simp only [lc_] at hm9
 refine qP rfl ?_
 refine plBox hm9 (cs := pcs b) (i := 3) rfl (wn rfl) rfl le_ ?_
 intro g11 w13 hm12
 clear hm9
 try simp only [lc_] at hm12
 refine qP rfl ?_
 refine lF_ ?_
 refine li_ 0 ?_
 refine pt_ hK1 ?_
 refine sk_ fun _ hK14 => ?_
 refine sp_ fun _ hK15 => ?_
 refine lv_ rfl (.agg (pcs a).toArray) (la_ 0 4 hm12 Ty.ag_voxel_api_Point) ?_
 refine lv_ rfl (.agg (pcs b).toArray) (la_ 0 5 hm12 Ty.ag_voxel_api_Point) ?_
 refine plCall (i := 2) 46 [.agg (pcs a).toArray, .agg (pcs b).toArray] [] [] rfl kr_ (wn rfl) rfl le_ (litArgs kr_) (check_any a b _) ?_
 rintro e w16 ⟨rfl, hbz⟩
 have hm17 := hm12.below hbz
 clear hbz hm12
 refine ⟨_, rfl, ?_⟩
 refine qP rfl ?_
 refine li_ (ckE a b) ?_
 refine pt_ hK15 ?_
 refine sp_ fun _ hK18 => ?_
 refine li_ (ckE a b) ?_
 by_cases h19 : (ckE a b) = 0
 ·refine lv_ rfl _ (neT_ h19) ?_
  refine pt_ hK18 ?_
  refine wp_cond_false le_ ?_
  refine wp_skip ?_
  refine tn_ hK14 ?_
  refine sp_ fun _ hK20 => ?_
  refine plAlloc1 (v := .bool false) kr_ hm17 (i := 0) rfl (wn rfl) rfl ?_
  intro g21 w23 hm22
  clear hm17
  try simp only [lc_] at hm22
  refine qP rfl ?_
  refine plStore1 (v := .bool true) (k := 0) 6 kr_ hm22 rfl (i := 1) rfl (wn rfl) rfl le_ le_ rfl rfl rfl ?_
  intro w25 hm24
  clear hm22
  try simp only [lc_] at hm24
  refine qNone rfl ?_
  refine pt_ hK20 ?_
  refine sp_ fun _ hK26 => ?_
  refine lv_ rfl (.agg (pcs a).toArray) (la_ 0 4 hm24 Ty.ag_voxel_api_Point) ?_
  refine lv_ rfl (.agg (pcs b).toArray) (la_ 0 5 hm24 Ty.ag_voxel_api_Point) ?_
  refine lk_ (.func (.func 50) #[] #[.pointer (some ⟨g8, 0, none⟩), .pointer (some ⟨g11, 0, none⟩), .pointer (some ⟨g2, 0, none⟩), .pointer (some ⟨g5, 0, none⟩), .pointer (some ⟨g21, 0, none⟩)]) ?_
  have hm27 := hm24.f6
  clear hm24
  have hm28 := hm27.f6
  clear hm27
  have hm29 := hm28.f6
  clear hm28
  have hm30 := hm29.f6
  clear hm29
  have hm31 := hm30.f6
  clear hm30
  have hm32 := hm31.f6
  clear hm31
  have hm33 := hm32.f6
  clear hm32
  refine plCall (i := 3) 47 [.agg (pcs a).toArray, .agg (pcs b).toArray, .func (.func 50) #[] #[.pointer (some ⟨g8, 0, none⟩), .pointer (some ⟨g11, 0, none⟩), .pointer (some ⟨g2, 0, none⟩), .pointer (some ⟨g5, 0, none⟩), .pointer (some ⟨g21, 0, none⟩)]] [] [] rfl kr_ (wn rfl) rfl le_ (litArgs kr_) (each_fr a b (ckE_ok h19).1 (ckE_ok h19).2.1 50 [] [.pointer (some ⟨g8, 0, none⟩), .pointer (some ⟨g11, 0, none⟩), .pointer (some ⟨g2, 0, none⟩), .pointer (some ⟨g5, 0, none⟩), .pointer (some ⟨g21, 0, none⟩)] kr_ (fun i V => V = vV g A c A2 c2 T g2 g5 g8 g11 g21 a b true ∧ ∀ q ∈ (walk a b).take i, visB g T a b q = true) (fun V => V = vV g A c A2 c2 T g2 g5 g8 g11 g21 a b ((walk a b).all (visB g T a b))) (fun i c_ w V M hc hV hm => visVis_any g hv T A c A2 c2 g2 g5 g8 g11 g21 (walk a b) a b i c_ V M hc hV hm) (fun V h => visAll_end h) (vV g A c A2 c2 T g2 g5 g8 g11 g21 a b true) ⟨rfl, by simp⟩ [] hm33) ?_
  rintro e w34 ⟨rfl, V_, hm35, rfl⟩
  clear hm33
  have hm36 : Mem w w34 [.rd A 1 g.cells.length c (ics g.cells), .rd A2 8 T.length c2 (mts T), .arr g2 103 ([.iface 50 (.agg (gcs g A c).toArray)]), .arr g5 29 ([.slice A2 T.length c2]), .arr g8 23 (pcs a), .arr g11 23 (pcs b), .arr g21 4 ([.bool ((walk a b).all (visB g T a b))])] := hm35
  clear hm35
  refine ⟨_, rfl, ?_⟩
  refine qP rfl ?_
  refine pt_ hK26 ?_
  refine wpPrune [(8, .bool false), (9, .int .i64 0), (11, .pointer (some ⟨g21, 0, none⟩))] fo_ (fun X37 => ?_)
  refine sp_ fun _ hK38 => ?_
  rcases bool_or (((walk a b).all (visB g T a b))) with h39 | h39
  ·refine lv_ rfl (.bool false) (boolTo h39 (gLoad (v := .bool ((walk a b).all (visB g T a b))) (k := 0) 6 hm36 rfl kr_ (.tmp 11) kr_ rfl le_)) ?_
   refine lF_ ?_
   refine li_ 0 ?_
   refine pt_ hK38 ?_
   refine wp_ret ?_
   refine bodyPost_ret (v := .tuple #[.bool false, .int .i64 0]) (gRes2 rfl (gResTmp (t := 8) (v := .bool false) (lg_)) (gResTmp (t := 9) (v := .int .i64 0) (lg_))) rfl ?_
   exact ⟨by unfold visR; rw [if_pos h19, h39, h19], hm36.bel⟩
  refine lv_ rfl (.bool true) (boolTo h39 (gLoad (v := .bool ((walk a b).all (visB g T a b))) (k := 0) 6 hm36 rfl kr_ (.tmp 11) kr_ rfl le_)) ?_
  refine lT_ ?_
  refine li_ 0 ?_
  refine pt_ hK38 ?_
  refine wp_ret ?_
  refine bodyPost_ret (v := .tuple #[.bool true, .int .i64 0]) (gRes2 rfl (gResTmp (t := 8) (v := .bool true) (lg_)) (gResTmp (t := 9) (v := .int .i64 0) (lg_))) rfl ?_
  exact ⟨by unfold visR; rw [if_pos h19, h39, h19], hm36.bel⟩
 refine lv_ rfl _ (neF_ h19) ?_
 refine pt_ hK18 ?_
 refine wp_cond_true le_ ?_
 refine sp_ fun _ hK40 => ?_
 refine li_ (ckE a b) ?_
 refine lF_ ?_
 refine li_ (ckE a b) ?_
 refine pt_ hK40 ?_
 refine wpPrune [(4, .pointer (some ⟨g2, 0, none⟩)), (5, .pointer (some ⟨g5, 0, none⟩)), (6, .pointer (some ⟨g8, 0, none⟩)), (7, .pointer (some ⟨g11, 0, none⟩)), (8, .bool false), (9, .int .i64 (ckE a b))] fo_ (fun X41 => ?_)
 refine wp_ret ?_
 refine then_ret ?_
 refine bodyPost_ret (v := .tuple #[.bool false, .int .i64 (ckE a b)]) (gRes2 rfl (gResTmp (t := 8) (v := .bool false) (lg_)) (gResTmp (t := 9) (v := .int .i64 (ckE a b)) (lg_))) rfl ?_
 exact ⟨by unfold visR; rw [if_neg h19], hm17.bel⟩
theorem bxs_inj {b c : Bx} : bxs b = bxs c ↔ b = c := by
 obtain ⟨⟨a1, a2, a3⟩, ⟨a4, a5, a6⟩⟩ := b
 obtain ⟨⟨c1, c2, c3⟩, ⟨c4, c5, c6⟩⟩ := c
 simp [bxs, pcs, and_assoc]
theorem take_all_succ_ {P : Int → Prop} {l : List Int} {k : Nat} {p : Int} (hp : l[k]? = some p) (h : ∀ q ∈ l.take k, P q) (h1 : P p) : ∀ q ∈ l.take (k + 1), P q := by
 intro q hq
 rw [List.take_add_one, List.mem_append, hp] at hq
 rcases hq with hq | hq
 ·exact h q hq
 ·simp at hq; rw [hq]; exact h1
def befP (q : Qd) : Pt := stepP q.p q.ax (-1)
def solidP (q : Qd) : Pt := if q.up then befP q else q.p
def emptyP (q : Qd) : Pt := if q.up then q.p else befP q
def nearB : Bx := ⟨⟨-20, -20, -20⟩, ⟨21, 21, 21⟩⟩
theorem dec_tl : ∀ k : Nat, k < 8 → mDec ((k : Int) * 64) = (tlP k, true) := by decide +kernel
theorem decT_any (k : Nat) (hk : k < 8) (w : World) : Calls Tryz.prog 99 #[.int .i64 (0 + (k : Int) * 64)] w (RetV w (.tuple #[.agg (pcs (tlP k)).toArray, .bool true])) := by
 have h := decode_any ((k : Int) * 64) w
 rw [dec_tl k hk] at h
 rw [Int.zero_add]
 exact h
theorem encT_any (w : World) : Calls Tryz.prog 98 #[.agg (pcs (tlP 0)).toArray] w (RetV w (.int .i64 0)) := by
 have h := encode_any (tlP 0) w
 rw [enc_tlP (by decide)] at h
 exact h
theorem planL_succ (k : Nat) : planL (k + 1) = planL k ++ [tlK k] := by unfold planL; rw [List.range_succ, List.map_append]; rfl
theorem tlsP_get {n k : Nat} (h : k < n) : ∀ (i : Nat) (u : Value), (pcs (tlP k))[i]? = some u → (tlsC (planL n))[k * 4 + 1 + i]? = some u := fun i u hu => by
 rw [Nat.add_assoc]
 exact tlsC_get (planL_get h) (1 + i) u (by rw [Nat.add_comm 1 i]; exact hu)
theorem valid_any (g : Gr) (A : Option Addr) (c : Nat) (w : World) (hrd : Rd w w.heap.size 1 A g.cells.length c (ics g.cells)) : Calls Tryz.prog 23 #[.agg (gcs g A c).toArray] w (RetV w (.bool (decide g.Valid))) := by
 have hcap := hrd.cap
 have hle := hrd.le
 unfold maxLen at hcap
 have hm0 := Mem.nil w
 go_enter Tryz.func23, Tryz.ntmps23
 refine litStart 57 [(0, .agg (gcs g A c).toArray)] kr_ (fun X0 => ?_)
 refine sp_ fun _ hK1 => ?_
 refine plBox hm0 (cs := gcs g A c) (i := 0) rfl (wn rfl) rfl le_ ?_
 intro g2 w4 hm3
 clear hm0
 try simp only [lc_] at hm3
 refine qP rfl ?_
 refine lF_ ?_
 refine pt_ hK1 ?_
 refine sp_ fun _ hK5 => ?_
 refine lp_ g2 0 ?_
 refine lp_ g2 0 ?_
 refine lv_ rfl (.agg (pcs g.box.mn).toArray) (la_ 0 0 hm3 Ty.ag_voxel_api_Point) ?_
 refine plCall (i := 3) 68 [.agg (pcs g.box.mn).toArray] [] [] rfl kr_ (wn rfl) rfl le_ (litArgs kr_) (ranged_any g.box.mn _) ?_
 rintro e w6 ⟨rfl, hbz⟩
 have hm7 := hm3.below hbz
 clear hbz hm3
 refine ⟨_, rfl, ?_⟩
 refine qP rfl ?_
 rcases bool_or (decide g.box.mn.rng) with h8 | h8
 ·rw [h8]
  refine lF_ ?_
  refine pt_ hK5 ?_
  refine sp_ fun _ hK9 => ?_
  refine lp_ g2 0 ?_
  refine lp_ g2 3 ?_
  refine lv_ rfl (.agg (pcs g.box.mx).toArray) (la_ 3 0 hm7 Ty.ag_voxel_api_Point) ?_
  refine plCall (i := 3) 68 [.agg (pcs g.box.mx).toArray] [] [] rfl kr_ (wn rfl) rfl le_ (litArgs kr_) (ranged_any g.box.mx _) ?_
  rintro e w10 ⟨rfl, hbz⟩
  have hm11 := hm7.below hbz
  clear hbz hm7
  refine ⟨_, rfl, ?_⟩
  refine qP rfl ?_
  rcases bool_or (decide g.box.mx.rng) with h12 | h12
  ·rw [h12]
   refine lF_ ?_
   refine pt_ hK9 ?_
   refine sk_ fun _ hK13 => ?_
   refine sp_ fun _ hK14 => ?_
   refine lF_ ?_
   refine lT_ ?_
   refine lT_ ?_
   refine ps_ (i := 3) ?_
   refine ps_ (i := 4) ?_
   refine lT_ ?_
   refine pt_ hK14 ?_
   refine wpPrune [(1, .pointer (some ⟨g2, 0, none⟩)), (2, .bool false), (21, .bool true)] fo_ (fun X15 => ?_)
   refine wp_cond_true le_ ?_
   refine sp_ fun _ hK16 => ?_
   refine lF_ ?_
   refine pt_ hK16 ?_
   refine wp_ret ?_
   refine then_ret ?_
   refine br_ 2 (.bool false) ?_
   exact ⟨congrArg (fun b_ => Ending.returned (.bool b_)) (decide_eq_false (fun h_ => of_decide_eq_false h8 h_.1.1)).symm, hm11.bel⟩
  rw [h12]
  refine lT_ ?_
  refine pt_ hK9 ?_
  refine sk_ fun _ hK17 => ?_
  refine sp_ fun _ hK18 => ?_
  refine lF_ ?_
  refine lT_ ?_
  refine lT_ ?_
  refine ps_ (i := 3) ?_
  refine ps_ (i := 4) ?_
  refine lT_ ?_
  refine pt_ hK18 ?_
  refine wpPrune [(1, .pointer (some ⟨g2, 0, none⟩)), (2, .bool false), (21, .bool true)] fo_ (fun X19 => ?_)
  refine wp_cond_true le_ ?_
  refine sp_ fun _ hK20 => ?_
  refine lF_ ?_
  refine pt_ hK20 ?_
  refine wp_ret ?_
  refine then_ret ?_
  refine br_ 2 (.bool false) ?_
  exact ⟨congrArg (fun b_ => Ending.returned (.bool b_)) (decide_eq_false (fun h_ => of_decide_eq_false h8 h_.1.1)).symm, hm11.bel⟩
 rw [h8]
 refine lT_ ?_
 refine pt_ hK5 ?_
 refine sp_ fun _ hK21 => ?_
 refine lp_ g2 0 ?_
 refine lp_ g2 3 ?_
 refine lv_ rfl (.agg (pcs g.box.mx).toArray) (la_ 3 0 hm7 Ty.ag_voxel_api_Point) ?_
 refine plCall (i := 3) 68 [.agg (pcs g.box.mx).toArray] [] [] rfl kr_ (wn rfl) rfl le_ (litArgs kr_) (ranged_any g.box.mx _) ?_
 rintro e w22 ⟨rfl, hbz⟩
 have hm23 := hm7.below hbz
 clear hbz hm7
 refine ⟨_, rfl, ?_⟩
 refine qP rfl ?_
 rcases bool_or (decide g.box.mx.rng) with h24 | h24
 ·rw [h24]
  refine lF_ ?_
  refine pt_ hK21 ?_
  refine sk_ fun _ hK25 => ?_
  refine sp_ fun _ hK26 => ?_
  refine lT_ ?_
  refine lF_ ?_
  refine lF_ ?_
  refine lw_ rfl (.bool false) (litRun kr_) ?_
  refine lw_ rfl (.bool true) (litRun kr_) ?_
  refine lT_ ?_
  refine pt_ hK26 ?_
  refine wpPrune [(1, .pointer (some ⟨g2, 0, none⟩)), (2, .bool false), (21, .bool true)] fo_ (fun X27 => ?_)
  refine wp_cond_true le_ ?_
  refine sp_ fun _ hK28 => ?_
  refine lF_ ?_
  refine pt_ hK28 ?_
  refine wp_ret ?_
  refine then_ret ?_
  refine br_ 2 (.bool false) ?_
  exact ⟨congrArg (fun b_ => Ending.returned (.bool b_)) (decide_eq_false (fun h_ => of_decide_eq_false h24 h_.1.2)).symm, hm23.bel⟩
 rw [h24]
 refine lT_ ?_
 refine pt_ hK21 ?_
 refine sk_ fun _ hK29 => ?_
 refine sp_ fun _ hK30 => ?_
 refine lT_ ?_
 refine lF_ ?_
 refine lF_ ?_
 refine lw_ rfl (.bool true) (litRun kr_) ?_
 refine lw_ rfl (.bool false) (litRun kr_) ?_
 refine lF_ ?_
 refine pt_ hK30 ?_
 refine wpPrune [(1, .pointer (some ⟨g2, 0, none⟩)), (2, .bool false), (21, .bool false)] fo_ (fun X31 => ?_)
 refine wp_cond_false le_ ?_
 refine wp_skip ?_
 refine tn_ hK29 ?_
 refine sp_ fun _ hK32 => ?_
 refine lp_ g2 0 ?_
 refine lv_ rfl (.agg (bxs g.box).toArray) (la_ 0 0 hm23 Ty.ag_voxel_api_Box) ?_
 refine plCall (i := 2) 69 [.agg (bxs g.box).toArray] [] [] rfl kr_ (wn rfl) rfl le_ (litArgs kr_) (vol_any g.box ⟨of_decide_eq_true h8, of_decide_eq_true h24⟩ _) ?_
 rintro e w33 ⟨rfl, hbz⟩
 have hm34 := hm23.below hbz
 clear hbz hm23
 refine ⟨_, rfl, ?_⟩
 refine qP rfl ?_
 refine li_ g.box.vol ?_
 refine pt_ hK32 ?_
 refine sk_ fun _ hK35 => ?_
 refine sp_ fun _ hK36 => ?_
 refine li_ g.box.vol ?_
 by_cases h37 : g.box.vol = 0
 ·refine lv_ rfl _ (eqT_ h37) ?_
  refine lT_ ?_
  refine lw_ rfl (.pointer (some ⟨g2, 0, none⟩)) (litRun kr_) ?_
  refine lw_ rfl (.agg (bxs g.box).toArray) (la_ 0 0 hm34 Ty.ag_voxel_api_Box) ?_
  refine lw_ rfl (.agg (bxs ⟨⟨0, 0, 0⟩, ⟨0, 0, 0⟩⟩).toArray) (litRun kr_) ?_
  by_cases h38 : g.box = bx0
  ·refine lw_ rfl (.bool false) (boolTo (by rw [decide_eq_true h38]; rfl) (neqAgRun 2 (.tmp 29) (.tmp 30) (bxs g.box) (bxs bx0) (decide (g.box = bx0)) (by rw [decide_eq_true_iff, bxs_inj]) kr_ rfl kr_ kr_ kr_ kr_ rfl le_ le_)) ?_
   refine lF_ ?_
   refine lF_ ?_
   refine lw_ rfl (.int .i64 g.box.vol) (litRun kr_) ?_
   by_cases h39 : 2097152 < g.box.vol
   ·refine lw_ rfl _ (gtT_ h39) ?_
    refine lT_ ?_
    refine lT_ ?_
    refine ps_ (i := 13) ?_
    refine ps_ (i := 14) ?_
    refine ps_ (i := 15) ?_
    refine ps_ (i := 16) ?_
    refine ps_ (i := 17) ?_
    refine lT_ ?_
    refine pt_ hK36 ?_
    refine wpPrune [(1, .pointer (some ⟨g2, 0, none⟩)), (2, .bool false), (5, .int .i64 g.box.vol), (43, .bool true)] fo_ (fun X40 => ?_)
    refine wp_cond_true le_ ?_
    refine sp_ fun _ hK41 => ?_
    refine lF_ ?_
    refine pt_ hK41 ?_
    refine wp_ret ?_
    refine then_ret ?_
    refine br_ 2 (.bool false) ?_
    exact ⟨congrArg (fun b_ => Ending.returned (.bool b_)) (decide_eq_false (fun h_ => h_.2.1 (Or.inr (Or.inl h39)))).symm, hm34.bel⟩
   refine lw_ rfl _ (gtF_ h39) ?_
   refine lF_ ?_
   refine lF_ ?_
   refine lw_ rfl (.pointer (some ⟨g2, 6, none⟩)) (litRun kr_) ?_
   refine lw_ rfl (.slice A g.cells.length c) (ld_ 6 0 hm34) ?_
   refine lw_ rfl (.int .i64 (g.cells.length : Int)) (ln_ A g.cells.length c Ty.und_L_int) ?_
   refine lw_ rfl (.int .i64 g.box.vol) (litRun kr_) ?_
   by_cases h42 : (g.cells.length : Int) = g.box.vol
   ·refine lw_ rfl _ (neT_ h42) ?_
    refine lF_ ?_
    refine pt_ hK36 ?_
    refine wpPrune [(1, .pointer (some ⟨g2, 0, none⟩)), (2, .bool false), (5, .int .i64 g.box.vol), (43, .bool false)] fo_ (fun X43 => ?_)
    refine wp_cond_false le_ ?_
    refine wp_skip ?_
    refine tn_ hK35 ?_
    refine sk_ fun _ hK44 => ?_
    refine sp_ fun _ hK45 => ?_
    refine li_ 0 ?_
    refine pt_ hK45 ?_
    refine wp_block ?_
    refine gwLoop (fun n_ a_ w_ => ∃ (k : Nat), n_ = g.cells.length - k ∧ (k ≤ g.cells.length) ∧ (∀ c ∈ g.cells.take k, 0 ≤ c ∧ c < 256) ∧ Fr a_ 57 [(1, .pointer (some ⟨g2, 0, none⟩)), (5, .int .i64 g.box.vol), (6, .int .i64 (k : Int))] ∧ Mem w w_ [.arr g2 28 (gcs g A c)]) (g.cells.length - 0) ⟨0, rfl, (Nat.zero_le _), (by simp), ⟨litSize, rfl, fo_⟩, (hm34.sub (.cons_cons _ .slnil))⟩ ?_
    clear hm34
    intro n_ a48 w46 hI_
    obtain ⟨k, rfl, hk_, hk2_, hF_, hm47⟩ := hI_
    obtain ⟨X49, rfl⟩ := frLit hF_
    clear hF_
    refine sk_ fun _ hK50 => ?_
    refine sp_ fun _ hK51 => ?_
    refine li_ k ?_
    refine li_ g.box.vol ?_
    by_cases h52 : (k : Int) < g.box.vol
    ·have hkl : k < g.cells.length := by omega
     obtain ⟨n, hn⟩ : ∃ n, g.cells[k]? = some n := ⟨_, List.getElem?_eq_getElem hkl⟩
     obtain ⟨b9_, off9_, rfl, _, _⟩ := hrd.cells (by omega)
     refine lv_ rfl _ (lsT_ h52) ?_
     refine pt_ hK51 ?_
     refine wp_cond_true le_ ?_
     refine wp_skip ?_
     refine tn_ hK50 ?_
     refine sk_ fun _ hK53 => ?_
     refine wp_block ?_
     refine sp_ fun _ hK54 => ?_
     refine lp_ g2 6 ?_
     refine lv_ rfl (.slice (some ⟨b9_, off9_, none⟩) g.cells.length c) (ld_ 6 0 hm47) ?_
     refine li_ k ?_
     refine lv_ rfl (.pointer (some ⟨b9_, off9_ + k * 1, none⟩)) (ia_ c k Ty.sl_L_int rfl hkl) ?_
     refine lv_ rfl (.int .i64 n) (lr_ (m := k * 1) ((Rd.below hrd hm47.bel).more hm47.bel.size) (icsGet hn) (by omega)) ?_
     refine plCall (i := 5) 70 [.int .i64 n] [] [] rfl kr_ (wn rfl) rfl le_ (litArgs kr_) (isMat_any n _) ?_
     rintro e w55 ⟨rfl, hbz⟩
     have hm56 := hm47.below hbz
     clear hbz hm47
     refine ⟨_, rfl, ?_⟩
     refine qP rfl ?_
     rcases bool_or (decide (0 ≤ n ∧ n < 256)) with h57 | h57
     ·rw [h57]
      refine lF_ ?_
      refine pt_ hK54 ?_
      refine sp_ fun _ hK58 => ?_
      refine lF_ ?_
      refine lT_ ?_
      refine pt_ hK58 ?_
      refine wp_cond_true le_ ?_
      refine sp_ fun _ hK59 => ?_
      refine lF_ ?_
      refine pt_ hK59 ?_
      refine wp_ret ?_
      refine inBlock_ret ?_
      refine then_ret ?_
      refine then_ret ?_
      refine inBlock_ret ?_
      refine then_ret ?_
      refine br_ 2 (.bool false) ?_
      exact ⟨congrArg (fun b_ => Ending.returned (.bool b_)) (decide_eq_false (fun h_ => of_decide_eq_false h57 (h_.2.2 n (List.mem_of_getElem? hn)))).symm, hm56.bel⟩
     rw [h57]
     refine lT_ ?_
     refine pt_ hK54 ?_
     refine sp_ fun _ hK60 => ?_
     refine lT_ ?_
     refine lF_ ?_
     refine pt_ hK60 ?_
     refine wp_cond_false le_ ?_
     refine wp_skip ?_
     refine inBlock_normal ?_
     refine tn_ hK53 ?_
     refine plStart ?_
     refine li_ k ?_
     refine lv_ rfl _ (ad_ (k : Int) 1) ?_
     refine li_ ((k : Int) + 1) ?_
     refine plD ?_
     refine then_normal ?_
     exact ⟨_, by omega, (k + 1), rfl, (by omega), (take_all_succ_ hn hk2_ (of_decide_eq_true h57)), ⟨litSize, rfl, fo_⟩, (hm56.sub (.cons_cons _ .slnil))⟩
    refine lv_ rfl _ (lsF_ h52) ?_
    refine pt_ hK51 ?_
    refine wp_cond_false le_ ?_
    refine wp_exit ?_
    refine then_exit ?_
    refine then_exit ?_
    refine inBlock_exit ?_
    refine tn_ hK44 ?_
    refine sp_ fun _ hK61 => ?_
    refine lT_ ?_
    refine pt_ hK61 ?_
    refine wp_ret ?_
    refine br_ 2 (.bool true) ?_
    exact ⟨congrArg (fun b_ => Ending.returned (.bool b_)) (decide_eq_true ⟨⟨of_decide_eq_true h8, of_decide_eq_true h24⟩, (fun h_ => by rcases h_ with h1_ | h1_ | h1_; exact h1_.2 h38; exact h39 h1_; exact h1_ h42), (by rw [List.take_of_length_le (by omega)] at hk2_; exact hk2_)⟩).symm, hm47.bel⟩
   refine lw_ rfl _ (neF_ h42) ?_
   refine lT_ ?_
   refine pt_ hK36 ?_
   refine wpPrune [(1, .pointer (some ⟨g2, 0, none⟩)), (2, .bool false), (5, .int .i64 g.box.vol), (43, .bool true)] fo_ (fun X62 => ?_)
   refine wp_cond_true le_ ?_
   refine sp_ fun _ hK63 => ?_
   refine lF_ ?_
   refine pt_ hK63 ?_
   refine wp_ret ?_
   refine then_ret ?_
   refine br_ 2 (.bool false) ?_
   exact ⟨congrArg (fun b_ => Ending.returned (.bool b_)) (decide_eq_false (fun h_ => h_.2.1 (Or.inr (Or.inr h42)))).symm, hm34.bel⟩
  refine lw_ rfl (.bool true) (boolTo (by rw [decide_eq_false h38]; rfl) (neqAgRun 2 (.tmp 29) (.tmp 30) (bxs g.box) (bxs bx0) (decide (g.box = bx0)) (by rw [decide_eq_true_iff, bxs_inj]) kr_ rfl kr_ kr_ kr_ kr_ rfl le_ le_)) ?_
  refine lT_ ?_
  refine lT_ ?_
  refine ps_ (i := 9) ?_
  refine ps_ (i := 10) ?_
  refine lT_ ?_
  refine lT_ ?_
  refine ps_ (i := 13) ?_
  refine ps_ (i := 14) ?_
  refine ps_ (i := 15) ?_
  refine ps_ (i := 16) ?_
  refine ps_ (i := 17) ?_
  refine lT_ ?_
  refine pt_ hK36 ?_
  refine wpPrune [(1, .pointer (some ⟨g2, 0, none⟩)), (2, .bool false), (5, .int .i64 g.box.vol), (43, .bool true)] fo_ (fun X64 => ?_)
  refine wp_cond_true le_ ?_
  refine sp_ fun _ hK65 => ?_
  refine lF_ ?_
  refine pt_ hK65 ?_
  refine wp_ret ?_
  refine then_ret ?_
  refine br_ 2 (.bool false) ?_
  exact ⟨congrArg (fun b_ => Ending.returned (.bool b_)) (decide_eq_false (fun h_ => h_.2.1 (Or.inl ⟨h37, h38⟩))).symm, hm34.bel⟩
 refine lv_ rfl _ (eqF_ h37) ?_
 refine lF_ ?_
 refine ps_ (i := 3) ?_
 refine ps_ (i := 4) ?_
 refine ps_ (i := 5) ?_
 refine ps_ (i := 6) ?_
 refine lF_ ?_
 refine lF_ ?_
 refine lw_ rfl (.int .i64 g.box.vol) (litRun kr_) ?_
 by_cases h66 : 2097152 < g.box.vol
 ·refine lw_ rfl _ (gtT_ h66) ?_
  refine lT_ ?_
  refine lT_ ?_
  refine ps_ (i := 13) ?_
  refine ps_ (i := 14) ?_
  refine ps_ (i := 15) ?_
  refine ps_ (i := 16) ?_
  refine ps_ (i := 17) ?_
  refine lT_ ?_
  refine pt_ hK36 ?_
  refine wpPrune [(1, .pointer (some ⟨g2, 0, none⟩)), (2, .bool false), (5, .int .i64 g.box.vol), (43, .bool true)] fo_ (fun X67 => ?_)
  refine wp_cond_true le_ ?_
  refine sp_ fun _ hK68 => ?_
  refine lF_ ?_
  refine pt_ hK68 ?_
  refine wp_ret ?_
  refine then_ret ?_
  refine br_ 2 (.bool false) ?_
  exact ⟨congrArg (fun b_ => Ending.returned (.bool b_)) (decide_eq_false (fun h_ => h_.2.1 (Or.inr (Or.inl h66)))).symm, hm34.bel⟩
 refine lw_ rfl _ (gtF_ h66) ?_
 refine lF_ ?_
 refine lF_ ?_
 refine lw_ rfl (.pointer (some ⟨g2, 6, none⟩)) (litRun kr_) ?_
 refine lw_ rfl (.slice A g.cells.length c) (ld_ 6 0 hm34) ?_
 refine lw_ rfl (.int .i64 (g.cells.length : Int)) (ln_ A g.cells.length c Ty.und_L_int) ?_
 refine lw_ rfl (.int .i64 g.box.vol) (litRun kr_) ?_
 by_cases h69 : (g.cells.length : Int) = g.box.vol
 ·refine lw_ rfl _ (neT_ h69) ?_
  refine lF_ ?_
  refine pt_ hK36 ?_
  refine wpPrune [(1, .pointer (some ⟨g2, 0, none⟩)), (2, .bool false), (5, .int .i64 g.box.vol), (43, .bool false)] fo_ (fun X70 => ?_)
  refine wp_cond_false le_ ?_
  refine wp_skip ?_
  refine tn_ hK35 ?_
  refine sk_ fun _ hK71 => ?_
  refine sp_ fun _ hK72 => ?_
  refine li_ 0 ?_
  refine pt_ hK72 ?_
  refine wp_block ?_
  refine gwLoop (fun n_ a_ w_ => ∃ (k : Nat), n_ = g.cells.length - k ∧ (k ≤ g.cells.length) ∧ (∀ c ∈ g.cells.take k, 0 ≤ c ∧ c < 256) ∧ Fr a_ 57 [(1, .pointer (some ⟨g2, 0, none⟩)), (5, .int .i64 g.box.vol), (6, .int .i64 (k : Int))] ∧ Mem w w_ [.arr g2 28 (gcs g A c)]) (g.cells.length - 0) ⟨0, rfl, (Nat.zero_le _), (by simp), ⟨litSize, rfl, fo_⟩, (hm34.sub (.cons_cons _ .slnil))⟩ ?_
  clear hm34
  intro n_ a75 w73 hI_
  obtain ⟨k, rfl, hk_, hk2_, hF_, hm74⟩ := hI_
  obtain ⟨X76, rfl⟩ := frLit hF_
  clear hF_
  refine sk_ fun _ hK77 => ?_
  refine sp_ fun _ hK78 => ?_
  refine li_ k ?_
  refine li_ g.box.vol ?_
  by_cases h79 : (k : Int) < g.box.vol
  ·have hkl : k < g.cells.length := by omega
   obtain ⟨n, hn⟩ : ∃ n, g.cells[k]? = some n := ⟨_, List.getElem?_eq_getElem hkl⟩
   obtain ⟨b9_, off9_, rfl, _, _⟩ := hrd.cells (by omega)
   refine lv_ rfl _ (lsT_ h79) ?_
   refine pt_ hK78 ?_
   refine wp_cond_true le_ ?_
   refine wp_skip ?_
   refine tn_ hK77 ?_
   refine sk_ fun _ hK80 => ?_
   refine wp_block ?_
   refine sp_ fun _ hK81 => ?_
   refine lp_ g2 6 ?_
   refine lv_ rfl (.slice (some ⟨b9_, off9_, none⟩) g.cells.length c) (ld_ 6 0 hm74) ?_
   refine li_ k ?_
   refine lv_ rfl (.pointer (some ⟨b9_, off9_ + k * 1, none⟩)) (ia_ c k Ty.sl_L_int rfl hkl) ?_
   refine lv_ rfl (.int .i64 n) (lr_ (m := k * 1) ((Rd.below hrd hm74.bel).more hm74.bel.size) (icsGet hn) (by omega)) ?_
   refine plCall (i := 5) 70 [.int .i64 n] [] [] rfl kr_ (wn rfl) rfl le_ (litArgs kr_) (isMat_any n _) ?_
   rintro e w82 ⟨rfl, hbz⟩
   have hm83 := hm74.below hbz
   clear hbz hm74
   refine ⟨_, rfl, ?_⟩
   refine qP rfl ?_
   rcases bool_or (decide (0 ≤ n ∧ n < 256)) with h84 | h84
   ·rw [h84]
    refine lF_ ?_
    refine pt_ hK81 ?_
    refine sp_ fun _ hK85 => ?_
    refine lF_ ?_
    refine lT_ ?_
    refine pt_ hK85 ?_
    refine wp_cond_true le_ ?_
    refine sp_ fun _ hK86 => ?_
    refine lF_ ?_
    refine pt_ hK86 ?_
    refine wp_ret ?_
    refine inBlock_ret ?_
    refine then_ret ?_
    refine then_ret ?_
    refine inBlock_ret ?_
    refine then_ret ?_
    refine br_ 2 (.bool false) ?_
    exact ⟨congrArg (fun b_ => Ending.returned (.bool b_)) (decide_eq_false (fun h_ => of_decide_eq_false h84 (h_.2.2 n (List.mem_of_getElem? hn)))).symm, hm83.bel⟩
   rw [h84]
   refine lT_ ?_
   refine pt_ hK81 ?_
   refine sp_ fun _ hK87 => ?_
   refine lT_ ?_
   refine lF_ ?_
   refine pt_ hK87 ?_
   refine wp_cond_false le_ ?_
   refine wp_skip ?_
   refine inBlock_normal ?_
   refine tn_ hK80 ?_
   refine plStart ?_
   refine li_ k ?_
   refine lv_ rfl _ (ad_ (k : Int) 1) ?_
   refine li_ ((k : Int) + 1) ?_
   refine plD ?_
   refine then_normal ?_
   exact ⟨_, by omega, (k + 1), rfl, (by omega), (take_all_succ_ hn hk2_ (of_decide_eq_true h84)), ⟨litSize, rfl, fo_⟩, (hm83.sub (.cons_cons _ .slnil))⟩
  refine lv_ rfl _ (lsF_ h79) ?_
  refine pt_ hK78 ?_
  refine wp_cond_false le_ ?_
  refine wp_exit ?_
  refine then_exit ?_
  refine then_exit ?_
  refine inBlock_exit ?_
  refine tn_ hK71 ?_
  refine sp_ fun _ hK88 => ?_
  refine lT_ ?_
  refine pt_ hK88 ?_
  refine wp_ret ?_
  refine br_ 2 (.bool true) ?_
  exact ⟨congrArg (fun b_ => Ending.returned (.bool b_)) (decide_eq_true ⟨⟨of_decide_eq_true h8, of_decide_eq_true h24⟩, (fun h_ => by rcases h_ with h1_ | h1_ | h1_; exact h37 h1_.1; exact h66 h1_; exact h1_ h69), (by rw [List.take_of_length_le (by omega)] at hk2_; exact hk2_)⟩).symm, hm74.bel⟩
 refine lw_ rfl _ (neF_ h69) ?_
 refine lT_ ?_
 refine pt_ hK36 ?_
 refine wpPrune [(1, .pointer (some ⟨g2, 0, none⟩)), (2, .bool false), (5, .int .i64 g.box.vol), (43, .bool true)] fo_ (fun X89 => ?_)
 refine wp_cond_true le_ ?_
 refine sp_ fun _ hK90 => ?_
 refine lF_ ?_
 refine pt_ hK90 ?_
 refine wp_ret ?_
 refine then_ret ?_
 refine br_ 2 (.bool false) ?_
 exact ⟨congrArg (fun b_ => Ending.returned (.bool b_)) (decide_eq_false (fun h_ => h_.2.1 (Or.inr (Or.inr h69)))).symm, hm34.bel⟩
theorem befq_any (q : Qd) (hq : q.Ok) (w : World) : Calls Tryz.prog 58 #[.agg (qdc q).toArray] w (RetV w (.agg (pcs (befP q)).toArray)) := by
 have hq1_ := hq.1
 unfold Pt.w at hq1_
 have hm0 := Mem.nil w
 go_enter Tryz.func58, Tryz.ntmps58
 refine litStart 27 [(0, .agg (qdc q).toArray)] kr_ (fun X0 => ?_)
 refine sp_ fun _ hK1 => ?_
 refine plBox hm0 (cs := qdc q) (i := 0) rfl (wn rfl) rfl le_ ?_
 intro g2 w4 hm3
 clear hm0
 try simp only [lc_] at hm3
 refine qP rfl ?_
 refine plAlloc (z := [.int .i64 0, .int .i64 0, .int .i64 0]) Ty.ag_voxel_api_Point hm3 (i := 1) rfl (wn rfl) rfl ?_
 intro g5 w7 hm6
 clear hm3
 try simp only [lc_] at hm6
 refine qP rfl ?_
 refine pt_ hK1 ?_
 refine sp_ fun _ hK8 => ?_
 refine lp_ g2 0 ?_
 refine lp_ g2 0 ?_
 refine lv_ rfl (.int .i64 q.p.x) (ld_ 0 0 hm6) ?_
 refine lp_ g2 0 ?_
 refine lp_ g2 1 ?_
 refine lv_ rfl (.int .i64 q.p.y) (ld_ 1 0 hm6) ?_
 refine lp_ g2 0 ?_
 refine lp_ g2 2 ?_
 refine lv_ rfl (.int .i64 q.p.z) (ld_ 2 0 hm6) ?_
 refine lk_ (.agg (pcs q.p).toArray) ?_
 refine plAlloc (z := [.int .i64 0, .int .i64 0, .int .i64 0]) Ty.ag_3_int hm6 (i := 10) rfl (wn rfl) rfl ?_
 intro g9 w11 hm10
 clear hm6
 try simp only [lc_] at hm10
 refine qP rfl ?_
 refine plStore 2 Ty.ag_3_int hm10 rfl (i := 11) (cs := pcs q.p) rfl (wn rfl) rfl le_ le_ rfl rfl kr_ ?_
 intro w13 hm12
 clear hm10
 try simp only [lc_] at hm12
 refine qNone rfl ?_
 refine pt_ hK8 ?_
 refine sp_ fun _ hK14 => ?_
 refine lp_ g2 3 ?_
 refine lv_ rfl (.int .i64 q.ax) (ld_ 3 0 hm12) ?_
 rcases hq.2.1 with hax_ | hax_ | hax_
 ·refine lv_ rfl (.pointer (some ⟨g9, 0, none⟩)) (iaRun (b := g9) (off := 0) (s := 1) (n := 3) (kk := .i64) (K := q.ax) (.tmp 3) (.tmp 15) 0 Ty.und_3_int kr_ rfl le_ le_ hax_ (by decide)) ?_
  refine lv_ rfl (.int .i64 q.p.x) (ld_ 0 2 hm12) ?_
  refine lv_ rfl _ (sb_ q.p.x 1) ?_
  refine lv_ rfl (.pointer (some ⟨g9, 0, none⟩)) (iaRun (b := g9) (off := 0) (s := 1) (n := 3) (kk := .i64) (K := q.ax) (.tmp 3) (.tmp 15) 0 Ty.und_3_int kr_ rfl le_ le_ hax_ (by decide)) ?_
  refine plStore1 (v := .int .i64 (q.p.x - 1)) (k := 0) 2 kr_ hm12 rfl (i := 6) rfl (wn rfl) rfl le_ le_ rfl rfl rfl ?_
  intro w16 hm15
  clear hm12
  try simp only [lc_] at hm15
  refine qNone rfl ?_
  refine pt_ hK14 ?_
  refine wpPrune [(2, .pointer (some ⟨g5, 0, none⟩)), (3, .pointer (some ⟨g9, 0, none⟩))] fo_ (fun X17 => ?_)
  refine sp_ fun _ hK18 => ?_
  refine lv_ rfl (.pointer (some ⟨g9, 0, none⟩)) (iaRun (b := g9) (off := 0) (s := 1) (n := 3) (kk := .i64) (.tmp 3) (.const (.int .i64 0)) 0 Ty.und_3_int kr_ rfl le_ le_ rfl (by decide)) ?_
  refine lv_ rfl (.int .i64 (q.p.x - 1)) (ld_ 0 2 hm15) ?_
  refine lv_ rfl (.pointer (some ⟨g9, 1, none⟩)) (iaRun (b := g9) (off := 0) (s := 1) (n := 3) (kk := .i64) (.tmp 3) (.const (.int .i64 1)) 1 Ty.und_3_int kr_ rfl le_ le_ rfl (by decide)) ?_
  refine lv_ rfl (.int .i64 q.p.y) (ld_ 1 2 hm15) ?_
  refine lv_ rfl (.pointer (some ⟨g9, 2, none⟩)) (iaRun (b := g9) (off := 0) (s := 1) (n := 3) (kk := .i64) (.tmp 3) (.const (.int .i64 2)) 2 Ty.und_3_int kr_ rfl le_ le_ rfl (by decide)) ?_
  refine lv_ rfl (.int .i64 q.p.z) (ld_ 2 2 hm15) ?_
  refine lk_ (.agg (pcs ⟨q.p.x - 1, q.p.y, q.p.z⟩).toArray) ?_
  refine plStore 1 Ty.ag_voxel_api_Point hm15 rfl (i := 7) (cs := pcs ⟨q.p.x - 1, q.p.y, q.p.z⟩) rfl (wn rfl) rfl le_ le_ rfl rfl kr_ ?_
  intro w20 hm19
  clear hm15
  try simp only [lc_] at hm19
  refine qNone rfl ?_
  refine pt_ hK18 ?_
  refine wp_ret ?_
  refine bodyPost_ret (v := .agg (pcs ⟨q.p.x - 1, q.p.y, q.p.z⟩).toArray) (gRes1 rfl (gResAg (cs := pcs ⟨q.p.x - 1, q.p.y, q.p.z⟩) 1 hm19 rfl Ty.ag_voxel_api_Point rfl (lg_))) rfl ?_
  exact ⟨by unfold befP stepP; simp only [hax_]; rfl, hm19.bel⟩
 ·refine lv_ rfl (.pointer (some ⟨g9, 1, none⟩)) (iaRun (b := g9) (off := 0) (s := 1) (n := 3) (kk := .i64) (K := q.ax) (.tmp 3) (.tmp 15) 1 Ty.und_3_int kr_ rfl le_ le_ hax_ (by decide)) ?_
  refine lv_ rfl (.int .i64 q.p.y) (ld_ 1 2 hm12) ?_
  refine lv_ rfl _ (sb_ q.p.y 1) ?_
  refine lv_ rfl (.pointer (some ⟨g9, 1, none⟩)) (iaRun (b := g9) (off := 0) (s := 1) (n := 3) (kk := .i64) (K := q.ax) (.tmp 3) (.tmp 15) 1 Ty.und_3_int kr_ rfl le_ le_ hax_ (by decide)) ?_
  refine plStore1 (v := .int .i64 (q.p.y - 1)) (k := 1) 2 kr_ hm12 rfl (i := 6) rfl (wn rfl) rfl le_ le_ rfl rfl rfl ?_
  intro w22 hm21
  clear hm12
  try simp only [lc_] at hm21
  refine qNone rfl ?_
  refine pt_ hK14 ?_
  refine wpPrune [(2, .pointer (some ⟨g5, 0, none⟩)), (3, .pointer (some ⟨g9, 0, none⟩))] fo_ (fun X23 => ?_)
  refine sp_ fun _ hK24 => ?_
  refine lv_ rfl (.pointer (some ⟨g9, 0, none⟩)) (iaRun (b := g9) (off := 0) (s := 1) (n := 3) (kk := .i64) (.tmp 3) (.const (.int .i64 0)) 0 Ty.und_3_int kr_ rfl le_ le_ rfl (by decide)) ?_
  refine lv_ rfl (.int .i64 q.p.x) (ld_ 0 2 hm21) ?_
  refine lv_ rfl (.pointer (some ⟨g9, 1, none⟩)) (iaRun (b := g9) (off := 0) (s := 1) (n := 3) (kk := .i64) (.tmp 3) (.const (.int .i64 1)) 1 Ty.und_3_int kr_ rfl le_ le_ rfl (by decide)) ?_
  refine lv_ rfl (.int .i64 (q.p.y - 1)) (ld_ 1 2 hm21) ?_
  refine lv_ rfl (.pointer (some ⟨g9, 2, none⟩)) (iaRun (b := g9) (off := 0) (s := 1) (n := 3) (kk := .i64) (.tmp 3) (.const (.int .i64 2)) 2 Ty.und_3_int kr_ rfl le_ le_ rfl (by decide)) ?_
  refine lv_ rfl (.int .i64 q.p.z) (ld_ 2 2 hm21) ?_
  refine lk_ (.agg (pcs ⟨q.p.x, q.p.y - 1, q.p.z⟩).toArray) ?_
  refine plStore 1 Ty.ag_voxel_api_Point hm21 rfl (i := 7) (cs := pcs ⟨q.p.x, q.p.y - 1, q.p.z⟩) rfl (wn rfl) rfl le_ le_ rfl rfl kr_ ?_
  intro w26 hm25
  clear hm21
  try simp only [lc_] at hm25
  refine qNone rfl ?_
  refine pt_ hK24 ?_
  refine wp_ret ?_
  refine bodyPost_ret (v := .agg (pcs ⟨q.p.x, q.p.y - 1, q.p.z⟩).toArray) (gRes1 rfl (gResAg (cs := pcs ⟨q.p.x, q.p.y - 1, q.p.z⟩) 1 hm25 rfl Ty.ag_voxel_api_Point rfl (lg_))) rfl ?_
  exact ⟨by unfold befP stepP; simp only [hax_]; rfl, hm25.bel⟩
 refine lv_ rfl (.pointer (some ⟨g9, 2, none⟩)) (iaRun (b := g9) (off := 0) (s := 1) (n := 3) (kk := .i64) (K := q.ax) (.tmp 3) (.tmp 15) 2 Ty.und_3_int kr_ rfl le_ le_ hax_ (by decide)) ?_
 refine lv_ rfl (.int .i64 q.p.z) (ld_ 2 2 hm12) ?_
 refine lv_ rfl _ (sb_ q.p.z 1) ?_
 refine lv_ rfl (.pointer (some ⟨g9, 2, none⟩)) (iaRun (b := g9) (off := 0) (s := 1) (n := 3) (kk := .i64) (K := q.ax) (.tmp 3) (.tmp 15) 2 Ty.und_3_int kr_ rfl le_ le_ hax_ (by decide)) ?_
 refine plStore1 (v := .int .i64 (q.p.z - 1)) (k := 2) 2 kr_ hm12 rfl (i := 6) rfl (wn rfl) rfl le_ le_ rfl rfl rfl ?_
 intro w28 hm27
 clear hm12
 try simp only [lc_] at hm27
 refine qNone rfl ?_
 refine pt_ hK14 ?_
 refine wpPrune [(2, .pointer (some ⟨g5, 0, none⟩)), (3, .pointer (some ⟨g9, 0, none⟩))] fo_ (fun X29 => ?_)
 refine sp_ fun _ hK30 => ?_
 refine lv_ rfl (.pointer (some ⟨g9, 0, none⟩)) (iaRun (b := g9) (off := 0) (s := 1) (n := 3) (kk := .i64) (.tmp 3) (.const (.int .i64 0)) 0 Ty.und_3_int kr_ rfl le_ le_ rfl (by decide)) ?_
 refine lv_ rfl (.int .i64 q.p.x) (ld_ 0 2 hm27) ?_
 refine lv_ rfl (.pointer (some ⟨g9, 1, none⟩)) (iaRun (b := g9) (off := 0) (s := 1) (n := 3) (kk := .i64) (.tmp 3) (.const (.int .i64 1)) 1 Ty.und_3_int kr_ rfl le_ le_ rfl (by decide)) ?_
 refine lv_ rfl (.int .i64 q.p.y) (ld_ 1 2 hm27) ?_
 refine lv_ rfl (.pointer (some ⟨g9, 2, none⟩)) (iaRun (b := g9) (off := 0) (s := 1) (n := 3) (kk := .i64) (.tmp 3) (.const (.int .i64 2)) 2 Ty.und_3_int kr_ rfl le_ le_ rfl (by decide)) ?_
 refine lv_ rfl (.int .i64 (q.p.z - 1)) (ld_ 2 2 hm27) ?_
 refine lk_ (.agg (pcs ⟨q.p.x, q.p.y, q.p.z - 1⟩).toArray) ?_
 refine plStore 1 Ty.ag_voxel_api_Point hm27 rfl (i := 7) (cs := pcs ⟨q.p.x, q.p.y, q.p.z - 1⟩) rfl (wn rfl) rfl le_ le_ rfl rfl kr_ ?_
 intro w32 hm31
 clear hm27
 try simp only [lc_] at hm31
 refine qNone rfl ?_
 refine pt_ hK30 ?_
 refine wp_ret ?_
 refine bodyPost_ret (v := .agg (pcs ⟨q.p.x, q.p.y, q.p.z - 1⟩).toArray) (gRes1 rfl (gResAg (cs := pcs ⟨q.p.x, q.p.y, q.p.z - 1⟩) 1 hm31 rfl Ty.ag_voxel_api_Point rfl (lg_))) rfl ?_
 exact ⟨by unfold befP stepP; simp only [hax_]; rfl, hm31.bel⟩
theorem fsolid_any (q : Qd) (hq : q.Ok) (w : World) : Calls Tryz.prog 18 #[.agg (qdc q).toArray] w (RetV w (.agg (pcs (solidP q)).toArray)) := by
 have hm0 := Mem.nil w
 go_enter Tryz.func18, Tryz.ntmps18
 refine litStart 9 [(0, .agg (qdc q).toArray)] kr_ (fun X0 => ?_)
 refine sp_ fun _ hK1 => ?_
 refine plBox hm0 (cs := qdc q) (i := 0) rfl (wn rfl) rfl le_ ?_
 intro g2 w4 hm3
 clear hm0
 try simp only [lc_] at hm3
 refine qP rfl ?_
 refine plAlloc (z := [.int .i64 0, .int .i64 0, .int .i64 0]) Ty.ag_voxel_api_Point hm3 (i := 1) rfl (wn rfl) rfl ?_
 intro g5 w7 hm6
 clear hm3
 try simp only [lc_] at hm6
 refine qP rfl ?_
 refine pt_ hK1 ?_
 refine sk_ fun _ hK8 => ?_
 refine sp_ fun _ hK9 => ?_
 refine lp_ g2 4 ?_
 rcases bool_or (q.up) with h10 | h10
 ·refine lv_ rfl (.bool false) (boolTo h10 (gLoad (v := .bool q.up) (k := 4) 0 hm6 rfl kr_ (.tmp 3) kr_ rfl le_)) ?_
  refine pt_ hK9 ?_
  refine wp_cond_false le_ ?_
  refine wp_skip ?_
  refine tn_ hK8 ?_
  refine sp_ fun _ hK11 => ?_
  refine lp_ g2 0 ?_
  refine lv_ rfl (.agg (pcs q.p).toArray) (la_ 0 0 hm6 Ty.ag_voxel_api_Point) ?_
  refine plStore 1 Ty.ag_voxel_api_Point hm6 rfl (i := 2) (cs := pcs q.p) rfl (wn rfl) rfl le_ le_ rfl rfl kr_ ?_
  intro w13 hm12
  clear hm6
  try simp only [lc_] at hm12
  refine qNone rfl ?_
  refine pt_ hK11 ?_
  refine wp_ret ?_
  refine bodyPost_ret (v := .agg (pcs q.p).toArray) (gRes1 rfl (gResAg (cs := pcs q.p) 1 hm12 rfl Ty.ag_voxel_api_Point rfl (lg_))) rfl ?_
  exact ⟨by unfold solidP; rw [h10]; rfl, hm12.bel⟩
 refine lv_ rfl (.bool true) (boolTo h10 (gLoad (v := .bool q.up) (k := 4) 0 hm6 rfl kr_ (.tmp 3) kr_ rfl le_)) ?_
 refine pt_ hK9 ?_
 refine wp_cond_true le_ ?_
 refine sp_ fun _ hK14 => ?_
 refine lv_ rfl (.agg (qdc q).toArray) (la_ 0 0 hm6 Ty.ag_voxel_api_Quad) ?_
 refine plCall (i := 1) 58 [.agg (qdc q).toArray] [] [] rfl kr_ (wn rfl) rfl le_ (litArgs kr_) (befq_any q hq _) ?_
 rintro e w15 ⟨rfl, hbz⟩
 have hm16 := hm6.below hbz
 clear hbz hm6
 refine ⟨_, rfl, ?_⟩
 refine qP rfl ?_
 refine plStore 1 Ty.ag_voxel_api_Point hm16 rfl (i := 2) (cs := pcs (befP q)) rfl (wn rfl) rfl le_ le_ rfl rfl kr_ ?_
 intro w18 hm17
 clear hm16
 try simp only [lc_] at hm17
 refine qNone rfl ?_
 refine pt_ hK14 ?_
 refine wp_ret ?_
 refine then_ret ?_
 refine bodyPost_ret (v := .agg (pcs (befP q)).toArray) (gRes1 rfl (gResAg (cs := pcs (befP q)) 1 hm17 rfl Ty.ag_voxel_api_Point rfl (lg_))) rfl ?_
 exact ⟨by unfold solidP; rw [h10]; rfl, hm17.bel⟩
theorem fempty_any (q : Qd) (hq : q.Ok) (w : World) : Calls Tryz.prog 19 #[.agg (qdc q).toArray] w (RetV w (.agg (pcs (emptyP q)).toArray)) := by
 have hm0 := Mem.nil w
 go_enter Tryz.func19, Tryz.ntmps19
 refine litStart 9 [(0, .agg (qdc q).toArray)] kr_ (fun X0 => ?_)
 refine sp_ fun _ hK1 => ?_
 refine plBox hm0 (cs := qdc q) (i := 0) rfl (wn rfl) rfl le_ ?_
 intro g2 w4 hm3
 clear hm0
 try simp only [lc_] at hm3
 refine qP rfl ?_
 refine plAlloc (z := [.int .i64 0, .int .i64 0, .int .i64 0]) Ty.ag_voxel_api_Point hm3 (i := 1) rfl (wn rfl) rfl ?_
 intro g5 w7 hm6
 clear hm3
 try simp only [lc_] at hm6
 refine qP rfl ?_
 refine pt_ hK1 ?_
 refine sk_ fun _ hK8 => ?_
 refine sp_ fun _ hK9 => ?_
 refine lp_ g2 4 ?_
 rcases bool_or (q.up) with h10 | h10
 ·refine lv_ rfl (.bool false) (boolTo h10 (gLoad (v := .bool q.up) (k := 4) 0 hm6 rfl kr_ (.tmp 3) kr_ rfl le_)) ?_
  refine pt_ hK9 ?_
  refine wp_cond_false le_ ?_
  refine wp_skip ?_
  refine tn_ hK8 ?_
  refine sp_ fun _ hK11 => ?_
  refine lv_ rfl (.agg (qdc q).toArray) (la_ 0 0 hm6 Ty.ag_voxel_api_Quad) ?_
  refine plCall (i := 1) 58 [.agg (qdc q).toArray] [] [] rfl kr_ (wn rfl) rfl le_ (litArgs kr_) (befq_any q hq _) ?_
  rintro e w12 ⟨rfl, hbz⟩
  have hm13 := hm6.below hbz
  clear hbz hm6
  refine ⟨_, rfl, ?_⟩
  refine qP rfl ?_
  refine plStore 1 Ty.ag_voxel_api_Point hm13 rfl (i := 2) (cs := pcs (befP q)) rfl (wn rfl) rfl le_ le_ rfl rfl kr_ ?_
  intro w15 hm14
  clear hm13
  try simp only [lc_] at hm14
  refine qNone rfl ?_
  refine pt_ hK11 ?_
  refine wp_ret ?_
  refine bodyPost_ret (v := .agg (pcs (befP q)).toArray) (gRes1 rfl (gResAg (cs := pcs (befP q)) 1 hm14 rfl Ty.ag_voxel_api_Point rfl (lg_))) rfl ?_
  exact ⟨by unfold emptyP; rw [h10]; rfl, hm14.bel⟩
 refine lv_ rfl (.bool true) (boolTo h10 (gLoad (v := .bool q.up) (k := 4) 0 hm6 rfl kr_ (.tmp 3) kr_ rfl le_)) ?_
 refine pt_ hK9 ?_
 refine wp_cond_true le_ ?_
 refine sp_ fun _ hK16 => ?_
 refine lp_ g2 0 ?_
 refine lv_ rfl (.agg (pcs q.p).toArray) (la_ 0 0 hm6 Ty.ag_voxel_api_Point) ?_
 refine plStore 1 Ty.ag_voxel_api_Point hm6 rfl (i := 2) (cs := pcs q.p) rfl (wn rfl) rfl le_ le_ rfl rfl kr_ ?_
 intro w18 hm17
 clear hm6
 try simp only [lc_] at hm17
 refine qNone rfl ?_
 refine pt_ hK16 ?_
 refine wp_ret ?_
 refine then_ret ?_
 refine bodyPost_ret (v := .agg (pcs q.p).toArray) (gRes1 rfl (gResAg (cs := pcs q.p) 1 hm17 rfl Ty.ag_voxel_api_Point rfl (lg_))) rfl ?_
 exact ⟨by unfold emptyP; rw [h10]; rfl, hm17.bel⟩
theorem topnear_any (p : Pt) (w : World) : Calls Tryz.prog 7 #[.agg (pcs p).toArray] w (RetV w (.bool (decide (nearB.has p)))) := by
 have hm0 := Mem.nil w
 go_enter Tryz.func7, Tryz.ntmps7
 refine litStart 8 [(0, .agg (pcs p).toArray)] kr_ (fun X0 => ?_)
 refine sp_ fun _ hK1 => ?_
 refine plBox hm0 (cs := pcs p) (i := 0) rfl (wn rfl) rfl le_ ?_
 intro g2 w4 hm3
 clear hm0
 try simp only [lc_] at hm3
 refine qP rfl ?_
 refine lF_ ?_
 refine pt_ hK1 ?_
 refine sp_ fun _ hK5 => ?_
 refine lv_ rfl (.agg (pcs p).toArray) (la_ 0 0 hm3 Ty.ag_voxel_api_Point) ?_
 refine lk_ (.agg (pcs ⟨-20, -20, -20⟩).toArray) ?_
 refine lk_ (.agg (pcs ⟨21, 21, 21⟩).toArray) ?_
 refine lk_ (.agg (bxs ⟨⟨-20, -20, -20⟩, ⟨21, 21, 21⟩⟩).toArray) ?_
 refine plCall (i := 4) 28 [.agg (pcs p).toArray, .agg (bxs ⟨⟨-20, -20, -20⟩, ⟨21, 21, 21⟩⟩).toArray] [] [] rfl kr_ (wn rfl) rfl le_ (litArgs kr_) (in_any p nearB _) ?_
 rintro e w6 ⟨rfl, hbz⟩
 have hm7 := hm3.below hbz
 clear hbz hm3
 refine ⟨_, rfl, ?_⟩
 refine qP rfl ?_
 rcases bool_or (decide (nearB.has p)) with h8 | h8
 ·rw [h8]
  refine lF_ ?_
  refine pt_ hK5 ?_
  refine wp_ret ?_
  refine br_ 2 (.bool false) ?_
  exact ⟨by rw [h8], hm7.bel⟩
 rw [h8]
 refine lT_ ?_
 refine pt_ hK5 ?_
 refine wp_ret ?_
 refine br_ 2 (.bool true) ?_
 exact ⟨by rw [h8], hm7.bel⟩
theorem rcube4_any (w : World) : Calls Tryz.prog 24 #[.int .i64 4] w (RetV w (.agg (bxs (cubeB 4)).toArray)) := by
 have hm0 := Mem.nil w
 go_enter Tryz.func24, Tryz.ntmps24
 refine litStart 8 [(0, .int .i64 4)] kr_ (fun X0 => ?_)
 refine sp_ fun _ hK1 => ?_
 refine plAlloc (z := [.int .i64 0, .int .i64 0, .int .i64 0, .int .i64 0, .int .i64 0, .int .i64 0]) Ty.ag_voxel_api_Box hm0 (i := 0) rfl (wn rfl) rfl ?_
 intro g2 w4 hm3
 clear hm0
 try simp only [lc_] at hm3
 refine qP rfl ?_
 refine pt_ hK1 ?_
 refine sp_ fun _ hK5 => ?_
 refine li_ 4 ?_
 refine li_ 4 ?_
 refine li_ 4 ?_
 refine lk_ (.agg (pcs ⟨4, 4, 4⟩).toArray) ?_
 refine lk_ (.agg (bxs ⟨⟨0, 0, 0⟩, ⟨4, 4, 4⟩⟩).toArray) ?_
 refine plStore 0 Ty.ag_voxel_api_Box hm3 rfl (i := 5) (cs := bxs ⟨⟨0, 0, 0⟩, ⟨4, 4, 4⟩⟩) rfl (wn rfl) rfl le_ le_ rfl rfl kr_ ?_
 intro w7 hm6
 clear hm3
 try simp only [lc_] at hm6
 refine qNone rfl ?_
 refine pt_ hK5 ?_
 refine wp_ret ?_
 refine bodyPost_ret (v := .agg (bxs ⟨⟨0, 0, 0⟩, ⟨4, 4, 4⟩⟩).toArray) (gRes1 rfl (gResAg (cs := bxs ⟨⟨0, 0, 0⟩, ⟨4, 4, 4⟩⟩) 0 hm6 rfl Ty.ag_voxel_api_Box rfl (lg_))) rfl ?_
 exact ⟨by rfl, hm6.bel⟩
theorem rcube8_any (w : World) : Calls Tryz.prog 24 #[.int .i64 8] w (RetV w (.agg (bxs (cubeB 8)).toArray)) := by
 have hm0 := Mem.nil w
 go_enter Tryz.func24, Tryz.ntmps24
 refine litStart 8 [(0, .int .i64 8)] kr_ (fun X0 => ?_)
 refine sp_ fun _ hK1 => ?_
 refine plAlloc (z := [.int .i64 0, .int .i64 0, .int .i64 0, .int .i64 0, .int .i64 0, .int .i64 0]) Ty.ag_voxel_api_Box hm0 (i := 0) rfl (wn rfl) rfl ?_
 intro g2 w4 hm3
 clear hm0
 try simp only [lc_] at hm3
 refine qP rfl ?_
 refine pt_ hK1 ?_
 refine sp_ fun _ hK5 => ?_
 refine li_ 8 ?_
 refine li_ 8 ?_
 refine li_ 8 ?_
 refine lk_ (.agg (pcs ⟨8, 8, 8⟩).toArray) ?_
 refine lk_ (.agg (bxs ⟨⟨0, 0, 0⟩, ⟨8, 8, 8⟩⟩).toArray) ?_
 refine plStore 0 Ty.ag_voxel_api_Box hm3 rfl (i := 5) (cs := bxs ⟨⟨0, 0, 0⟩, ⟨8, 8, 8⟩⟩) rfl (wn rfl) rfl le_ le_ rfl rfl kr_ ?_
 intro w7 hm6
 clear hm3
 try simp only [lc_] at hm6
 refine qNone rfl ?_
 refine pt_ hK5 ?_
 refine wp_ret ?_
 refine bodyPost_ret (v := .agg (bxs ⟨⟨0, 0, 0⟩, ⟨8, 8, 8⟩⟩).toArray) (gRes1 rfl (gResAg (cs := bxs ⟨⟨0, 0, 0⟩, ⟨8, 8, 8⟩⟩) 0 hm6 rfl Ty.ag_voxel_api_Box rfl (lg_))) rfl ?_
 exact ⟨by rfl, hm6.bel⟩
theorem count0_any (k : Nat) (w : World) : Calls Tryz.prog 100 #[.agg (tlc (tlK k)).toArray] w (RetV w (.int .i64 64)) := by
 have hm0 := Mem.nil w
 go_enter Tryz.func100, Tryz.ntmps100
 refine litStart 8 [(0, .agg (tlc (tlK k)).toArray)] kr_ (fun X0 => ?_)
 refine sp_ fun _ hK1 => ?_
 refine plBox hm0 (cs := tlc (tlK k)) (i := 0) rfl (wn rfl) rfl le_ ?_
 intro g2 w4 hm3
 clear hm0
 try simp only [lc_] at hm3
 refine qP rfl ?_
 refine li_ 0 ?_
 refine pt_ hK1 ?_
 refine sp_ fun _ hK5 => ?_
 refine lp_ g2 0 ?_
 refine lv_ rfl (.int .i64 0) (ld_ 0 0 hm3) ?_
 refine li_ 2 ?_
 refine li_ 6 ?_
 refine li_ 64 ?_
 refine li_ 64 ?_
 refine pt_ hK5 ?_
 refine wp_ret ?_
 refine br_ 2 (.int .i64 64) ?_
 exact ⟨by rfl, hm3.bel⟩
theorem frow_any (n : Nat) (hn : n ≤ 8) (w : World) : Calls Tryz.prog 71 #[.agg (tlc (tlK 0)).toArray, .int .i64 (n : Int)] w (fun e w' => ∃ v, e = .returned v ∧ w'.ownsRow w.heap.size 63 4 v n (tlsC (planL n)) ∧ Below w.heap.size w w') := by
 have hm0 := Mem.nil w
 go_enter Tryz.func71, Tryz.ntmps71
 refine litStart 36 [(0, .agg (tlc (tlK 0)).toArray), (1, .int .i64 (n : Int))] kr_ (fun X0 => ?_)
 refine sp_ fun _ hK1 => ?_
 refine plBox hm0 (cs := tlc (tlK 0)) (i := 0) rfl (wn rfl) rfl le_ ?_
 intro g2 w4 hm3
 clear hm0
 try simp only [lc_] at hm3
 refine qP rfl ?_
 refine lk_ (.slice none 0 0) ?_
 refine pt_ hK1 ?_
 refine sp_ fun _ hK5 => ?_
 refine lk_ (.slice none 0 0) ?_
 refine pt_ hK5 ?_
 refine sp_ fun _ hK6 => ?_
 refine lp_ g2 1 ?_
 refine lv_ rfl (.agg (pcs (tlP 0)).toArray) (la_ 1 0 hm3 Ty.ag_voxel_api_Point) ?_
 refine plCall (i := 2) 98 [.agg (pcs (tlP 0)).toArray] [] [] rfl kr_ (wn rfl) rfl le_ (litArgs kr_) (encT_any _) ?_
 rintro e w7 ⟨rfl, hbz⟩
 have hm8 := hm3.below hbz
 clear hbz hm3
 refine ⟨_, rfl, ?_⟩
 refine qP rfl ?_
 refine li_ 0 ?_
 refine pt_ hK6 ?_
 refine sk_ fun _ hK9 => ?_
 refine sp_ fun _ hK10 => ?_
 refine li_ n ?_
 refine li_ 0 ?_
 refine pt_ hK10 ?_
 refine wp_block ?_
 have hm11 := Mem.nilFront hm8 63 4
 clear hm8
 refine gwLoop (fun n_ a_ w_ => ∃ (k : Nat) (A : Option Addr) (c : Nat), n_ = n - k ∧ (k ≤ n) ∧ Fr a_ 36 [(2, .pointer (some ⟨g2, 0, none⟩)), (4, .slice none 0 0), (5, .slice A k c), (6, .int .i64 0), (13, .int .i64 (n : Int)), (14, .int .i64 (k : Int))] ∧ Mem w w_ [.row (.slice A k c) 63 4 k (tlsC (planL k)), .arr g2 63 (tlc (tlK 0))]) (n - 0) ⟨0, none, 0, rfl, (Nat.zero_le _), ⟨litSize, rfl, fo_⟩, hm11⟩ ?_
 clear hm11
 intro n_ a14 w12 hI_
 obtain ⟨k, A, c, rfl, hk, hF_, hm13⟩ := hI_
 obtain ⟨X15, rfl⟩ := frLit hF_
 clear hF_
 refine sp_ fun _ hK16 => ?_
 by_cases h17 : (k : Int) < (n : Int)
 ·refine lv_ rfl _ (lsT_ h17) ?_
  refine pt_ hK16 ?_
  refine sk_ fun _ hK18 => ?_
  refine wp_cond_true le_ ?_
  refine wp_skip ?_
  refine tn_ hK18 ?_
  refine sk_ fun _ hK19 => ?_
  refine wp_block ?_
  refine sp_ fun _ hK20 => ?_
  refine li_ k ?_
  refine li_ k ?_
  refine pt_ hK20 ?_
  refine sp_ fun _ hK21 => ?_
  refine li_ 0 ?_
  refine li_ k ?_
  refine lv_ rfl (.agg (tlc (tlK 0)).toArray) (la_ 0 1 hm13 Ty.ag_voxel_api_Tile) ?_
  refine plCall (i := 3) 100 [.agg (tlc (tlK 0)).toArray] [] [] rfl kr_ (wn rfl) rfl le_ (litArgs kr_) (count0_any 0 _) ?_
  rintro e w22 ⟨rfl, hbz⟩
  have hm23 := hm13.below hbz
  clear hbz hm13
  refine ⟨_, rfl, ?_⟩
  refine qP rfl ?_
  refine lv_ rfl (.int .i64 ((k : Int) * 64)) (mulRun (A := (k : Int)) (B := 64) (C := (k : Int) * 64) (.tmp 19) (.tmp 21) rfl le_ le_ rfl (by omega)) ?_
  refine lv_ rfl _ (ad_ 0 ((k : Int) * 64)) ?_
  refine plCall (i := 6) 99 [.int .i64 (0 + ((k : Int) * 64))] [] [] rfl kr_ (wn rfl) rfl le_ (litArgs kr_) (decT_any k (by omega) _) ?_
  rintro e w24 ⟨rfl, hbz⟩
  have hm25 := hm23.below hbz
  clear hbz hm23
  refine ⟨_, rfl, ?_⟩
  refine qP rfl ?_
  refine lk_ (.tuple #[.agg (pcs (tlP k)).toArray, .bool true]) ?_
  refine lk_ (.agg (pcs (tlP k)).toArray) ?_
  refine lT_ ?_
  refine plAlloc (z := [.int .i64 0, .int .i64 0, .int .i64 0]) Ty.ag_voxel_api_Point hm25 (i := 10) rfl (wn rfl) rfl ?_
  intro g26 w28 hm27
  clear hm25
  try simp only [lc_] at hm27
  refine qP rfl ?_
  refine plStore 2 Ty.ag_voxel_api_Point hm27 rfl (i := 11) (cs := pcs (tlP k)) rfl (wn rfl) rfl le_ le_ rfl rfl kr_ ?_
  intro w30 hm29
  clear hm27
  try simp only [lc_] at hm29
  refine qNone rfl ?_
  refine lT_ ?_
  refine pt_ hK21 ?_
  refine plStart ?_
  refine lk_ (.slice A k c) ?_
  refine lp_ g2 0 ?_
  refine lv_ rfl (.int .i64 0) (ld_ 0 1 hm29) ?_
  refine lv_ rfl (.agg (pcs (tlP k)).toArray) (la_ 0 2 hm29 Ty.ag_voxel_api_Point) ?_
  refine lk_ (.agg ([.int .i64 0, .int .i64 ((tlP k).x), .int .i64 ((tlP k).y), .int .i64 ((tlP k).z)]).toArray) ?_
  refine plLit (cs := [.int .i64 0, .int .i64 ((tlP k).x), .int .i64 ((tlP k).y), .int .i64 ((tlP k).z)]) (n := 1) Ty.sl_L_api_Tile hm29 (i := 5) rfl (wn rfl) rfl (by decide) (by decide) (by rw [lit_eval]; kernel_rfl) ?_
  intro g31 w33 hm32
  clear hm29
  try simp only [lc_] at hm32
  refine qP rfl ?_
  refine plApp1 (v := .slice A k c) (n := k) (xs := tlsC (planL k)) (ys := [.int .i64 0, .int .i64 ((tlP k).x), .int .i64 ((tlP k).y), .int .i64 ((tlP k).z)]) 0 3 Ty.sl_L_api_Tile hm32 rfl rfl (i := 6) rfl (wn rfl) rfl le_ le_ kr_ kr_ (by omega) (by omega) ?_
  intro v38 w35 hm34
  clear hm32
  try simp only [lc_] at hm34
  replace hm34 := Mem.rowEq (v := v38) (e := 63) (size := 4) (n := k + 1) (n' := (k + 1)) (xs := (tlsC (planL k)) ++ ([.int .i64 0, .int .i64 ((tlP k).x), .int .i64 ((tlP k).y), .int .i64 ((tlP k).z)])) (xs' := tlsC (planL (k + 1))) 0 hm34 rfl (by rfl) (by rw [planL_succ, tlsC_app]; rfl)
  try simp only [lc_] at hm34
  obtain ⟨A36, c37, rfl⟩ := Mem.rowSl (v := v38) (e := 63) (size := 4) (n := (k + 1)) (xs := tlsC (planL (k + 1))) 0 hm34 rfl
  refine qP rfl ?_
  refine lk_ (.slice A36 (k + 1) c37) ?_
  refine plD ?_
  refine inBlock_normal ?_
  refine tn_ hK19 ?_
  refine plStart ?_
  refine lv_ rfl _ (ad_ (k : Int) 1) ?_
  refine li_ ((k : Int) + 1) ?_
  refine plD ?_
  refine then_normal ?_
  exact ⟨_, by omega, (k + 1), A36, c37, rfl, (by omega), ⟨litSize, rfl, fo_⟩, (hm34.sub (.cons_cons _ (.cons_cons _ (.cons _ (.cons _ .slnil)))))⟩
 refine lv_ rfl _ (lsF_ h17) ?_
 refine pt_ hK16 ?_
 refine sk_ fun _ hK39 => ?_
 refine wp_cond_false le_ ?_
 refine wp_exit ?_
 refine then_exit ?_
 refine then_exit ?_
 refine inBlock_exit ?_
 refine tn_ hK9 ?_
 refine sp_ fun _ hK40 => ?_
 refine lk_ (.slice A k c) ?_
 refine lk_ (.slice A k c) ?_
 refine pt_ hK40 ?_
 refine wp_ret ?_
 refine br_ 4 (.slice A k c) ?_
 obtain rfl : k = n := by omega
 exact ⟨_, rfl, hm13.row 0 rfl, hm13.bel⟩
theorem uniform2_any (w : World) : Calls Tryz.prog 25 #[.int .i64 2, .int .i64 0] w (fun e w' => ∃ v, e = .returned (.tuple #[v, .int .i64 0]) ∧ w'.ownsRow w.heap.size 63 4 v 1 (tlsC (planL 1)) ∧ Below w.heap.size w w') := by
 have hm0 := Mem.nil w
 go_enter Tryz.func25, Tryz.ntmps25
 refine litStart 35 [(0, .int .i64 2), (1, .int .i64 0)] kr_ (fun X0 => ?_)
 refine sp_ fun _ hK1 => ?_
 refine lk_ (.slice none 0 0) ?_
 refine li_ 0 ?_
 refine pt_ hK1 ?_
 refine sk_ fun _ hK2 => ?_
 refine wp_block ?_
 refine sp_ fun _ hK3 => ?_
 refine li_ 2 ?_
 refine lF_ ?_
 refine lF_ ?_
 refine lw_ rfl (.int .i64 2) (litRun kr_) ?_
 refine lw_ rfl (.bool false) (litRun kr_) ?_
 refine lF_ ?_
 refine lF_ ?_
 refine pt_ hK3 ?_
 refine wp_cond_false le_ ?_
 refine sp_ fun _ hK4 => ?_
 refine li_ 0 ?_
 refine lF_ ?_
 refine lF_ ?_
 refine lw_ rfl (.int .i64 0) (litRun kr_) ?_
 refine lw_ rfl (.int .i64 2) (litRun kr_) ?_
 refine lw_ rfl (.int .i64 0) (litRun kr_) ?_
 refine lw_ rfl (.bool false) (litRun kr_) ?_
 refine lF_ ?_
 refine lF_ ?_
 refine pt_ hK4 ?_
 refine wpPrune [(0, .int .i64 2), (1, .int .i64 0), (4, .slice none 0 0), (5, .int .i64 0), (14, .bool false)] fo_ (fun X5 => ?_)
 refine wp_cond_false le_ ?_
 refine wp_skip ?_
 refine inBlock_normal ?_
 refine tn_ hK2 ?_
 refine sp_ fun _ hK6 => ?_
 refine li_ 2 ?_
 refine li_ 0 ?_
 refine li_ 0 ?_
 refine li_ 0 ?_
 refine li_ 0 ?_
 refine li_ 1 ?_
 refine li_ 1 ?_
 refine pt_ hK6 ?_
 refine sk_ fun _ hK7 => ?_
 refine sp_ fun _ hK8 => ?_
 refine li_ 1 ?_
 refine lF_ ?_
 refine pt_ hK8 ?_
 refine wp_cond_false le_ ?_
 refine wp_skip ?_
 refine tn_ hK7 ?_
 refine sp_ fun _ hK9 => ?_
 refine li_ 0 ?_
 refine lk_ (.agg ([.int .i64 0, .int .i64 0, .int .i64 0, .int .i64 0]).toArray) ?_
 refine li_ 1 ?_
 refine plCall (i := 3) 71 [.agg ([.int .i64 0, .int .i64 0, .int .i64 0, .int .i64 0]).toArray, .int .i64 1] [] [] rfl kr_ (wn rfl) rfl le_ (litArgs kr_) (by exact frow_any 1 (by decide) _) ?_
 rintro e w10 ⟨v_, rfl, hown_, hbz⟩
 obtain ⟨pA, pc, rfl, hrd_⟩ := Rd.of_own hown_
 clear hrd_
 replace hown_ : World.ownsRow w10 _ 63 4 _ 1 (tlsC (planL 1)) := hown_
 have hm11 := hm0.newRow hbz hown_
 clear hown_ hbz hm0
 try simp only [lc_] at hm11
 refine ⟨_, rfl, ?_⟩
 refine qP rfl ?_
 refine lk_ (.slice pA 1 pc) ?_
 refine li_ 0 ?_
 refine pt_ hK9 ?_
 refine wpPrune [(4, .slice pA 1 pc), (5, .int .i64 0)] fo_ (fun X12 => ?_)
 refine wp_ret ?_
 refine bodyPost_ret (v := .tuple #[.slice pA 1 pc, .int .i64 0]) (gRes2 rfl (gResTmp (t := 4) (v := .slice pA 1 pc) (lg_)) (gResTmp (t := 5) (v := .int .i64 0) (lg_))) rfl ?_
 exact ⟨_, rfl, hm11.row 0 rfl, hm11.bel⟩
theorem uniform3_any (w : World) : Calls Tryz.prog 25 #[.int .i64 3, .int .i64 0] w (fun e w' => ∃ v, e = .returned (.tuple #[v, .int .i64 0]) ∧ w'.ownsRow w.heap.size 63 4 v 8 (tlsC (planL 8)) ∧ Below w.heap.size w w') := by
 have hm0 := Mem.nil w
 go_enter Tryz.func25, Tryz.ntmps25
 refine litStart 35 [(0, .int .i64 3), (1, .int .i64 0)] kr_ (fun X0 => ?_)
 refine sp_ fun _ hK1 => ?_
 refine lk_ (.slice none 0 0) ?_
 refine li_ 0 ?_
 refine pt_ hK1 ?_
 refine sk_ fun _ hK2 => ?_
 refine wp_block ?_
 refine sp_ fun _ hK3 => ?_
 refine li_ 3 ?_
 refine lF_ ?_
 refine lF_ ?_
 refine lw_ rfl (.int .i64 3) (litRun kr_) ?_
 refine lw_ rfl (.bool false) (litRun kr_) ?_
 refine lF_ ?_
 refine lF_ ?_
 refine pt_ hK3 ?_
 refine wp_cond_false le_ ?_
 refine sp_ fun _ hK4 => ?_
 refine li_ 0 ?_
 refine lF_ ?_
 refine lF_ ?_
 refine lw_ rfl (.int .i64 0) (litRun kr_) ?_
 refine lw_ rfl (.int .i64 3) (litRun kr_) ?_
 refine lw_ rfl (.int .i64 1) (litRun kr_) ?_
 refine lw_ rfl (.bool false) (litRun kr_) ?_
 refine lF_ ?_
 refine lF_ ?_
 refine pt_ hK4 ?_
 refine wpPrune [(0, .int .i64 3), (1, .int .i64 0), (4, .slice none 0 0), (5, .int .i64 0), (14, .bool false)] fo_ (fun X5 => ?_)
 refine wp_cond_false le_ ?_
 refine wp_skip ?_
 refine inBlock_normal ?_
 refine tn_ hK2 ?_
 refine sp_ fun _ hK6 => ?_
 refine li_ 3 ?_
 refine li_ 1 ?_
 refine li_ 0 ?_
 refine li_ 1 ?_
 refine li_ 3 ?_
 refine li_ 8 ?_
 refine li_ 8 ?_
 refine pt_ hK6 ?_
 refine sk_ fun _ hK7 => ?_
 refine sp_ fun _ hK8 => ?_
 refine li_ 8 ?_
 refine lF_ ?_
 refine pt_ hK8 ?_
 refine wp_cond_false le_ ?_
 refine wp_skip ?_
 refine tn_ hK7 ?_
 refine sp_ fun _ hK9 => ?_
 refine li_ 0 ?_
 refine lk_ (.agg ([.int .i64 0, .int .i64 0, .int .i64 0, .int .i64 0]).toArray) ?_
 refine li_ 8 ?_
 refine plCall (i := 3) 71 [.agg ([.int .i64 0, .int .i64 0, .int .i64 0, .int .i64 0]).toArray, .int .i64 8] [] [] rfl kr_ (wn rfl) rfl le_ (litArgs kr_) (by exact frow_any 8 (by decide) _) ?_
 rintro e w10 ⟨v_, rfl, hown_, hbz⟩
 obtain ⟨pA, pc, rfl, hrd_⟩ := Rd.of_own hown_
 clear hrd_
 replace hown_ : World.ownsRow w10 _ 63 4 _ 8 (tlsC (planL 8)) := hown_
 have hm11 := hm0.newRow hbz hown_
 clear hown_ hbz hm0
 try simp only [lc_] at hm11
 refine ⟨_, rfl, ?_⟩
 refine qP rfl ?_
 refine lk_ (.slice pA 8 pc) ?_
 refine li_ 0 ?_
 refine pt_ hK9 ?_
 refine wpPrune [(4, .slice pA 8 pc), (5, .int .i64 0)] fo_ (fun X12 => ?_)
 refine wp_ret ?_
 refine bodyPost_ret (v := .tuple #[.slice pA 8 pc, .int .i64 0]) (gRes2 rfl (gResTmp (t := 4) (v := .slice pA 8 pc) (lg_)) (gResTmp (t := 5) (v := .int .i64 0) (lg_))) rfl ?_
 exact ⟨_, rfl, hm11.row 0 rfl, hm11.bel⟩
theorem rcubeS_any {d sd : Int} {n : Nat} (hd : (d = 2 ∧ n = 1 ∧ sd = 4) ∨ (d = 3 ∧ n = 8 ∧ sd = 8)) (w : World) : Calls Tryz.prog 24 #[.int .i64 sd] w (RetV w (.agg (bxs (cubeB sd)).toArray)) := by
 rcases hd with ⟨rfl, rfl, rfl⟩ | ⟨rfl, rfl, rfl⟩
 ·exact rcube4_any w
 ·exact rcube8_any w
theorem uniformD_any {d sd : Int} {n : Nat} (hd : (d = 2 ∧ n = 1 ∧ sd = 4) ∨ (d = 3 ∧ n = 8 ∧ sd = 8)) (w : World) : Calls Tryz.prog 25 #[.int .i64 d, .int .i64 0] w (fun e w' => ∃ v, e = .returned (.tuple #[v, .int .i64 0]) ∧ w'.ownsRow w.heap.size 63 4 v n (tlsC (planL n)) ∧ Below w.heap.size w w') := by
 rcases hd with ⟨rfl, rfl, rfl⟩ | ⟨rfl, rfl, rfl⟩
 ·exact uniform2_any w
 ·exact uniform3_any w
def cellI (g : Gr) (k i : Nat) : List Int := (List.range i).map fun i => g.get (posP k i)
def cellsG (g : Gr) (n : Nat) : List (List Int) := (List.range n).map fun k => cellI g k 64
theorem cellI_succ (g : Gr) (k i : Nat) : cellI g k (i + 1) = cellI g k i ++ [g.get (posP k i)] := by unfold cellI; rw [List.range_succ, List.map_append]; rfl
theorem cellsG_succ (g : Gr) (n : Nat) : cellsG g (n + 1) = cellsG g n ++ [cellI g n 64] := by unfold cellsG; rw [List.range_succ, List.map_append]; rfl
theorem addP_any (k i : Nat) (hi : i < 64) (w : World) : Calls Tryz.prog 27 #[.agg (pcs (tlP k)).toArray, .agg (pcs ⟨(i : Int) % 4, (i : Int) / 4 % 4, (i : Int) / 16⟩).toArray] w (RetV w (.agg (pcs (posP k i)).toArray)) := by
 have e : (⟨(i : Int) % 4, (i : Int) / 4 % 4, (i : Int) / 16⟩ : Pt) = brk i := by unfold brk; simp only [Pt.mk.injEq]; omega
 have h1 := tlP_bd k
 have h2 := brk_bd hi
 rw [e]
 exact add_any (tlP k) (brk i) (by omega) (by omega) (by omega) w
def toSl (e : Ent) : Sl3 := ⟨e.A, e.c, e.ids⟩
theorem slV_of {e : Ent} (h : e.ids.length = 64) : slV (toSl e) = entV e := by unfold slV toSl entV; rw [h]
theorem slsC_of {Es : List Ent} (h : ∀ e ∈ Es, e.ids.length = 64) : slsC (Es.map toSl) = Es.map entV := by
 unfold slsC
 rw [List.map_map]
 exact List.map_congr_left fun e he => slV_of (h e he)
theorem Mem.cellsIn {w0 w : World} {L : List Res} {A : Option Addr} {c : Nat} {t : TypeId} {Es : List Ent} (h : Mem w0 w L) (j : Nat) (hj : L[j]? = some (.row (.slice A Es.length c) t 1 Es.length (Es.map entV))) (hE : ∀ e ∈ Es, rowE e ∈ L) (h64 : ∀ e ∈ Es, e.ids.length = 64) : CellsIn w A c (Es.map toSl) := by
 refine ⟨?_, fun x hx => ?_⟩
 ·rw [slsC_of h64, List.length_map]; exact h.rdRow j hj
 ·obtain ⟨e, he, rfl⟩ := List.mem_map.1 hx
  have h1 := h.entRd (hE e he)
  have h2 := h64 e he
  rw [h2] at h1
  exact ⟨h2, h1⟩
theorem cells_64 {g : Gr} {n : Nat} {Es : List Ent} (h : Es.map (·.ids) = cellsG g n) : ∀ e ∈ Es, e.ids.length = 64 := by
 intro e he
 have h2 : e.ids ∈ cellsG g n := by rw [← h]; exact List.mem_map_of_mem he
 unfold cellsG at h2
 obtain ⟨k, _, hk⟩ := List.mem_map.1 h2
 rw [← hk]; simp [cellI]
theorem fulld_any (g : Gr) (A : Option Addr) (c : Nat) (d sd : Int) (n : Nat) (hd : (d = 2 ∧ n = 1 ∧ sd = 4) ∨ (d = 3 ∧ n = 8 ∧ sd = 8)) (w : World) (hrd : Rd w w.heap.size 1 A g.cells.length c (ics g.cells)) : Calls Tryz.prog 6 #[.agg (gcs g A c).toArray, .int .i64 d] w (fun e w' => (¬ (g.Valid ∧ g.box = cubeB sd) ∧ e = .returned (.tuple #[.slice none 0 0, .slice none 0 0, .bool false]) ∧ Below w.heap.size w w') ∨ ((g.Valid ∧ g.box = cubeB sd) ∧ ∃ (Es : List Ent) (A1 A2 : Option Addr) (c1 c2 : Nat), e = .returned (.tuple #[.slice A1 n c1, .slice A2 Es.length c2, .bool true]) ∧ Es.map (·.ids) = cellsG g n ∧ Mem w w' (.row (.slice A2 Es.length c2) 26 1 Es.length (Es.map entV) :: .row (.slice A1 n c1) 63 4 n (tlsC (planL n)) :: Es.map rowE))) := by
 have hm0 := Mem.nil w
 go_enter Tryz.func6, Tryz.ntmps6
 refine litStart 74 [(0, .agg (gcs g A c).toArray), (1, .int .i64 d)] kr_ (fun X0 => ?_)
 refine sp_ fun _ hK1 => ?_
 refine plBox hm0 (cs := gcs g A c) (i := 0) rfl (wn rfl) rfl le_ ?_
 intro g2 w4 hm3
 clear hm0
 try simp only [lc_] at hm3
 refine qP rfl ?_
 refine lk_ (.slice none 0 0) ?_
 refine lk_ (.slice none 0 0) ?_
 refine lF_ ?_
 refine pt_ hK1 ?_
 refine sk_ fun _ hK5 => ?_
 refine sk_ fun _ hK6 => ?_
 refine mgStart hm3 kr_ ?_
 intro w8 hm7
 clear hm3
 refine mk_ (i := 0) (v := .int .i64 d) rfl rfl (fun _ _ _ h => h) hm7 rfl ?_
 refine mt_ 1 rfl (.bool false) hm7 (fun w_ h_ => lsF_ (show ¬ d < 2 by omega)) ?_
 refine mk_ (i := 2) (v := .bool false) rfl rfl (fun _ _ _ h => h) hm7 rfl ?_
 refine mgTake (i := 3) (v := .int .i64 d) rfl kr_ (wgY rfl rfl rfl (by decide) kr_) (fun _ _ _ h => h) hm7 (fun w_ h_ => litRun kr_) ?_
 refine mP rfl ?_
 refine mgTake (i := 4) (v := .bool false) rfl kr_ (wgY rfl rfl rfl (by decide) kr_) (fun _ _ _ h => h) hm7 (fun w_ h_ => boolTo (decide_eq_false (show ¬ 3 < d by omega)) (gtrRun (A := d) (B := 3) (.tmp 16) (.const (.int .i64 3)) rfl le_ le_)) ?_
 refine mP rfl ?_
 refine mk_ (i := 5) (v := .bool false) rfl rfl (fun _ _ _ h => h) hm7 rfl ?_
 refine mk_ (i := 6) (v := .bool false) rfl rfl (fun _ _ _ h => h) hm7 rfl ?_
 refine mgTake (i := 7) (v := .agg (gcs g A c).toArray) rfl kr_ (wgY rfl rfl rfl (by decide) kr_) (fun _ _ _ h => h) hm7 (fun w_ h_ => gLoadAg (vs := gcs g A c) (k := 0) 0 h_ rfl kr_ kr_ (.tmp 2) Ty.ag_voxel_api_Grid rfl le_) ?_
 refine mP rfl ?_
 refine mgCall (i := 8) 23 [.agg (gcs g A c).toArray] [] [] kr_ rfl kr_ (wgY rfl rfl rfl (by decide) kr_) rfl le_ (litArgs kr_) (valid_any g A c _ ((Rd.below hrd hm7.bel).more hm7.bel.size)) ?_
 rintro e w9 ⟨rfl, hbz⟩
 have hm10 := hm7.below hbz
 clear hbz hm7
 refine ⟨_, rfl, hm10, ?_⟩
 refine mP rfl ?_
 rcases bool_or (decide g.Valid) with h11 | h11
 ·rw [h11]
  refine mgTake (i := 9) (v := .bool true) rfl kr_ (wgY rfl rfl rfl (by decide) kr_) (fun _ _ _ h => h) hm10 (fun w_ h_ => litRun kr_) ?_
  refine mP rfl ?_
  refine mk_ (i := 10) (v := .bool true) rfl rfl (fun _ _ _ h => h) hm10 rfl ?_
  refine mk_ (i := 11) (v := .bool true) rfl rfl (fun _ _ _ h => h) hm10 rfl ?_
  refine mgSkip (i := 12) rfl kr_ (wgN rfl rfl rfl (by decide) kr_) (fun _ _ _ h => h) hm10 ?_
  refine mP rfl ?_
  refine mgSkip (i := 13) rfl kr_ (wgN rfl rfl rfl (by decide) kr_) (fun _ _ _ h => h) hm10 ?_
  refine mP rfl ?_
  refine mgSkip (i := 14) rfl kr_ (wgN rfl rfl rfl (by decide) kr_) (fun _ _ _ h => h) hm10 ?_
  refine mP rfl ?_
  refine mgSkip (i := 15) rfl kr_ (wgN rfl rfl rfl (by decide) kr_) (fun _ _ _ h => h) hm10 ?_
  refine mP rfl ?_
  refine mgSkip (i := 16) rfl kr_ (wgN rfl rfl rfl (by decide) kr_) (fun _ _ _ h => h) hm10 ?_
  refine mP rfl ?_
  refine mgSkip (i := 17) rfl kr_ (wgN rfl rfl rfl (by decide) kr_) (fun _ _ _ h => h) hm10 ?_
  refine mP rfl ?_
  refine mk_ (i := 18) (v := .bool true) rfl rfl (fun _ _ _ h => h) hm10 rfl ?_
  refine mgDone kr_ ?_
  refine tn_ hK6 ?_
  refine wpPrune [(1, .int .i64 d), (2, .pointer (some ⟨g2, 0, none⟩)), (4, .slice none 0 0), (5, .slice none 0 0), (6, .bool false), (31, .bool true)] fo_ (fun X12 => ?_)
  refine wp_cond_true le_ ?_
  refine sp_ fun _ hK13 => ?_
  refine lk_ (.slice none 0 0) ?_
  refine lk_ (.slice none 0 0) ?_
  refine lF_ ?_
  refine pt_ hK13 ?_
  refine wp_ret ?_
  refine then_ret ?_
  refine bodyPost_ret (v := .tuple #[.slice none 0 0, .slice none 0 0, .bool false]) (gRes3 rfl (gResTmp (t := 4) (v := .slice none 0 0) (lg_)) (gResTmp (t := 5) (v := .slice none 0 0) (lg_)) (gResTmp (t := 6) (v := .bool false) (lg_))) rfl ?_
  exact Or.inl ⟨fun h_ => of_decide_eq_false h11 h_.1, rfl, hm10.bel⟩
 rw [h11]
 have hvd_ : g.Valid := of_decide_eq_true h11
 refine mgTake (i := 9) (v := .bool false) rfl kr_ (wgY rfl rfl rfl (by decide) kr_) (fun _ _ _ h => h) hm10 (fun w_ h_ => litRun kr_) ?_
 refine mP rfl ?_
 refine mk_ (i := 10) (v := .bool false) rfl rfl (fun _ _ _ h => h) hm10 rfl ?_
 refine mk_ (i := 11) (v := .bool false) rfl rfl (fun _ _ _ h => h) hm10 rfl ?_
 refine mgTake (i := 12) (v := .pointer (some ⟨g2, 0, none⟩)) rfl kr_ (wgY rfl rfl rfl (by decide) kr_) (fun _ _ _ h => h) hm10 (fun w_ h_ => litRun kr_) ?_
 refine mP rfl ?_
 refine mgTake (i := 13) (v := .agg (bxs g.box).toArray) rfl kr_ (wgY rfl rfl rfl (by decide) kr_) (fun _ _ _ h => h) hm10 (fun w_ h_ => gLoadAg (vs := bxs g.box) (k := 0) 0 h_ rfl kr_ kr_ (.tmp 25) Ty.ag_voxel_api_Box rfl le_) ?_
 refine mP rfl ?_
 refine mgTake (i := 14) (v := .int .i64 d) rfl kr_ (wgY rfl rfl rfl (by decide) kr_) (fun _ _ _ h => h) hm10 (fun w_ h_ => litRun kr_) ?_
 refine mP rfl ?_
 refine mgTake (i := 15) (v := .int .i64 sd) rfl kr_ (wgY rfl rfl rfl (by decide) kr_) (fun _ _ _ h => h) hm10 (fun w_ h_ => by rcases hd with ⟨rfl, rfl, rfl⟩ | ⟨rfl, rfl, rfl⟩ <;> exact litRun kr_) ?_
 refine mP rfl ?_
 refine mgCall (i := 16) 24 [.int .i64 sd] [] [] kr_ rfl kr_ (wgY rfl rfl rfl (by decide) kr_) rfl le_ (litArgs kr_) (rcubeS_any hd _) ?_
 rintro e w14 ⟨rfl, hbz⟩
 have hm15 := hm10.below hbz
 clear hbz hm10
 refine ⟨_, rfl, hm15, ?_⟩
 refine mP rfl ?_
 by_cases h16 : g.box = (cubeB sd)
 ·refine mgTake (i := 17) (v := .bool false) rfl kr_ (wgY rfl rfl rfl (by decide) kr_) (fun _ _ _ h => h) hm15 (fun w_ h_ => boolTo (by rw [decide_eq_true h16]; rfl) (neqAgRun 2 (.tmp 26) (.tmp 29) (bxs g.box) (bxs (cubeB sd)) (decide (g.box = (cubeB sd))) (by rw [decide_eq_true_iff, bxs_inj]) kr_ rfl kr_ kr_ kr_ kr_ rfl le_ le_)) ?_
  refine mP rfl ?_
  refine mk_ (i := 18) (v := .bool false) rfl rfl (fun _ _ _ h => h) hm15 rfl ?_
  refine mgDone kr_ ?_
  refine tn_ hK6 ?_
  refine wpPrune [(1, .int .i64 d), (2, .pointer (some ⟨g2, 0, none⟩)), (4, .slice none 0 0), (5, .slice none 0 0), (6, .bool false), (31, .bool false)] fo_ (fun X17 => ?_)
  refine wp_cond_false le_ ?_
  refine wp_skip ?_
  refine tn_ hK5 ?_
  refine sp_ fun _ hK18 => ?_
  refine li_ d ?_
  refine plCall (i := 1) 25 [.int .i64 d, .int .i64 0] [] [] rfl kr_ (wn rfl) rfl le_ (litArgs kr_) (uniformD_any hd _) ?_
  rintro e w19 ⟨v_, rfl, hown_, hbz⟩
  obtain ⟨pA, pc, rfl, hrd_⟩ := Rd.of_own hown_
  clear hrd_
  replace hown_ : World.ownsRow w19 _ 63 4 _ n (tlsC (planL n)) := hown_
  have hm20 := hm15.newRow hbz hown_
  clear hown_ hbz hm15
  try simp only [lc_] at hm20
  obtain ⟨b21, rfl⟩ := hm20.rowBlk (A := pA) (n := n) (c := pc) 1 rfl (by omega)
  refine ⟨_, rfl, ?_⟩
  refine qP rfl ?_
  refine lk_ (.tuple #[.slice (some ⟨b21, 0, none⟩) n pc, .int .i64 0]) ?_
  refine lk_ (.slice (some ⟨b21, 0, none⟩) n pc) ?_
  refine li_ 0 ?_
  refine lk_ (.slice (some ⟨b21, 0, none⟩) n pc) ?_
  refine li_ 0 ?_
  refine pt_ hK18 ?_
  refine sk_ fun _ hK22 => ?_
  refine sp_ fun _ hK23 => ?_
  refine li_ 0 ?_
  refine lF_ ?_
  refine pt_ hK23 ?_
  refine wp_cond_false le_ ?_
  refine wp_skip ?_
  refine tn_ hK22 ?_
  refine sp_ fun _ hK24 => ?_
  refine lk_ (.slice none 0 0) ?_
  refine pt_ hK24 ?_
  refine sk_ fun _ hK25 => ?_
  refine sp_ fun _ hK26 => ?_
  refine li_ 0 ?_
  refine pt_ hK26 ?_
  refine wp_block ?_
  have hm27 := Mem.nilFront hm20 26 1
  clear hm20
  refine gwLoop (fun n_ a_ w_ => ∃ (k : Nat) (A2 : Option Addr) (c2 : Nat) (Es : List Ent), n_ = n - k ∧ (k ≤ n) ∧ (Es.map (·.ids) = cellsG g k) ∧ Fr a_ 74 [(2, .pointer (some ⟨g2, 0, none⟩)), (4, .slice none 0 0), (5, .slice none 0 0), (6, .bool false), (7, .slice (some ⟨b21, 0, none⟩) n pc), (9, .slice A2 Es.length c2), (10, .int .i64 (k : Int))] ∧ Mem w w_ ((.row (.slice A2 Es.length c2) 26 1 Es.length (Es.map entV)) :: (.arr g2 28 (gcs g A c)) :: (.row (.slice (some ⟨b21, 0, none⟩) n pc) 63 4 n (tlsC (planL n))) :: (Es.map rowE))) (n - 0) ⟨0, none, 0, [], rfl, (Nat.zero_le _), rfl, ⟨litSize, rfl, fo_⟩, (hm27.sub (.cons_cons _ (.cons_cons _ (.cons_cons _ (List.Sublist.refl _)))))⟩ ?_
  clear hm27
  intro n_ a30 w28 hI_
  obtain ⟨k, A2, c2, Es, rfl, hk, hE, hF_, hm29⟩ := hI_
  obtain ⟨X31, rfl⟩ := frLit hF_
  clear hF_
  refine sk_ fun _ hK32 => ?_
  refine sp_ fun _ hK33 => ?_
  refine li_ k ?_
  refine lk_ (.slice (some ⟨b21, 0, none⟩) n pc) ?_
  refine lv_ rfl (.int .i64 (n : Int)) (ln_ (some ⟨b21, 0, none⟩) n pc Ty.und_L_api_Tile) ?_
  by_cases h34 : (k : Int) < (n : Int)
  ·have hEl_ : Es.length ≤ 8 := by have h_ := congrArg List.length hE; rw [List.length_map] at h_; simp [cellsG] at h_; omega
   refine lv_ rfl _ (lsT_ h34) ?_
   refine pt_ hK33 ?_
   refine wp_cond_true le_ ?_
   refine wp_skip ?_
   refine tn_ hK32 ?_
   refine sk_ fun _ hK35 => ?_
   refine wp_block ?_
   refine sp_ fun _ hK36 => ?_
   refine lk_ (.slice none 0 0) ?_
   refine pt_ hK36 ?_
   refine sk_ fun _ hK37 => ?_
   refine sp_ fun _ hK38 => ?_
   refine li_ 0 ?_
   refine pt_ hK38 ?_
   refine wp_block ?_
   have hm39 := Mem.nilFront hm29 3 1
   clear hm29
   refine gwLoop (fun n_ a_ w_ => ∃ (i : Nat) (A3 : Option Addr) (c3 : Nat), n_ = 64 - i ∧ (i ≤ 64) ∧ Fr a_ 74 [(2, .pointer (some ⟨g2, 0, none⟩)), (4, .slice none 0 0), (5, .slice none 0 0), (6, .bool false), (7, .slice (some ⟨b21, 0, none⟩) n pc), (9, .slice A2 Es.length c2), (10, .int .i64 (k : Int)), (11, .slice A3 i c3), (12, .int .i64 (i : Int)), (39, .int .i64 (k : Int)), (40, .slice (some ⟨b21, 0, none⟩) n pc), (41, .int .i64 (n : Int)), (42, .bool true)] ∧ Mem w w_ ((.row (.slice A3 i c3) 3 1 i (ics (cellI g k i))) :: (.row (.slice A2 Es.length c2) 26 1 Es.length (Es.map entV)) :: (.arr g2 28 (gcs g A c)) :: (.row (.slice (some ⟨b21, 0, none⟩) n pc) 63 4 n (tlsC (planL n))) :: (Es.map rowE))) (64 - 0) ⟨0, none, 0, rfl, (Nat.zero_le _), ⟨litSize, rfl, fo_⟩, hm39⟩ ?_
   clear hm39
   intro n_ a42 w40 hI_
   obtain ⟨i, A3, c3, rfl, hi, hF_, hm41⟩ := hI_
   obtain ⟨X43, rfl⟩ := frLit hF_
   clear hF_
   refine sk_ fun _ hK44 => ?_
   refine sp_ fun _ hK45 => ?_
   refine li_ i ?_
   by_cases h46 : (i : Int) < 64
   ·refine lv_ rfl _ (lsT_ h46) ?_
    refine pt_ hK45 ?_
    refine wp_cond_true le_ ?_
    refine wp_skip ?_
    refine tn_ hK44 ?_
    refine sk_ fun _ hK47 => ?_
    refine wp_block ?_
    refine aoStart (aoV [fun _ => .slice A3 i c3, fun _ => .agg (gcs g A c).toArray, fun _ => .slice (some ⟨b21, 0, none⟩) n pc, fun _ => .int .i64 (k : Int), fun _ => .pointer (some ⟨b21, 0 + k * 4, none⟩), fun _ => .pointer (some ⟨b21, 0 + k * 4 + 1, none⟩), fun _ => .agg (pcs (tlP k)).toArray, fun _ => .int .i64 (i : Int), fun _ => .int .i64 ((i : Int) % 4), fun _ => .int .i64 (i : Int), fun _ => .int .i64 ((i : Int) / 4), fun _ => .int .i64 (((i : Int) / 4) % 4), fun _ => .int .i64 (i : Int), fun _ => .int .i64 ((i : Int) / 16), fun _ => .agg (pcs ⟨(i : Int) % 4, ((i : Int) / 4) % 4, (i : Int) / 16⟩).toArray, fun _ => .agg (pcs (posP k i)).toArray, fun _ => .int .i64 (g.get (posP k i)), fun γ_ => .slice (some ⟨(γ_.getD 0 0), 0, none⟩) 1 1, fun γ_ => .slice (rA (γ_.getD 0 0)) (i + 1) (rC (γ_.getD 0 0)), fun γ_ => .slice (rA (γ_.getD 0 0)) (i + 1) (rC (γ_.getD 0 0))]) (aoA [[], [], [], [], [], [], [], [], [], [], [], [], [], [], [], [], [], [17], [18], [18]]) (fun b_ g_ => ((bsel (b_ 18) (.row (.slice (rA (g_ 18)) (i + 1) (rC (g_ 18))) 3 1 (i + 1) ((ics (cellI g k i)) ++ ([.int .i64 (g.get (posP k i))] : List Value))) (.row (.slice A3 i c3) 3 1 i (ics (cellI g k i)))) :: (.row (.slice A2 Es.length c2) 26 1 Es.length (Es.map entV)) :: (.arr g2 28 (gcs g A c)) :: (.row (.slice (some ⟨b21, 0, none⟩) n pc) 63 4 n (tlsC (planL n))) :: (bsel (b_ 17) (.arr (g_ 17) 3 ([.int .i64 (g.get (posP k i))])) .free) :: (Es.map rowE))) hm41 kr_ kr_ (fun w_ h_ => (Mem.insAt 4 h_.pushFree)) (fun b_ g_ h_ => by show (fun (x17_ x18_ : Bool) => (((bsel x18_ (.row (.slice (rA (g_ 18)) (i + 1) (rC (g_ 18))) 3 1 (i + 1) ((ics (cellI g k i)) ++ ([.int .i64 (g.get (posP k i))] : List Value))) (.row (.slice A3 i c3) 3 1 i (ics (cellI g k i)))) :: (.row (.slice A2 Es.length c2) 26 1 Es.length (Es.map entV)) :: (.arr g2 28 (gcs g A c)) :: (.row (.slice (some ⟨b21, 0, none⟩) n pc) 63 4 n (tlsC (planL n))) :: (bsel x17_ (.arr (g_ 17) 3 ([.int .i64 (g.get (posP k i))])) .free) :: (Es.map rowE)) : List Res)) (b_ 17) (b_ 18) = _; rw [h_ 17 (by decide), h_ 18 (by decide)]) ?_ ?_
    ·refine aoNext rfl aoK_ ?_
     refine aoNext rfl (aoV_ (fun b_ g_ X_ w_ h_b h_ => valTo (b := .agg (gcs g A c).toArray) kr_ (la_ 0 2 h_ Ty.ag_voxel_api_Grid))) ?_
     refine aoNext rfl aoK_ ?_
     refine aoNext rfl aoK_ ?_
     refine aoNext rfl (aoV_ (fun b_ g_ X_ w_ h_b h_ => valTo (b := .pointer (some ⟨b21, 0 + k * 4, none⟩)) kr_ (ia_ pc k Ty.sl_L_api_Tile rfl (show k < n by omega)))) ?_
     refine aoNext rfl aoK_ ?_
     refine aoNext rfl (aoV_ (fun b_ g_ X_ w_ h_b h_ => valTo (b := .agg (pcs (tlP k)).toArray) kr_ (lar_ (m := k * 4 + 1) (h_.rdRow 3 rfl) (tlsP_get (show k < n by omega)) (by omega) Ty.ag_voxel_api_Point))) ?_
     refine aoNext rfl aoK_ ?_
     refine aoNext rfl (aoV_ (fun b_ g_ X_ w_ h_b h_ => valTo (b := .int .i64 ((i : Int) % 4)) kr_ (gRem (A := (i : Int)) (B := 4) (C := (i : Int) % 4) (.tmp 56) (.const (.int .i64 4)) rfl le_ le_ rfl (by omega) (by omega)))) ?_
     refine aoNext rfl aoK_ ?_
     refine aoNext rfl (aoV_ (fun b_ g_ X_ w_ h_b h_ => valTo (b := .int .i64 ((i : Int) / 4)) kr_ (gQuo (A := (i : Int)) (B := 4) (C := (i : Int) / 4) (.tmp 58) (.const (.int .i64 4)) rfl le_ le_ rfl (by omega) (by omega)))) ?_
     refine aoNext rfl (aoV_ (fun b_ g_ X_ w_ h_b h_ => valTo (b := .int .i64 (((i : Int) / 4) % 4)) kr_ (gRem (A := ((i : Int) / 4)) (B := 4) (C := ((i : Int) / 4) % 4) (.tmp 59) (.const (.int .i64 4)) rfl le_ le_ rfl (by omega) (by omega)))) ?_
     refine aoNext rfl aoK_ ?_
     refine aoNext rfl (aoV_ (fun b_ g_ X_ w_ h_b h_ => valTo (b := .int .i64 ((i : Int) / 16)) kr_ (gQuo (A := (i : Int)) (B := 16) (C := (i : Int) / 16) (.tmp 61) (.const (.int .i64 16)) rfl le_ le_ rfl (by omega) (by omega)))) ?_
     refine aoNext rfl aoK_ ?_
     refine aoNext rfl (aoC_ 27 (fun g_ => [.agg (pcs (tlP k)).toArray, .agg (pcs ⟨(i : Int) % 4, ((i : Int) / 4) % 4, (i : Int) / 16⟩).toArray]) [] [] (fun b_ g_ w_ h_b h_ => (addP_any k i (by omega) _).mono (fun _ _ h_r => ⟨h_r.1.trans kr_, h_r.2⟩))) ?_
     refine aoNext rfl (aoC_ 26 (fun g_ => [.agg (gcs g A c).toArray, .agg (pcs (posP k i)).toArray]) [] [] (fun b_ g_ w_ h_b h_ => (get_any g hvd_ A c (posP k i) _ ((Rd.below hrd h_.bel).more h_.bel.size)).mono (fun _ _ h_r => ⟨h_r.1.trans kr_, h_r.2⟩))) ?_
     refine aoNext rfl (aoLit (cs := fun g_ => [.int .i64 (g.get (posP k i))]) (n := 1) 4 (fun g_ => [(65, .int .i64 (g.get (posP k i)))]) (fun g_ a_ h_k => ⟨(h_k.inn 16 _ _ kr_ rfl rfl).trans kr_, trivial⟩) Ty.sl_L_int (fun g_ X_ => (wn rfl)) rfl (by decide) (by decide) (fun g_ X_ => by rw [lit_eval]; kernel_rfl) (fun _ _ _ => ⟨_, rfl⟩) (fun b_ g_ γ_ h_b => by kernel_rfl) (fun _ => by kernel_rfl) kr_) ?_
     refine aoNext rfl (aoApp1 (v := fun g_ => .slice A3 i c3) (gb := fun g_ => (g_ 17)) (n := i) (xs := ics (cellI g k i)) (ys := ([.int .i64 (g.get (posP k i))] : List Value)) 0 4 (fun g_ => [(49, .slice A3 i c3), (66, .slice (some ⟨(g_ 17), 0, none⟩) 1 1)]) (fun g_ a_ h_k => ⟨(h_k.inn 0 _ _ kr_ rfl rfl).trans kr_, (h_k.inn 17 _ _ kr_ rfl rfl).trans kr_, trivial⟩) Ty.sl_L_int (fun b_ g_ h_b => by show some ((bsel (b_ 18) (.row (.slice (rA (g_ 18)) (i + 1) (rC (g_ 18))) 3 1 (i + 1) ((ics (cellI g k i)) ++ ([.int .i64 (g.get (posP k i))] : List Value))) (.row (.slice A3 i c3) 3 1 i (ics (cellI g k i))))) = some (.row (.slice A3 i c3) 3 1 i (ics (cellI g k i)) : Res); rw [bselF h_b.no]) (fun b_ g_ h_b => by show some (bsel (b_ 17) (Res.arr (g_ 17) 3 ([.int .i64 (g.get (posP k i))] : List Value)) Res.free) = some (Res.arr (g_ 17) 3 ([.int .i64 (g.get (posP k i))] : List Value)); rw [bselT (h_b.pre 17 kr_)]) (fun g_ X_ => (wn rfl)) rfl (fun g_ X_ => litEv kr_) (fun g_ X_ => litEv kr_) kr_ kr_ (by omega) (by omega) (fun b_ g_ γ_ h_b => by kernel_rfl) (fun _ => by kernel_rfl) kr_) ?_
     refine aoNext rfl aoK_ ?_
     exact aoDone (by decide)
    intro g_ a_ w49 hF_ hm48
    obtain ⟨X50, rfl⟩ := frLit (⟨hF_.size, hF_.defers, ⟨hF_.o_ 2, hF_.o_ 4, hF_.o_ 5, hF_.o_ 6, hF_.o_ 7, hF_.o_ 9, hF_.o_ 10, hF_.i_ 19, hF_.o_ 12, hF_.o_ 39, hF_.o_ 40, hF_.o_ 41, hF_.o_ 42, hF_.o_ 45, hF_.o_ 46, hF_.i_ 0, hF_.i_ 1, hF_.i_ 2, hF_.i_ 3, hF_.i_ 4, hF_.i_ 5, hF_.i_ 6, hF_.i_ 7, hF_.i_ 8, hF_.i_ 9, hF_.i_ 10, hF_.i_ 11, hF_.i_ 12, hF_.i_ 13, hF_.i_ 14, hF_.i_ 15, hF_.i_ 16, hF_.i_ 17, hF_.i_ 18, trivial⟩⟩ : Fr _ 74 [(2, .pointer (some ⟨g2, 0, none⟩)), (4, .slice none 0 0), (5, .slice none 0 0), (6, .bool false), (7, .slice (some ⟨b21, 0, none⟩) n pc), (9, .slice A2 Es.length c2), (10, .int .i64 (k : Int)), (11, .slice (rA (g_ 18)) (i + 1) (rC (g_ 18))), (12, .int .i64 (i : Int)), (39, .int .i64 (k : Int)), (40, .slice (some ⟨b21, 0, none⟩) n pc), (41, .int .i64 (n : Int)), (42, .bool true), (45, .int .i64 (i : Int)), (46, .bool true), (49, .slice A3 i c3), (50, .agg (gcs g A c).toArray), (51, .slice (some ⟨b21, 0, none⟩) n pc), (52, .int .i64 (k : Int)), (53, .pointer (some ⟨b21, 0 + k * 4, none⟩)), (54, .pointer (some ⟨b21, 0 + k * 4 + 1, none⟩)), (55, .agg (pcs (tlP k)).toArray), (56, .int .i64 (i : Int)), (57, .int .i64 ((i : Int) % 4)), (58, .int .i64 (i : Int)), (59, .int .i64 ((i : Int) / 4)), (60, .int .i64 (((i : Int) / 4) % 4)), (61, .int .i64 (i : Int)), (62, .int .i64 ((i : Int) / 16)), (63, .agg (pcs ⟨(i : Int) % 4, ((i : Int) / 4) % 4, (i : Int) / 16⟩).toArray), (64, .agg (pcs (posP k i)).toArray), (65, .int .i64 (g.get (posP k i))), (66, .slice (some ⟨(g_ 17), 0, none⟩) 1 1), (67, .slice (rA (g_ 18)) (i + 1) (rC (g_ 18)))])
    clear hF_
    have hm51 : Mem w w49 ((.row (.slice (rA (g_ 18)) (i + 1) (rC (g_ 18))) 3 1 (i + 1) ((ics (cellI g k i)) ++ ([.int .i64 (g.get (posP k i))] : List Value))) :: (.row (.slice A2 Es.length c2) 26 1 Es.length (Es.map entV)) :: (.arr g2 28 (gcs g A c)) :: (.row (.slice (some ⟨b21, 0, none⟩) n pc) 63 4 n (tlsC (planL n))) :: (.arr (g_ 17) 3 ([.int .i64 (g.get (posP k i))])) :: (Es.map rowE)) := hm48
    clear hm48 hm41
    generalize rA (g_ 18) = A52 at hm51 ⊢
    generalize rC (g_ 18) = c53 at hm51 ⊢
    generalize g_ 17 = g54 at hm51 ⊢
    clear g_
    refine inBlock_normal ?_
    refine tn_ hK47 ?_
    refine plStart ?_
    refine li_ i ?_
    refine lv_ rfl _ (ad_ (i : Int) 1) ?_
    refine li_ ((i : Int) + 1) ?_
    refine plD ?_
    refine then_normal ?_
    have hm55 := Mem.rowEq (v := .slice A52 (i + 1) c53) (e := 3) (size := 1) (n := i + 1) (n' := i + 1) (xs := (ics (cellI g k i)) ++ ([.int .i64 (g.get (posP k i))] : List Value)) (xs' := ics (cellI g k (i + 1))) 0 hm51 rfl (by rfl) (by rw [cellI_succ]; simp [ics])
    clear hm51
    try simp only [lc_] at hm55
    exact ⟨_, by omega, (i + 1), A52, c53, rfl, (by omega), ⟨litSize, rfl, fo_⟩, (hm55.sub (.cons_cons _ (.cons_cons _ (.cons_cons _ (.cons_cons _ (.cons _ (List.Sublist.refl _)))))))⟩
   have hi64_ : i = 64 := by omega
   rw [hi64_] at hm41
   have hm56 : Mem w w40 ((.row (.slice A3 64 c3) 3 1 64 (ics (cellI g k 64))) :: (.row (.slice A2 Es.length c2) 26 1 Es.length (Es.map entV)) :: (.arr g2 28 (gcs g A c)) :: (.row (.slice (some ⟨b21, 0, none⟩) n pc) 63 4 n (tlsC (planL n))) :: (Es.map rowE)) := hm41
   clear hm41
   rw [hi64_]
   refine lF_ ?_
   refine pt_ hK45 ?_
   refine wp_cond_false le_ ?_
   refine wp_exit ?_
   refine then_exit ?_
   refine then_exit ?_
   refine inBlock_exit ?_
   refine tn_ hK37 ?_
   refine plStart ?_
   refine lk_ (.slice A2 Es.length c2) ?_
   refine lk_ (.slice A3 64 c3) ?_
   refine plLit (cs := [.slice A3 64 c3]) (n := 1) Ty.sl_L_L_int hm56 (i := 2) rfl (wn rfl) rfl (by decide) (by decide) (by rw [lit_eval]; kernel_rfl) ?_
   intro g57 w59 hm58
   clear hm56
   try simp only [lc_] at hm58
   replace hm58 := hm58.i4
   refine qP rfl ?_
   refine plApp1 (v := .slice A2 Es.length c2) (n := Es.length) (xs := (Es.map entV)) (ys := [.slice A3 64 c3]) 1 4 Ty.sl_L_L_int hm58 rfl rfl (i := 3) rfl (wn rfl) rfl le_ le_ kr_ kr_ (by omega) (by omega) ?_
   intro v64 w61 hm60
   clear hm58
   try simp only [lc_] at hm60
   replace hm60 := Mem.rowEq (v := v64) (e := 26) (size := 1) (n := Es.length + 1) (n' := (Es ++ [(⟨⟨p0, p0⟩, A3, c3, cellI g k 64⟩ : Ent)]).length) (xs := (Es.map entV) ++ ([.slice A3 64 c3])) (xs' := ((Es ++ [(⟨⟨p0, p0⟩, A3, c3, cellI g k 64⟩ : Ent)]).map entV)) 1 hm60 rfl (by simp) (by rw [List.map_append]; rfl)
   try simp only [lc_] at hm60
   obtain ⟨A62, c63, rfl⟩ := Mem.rowSl (v := v64) (e := 26) (size := 1) (n := (Es ++ [(⟨⟨p0, p0⟩, A3, c3, cellI g k 64⟩ : Ent)]).length) (xs := ((Es ++ [(⟨⟨p0, p0⟩, A3, c3, cellI g k 64⟩ : Ent)]).map entV)) 1 hm60 rfl
   refine qP rfl ?_
   refine lk_ (.slice A62 ((Es ++ [(⟨⟨p0, p0⟩, A3, c3, cellI g k 64⟩ : Ent)]).length) c63) ?_
   refine plD ?_
   refine inBlock_normal ?_
   refine tn_ hK35 ?_
   refine plStart ?_
   refine li_ k ?_
   refine lv_ rfl _ (ad_ (k : Int) 1) ?_
   refine li_ ((k : Int) + 1) ?_
   refine plD ?_
   refine then_normal ?_
   have hm65 := hm60.f3
   clear hm60
   have hm66 := hm65.f3
   clear hm65
   have hm67 := hm66.f3
   clear hm66
   have hm68 := hm67.f3
   clear hm67
   have hm69 : Mem w w61 ((.row (.slice A3 64 c3) 3 1 64 (ics (cellI g k 64))) :: (.row (.slice A62 ((Es ++ [(⟨⟨p0, p0⟩, A3, c3, cellI g k 64⟩ : Ent)]).length) c63) 26 1 ((Es ++ [(⟨⟨p0, p0⟩, A3, c3, cellI g k 64⟩ : Ent)]).length) ((Es ++ [(⟨⟨p0, p0⟩, A3, c3, cellI g k 64⟩ : Ent)]).map entV)) :: (.arr g2 28 (gcs g A c)) :: (.row (.slice (some ⟨b21, 0, none⟩) n pc) 63 4 n (tlsC (planL n))) :: (Es.map rowE)) := (hm68.sub (.cons_cons _ (.cons_cons _ (.cons_cons _ (.cons_cons _ (.cons _ (List.Sublist.refl _)))))))
   clear hm68
   have hm70 := Mem.rowSnoc (L := [.row (.slice A62 ((Es ++ [(⟨⟨p0, p0⟩, A3, c3, cellI g k 64⟩ : Ent)]).length) c63) 26 1 ((Es ++ [(⟨⟨p0, p0⟩, A3, c3, cellI g k 64⟩ : Ent)]).length) ((Es ++ [(⟨⟨p0, p0⟩, A3, c3, cellI g k 64⟩ : Ent)]).map entV), .arr g2 28 (gcs g A c), .row (.slice (some ⟨b21, 0, none⟩) n pc) 63 4 n (tlsC (planL n))]) (e := (⟨⟨p0, p0⟩, A3, c3, cellI g k 64⟩ : Ent)) (E := Es) hm69
   exact ⟨_, by omega, (k + 1), A62, c63, (Es ++ [(⟨⟨p0, p0⟩, A3, c3, cellI g k 64⟩ : Ent)]), rfl, (by omega), (by rw [List.map_append, hE, cellsG_succ]; rfl), ⟨litSize, rfl, fo_⟩, hm70⟩
  have hke_ : k = n := by omega
  refine lv_ rfl _ (lsF_ h34) ?_
  refine pt_ hK33 ?_
  refine wp_cond_false le_ ?_
  refine wp_exit ?_
  refine then_exit ?_
  refine then_exit ?_
  refine inBlock_exit ?_
  refine tn_ hK25 ?_
  refine sp_ fun _ hK71 => ?_
  refine lk_ (.slice (some ⟨b21, 0, none⟩) n pc) ?_
  refine lk_ (.slice A2 Es.length c2) ?_
  refine lk_ (.slice (some ⟨b21, 0, none⟩) n pc) ?_
  refine lk_ (.slice A2 Es.length c2) ?_
  refine lT_ ?_
  refine pt_ hK71 ?_
  refine wpPrune [(4, .slice (some ⟨b21, 0, none⟩) n pc), (5, .slice A2 Es.length c2), (6, .bool true)] fo_ (fun X72 => ?_)
  refine wp_ret ?_
  refine bodyPost_ret (v := .tuple #[.slice (some ⟨b21, 0, none⟩) n pc, .slice A2 Es.length c2, .bool true]) (gRes3 rfl (gResTmp (t := 4) (v := .slice (some ⟨b21, 0, none⟩) n pc) (lg_)) (gResTmp (t := 5) (v := .slice A2 Es.length c2) (lg_)) (gResTmp (t := 6) (v := .bool true) (lg_))) rfl ?_
  rw [hke_] at hE
  exact Or.inr ⟨⟨hvd_, h16⟩, Es, _, _, _, _, rfl, hE, (hm29.sub (.cons_cons _ (.cons _ (.cons_cons _ (List.Sublist.refl _)))))⟩
 refine mgTake (i := 17) (v := .bool true) rfl kr_ (wgY rfl rfl rfl (by decide) kr_) (fun _ _ _ h => h) hm15 (fun w_ h_ => boolTo (by rw [decide_eq_false h16]; rfl) (neqAgRun 2 (.tmp 26) (.tmp 29) (bxs g.box) (bxs (cubeB sd)) (decide (g.box = (cubeB sd))) (by rw [decide_eq_true_iff, bxs_inj]) kr_ rfl kr_ kr_ kr_ kr_ rfl le_ le_)) ?_
 refine mP rfl ?_
 refine mk_ (i := 18) (v := .bool true) rfl rfl (fun _ _ _ h => h) hm15 rfl ?_
 refine mgDone kr_ ?_
 refine tn_ hK6 ?_
 refine wpPrune [(1, .int .i64 d), (2, .pointer (some ⟨g2, 0, none⟩)), (4, .slice none 0 0), (5, .slice none 0 0), (6, .bool false), (31, .bool true)] fo_ (fun X73 => ?_)
 refine wp_cond_true le_ ?_
 refine sp_ fun _ hK74 => ?_
 refine lk_ (.slice none 0 0) ?_
 refine lk_ (.slice none 0 0) ?_
 refine lF_ ?_
 refine pt_ hK74 ?_
 refine wp_ret ?_
 refine then_ret ?_
 refine bodyPost_ret (v := .tuple #[.slice none 0 0, .slice none 0 0, .bool false]) (gRes3 rfl (gResTmp (t := 4) (v := .slice none 0 0) (lg_)) (gResTmp (t := 5) (v := .slice none 0 0) (lg_)) (gResTmp (t := 6) (v := .bool false) (lg_))) rfl ?_
 exact Or.inl ⟨fun h_ => h16 h_.2, rfl, hm15.bel⟩
theorem fullno_any (g : Gr) (A : Option Addr) (c : Nat) (d : Int) (hd : ¬ (d = 2 ∨ d = 3)) (w : World) : Calls Tryz.prog 6 #[.agg (gcs g A c).toArray, .int .i64 d] w (fun e w' => e = .returned (.tuple #[.slice none 0 0, .slice none 0 0, .bool false]) ∧ Below w.heap.size w w') := by
 have hm0 := Mem.nil w
 go_enter Tryz.func6, Tryz.ntmps6
 refine litStart 74 [(0, .agg (gcs g A c).toArray), (1, .int .i64 d)] kr_ (fun X0 => ?_)
 refine sp_ fun _ hK1 => ?_
 refine plBox hm0 (cs := gcs g A c) (i := 0) rfl (wn rfl) rfl le_ ?_
 intro g2 w4 hm3
 clear hm0
 try simp only [lc_] at hm3
 refine qP rfl ?_
 refine lk_ (.slice none 0 0) ?_
 refine lk_ (.slice none 0 0) ?_
 refine lF_ ?_
 refine pt_ hK1 ?_
 refine sk_ fun _ hK5 => ?_
 refine sk_ fun _ hK6 => ?_
 refine mgStart hm3 kr_ ?_
 intro w8 hm7
 clear hm3
 refine mk_ (i := 0) (v := .int .i64 d) rfl rfl (fun _ _ _ h => h) hm7 rfl ?_
 by_cases h9 : d < 2
 ·refine mt_ 1 rfl (.bool true) hm7 (fun w_ h_ => lsT_ h9) ?_
  refine mk_ (i := 2) (v := .bool true) rfl rfl (fun _ _ _ h => h) hm7 rfl ?_
  refine mgSkip (i := 3) rfl kr_ (wgN rfl rfl rfl (by decide) kr_) (fun _ _ _ h => h) hm7 ?_
  refine mP rfl ?_
  refine mgSkip (i := 4) rfl kr_ (wgN rfl rfl rfl (by decide) kr_) (fun _ _ _ h => h) hm7 ?_
  refine mP rfl ?_
  refine mk_ (i := 5) (v := .bool true) rfl rfl (fun _ _ _ h => h) hm7 rfl ?_
  refine mk_ (i := 6) (v := .bool true) rfl rfl (fun _ _ _ h => h) hm7 rfl ?_
  refine mgSkip (i := 7) rfl kr_ (wgN rfl rfl rfl (by decide) kr_) (fun _ _ _ h => h) hm7 ?_
  refine mP rfl ?_
  refine mgSkip (i := 8) rfl kr_ (wgN rfl rfl rfl (by decide) kr_) (fun _ _ _ h => h) hm7 ?_
  refine mP rfl ?_
  refine mgSkip (i := 9) rfl kr_ (wgN rfl rfl rfl (by decide) kr_) (fun _ _ _ h => h) hm7 ?_
  refine mP rfl ?_
  refine mk_ (i := 10) (v := .bool true) rfl rfl (fun _ _ _ h => h) hm7 rfl ?_
  refine mk_ (i := 11) (v := .bool true) rfl rfl (fun _ _ _ h => h) hm7 rfl ?_
  refine mgSkip (i := 12) rfl kr_ (wgN rfl rfl rfl (by decide) kr_) (fun _ _ _ h => h) hm7 ?_
  refine mP rfl ?_
  refine mgSkip (i := 13) rfl kr_ (wgN rfl rfl rfl (by decide) kr_) (fun _ _ _ h => h) hm7 ?_
  refine mP rfl ?_
  refine mgSkip (i := 14) rfl kr_ (wgN rfl rfl rfl (by decide) kr_) (fun _ _ _ h => h) hm7 ?_
  refine mP rfl ?_
  refine mgSkip (i := 15) rfl kr_ (wgN rfl rfl rfl (by decide) kr_) (fun _ _ _ h => h) hm7 ?_
  refine mP rfl ?_
  refine mgSkip (i := 16) rfl kr_ (wgN rfl rfl rfl (by decide) kr_) (fun _ _ _ h => h) hm7 ?_
  refine mP rfl ?_
  refine mgSkip (i := 17) rfl kr_ (wgN rfl rfl rfl (by decide) kr_) (fun _ _ _ h => h) hm7 ?_
  refine mP rfl ?_
  refine mk_ (i := 18) (v := .bool true) rfl rfl (fun _ _ _ h => h) hm7 rfl ?_
  refine mgDone kr_ ?_
  refine tn_ hK6 ?_
  refine wpPrune [(1, .int .i64 d), (2, .pointer (some ⟨g2, 0, none⟩)), (4, .slice none 0 0), (5, .slice none 0 0), (6, .bool false), (31, .bool true)] fo_ (fun X10 => ?_)
  refine wp_cond_true le_ ?_
  refine sp_ fun _ hK11 => ?_
  refine lk_ (.slice none 0 0) ?_
  refine lk_ (.slice none 0 0) ?_
  refine lF_ ?_
  refine pt_ hK11 ?_
  refine wp_ret ?_
  refine then_ret ?_
  refine bodyPost_ret (v := .tuple #[.slice none 0 0, .slice none 0 0, .bool false]) (gRes3 rfl (gResTmp (t := 4) (v := .slice none 0 0) (lg_)) (gResTmp (t := 5) (v := .slice none 0 0) (lg_)) (gResTmp (t := 6) (v := .bool false) (lg_))) rfl ?_
  exact ⟨rfl, hm7.bel⟩
 refine mt_ 1 rfl (.bool false) hm7 (fun w_ h_ => lsF_ h9) ?_
 refine mk_ (i := 2) (v := .bool false) rfl rfl (fun _ _ _ h => h) hm7 rfl ?_
 refine mgTake (i := 3) (v := .int .i64 d) rfl kr_ (wgY rfl rfl rfl (by decide) kr_) (fun _ _ _ h => h) hm7 (fun w_ h_ => litRun kr_) ?_
 refine mP rfl ?_
 refine mgTake (i := 4) (v := .bool true) rfl kr_ (wgY rfl rfl rfl (by decide) kr_) (fun _ _ _ h => h) hm7 (fun w_ h_ => boolTo (decide_eq_true (show 3 < d by omega)) (gtrRun (A := d) (B := 3) (.tmp 16) (.const (.int .i64 3)) rfl le_ le_)) ?_
 refine mP rfl ?_
 refine mk_ (i := 5) (v := .bool true) rfl rfl (fun _ _ _ h => h) hm7 rfl ?_
 refine mk_ (i := 6) (v := .bool true) rfl rfl (fun _ _ _ h => h) hm7 rfl ?_
 refine mgSkip (i := 7) rfl kr_ (wgN rfl rfl rfl (by decide) kr_) (fun _ _ _ h => h) hm7 ?_
 refine mP rfl ?_
 refine mgSkip (i := 8) rfl kr_ (wgN rfl rfl rfl (by decide) kr_) (fun _ _ _ h => h) hm7 ?_
 refine mP rfl ?_
 refine mgSkip (i := 9) rfl kr_ (wgN rfl rfl rfl (by decide) kr_) (fun _ _ _ h => h) hm7 ?_
 refine mP rfl ?_
 refine mk_ (i := 10) (v := .bool true) rfl rfl (fun _ _ _ h => h) hm7 rfl ?_
 refine mk_ (i := 11) (v := .bool true) rfl rfl (fun _ _ _ h => h) hm7 rfl ?_
 refine mgSkip (i := 12) rfl kr_ (wgN rfl rfl rfl (by decide) kr_) (fun _ _ _ h => h) hm7 ?_
 refine mP rfl ?_
 refine mgSkip (i := 13) rfl kr_ (wgN rfl rfl rfl (by decide) kr_) (fun _ _ _ h => h) hm7 ?_
 refine mP rfl ?_
 refine mgSkip (i := 14) rfl kr_ (wgN rfl rfl rfl (by decide) kr_) (fun _ _ _ h => h) hm7 ?_
 refine mP rfl ?_
 refine mgSkip (i := 15) rfl kr_ (wgN rfl rfl rfl (by decide) kr_) (fun _ _ _ h => h) hm7 ?_
 refine mP rfl ?_
 refine mgSkip (i := 16) rfl kr_ (wgN rfl rfl rfl (by decide) kr_) (fun _ _ _ h => h) hm7 ?_
 refine mP rfl ?_
 refine mgSkip (i := 17) rfl kr_ (wgN rfl rfl rfl (by decide) kr_) (fun _ _ _ h => h) hm7 ?_
 refine mP rfl ?_
 refine mk_ (i := 18) (v := .bool true) rfl rfl (fun _ _ _ h => h) hm7 rfl ?_
 refine mgDone kr_ ?_
 refine tn_ hK6 ?_
 refine wpPrune [(1, .int .i64 d), (2, .pointer (some ⟨g2, 0, none⟩)), (4, .slice none 0 0), (5, .slice none 0 0), (6, .bool false), (31, .bool true)] fo_ (fun X12 => ?_)
 refine wp_cond_true le_ ?_
 refine sp_ fun _ hK13 => ?_
 refine lk_ (.slice none 0 0) ?_
 refine lk_ (.slice none 0 0) ?_
 refine lF_ ?_
 refine pt_ hK13 ?_
 refine wp_ret ?_
 refine then_ret ?_
 refine bodyPost_ret (v := .tuple #[.slice none 0 0, .slice none 0 0, .bool false]) (gRes3 rfl (gResTmp (t := 4) (v := .slice none 0 0) (lg_)) (gResTmp (t := 5) (v := .slice none 0 0) (lg_)) (gResTmp (t := 6) (v := .bool false) (lg_))) rfl ?_
 exact ⟨rfl, hm7.bel⟩
end Go.Proofs.YtbpihalphhoiaaaGreatDoor
namespace Go.Proofs.YtbpihalphhoiaaaGreatDoor
theorem firstSol_mem {f : Pt → Bool} : ∀ {l : List Pt} {i k : Nat} {p : Pt}, firstSol f l i = some (k, p) → p ∈ l ∧ f p = true
 | [], _, _, _, h => by cases h
 | q :: l, i, k, p, h => by
  unfold firstSol at h
  split at h
  ·rename_i hf
   simp only [Option.some.injEq, Prod.mk.injEq] at h
   obtain ⟨_, rfl⟩ := h
   exact ⟨List.mem_cons_self, hf⟩
  ·have := firstSol_mem h
   exact ⟨List.mem_cons_of_mem _ this.1, this.2⟩
theorem firstSol_no {f : Pt → Bool} : ∀ {l : List Pt} {i : Nat}, firstSol f l i = .none → ∀ q ∈ l, f q = false
 | [], _, _, q, hq => by cases hq
 | p :: l, i, h, q, hq => by
  unfold firstSol at h
  split at h
  ·cases h
  ·rename_i hf
   rcases List.mem_cons.1 hq with rfl | hq
   ·simpa using hf
   ·exact firstSol_no h q hq
theorem vis_blocked {g : Gr} {T : List Mat} {a b q : Pt} {k : Nat} (h1 : ckE a b = 0) (h : firstSol (solidAt g T) (walk a b) 0 = some (k, q)) (ha : q ≠ a) (hb : q ≠ b) : visR g T a b = false := by
 unfold visR
 rw [if_pos h1, Bool.eq_false_iff]
 intro h2
 have := List.all_eq_true.1 h2 q (firstSol_mem h).1
 unfold visB at this
 rw [(firstSol_mem h).2, decide_eq_false ha, decide_eq_false hb] at this
 cases this
theorem vis_free {g : Gr} {T : List Mat} {a b : Pt} (h1 : ckE a b = 0) (h : firstSol (solidAt g T) (walk a b) 0 = .none) : visR g T a b = true := by
 unfold visR
 rw [if_pos h1, List.all_eq_true]
 intro q hq
 unfold visB
 rw [firstSol_no h q hq]; simp
theorem near_ck {a b : Pt} (ha : nearB.has a) (hb : nearB.has b) : ckE a b = 0 := by
 unfold Bx.has nearB at ha hb
 simp only at ha hb
 unfold ckE Pt.rng Pt.sum dif
 rw [if_pos (by omega), if_neg (by omega)]
theorem walk_near {a b q : Pt} (ha : nearB.has a) (hb : nearB.has b) (hq : q ∈ walk a b) : nearB.has q := by
 have h := (walk_mem hq).2
 unfold inB at h
 unfold Bx.has nearB at *
 simp only at *
 omega
theorem solid_eq {g : Gr} {T : List Mat} {n : Nat} (hn : n = 1 ∨ n = 8) (hb : g.box = cubeB (sideN n)) (p : Pt) : solidAt g T p = solF (cellsG g n) T n p := by
 have hh : g.box.has p ↔ inC (sideN n) p := by
  rw [hb]
  unfold Bx.has cubeB p0 inC
  simp only
 unfold solidAt solF
 by_cases h : inC (sideN n) p
 ·rw [decide_eq_true (hh.2 h), decide_eq_true h]
  obtain ⟨h1, h2, h3⟩ := posP_no hn h
  have e : cellF (cellsG g n) p = g.get p := by
   have e1 : (cellsG g n).getD (tNo p) [] = cellI g (tNo p) 64 := by unfold cellsG; rw [List.getD_eq_getElem?_getD, List.getElem?_map, List.getElem?_range h1]; rfl
   have e2 : (cellI g (tNo p) 64).getD (bNo p) 0 = g.get (posP (tNo p) (bNo p)) := by unfold cellI; rw [List.getD_eq_getElem?_getD, List.getElem?_map, List.getElem?_range h2]; rfl
   unfold cellF
   rw [e1, e2, h3]
  rw [e]
 ·rw [decide_eq_false (fun e => h (hh.1 e)), decide_eq_false h]; rfl
theorem firstSol_at {f : Pt → Bool} {p : Pt} : ∀ {l : List Pt} {i k : Nat}, firstSol f l i = some (k, p) → i ≤ k ∧ l[k - i]? = some p ∧ ∀ j, j < k - i → ∀ q, l[j]? = some q → f q = false
 | [], _, _, h => by cases h
 | q :: l, i, k, h => by
  unfold firstSol at h
  split at h
  ·simp only [Option.some.injEq, Prod.mk.injEq] at h
   obtain ⟨rfl, rfl⟩ := h
   refine ⟨Nat.le_refl _, by simp, fun j hj => by omega⟩
  ·rename_i hf
   obtain ⟨h1, h2, h3⟩ := firstSol_at h
   have e : k - i = (k - (i + 1)) + 1 := by omega
   refine ⟨by omega, by rw [e, List.getElem?_cons_succ]; exact h2, fun j hj r hr => ?_⟩
   cases j with
   | zero =>
    rw [List.getElem?_cons_zero] at hr
    cases hr
    simpa using hf
   | succ j =>
    rw [List.getElem?_cons_succ] at hr
    exact h3 j (by omega) r hr
theorem first_bef {f : Pt → Bool} {a b q : Pt} {k : Nat} (h : firstSol f (walk a b) 0 = some (k, q)) : q ∈ walk a b ∧ f q = true ∧ befOf (walk a b) a k ∈ walk a b ∧ (k = 0 → befOf (walk a b) a k = q) ∧ (0 < k → f (befOf (walk a b) a k) = false ∧ q ≠ a) := by
 obtain ⟨_, h2, h3⟩ := firstSol_at h
 have hm := firstSol_mem h
 have h0 := walk_head a b
 rw [Nat.sub_zero] at h2
 rw [Nat.sub_zero] at h3
 refine ⟨hm.1, hm.2, ?_, fun hk => ?_, fun hk => ?_⟩
 ·unfold befOf
  split
  ·exact List.mem_of_getElem? h0
  ·have hl := (List.getElem?_eq_some_iff.1 h2).1
   exact List.mem_of_getElem? (getD_of a (show k - 1 < (walk a b).length by omega))
 ·subst hk
  rw [h0] at h2
  cases h2
  rfl
 ·have hl := (List.getElem?_eq_some_iff.1 h2).1
  unfold befOf
  rw [if_neg (by omega)]
  refine ⟨h3 (k - 1) (by omega) _ (getD_of a (by omega)), fun e => ?_⟩
  subst e
  have := (List.getElem?_inj hl (walk_nodup q b)).1 (h2.trans h0.symm)
  omega
theorem sum_zero : ∀ (n : Nat) (g : Nat → Nat), (∀ i, i < n → g i = 0) → ((List.range n).map g).sum = 0
 | 0, _, _ => rfl
 | n + 1, g, h => by
  rw [List.range_succ, List.map_append, List.sum_append, sum_zero n g (fun i hi => h i (by omega))]
  simp [h n (by omega)]
theorem sum_one : ∀ (n : Nat) (g : Nat → Nat) (j : Nat), j < n → g j = 1 → (∀ i, i < n → i ≠ j → g i = 0) → ((List.range n).map g).sum = 1
 | 0, _, j, hj, _, _ => absurd hj (Nat.not_lt_zero _)
 | n + 1, g, j, hj, h1, h0 => by
  rw [List.range_succ, List.map_append, List.sum_append]
  by_cases hjn : j = n
  ·subst hjn
   rw [sum_zero j g (fun i hi => h0 i (by omega) (by omega))]
   simp [h1]
  ·rw [sum_one n g j (by omega) h1 (fun i hi hne => h0 i (by omega) hne)]
   simp [h0 n (by omega) (fun e => hjn e.symm)]
def hitB (q u : Pt) (x : Qd) : Bool := decide (solidP x = q) && decide (emptyP x = u)
theorem quad_sides {f : Pt → Bool} {p : Pt} {d : Dr} (hd : d ∈ drL) {x : Qd} (hx : x ∈ quadD f p d) : solidP x = p ∧ emptyP x = p.add d.st := by
 unfold quadD at hx
 split at hx
 ·rw [List.mem_singleton] at hx
  subst hx
  obtain ⟨px, py, pz⟩ := p
  unfold drL at hd
  simp only [List.mem_cons, List.not_mem_nil, or_false] at hd
  rcases hd with rfl | rfl | rfl | rfl | rfl | rfl <;> simp [solidP, emptyP, befP, stepP, Pt.add] <;> omega
 ·cases hx
theorem cnt_other {f : Pt → Bool} {p q u : Pt} (h : p ≠ q) : (quadI f p).countP (hitB q u) = 0 := by
 rw [List.countP_eq_zero]
 intro x hx
 unfold quadI at hx
 obtain ⟨d, hd, hx⟩ := List.mem_flatMap.1 hx
 have := (quad_sides hd hx).1
 unfold hitB
 rw [this]
 simp [h]
theorem cnt_dir {f : Pt → Bool} {q u : Pt} (hq : f q = true) (hu : f u = false) {d : Dr} (hd : d ∈ drL) : (quadD f q d).countP (hitB q u) = if q.add d.st = u then 1 else 0 := by
 by_cases h : q.add d.st = u
 ·rw [if_pos h]
  have hx : quadD f q d = [⟨if d.up then q.add d.st else q, d.ax, d.up, 1⟩] := by unfold quadD; rw [if_pos ⟨hq, by rw [h]; exact hu⟩]
  have hs := quad_sides hd (x := ⟨if d.up then q.add d.st else q, d.ax, d.up, 1⟩) (by rw [hx]; exact List.mem_singleton.2 rfl)
  rw [hx, List.countP_cons, List.countP_nil]
  unfold hitB
  rw [hs.1, hs.2, h]
  simp
 ·rw [if_neg h, List.countP_eq_zero]
  intro x hx
  have := (quad_sides hd hx).2
  unfold hitB
  rw [this]
  simp [h]
theorem cnt_here {f : Pt → Bool} {q u : Pt} (hq : f q = true) (hu : f u = false) (h1 : (q.x - u.x) * (q.x - u.x) + (q.y - u.y) * (q.y - u.y) + (q.z - u.z) * (q.z - u.z) = 1) : (quadI f q).countP (hitB q u) = 1 := by
 have sq : ∀ x : Int, 0 ≤ x * x ∧ (¬ (-1 ≤ x ∧ x ≤ 1) → 4 ≤ x * x) := fun x => by
  refine ⟨?_, fun h => ?_⟩
  ·rcases Int.le_total 0 x with h | h
   ·exact Int.mul_nonneg h h
   ·exact Int.mul_nonneg_of_nonpos_of_nonpos h h
  ·rcases Int.le_total 0 x with h0 | h0
   ·have := Int.mul_le_mul (show 2 ≤ x by omega) (show 2 ≤ x by omega) (by omega) h0; omega
   ·have := Int.mul_le_mul (show 2 ≤ -x by omega) (show 2 ≤ -x by omega) (by omega) (by omega)
    rw [Int.neg_mul_neg] at this; omega
 have hx := sq (q.x - u.x)
 have hy := sq (q.y - u.y)
 have hz := sq (q.z - u.z)
 have bx : -1 ≤ q.x - u.x ∧ q.x - u.x ≤ 1 := Decidable.byContradiction fun h => by have := hx.2 h; omega
 have by_ : -1 ≤ q.y - u.y ∧ q.y - u.y ≤ 1 := Decidable.byContradiction fun h => by have := hy.2 h; omega
 have bz : -1 ≤ q.z - u.z ∧ q.z - u.z ≤ 1 := Decidable.byContradiction fun h => by have := hz.2 h; omega
 have c : ∀ d ∈ drL, (quadD f q d).countP (hitB q u) = if q.add d.st = u then 1 else 0 := fun d hd => cnt_dir hq hu hd
 unfold quadI
 simp only [drL, List.flatMap_cons, List.flatMap_nil, List.countP_append, List.countP_nil]
 rw [c ⟨0, false, ⟨-1, 0, 0⟩⟩ (by decide), c ⟨0, true, ⟨1, 0, 0⟩⟩ (by decide), c ⟨1, false, ⟨0, -1, 0⟩⟩ (by decide), c ⟨1, true, ⟨0, 1, 0⟩⟩ (by decide), c ⟨2, false, ⟨0, 0, -1⟩⟩ (by decide), c ⟨2, true, ⟨0, 0, 1⟩⟩ (by decide)]
 obtain ⟨qx, qy, qz⟩ := q
 obtain ⟨ux, uy, uz⟩ := u
 simp only [Pt.add, Pt.mk.injEq] at *
 generalize ex : qx - ux = X at *
 generalize ey : qy - uy = Y at *
 generalize ez : qz - uz = Z at *
 rcases (by omega : X = -1 ∨ X = 0 ∨ X = 1) with rfl | rfl | rfl <;> rcases (by omega : Y = -1 ∨ Y = 0 ∨ Y = 1) with rfl | rfl | rfl <;> rcases (by omega : Z = -1 ∨ Z = 0 ∨ Z = 1) with rfl | rfl | rfl <;> first
  | (exfalso; simp at h1; done)
  | (repeat first | rw [if_pos (by omega)] | rw [if_neg (by omega)])
theorem cnt_one {f : Pt → Bool} {n : Nat} (hn : n = 1 ∨ n = 8) {q u : Pt} (hin : inC (sideN n) q) (hq : f q = true) (hu : f u = false) (h1 : (q.x - u.x) * (q.x - u.x) + (q.y - u.y) * (q.y - u.y) + (q.z - u.z) * (q.z - u.z) = 1) : (quadsU f n).countP (hitB q u) = 1 := by
 obtain ⟨hk, hi, hp⟩ := posP_no hn hin
 unfold quadsU
 rw [List.countP_flatMap]
 refine sum_one n _ (tNo q) hk ?_ fun k hk' hne => ?_
 ·show (quadK f (tNo q)).countP (hitB q u) = 1
  unfold quadK
  rw [List.countP_flatMap]
  refine sum_one 64 _ (bNo q) hi ?_ fun i hi' hne => ?_
  ·show (quadI f (posP (tNo q) (bNo q))).countP (hitB q u) = 1
   rw [hp]; exact cnt_here hq hu h1
  ·refine cnt_other fun e => hne ?_
   have := (tNo_pos (show tNo q < 8 by omega) hi').2
   rw [e] at this; exact this.symm
 ·show (quadK f k).countP (hitB q u) = 0
  unfold quadK
  rw [List.countP_flatMap]
  refine sum_zero 64 _ fun i hi' => ?_
  refine cnt_other fun e => hne ?_
  have := (tNo_pos (show k < 8 by omega) hi').1
  rw [e] at this; exact this.symm
theorem solF_inC {ls : List (List Int)} {T : List Mat} {n : Nat} {p : Pt} (h : solF ls T n p = true) : inC (sideN n) p := by
 unfold solF at h
 rw [Bool.and_eq_true] at h
 exact of_decide_eq_true h.1
theorem lsOf_map (Es : List Ent) : lsOf (Es.map toSl) = Es.map (·.ids) := by unfold lsOf; rw [List.map_map]; rfl
end Go.Proofs.YtbpihalphhoiaaaGreatDoor
namespace Go.Proofs.YtbpihalphhoiaaaGreatDoor
open Go.ChangeShapes Go.WideShapes Go.ChangeAt Go.RowKit
set_option maxRecDepth 100000
theorem gSides : Tryz.prog.globalNamed "voxel/faces.sides" = some 0 := by kernel_rfl
theorem gSidesT : (Tryz.prog.globals[0]?).map (·.type) = some 112 := by kernel_rfl
theorem gCellsA : Tryz.prog.cellsOf 112 = 30 := by kernel_rfl
theorem gCellsD : Tryz.prog.cellsOf 111 = 5 := by kernel_rfl
theorem gCellsP : Tryz.prog.cellsOf 23 = 3 := by kernel_rfl
theorem gUndI : Tryz.prog.underlying 3 = some (.int .i64) := by kernel_rfl
theorem gUndB : Tryz.prog.underlying 4 = some .bool := by kernel_rfl
section
variable {H : Type} {enc : TypeId × Value → H} {w : World} {base fuel : Nat} {sp : Nat → Bool} {held : Bool} {c : List Value} {p : List MemPlace}
theorem take1 {k : Nat} {v : Value} (h : (c.drop k).take 1 = [v]) : c[k]? = some v := by
 have h2 := congrArg (·[0]?) h
 simpa [List.getElem?_take, List.getElem?_drop] using h2
theorem int_cell {k : Nat} {x : Int} {a : DataW H × List MemPlace} (h : DataW.trod enc Tryz.prog w base sp held fuel 3 ((c.drop k).take 1) = some a) (ha : a.1 = .lit (.int .i64 x)) : c[k]? = some (.int .i64 x) := by
 obtain ⟨n, h1, rfl, _⟩ := DataW.trod_int gUndI h
 simp only [DataW.lit.injEq, Lit.int.injEq, true_and] at ha
 subst ha
 exact take1 h1
theorem bool_cell {k : Nat} {b : Bool} {a : DataW H × List MemPlace} (h : DataW.trod enc Tryz.prog w base sp held fuel 4 ((c.drop k).take 1) = some a) (ha : a.1 = .lit (.bool b)) : c[k]? = some (.bool b) := by
 obtain ⟨n, h1, rfl⟩ := DataW.trod_bool gUndB h
 simp only [DataW.lit.injEq, Lit.bool.injEq] at ha
 subst ha
 exact take1 h1
theorem pt_cells {x y z : Int} (h : DataW.trod enc Tryz.prog w base sp held fuel 23 c = some (.agg [.lit (.int .i64 x), .lit (.int .i64 y), .lit (.int .i64 z)], p)) : c = pcs ⟨x, y, z⟩ := by
 obtain ⟨xs, n, _, he, hl, hxl, hf⟩ := DataW.trod_struct Tryz.underlying23 h
 have hxs : xs.map (·.1) = [.lit (.int .i64 x), .lit (.int .i64 y), .lit (.int .i64 z)] := by
  have h1 := congrArg Prod.fst he
  simp only [DataW.agg.injEq] at h1
  exact h1.symm
 rcases xs with _ | ⟨a0, _ | ⟨a1, _ | ⟨a2, _ | ⟨_, _⟩⟩⟩⟩ <;> simp at hxs
 have e0 := int_cell (k := 0) (hf 0 _ rfl) hxs.1
 have e1 := int_cell (k := 1) (hf 1 _ rfl) hxs.2.1
 have e2 := int_cell (k := 2) (hf 2 _ rfl) hxs.2.2
 rw [gCellsP] at hl
 rcases c with _ | ⟨c0, _ | ⟨c1, _ | ⟨c2, _ | ⟨_, _⟩⟩⟩⟩ <;> simp at hl
 simp at e0 e1 e2
 rw [e0, e1, e2]; rfl
theorem dir_cells {ax x y z : Int} {up : Bool} (h : DataW.trod enc Tryz.prog w base sp held fuel 111 c = some (.agg [.lit (.int .i64 ax), .lit (.bool up), .agg [.lit (.int .i64 x), .lit (.int .i64 y), .lit (.int .i64 z)]], p)) : c = drc ⟨ax, up, ⟨x, y, z⟩⟩ := by
 obtain ⟨xs, n, _, he, hl, hxl, hf⟩ := DataW.trod_struct Tryz.underlying111 h
 have hxs : xs.map (·.1) = [.lit (.int .i64 ax), .lit (.bool up), .agg [.lit (.int .i64 x), .lit (.int .i64 y), .lit (.int .i64 z)]] := by
  have h1 := congrArg Prod.fst he
  simp only [DataW.agg.injEq] at h1
  exact h1.symm
 rcases xs with _ | ⟨a0, _ | ⟨a1, _ | ⟨⟨d2, p2⟩, _ | ⟨_, _⟩⟩⟩⟩ <;> simp at hxs
 have e0 := int_cell (k := 0) (hf 0 _ rfl) hxs.1
 have e1 := bool_cell (k := 1) (hf 1 _ rfl) hxs.2.1
 have h2 := hf 2 _ rfl
 obtain ⟨_, _, rfl⟩ := hxs
 have e2 : (c.drop 2).take 3 = pcs ⟨x, y, z⟩ := pt_cells h2
 rw [gCellsD] at hl
 rcases c with _ | ⟨c0, _ | ⟨c1, _ | ⟨c2, _ | ⟨c3, _ | ⟨c4, _ | ⟨_, _⟩⟩⟩⟩⟩⟩ <;> simp at hl
 simp at e0 e1
 simp [pcs] at e2
 rw [e0, e1, e2.1, e2.2.1, e2.2.2]; rfl
theorem chunk {l : List Value} {k j : Nat} (hj : j < 5) : l[k * 5 + j]? = ((l.drop (k * 5)).take 5)[j]? := by
 rw [List.getElem?_take, if_pos hj, List.getElem?_drop]
theorem sides_cells (h : DataW.trod enc Tryz.prog w base sp held fuel 112 c = some (Rows.laid_voxel_faces_sides, p)) : c = drsC drL := by
 obtain ⟨xs, n, _, he, hl, hxl, hf⟩ := DataW.trod_array Tryz.underlying112 h
 have h1 := congrArg Prod.fst he
 unfold Rows.laid_voxel_faces_sides at h1
 simp only [DataW.agg.injEq] at h1
 rcases xs with _ | ⟨⟨b0, p0_⟩, _ | ⟨⟨b1, p1_⟩, _ | ⟨⟨b2, p2_⟩, _ | ⟨⟨b3, p3_⟩, _ | ⟨⟨b4, p4_⟩, _ | ⟨⟨b5, p5_⟩, _ | ⟨_, _⟩⟩⟩⟩⟩⟩⟩ <;> simp at h1
 obtain ⟨rfl, rfl, rfl, rfl, rfl, rfl⟩ := h1
 have f0 : (c.drop (0 * 5)).take 5 = _ := dir_cells (hf 0 (by decide))
 have f1 : (c.drop (1 * 5)).take 5 = _ := dir_cells (hf 1 (by decide))
 have f2 : (c.drop (2 * 5)).take 5 = _ := dir_cells (hf 2 (by decide))
 have f3 : (c.drop (3 * 5)).take 5 = _ := dir_cells (hf 3 (by decide))
 have f4 : (c.drop (4 * 5)).take 5 = _ := dir_cells (hf 4 (by decide))
 have f5 : (c.drop (5 * 5)).take 5 = _ := dir_cells (hf 5 (by decide))
 rw [gCellsA] at hl
 have hall : ∀ k, k < 6 → ∃ d, drL[k]? = some d ∧ (c.drop (k * 5)).take 5 = drc d := by
  intro k hk
  match k, hk with
  | 0, _ => exact ⟨_, rfl, f0⟩
  | 1, _ => exact ⟨_, rfl, f1⟩
  | 2, _ => exact ⟨_, rfl, f2⟩
  | 3, _ => exact ⟨_, rfl, f3⟩
  | 4, _ => exact ⟨_, rfl, f4⟩
  | 5, _ => exact ⟨_, rfl, f5⟩
  | k + 6, hk => omega
 have hlen : (drsC drL).length = 30 := rfl
 refine List.ext_getElem? fun i => ?_
 by_cases hi : i < 30
 ·obtain ⟨d, hd, hc⟩ := hall (i / 5) (by omega)
  have hm : i % 5 < 5 := Nat.mod_lt _ (by decide)
  have ei : i = i / 5 * 5 + i % 5 := by omega
  have hdl : (drc d).length = 5 := rfl
  have hu : (drc d)[i % 5]? = some ((drc d)[i % 5]'(by omega)) := List.getElem?_eq_getElem _
  have h2 := flatG drc 5 (fun _ => rfl) hd (i % 5) _ hu
  rw [ei, chunk hm, hc, hu]
  exact h2.symm
 ·rw [List.getElem?_eq_none (by omega), List.getElem?_eq_none (by omega)]
end
theorem blocks_there {W : World} {g : Nat} {v : Value} (h : W.cell? ⟨g, 0, none⟩ = some v) : g < W.heap.size := by
 unfold World.cell? at h
 rcases Nat.lt_or_ge g W.heap.size with h' | h'
 ·exact h'
 ·rw [show W.heap[(⟨g, 0, none⟩ : Addr).block]? = none from Array.getElem?_eq_none h'] at h
  simp at h
theorem laid_own1 {W : World} (h : laidMetH Tryz.prog [("voxel/faces.sides", Rows.laid_voxel_faces_sides)] W) : SidesIn W := by
 have h' : laidMet Tryz.prog [("voxel/faces.sides", Rows.laid_voxel_faces_sides)] W := h
 obtain ⟨ps, ⟨g', t', cs, fuel, p, q, hg', ht', hvar, hd, _, _⟩, _⟩ := h'
 obtain rfl := Option.some.inj (gSides.symm.trans hg')
 obtain rfl := Option.some.inj (gSidesT.symm.trans ht')
 have hcs : cs.toList = drsC drL := sides_cells hd
 have hcell : ∀ (i : Nat) (u : Value), (drsC drL)[i]? = some u → W.cell? ⟨0, 0 + i, none⟩ = some u := by
  intro i u hu
  rw [Nat.zero_add]
  have hv := World.var?_cell gSides hvar i
  rw [hv]
  have h3 : cs.toList[i]? = some u := by rw [hcs]; exact hu
  simpa using h3
 refine ⟨rfl, Nat.le_refl _, by decide, fun _ => ⟨0, 0, rfl, blocks_there (hcell 0 _ rfl), hcell⟩⟩
def fillTab : Obj → Obj
 | .cells _ t frozen => .cells (drsC drL).toArray t frozen
 | o => o
noncomputable def laidWorld (os : Os) : World :=
 { World.holding Tryz.prog os ⟨#[], #[], []⟩ with heap := (World.holding Tryz.prog os ⟨#[], #[], []⟩).heap.modify 0 fillTab }
theorem laid_met1 (os : Os) (args : Array Value) : laidMet Tryz.prog [("voxel/faces.sides", Rows.laid_voxel_faces_sides)] ((laidWorld os).forCall (fun _ _ => 0) ⟨#[], args, []⟩).memory :=
 laidMet_of_run' 8 kr_ kr_
end Go.Proofs.YtbpihalphhoiaaaGreatDoor
namespace Go.Proofs.YtbpihalphhoiaaaGreatDoor
set_option maxRecDepth 100000
open Go.RowKit Go.ChangeShapes Go.WideShapes
section
variable {H : Type} {enc : TypeId × Value → H} {P : Program} {w : World} {base : Nat} {held : Bool} {spare : Nat → Bool} {cs : List Value} {ls : List (Nat × TypeId)}
theorem leaf_at {o : Nat} {v : Value} (h : (cs.drop o).take 1 = [v]) : cs[o]? = some v := by
 have h2 : ((cs.drop o).take 1)[0]? = some v := by rw [h]; rfl
 rwa [List.getElem?_take, if_pos (by omega), List.getElem?_drop, Nat.add_zero] at h2
theorem leaf_bool (h : ∀ p ∈ ls, ∃ fuel' y, DataW.trod enc P w base spare held fuel' p.2 ((cs.drop p.1).take (P.cellsOf p.2)) = some y) {o : Nat} {t : TypeId} (hp : ls.contains (o, t) = true) (ht : P.underlying t = some .bool) (hc : P.cellsOf t = 1) :
 ∃ b, cs[o]? = some (.bool b) := by
 obtain ⟨f, y, hy⟩ := h (o, t) (by simpa using hp)
 simp only [hc] at hy
 obtain ⟨b, hb, _⟩ := DataW.trod_bool ht hy
 exact ⟨b, leaf_at hb⟩
theorem leaf_str (h : ∀ p ∈ ls, ∃ fuel' y, DataW.trod enc P w base spare held fuel' p.2 ((cs.drop p.1).take (P.cellsOf p.2)) = some y) {o : Nat} {t : TypeId} (hp : ls.contains (o, t) = true) (ht : P.underlying t = some .string) (hc : P.cellsOf t = 1) :
 ∃ s : List UInt8, cs[o]? = some (.string ⟨s.toArray⟩) := by
 obtain ⟨f, y, hy⟩ := h (o, t) (by simpa using hp)
 simp only [hc] at hy
 obtain ⟨b, hb, _⟩ := DataW.trod_string ht hy
 refine ⟨b.data.toList, ?_⟩
 have : (⟨b.data.toList.toArray⟩ : ByteArray) = b := by cases b; simp
 rw [this]
 exact leaf_at hb
theorem leaf_ints {e : TypeId} (h : ∀ p ∈ ls, ∃ fuel' y, DataW.trod enc P w base (fun _ => true) held fuel' p.2 ((cs.drop p.1).take (P.cellsOf p.2)) = some y) {o : Nat} {t : TypeId} (hp : ls.contains (o, t) = true) (ht : P.underlying t = some (.slice e)) (he : P.underlying e = some (.int .i64)) (hce : P.cellsOf e = 1) (hc : P.cellsOf t = 1) :
 ∃ (A : Option Addr) (c : Nat) (zs : List Int), cs[o]? = some (.slice A zs.length c) ∧ Rd w w.heap.size 1 A zs.length c (ics zs) := by
 obtain ⟨f, y, hy⟩ := h (o, t) (by simpa using hp)
 simp only [hc] at hy
 obtain ⟨A, n, c, xs, D, sp, hcs, hn, hr, _, _, _, _⟩ := br_slice (fun z : Int => [Value.int .i64 z]) (fun _ (_ : DataW H) => True) ht hce (by decide)
  (fun fuel cs' d pl _ hh => by obtain ⟨z, rfl, _, hz⟩ := DataW.trod_int he hh; exact ⟨z, rfl, trivial⟩) hy
 subst hn
 refine ⟨A, c, xs, leaf_at hcs, ?_⟩
 have e1 : ics xs = xs.flatMap fun z => [Value.int .i64 z] := by unfold ics; rw [flat_one]
 rw [e1]; exact hr
end
theorem eq7 {cs : List Value} {a b c d e f g : Value} (hl : cs.length = 7) (h0 : cs[0]? = some a) (h1 : cs[1]? = some b) (h2 : cs[2]? = some c) (h3 : cs[3]? = some d) (h4 : cs[4]? = some e) (h5 : cs[5]? = some f) (h6 : cs[6]? = some g) : cs = [a, b, c, d, e, f, g] := by
 match cs, hl with
 | [x, y, z, u, v, w, q], _ => simp_all
theorem eq8 {cs : List Value} {a b c d e f g h : Value} (hl : cs.length = 8) (h0 : cs[0]? = some a) (h1 : cs[1]? = some b) (h2 : cs[2]? = some c) (h3 : cs[3]? = some d) (h4 : cs[4]? = some e) (h5 : cs[5]? = some f) (h6 : cs[6]? = some g) (h7 : cs[7]? = some h) : cs = [a, b, c, d, e, f, g, h] := by
 match cs, hl with
 | [x, y, z, u, v, w, q, r], _ => simp_all
section
variable {H : Type} {enc : TypeId × Value → H} {W : World} {held : Bool} {b0 : Nat} {r : Reach}
theorem br_grid {v : Value} {d : DataW H} {pl : List MemPlace} (hval : Value.okWide Tryz.prog W r b0 28 v) (h : DataW.Trod enc Tryz.prog W 0 (fun _ => true) held 28 v d pl) :
 ∃ (g : Gr) (A : Option Addr) (c : Nat), v = .agg (gcs g A c).toArray ∧ Rd W W.heap.size 1 A g.cells.length c (ics g.cells) := by
 obtain ⟨cs, rfl, hl, f⟩ := br_flat (m := 8) (n := 7) (ls := [(0, 3), (1, 3), (2, 3), (3, 3), (4, 3), (5, 3), (6, 26)]) kr_ kr_ kr_ hval h
 obtain ⟨z0, e0, _⟩ := leaf_int f (o := 0) (t := 3) kr_ Tryz.underlying3 kr_
 obtain ⟨z1, e1, _⟩ := leaf_int f (o := 1) (t := 3) kr_ Tryz.underlying3 kr_
 obtain ⟨z2, e2, _⟩ := leaf_int f (o := 2) (t := 3) kr_ Tryz.underlying3 kr_
 obtain ⟨z3, e3, _⟩ := leaf_int f (o := 3) (t := 3) kr_ Tryz.underlying3 kr_
 obtain ⟨z4, e4, _⟩ := leaf_int f (o := 4) (t := 3) kr_ Tryz.underlying3 kr_
 obtain ⟨z5, e5, _⟩ := leaf_int f (o := 5) (t := 3) kr_ Tryz.underlying3 kr_
 obtain ⟨A, c, zs, e6, hr⟩ := leaf_ints f (o := 6) (t := 26) kr_ Tryz.underlying26 Tryz.underlying3 kr_ kr_
 obtain rfl := eq7 hl e0 e1 e2 e3 e4 e5 e6
 exact ⟨⟨⟨⟨z0, z1, z2⟩, ⟨z3, z4, z5⟩⟩, zs⟩, A, c, rfl, hr⟩
theorem br_table {v : Value} {d : DataW H} {pl : List MemPlace} (hval : Value.okWide Tryz.prog W r b0 29 v) (h : DataW.Trod enc Tryz.prog W 0 (fun _ => true) held 29 v d pl) :
 ∃ (T : List Mat) (A : Option Addr) (c : Nat), v = .slice A T.length c ∧ Rd W W.heap.size 8 A T.length c (mts T) := by
 obtain ⟨a0, n0, c0, rfl⟩ := okWide_slice Tryz.underlying29 hval
 obtain ⟨fuel, hf⟩ := h
 obtain ⟨A, n, c, xs, D, sp, hcs, hn, hr, _, _, _, _⟩ := br_slice mcs (fun _ (_ : DataW H) => True) Tryz.underlying29 (show Tryz.prog.cellsOf 122 = 8 by kernel_rfl) (by decide)
  (fun fuel cs' d pl hl hh => by
   have f := br_leaves 8 122 [(0, 9), (1, 4), (2, 4), (3, 4), (4, 3), (5, 3), (6, 3), (7, 3)] kr_ fuel cs' _ (by rw [hl]; kernel_rfl) hh
   obtain ⟨s, e0⟩ := leaf_str f (o := 0) (t := 9) kr_ Tryz.underlying9 kr_
   obtain ⟨b1, e1⟩ := leaf_bool f (o := 1) (t := 4) kr_ Tryz.underlying4 kr_
   obtain ⟨b2, e2⟩ := leaf_bool f (o := 2) (t := 4) kr_ Tryz.underlying4 kr_
   obtain ⟨b3, e3⟩ := leaf_bool f (o := 3) (t := 4) kr_ Tryz.underlying4 kr_
   obtain ⟨z4, e4, _⟩ := leaf_int f (o := 4) (t := 3) kr_ Tryz.underlying3 kr_
   obtain ⟨z5, e5, _⟩ := leaf_int f (o := 5) (t := 3) kr_ Tryz.underlying3 kr_
   obtain ⟨z6, e6, _⟩ := leaf_int f (o := 6) (t := 3) kr_ Tryz.underlying3 kr_
   obtain ⟨z7, e7, _⟩ := leaf_int f (o := 7) (t := 3) kr_ Tryz.underlying3 kr_
   exact ⟨⟨s, b1, b2, b3, z4, z5, z6, z7⟩, eq8 hl e0 e1 e2 e3 e4 e5 e6 e7, trivial⟩) hf
 simp only [Value.cells, List.cons.injEq, Value.slice.injEq, and_true] at hcs
 obtain ⟨rfl, rfl, rfl⟩ := hcs
 subst hn
 exact ⟨xs, a0, c0, rfl, hr⟩
end
end Go.Proofs.YtbpihalphhoiaaaGreatDoor
