/-
 MF: several texts in one. No statement is proved here.
-/
import Derived.Test.YtbpihalphhoiaaaGreatDoorMZ
import Derived.Test.YtbpihalphhoiaaaGreatDoorME
import Derived.Sort.Grow
import Derived.Deep.Draws
import Derived.Shelf.SlSortCmp.WholeK
import Derived.Test.YtbpihalphhoiaaaGreatDoorMB
import Derived.Shelf.SlSortCmp.NoneTotal
set_option maxRecDepth 100000
set_option maxHeartbeats 4000000
set_option linter.unusedVariables false
set_option linter.unusedSimpArgs false
namespace Go.Proofs.YtbpihalphhoiaaaGreatDoor
open Go.RowKit
def atC (n : Nat) (ls : List (List Int)) (p : Pt) : List Value := if inC (sideN n) p then cho p (cellF ls p) else [.int .i64 0, .int .i64 0, .int .i64 0, .int .i64 0, .int .i64 0]
theorem idxB_any (n : Nat) (hn : n = 1 ∨ n = 8) (p : Pt) (hin : inC (sideN n) p) (w : World) : Calls Tryz.prog 33 #[.agg (bxs (cubeB 4)).toArray, .agg (pcs (p.sub (tlP (tNo p)))).toArray] w (RetV w (.int .i64 (bNo p : Int))) := by
 have hs := sideN_or n hn
 have hin' := hin
 unfold inC at hin
 have e : (cubeB 4).idx (p.sub (tlP (tNo p))) = (bNo p : Int) := by
  rw [idx4]
  ·unfold Pt.sub tlP tNo bNo
   simp only
   omega
  ·unfold inC Pt.sub tlP tNo
   simp only
   omega
 rw [← e]
 refine pidx_any (cubeB 4) (p.sub (tlP (tNo p))) cube4.1 ?_ w
 have := tlP_bd (tNo p)
 unfold Pt.sub
 simp only
 omega
theorem chosenP_any (n : Nat) (hn : n = 1 ∨ n = 8) (p : Pt) (hin : inC (sideN n) p) (cs : List Sl3) (A : Option Addr) (c : Nat) (w : World) (hc : CellsIn w A c cs) (x : Sl3) (hx : cs[tNo p]? = some x) :
 Calls Tryz.prog 51 #[.agg (tlc (tlK (tNo p))).toArray, .slice x.A 64 x.c, .int .i64 (bNo p : Int)] w (RetV w (.agg (cho p (cellF (lsOf cs) p)).toArray)) := by
 obtain ⟨h1, h2⟩ := hc.2 x (List.mem_of_getElem? hx)
 obtain ⟨_, h3, h4⟩ := posP_no hn hin
 have hg : x.l[bNo p]? = some (x.l.getD (bNo p) 0) := by rw [List.getD_eq_getElem?_getD, List.getElem?_eq_getElem (by omega)]; rfl
 have h := chosen_any (tNo p) (bNo p) h3 x _ hg w h2
 rw [h4] at h
 rw [cellF_get hx]
 exact h
theorem fat_any (cs : List Sl3) (hn : cs.length = 1 ∨ cs.length = 8) (p : Pt) (A : Option Addr) (cap : Nat) (A2 : Option Addr) (c2 : Nat) (w : World) (hrd : Rd w w.heap.size 4 A cs.length cap (tlsC (planL cs.length))) (hcs : CellsIn w A2 c2 cs) : Calls Tryz.prog 53 #[.slice A cs.length cap, .slice A2 cs.length c2, .agg (pcs p).toArray] w (RetV w (.tuple #[.agg (atC cs.length (lsOf cs) p).toArray, .bool (decide (inC (sideN cs.length) p))])) := by
 obtain ⟨bk_, of_, rfl, _, _⟩ := hrd.cells (by omega)
 obtain ⟨bl_, og_, rfl, _, _⟩ := hcs.1.cells (by omega)
 have hm0 := Mem.nil w
 go_enter Tryz.func53, Tryz.ntmps53
 refine litStart 51 [(0, .slice (some ⟨bk_, of_, none⟩) cs.length cap), (1, .slice (some ⟨bl_, og_, none⟩) cs.length c2), (2, .agg (pcs p).toArray)] kr_ (fun X0 => ?_)
 refine sp_ fun _ hK1 => ?_
 refine plBox hm0 (cs := pcs p) (i := 0) rfl (wn rfl) rfl le_ ?_
 intro g2 w4 hm3
 clear hm0
 try simp only [lc_] at hm3
 refine qP rfl ?_
 refine plAlloc (z := [.int .i64 0, .int .i64 0, .int .i64 0, .int .i64 0, .int .i64 0]) Ty.ag_voxel_api_Chosen hm3 (i := 1) rfl (wn rfl) rfl ?_
 intro g5 w7 hm6
 clear hm3
 try simp only [lc_] at hm6
 refine qP rfl ?_
 refine lF_ ?_
 refine pt_ hK1 ?_
 refine sp_ fun _ hK8 => ?_
 refine lk_ (.slice (some ⟨bk_, of_, none⟩) cs.length cap) ?_
 refine lv_ rfl (.agg (pcs p).toArray) (la_ 0 0 hm6 Ty.ag_voxel_api_Point) ?_
 refine plCall (i := 2) 88 [.slice (some ⟨bk_, of_, none⟩) cs.length cap, .agg (pcs p).toArray] [] [] rfl kr_ (wn rfl) rfl le_ (litArgs kr_) (find_any cs.length hn p _ cap _ ((Rd.below hrd hm6.bel).more hm6.bel.size)) ?_
 rintro e w9 ⟨rfl, hbz⟩
 have hm10 := hm6.below hbz
 clear hbz hm6
 refine ⟨_, rfl, ?_⟩
 refine qP rfl ?_
 refine li_ (findN cs.length p) ?_
 refine pt_ hK8 ?_
 refine sk_ fun _ hK11 => ?_
 refine sp_ fun _ hK12 => ?_
 refine li_ (findN cs.length p) ?_
 by_cases h13 : (findN cs.length p) < 0
 ·refine lv_ rfl _ (lsT_ h13) ?_
  refine pt_ hK12 ?_
  refine wp_cond_true le_ ?_
  refine sp_ fun _ hK14 => ?_
  refine lk_ (.agg ([.int .i64 0, .int .i64 0, .int .i64 0, .int .i64 0, .int .i64 0]).toArray) ?_
  refine plStore 1 Ty.ag_voxel_api_Chosen hm10 rfl (i := 1) (cs := [.int .i64 0, .int .i64 0, .int .i64 0, .int .i64 0, .int .i64 0]) rfl (wn rfl) rfl le_ le_ rfl rfl kr_ ?_
  intro w16 hm15
  clear hm10
  try simp only [lc_] at hm15
  refine qNone rfl ?_
  refine lF_ ?_
  refine pt_ hK14 ?_
  refine wp_ret ?_
  refine then_ret ?_
  refine bodyPost_ret (v := .tuple #[.agg ([.int .i64 0, .int .i64 0, .int .i64 0, .int .i64 0, .int .i64 0]).toArray, .bool false]) (gRes2 rfl (gResAg (cs := [.int .i64 0, .int .i64 0, .int .i64 0, .int .i64 0, .int .i64 0]) 1 hm15 rfl Ty.ag_voxel_api_Chosen rfl (lg_)) (gResTmp (t := 7) (v := .bool false) (lg_))) rfl ?_
  have hno_ : ¬ inC (sideN cs.length) p := fun h_ => by unfold findN at h13; rw [if_pos h_] at h13; omega
  exact ⟨by unfold atC; rw [if_neg hno_, decide_eq_false hno_], hm15.bel⟩
 have hin_ : inC (sideN cs.length) p := Decidable.byContradiction (fun h_ => h13 (by unfold findN; rw [if_neg h_]; decide))
 have hfe_ : findN cs.length p = (tNo p : Int) := if_pos hin_
 obtain ⟨hK1, hK2, hK3⟩ := posP_no hn hin_
 have hsd_ := sideN_or cs.length hn
 have hib_ := hin_
 unfold inC at hib_
 have htb_ := tlP_bd (tNo p)
 obtain ⟨x_, hx_⟩ : ∃ x, cs[tNo p]? = some x := ⟨_, List.getElem?_eq_getElem hK1⟩
 refine lv_ rfl _ (lsF_ h13) ?_
 refine pt_ hK12 ?_
 refine wp_cond_false le_ ?_
 refine wp_skip ?_
 refine tn_ hK11 ?_
 refine sp_ fun _ hK17 => ?_
 refine lk_ (.slice (some ⟨bk_, of_, none⟩) cs.length cap) ?_
 refine li_ (findN cs.length p) ?_
 refine lv_ rfl (.pointer (some ⟨bk_, of_ + (tNo p) * 4, none⟩)) (ia_ cap (tNo p) Ty.sl_L_api_Tile hfe_ hK1) ?_
 refine lv_ rfl (.agg (tlc (tlK (tNo p))).toArray) (lar_ (m := (tNo p) * 4) ((Rd.below hrd hm10.bel).more hm10.bel.size) (tlsC_get (planL_get (show tNo p < cs.length by omega))) (by omega) Ty.ag_voxel_api_Tile) ?_
 refine plAlloc (z := [.int .i64 0, .int .i64 0, .int .i64 0, .int .i64 0]) Ty.ag_voxel_api_Tile hm10 (i := 4) rfl (wn rfl) rfl ?_
 intro g18 w20 hm19
 clear hm10
 try simp only [lc_] at hm19
 refine qP rfl ?_
 refine plStore 2 Ty.ag_voxel_api_Tile hm19 rfl (i := 5) (cs := tlc (tlK (tNo p))) rfl (wn rfl) rfl le_ le_ rfl rfl kr_ ?_
 intro w22 hm21
 clear hm19
 try simp only [lc_] at hm21
 refine qNone rfl ?_
 refine pt_ hK17 ?_
 refine sp_ fun _ hK23 => ?_
 refine lv_ rfl (.agg (pcs p).toArray) (la_ 0 0 hm21 Ty.ag_voxel_api_Point) ?_
 refine lp_ g18 1 ?_
 refine lv_ rfl (.agg (pcs (tlP (tNo p))).toArray) (la_ 1 2 hm21 Ty.ag_voxel_api_Point) ?_
 refine plCall (i := 3) 76 [.agg (pcs p).toArray, .agg (pcs (tlP (tNo p))).toArray] [] [] rfl kr_ (wn rfl) rfl le_ (litArgs kr_) (psub_any p (tlP (tNo p)) (by omega) (by omega) _) ?_
 rintro e w24 ⟨rfl, hbz⟩
 have hm25 := hm21.below hbz
 clear hbz hm21
 refine ⟨_, rfl, ?_⟩
 refine qP rfl ?_
 refine plAlloc (z := [.int .i64 0, .int .i64 0, .int .i64 0]) Ty.ag_voxel_api_Point hm25 (i := 4) rfl (wn rfl) rfl ?_
 intro g26 w28 hm27
 clear hm25
 try simp only [lc_] at hm27
 refine qP rfl ?_
 refine plStore 3 Ty.ag_voxel_api_Point hm27 rfl (i := 5) (cs := pcs (p.sub (tlP (tNo p)))) rfl (wn rfl) rfl le_ le_ rfl rfl kr_ ?_
 intro w30 hm29
 clear hm27
 try simp only [lc_] at hm29
 refine qNone rfl ?_
 refine pt_ hK23 ?_
 refine wpPrune [(1, .slice (some ⟨bl_, og_, none⟩) cs.length c2), (6, .pointer (some ⟨g5, 0, none⟩)), (7, .bool false), (8, .int .i64 (findN cs.length p)), (9, .pointer (some ⟨g18, 0, none⟩)), (10, .pointer (some ⟨g26, 0, none⟩))] fo_ (fun X31 => ?_)
 refine sk_ fun _ hK32 => ?_
 refine mgStart hm29 kr_ ?_
 intro w34 hm33
 clear hm29
 refine mk_ (i := 1) (v := .pointer (some ⟨g26, 0, none⟩)) rfl rfl (fun _ _ _ h => h) hm33 rfl ?_
 refine mt_ 2 rfl (.int .i64 ((p.sub (tlP (tNo p))).x)) hm33 (fun w_ h_ => ld_ 0 3 h_) ?_
 refine mk_ (i := 3) (v := .pointer (some ⟨g18, 0, none⟩)) rfl rfl (fun _ _ _ h => h) hm33 rfl ?_
 refine mt_ 4 rfl (.int .i64 0) hm33 (fun w_ h_ => ld_ 0 2 h_) ?_
 refine mt_ 5 rfl (.int .i64 ((p.sub (tlP (tNo p))).x)) hm33 (fun w_ h_ => gShr0 (A := ((p.sub (tlP (tNo p))).x)) (.tmp 28) (.tmp 30) rfl le_ le_) ?_
 refine mk_ (i := 6) (v := .pointer (some ⟨g26, 1, none⟩)) rfl rfl (fun _ _ _ h => h) hm33 rfl ?_
 refine mt_ 7 rfl (.int .i64 ((p.sub (tlP (tNo p))).y)) hm33 (fun w_ h_ => ld_ 1 3 h_) ?_
 refine mk_ (i := 8) (v := .pointer (some ⟨g18, 0, none⟩)) rfl rfl (fun _ _ _ h => h) hm33 rfl ?_
 refine mt_ 9 rfl (.int .i64 0) hm33 (fun w_ h_ => ld_ 0 2 h_) ?_
 refine mt_ 10 rfl (.int .i64 ((p.sub (tlP (tNo p))).y)) hm33 (fun w_ h_ => gShr0 (A := ((p.sub (tlP (tNo p))).y)) (.tmp 33) (.tmp 35) rfl le_ le_) ?_
 refine mk_ (i := 11) (v := .pointer (some ⟨g26, 2, none⟩)) rfl rfl (fun _ _ _ h => h) hm33 rfl ?_
 refine mt_ 12 rfl (.int .i64 ((p.sub (tlP (tNo p))).z)) hm33 (fun w_ h_ => ld_ 2 3 h_) ?_
 refine mk_ (i := 13) (v := .pointer (some ⟨g18, 0, none⟩)) rfl rfl (fun _ _ _ h => h) hm33 rfl ?_
 refine mt_ 14 rfl (.int .i64 0) hm33 (fun w_ h_ => ld_ 0 2 h_) ?_
 refine mt_ 15 rfl (.int .i64 ((p.sub (tlP (tNo p))).z)) hm33 (fun w_ h_ => gShr0 (A := ((p.sub (tlP (tNo p))).z)) (.tmp 38) (.tmp 40) rfl le_ le_) ?_
 refine mk_ (i := 16) (v := .agg (pcs (p.sub (tlP (tNo p)))).toArray) rfl rfl (fun _ _ _ h => h) hm33 rfl ?_
 refine mgCall (i := 0) 87 [.int .i64 4] [] [] kr_ rfl kr_ (wn rfl) rfl le_ (litArgs kr_) (cube_any 4 _) ?_
 rintro e w35 ⟨rfl, hbz⟩
 have hm36 := hm33.below hbz
 clear hbz hm33
 refine ⟨_, rfl, hm36, ?_⟩
 refine mP rfl ?_
 refine mgCall (i := 17) 33 [.agg (bxs (cubeB 4)).toArray, .agg (pcs (p.sub (tlP (tNo p)))).toArray] [] [] kr_ rfl kr_ (wn rfl) rfl le_ (litArgs kr_) (idxB_any cs.length hn p hin_ _) ?_
 rintro e w37 ⟨rfl, hbz⟩
 have hm38 := hm36.below hbz
 clear hbz hm36
 refine ⟨_, rfl, hm38, ?_⟩
 refine mP rfl ?_
 refine mk_ (i := 18) (v := .int .i64 (bNo p : Int)) rfl rfl (fun _ _ _ h => h) hm38 rfl ?_
 refine mgDone kr_ ?_
 refine tn_ hK32 ?_
 refine wpPrune [(1, .slice (some ⟨bl_, og_, none⟩) cs.length c2), (6, .pointer (some ⟨g5, 0, none⟩)), (7, .bool false), (8, .int .i64 (findN cs.length p)), (9, .pointer (some ⟨g18, 0, none⟩)), (11, .int .i64 (bNo p : Int))] fo_ (fun X39 => ?_)
 refine sk_ fun _ hK40 => ?_
 refine aoStart (aoV [fun _ => .agg (tlc (tlK (tNo p))).toArray, fun _ => .slice (some ⟨bl_, og_, none⟩) cs.length c2, fun _ => .int .i64 (findN cs.length p), fun _ => .pointer (some ⟨bl_, og_ + (tNo p) * 1, none⟩), fun _ => .slice x_.A 64 x_.c, fun _ => .int .i64 (bNo p : Int), fun _ => .agg (cho p (cellF (lsOf cs) p)).toArray, fun _ => undef, fun _ => .bool true]) (aoA [[], [], [], [], [], [], [], [], []]) (fun b_ g_ => ((.arr g2 23 (pcs p)) :: (.arr g5 108 (bsel (b_ 7) [.int .i64 p.x, .int .i64 p.y, .int .i64 p.z, .int .i64 1, .int .i64 (cellF (lsOf cs) p)] [.int .i64 0, .int .i64 0, .int .i64 0, .int .i64 0, .int .i64 0])) :: (.arr g18 63 (tlc (tlK (tNo p)))) :: (.arr g26 23 (pcs (p.sub (tlP (tNo p))))) :: [])) hm38 kr_ kr_ (fun w_ h_ => h_) (fun b_ g_ h_ => by show (fun (x7_ : Bool) => (((.arr g2 23 (pcs p)) :: (.arr g5 108 (bsel x7_ [.int .i64 p.x, .int .i64 p.y, .int .i64 p.z, .int .i64 1, .int .i64 (cellF (lsOf cs) p)] [.int .i64 0, .int .i64 0, .int .i64 0, .int .i64 0, .int .i64 0])) :: (.arr g18 63 (tlc (tlK (tNo p)))) :: (.arr g26 23 (pcs (p.sub (tlP (tNo p))))) :: []) : List Res)) (b_ 7) = _; rw [h_ 7 (by decide)]) ?_ ?_
 ·refine aoNext rfl (aoV_ (fun b_ g_ X_ w_ h_b h_ => valTo (b := .agg (tlc (tlK (tNo p))).toArray) kr_ ((fun (h_ : Mem _ w_ ((.arr g2 23 (pcs p)) :: (.arr g5 108 ([.int .i64 0, .int .i64 0, .int .i64 0, .int .i64 0, .int .i64 0])) :: (.arr g18 63 (tlc (tlK (tNo p)))) :: (.arr g26 23 (pcs (p.sub (tlP (tNo p))))) :: [])) => gLoadAg (vs := tlc (tlK (tNo p))) (k := 0) 2 h_ rfl kr_ kr_ (.tmp 9) Ty.ag_voxel_api_Tile rfl le_) (by have h2_ : Mem w w_ ((.arr g2 23 (pcs p)) :: (.arr g5 108 (bsel (b_ 7) [.int .i64 p.x, .int .i64 p.y, .int .i64 p.z, .int .i64 1, .int .i64 (cellF (lsOf cs) p)] [.int .i64 0, .int .i64 0, .int .i64 0, .int .i64 0, .int .i64 0])) :: (.arr g18 63 (tlc (tlK (tNo p)))) :: (.arr g26 23 (pcs (p.sub (tlP (tNo p))))) :: []) := h_; rw [bselF (h_b.post 7 kr_)] at h2_; exact h2_)))) ?_
  refine aoNext rfl aoK_ ?_
  refine aoNext rfl aoK_ ?_
  refine aoNext rfl (aoV_ (fun b_ g_ X_ w_ h_b h_ => valTo (b := .pointer (some ⟨bl_, og_ + (tNo p) * 1, none⟩)) kr_ (ia_ c2 (tNo p) Ty.sl_L_L_int hfe_ hK1))) ?_
  refine aoNext rfl (aoV_ (fun b_ g_ X_ w_ h_b h_ => valTo (b := .slice x_.A 64 x_.c) kr_ ((fun (h_ : Mem _ w_ ((.arr g2 23 (pcs p)) :: (.arr g5 108 ([.int .i64 0, .int .i64 0, .int .i64 0, .int .i64 0, .int .i64 0])) :: (.arr g18 63 (tlc (tlK (tNo p)))) :: (.arr g26 23 (pcs (p.sub (tlP (tNo p))))) :: [])) => gLoadRd (v := .slice x_.A 64 x_.c) (m := (tNo p) * 1) ((Rd.below hcs.1 h_.bel).more h_.bel.size) rfl (slsC_get hx_) (by omega) (.tmp 47) kr_ rfl le_) (by have h2_ : Mem w w_ ((.arr g2 23 (pcs p)) :: (.arr g5 108 (bsel (b_ 7) [.int .i64 p.x, .int .i64 p.y, .int .i64 p.z, .int .i64 1, .int .i64 (cellF (lsOf cs) p)] [.int .i64 0, .int .i64 0, .int .i64 0, .int .i64 0, .int .i64 0])) :: (.arr g18 63 (tlc (tlK (tNo p)))) :: (.arr g26 23 (pcs (p.sub (tlP (tNo p))))) :: []) := h_; rw [bselF (h_b.post 7 kr_)] at h2_; exact h2_)))) ?_
  refine aoNext rfl aoK_ ?_
  refine aoNext rfl (aoC_ 51 (fun g_ => [.agg (tlc (tlK (tNo p))).toArray, .slice x_.A 64 x_.c, .int .i64 (bNo p : Int)]) [] [] (fun b_ g_ w_ h_b h_ => (chosenP_any cs.length hn p hin_ cs _ c2 _ (hcs.below h_.bel) x_ hx_).mono (fun _ _ h_r => ⟨h_r.1.trans kr_, h_r.2⟩))) ?_
  refine aoNext rfl (aoStore (gb := fun g_ => g5) (k := 0) (cur := fun g_ => [.int .i64 0, .int .i64 0, .int .i64 0, .int .i64 0, .int .i64 0]) (vs := fun g_ => cho p (cellF (lsOf cs) p)) 1 (fun g_ => [(6, .pointer (some ⟨g5, 0, none⟩)), (50, .agg (cho p (cellF (lsOf cs) p)).toArray)]) (fun g_ a_ h_k => ⟨(h_k.out 6 kr_).trans (lg_), (h_k.inn 6 _ _ kr_ rfl rfl).trans kr_, trivial⟩) Ty.ag_voxel_api_Chosen (fun b_ g_ h_b => by show some (Res.arr g5 108 (bsel (b_ 7) [.int .i64 p.x, .int .i64 p.y, .int .i64 p.z, .int .i64 1, .int .i64 (cellF (lsOf cs) p)] [.int .i64 0, .int .i64 0, .int .i64 0, .int .i64 0, .int .i64 0])) = some (Res.arr g5 108 ([.int .i64 0, .int .i64 0, .int .i64 0, .int .i64 0, .int .i64 0])); rw [bselF h_b.no]) (fun g_ X_ => (wn rfl)) rfl (fun g_ X_ => litEv kr_) (fun g_ X_ => litEv kr_) (fun _ => by kernel_rfl) (fun _ => by kernel_rfl) (fun _ => by kernel_rfl) (fun b_ g_ h_b => by kernel_rfl) rfl) ?_
  refine aoNext rfl aoK_ ?_
  exact aoDone (by decide)
 intro g_ a_ w42 hF_ hm41
 obtain ⟨X43, rfl⟩ := frLit (⟨hF_.size, hF_.defers, ⟨hF_.o_ 6, hF_.i_ 8, hF_.i_ 0, hF_.i_ 1, hF_.i_ 2, hF_.i_ 3, hF_.i_ 4, hF_.i_ 5, hF_.i_ 6, trivial⟩⟩ : Fr _ 51 [(6, .pointer (some ⟨g5, 0, none⟩)), (7, .bool true), (44, .agg (tlc (tlK (tNo p))).toArray), (45, .slice (some ⟨bl_, og_, none⟩) cs.length c2), (46, .int .i64 (findN cs.length p)), (47, .pointer (some ⟨bl_, og_ + (tNo p) * 1, none⟩)), (48, .slice x_.A 64 x_.c), (49, .int .i64 (bNo p : Int)), (50, .agg (cho p (cellF (lsOf cs) p)).toArray)])
 clear hF_
 have hm44 : Mem w w42 [.arr g2 23 (pcs p), .arr g5 108 (cho p (cellF (lsOf cs) p)), .arr g18 63 (tlc (tlK (tNo p))), .arr g26 23 (pcs (p.sub (tlP (tNo p))))] := hm41
 clear hm41 hm38
 refine tn_ hK40 ?_
 refine wp_ret ?_
 refine bodyPost_ret (v := .tuple #[.agg (cho p (cellF (lsOf cs) p)).toArray, .bool true]) (gRes2 rfl (gResAg (cs := cho p (cellF (lsOf cs) p)) 1 hm44 rfl Ty.ag_voxel_api_Chosen rfl (lg_)) (gResTmp (t := 7) (v := .bool true) (lg_))) rfl ?_
 exact ⟨by unfold atC; rw [if_pos hin_, decide_eq_true hin_], hm44.bel⟩
end Go.Proofs.YtbpihalphhoiaaaGreatDoor
namespace Go.Proofs.YtbpihalphhoiaaaGreatDoor
open Go.RowKit Go.Sort
def Grn (W w : World) : Prop := ∃ q os, w = grow (W.drewN q) os
theorem Grn.refl (W : World) : Grn W W := ⟨0, #[], by rw [grow_empty]; rfl⟩
theorem Grn.trans {a b c : World} (h : Grn a b) (k : Grn b c) : Grn a c := by
 obtain ⟨q, os, rfl⟩ := h
 obtain ⟨q2, os2, rfl⟩ := k
 refine ⟨q + q2, os ++ os2, ?_⟩
 show grow (grow ((a.drewN q).drewN q2) os) os2 = _
 rw [grow_grow, World.drewN_drewN]
theorem Grn.alloc (W : World) (o : Obj) : Grn W (W.alloc o) := ⟨0, #[o], by rw [alloc_eq_grow]; rfl⟩
theorem Grn.drew (W : World) : Grn W W.drew := ⟨1, #[], by rw [grow_empty]; rfl⟩
section
variable {P : Program} {ops : Array Oper} {Q : Exit → Act → World → Prop} {a : Act} {w w0 W : World} {o : Oper} {L : List Res} {i : Nat} {listed : Array Bool} {fuel : Nat} {N : Nat} {X : Nat → Value} {l : List (Nat × Value)}
theorem plBoxX {x : Operand} {ty : TypeId} {cs : List Value} (hm : Mem w0 w L) (hg : Grn W w) (hi : ops.toList[i]? = some o) (hw : Region.wanted o (yielded ops a.tmps) = true) (ho : o.op = .box ty x) (hx : a.eval x = .agg cs.toArray)
 (h : ∀ g w', Mem w0 w' (L ++ [.arr g ty cs]) → Grn W w' → PL P ops Q (i + 1) (a.put o.dst (.pointer (some ⟨g, 0, none⟩))) w') : PL P ops Q i a w := by
 refine plOf hi (wpList_want hw fun K hK => ?_)
 unfold Oper.wp execOp
 have hr : (Instr.box ty (.agg cs.toArray)).run P w = .ok (.pointer (some ⟨w.heap.size, 0, none⟩)) (w.alloc (.cells cs.toArray ty)) := by
  simp [Instr.box, newVar, newRow, Value.cells]
 simp only [ho, hx, Sem.run_bind, Sem.run_pure, hr, Result.andThen_ok]
 exact hK _ _ (h _ _ (hm.new ((Below.refl _ _).alloc (Nat.le_refl _) _) (Arr.new w ty cs)) (hg.trans (Grn.alloc w _))).out
structure MGX (P : Program) (ops : Array Oper) (Q : Exit → Act → World → Prop) (w0 W : World) (L : List Res) (fuel : Nat) (listed : Array Bool) (a : Act) (w : World) : Prop where
 out : wpAnyH P .any ops Q (fun w' => Mem w0 w' L ∧ Grn W w') fuel listed a w
theorem mgxStart {id : Nat} (hm : Mem w0 w L) (hg : Grn W w) (hmode : P.follows .mixedOrders = true) (h : ∀ w', Mem w0 w' L → Grn W w' → MGX P ops Q w0 W L ops.size (Array.replicate ops.size false) a w') : (Code.region id ops true).wp P Q a w :=
 rgStart _ hmode (h _ hm.drew (hg.trans (Grn.drew w))).out
theorem mgxTake {v : Value} (hi : ops.toList[i]? = some o) (hf : mayFirst ops listed i = true) (hw : Region.wanted o (yielded ops a.tmps) = true)
 (hQ : ∀ c a w, Q (.panic c) (a.put o.dst v) w → Q (.panic c) a w) (hm : Mem w0 w L ∧ Grn W w) (hy : ∀ w, Mem w0 w L → (execOp a.eval o).run P w = .ok (.value v) w)
 (h : MGX P ops Q w0 W L fuel (listed.setIfInBounds i true) (a.put o.dst v) w) : MGX P ops Q w0 W L (fuel + 1) listed a w :=
 ⟨rgTake hi hf hw hQ (fun w hw => hy w hw.1) hm h.out⟩
theorem mgxCall {c : Operand} {args : Array Operand} {argTypes : Array TypeId} {v : Value} (f : FuncId) (vals first caps : List Value) (hr : Region.ready .any ops listed = [i])
 (hi : ops.toList[i]? = some o) (hf : callable P f = true) (hw : Region.wanted o (yielded ops a.tmps) = true) (ho : o.op = .call { callee := .value c, args, argTypes }) (hc : a.eval c = .func (.func f) first.toArray caps.toArray) (hargs : args.toList.map a.eval = vals)
 (hm : Mem w0 w L ∧ Grn W w) (hC : Calls P f (first ++ vals ++ caps).toArray w (fun e w' => e = .returned v ∧ w' = w)) (h : MGX P ops Q w0 W L fuel (listed.setIfInBounds i true) (a.put o.dst v) w) : MGX P ops Q w0 W L (fuel + 1) listed a w :=
 ⟨rgNext hr hi (callOp f vals first caps hf hw ho hc hargs (hC.mono fun e w' he => by
  obtain ⟨rfl, rfl⟩ := he
  exact ⟨v, rfl, hm, h.out⟩))⟩
theorem mgxLit {t e : TypeId} {z : Value} {size bytes n : Nat} {parts : Array (Nat × Operand)} {cs : List Value} (T : SlTy P t e z size bytes) (hm : Mem w0 w L ∧ Grn W w) (hr : Region.ready .any ops listed = [i]) (hi : ops.toList[i]? = some o) (hw : Region.wanted o (yielded ops a.tmps) = true) (ho : o.op = .buildSlice t n parts) (hn : n * size ≤ 65536) (hn0 : ¬ n * size = 0)
 (hf : Instr.fill (fun i => some (i * size, size)) ((Array.range (n * size)).map (z.cells[· % z.cells.size]!)) (parts.map fun (i, x) => (i, a.eval x)).toList = some cs.toArray)
 (h : ∀ g w', Mem w0 w' L → Grn W w' → Arr w' g e cs → MGX P ops Q w0 W L fuel (listed.setIfInBounds i true) (a.put o.dst (.slice (some ⟨g, 0, none⟩) n n)) w') : MGX P ops Q w0 W L (fuel + 1) listed a w := by
 obtain ⟨ti, hti, hz0, hz1, hz2⟩ := info_parts T.inf
 refine ⟨rgNext hr hi (wpList_want hw fun K hK => wp_buildSlice t e n _ ho cs.toArray ti z T.und hti hz0 (by rw [hz1]; omega) (by rw [hz1]; exact hn0) (by rw [hz1]; exact hf) (hK _ _ ?_))⟩
 exact ⟨⟨hm.1.below ((Below.refl _ _).alloc (Nat.le_refl _) _), hm.2.trans (Grn.alloc w _)⟩, (h _ _ (hm.1.below ((Below.refl _ _).alloc (Nat.le_refl _) _)) (hm.2.trans (Grn.alloc w _)) (Arr.new w e cs)).out⟩
theorem mgxDone (hr : Region.ready .any ops listed = []) (h : Q .normal a w) : MGX P ops Q w0 W L fuel listed a w := ⟨rgDone hr h⟩
theorem mxP {d : Nat} {v : Value} {dst : Option Tmp} (hd : dst = some d) (h : MGX P ops Q w0 W L fuel listed (lit N X ((d, v) :: l)) w) (hN : (decide (d < N)) = true := by decide) : MGX P ops Q w0 W L fuel listed ((lit N X l).put dst v) w := by
 rw [hd, lit_put (of_decide_eq_true hN)]; exact h
theorem mkX {v : Value} {d : Nat} (hi : ops.toList[i]? = some o) (hg : o.guard = none) (hQ : ∀ c a w, Q (.panic c) (a.put o.dst v) w → Q (.panic c) a w) (hm : Mem w0 w L ∧ Grn W w) (hd : o.dst = some d)
 (h : MGX P ops Q w0 W L fuel (listed.setIfInBounds i true) (lit N X ((d, v) :: l)) w) (hf : mayFirst ops listed i = true := by kernel_rfl) (hr : ∀ w, (execOp (litEval N X l) o).run P w = .ok (.value v) w := by intro _; kernel_rfl) (hN : (decide (d < N)) = true := by decide) : MGX P ops Q w0 W L (fuel + 1) listed (lit N X l) w :=
 mgxTake hi hf (wn hg) hQ hm (fun w _ => litRun (hr w)) (mxP hd h hN)
end
end Go.Proofs.YtbpihalphhoiaaaGreatDoor
namespace Go.Proofs.YtbpihalphhoiaaaGreatDoor
open Go.RowKit
theorem isNaN_x (n : Int) (w : World) : Calls Tryz.prog 91 #[.int .i64 n] w (fun e w' => e = .returned (.bool false) ∧ w' = w) := by
 have hm0 := Mem.nil w
 go_enter Tryz.func91, Tryz.ntmps91
 refine litStart 6 [(0, .int .i64 n)] kr_ (fun X0 => ?_)
 refine sp_ fun _ hK1 => ?_
 refine lF_ ?_
 refine pt_ hK1 ?_
 refine sp_ fun _ hK2 => ?_
 refine li_ n ?_
 refine li_ n ?_
 refine lv_ rfl (.bool false) (boolTo (by simp) (neqRun (A := n) (B := n) (.tmp 3) (.tmp 4) rfl le_ le_)) ?_
 refine lF_ ?_
 refine pt_ hK2 ?_
 refine wp_ret ?_
 refine br_ 2 (.bool false) ?_
 exact ⟨by rfl, rfl⟩
theorem cmp_x (x y : Int) (w : World) : Calls Tryz.prog 57 #[.int .i64 x, .int .i64 y] w (fun e w' => e = .returned (.int .i64 (cmpI x y)) ∧ w' = w) := by
 have hm0 := Mem.nil w
 go_enter Tryz.func57, Tryz.ntmps57
 refine litStart 20 [(0, .int .i64 x), (1, .int .i64 y)] kr_ (fun X0 => ?_)
 refine sp_ fun _ hK1 => ?_
 refine li_ 0 ?_
 refine pt_ hK1 ?_
 refine sp_ fun _ hK2 => ?_
 refine li_ x ?_
 refine plCall (i := 1) 91 [.int .i64 x] [] [] rfl kr_ (wn rfl) rfl le_ (litArgs kr_) (isNaN_x x _) ?_
 rintro e w3 ⟨rfl, rfl⟩
 refine ⟨_, rfl, ?_⟩
 refine qP rfl ?_
 refine lF_ ?_
 refine pt_ hK2 ?_
 refine sp_ fun _ hK5 => ?_
 refine li_ y ?_
 refine plCall (i := 1) 91 [.int .i64 y] [] [] rfl kr_ (wn rfl) rfl le_ (litArgs kr_) (isNaN_x y _) ?_
 rintro e w6 ⟨rfl, rfl⟩
 refine ⟨_, rfl, ?_⟩
 refine qP rfl ?_
 refine lF_ ?_
 refine pt_ hK5 ?_
 refine sk_ fun _ hK8 => ?_
 refine sp_ fun _ hK9 => ?_
 refine lF_ ?_
 refine pt_ hK9 ?_
 refine wp_cond_false le_ ?_
 refine wp_skip ?_
 refine tn_ hK8 ?_
 refine sk_ fun _ hK10 => ?_
 refine sp_ fun _ hK11 => ?_
 refine lF_ ?_
 refine pt_ hK11 ?_
 refine wp_cond_false le_ ?_
 refine wp_skip ?_
 refine tn_ hK10 ?_
 refine sk_ fun _ hK12 => ?_
 refine sp_ fun _ hK13 => ?_
 refine li_ x ?_
 refine li_ y ?_
 by_cases h14 : x < y
 ·refine lv_ rfl _ (lsT_ h14) ?_
  refine pt_ hK13 ?_
  refine wp_cond_true le_ ?_
  refine sp_ fun _ hK15 => ?_
  refine li_ (-1) ?_
  refine pt_ hK15 ?_
  refine wp_ret ?_
  refine then_ret ?_
  refine br_ 4 (.int .i64 (-1)) ?_
  exact ⟨congrArg (fun n_ => Ending.returned (.int .i64 n_)) (show (-1 : Int) = cmpI x y by unfold cmpI; rw [if_pos h14]), rfl⟩
 refine lv_ rfl _ (lsF_ h14) ?_
 refine pt_ hK13 ?_
 refine wp_cond_false le_ ?_
 refine wp_skip ?_
 refine tn_ hK12 ?_
 refine sk_ fun _ hK16 => ?_
 refine sp_ fun _ hK17 => ?_
 refine li_ x ?_
 refine li_ y ?_
 by_cases h18 : y < x
 ·refine lv_ rfl _ (gtT_ h18) ?_
  refine pt_ hK17 ?_
  refine wpPrune [(4, .int .i64 0), (19, .bool true)] fo_ (fun X19 => ?_)
  refine wp_cond_true le_ ?_
  refine sp_ fun _ hK20 => ?_
  refine li_ 1 ?_
  refine pt_ hK20 ?_
  refine wp_ret ?_
  refine then_ret ?_
  refine br_ 4 (.int .i64 1) ?_
  exact ⟨congrArg (fun n_ => Ending.returned (.int .i64 n_)) (show 1 = cmpI x y by unfold cmpI; rw [if_neg h14, if_pos h18]), rfl⟩
 refine lv_ rfl _ (gtF_ h18) ?_
 refine pt_ hK17 ?_
 refine wpPrune [(4, .int .i64 0), (19, .bool false)] fo_ (fun X21 => ?_)
 refine wp_cond_false le_ ?_
 refine wp_skip ?_
 refine tn_ hK16 ?_
 refine sp_ fun _ hK22 => ?_
 refine li_ 0 ?_
 refine pt_ hK22 ?_
 refine wp_ret ?_
 refine br_ 4 (.int .i64 0) ?_
 exact ⟨congrArg (fun n_ => Ending.returned (.int .i64 n_)) (show 0 = cmpI x y by unfold cmpI; rw [if_neg h14, if_neg h18]), rfl⟩
theorem or_x (x0 x1 x2 x3 : Int) (A : Option Addr) (cap : Nat) (w : World) (hrd : Rd w w.heap.size 1 A 4 cap [.int .i64 x0, .int .i64 x1, .int .i64 x2, .int .i64 x3]) : Calls Tryz.prog 56 #[.slice A 4 cap] w (fun e w' => e = .returned (.int .i64 (orI [x0, x1, x2, x3])) ∧ w' = w) := by
 obtain ⟨bk_, of_, rfl, _, _⟩ := hrd.cells (by decide)
 have hm0 := Mem.nil w
 go_enter Tryz.func56, Tryz.ntmps56
 refine litStart 18 [(0, .slice (some ⟨bk_, of_, none⟩) 4 cap)] kr_ (fun X0 => ?_)
 refine sp_ fun _ hK1 => ?_
 refine li_ 0 ?_
 refine pt_ hK1 ?_
 refine sp_ fun _ hK2 => ?_
 refine li_ 0 ?_
 refine pt_ hK2 ?_
 refine sk_ fun _ hK3 => ?_
 refine sp_ fun _ hK4 => ?_
 refine lk_ (.slice (some ⟨bk_, of_, none⟩) 4 cap) ?_
 refine lv_ rfl (.int .i64 4) (ln_ (some ⟨bk_, of_, none⟩) 4 cap Ty.und_L_int) ?_
 refine li_ 0 ?_
 refine pt_ hK4 ?_
 refine wp_block ?_
 refine roundsStart 5 ?_
 refine sp_ fun _ hK5 => ?_
 refine lT_ ?_
 refine pt_ hK5 ?_
 refine sk_ fun _ hK6 => ?_
 refine wp_cond_true le_ ?_
 refine wp_skip ?_
 refine tn_ hK6 ?_
 refine sk_ fun _ hK7 => ?_
 refine wp_block ?_
 refine sp_ fun _ hK8 => ?_
 refine lv_ rfl (.pointer (some ⟨bk_, of_ + 0 * 1, none⟩)) (gIaSl (b := bk_) (off := of_) (n := 4) (c := cap) (kk := .i64) (K := 0) (.tmp 6) (.tmp 8) 0 Ty.sl_L_int rfl le_ le_ (rfl) (by decide)) ?_
 refine lv_ rfl (.int .i64 x0) (lr_ (m := 0 * 1) ((Rd.below hrd hm0.bel).more hm0.bel.size) (rfl) (by decide)) ?_
 refine li_ x0 ?_
 refine pt_ hK8 ?_
 refine sp_ fun _ hK9 => ?_
 refine li_ x0 ?_
 refine li_ 0 ?_
 by_cases h10 : x0 = 0
 ·refine lv_ rfl _ (neT_ h10) ?_
  refine pt_ hK9 ?_
  refine wp_cond_false le_ ?_
  refine wp_skip ?_
  refine inBlock_normal ?_
  refine tn_ hK7 ?_
  refine plStart ?_
  refine li_ 1 ?_
  refine li_ 1 ?_
  refine plD ?_
  refine then_normal (roundsNext ?_)
  refine sp_ fun _ hK11 => ?_
  refine lT_ ?_
  refine pt_ hK11 ?_
  refine sk_ fun _ hK12 => ?_
  refine wp_cond_true le_ ?_
  refine wp_skip ?_
  refine tn_ hK12 ?_
  refine sk_ fun _ hK13 => ?_
  refine wp_block ?_
  refine sp_ fun _ hK14 => ?_
  refine lv_ rfl (.pointer (some ⟨bk_, of_ + 1 * 1, none⟩)) (gIaSl (b := bk_) (off := of_) (n := 4) (c := cap) (kk := .i64) (K := 1) (.tmp 6) (.tmp 8) 1 Ty.sl_L_int rfl le_ le_ (rfl) (by decide)) ?_
  refine lv_ rfl (.int .i64 x1) (lr_ (m := 1 * 1) ((Rd.below hrd hm0.bel).more hm0.bel.size) (rfl) (by decide)) ?_
  refine li_ x1 ?_
  refine pt_ hK14 ?_
  refine sp_ fun _ hK15 => ?_
  refine li_ x1 ?_
  refine li_ 0 ?_
  by_cases h16 : x1 = 0
  ·refine lv_ rfl _ (neT_ h16) ?_
   refine pt_ hK15 ?_
   refine wp_cond_false le_ ?_
   refine wp_skip ?_
   refine inBlock_normal ?_
   refine tn_ hK13 ?_
   refine plStart ?_
   refine li_ 2 ?_
   refine li_ 2 ?_
   refine plD ?_
   refine then_normal (roundsNext ?_)
   refine sp_ fun _ hK17 => ?_
   refine lT_ ?_
   refine pt_ hK17 ?_
   refine sk_ fun _ hK18 => ?_
   refine wp_cond_true le_ ?_
   refine wp_skip ?_
   refine tn_ hK18 ?_
   refine sk_ fun _ hK19 => ?_
   refine wp_block ?_
   refine sp_ fun _ hK20 => ?_
   refine lv_ rfl (.pointer (some ⟨bk_, of_ + 2 * 1, none⟩)) (gIaSl (b := bk_) (off := of_) (n := 4) (c := cap) (kk := .i64) (K := 2) (.tmp 6) (.tmp 8) 2 Ty.sl_L_int rfl le_ le_ (rfl) (by decide)) ?_
   refine lv_ rfl (.int .i64 x2) (lr_ (m := 2 * 1) ((Rd.below hrd hm0.bel).more hm0.bel.size) (rfl) (by decide)) ?_
   refine li_ x2 ?_
   refine pt_ hK20 ?_
   refine wpPrune [(2, .int .i64 0), (3, .int .i64 0), (5, .int .i64 x2), (6, .slice (some ⟨bk_, of_, none⟩) 4 cap), (7, .int .i64 4), (8, .int .i64 2), (9, .bool true), (10, .pointer (some ⟨bk_, of_ + 2 * 1, none⟩)), (11, .int .i64 x2), (12, .int .i64 x1), (13, .int .i64 0), (14, .bool false), (16, .int .i64 2)] fo_ (fun X21 => ?_)
   refine sp_ fun _ hK22 => ?_
   refine li_ x2 ?_
   refine li_ 0 ?_
   by_cases h23 : x2 = 0
   ·refine lv_ rfl _ (neT_ h23) ?_
    refine pt_ hK22 ?_
    refine wp_cond_false le_ ?_
    refine wp_skip ?_
    refine inBlock_normal ?_
    refine tn_ hK19 ?_
    refine plStart ?_
    refine li_ 3 ?_
    refine li_ 3 ?_
    refine plD ?_
    refine then_normal (roundsNext ?_)
    refine sp_ fun _ hK24 => ?_
    refine lT_ ?_
    refine pt_ hK24 ?_
    refine sk_ fun _ hK25 => ?_
    refine wp_cond_true le_ ?_
    refine wp_skip ?_
    refine tn_ hK25 ?_
    refine sk_ fun _ hK26 => ?_
    refine wp_block ?_
    refine sp_ fun _ hK27 => ?_
    refine lv_ rfl (.pointer (some ⟨bk_, of_ + 3 * 1, none⟩)) (gIaSl (b := bk_) (off := of_) (n := 4) (c := cap) (kk := .i64) (K := 3) (.tmp 6) (.tmp 8) 3 Ty.sl_L_int rfl le_ le_ (rfl) (by decide)) ?_
    refine lv_ rfl (.int .i64 x3) (lr_ (m := 3 * 1) ((Rd.below hrd hm0.bel).more hm0.bel.size) (rfl) (by decide)) ?_
    refine li_ x3 ?_
    refine pt_ hK27 ?_
    refine sp_ fun _ hK28 => ?_
    refine li_ x3 ?_
    refine li_ 0 ?_
    by_cases h29 : x3 = 0
    ·refine lv_ rfl _ (neT_ h29) ?_
     refine pt_ hK28 ?_
     refine wp_cond_false le_ ?_
     refine wp_skip ?_
     refine inBlock_normal ?_
     refine tn_ hK26 ?_
     refine plStart ?_
     refine li_ 4 ?_
     refine li_ 4 ?_
     refine plD ?_
     refine then_normal (roundsNext ?_)
     refine wpPrune [(2, .int .i64 0), (3, .int .i64 0), (5, .int .i64 x3), (6, .slice (some ⟨bk_, of_, none⟩) 4 cap), (7, .int .i64 4), (8, .int .i64 4), (9, .bool true), (10, .pointer (some ⟨bk_, of_ + 3 * 1, none⟩)), (11, .int .i64 x3), (12, .int .i64 x3), (13, .int .i64 0), (14, .bool false), (16, .int .i64 4)] fo_ (fun X30 => ?_)
     refine sp_ fun _ hK31 => ?_
     refine lF_ ?_
     refine pt_ hK31 ?_
     refine sk_ fun _ hK32 => ?_
     refine wp_cond_false le_ ?_
     refine wp_exit ?_
     refine then_exit ?_
     refine then_exit ?_
     refine inBlock_exit ?_
     refine tn_ hK3 ?_
     refine sp_ fun _ hK33 => ?_
     refine li_ 0 ?_
     refine li_ 0 ?_
     refine pt_ hK33 ?_
     refine wpPrune [(2, .int .i64 0)] fo_ (fun X34 => ?_)
     refine wp_ret ?_
     refine br_ 2 (.int .i64 0) ?_
     exact ⟨by simp only [orI, h10, h16, h23, h29, if_true, if_false], rfl⟩
    refine lv_ rfl _ (neF_ h29) ?_
    refine pt_ hK28 ?_
    refine wp_cond_true le_ ?_
    refine sp_ fun _ hK35 => ?_
    refine li_ x3 ?_
    refine li_ x3 ?_
    refine pt_ hK35 ?_
    refine wpPrune [(2, .int .i64 x3), (3, .int .i64 0), (5, .int .i64 x3), (6, .slice (some ⟨bk_, of_, none⟩) 4 cap), (7, .int .i64 4), (8, .int .i64 3), (9, .bool true), (10, .pointer (some ⟨bk_, of_ + 3 * 1, none⟩)), (11, .int .i64 x3), (12, .int .i64 x3), (13, .int .i64 0), (14, .bool true), (15, .int .i64 x3), (16, .int .i64 3)] fo_ (fun X36 => ?_)
    refine wp_ret ?_
    refine inBlock_ret ?_
    refine then_ret ?_
    refine then_ret ?_
    refine inBlock_ret ?_
    refine then_ret ?_
    refine br_ 2 (.int .i64 x3) ?_
    exact ⟨by simp only [orI, h10, h16, h23, h29, if_true, if_false], rfl⟩
   refine lv_ rfl _ (neF_ h23) ?_
   refine pt_ hK22 ?_
   refine wp_cond_true le_ ?_
   refine sp_ fun _ hK37 => ?_
   refine li_ x2 ?_
   refine li_ x2 ?_
   refine pt_ hK37 ?_
   refine wp_ret ?_
   refine inBlock_ret ?_
   refine then_ret ?_
   refine then_ret ?_
   refine inBlock_ret ?_
   refine then_ret ?_
   refine br_ 2 (.int .i64 x2) ?_
   exact ⟨by simp only [orI, h10, h16, h23, if_true, if_false], rfl⟩
  refine lv_ rfl _ (neF_ h16) ?_
  refine pt_ hK15 ?_
  refine wp_cond_true le_ ?_
  refine sp_ fun _ hK38 => ?_
  refine li_ x1 ?_
  refine li_ x1 ?_
  refine pt_ hK38 ?_
  refine wp_ret ?_
  refine inBlock_ret ?_
  refine then_ret ?_
  refine then_ret ?_
  refine inBlock_ret ?_
  refine then_ret ?_
  refine br_ 2 (.int .i64 x1) ?_
  exact ⟨by simp only [orI, h10, h16, if_true, if_false], rfl⟩
 refine lv_ rfl _ (neF_ h10) ?_
 refine pt_ hK9 ?_
 refine wp_cond_true le_ ?_
 refine sp_ fun _ hK39 => ?_
 refine li_ x0 ?_
 refine li_ x0 ?_
 refine pt_ hK39 ?_
 refine wp_ret ?_
 refine inBlock_ret ?_
 refine then_ret ?_
 refine then_ret ?_
 refine inBlock_ret ?_
 refine then_ret ?_
 refine br_ 2 (.int .i64 x0) ?_
 exact ⟨by simp only [orI, h10, if_true, if_false], rfl⟩
theorem cmpq_x (x y : Qd) (w : World) : Calls Tryz.prog 55 #[.agg (qdc x).toArray, .agg (qdc y).toArray] w (fun e w' => e = .returned (.int .i64 (cmpQ x y)) ∧ Grn w w') := by
 have hm0 := Mem.nil w
 have hg := Grn.refl w
 go_enter Tryz.func55, Tryz.ntmps55
 refine litStart 33 [(0, .agg (qdc x).toArray), (1, .agg (qdc y).toArray)] kr_ (fun X0 => ?_)
 refine sp_ fun _ hK1 => ?_
 refine plBoxX hm0 hg (cs := qdc x) (i := 0) rfl (wn rfl) rfl le_ ?_
 clear hg
 intro g2 w4 hm3 hg
 clear hm0
 try simp only [lc_] at hm3
 refine qP rfl ?_
 refine plBoxX hm3 hg (cs := qdc y) (i := 1) rfl (wn rfl) rfl le_ ?_
 clear hg
 intro g5 w7 hm6 hg
 clear hm3
 try simp only [lc_] at hm6
 refine qP rfl ?_
 refine li_ 0 ?_
 refine pt_ hK1 ?_
 refine sk_ fun _ hK8 => ?_
 refine mgxStart hm6 hg kr_ ?_
 clear hg
 intro w10 hm9 hg
 clear hm6
 refine mkX (i := 0) (v := .pointer (some ⟨g2, 3, none⟩)) rfl rfl (fun _ _ _ h => h) ⟨hm9, hg⟩ rfl ?_
 refine mgxTake (i := 1) (v := .int .i64 x.ax) rfl kr_ (wn rfl) (fun _ _ _ h => h) ⟨hm9, hg⟩ (fun w_ h_ => gLoad (v := .int .i64 x.ax) (k := 3) 0 h_ rfl kr_ (.tmp 5) kr_ rfl le_) ?_
 refine mxP rfl ?_
 refine mkX (i := 2) (v := .pointer (some ⟨g5, 3, none⟩)) rfl rfl (fun _ _ _ h => h) ⟨hm9, hg⟩ rfl ?_
 refine mgxTake (i := 3) (v := .int .i64 y.ax) rfl kr_ (wn rfl) (fun _ _ _ h => h) ⟨hm9, hg⟩ (fun w_ h_ => gLoad (v := .int .i64 y.ax) (k := 3) 1 h_ rfl kr_ (.tmp 7) kr_ rfl le_) ?_
 refine mxP rfl ?_
 refine mkX (i := 5) (v := .pointer (some ⟨g2, 0, none⟩)) rfl rfl (fun _ _ _ h => h) ⟨hm9, hg⟩ rfl ?_
 refine mkX (i := 6) (v := .pointer (some ⟨g2, 2, none⟩)) rfl rfl (fun _ _ _ h => h) ⟨hm9, hg⟩ rfl ?_
 refine mgxTake (i := 7) (v := .int .i64 x.p.z) rfl kr_ (wn rfl) (fun _ _ _ h => h) ⟨hm9, hg⟩ (fun w_ h_ => gLoad (v := .int .i64 x.p.z) (k := 2) 0 h_ rfl kr_ (.tmp 11) kr_ rfl le_) ?_
 refine mxP rfl ?_
 refine mkX (i := 8) (v := .pointer (some ⟨g5, 0, none⟩)) rfl rfl (fun _ _ _ h => h) ⟨hm9, hg⟩ rfl ?_
 refine mkX (i := 9) (v := .pointer (some ⟨g5, 2, none⟩)) rfl rfl (fun _ _ _ h => h) ⟨hm9, hg⟩ rfl ?_
 refine mgxTake (i := 10) (v := .int .i64 y.p.z) rfl kr_ (wn rfl) (fun _ _ _ h => h) ⟨hm9, hg⟩ (fun w_ h_ => gLoad (v := .int .i64 y.p.z) (k := 2) 1 h_ rfl kr_ (.tmp 14) kr_ rfl le_) ?_
 refine mxP rfl ?_
 refine mkX (i := 12) (v := .pointer (some ⟨g2, 0, none⟩)) rfl rfl (fun _ _ _ h => h) ⟨hm9, hg⟩ rfl ?_
 refine mkX (i := 13) (v := .pointer (some ⟨g2, 1, none⟩)) rfl rfl (fun _ _ _ h => h) ⟨hm9, hg⟩ rfl ?_
 refine mgxTake (i := 14) (v := .int .i64 x.p.y) rfl kr_ (wn rfl) (fun _ _ _ h => h) ⟨hm9, hg⟩ (fun w_ h_ => gLoad (v := .int .i64 x.p.y) (k := 1) 0 h_ rfl kr_ (.tmp 18) kr_ rfl le_) ?_
 refine mxP rfl ?_
 refine mkX (i := 15) (v := .pointer (some ⟨g5, 0, none⟩)) rfl rfl (fun _ _ _ h => h) ⟨hm9, hg⟩ rfl ?_
 refine mkX (i := 16) (v := .pointer (some ⟨g5, 1, none⟩)) rfl rfl (fun _ _ _ h => h) ⟨hm9, hg⟩ rfl ?_
 refine mgxTake (i := 17) (v := .int .i64 y.p.y) rfl kr_ (wn rfl) (fun _ _ _ h => h) ⟨hm9, hg⟩ (fun w_ h_ => gLoad (v := .int .i64 y.p.y) (k := 1) 1 h_ rfl kr_ (.tmp 21) kr_ rfl le_) ?_
 refine mxP rfl ?_
 refine mkX (i := 19) (v := .pointer (some ⟨g2, 0, none⟩)) rfl rfl (fun _ _ _ h => h) ⟨hm9, hg⟩ rfl ?_
 refine mkX (i := 20) (v := .pointer (some ⟨g2, 0, none⟩)) rfl rfl (fun _ _ _ h => h) ⟨hm9, hg⟩ rfl ?_
 refine mgxTake (i := 21) (v := .int .i64 x.p.x) rfl kr_ (wn rfl) (fun _ _ _ h => h) ⟨hm9, hg⟩ (fun w_ h_ => gLoad (v := .int .i64 x.p.x) (k := 0) 0 h_ rfl kr_ (.tmp 25) kr_ rfl le_) ?_
 refine mxP rfl ?_
 refine mkX (i := 22) (v := .pointer (some ⟨g5, 0, none⟩)) rfl rfl (fun _ _ _ h => h) ⟨hm9, hg⟩ rfl ?_
 refine mkX (i := 23) (v := .pointer (some ⟨g5, 0, none⟩)) rfl rfl (fun _ _ _ h => h) ⟨hm9, hg⟩ rfl ?_
 refine mgxTake (i := 24) (v := .int .i64 y.p.x) rfl kr_ (wn rfl) (fun _ _ _ h => h) ⟨hm9, hg⟩ (fun w_ h_ => gLoad (v := .int .i64 y.p.x) (k := 0) 1 h_ rfl kr_ (.tmp 28) kr_ rfl le_) ?_
 refine mxP rfl ?_
 refine mgxCall (i := 4) 57 [.int .i64 x.ax, .int .i64 y.ax] [] [] kr_ rfl kr_ (wn rfl) rfl le_ (litArgs kr_) ⟨hm9, hg⟩ (cmp_x x.ax y.ax _) ?_
 refine mxP rfl ?_
 refine mgxCall (i := 11) 57 [.int .i64 x.p.z, .int .i64 y.p.z] [] [] kr_ rfl kr_ (wn rfl) rfl le_ (litArgs kr_) ⟨hm9, hg⟩ (cmp_x x.p.z y.p.z _) ?_
 refine mxP rfl ?_
 refine mgxCall (i := 18) 57 [.int .i64 x.p.y, .int .i64 y.p.y] [] [] kr_ rfl kr_ (wn rfl) rfl le_ (litArgs kr_) ⟨hm9, hg⟩ (cmp_x x.p.y y.p.y _) ?_
 refine mxP rfl ?_
 refine mgxCall (i := 25) 57 [.int .i64 x.p.x, .int .i64 y.p.x] [] [] kr_ rfl kr_ (wn rfl) rfl le_ (litArgs kr_) ⟨hm9, hg⟩ (cmp_x x.p.x y.p.x _) ?_
 refine mxP rfl ?_
 refine mgxLit (cs := [.int .i64 (cmpI x.ax y.ax), .int .i64 (cmpI x.p.z y.p.z), .int .i64 (cmpI x.p.y y.p.y), .int .i64 (cmpI x.p.x y.p.x)]) (n := 4) Ty.sl_L_int ⟨hm9, hg⟩ kr_ (i := 26) rfl (wn rfl) rfl (by decide) (by decide) (by rw [lit_eval]; kernel_rfl) ?_
 clear hg
 intro g19 w21 hm20 hg hA_
 clear hm9
 refine mxP rfl ?_
 refine mgxCall (i := 27) 56 [.slice (some ⟨g19, 0, none⟩) 4 4] [] [] kr_ rfl kr_ (wn rfl) rfl le_ (litArgs kr_) ⟨hm20, hg⟩ (or_x (cmpI x.ax y.ax) (cmpI x.p.z y.p.z) (cmpI x.p.y y.p.y) (cmpI x.p.x y.p.x) (some ⟨g19, 0, none⟩) 4 _ (Rd.of_arr hA_ (by rfl) (by decide))) ?_
 refine mxP rfl ?_
 refine mkX (i := 28) (v := .int .i64 (cmpQ x y)) rfl rfl (fun _ _ _ h => h) ⟨hm20, hg⟩ rfl ?_
 refine mgxDone kr_ ?_
 refine tn_ hK8 ?_
 refine wpPrune [(4, .int .i64 (cmpQ x y))] fo_ (fun X24 => ?_)
 refine wp_ret ?_
 refine br_ 4 (.int .i64 (cmpQ x y)) ?_
 exact ⟨by rfl, hg⟩
theorem cmpQ_lt (a b : Qd) : cmpQ a b < 0 ↔ a.ax < b.ax ∨ a.ax = b.ax ∧ (a.p.z < b.p.z ∨ a.p.z = b.p.z ∧ (a.p.y < b.p.y ∨ a.p.y = b.p.y ∧ a.p.x < b.p.x)) := by
 unfold cmpQ orI orI orI orI orI cmpI
 split <;> split <;> (try split) <;> (try split) <;> (try split) <;> (try split) <;> (try split) <;> (try split) <;> omega
theorem swoQ : Go.Sort.SWO (ltOf cmpQ) where
 irrefl x := by unfold ltOf; rw [decide_eq_false_iff_not, cmpQ_lt]; omega
 trans x y z h1 h2 := by unfold ltOf at *; simp only [decide_eq_true_eq, cmpQ_lt] at *; omega
 ntrans x y z h1 h2 := by unfold ltOf at *; simp only [decide_eq_false_iff_not, cmpQ_lt] at *; omega
end Go.Proofs.YtbpihalphhoiaaaGreatDoor
namespace Go.Proofs.YtbpihalphhoiaaaGreatDoor
open Go.RowKit Go.Sort
instance : Inhabited Qd := ⟨⟨p0, 0, false, 0⟩⟩
def sortRen : Go.Shelf.Ren := ⟨fun | 6 => 54 | 15 => 90 | 14 => 89 | 28 => 119 | 29 => 120 | 20 => 111 | 21 => 112 | 22 => 113 | 23 => 114 | 24 => 115 | 25 => 116 | 26 => 117 | 27 => 118 | 46 => 130 | 47 => 131 | 48 => 132 | 49 => 133 | 50 => 134 | 57 => 137 | n => n, fun | 22 => 38 | 24 => 45 | 25 => 119 | 3 => 3 | 39 => 160 | 0 => 0 | 53 => 185 | 55 => 187 | 4 => 4 | 46 => 179 | 45 => 178 | 50 => 155 | 5 => 5 | 9 => 9 | 66 => 195 | 70 => 199 | 76 => 205 | 77 => 170 | n => n, fun | n => n⟩
theorem sortL : Go.Proofs.SlLaysF0.n6 Tryz.prog sortRen := {
 mixed := kr_
 f6 := ⟨Tryz.f54.name, (by decide), Tryz.func54.trans (congrArg some kr_)⟩
 f14 := ⟨Tryz.f89.name, (by decide), Tryz.func89.trans (congrArg some kr_)⟩
 f15 := Tryz.func90.trans (congrArg some kr_)
 f20 := ⟨Tryz.f111.name, (by decide), Tryz.func111.trans (congrArg some kr_)⟩
 f21 := ⟨Tryz.f112.name, (by decide), Tryz.func112.trans (congrArg some kr_)⟩
 f22 := ⟨Tryz.f113.name, (by decide), Tryz.func113.trans (congrArg some kr_)⟩
 f23 := ⟨Tryz.f114.name, (by decide), Tryz.func114.trans (congrArg some kr_)⟩
 f24 := ⟨Tryz.f115.name, (by decide), Tryz.func115.trans (congrArg some kr_)⟩
 f25 := ⟨Tryz.f116.name, (by decide), Tryz.func116.trans (congrArg some kr_)⟩
 f26 := ⟨Tryz.f117.name, (by decide), Tryz.func117.trans (congrArg some kr_)⟩
 f27 := ⟨Tryz.f118.name, (by decide), Tryz.func118.trans (congrArg some kr_)⟩
 f28 := Tryz.func119.trans (congrArg some kr_)
 f29 := Tryz.func120.trans (congrArg some kr_)
 f46 := ⟨Tryz.f130.name, (by decide), Tryz.func130.trans (congrArg some kr_)⟩
 f47 := Tryz.func131.trans (congrArg some kr_)
 f48 := Tryz.func132.trans (congrArg some kr_)
 f49 := ⟨Tryz.f133.name, (by decide), Tryz.func133.trans (congrArg some kr_)⟩
 f50 := ⟨Tryz.f134.name, (by decide), Tryz.func134.trans (congrArg some kr_)⟩
 f57 := ⟨Tryz.f137.name, (by decide), Tryz.func137.trans (congrArg some kr_)⟩
 t0 := Tryz.underlying0
 a0 := Tryz.isAgg0
 z0 := Tryz.sizeOf0
 v0 := Tryz.zeroValue0
 t3 := Tryz.underlying3
 a3 := Tryz.isAgg3
 z3 := Tryz.sizeOf3
 v3 := Tryz.zeroValue3
 t4 := Tryz.underlying4
 a4 := Tryz.isAgg4
 z4 := Tryz.sizeOf4
 v4 := Tryz.zeroValue4
 t5 := Tryz.underlying5
 a5 := Tryz.isAgg5
 z5 := Tryz.sizeOf5
 v5 := Tryz.zeroValue5
 t9 := Tryz.underlying9
 a9 := Tryz.isAgg9
 z9 := Tryz.sizeOf9
 v9 := Tryz.zeroValue9
 t22 := Tryz.underlying38
 a22 := Tryz.isAgg38
 z22 := Tryz.sizeOf38
 v22 := Tryz.zeroValue38
 t25 := Tryz.underlying119
 a25 := Tryz.isAgg119
 z25 := Tryz.sizeOf119
 v25 := Tryz.zeroValue119
 t39 := Tryz.underlying160
 a39 := Tryz.isAgg160
 z39 := Tryz.sizeOf160
 v39 := Tryz.zeroValue160
 t45 := Tryz.underlying178
 a45 := Tryz.isAgg178
 z45 := Tryz.sizeOf178
 v45 := Tryz.zeroValue178
 t46 := Tryz.underlying179
 a46 := Tryz.isAgg179
 z46 := Tryz.sizeOf179
 v46 := Tryz.zeroValue179
 t50 := Tryz.underlying155
 a50 := Tryz.isAgg155
 z50 := Tryz.sizeOf155
 v50 := Tryz.zeroValue155
 t53 := Tryz.underlying185
 a53 := Tryz.isAgg185
 z53 := Tryz.sizeOf185
 v53 := Tryz.zeroValue185
 t55 := Tryz.underlying187
 a55 := Tryz.isAgg187
 z55 := Tryz.sizeOf187
 v55 := Tryz.zeroValue187
 t66 := Tryz.underlying195
 a66 := Tryz.isAgg195
 z66 := Tryz.sizeOf195
 v66 := Tryz.zeroValue195
 t70 := Tryz.underlying199
 a70 := Tryz.isAgg199
 z70 := Tryz.sizeOf199
 v70 := Tryz.zeroValue199
 t76 := Tryz.underlying205
 a76 := Tryz.isAgg205
 z76 := Tryz.sizeOf205
 v76 := Tryz.zeroValue205
 t77 := Tryz.underlying170
 a77 := Tryz.isAgg170
 z77 := Tryz.sizeOf170
 v77 := Tryz.zeroValue170 }
theorem flatK_eq {α : Type} [Inhabited α] (enc : α → List Value) (k : Nat) (hk0 : 0 < k) (hk : ∀ x, (enc x).length = k) (d : List α) : flatK enc k d.toArray = (d.flatMap enc).toArray := by
 have hl := flatLen enc k hk d
 apply Array.ext
 ·rw [size_flatK]; simp only [List.size_toArray]; exact hl.symm
 ·intro t h1 h2
  rw [size_flatK] at h1
  simp only [List.size_toArray] at h1
  have hd : t / k < d.length := (Nat.div_lt_iff_lt_mul hk0).2 h1
  have hx : d[t / k]? = some d[t / k] := List.getElem?_eq_getElem hd
  have hm : t % k < (enc d[t / k]).length := by rw [hk]; exact Nat.mod_lt _ hk0
  have h := flatG enc k hk hx (t % k) _ (List.getElem?_eq_getElem hm)
  rw [Nat.div_add_mod' t k] at h
  have e1 : (flatK enc k d.toArray)[t]! = (enc d[t / k])[t % k] := by
   rw [get_flatK _ _ _ _ (by simpa using h1)]
   simp [hd, hm]
  have e2 := (List.getElem?_eq_some_iff.1 h).2
  rw [getElem!_pos _ t (by rw [size_flatK]; simpa using h1)] at e1
  rw [e1]
  simp only [List.getElem_toArray]
  exact e2.symm
theorem take_put (cur : Array Value) (F : List Value) (h : F.length ≤ cur.size) : (putCells id 0 F.toArray cur).toList.take F.length = F := by
 apply List.ext_getElem?
 intro j
 by_cases hj : j < F.length
 ·rw [List.getElem?_take_of_lt hj, Array.getElem?_toList]
  simp [putCells, hj, show j < cur.size by omega]
 ·rw [List.getElem?_take_eq_none (by omega), List.getElem?_eq_none (by omega)]
theorem perm_of {d : List Qd} {d' : Array Qd} (h : PermIn 0 d.toArray.size d.toArray d') : d'.toList.Perm d := by
 obtain ⟨h1, _, h3⟩ := h
 have e1 : d'.extract 0 d.toArray.size = d' := by rw [← h1]; simp
 have e2 : d.toArray.extract 0 d.toArray.size = d.toArray := by simp
 rw [e1, e2] at h3
 exact h3
def SortedQ (l : List Qd) : Prop := ∀ (i j : Nat) (a b : Qd), i < j → l[i]? = some a → l[j]? = some b → ¬ cmpQ b a < 0
theorem sorted_of {d : List Qd} {d' : Array Qd} (hs : d'.size = d.toArray.size) (h : SortedIn (ltOf cmpQ) 0 d.toArray.size d') : SortedQ d'.toList := by
 intro i j a b hij hi hj
 have hj2 := (List.getElem?_eq_some_iff.1 hj).1
 have h2 := h i j (Nat.zero_le _) hij (by rw [← hs]; simpa using hj2)
 rw [Array.getElem?_toList] at hi hj
 have ei : d'[i]! = a := by rw [Array.getElem!_eq_getD, Array.getD_eq_getD_getElem?, hi]; rfl
 have ej : d'[j]! = b := by rw [Array.getElem!_eq_getD, Array.getD_eq_getD_getElem?, hj]; rfl
 rw [ei, ej] at h2
 unfold ltOf at h2
 exact of_decide_eq_false h2
theorem sortq_any (d : List Qd) (hd : d.length < 4611686018427387904) (v : Value) (base : Nat) (w : World) (hown : w.ownsRow base 45 6 v d.length (qdsC d)) :
 Calls Tryz.prog 54 #[v, .func (.func 55) #[] #[]] w fun e w' => e = .returned (.tuple #[]) ∧ ∃ d' : List Qd, d'.Perm d ∧ SortedQ d' ∧ w'.ownsRow base 45 6 v d.length (qdsC d') ∧ w.grownBy w' v.ownBlock := by
 rcases hown.2 with ⟨rfl, h0⟩ | ⟨g, cap, cur, rfl, hbase, hg, hcap, hmax, hcs, hxs⟩
 ·have hn := AnyF.slices_SortFunc_none (P := Tryz.prog) (ρ := sortRen) { sortL with } none 0 (.func (.func 55) #[] #[]) w
  have hd0 : d = [] := List.length_eq_zero_iff.1 h0
  subst hd0
  refine Calls.mono (show Calls Tryz.prog 54 _ w _ from hn) ?_
  rintro e w' ⟨rfl, rfl⟩
  exact ⟨rfl, [], List.Perm.refl _, fun i j a b _ hi _ => by simp at hi, hown, ⟨rfl, rfl, rfl, Nat.le_refl _, fun _ _ _ => rfl⟩⟩
 ·have eg : ∀ args w, (callFunc 55 args).run Tryz.prog w = .ok (.enter 55 args) w := enters_of Tryz.func55 kr_ rfl
  have hlt : g < w.heap.size := (Array.getElem?_eq_some_iff.1 hg).1
  have hF := flatK_eq qdc 6 (by decide) (fun _ => rfl) d
  have hlen := flatLen qdc 6 (fun _ => rfl) d
  have hH : HoldsK qdc 6 w g 0 d.toArray := by
   unfold HoldsK Holds
   rw [hF]
   intro j hj
   simp only [List.size_toArray] at hj
   refine ⟨?_, ?_⟩
   ·unfold World.cell?
    rw [show w.heap[(⟨g, 0 + j, none⟩ : Addr).block]? = some (.cells cur 45 (0, 0)) from hg]
    simp only [Option.isSome_none, Bool.false_eq_true, if_false, Nat.zero_add]
    have h1 : (cur.toList.take (d.length * 6))[j]? = (qdsC d)[j]? := by rw [hxs]
    rw [List.getElem?_take_of_lt (by omega), Array.getElem?_toList] at h1
    rw [h1]
    show (d.flatMap qdc)[j]? = _
    have e2 : ((d.flatMap qdc).toArray)[j]! = (d.flatMap qdc)[j] := by rw [getElem!_pos _ j (by simpa using hj)]; simp
    rw [e2, List.getElem?_eq_getElem hj]
    rfl
   ·unfold World.frozen?
    rw [show w.heap[(⟨g, 0 + j, none⟩ : Addr).block]? = some (.cells cur 45 (0, 0)) from hg]
    simp
  have hcmp : CmpLays Tryz.prog 55 #[] qdc 6 cmpQ g 0 d.toArray.size w := fun _ _ _ _ x y => cmpq_x x y _
  have hcon := AnyQ.slices_SortFunc (P := Tryz.prog) (ρ := sortRen) sortL 6 Tryz.isAgg45 Tryz.sizeOf45 qdc (fun _ => rfl) (fun x u hu => by
   unfold qdc pcs at hu
   simp at hu
   rcases hu with rfl | rfl | rfl | rfl | rfl | rfl <;> rfl) cmpQ swoQ 55 #[] g 0 cap d.toArray w eg hcmp hH hlt (by simpa using hd)
  have hcon2 : Calls Tryz.prog 54 #[.slice (some ⟨g, 0, none⟩) d.length cap, .func (.func 55) #[] #[]] w _ := hcon
  refine hcon2.mono ?_
  rintro e w' ⟨rfl, d', n, os, hp, hs, rfl⟩
  have hsz : d'.size = d.toArray.size := hp.1
  have hd'l : d'.toList.length = d.length := by simpa using hsz
  have hlen' := flatLen qdc 6 (fun _ => rfl) d'.toList
  refine ⟨rfl, d'.toList, perm_of hp, sorted_of hsz hs, ?_, ?_⟩
  ·have hF' := flatK_eq qdc 6 (by decide) (fun _ => rfl) d'.toList
   rw [Array.toArray_toList] at hF'
   have hheap : (sortWorldK qdc 6 w g 0 n d' os).heap[g]? = some (.cells (putCells id 0 (d'.toList.flatMap qdc).toArray cur) 45 (0, 0)) := by
    unfold sortWorldK putRowK
    rw [hF', heap_grow_old _ _ (by simpa [Sort.ahead] using hlt)]
    simp [putRow, mapBlock, Sort.ahead, Array.getElem?_modify, hg, onCells]
   refine ⟨by rw [← hd'l]; exact hlen', Or.inr ⟨g, cap, _, rfl, hbase, hheap, hcap, hmax, ?_, ?_⟩⟩
   ·simp [putCells, hcs]
   ·have h2 := take_put cur (d'.toList.flatMap qdc) (by rw [hlen', hd'l, hcs]; exact Nat.mul_le_mul_right 6 hcap)
    rw [hlen', hd'l] at h2
    exact h2
  ·unfold sortWorldK putRowK
   refine ⟨rfl, rfl, rfl, by simp [Sort.ahead], fun k hk hne => ?_⟩
   rw [heap_grow_old _ _ (by simpa [Sort.ahead] using hk)]
   have : g ≠ k := fun e => hne (by rw [e]; rfl)
   simp [putRow, mapBlock, Sort.ahead, Array.getElem?_modify, this]
end Go.Proofs.YtbpihalphhoiaaaGreatDoor
namespace Go.Proofs.YtbpihalphhoiaaaGreatDoor
open Go.RowKit
def SidesIn (w : World) : Prop := Rd w w.heap.size 30 (some ⟨0, 0, none⟩) 1 1 (drsC drL)
theorem SidesIn.below {w w' : World} (h : SidesIn w) (b : Below w.heap.size w w') : SidesIn w' := (Rd.below h b).more b.size
theorem solF_in {ls : List (List Int)} {T : List Mat} {n : Nat} {p : Pt} (h : inC (sideN n) p) : solF ls T n p = (matAt T (cellF ls p)).solid := by unfold solF; rw [decide_eq_true h]; rfl
theorem solF_out {ls : List (List Int)} {T : List Mat} {n : Nat} {p : Pt} (h : ¬ inC (sideN n) p) : solF ls T n p = false := by unfold solF; rw [decide_eq_false h]; rfl
theorem quadD_no {f : Pt → Bool} {p : Pt} {d : Dr} (h : f p = false ∨ f (p.add d.st) = true) : quadD f p d = [] := by
 unfold quadD
 rw [if_neg]
 rintro ⟨h1, h2⟩
 rcases h with h | h
 ·rw [h] at h1; cases h1
 ·rw [h] at h2; cases h2
def crnP (p : Pt) (d : Dr) : Pt := if d.up then p.add d.st else p
theorem quadD_yes {f : Pt → Bool} {p : Pt} {d : Dr} (h1 : f p = true) (h2 : f (p.add d.st) = false) : quadD f p d = [⟨crnP p d, d.ax, d.up, 1⟩] := by unfold quadD crnP; rw [if_pos ⟨h1, h2⟩]
theorem drL_take {f : Pt → Bool} {p : Pt} {d : Dr} {j : Nat} (h : drL[j]? = some d) : (drL.take (j + 1)).flatMap (quadD f p) = (drL.take j).flatMap (quadD f p) ++ quadD f p d := by
 rw [List.take_add_one, h, List.flatMap_append]; simp
theorem drL_bd {d : Dr} {j : Nat} (h : drL[j]? = some d) : (-1 ≤ d.st.x ∧ d.st.x ≤ 1) ∧ (-1 ≤ d.st.y ∧ d.st.y ≤ 1) ∧ (-1 ≤ d.st.z ∧ d.st.z ≤ 1) ∧ (0 ≤ d.ax ∧ d.ax ≤ 2) := by
 have hm := List.mem_of_getElem? h
 unfold drL at hm
 simp only [List.mem_cons, List.not_mem_nil, or_false] at hm
 rcases hm with rfl | rfl | rfl | rfl | rfl | rfl <;> simp
theorem mul1 (p : Pt) : p.mul 1 = p := by unfold Pt.mul; simp only [Int.one_mul]
theorem scale1_any (p : Pt) (h : (-1 ≤ p.x ∧ p.x ≤ 1) ∧ (-1 ≤ p.y ∧ p.y ≤ 1) ∧ (-1 ≤ p.z ∧ p.z ≤ 1)) (w : World) : Calls Tryz.prog 52 #[.agg (pcs p).toArray, .int .i64 1] w (RetV w (.agg (pcs p).toArray)) := by
 have h2 := scale_any p 1 (by omega) (by omega) (by omega) w
 rw [mul1] at h2
 exact h2
theorem chosenK_any (cs : List Sl3) (hn : cs.length = 1 ∨ cs.length = 8) (k i : Nat) (hk : k < cs.length) (hi : i < 64) (A : Option Addr) (c : Nat) (w : World) (hc : CellsIn w A c cs) (x : Sl3) (hx : cs[k]? = some x) :
 Calls Tryz.prog 51 #[.agg (tlc (tlK k)).toArray, .slice x.A 64 x.c, .int .i64 (i : Int)] w (RetV w (.agg (cho (posP k i) (cellF (lsOf cs) (posP k i))).toArray)) := by
 obtain ⟨h1, h2⟩ := tNo_pos (k := k) (i := i) (by omega) hi
 have h := chosenP_any cs.length hn (posP k i) (posP_in hn hk hi) cs A c w hc x (by rw [h1]; exact hx)
 rw [h1, h2] at h
 exact h
theorem fatIn_any (cs : List Sl3) (hn : cs.length = 1 ∨ cs.length = 8) (p : Pt) (A : Option Addr) (cap : Nat) (A2 : Option Addr) (c2 : Nat) (w : World) (hrd : Rd w w.heap.size 4 A cs.length cap (tlsC (planL cs.length))) (hcs : CellsIn w A2 c2 cs) (hin : inC (sideN cs.length) p) :
 Calls Tryz.prog 53 #[.slice A cs.length cap, .slice A2 cs.length c2, .agg (pcs p).toArray] w (RetV w (.tuple #[.agg (cho p (cellF (lsOf cs) p)).toArray, .bool true])) := by
 have h := fat_any cs hn p A cap A2 c2 w hrd hcs
 rw [decide_eq_true hin, show atC cs.length (lsOf cs) p = cho p (cellF (lsOf cs) p) from if_pos hin] at h
 exact h
theorem fatOut_any (cs : List Sl3) (hn : cs.length = 1 ∨ cs.length = 8) (p : Pt) (A : Option Addr) (cap : Nat) (A2 : Option Addr) (c2 : Nat) (w : World) (hrd : Rd w w.heap.size 4 A cs.length cap (tlsC (planL cs.length))) (hcs : CellsIn w A2 c2 cs) (hin : ¬ inC (sideN cs.length) p) :
 Calls Tryz.prog 53 #[.slice A cs.length cap, .slice A2 cs.length c2, .agg (pcs p).toArray] w (RetV w (.tuple #[.agg [.int .i64 0, .int .i64 0, .int .i64 0, .int .i64 0, .int .i64 0].toArray, .bool false])) := by
 have h := fat_any cs hn p A cap A2 c2 w hrd hcs
 rw [decide_eq_false hin, show atC cs.length (lsOf cs) p = [.int .i64 0, .int .i64 0, .int .i64 0, .int .i64 0, .int .i64 0] from if_neg hin] at h
 exact h
theorem idxDr {k : Nat} {d : Dr} (hk : drL[k]? = some d) (w : World) : (Instr.index 112 (.agg (drsC drL).toArray) (.int .i64 (k : Int))).run Tryz.prog w = .ok (.agg (drc d).toArray) w := by
 have hk6 := (List.getElem?_eq_some_iff.1 hk).1
 have hk6' : k < 6 := hk6
 rcases (by omega : k = 0 ∨ k = 1 ∨ k = 2 ∨ k = 3 ∨ k = 4 ∨ k = 5) with rfl | rfl | rfl | rfl | rfl | rfl <;> (clear hk6 hk6'; obtain rfl := Option.some.inj hk; show Sem.run _ _ _ = _; kernel_rfl)
theorem gIdxDr {w : World} {o : Oper} {a : Act} {K : Int} (x y : Operand) (k : Nat) (d : Dr) (ho : o.op = .index 112 x y) (hx : a.eval x = .agg (drsC drL).toArray) (hy : a.eval y = .int .i64 K) (hK : K = (k : Int)) (hk : drL[k]? = some d) :
 (execOp a.eval o).run Tryz.prog w = .ok (.value (.agg (drc d).toArray)) w := by
 subst hK
 unfold execOp
 simp only [ho, hx, hy, Sem.run_bind, idxDr hk w, Result.andThen_ok, Sem.run_pure]
theorem quads_any (cs : List Sl3) (hn : cs.length = 1 ∨ cs.length = 8) (T : List Mat) (A1 : Option Addr) (cap : Nat) (A2 : Option Addr) (c2 : Nat) (A3 : Option Addr) (c3 : Nat) (w : World) (hrd : Rd w w.heap.size 4 A1 cs.length cap (tlsC (planL cs.length))) (hcs : CellsIn w A2 c2 cs) (htb : Rd w w.heap.size 8 A3 T.length c3 (mts T)) (hsd : SidesIn w) : Calls Tryz.prog 17 #[.slice A1 cs.length cap, .slice A2 cs.length c2, .slice A3 T.length c3] w (fun e w' => ∃ v d', e = .returned v ∧ d'.Perm (quadsU (solF (lsOf cs) T cs.length) cs.length) ∧ SortedQ d' ∧ w'.ownsRow w.heap.size 45 6 v d'.length (qdsC d') ∧ Below w.heap.size w w') := by
 obtain ⟨bk_, of_, rfl, _, _⟩ := hrd.cells (by omega)
 obtain ⟨bl_, og_, rfl, _, _⟩ := hcs.1.cells (by omega)
 have hm0 := Mem.nil w
 go_enter Tryz.func17, Tryz.ntmps17
 refine litStart 131 [(0, .slice (some ⟨bk_, of_, none⟩) cs.length cap), (1, .slice (some ⟨bl_, og_, none⟩) cs.length c2), (2, .slice A3 T.length c3)] kr_ (fun X0 => ?_)
 refine sp_ fun _ hK1 => ?_
 refine lk_ (.slice none 0 0) ?_
 refine pt_ hK1 ?_
 refine sp_ fun _ hK2 => ?_
 refine lk_ (.slice none 0 0) ?_
 refine pt_ hK2 ?_
 refine sk_ fun _ hK3 => ?_
 refine sp_ fun _ hK4 => ?_
 refine lk_ (.slice (some ⟨bk_, of_, none⟩) cs.length cap) ?_
 refine lv_ rfl (.int .i64 (cs.length : Int)) (ln_ (some ⟨bk_, of_, none⟩) cs.length cap Ty.und_L_api_Tile) ?_
 refine li_ 0 ?_
 refine pt_ hK4 ?_
 refine wp_block ?_
 refine gwLoop (fun n_ a_ w_ => ∃ (k : Nat) (out : List Qd) (A : Option Addr) (c : Nat), n_ = cs.length - k ∧ (k ≤ cs.length) ∧ (out = (List.range k).flatMap (quadK (solF (lsOf cs) T cs.length))) ∧ (out.length ≤ 400 * k) ∧ Fr a_ 131 [(0, .slice (some ⟨bk_, of_, none⟩) cs.length cap), (1, .slice (some ⟨bl_, og_, none⟩) cs.length c2), (2, .slice A3 T.length c3), (6, .slice none 0 0), (7, .slice A out.length c), (20, .slice (some ⟨bk_, of_, none⟩) cs.length cap), (21, .int .i64 (cs.length : Int)), (22, .int .i64 (k : Int))] ∧ Mem w w_ [.row (.slice A out.length c) 45 6 out.length (qdsC out)]) (cs.length - 0) ⟨0, [], none, 0, rfl, (Nat.zero_le _), rfl, (Nat.le_refl _), ⟨litSize, rfl, fo_⟩, (hm0.nilRow 45 6)⟩ ?_
 clear hm0
 intro n_ a7 w5 hI_
 obtain ⟨k, out, A, c, rfl, hk, hO, hN, hF_, hm6⟩ := hI_
 obtain ⟨X8, rfl⟩ := frLit hF_
 clear hF_
 refine sp_ fun _ hK9 => ?_
 by_cases h10 : (k : Int) < (cs.length : Int)
 ·have hkn : k < cs.length := by omega
  obtain ⟨x_, hx_⟩ : ∃ x, cs[k]? = some x := ⟨_, List.getElem?_eq_getElem hkn⟩
  refine lv_ rfl _ (lsT_ h10) ?_
  refine pt_ hK9 ?_
  refine sk_ fun _ hK11 => ?_
  refine wp_cond_true le_ ?_
  refine wp_skip ?_
  refine tn_ hK11 ?_
  refine sk_ fun _ hK12 => ?_
  refine wp_block ?_
  refine sp_ fun _ hK13 => ?_
  refine li_ k ?_
  refine lv_ rfl (.pointer (some ⟨bk_, of_ + k * 4, none⟩)) (ia_ cap k Ty.sl_L_api_Tile rfl hkn) ?_
  refine lv_ rfl (.agg (tlc (tlK k)).toArray) (lar_ (m := k * 4) ((Rd.below hrd hm6.bel).more hm6.bel.size) (tlsC_get (planL_get hkn)) (by omega) Ty.ag_voxel_api_Tile) ?_
  refine plAlloc (z := [.int .i64 0, .int .i64 0, .int .i64 0, .int .i64 0]) Ty.ag_voxel_api_Tile hm6 (i := 3) rfl (wn rfl) rfl ?_
  intro g14 w16 hm15
  clear hm6
  try simp only [lc_] at hm15
  refine qP rfl ?_
  refine li_ k ?_
  refine plStore 1 Ty.ag_voxel_api_Tile hm15 rfl (i := 5) (cs := tlc (tlK k)) rfl (wn rfl) rfl le_ le_ rfl rfl kr_ ?_
  intro w18 hm17
  clear hm15
  try simp only [lc_] at hm17
  refine qNone rfl ?_
  refine pt_ hK13 ?_
  refine sp_ fun _ hK19 => ?_
  refine lk_ (.slice (some ⟨bl_, og_, none⟩) cs.length c2) ?_
  refine li_ k ?_
  refine lv_ rfl (.pointer (some ⟨bl_, og_ + k * 1, none⟩)) (ia_ c2 k Ty.sl_L_L_int rfl hkn) ?_
  refine lv_ rfl (.slice x_.A 64 x_.c) (lr_ (m := k * 1) ((Rd.below hcs.1 hm17.bel).more hm17.bel.size) (slsC_get hx_) (by omega)) ?_
  refine lv_ rfl (.int .i64 64) (ln_ x_.A 64 x_.c Ty.und_L_int) ?_
  refine li_ 0 ?_
  refine pt_ hK19 ?_
  refine wp_block ?_
  refine gwLoop (fun n_ a_ w_ => ∃ (i : Nat) (out : List Qd) (A : Option Addr) (c : Nat), n_ = 64 - i ∧ (i ≤ 64) ∧ (out = (List.range k).flatMap (quadK (solF (lsOf cs) T cs.length)) ++ (List.range i).flatMap (fun i => quadI (solF (lsOf cs) T cs.length) (posP k i))) ∧ (out.length ≤ 400 * k + 6 * i) ∧ Fr a_ 131 [(0, .slice (some ⟨bk_, of_, none⟩) cs.length cap), (1, .slice (some ⟨bl_, og_, none⟩) cs.length c2), (2, .slice A3 T.length c3), (6, .slice none 0 0), (7, .slice A out.length c), (8, .int .i64 (k : Int)), (9, .pointer (some ⟨g14, 0, none⟩)), (20, .slice (some ⟨bk_, of_, none⟩) cs.length cap), (21, .int .i64 (cs.length : Int)), (22, .int .i64 (k : Int)), (23, .bool true), (24, .int .i64 (k : Int)), (25, .pointer (some ⟨bk_, of_ + k * 4, none⟩)), (26, .agg (tlc (tlK k)).toArray), (27, .slice (some ⟨bl_, og_, none⟩) cs.length c2), (28, .int .i64 (k : Int)), (29, .pointer (some ⟨bl_, og_ + k * 1, none⟩)), (30, .slice x_.A 64 x_.c), (31, .int .i64 64), (32, .int .i64 (i : Int))] ∧ Mem w w_ [.row (.slice A out.length c) 45 6 out.length (qdsC out), .arr g14 63 (tlc (tlK k))]) (64 - 0) ⟨0, out, A, c, rfl, (Nat.zero_le _), (by rw [hO]; simp), (by omega), ⟨litSize, rfl, fo_⟩, (hm17.sub (.cons_cons _ (.cons_cons _ .slnil)))⟩ ?_
  clear hm17
  intro n_ a22 w20 hI_
  obtain ⟨i, out, A, c, rfl, hi, hO, hN, hF_, hm21⟩ := hI_
  obtain ⟨X23, rfl⟩ := frLit hF_
  clear hF_
  refine sp_ fun _ hK24 => ?_
  by_cases h25 : (i : Int) < 64
  ·have hi64 : i < 64 := by omega
   have htp_ := tlP_bd k
   have hbp_ := brk_bd hi64
   have hpin_ : inC (sideN cs.length) (posP k i) := posP_in hn hkn hi64
   have hpb_ : (0 ≤ (posP k i).x ∧ (posP k i).x ≤ 7) ∧ (0 ≤ (posP k i).y ∧ (posP k i).y ≤ 7) ∧ (0 ≤ (posP k i).z ∧ (posP k i).z ≤ 7) := by unfold posP Pt.add; simp only; omega
   refine lv_ rfl _ (lsT_ h25) ?_
   refine pt_ hK24 ?_
   refine sk_ fun _ hK26 => ?_
   refine wp_cond_true le_ ?_
   refine wp_skip ?_
   refine tn_ hK26 ?_
   refine sk_ fun _ hK27 => ?_
   refine wp_block ?_
   refine sp_ fun _ hK28 => ?_
   refine li_ i ?_
   refine li_ i ?_
   refine pt_ hK28 ?_
   refine sk_ fun _ hK29 => ?_
   refine aoStart (aoV [fun _ => .agg (tlc (tlK k)).toArray, fun _ => .slice (some ⟨bl_, og_, none⟩) cs.length c2, fun _ => .int .i64 (k : Int), fun _ => .pointer (some ⟨bl_, og_ + k * 1, none⟩), fun _ => .slice x_.A 64 x_.c, fun _ => .int .i64 (i : Int), fun _ => .agg (cho (posP k i) (cellF (lsOf cs) (posP k i))).toArray, fun γ_ => .pointer (some ⟨(γ_.getD 0 0), 0, none⟩), fun _ => undef]) (aoA [[], [], [], [], [], [], [], [7], []]) (fun b_ g_ => ((.row (.slice A out.length c) 45 6 out.length (qdsC out)) :: (.arr g14 63 (tlc (tlK k))) :: (bsel (b_ 7) (.arr (g_ 7) 108 (bsel (b_ 8) [.int .i64 ((posP k i).x), .int .i64 ((posP k i).y), .int .i64 ((posP k i).z), .int .i64 1, .int .i64 (cellF (lsOf cs) (posP k i))] [.int .i64 0, .int .i64 0, .int .i64 0, .int .i64 0, .int .i64 0])) .free) :: [])) hm21 kr_ kr_ (fun w_ h_ => h_.pushFree) (fun b_ g_ h_ => by show (fun (x7_ x8_ : Bool) => (((.row (.slice A out.length c) 45 6 out.length (qdsC out)) :: (.arr g14 63 (tlc (tlK k))) :: (bsel x7_ (.arr (g_ 7) 108 (bsel x8_ [.int .i64 ((posP k i).x), .int .i64 ((posP k i).y), .int .i64 ((posP k i).z), .int .i64 1, .int .i64 (cellF (lsOf cs) (posP k i))] [.int .i64 0, .int .i64 0, .int .i64 0, .int .i64 0, .int .i64 0])) .free) :: []) : List Res)) (b_ 7) (b_ 8) = _; rw [h_ 7 (by decide), h_ 8 (by decide)]) ?_ ?_
   ·refine aoNext rfl (aoV_ (fun b_ g_ X_ w_ h_b h_ => valTo (b := .agg (tlc (tlK k)).toArray) kr_ (la_ 0 1 h_ Ty.ag_voxel_api_Tile))) ?_
    refine aoNext rfl aoK_ ?_
    refine aoNext rfl aoK_ ?_
    refine aoNext rfl (aoV_ (fun b_ g_ X_ w_ h_b h_ => valTo (b := .pointer (some ⟨bl_, og_ + k * 1, none⟩)) kr_ (ia_ c2 k Ty.sl_L_L_int rfl hkn))) ?_
    refine aoNext rfl (aoV_ (fun b_ g_ X_ w_ h_b h_ => valTo (b := .slice x_.A 64 x_.c) kr_ (lr_ (m := k * 1) ((Rd.below hcs.1 h_.bel).more h_.bel.size) (slsC_get hx_) (by omega)))) ?_
    refine aoNext rfl aoK_ ?_
    refine aoNext rfl (aoC_ 51 (fun g_ => [.agg (tlc (tlK k)).toArray, .slice x_.A 64 x_.c, .int .i64 (i : Int)]) [] [] (fun b_ g_ w_ h_b h_ => (chosenK_any cs hn k i hkn hi64 _ c2 _ (hcs.below h_.bel) x_ hx_).mono (fun _ _ h_r => ⟨h_r.1.trans kr_, h_r.2⟩))) ?_
    refine aoNext rfl (aoNewAg (z := [.int .i64 0, .int .i64 0, .int .i64 0, .int .i64 0, .int .i64 0]) 2 Ty.ag_voxel_api_Chosen rfl rfl (fun _ _ _ => ⟨_, rfl⟩) (fun b_ g_ γ_ h_b => Eq.trans kr_ (congrArg (fun x_ => List.set _ 2 (Res.arr γ_ 108 x_)) (bselF (α := List Value) (h_b.post 8 kr_) [.int .i64 ((posP k i).x), .int .i64 ((posP k i).y), .int .i64 ((posP k i).z), .int .i64 1, .int .i64 (cellF (lsOf cs) (posP k i))] [.int .i64 0, .int .i64 0, .int .i64 0, .int .i64 0, .int .i64 0]))) (fun _ => by kernel_rfl) kr_) ?_
    refine aoNext rfl (aoStore (gb := fun g_ => (g_ 7)) (k := 0) (cur := fun g_ => [.int .i64 0, .int .i64 0, .int .i64 0, .int .i64 0, .int .i64 0]) (vs := fun g_ => cho (posP k i) (cellF (lsOf cs) (posP k i))) 2 (fun g_ => [(11, .pointer (some ⟨(g_ 7), 0, none⟩)), (41, .agg (cho (posP k i) (cellF (lsOf cs) (posP k i))).toArray)]) (fun g_ a_ h_k => ⟨(h_k.inn 7 _ _ kr_ rfl rfl).trans kr_, (h_k.inn 6 _ _ kr_ rfl rfl).trans kr_, trivial⟩) Ty.ag_voxel_api_Chosen (fun b_ g_ h_b => by show some (bsel (b_ 7) (Res.arr (g_ 7) 108 (bsel (b_ 8) [.int .i64 ((posP k i).x), .int .i64 ((posP k i).y), .int .i64 ((posP k i).z), .int .i64 1, .int .i64 (cellF (lsOf cs) (posP k i))] [.int .i64 0, .int .i64 0, .int .i64 0, .int .i64 0, .int .i64 0])) Res.free) = some (Res.arr (g_ 7) 108 ([.int .i64 0, .int .i64 0, .int .i64 0, .int .i64 0, .int .i64 0])); rw [bselT (h_b.pre 7 kr_), bselF h_b.no]) (fun g_ X_ => (wn rfl)) rfl (fun g_ X_ => litEv kr_) (fun g_ X_ => litEv kr_) (fun _ => by kernel_rfl) (fun _ => by kernel_rfl) (fun _ => by kernel_rfl) (fun b_ g_ h_b => Eq.trans (b := List.set (((.row (.slice A out.length c) 45 6 out.length (qdsC out)) :: (.arr g14 63 (tlc (tlK k))) :: (bsel (b_ 7) (.arr (g_ 7) 108 (bsel (b_ 8) [.int .i64 ((posP k i).x), .int .i64 ((posP k i).y), .int .i64 ((posP k i).z), .int .i64 1, .int .i64 (cellF (lsOf cs) (posP k i))] [.int .i64 0, .int .i64 0, .int .i64 0, .int .i64 0, .int .i64 0])) .free) :: [])) 2 (bsel (b_ 7) (Res.arr (g_ 7) 108 ([.int .i64 ((posP k i).x), .int .i64 ((posP k i).y), .int .i64 ((posP k i).z), .int .i64 1, .int .i64 (cellF (lsOf cs) (posP k i))])) Res.free)) kr_ (congrArg (fun x_ => List.set _ 2 x_) (bselT (h_b.pre 7 kr_) _ _))) rfl) ?_
    exact aoDone (by decide)
   intro g_ a_ w31 hF_ hm30
   obtain ⟨X32, rfl⟩ := frLit (⟨hF_.size, hF_.defers, ⟨hF_.o_ 0, hF_.o_ 1, hF_.o_ 2, hF_.o_ 6, hF_.o_ 7, hF_.o_ 8, hF_.o_ 9, hF_.o_ 10, hF_.i_ 7, hF_.o_ 20, hF_.o_ 21, hF_.o_ 22, hF_.o_ 23, hF_.o_ 24, hF_.o_ 25, hF_.o_ 26, hF_.o_ 27, hF_.o_ 28, hF_.o_ 29, hF_.o_ 30, hF_.o_ 31, hF_.o_ 32, hF_.o_ 33, hF_.o_ 34, hF_.i_ 0, hF_.i_ 1, hF_.i_ 2, hF_.i_ 3, hF_.i_ 4, hF_.i_ 5, hF_.i_ 6, trivial⟩⟩ : Fr _ 131 [(0, .slice (some ⟨bk_, of_, none⟩) cs.length cap), (1, .slice (some ⟨bl_, og_, none⟩) cs.length c2), (2, .slice A3 T.length c3), (6, .slice none 0 0), (7, .slice A out.length c), (8, .int .i64 (k : Int)), (9, .pointer (some ⟨g14, 0, none⟩)), (10, .int .i64 (i : Int)), (11, .pointer (some ⟨(g_ 7), 0, none⟩)), (20, .slice (some ⟨bk_, of_, none⟩) cs.length cap), (21, .int .i64 (cs.length : Int)), (22, .int .i64 (k : Int)), (23, .bool true), (24, .int .i64 (k : Int)), (25, .pointer (some ⟨bk_, of_ + k * 4, none⟩)), (26, .agg (tlc (tlK k)).toArray), (27, .slice (some ⟨bl_, og_, none⟩) cs.length c2), (28, .int .i64 (k : Int)), (29, .pointer (some ⟨bl_, og_ + k * 1, none⟩)), (30, .slice x_.A 64 x_.c), (31, .int .i64 64), (32, .int .i64 (i : Int)), (33, .bool true), (34, .int .i64 (i : Int)), (35, .agg (tlc (tlK k)).toArray), (36, .slice (some ⟨bl_, og_, none⟩) cs.length c2), (37, .int .i64 (k : Int)), (38, .pointer (some ⟨bl_, og_ + k * 1, none⟩)), (39, .slice x_.A 64 x_.c), (40, .int .i64 (i : Int)), (41, .agg (cho (posP k i) (cellF (lsOf cs) (posP k i))).toArray)])
   clear hF_
   have hm33 : Mem w w31 [.row (.slice A out.length c) 45 6 out.length (qdsC out), .arr g14 63 (tlc (tlK k)), .arr (g_ 7) 108 (cho (posP k i) (cellF (lsOf cs) (posP k i)))] := hm30
   clear hm30 hm21
   generalize g_ 7 = g34 at hm33 ⊢
   clear g_
   refine tn_ hK29 ?_
   refine sp_ fun _ hK35 => ?_
   refine lk_ (.slice A3 T.length c3) ?_
   refine lp_ g34 4 ?_
   refine lv_ rfl (.int .i64 (cellF (lsOf cs) (posP k i))) (ld_ 4 2 hm33) ?_
   refine plCall (i := 3) 29 [.slice A3 T.length c3, .int .i64 (cellF (lsOf cs) (posP k i))] [] [] rfl kr_ (wn rfl) rfl le_ (litArgs kr_) (solidM_any T (cellF (lsOf cs) (posP k i)) A3 c3 _ ((Rd.below htb hm33.bel).more hm33.bel.size)) ?_
   rintro e w36 ⟨rfl, hbz⟩
   have hm37 := hm33.below hbz
   clear hbz hm33
   refine ⟨_, rfl, ?_⟩
   refine qP rfl ?_
   refine lk_ (.bool ((matAt T (cellF (lsOf cs) (posP k i))).solid)) ?_
   refine pt_ hK35 ?_
   refine sp_ fun _ hK38 => ?_
   refine litVal (i := 0) (v := .agg (drsC drL).toArray) rfl (wn rfl) (gLoadAgRd (vs := drsC drL) (m := 0) (hsd.below hm37.bel) rfl (fun i_ u_ h_ => by simpa using h_) rfl (by decide) (.global 0) Ty.ag_6_faces_direction rfl le_) rfl (by decide) ?_
   refine li_ 0 ?_
   refine pt_ hK38 ?_
   refine wp_block ?_
   refine gwLoop (fun n_ a_ w_ => ∃ (j : Nat) (out : List Qd) (A : Option Addr) (c : Nat), n_ = 6 - j ∧ (j ≤ 6) ∧ (out = (List.range k).flatMap (quadK (solF (lsOf cs) T cs.length)) ++ (List.range i).flatMap (fun i => quadI (solF (lsOf cs) T cs.length) (posP k i)) ++ (drL.take j).flatMap (quadD (solF (lsOf cs) T cs.length) (posP k i))) ∧ (out.length ≤ 400 * k + 6 * i + j) ∧ Fr a_ 131 [(0, .slice (some ⟨bk_, of_, none⟩) cs.length cap), (1, .slice (some ⟨bl_, og_, none⟩) cs.length c2), (2, .slice A3 T.length c3), (6, .slice none 0 0), (7, .slice A out.length c), (8, .int .i64 (k : Int)), (9, .pointer (some ⟨g14, 0, none⟩)), (10, .int .i64 (i : Int)), (11, .pointer (some ⟨g34, 0, none⟩)), (12, .bool ((matAt T (cellF (lsOf cs) (posP k i))).solid)), (20, .slice (some ⟨bk_, of_, none⟩) cs.length cap), (21, .int .i64 (cs.length : Int)), (22, .int .i64 (k : Int)), (23, .bool true), (24, .int .i64 (k : Int)), (25, .pointer (some ⟨bk_, of_ + k * 4, none⟩)), (26, .agg (tlc (tlK k)).toArray), (27, .slice (some ⟨bl_, og_, none⟩) cs.length c2), (28, .int .i64 (k : Int)), (29, .pointer (some ⟨bl_, og_ + k * 1, none⟩)), (30, .slice x_.A 64 x_.c), (31, .int .i64 64), (32, .int .i64 (i : Int)), (33, .bool true), (34, .int .i64 (i : Int)), (35, .agg (tlc (tlK k)).toArray), (36, .slice (some ⟨bl_, og_, none⟩) cs.length c2), (37, .int .i64 (k : Int)), (38, .pointer (some ⟨bl_, og_ + k * 1, none⟩)), (39, .slice x_.A 64 x_.c), (40, .int .i64 (i : Int)), (41, .agg (cho (posP k i) (cellF (lsOf cs) (posP k i))).toArray), (42, .slice A3 T.length c3), (43, .pointer (some ⟨g34, 4, none⟩)), (44, .int .i64 (cellF (lsOf cs) (posP k i))), (45, .bool ((matAt T (cellF (lsOf cs) (posP k i))).solid)), (46, .agg (drsC drL).toArray), (47, .int .i64 (j : Int))] ∧ Mem w w_ [.row (.slice A out.length c) 45 6 out.length (qdsC out), .arr g14 63 (tlc (tlK k)), .arr g34 108 (cho (posP k i) (cellF (lsOf cs) (posP k i)))]) (6 - 0) ⟨0, out, A, c, rfl, (Nat.zero_le _), (by rw [hO]; simp), (by omega), ⟨litSize, rfl, fo_⟩, (hm37.sub (.cons_cons _ (.cons_cons _ (.cons_cons _ .slnil))))⟩ ?_
   clear hm37
   intro n_ a41 w39 hI_
   obtain ⟨j, out, A, c, rfl, hj, hO, hN, hF_, hm40⟩ := hI_
   obtain ⟨X42, rfl⟩ := frLit hF_
   clear hF_
   refine sp_ fun _ hK43 => ?_
   by_cases h44 : (j : Int) < 6
   ·obtain ⟨d, hd⟩ : ∃ d, drL[j]? = some d := ⟨_, List.getElem?_eq_getElem (show j < 6 by omega)⟩
    have hdb_ := drL_bd hd
    refine lv_ rfl _ (lsT_ h44) ?_
    refine pt_ hK43 ?_
    refine sk_ fun _ hK45 => ?_
    refine wp_cond_true le_ ?_
    refine wp_skip ?_
    refine tn_ hK45 ?_
    refine sk_ fun _ hK46 => ?_
    refine wp_block ?_
    refine sp_ fun _ hK47 => ?_
    refine litVal (i := 0) (v := .agg (drc d).toArray) rfl (wn rfl) (gIdxDr (K := (j : Int)) (.tmp 46) (.tmp 47) j d rfl le_ le_ rfl hd) rfl (by decide) ?_
    refine plAlloc (z := [.int .i64 0, .bool false, .int .i64 0, .int .i64 0, .int .i64 0]) Ty.ag_voxel_faces_direction hm40 (i := 1) rfl (wn rfl) rfl ?_
    intro g48 w50 hm49
    clear hm40
    try simp only [lc_] at hm49
    refine qP rfl ?_
    refine plStore 3 Ty.ag_voxel_faces_direction hm49 rfl (i := 2) (cs := drc d) rfl (wn rfl) rfl le_ le_ rfl rfl kr_ ?_
    intro w52 hm51
    clear hm49
    try simp only [lc_] at hm51
    refine qNone rfl ?_
    refine pt_ hK47 ?_
    refine sk_ fun _ hK53 => ?_
    refine aoStart (aoV [fun _ => .pointer (some ⟨g34, 0, none⟩), fun _ => .agg (pcs (posP k i)).toArray, fun _ => .pointer (some ⟨g34, 0, none⟩), fun _ => .agg (pcs (posP k i)).toArray, fun _ => .pointer (some ⟨g48, 2, none⟩), fun _ => .agg (pcs d.st).toArray, fun _ => .agg (pcs ((posP k i).add d.st)).toArray, fun γ_ => .pointer (some ⟨(γ_.getD 0 0), 0, none⟩), fun γ_ => .pointer (some ⟨(γ_.getD 0 0), 0, none⟩), fun _ => undef, fun _ => undef]) (aoA [[], [], [], [], [], [], [], [7], [8], [], []]) (fun b_ g_ => ((.row (.slice A out.length c) 45 6 out.length (qdsC out)) :: (.arr g14 63 (tlc (tlK k))) :: (.arr g34 108 (cho (posP k i) (cellF (lsOf cs) (posP k i)))) :: (.arr g48 111 (drc d)) :: (bsel (b_ 7) (.arr (g_ 7) 23 (bsel (b_ 9) [.int .i64 ((posP k i).x), .int .i64 ((posP k i).y), .int .i64 ((posP k i).z)] [.int .i64 0, .int .i64 0, .int .i64 0])) .free) :: (bsel (b_ 8) (.arr (g_ 8) 23 (bsel (b_ 10) [.int .i64 (((posP k i).add d.st).x), .int .i64 (((posP k i).add d.st).y), .int .i64 (((posP k i).add d.st).z)] [.int .i64 0, .int .i64 0, .int .i64 0])) .free) :: [])) hm51 kr_ kr_ (fun w_ h_ => h_.pushFree.pushFree) (fun b_ g_ h_ => by show (fun (x7_ x8_ x9_ x10_ : Bool) => (((.row (.slice A out.length c) 45 6 out.length (qdsC out)) :: (.arr g14 63 (tlc (tlK k))) :: (.arr g34 108 (cho (posP k i) (cellF (lsOf cs) (posP k i)))) :: (.arr g48 111 (drc d)) :: (bsel x7_ (.arr (g_ 7) 23 (bsel x9_ [.int .i64 ((posP k i).x), .int .i64 ((posP k i).y), .int .i64 ((posP k i).z)] [.int .i64 0, .int .i64 0, .int .i64 0])) .free) :: (bsel x8_ (.arr (g_ 8) 23 (bsel x10_ [.int .i64 (((posP k i).add d.st).x), .int .i64 (((posP k i).add d.st).y), .int .i64 (((posP k i).add d.st).z)] [.int .i64 0, .int .i64 0, .int .i64 0])) .free) :: []) : List Res)) (b_ 7) (b_ 8) (b_ 9) (b_ 10) = _; rw [h_ 7 (by decide), h_ 8 (by decide), h_ 9 (by decide), h_ 10 (by decide)]) ?_ ?_
    ·refine aoNext rfl aoK_ ?_
     refine aoNext rfl (aoV_ (fun b_ g_ X_ w_ h_b h_ => valTo (b := .agg (pcs (posP k i)).toArray) kr_ (la_ 0 2 h_ Ty.ag_voxel_api_Point))) ?_
     refine aoNext rfl aoK_ ?_
     refine aoNext rfl (aoV_ (fun b_ g_ X_ w_ h_b h_ => valTo (b := .agg (pcs (posP k i)).toArray) kr_ (la_ 0 2 h_ Ty.ag_voxel_api_Point))) ?_
     refine aoNext rfl aoK_ ?_
     refine aoNext rfl (aoV_ (fun b_ g_ X_ w_ h_b h_ => valTo (b := .agg (pcs d.st).toArray) kr_ (la_ 2 3 h_ Ty.ag_voxel_api_Point))) ?_
     refine aoNext rfl (aoC_ 27 (fun g_ => [.agg (pcs (posP k i)).toArray, .agg (pcs d.st).toArray]) [] [] (fun b_ g_ w_ h_b h_ => (add_any (posP k i) d.st (by omega) (by omega) (by omega) _).mono (fun _ _ h_r => ⟨h_r.1.trans kr_, h_r.2⟩))) ?_
     refine aoNext rfl (aoNewAg (z := [.int .i64 0, .int .i64 0, .int .i64 0]) 4 Ty.ag_voxel_api_Point rfl rfl (fun _ _ _ => ⟨_, rfl⟩) (fun b_ g_ γ_ h_b => Eq.trans kr_ (congrArg (fun x_ => List.set _ 4 (Res.arr γ_ 23 x_)) (bselF (α := List Value) (h_b.post 9 kr_) [.int .i64 ((posP k i).x), .int .i64 ((posP k i).y), .int .i64 ((posP k i).z)] [.int .i64 0, .int .i64 0, .int .i64 0]))) (fun _ => by kernel_rfl) kr_) ?_
     refine aoNext rfl (aoNewAg (z := [.int .i64 0, .int .i64 0, .int .i64 0]) 5 Ty.ag_voxel_api_Point rfl rfl (fun _ _ _ => ⟨_, rfl⟩) (fun b_ g_ γ_ h_b => Eq.trans kr_ (congrArg (fun x_ => List.set _ 5 (Res.arr γ_ 23 x_)) (bselF (α := List Value) (h_b.post 10 kr_) [.int .i64 (((posP k i).add d.st).x), .int .i64 (((posP k i).add d.st).y), .int .i64 (((posP k i).add d.st).z)] [.int .i64 0, .int .i64 0, .int .i64 0]))) (fun _ => by kernel_rfl) kr_) ?_
     refine aoNext rfl (aoStore (gb := fun g_ => (g_ 7)) (k := 0) (cur := fun g_ => [.int .i64 0, .int .i64 0, .int .i64 0]) (vs := fun g_ => pcs (posP k i)) 4 (fun g_ => [(15, .pointer (some ⟨(g_ 7), 0, none⟩)), (51, .agg (pcs (posP k i)).toArray)]) (fun g_ a_ h_k => ⟨(h_k.inn 7 _ _ kr_ rfl rfl).trans kr_, (h_k.inn 1 _ _ kr_ rfl rfl).trans kr_, trivial⟩) Ty.ag_voxel_api_Point (fun b_ g_ h_b => by show some (bsel (b_ 7) (Res.arr (g_ 7) 23 (bsel (b_ 9) [.int .i64 ((posP k i).x), .int .i64 ((posP k i).y), .int .i64 ((posP k i).z)] [.int .i64 0, .int .i64 0, .int .i64 0])) Res.free) = some (Res.arr (g_ 7) 23 ([.int .i64 0, .int .i64 0, .int .i64 0])); rw [bselT (h_b.pre 7 kr_), bselF h_b.no]) (fun g_ X_ => (wn rfl)) rfl (fun g_ X_ => litEv kr_) (fun g_ X_ => litEv kr_) (fun _ => by kernel_rfl) (fun _ => by kernel_rfl) (fun _ => by kernel_rfl) (fun b_ g_ h_b => Eq.trans (b := List.set (((.row (.slice A out.length c) 45 6 out.length (qdsC out)) :: (.arr g14 63 (tlc (tlK k))) :: (.arr g34 108 (cho (posP k i) (cellF (lsOf cs) (posP k i)))) :: (.arr g48 111 (drc d)) :: (bsel (b_ 7) (.arr (g_ 7) 23 (bsel (b_ 9) [.int .i64 ((posP k i).x), .int .i64 ((posP k i).y), .int .i64 ((posP k i).z)] [.int .i64 0, .int .i64 0, .int .i64 0])) .free) :: (bsel (b_ 8) (.arr (g_ 8) 23 (bsel (b_ 10) [.int .i64 (((posP k i).add d.st).x), .int .i64 (((posP k i).add d.st).y), .int .i64 (((posP k i).add d.st).z)] [.int .i64 0, .int .i64 0, .int .i64 0])) .free) :: [])) 4 (bsel (b_ 7) (Res.arr (g_ 7) 23 ([.int .i64 ((posP k i).x), .int .i64 ((posP k i).y), .int .i64 ((posP k i).z)])) Res.free)) kr_ (congrArg (fun x_ => List.set _ 4 x_) (bselT (h_b.pre 7 kr_) _ _))) rfl) ?_
     refine aoNext rfl (aoStore (gb := fun g_ => (g_ 8)) (k := 0) (cur := fun g_ => [.int .i64 0, .int .i64 0, .int .i64 0]) (vs := fun g_ => pcs ((posP k i).add d.st)) 5 (fun g_ => [(16, .pointer (some ⟨(g_ 8), 0, none⟩)), (56, .agg (pcs ((posP k i).add d.st)).toArray)]) (fun g_ a_ h_k => ⟨(h_k.inn 8 _ _ kr_ rfl rfl).trans kr_, (h_k.inn 6 _ _ kr_ rfl rfl).trans kr_, trivial⟩) Ty.ag_voxel_api_Point (fun b_ g_ h_b => by show some (bsel (b_ 8) (Res.arr (g_ 8) 23 (bsel (b_ 10) [.int .i64 (((posP k i).add d.st).x), .int .i64 (((posP k i).add d.st).y), .int .i64 (((posP k i).add d.st).z)] [.int .i64 0, .int .i64 0, .int .i64 0])) Res.free) = some (Res.arr (g_ 8) 23 ([.int .i64 0, .int .i64 0, .int .i64 0])); rw [bselT (h_b.pre 8 kr_), bselF h_b.no]) (fun g_ X_ => (wn rfl)) rfl (fun g_ X_ => litEv kr_) (fun g_ X_ => litEv kr_) (fun _ => by kernel_rfl) (fun _ => by kernel_rfl) (fun _ => by kernel_rfl) (fun b_ g_ h_b => Eq.trans (b := List.set (((.row (.slice A out.length c) 45 6 out.length (qdsC out)) :: (.arr g14 63 (tlc (tlK k))) :: (.arr g34 108 (cho (posP k i) (cellF (lsOf cs) (posP k i)))) :: (.arr g48 111 (drc d)) :: (bsel (b_ 7) (.arr (g_ 7) 23 (bsel (b_ 9) [.int .i64 ((posP k i).x), .int .i64 ((posP k i).y), .int .i64 ((posP k i).z)] [.int .i64 0, .int .i64 0, .int .i64 0])) .free) :: (bsel (b_ 8) (.arr (g_ 8) 23 (bsel (b_ 10) [.int .i64 (((posP k i).add d.st).x), .int .i64 (((posP k i).add d.st).y), .int .i64 (((posP k i).add d.st).z)] [.int .i64 0, .int .i64 0, .int .i64 0])) .free) :: [])) 5 (bsel (b_ 8) (Res.arr (g_ 8) 23 ([.int .i64 (((posP k i).add d.st).x), .int .i64 (((posP k i).add d.st).y), .int .i64 (((posP k i).add d.st).z)])) Res.free)) kr_ (congrArg (fun x_ => List.set _ 5 x_) (bselT (h_b.pre 8 kr_) _ _))) rfl) ?_
     exact aoDone (by decide)
    intro g_ a_ w55 hF_ hm54
    obtain ⟨X56, rfl⟩ := frLit (⟨hF_.size, hF_.defers, ⟨hF_.o_ 0, hF_.o_ 1, hF_.o_ 2, hF_.o_ 6, hF_.o_ 7, hF_.o_ 8, hF_.o_ 9, hF_.o_ 10, hF_.o_ 11, hF_.o_ 12, hF_.o_ 14, hF_.i_ 7, hF_.i_ 8, hF_.o_ 20, hF_.o_ 21, hF_.o_ 22, hF_.o_ 23, hF_.o_ 24, hF_.o_ 25, hF_.o_ 26, hF_.o_ 27, hF_.o_ 28, hF_.o_ 29, hF_.o_ 30, hF_.o_ 31, hF_.o_ 32, hF_.o_ 33, hF_.o_ 34, hF_.o_ 35, hF_.o_ 36, hF_.o_ 37, hF_.o_ 38, hF_.o_ 39, hF_.o_ 40, hF_.o_ 41, hF_.o_ 42, hF_.o_ 43, hF_.o_ 44, hF_.o_ 45, hF_.o_ 46, hF_.o_ 47, hF_.o_ 48, hF_.o_ 49, hF_.i_ 0, hF_.i_ 1, hF_.i_ 2, hF_.i_ 3, hF_.i_ 4, hF_.i_ 5, hF_.i_ 6, trivial⟩⟩ : Fr _ 131 [(0, .slice (some ⟨bk_, of_, none⟩) cs.length cap), (1, .slice (some ⟨bl_, og_, none⟩) cs.length c2), (2, .slice A3 T.length c3), (6, .slice none 0 0), (7, .slice A out.length c), (8, .int .i64 (k : Int)), (9, .pointer (some ⟨g14, 0, none⟩)), (10, .int .i64 (i : Int)), (11, .pointer (some ⟨g34, 0, none⟩)), (12, .bool ((matAt T (cellF (lsOf cs) (posP k i))).solid)), (14, .pointer (some ⟨g48, 0, none⟩)), (15, .pointer (some ⟨(g_ 7), 0, none⟩)), (16, .pointer (some ⟨(g_ 8), 0, none⟩)), (20, .slice (some ⟨bk_, of_, none⟩) cs.length cap), (21, .int .i64 (cs.length : Int)), (22, .int .i64 (k : Int)), (23, .bool true), (24, .int .i64 (k : Int)), (25, .pointer (some ⟨bk_, of_ + k * 4, none⟩)), (26, .agg (tlc (tlK k)).toArray), (27, .slice (some ⟨bl_, og_, none⟩) cs.length c2), (28, .int .i64 (k : Int)), (29, .pointer (some ⟨bl_, og_ + k * 1, none⟩)), (30, .slice x_.A 64 x_.c), (31, .int .i64 64), (32, .int .i64 (i : Int)), (33, .bool true), (34, .int .i64 (i : Int)), (35, .agg (tlc (tlK k)).toArray), (36, .slice (some ⟨bl_, og_, none⟩) cs.length c2), (37, .int .i64 (k : Int)), (38, .pointer (some ⟨bl_, og_ + k * 1, none⟩)), (39, .slice x_.A 64 x_.c), (40, .int .i64 (i : Int)), (41, .agg (cho (posP k i) (cellF (lsOf cs) (posP k i))).toArray), (42, .slice A3 T.length c3), (43, .pointer (some ⟨g34, 4, none⟩)), (44, .int .i64 (cellF (lsOf cs) (posP k i))), (45, .bool ((matAt T (cellF (lsOf cs) (posP k i))).solid)), (46, .agg (drsC drL).toArray), (47, .int .i64 (j : Int)), (48, .bool true), (49, .agg (drc d).toArray), (50, .pointer (some ⟨g34, 0, none⟩)), (51, .agg (pcs (posP k i)).toArray), (52, .pointer (some ⟨g34, 0, none⟩)), (53, .agg (pcs (posP k i)).toArray), (54, .pointer (some ⟨g48, 2, none⟩)), (55, .agg (pcs d.st).toArray), (56, .agg (pcs ((posP k i).add d.st)).toArray)])
    clear hF_
    have hm57 : Mem w w55 [.row (.slice A out.length c) 45 6 out.length (qdsC out), .arr g14 63 (tlc (tlK k)), .arr g34 108 (cho (posP k i) (cellF (lsOf cs) (posP k i))), .arr g48 111 (drc d), .arr (g_ 7) 23 (pcs (posP k i)), .arr (g_ 8) 23 (pcs ((posP k i).add d.st))] := hm54
    clear hm54 hm51
    generalize g_ 7 = g58 at hm57 ⊢
    generalize g_ 8 = g59 at hm57 ⊢
    clear g_
    refine tn_ hK53 ?_
    refine gwCut (fun a_ w_ => (True) ∧ Fr a_ 131 [(0, .slice (some ⟨bk_, of_, none⟩) cs.length cap), (1, .slice (some ⟨bl_, og_, none⟩) cs.length c2), (2, .slice A3 T.length c3), (6, .slice none 0 0), (7, .slice A out.length c), (8, .int .i64 (k : Int)), (9, .pointer (some ⟨g14, 0, none⟩)), (10, .int .i64 (i : Int)), (11, .pointer (some ⟨g34, 0, none⟩)), (12, .bool ((matAt T (cellF (lsOf cs) (posP k i))).solid)), (14, .pointer (some ⟨g48, 0, none⟩)), (15, .pointer (some ⟨g58, 0, none⟩)), (16, .pointer (some ⟨g59, 0, none⟩)), (20, .slice (some ⟨bk_, of_, none⟩) cs.length cap), (21, .int .i64 (cs.length : Int)), (22, .int .i64 (k : Int)), (23, .bool true), (24, .int .i64 (k : Int)), (25, .pointer (some ⟨bk_, of_ + k * 4, none⟩)), (26, .agg (tlc (tlK k)).toArray), (27, .slice (some ⟨bl_, og_, none⟩) cs.length c2), (28, .int .i64 (k : Int)), (29, .pointer (some ⟨bl_, og_ + k * 1, none⟩)), (30, .slice x_.A 64 x_.c), (31, .int .i64 64), (32, .int .i64 (i : Int)), (33, .bool true), (34, .int .i64 (i : Int)), (35, .agg (tlc (tlK k)).toArray), (36, .slice (some ⟨bl_, og_, none⟩) cs.length c2), (37, .int .i64 (k : Int)), (38, .pointer (some ⟨bl_, og_ + k * 1, none⟩)), (39, .slice x_.A 64 x_.c), (40, .int .i64 (i : Int)), (41, .agg (cho (posP k i) (cellF (lsOf cs) (posP k i))).toArray), (42, .slice A3 T.length c3), (43, .pointer (some ⟨g34, 4, none⟩)), (44, .int .i64 (cellF (lsOf cs) (posP k i))), (45, .bool ((matAt T (cellF (lsOf cs) (posP k i))).solid)), (46, .agg (drsC drL).toArray), (47, .int .i64 (j : Int)), (48, .bool true), (49, .agg (drc d).toArray), (50, .pointer (some ⟨g34, 0, none⟩)), (51, .agg (pcs (posP k i)).toArray), (52, .pointer (some ⟨g34, 0, none⟩)), (53, .agg (pcs (posP k i)).toArray), (54, .pointer (some ⟨g48, 2, none⟩)), (55, .agg (pcs d.st).toArray), (56, .agg (pcs ((posP k i).add d.st)).toArray)] ∧ Mem w w_ [.row (.slice A out.length c) 45 6 out.length (qdsC out), .arr g14 63 (tlc (tlK k)), .arr g34 108 (cho (posP k i) (cellF (lsOf cs) (posP k i))), .arr g48 111 (drc d), .arr g58 23 (pcs (crnP (posP k i) d)), .arr g59 23 (pcs ((posP k i).add d.st))]) ?_ ?_
    ·refine sp_ fun _ hK60 => ?_
     refine lp_ g48 1 ?_
     rcases bool_or (d.up) with h61 | h61
     ·refine lv_ rfl (.bool false) (boolTo h61 (gLoad (v := .bool d.up) (k := 1) 3 hm57 rfl kr_ (.tmp 57) kr_ rfl le_)) ?_
      refine pt_ hK60 ?_
      refine wp_cond_false le_ ?_
      refine wp_skip ?_
      refine then_normal ?_
      rw [show crnP (posP k i) d = posP k i by unfold crnP; rw [h61]; rfl]
      exact ⟨trivial, ⟨litSize, rfl, fo_⟩, hm57⟩
     refine lv_ rfl (.bool true) (boolTo h61 (gLoad (v := .bool d.up) (k := 1) 3 hm57 rfl kr_ (.tmp 57) kr_ rfl le_)) ?_
     refine pt_ hK60 ?_
     refine wp_cond_true le_ ?_
     refine sk_ fun _ hK62 => ?_
     refine aoStart (aoV [fun _ => .pointer (some ⟨g34, 0, none⟩), fun _ => .agg (pcs (posP k i)).toArray, fun _ => .pointer (some ⟨g48, 2, none⟩), fun _ => .agg (pcs d.st).toArray, fun _ => .pointer (some ⟨g34, 3, none⟩), fun _ => .int .i64 1, fun _ => .agg (pcs d.st).toArray, fun _ => .agg (pcs ((posP k i).add d.st)).toArray, fun _ => undef]) (aoA [[], [], [], [], [], [], [], [], []]) (fun b_ g_ => ((.row (.slice A out.length c) 45 6 out.length (qdsC out)) :: (.arr g14 63 (tlc (tlK k))) :: (.arr g34 108 (cho (posP k i) (cellF (lsOf cs) (posP k i)))) :: (.arr g48 111 (drc d)) :: (.arr g58 23 (bsel (b_ 8) [.int .i64 (((posP k i).add d.st).x), .int .i64 (((posP k i).add d.st).y), .int .i64 (((posP k i).add d.st).z)] (pcs (posP k i)))) :: (.arr g59 23 (pcs ((posP k i).add d.st))) :: [])) hm57 kr_ kr_ (fun w_ h_ => h_) (fun b_ g_ h_ => by show (fun (x8_ : Bool) => (((.row (.slice A out.length c) 45 6 out.length (qdsC out)) :: (.arr g14 63 (tlc (tlK k))) :: (.arr g34 108 (cho (posP k i) (cellF (lsOf cs) (posP k i)))) :: (.arr g48 111 (drc d)) :: (.arr g58 23 (bsel x8_ [.int .i64 (((posP k i).add d.st).x), .int .i64 (((posP k i).add d.st).y), .int .i64 (((posP k i).add d.st).z)] (pcs (posP k i)))) :: (.arr g59 23 (pcs ((posP k i).add d.st))) :: []) : List Res)) (b_ 8) = _; rw [h_ 8 (by decide)]) ?_ ?_
     ·refine aoNext rfl aoK_ ?_
      refine aoNext rfl (aoV_ (fun b_ g_ X_ w_ h_b h_ => valTo (b := .agg (pcs (posP k i)).toArray) kr_ ((fun (h_ : Mem _ w_ ((.row (.slice A out.length c) 45 6 out.length (qdsC out)) :: (.arr g14 63 (tlc (tlK k))) :: (.arr g34 108 (cho (posP k i) (cellF (lsOf cs) (posP k i)))) :: (.arr g48 111 (drc d)) :: (.arr g58 23 (pcs (posP k i))) :: (.arr g59 23 (pcs ((posP k i).add d.st))) :: [])) => gLoadAg (vs := pcs (posP k i)) (k := 0) 2 h_ rfl kr_ kr_ (.tmp 59) Ty.ag_voxel_api_Point rfl le_) (by have h2_ : Mem w w_ ((.row (.slice A out.length c) 45 6 out.length (qdsC out)) :: (.arr g14 63 (tlc (tlK k))) :: (.arr g34 108 (cho (posP k i) (cellF (lsOf cs) (posP k i)))) :: (.arr g48 111 (drc d)) :: (.arr g58 23 (bsel (b_ 8) [.int .i64 (((posP k i).add d.st).x), .int .i64 (((posP k i).add d.st).y), .int .i64 (((posP k i).add d.st).z)] (pcs (posP k i)))) :: (.arr g59 23 (pcs ((posP k i).add d.st))) :: []) := h_; rw [bselF (h_b.post 8 kr_)] at h2_; exact h2_)))) ?_
      refine aoNext rfl aoK_ ?_
      refine aoNext rfl (aoV_ (fun b_ g_ X_ w_ h_b h_ => valTo (b := .agg (pcs d.st).toArray) kr_ ((fun (h_ : Mem _ w_ ((.row (.slice A out.length c) 45 6 out.length (qdsC out)) :: (.arr g14 63 (tlc (tlK k))) :: (.arr g34 108 (cho (posP k i) (cellF (lsOf cs) (posP k i)))) :: (.arr g48 111 (drc d)) :: (.arr g58 23 (pcs (posP k i))) :: (.arr g59 23 (pcs ((posP k i).add d.st))) :: [])) => gLoadAg (vs := pcs d.st) (k := 2) 3 h_ rfl kr_ kr_ (.tmp 61) Ty.ag_voxel_api_Point rfl le_) (by have h2_ : Mem w w_ ((.row (.slice A out.length c) 45 6 out.length (qdsC out)) :: (.arr g14 63 (tlc (tlK k))) :: (.arr g34 108 (cho (posP k i) (cellF (lsOf cs) (posP k i)))) :: (.arr g48 111 (drc d)) :: (.arr g58 23 (bsel (b_ 8) [.int .i64 (((posP k i).add d.st).x), .int .i64 (((posP k i).add d.st).y), .int .i64 (((posP k i).add d.st).z)] (pcs (posP k i)))) :: (.arr g59 23 (pcs ((posP k i).add d.st))) :: []) := h_; rw [bselF (h_b.post 8 kr_)] at h2_; exact h2_)))) ?_
      refine aoNext rfl aoK_ ?_
      refine aoNext rfl (aoV_ (fun b_ g_ X_ w_ h_b h_ => valTo (b := .int .i64 1) kr_ ((fun (h_ : Mem _ w_ ((.row (.slice A out.length c) 45 6 out.length (qdsC out)) :: (.arr g14 63 (tlc (tlK k))) :: (.arr g34 108 (cho (posP k i) (cellF (lsOf cs) (posP k i)))) :: (.arr g48 111 (drc d)) :: (.arr g58 23 (pcs (posP k i))) :: (.arr g59 23 (pcs ((posP k i).add d.st))) :: [])) => gLoad (v := .int .i64 1) (k := 3) 2 h_ rfl kr_ (.tmp 63) kr_ rfl le_) (by have h2_ : Mem w w_ ((.row (.slice A out.length c) 45 6 out.length (qdsC out)) :: (.arr g14 63 (tlc (tlK k))) :: (.arr g34 108 (cho (posP k i) (cellF (lsOf cs) (posP k i)))) :: (.arr g48 111 (drc d)) :: (.arr g58 23 (bsel (b_ 8) [.int .i64 (((posP k i).add d.st).x), .int .i64 (((posP k i).add d.st).y), .int .i64 (((posP k i).add d.st).z)] (pcs (posP k i)))) :: (.arr g59 23 (pcs ((posP k i).add d.st))) :: []) := h_; rw [bselF (h_b.post 8 kr_)] at h2_; exact h2_)))) ?_
      refine aoNext rfl (aoC_ 52 (fun g_ => [.agg (pcs d.st).toArray, .int .i64 1]) [] [] (fun b_ g_ w_ h_b h_ => (scale1_any d.st ⟨hdb_.1, hdb_.2.1, hdb_.2.2.1⟩ _).mono (fun _ _ h_r => ⟨h_r.1.trans kr_, h_r.2⟩))) ?_
      refine aoNext rfl (aoC_ 27 (fun g_ => [.agg (pcs (posP k i)).toArray, .agg (pcs d.st).toArray]) [] [] (fun b_ g_ w_ h_b h_ => (add_any (posP k i) d.st (by omega) (by omega) (by omega) _).mono (fun _ _ h_r => ⟨h_r.1.trans kr_, h_r.2⟩))) ?_
      refine aoNext rfl (aoStore (gb := fun g_ => g58) (k := 0) (cur := fun g_ => pcs (posP k i)) (vs := fun g_ => pcs ((posP k i).add d.st)) 4 (fun g_ => [(15, .pointer (some ⟨g58, 0, none⟩)), (66, .agg (pcs ((posP k i).add d.st)).toArray)]) (fun g_ a_ h_k => ⟨(h_k.out 15 kr_).trans (lg_), (h_k.inn 7 _ _ kr_ rfl rfl).trans kr_, trivial⟩) Ty.ag_voxel_api_Point (fun b_ g_ h_b => by show some (Res.arr g58 23 (bsel (b_ 8) [.int .i64 (((posP k i).add d.st).x), .int .i64 (((posP k i).add d.st).y), .int .i64 (((posP k i).add d.st).z)] (pcs (posP k i)))) = some (Res.arr g58 23 (pcs (posP k i))); rw [bselF h_b.no]) (fun g_ X_ => (wn rfl)) rfl (fun g_ X_ => litEv kr_) (fun g_ X_ => litEv kr_) (fun _ => by kernel_rfl) (fun _ => by kernel_rfl) (fun _ => by kernel_rfl) (fun b_ g_ h_b => by kernel_rfl) rfl) ?_
      exact aoDone (by decide)
     intro g_ a_ w64 hF_ hm63
     obtain ⟨X65, rfl⟩ := frLit (⟨hF_.size, hF_.defers, ⟨hF_.o_ 0, hF_.o_ 1, hF_.o_ 2, hF_.o_ 6, hF_.o_ 7, hF_.o_ 8, hF_.o_ 9, hF_.o_ 10, hF_.o_ 11, hF_.o_ 12, hF_.o_ 14, hF_.o_ 15, hF_.o_ 16, hF_.o_ 20, hF_.o_ 21, hF_.o_ 22, hF_.o_ 23, hF_.o_ 24, hF_.o_ 25, hF_.o_ 26, hF_.o_ 27, hF_.o_ 28, hF_.o_ 29, hF_.o_ 30, hF_.o_ 31, hF_.o_ 32, hF_.o_ 33, hF_.o_ 34, hF_.o_ 35, hF_.o_ 36, hF_.o_ 37, hF_.o_ 38, hF_.o_ 39, hF_.o_ 40, hF_.o_ 41, hF_.o_ 42, hF_.o_ 43, hF_.o_ 44, hF_.o_ 45, hF_.o_ 46, hF_.o_ 47, hF_.o_ 48, hF_.o_ 49, hF_.o_ 50, hF_.o_ 51, hF_.o_ 52, hF_.o_ 53, hF_.o_ 54, hF_.o_ 55, hF_.o_ 56, hF_.o_ 57, hF_.o_ 58, hF_.i_ 0, hF_.i_ 1, hF_.i_ 2, hF_.i_ 3, hF_.i_ 4, hF_.i_ 5, hF_.i_ 6, hF_.i_ 7, trivial⟩⟩ : Fr _ 131 [(0, .slice (some ⟨bk_, of_, none⟩) cs.length cap), (1, .slice (some ⟨bl_, og_, none⟩) cs.length c2), (2, .slice A3 T.length c3), (6, .slice none 0 0), (7, .slice A out.length c), (8, .int .i64 (k : Int)), (9, .pointer (some ⟨g14, 0, none⟩)), (10, .int .i64 (i : Int)), (11, .pointer (some ⟨g34, 0, none⟩)), (12, .bool ((matAt T (cellF (lsOf cs) (posP k i))).solid)), (14, .pointer (some ⟨g48, 0, none⟩)), (15, .pointer (some ⟨g58, 0, none⟩)), (16, .pointer (some ⟨g59, 0, none⟩)), (20, .slice (some ⟨bk_, of_, none⟩) cs.length cap), (21, .int .i64 (cs.length : Int)), (22, .int .i64 (k : Int)), (23, .bool true), (24, .int .i64 (k : Int)), (25, .pointer (some ⟨bk_, of_ + k * 4, none⟩)), (26, .agg (tlc (tlK k)).toArray), (27, .slice (some ⟨bl_, og_, none⟩) cs.length c2), (28, .int .i64 (k : Int)), (29, .pointer (some ⟨bl_, og_ + k * 1, none⟩)), (30, .slice x_.A 64 x_.c), (31, .int .i64 64), (32, .int .i64 (i : Int)), (33, .bool true), (34, .int .i64 (i : Int)), (35, .agg (tlc (tlK k)).toArray), (36, .slice (some ⟨bl_, og_, none⟩) cs.length c2), (37, .int .i64 (k : Int)), (38, .pointer (some ⟨bl_, og_ + k * 1, none⟩)), (39, .slice x_.A 64 x_.c), (40, .int .i64 (i : Int)), (41, .agg (cho (posP k i) (cellF (lsOf cs) (posP k i))).toArray), (42, .slice A3 T.length c3), (43, .pointer (some ⟨g34, 4, none⟩)), (44, .int .i64 (cellF (lsOf cs) (posP k i))), (45, .bool ((matAt T (cellF (lsOf cs) (posP k i))).solid)), (46, .agg (drsC drL).toArray), (47, .int .i64 (j : Int)), (48, .bool true), (49, .agg (drc d).toArray), (50, .pointer (some ⟨g34, 0, none⟩)), (51, .agg (pcs (posP k i)).toArray), (52, .pointer (some ⟨g34, 0, none⟩)), (53, .agg (pcs (posP k i)).toArray), (54, .pointer (some ⟨g48, 2, none⟩)), (55, .agg (pcs d.st).toArray), (56, .agg (pcs ((posP k i).add d.st)).toArray), (57, .pointer (some ⟨g48, 1, none⟩)), (58, .bool true), (59, .pointer (some ⟨g34, 0, none⟩)), (60, .agg (pcs (posP k i)).toArray), (61, .pointer (some ⟨g48, 2, none⟩)), (62, .agg (pcs d.st).toArray), (63, .pointer (some ⟨g34, 3, none⟩)), (64, .int .i64 1), (65, .agg (pcs d.st).toArray), (66, .agg (pcs ((posP k i).add d.st)).toArray)])
     clear hF_
     have hm66 : Mem w w64 [.row (.slice A out.length c) 45 6 out.length (qdsC out), .arr g14 63 (tlc (tlK k)), .arr g34 108 (cho (posP k i) (cellF (lsOf cs) (posP k i))), .arr g48 111 (drc d), .arr g58 23 (pcs ((posP k i).add d.st)), .arr g59 23 (pcs ((posP k i).add d.st))] := hm63
     clear hm63 hm57
     refine tn_ hK62 ?_
     refine plStart ?_
     refine lv_ rfl (.agg (pcs ((posP k i).add d.st)).toArray) (la_ 0 4 hm66 Ty.ag_voxel_api_Point) ?_
     refine plStore 5 Ty.ag_voxel_api_Point hm66 rfl (i := 1) (cs := pcs ((posP k i).add d.st)) rfl (wn rfl) rfl le_ le_ rfl rfl kr_ ?_
     intro w68 hm67
     clear hm66
     try simp only [lc_] at hm67
     refine qNone rfl ?_
     refine plD ?_
     refine then_normal ?_
     rw [show crnP (posP k i) d = (posP k i).add d.st by unfold crnP; rw [h61]; rfl]
     exact ⟨trivial, ⟨litSize, rfl, fo_⟩, hm67⟩
    clear hm57
    intro a71 w69 hI_
    obtain ⟨ht_, hF_, hm70⟩ := hI_
    obtain ⟨X72, rfl⟩ := frLit hF_
    clear hF_
    refine sp_ fun _ hK73 => ?_
    refine lk_ (.slice (some ⟨bk_, of_, none⟩) cs.length cap) ?_
    refine lk_ (.slice (some ⟨bl_, og_, none⟩) cs.length c2) ?_
    refine lv_ rfl (.agg (pcs ((posP k i).add d.st)).toArray) (la_ 0 5 hm70 Ty.ag_voxel_api_Point) ?_
    by_cases h74 : inC (sideN cs.length) ((posP k i).add d.st)
    ·refine plCall (i := 3) 53 [.slice (some ⟨bk_, of_, none⟩) cs.length cap, .slice (some ⟨bl_, og_, none⟩) cs.length c2, .agg (pcs ((posP k i).add d.st)).toArray] [] [] rfl kr_ (wn rfl) rfl le_ (litArgs kr_) (fatIn_any cs hn ((posP k i).add d.st) _ cap _ c2 _ ((Rd.below hrd hm70.bel).more hm70.bel.size) (hcs.below hm70.bel) h74) ?_
     rintro e w75 ⟨rfl, hbz⟩
     have hm76 := hm70.below hbz
     clear hbz hm70
     refine ⟨_, rfl, ?_⟩
     refine qP rfl ?_
     refine lk_ (.tuple #[.agg (cho ((posP k i).add d.st) (cellF (lsOf cs) ((posP k i).add d.st))).toArray, .bool true]) ?_
     refine lk_ (.agg (cho ((posP k i).add d.st) (cellF (lsOf cs) ((posP k i).add d.st))).toArray) ?_
     refine lT_ ?_
     refine plAlloc (z := [.int .i64 0, .int .i64 0, .int .i64 0, .int .i64 0, .int .i64 0]) Ty.ag_voxel_api_Chosen hm76 (i := 7) rfl (wn rfl) rfl ?_
     intro g77 w79 hm78
     clear hm76
     try simp only [lc_] at hm78
     refine qP rfl ?_
     refine plStore 6 Ty.ag_voxel_api_Chosen hm78 rfl (i := 8) (cs := cho ((posP k i).add d.st) (cellF (lsOf cs) ((posP k i).add d.st))) rfl (wn rfl) rfl le_ le_ rfl rfl kr_ ?_
     intro w81 hm80
     clear hm78
     try simp only [lc_] at hm80
     refine qNone rfl ?_
     refine lT_ ?_
     refine pt_ hK73 ?_
     refine sp_ fun _ hK82 => ?_
     refine lT_ ?_
     refine lT_ ?_
     refine lw_ rfl (.slice A3 T.length c3) (litRun kr_) ?_
     refine lw_ rfl (.pointer (some ⟨g77, 4, none⟩)) (litRun kr_) ?_
     refine lw_ rfl (.int .i64 (cellF (lsOf cs) ((posP k i).add d.st))) (ld_ 4 6 hm80) ?_
     refine plCall (i := 5) 29 [.slice A3 T.length c3, .int .i64 (cellF (lsOf cs) ((posP k i).add d.st))] [] [] rfl kr_ (wgY rfl rfl rfl (by decide) kr_) rfl le_ (litArgs kr_) (solidM_any T (cellF (lsOf cs) ((posP k i).add d.st)) A3 c3 _ ((Rd.below htb hm80.bel).more hm80.bel.size)) ?_
     rintro e w83 ⟨rfl, hbz⟩
     have hm84 := hm80.below hbz
     clear hbz hm80
     refine ⟨_, rfl, ?_⟩
     refine qP rfl ?_
     rcases bool_or ((matAt T (cellF (lsOf cs) ((posP k i).add d.st))).solid) with h85 | h85
     ·rw [h85]
      refine lF_ ?_
      refine lF_ ?_
      refine pt_ hK82 ?_
      refine wp_block ?_
      refine sk_ fun _ hK86 => ?_
      refine sp_ fun _ hK87 => ?_
      refine lT_ ?_
      refine lT_ ?_
      refine lw_ rfl (.pointer (some ⟨g77, 3, none⟩)) (litRun kr_) ?_
      refine lw_ rfl (.int .i64 1) (ld_ 3 6 hm84) ?_
      refine lw_ rfl (.pointer (some ⟨g34, 3, none⟩)) (litRun kr_) ?_
      refine lw_ rfl (.int .i64 1) (ld_ 3 2 hm84) ?_
      refine lw_ rfl (.bool false) (litRun kr_) ?_
      refine lF_ ?_
      refine lF_ ?_
      refine pt_ hK87 ?_
      refine wp_cond_false le_ ?_
      refine plStart ?_
      rcases bool_or ((matAt T (cellF (lsOf cs) (posP k i))).solid) with h88 | h88
      ·refine lv_ rfl (.bool false) (boolTo h88 (litRun kr_)) ?_
       refine lF_ ?_
       refine lT_ ?_
       refine lT_ ?_
       refine pt_ hK86 ?_
       refine wp_cond_true le_ ?_
       refine wp_skip ?_
       refine inBlock_normal ?_
       refine inBlock_normal ?_
       refine tn_ hK46 ?_
       refine plStart ?_
       refine lv_ rfl _ (ad_ (j : Int) 1) ?_
       refine li_ ((j : Int) + 1) ?_
       refine plD ?_
       refine then_normal ?_
       exact ⟨_, by omega, (j + 1), out, A, c, rfl, (by omega), (by rw [drL_take hd, quadD_no (Or.inl (by rw [solF_in hpin_]; exact h88)), hO]; simp only [List.append_nil]), (by omega), ⟨litSize, rfl, fo_⟩, (hm84.sub (.cons_cons _ (.cons_cons _ (.cons_cons _ (.cons _ (.cons _ (.cons _ (.cons _ .slnil))))))))⟩
      refine lv_ rfl (.bool true) (boolTo h88 (litRun kr_)) ?_
      refine lF_ ?_
      refine lF_ ?_
      refine lF_ ?_
      refine pt_ hK86 ?_
      refine wp_cond_false le_ ?_
      refine sp_ fun _ hK89 => ?_
      refine lv_ rfl (.bool true) (boolTo h88 (litRun kr_)) ?_
      refine lT_ ?_
      refine pt_ hK89 ?_
      refine wp_cond_true le_ ?_
      refine plStart ?_
      refine lk_ (.slice A out.length c) ?_
      refine lv_ rfl (.agg (pcs (crnP (posP k i) d)).toArray) (la_ 0 4 hm84 Ty.ag_voxel_api_Point) ?_
      refine lp_ g48 0 ?_
      refine lv_ rfl (.int .i64 d.ax) (ld_ 0 3 hm84) ?_
      refine lp_ g48 1 ?_
      refine lv_ rfl (.bool d.up) (ld_ 1 3 hm84) ?_
      refine lp_ g34 3 ?_
      refine lv_ rfl (.int .i64 1) (ld_ 3 2 hm84) ?_
      refine lk_ (.agg (qdc ⟨(crnP (posP k i) d), d.ax, d.up, 1⟩).toArray) ?_
      refine plLit (cs := [.int .i64 ((crnP (posP k i) d).x), .int .i64 ((crnP (posP k i) d).y), .int .i64 ((crnP (posP k i) d).z), .int .i64 d.ax, .bool d.up, .int .i64 1]) (n := 1) Ty.sl_L_api_Quad hm84 (i := 9) rfl (wn rfl) rfl (by decide) (by decide) (by rw [lit_eval]; kernel_rfl) ?_
      intro g90 w92 hm91
      clear hm84
      try simp only [lc_] at hm91
      refine qP rfl ?_
      refine plApp1 (v := .slice A out.length c) (n := out.length) (xs := qdsC out) (ys := [.int .i64 ((crnP (posP k i) d).x), .int .i64 ((crnP (posP k i) d).y), .int .i64 ((crnP (posP k i) d).z), .int .i64 d.ax, .bool d.up, .int .i64 1]) 0 7 Ty.sl_L_api_Quad hm91 rfl rfl (i := 10) rfl (wn rfl) rfl le_ le_ kr_ kr_ (by omega) (by omega) ?_
      intro v97 w94 hm93
      clear hm91
      try simp only [lc_] at hm93
      replace hm93 := Mem.rowEq (v := v97) (e := 45) (size := 6) (n := out.length + 1) (n' := (out ++ [(⟨(crnP (posP k i) d), d.ax, d.up, 1⟩ : Qd)]).length) (xs := (qdsC out) ++ ([.int .i64 ((crnP (posP k i) d).x), .int .i64 ((crnP (posP k i) d).y), .int .i64 ((crnP (posP k i) d).z), .int .i64 d.ax, .bool d.up, .int .i64 1])) (xs' := qdsC (out ++ [(⟨(crnP (posP k i) d), d.ax, d.up, 1⟩ : Qd)])) 0 hm93 rfl (by simp) (by rw [qdsC_app]; rfl)
      try simp only [lc_] at hm93
      obtain ⟨A95, c96, rfl⟩ := Mem.rowSl (v := v97) (e := 45) (size := 6) (n := (out ++ [(⟨(crnP (posP k i) d), d.ax, d.up, 1⟩ : Qd)]).length) (xs := qdsC (out ++ [(⟨(crnP (posP k i) d), d.ax, d.up, 1⟩ : Qd)])) 0 hm93 rfl
      refine qP rfl ?_
      refine lk_ (.slice A95 ((out ++ [(⟨(crnP (posP k i) d), d.ax, d.up, 1⟩ : Qd)]).length) c96) ?_
      refine plD ?_
      refine inBlock_normal ?_
      refine inBlock_normal ?_
      refine tn_ hK46 ?_
      refine plStart ?_
      refine lv_ rfl _ (ad_ (j : Int) 1) ?_
      refine li_ ((j : Int) + 1) ?_
      refine plD ?_
      refine then_normal ?_
      exact ⟨_, by omega, (j + 1), (out ++ [(⟨(crnP (posP k i) d), d.ax, d.up, 1⟩ : Qd)]), A95, c96, rfl, (by omega), (by rw [drL_take hd, quadD_yes (by rw [solF_in hpin_]; exact h88) (by rw [solF_in h74]; exact h85), hO]; simp only [List.append_assoc]), (by simp only [List.length_append, List.length_cons, List.length_nil]; omega), ⟨litSize, rfl, fo_⟩, (hm93.sub (.cons_cons _ (.cons_cons _ (.cons_cons _ (.cons _ (.cons _ (.cons _ (.cons _ (.cons _ .slnil)))))))))⟩
     rw [h85]
     refine lT_ ?_
     refine lT_ ?_
     refine pt_ hK82 ?_
     refine wp_block ?_
     refine sk_ fun _ hK98 => ?_
     refine sp_ fun _ hK99 => ?_
     refine lT_ ?_
     refine lT_ ?_
     refine lw_ rfl (.pointer (some ⟨g77, 3, none⟩)) (litRun kr_) ?_
     refine lw_ rfl (.int .i64 1) (ld_ 3 6 hm84) ?_
     refine lw_ rfl (.pointer (some ⟨g34, 3, none⟩)) (litRun kr_) ?_
     refine lw_ rfl (.int .i64 1) (ld_ 3 2 hm84) ?_
     refine lw_ rfl (.bool false) (litRun kr_) ?_
     refine lF_ ?_
     refine lF_ ?_
     refine pt_ hK99 ?_
     refine wp_cond_false le_ ?_
     refine plStart ?_
     rcases bool_or ((matAt T (cellF (lsOf cs) (posP k i))).solid) with h100 | h100
     ·refine lv_ rfl (.bool false) (boolTo h100 (litRun kr_)) ?_
      refine lT_ ?_
      refine lF_ ?_
      refine lF_ ?_
      refine pt_ hK98 ?_
      refine wp_cond_false le_ ?_
      refine sp_ fun _ hK101 => ?_
      refine lv_ rfl (.bool false) (boolTo h100 (litRun kr_)) ?_
      refine lF_ ?_
      refine pt_ hK101 ?_
      refine wp_cond_false le_ ?_
      refine sp_ fun _ hK102 => ?_
      refine lp_ g77 3 ?_
      refine lv_ rfl (.int .i64 1) (ld_ 3 6 hm84) ?_
      refine lp_ g34 3 ?_
      refine lv_ rfl (.int .i64 1) (ld_ 3 2 hm84) ?_
      refine lF_ ?_
      refine lF_ ?_
      refine pt_ hK102 ?_
      refine wp_cond_false le_ ?_
      refine wp_skip ?_
      refine inBlock_normal ?_
      refine inBlock_normal ?_
      refine tn_ hK46 ?_
      refine plStart ?_
      refine lv_ rfl _ (ad_ (j : Int) 1) ?_
      refine li_ ((j : Int) + 1) ?_
      refine plD ?_
      refine then_normal ?_
      exact ⟨_, by omega, (j + 1), out, A, c, rfl, (by omega), (by rw [drL_take hd, quadD_no (Or.inl (by rw [solF_in hpin_]; exact h100)), hO]; simp only [List.append_nil]), (by omega), ⟨litSize, rfl, fo_⟩, (hm84.sub (.cons_cons _ (.cons_cons _ (.cons_cons _ (.cons _ (.cons _ (.cons _ (.cons _ .slnil))))))))⟩
     refine lv_ rfl (.bool true) (boolTo h100 (litRun kr_)) ?_
     refine lT_ ?_
     refine lT_ ?_
     refine lT_ ?_
     refine pt_ hK98 ?_
     refine wp_cond_true le_ ?_
     refine wp_skip ?_
     refine inBlock_normal ?_
     refine inBlock_normal ?_
     refine tn_ hK46 ?_
     refine plStart ?_
     refine lv_ rfl _ (ad_ (j : Int) 1) ?_
     refine li_ ((j : Int) + 1) ?_
     refine plD ?_
     refine then_normal ?_
     exact ⟨_, by omega, (j + 1), out, A, c, rfl, (by omega), (by rw [drL_take hd, quadD_no (Or.inr (by rw [solF_in h74]; exact h85)), hO]; simp only [List.append_nil]), (by omega), ⟨litSize, rfl, fo_⟩, (hm84.sub (.cons_cons _ (.cons_cons _ (.cons_cons _ (.cons _ (.cons _ (.cons _ (.cons _ .slnil))))))))⟩
    refine plCall (i := 3) 53 [.slice (some ⟨bk_, of_, none⟩) cs.length cap, .slice (some ⟨bl_, og_, none⟩) cs.length c2, .agg (pcs ((posP k i).add d.st)).toArray] [] [] rfl kr_ (wn rfl) rfl le_ (litArgs kr_) (fatOut_any cs hn ((posP k i).add d.st) _ cap _ c2 _ ((Rd.below hrd hm70.bel).more hm70.bel.size) (hcs.below hm70.bel) h74) ?_
    rintro e w103 ⟨rfl, hbz⟩
    have hm104 := hm70.below hbz
    clear hbz hm70
    refine ⟨_, rfl, ?_⟩
    refine qP rfl ?_
    refine lk_ (.tuple #[.agg ([.int .i64 0, .int .i64 0, .int .i64 0, .int .i64 0, .int .i64 0]).toArray, .bool false]) ?_
    refine lk_ (.agg ([.int .i64 0, .int .i64 0, .int .i64 0, .int .i64 0, .int .i64 0]).toArray) ?_
    refine lF_ ?_
    refine plAlloc (z := [.int .i64 0, .int .i64 0, .int .i64 0, .int .i64 0, .int .i64 0]) Ty.ag_voxel_api_Chosen hm104 (i := 7) rfl (wn rfl) rfl ?_
    intro g105 w107 hm106
    clear hm104
    try simp only [lc_] at hm106
    refine qP rfl ?_
    refine plStore 6 Ty.ag_voxel_api_Chosen hm106 rfl (i := 8) (cs := [.int .i64 0, .int .i64 0, .int .i64 0, .int .i64 0, .int .i64 0]) rfl (wn rfl) rfl le_ le_ rfl rfl kr_ ?_
    intro w109 hm108
    clear hm106
    try simp only [lc_] at hm108
    refine qNone rfl ?_
    refine lF_ ?_
    refine pt_ hK73 ?_
    refine sp_ fun _ hK110 => ?_
    refine lF_ ?_
    refine lF_ ?_
    refine ps_ (i := 2) ?_
    refine ps_ (i := 3) ?_
    refine ps_ (i := 4) ?_
    refine ps_ (i := 5) ?_
    refine lF_ ?_
    refine lF_ ?_
    refine pt_ hK110 ?_
    refine wp_block ?_
    refine sk_ fun _ hK111 => ?_
    refine sp_ fun _ hK112 => ?_
    refine lF_ ?_
    refine lF_ ?_
    refine ps_ (i := 2) ?_
    refine ps_ (i := 3) ?_
    refine ps_ (i := 4) ?_
    refine ps_ (i := 5) ?_
    refine ps_ (i := 6) ?_
    refine lF_ ?_
    refine lF_ ?_
    refine pt_ hK112 ?_
    refine wp_cond_false le_ ?_
    refine plStart ?_
    rcases bool_or ((matAt T (cellF (lsOf cs) (posP k i))).solid) with h113 | h113
    ·refine lv_ rfl (.bool false) (boolTo h113 (litRun kr_)) ?_
     refine lF_ ?_
     refine lT_ ?_
     refine lT_ ?_
     refine pt_ hK111 ?_
     refine wp_cond_true le_ ?_
     refine wp_skip ?_
     refine inBlock_normal ?_
     refine inBlock_normal ?_
     refine tn_ hK46 ?_
     refine plStart ?_
     refine lv_ rfl _ (ad_ (j : Int) 1) ?_
     refine li_ ((j : Int) + 1) ?_
     refine plD ?_
     refine then_normal ?_
     exact ⟨_, by omega, (j + 1), out, A, c, rfl, (by omega), (by rw [drL_take hd, quadD_no (Or.inl (by rw [solF_in hpin_]; exact h113)), hO]; simp only [List.append_nil]), (by omega), ⟨litSize, rfl, fo_⟩, (hm108.sub (.cons_cons _ (.cons_cons _ (.cons_cons _ (.cons _ (.cons _ (.cons _ (.cons _ .slnil))))))))⟩
    refine lv_ rfl (.bool true) (boolTo h113 (litRun kr_)) ?_
    refine lF_ ?_
    refine lF_ ?_
    refine lF_ ?_
    refine pt_ hK111 ?_
    refine wp_cond_false le_ ?_
    refine sp_ fun _ hK114 => ?_
    refine lv_ rfl (.bool true) (boolTo h113 (litRun kr_)) ?_
    refine lT_ ?_
    refine pt_ hK114 ?_
    refine wp_cond_true le_ ?_
    refine plStart ?_
    refine lk_ (.slice A out.length c) ?_
    refine lv_ rfl (.agg (pcs (crnP (posP k i) d)).toArray) (la_ 0 4 hm108 Ty.ag_voxel_api_Point) ?_
    refine lp_ g48 0 ?_
    refine lv_ rfl (.int .i64 d.ax) (ld_ 0 3 hm108) ?_
    refine lp_ g48 1 ?_
    refine lv_ rfl (.bool d.up) (ld_ 1 3 hm108) ?_
    refine lp_ g34 3 ?_
    refine lv_ rfl (.int .i64 1) (ld_ 3 2 hm108) ?_
    refine lk_ (.agg (qdc ⟨(crnP (posP k i) d), d.ax, d.up, 1⟩).toArray) ?_
    refine plLit (cs := [.int .i64 ((crnP (posP k i) d).x), .int .i64 ((crnP (posP k i) d).y), .int .i64 ((crnP (posP k i) d).z), .int .i64 d.ax, .bool d.up, .int .i64 1]) (n := 1) Ty.sl_L_api_Quad hm108 (i := 9) rfl (wn rfl) rfl (by decide) (by decide) (by rw [lit_eval]; kernel_rfl) ?_
    intro g115 w117 hm116
    clear hm108
    try simp only [lc_] at hm116
    refine qP rfl ?_
    refine plApp1 (v := .slice A out.length c) (n := out.length) (xs := qdsC out) (ys := [.int .i64 ((crnP (posP k i) d).x), .int .i64 ((crnP (posP k i) d).y), .int .i64 ((crnP (posP k i) d).z), .int .i64 d.ax, .bool d.up, .int .i64 1]) 0 7 Ty.sl_L_api_Quad hm116 rfl rfl (i := 10) rfl (wn rfl) rfl le_ le_ kr_ kr_ (by omega) (by omega) ?_
    intro v122 w119 hm118
    clear hm116
    try simp only [lc_] at hm118
    replace hm118 := Mem.rowEq (v := v122) (e := 45) (size := 6) (n := out.length + 1) (n' := (out ++ [(⟨(crnP (posP k i) d), d.ax, d.up, 1⟩ : Qd)]).length) (xs := (qdsC out) ++ ([.int .i64 ((crnP (posP k i) d).x), .int .i64 ((crnP (posP k i) d).y), .int .i64 ((crnP (posP k i) d).z), .int .i64 d.ax, .bool d.up, .int .i64 1])) (xs' := qdsC (out ++ [(⟨(crnP (posP k i) d), d.ax, d.up, 1⟩ : Qd)])) 0 hm118 rfl (by simp) (by rw [qdsC_app]; rfl)
    try simp only [lc_] at hm118
    obtain ⟨A120, c121, rfl⟩ := Mem.rowSl (v := v122) (e := 45) (size := 6) (n := (out ++ [(⟨(crnP (posP k i) d), d.ax, d.up, 1⟩ : Qd)]).length) (xs := qdsC (out ++ [(⟨(crnP (posP k i) d), d.ax, d.up, 1⟩ : Qd)])) 0 hm118 rfl
    refine qP rfl ?_
    refine lk_ (.slice A120 ((out ++ [(⟨(crnP (posP k i) d), d.ax, d.up, 1⟩ : Qd)]).length) c121) ?_
    refine plD ?_
    refine inBlock_normal ?_
    refine inBlock_normal ?_
    refine tn_ hK46 ?_
    refine plStart ?_
    refine lv_ rfl _ (ad_ (j : Int) 1) ?_
    refine li_ ((j : Int) + 1) ?_
    refine plD ?_
    refine then_normal ?_
    exact ⟨_, by omega, (j + 1), (out ++ [(⟨(crnP (posP k i) d), d.ax, d.up, 1⟩ : Qd)]), A120, c121, rfl, (by omega), (by rw [drL_take hd, quadD_yes (by rw [solF_in hpin_]; exact h113) (solF_out h74), hO]; simp only [List.append_assoc]), (by simp only [List.length_append, List.length_cons, List.length_nil]; omega), ⟨litSize, rfl, fo_⟩, (hm118.sub (.cons_cons _ (.cons_cons _ (.cons_cons _ (.cons _ (.cons _ (.cons _ (.cons _ (.cons _ .slnil)))))))))⟩
   have hj6 : j = 6 := by omega
   have hO2 : out = (List.range k).flatMap (quadK (solF (lsOf cs) T cs.length)) ++ (List.range (i + 1)).flatMap (fun i => quadI (solF (lsOf cs) T cs.length) (posP k i)) := by rw [hO, hj6, flat_succ (fun i => quadI (solF (lsOf cs) T cs.length) (posP k i)) i, List.append_assoc]; rfl
   refine lv_ rfl _ (lsF_ h44) ?_
   refine pt_ hK43 ?_
   refine sk_ fun _ hK123 => ?_
   refine wp_cond_false le_ ?_
   refine wp_exit ?_
   refine then_exit ?_
   refine then_exit ?_
   refine inBlock_exit ?_
   refine inBlock_normal ?_
   refine tn_ hK27 ?_
   refine plStart ?_
   refine lv_ rfl _ (ad_ (i : Int) 1) ?_
   refine li_ ((i : Int) + 1) ?_
   refine plD ?_
   refine then_normal ?_
   exact ⟨_, by omega, (i + 1), out, A, c, rfl, (by omega), hO2, (by omega), ⟨litSize, rfl, fo_⟩, (hm40.sub (.cons_cons _ (.cons_cons _ (.cons _ .slnil))))⟩
  have hi6 : i = 64 := by omega
  replace hO : out = (List.range (k + 1)).flatMap (quadK (solF (lsOf cs) T cs.length)) := by rw [hO, hi6, flat_succ (quadK (solF (lsOf cs) T cs.length)) k]; rfl
  refine lv_ rfl _ (lsF_ h25) ?_
  refine pt_ hK24 ?_
  refine sk_ fun _ hK124 => ?_
  refine wp_cond_false le_ ?_
  refine wp_exit ?_
  refine then_exit ?_
  refine then_exit ?_
  refine inBlock_exit ?_
  refine inBlock_normal ?_
  refine tn_ hK12 ?_
  refine plStart ?_
  refine lv_ rfl _ (ad_ (k : Int) 1) ?_
  refine li_ ((k : Int) + 1) ?_
  refine plD ?_
  refine then_normal ?_
  exact ⟨_, by omega, (k + 1), out, A, c, rfl, (by omega), hO, (by omega), ⟨litSize, rfl, fo_⟩, (hm21.sub (.cons_cons _ (.cons _ .slnil)))⟩
 have hke_ : k = cs.length := by omega
 refine lv_ rfl _ (lsF_ h10) ?_
 refine pt_ hK9 ?_
 refine sk_ fun _ hK125 => ?_
 refine wp_cond_false le_ ?_
 refine wp_exit ?_
 refine then_exit ?_
 refine then_exit ?_
 refine inBlock_exit ?_
 refine tn_ hK3 ?_
 refine sp_ fun _ hK126 => ?_
 have hO' : out = quadsU (solF (lsOf cs) T cs.length) cs.length := by rw [hO, hke_]; rfl
 refine lk_ (.slice A out.length c) ?_
 refine plCall (i := 1) 54 [.slice A out.length c, .func (.func 55) #[] #[]] [] [] rfl kr_ (wn rfl) rfl le_ (litArgs kr_) (sortq_any out (by omega) (.slice A out.length c) w.heap.size _ (hm6.row 0 rfl)) ?_
 rintro e w127 ⟨rfl, d', hperm, hsrt, hown_, hgr_⟩
 have hm128 := hm6.app 0 rfl hown_ hgr_ (Or.inl rfl)
 clear hown_ hgr_
 try simp only [lc_] at hm128
 refine ⟨_, rfl, ?_⟩
 refine qP rfl ?_
 refine pt_ hK126 ?_
 refine sp_ fun _ hK129 => ?_
 refine lk_ (.slice A out.length c) ?_
 refine lk_ (.slice A out.length c) ?_
 refine pt_ hK129 ?_
 refine wp_ret ?_
 refine br_ 6 (.slice A out.length c) ?_
 have hl_ := hperm.length_eq
 exact ⟨_, d', rfl, by rw [← hO']; exact hperm, hsrt, by rw [hl_]; exact hm128.row 0 rfl, hm128.bel⟩
end Go.Proofs.YtbpihalphhoiaaaGreatDoor
namespace Go.Proofs.YtbpihalphhoiaaaGreatDoor
def stepP (p : Pt) (ax n : Int) : Pt := if ax = 0 then ⟨p.x + n, p.y, p.z⟩ else if ax = 1 then ⟨p.x, p.y + n, p.z⟩ else ⟨p.x, p.y, p.z + n⟩
def Pt.w (p : Pt) (B : Int) : Prop := (-B ≤ p.x ∧ p.x ≤ B) ∧ (-B ≤ p.y ∧ p.y ≤ B) ∧ (-B ≤ p.z ∧ p.z ≤ B)
theorem stepP_w {p : Pt} {B : Int} (h : p.w B) (ax : Int) {n : Int} (hn : -1 ≤ n ∧ n ≤ 1) : (stepP p ax n).w (B + 1) := by
 unfold Pt.w stepP at *
 split <;> (try split) <;> (simp only; omega)
def lesP (a b : Int) : Int := if a = 0 ∨ b = 0 then a + b else min a b
def sizeP (n : Nat) (p : Pt) : Int := if inC (sideN n) p then 1 else 0
def axB (ax : Int) : Int := (ax + 1) % 3
def axC (ax : Int) : Int := (ax + 2) % 3
def cellS (p : Pt) (ax k : Int) : Pt := stepP (stepP p (axB ax) (k % 2 - 1)) (axC ax) (k / 2 - 1)
def cutP (n : Nat) (p : Pt) (ax : Int) : Int := lesP (lesP (lesP (lesP 0 (sizeP n (cellS p ax 0))) (sizeP n (cellS p ax 1))) (sizeP n (cellS p ax 2))) (sizeP n (cellS p ax 3))
theorem lesP_01 {a b : Int} (ha : a = 0 ∨ a = 1) (hb : b = 0 ∨ b = 1) : lesP a b = 0 ∨ lesP a b = 1 := by
 rcases ha with rfl | rfl <;> rcases hb with rfl | rfl <;> decide
theorem sizeP_01 (n : Nat) (p : Pt) : sizeP n p = 0 ∨ sizeP n p = 1 := by unfold sizeP; split <;> simp
theorem cutP_01 (n : Nat) (p : Pt) (ax : Int) : cutP n p ax = 0 ∨ cutP n p ax = 1 :=
 lesP_01 (lesP_01 (lesP_01 (lesP_01 (Or.inl rfl) (sizeP_01 _ _)) (sizeP_01 _ _)) (sizeP_01 _ _)) (sizeP_01 _ _)
structure Sg where
 p : Pt
 ax : Int
deriving DecidableEq
def bdB (q : Qd) : Int := if q.up then axB q.ax else axC q.ax
def bdC (q : Qd) : Int := if q.up then axC q.ax else axB q.ax
def bdP (q : Qd) : Nat → Pt
 | 0 => q.p
 | 1 => stepP q.p (bdB q) 1
 | 2 => stepP (stepP q.p (bdB q) 1) (bdC q) 1
 | _ => stepP (stepP (stepP q.p (bdB q) 1) (bdC q) 1) (bdB q) (-1)
def brd (q : Qd) : List (Pt × Sg) := [(bdP q 0, ⟨stepP (bdP q 0) (bdB q) 0, bdB q⟩), (bdP q 1, ⟨stepP (bdP q 1) (bdC q) 0, bdC q⟩), (bdP q 2, ⟨stepP (bdP q 2) (bdB q) (-1), bdB q⟩), (bdP q 3, ⟨stepP (bdP q 3) (bdC q) (-1), bdC q⟩)]
def loopP (n : Nat) (q : Qd) : List Pt := ((brd q).filter fun x => decide (0 < cutP n x.2.p x.2.ax)).map (·.1)
def loopI (n : Nat) (q : Qd) (i : Nat) : List Pt := (((brd q).take i).filter fun x => decide (0 < cutP n x.2.p x.2.ax)).map (·.1)
theorem loopI_yes {n : Nat} {q : Qd} {i : Nat} {x : Pt × Sg} (hx : (brd q)[i]? = some x) (h : 0 < cutP n x.2.p x.2.ax) : loopI n q (i + 1) = loopI n q i ++ [x.1] := by
 unfold loopI
 rw [List.take_add_one, hx, List.filter_append, List.map_append]
 simp [h]
theorem loopI_no {n : Nat} {q : Qd} {i : Nat} {x : Pt × Sg} (hx : (brd q)[i]? = some x) (h : ¬ 0 < cutP n x.2.p x.2.ax) : loopI n q (i + 1) = loopI n q i := by
 unfold loopI
 rw [List.take_add_one, hx, List.filter_append, List.map_append]
 simp [h]
theorem loopI_len (n : Nat) (q : Qd) (i : Nat) : (loopI n q i).length ≤ 4 := by
 unfold loopI
 rw [List.length_map]
 refine Nat.le_trans (List.length_filter_le _ _) ?_
 rw [List.length_take]
 exact Nat.min_le_right _ _
def Qd.Ok (q : Qd) : Prop := q.p.w 1000 ∧ (q.ax = 0 ∨ q.ax = 1 ∨ q.ax = 2) ∧ q.sz = 1
def coP (p : Pt) (ax : Int) : Int := if ax = 0 then p.x else if ax = 1 then p.y else p.z
theorem ax_bd {ax : Int} (h : ax = 0 ∨ ax = 1 ∨ ax = 2) : (axB ax = 0 ∨ axB ax = 1 ∨ axB ax = 2) ∧ (axC ax = 0 ∨ axC ax = 1 ∨ axC ax = 2) := by
 rcases h with rfl | rfl | rfl <;> decide
theorem bd_ax {q : Qd} (h : q.Ok) : (bdB q = 0 ∨ bdB q = 1 ∨ bdB q = 2) ∧ (bdC q = 0 ∨ bdC q = 1 ∨ bdC q = 2) := by
 have := ax_bd h.2.1
 unfold bdB bdC
 split <;> simp only [this, and_self]
theorem bdP_w {q : Qd} (h : q.Ok) (k : Nat) : (bdP q k).w 1003 := by
 have h0 := h.1
 have h1 := stepP_w h0 (bdB q) (n := 1) (by omega)
 have h2 := stepP_w h1 (bdC q) (n := 1) (by omega)
 have h3 := stepP_w h2 (bdB q) (n := -1) (by omega)
 unfold Pt.w at *
 match k with
 | 0 => simp only [bdP]; omega
 | 1 => simp only [bdP]; omega
 | 2 => simp only [bdP]; omega
 | k + 3 => simp only [bdP]; omega
theorem brd_w {q : Qd} (h : q.Ok) {i : Nat} {x : Pt × Sg} (hx : (brd q)[i]? = some x) : x.1.w 1003 ∧ x.2.p.w 1004 ∧ (x.2.ax = 0 ∨ x.2.ax = 1 ∨ x.2.ax = 2) := by
 have hm := List.mem_of_getElem? hx
 have ha := bd_ax h
 have hs := fun k ax n (hn : -1 ≤ n ∧ n ≤ 1) => stepP_w (bdP_w h k) ax hn
 unfold brd at hm
 simp only [List.mem_cons, List.not_mem_nil, or_false] at hm
 rcases hm with rfl | rfl | rfl | rfl
 ·exact ⟨bdP_w h 0, hs 0 _ _ (by omega), ha.1⟩
 ·exact ⟨bdP_w h 1, hs 1 _ _ (by omega), ha.2⟩
 ·exact ⟨bdP_w h 2, hs 2 _ _ (by omega), ha.1⟩
 ·exact ⟨bdP_w h 3, hs 3 _ _ (by omega), ha.2⟩
end Go.Proofs.YtbpihalphhoiaaaGreatDoor
namespace Go.Proofs.YtbpihalphhoiaaaGreatDoor
open Go.RowKit
theorem turn_any (a : Int) (ha : a = 0 ∨ a = 1 ∨ a = 2) (w : World) : Calls Tryz.prog 103 #[.int .i64 a] w (RetV w (.tuple #[.int .i64 (axB a), .int .i64 (axC a)])) := by
 have hm0 := Mem.nil w
 go_enter Tryz.func103, Tryz.ntmps103
 refine litStart 10 [(0, .int .i64 a)] kr_ (fun X0 => ?_)
 refine sp_ fun _ hK1 => ?_
 refine li_ 0 ?_
 refine li_ 0 ?_
 refine pt_ hK1 ?_
 refine sp_ fun _ hK2 => ?_
 refine li_ a ?_
 refine lv_ rfl _ (ad_ a 1) ?_
 refine lv_ rfl (.int .i64 (axB a)) (gRem (A := (a + 1)) (B := 3) (C := axB a) (.tmp 5) (.const (.int .i64 3)) rfl le_ le_ rfl (by omega) (by omega)) ?_
 refine li_ a ?_
 refine lv_ rfl _ (ad_ a 2) ?_
 refine lv_ rfl (.int .i64 (axC a)) (gRem (A := (a + 2)) (B := 3) (C := axC a) (.tmp 8) (.const (.int .i64 3)) rfl le_ le_ rfl (by omega) (by omega)) ?_
 refine li_ (axB a) ?_
 refine li_ (axC a) ?_
 refine pt_ hK2 ?_
 refine wp_ret ?_
 refine bodyPost_ret (v := .tuple #[.int .i64 (axB a), .int .i64 (axC a)]) (gRes2 rfl (gResTmp (t := 2) (v := .int .i64 (axB a)) (lg_)) (gResTmp (t := 3) (v := .int .i64 (axC a)) (lg_))) rfl ?_
 exact ⟨by rfl, hm0.bel⟩
theorem of_any (p : Pt) (w : World) : Calls Tryz.prog 80 #[.agg (pcs p).toArray] w (RetV w (.agg (pcs p).toArray)) := by
 have hm0 := Mem.nil w
 go_enter Tryz.func80, Tryz.ntmps80
 refine litStart 10 [(0, .agg (pcs p).toArray)] kr_ (fun X0 => ?_)
 refine sp_ fun _ hK1 => ?_
 refine plBox hm0 (cs := pcs p) (i := 0) rfl (wn rfl) rfl le_ ?_
 intro g2 w4 hm3
 clear hm0
 try simp only [lc_] at hm3
 refine qP rfl ?_
 refine plAlloc (z := [.int .i64 0, .int .i64 0, .int .i64 0]) Ty.ag_voxel_seam_vector hm3 (i := 1) rfl (wn rfl) rfl ?_
 intro g5 w7 hm6
 clear hm3
 try simp only [lc_] at hm6
 refine qP rfl ?_
 refine pt_ hK1 ?_
 refine sp_ fun _ hK8 => ?_
 refine lp_ g2 0 ?_
 refine lv_ rfl (.int .i64 p.x) (ld_ 0 0 hm6) ?_
 refine lp_ g2 1 ?_
 refine lv_ rfl (.int .i64 p.y) (ld_ 1 0 hm6) ?_
 refine lp_ g2 2 ?_
 refine lv_ rfl (.int .i64 p.z) (ld_ 2 0 hm6) ?_
 refine lk_ (.agg (pcs p).toArray) ?_
 refine plStore 1 Ty.ag_voxel_seam_vector hm6 rfl (i := 7) (cs := pcs p) rfl (wn rfl) rfl le_ le_ rfl rfl kr_ ?_
 intro w10 hm9
 clear hm6
 try simp only [lc_] at hm9
 refine qNone rfl ?_
 refine pt_ hK8 ?_
 refine wp_ret ?_
 refine bodyPost_ret (v := .agg (pcs p).toArray) (gRes1 rfl (gResAg (cs := pcs p) 1 hm9 rfl Ty.ag_voxel_seam_vector rfl (lg_))) rfl ?_
 exact ⟨by rfl, hm9.bel⟩
theorem vpt_any (p : Pt) (w : World) : Calls Tryz.prog 127 #[.agg (pcs p).toArray] w (RetV w (.agg (pcs p).toArray)) := by
 have hm0 := Mem.nil w
 go_enter Tryz.func127, Tryz.ntmps127
 refine litStart 10 [(0, .agg (pcs p).toArray)] kr_ (fun X0 => ?_)
 refine sp_ fun _ hK1 => ?_
 refine plBox hm0 (cs := pcs p) (i := 0) rfl (wn rfl) rfl le_ ?_
 intro g2 w4 hm3
 clear hm0
 try simp only [lc_] at hm3
 refine qP rfl ?_
 refine plAlloc (z := [.int .i64 0, .int .i64 0, .int .i64 0]) Ty.ag_voxel_api_Point hm3 (i := 1) rfl (wn rfl) rfl ?_
 intro g5 w7 hm6
 clear hm3
 try simp only [lc_] at hm6
 refine qP rfl ?_
 refine pt_ hK1 ?_
 refine sp_ fun _ hK8 => ?_
 refine lv_ rfl (.pointer (some ⟨g2, 0, none⟩)) (iaRun (b := g2) (off := 0) (s := 1) (n := 3) (kk := .i64) (.tmp 1) (.const (.int .i64 0)) 0 Ty.und_voxel_seam_vector kr_ rfl le_ le_ rfl (by decide)) ?_
 refine lv_ rfl (.int .i64 p.x) (ld_ 0 0 hm6) ?_
 refine lv_ rfl (.pointer (some ⟨g2, 1, none⟩)) (iaRun (b := g2) (off := 0) (s := 1) (n := 3) (kk := .i64) (.tmp 1) (.const (.int .i64 1)) 1 Ty.und_voxel_seam_vector kr_ rfl le_ le_ rfl (by decide)) ?_
 refine lv_ rfl (.int .i64 p.y) (ld_ 1 0 hm6) ?_
 refine lv_ rfl (.pointer (some ⟨g2, 2, none⟩)) (iaRun (b := g2) (off := 0) (s := 1) (n := 3) (kk := .i64) (.tmp 1) (.const (.int .i64 2)) 2 Ty.und_voxel_seam_vector kr_ rfl le_ le_ rfl (by decide)) ?_
 refine lv_ rfl (.int .i64 p.z) (ld_ 2 0 hm6) ?_
 refine lk_ (.agg (pcs p).toArray) ?_
 refine plStore 1 Ty.ag_voxel_api_Point hm6 rfl (i := 7) (cs := pcs p) rfl (wn rfl) rfl le_ le_ rfl rfl kr_ ?_
 intro w10 hm9
 clear hm6
 try simp only [lc_] at hm9
 refine qNone rfl ?_
 refine pt_ hK8 ?_
 refine wp_ret ?_
 refine bodyPost_ret (v := .agg (pcs p).toArray) (gRes1 rfl (gResAg (cs := pcs p) 1 hm9 rfl Ty.ag_voxel_api_Point rfl (lg_))) rfl ?_
 exact ⟨by rfl, hm9.bel⟩
theorem step0_any (p : Pt) (n : Int) (hp : ((-1000000 ≤ p.x ∧ p.x ≤ 1000000) ∧ (-1000000 ≤ p.y ∧ p.y ≤ 1000000) ∧ (-1000000 ≤ p.z ∧ p.z ≤ 1000000))) (hn : -1000000 ≤ n ∧ n ≤ 1000000) (w : World) : Calls Tryz.prog 104 #[.agg (pcs p).toArray, .int .i64 0, .int .i64 n] w (RetV w (.agg (pcs ⟨p.x + n, p.y, p.z⟩).toArray)) := by
 have hm0 := Mem.nil w
 go_enter Tryz.func104, Tryz.ntmps104
 refine litStart 18 [(0, .agg (pcs p).toArray), (1, .int .i64 0), (2, .int .i64 n)] kr_ (fun X0 => ?_)
 refine sp_ fun _ hK1 => ?_
 refine plBox hm0 (cs := pcs p) (i := 0) rfl (wn rfl) rfl le_ ?_
 intro g2 w4 hm3
 clear hm0
 try simp only [lc_] at hm3
 refine qP rfl ?_
 refine plAlloc (z := [.int .i64 0, .int .i64 0, .int .i64 0]) Ty.ag_voxel_api_Point hm3 (i := 1) rfl (wn rfl) rfl ?_
 intro g5 w7 hm6
 clear hm3
 try simp only [lc_] at hm6
 refine qP rfl ?_
 refine pt_ hK1 ?_
 refine sp_ fun _ hK8 => ?_
 refine lv_ rfl (.agg (pcs p).toArray) (la_ 0 0 hm6 Ty.ag_voxel_api_Point) ?_
 refine plCall (i := 1) 80 [.agg (pcs p).toArray] [] [] rfl kr_ (wn rfl) rfl le_ (litArgs kr_) (of_any p _) ?_
 rintro e w9 ⟨rfl, hbz⟩
 have hm10 := hm6.below hbz
 clear hbz hm6
 refine ⟨_, rfl, ?_⟩
 refine qP rfl ?_
 refine plAlloc (z := [.int .i64 0, .int .i64 0, .int .i64 0]) Ty.ag_voxel_seam_vector hm10 (i := 2) rfl (wn rfl) rfl ?_
 intro g11 w13 hm12
 clear hm10
 try simp only [lc_] at hm12
 refine qP rfl ?_
 refine plStore 2 Ty.ag_voxel_seam_vector hm12 rfl (i := 3) (cs := pcs p) rfl (wn rfl) rfl le_ le_ rfl rfl kr_ ?_
 intro w15 hm14
 clear hm12
 try simp only [lc_] at hm14
 refine qNone rfl ?_
 refine pt_ hK8 ?_
 refine sp_ fun _ hK16 => ?_
 refine li_ 0 ?_
 refine lv_ rfl (.pointer (some ⟨g11, 0, none⟩)) (iaRun (b := g11) (off := 0) (s := 1) (n := 3) (kk := .i64) (.tmp 7) (.tmp 10) 0 Ty.und_voxel_seam_vector kr_ rfl le_ le_ rfl (by decide)) ?_
 refine lv_ rfl (.int .i64 p.x) (ld_ 0 2 hm14) ?_
 refine li_ n ?_
 refine lv_ rfl _ (ad_ p.x n) ?_
 refine lv_ rfl (.pointer (some ⟨g11, 0, none⟩)) (iaRun (b := g11) (off := 0) (s := 1) (n := 3) (kk := .i64) (.tmp 7) (.tmp 10) 0 Ty.und_voxel_seam_vector kr_ rfl le_ le_ rfl (by decide)) ?_
 refine plStore1 (v := .int .i64 (p.x + n)) (k := 0) 2 kr_ hm14 rfl (i := 6) rfl (wn rfl) rfl le_ le_ rfl rfl rfl ?_
 intro w18 hm17
 clear hm14
 try simp only [lc_] at hm17
 refine qNone rfl ?_
 refine pt_ hK16 ?_
 refine sp_ fun _ hK19 => ?_
 refine lv_ rfl (.agg (pcs ⟨p.x + n, p.y, p.z⟩).toArray) (la_ 0 2 hm17 Ty.ag_voxel_seam_vector) ?_
 refine plCall (i := 1) 127 [.agg (pcs ⟨p.x + n, p.y, p.z⟩).toArray] [] [] rfl kr_ (wn rfl) rfl le_ (litArgs kr_) (vpt_any (⟨p.x + n, p.y, p.z⟩) _) ?_
 rintro e w20 ⟨rfl, hbz⟩
 have hm21 := hm17.below hbz
 clear hbz hm17
 refine ⟨_, rfl, ?_⟩
 refine qP rfl ?_
 refine plStore 1 Ty.ag_voxel_api_Point hm21 rfl (i := 2) (cs := pcs ⟨p.x + n, p.y, p.z⟩) rfl (wn rfl) rfl le_ le_ rfl rfl kr_ ?_
 intro w23 hm22
 clear hm21
 try simp only [lc_] at hm22
 refine qNone rfl ?_
 refine pt_ hK19 ?_
 refine wpPrune [(6, .pointer (some ⟨g5, 0, none⟩))] fo_ (fun X24 => ?_)
 refine wp_ret ?_
 refine bodyPost_ret (v := .agg (pcs ⟨p.x + n, p.y, p.z⟩).toArray) (gRes1 rfl (gResAg (cs := pcs ⟨p.x + n, p.y, p.z⟩) 1 hm22 rfl Ty.ag_voxel_api_Point rfl (lg_))) rfl ?_
 exact ⟨by rfl, hm22.bel⟩
theorem step1_any (p : Pt) (n : Int) (hp : ((-1000000 ≤ p.x ∧ p.x ≤ 1000000) ∧ (-1000000 ≤ p.y ∧ p.y ≤ 1000000) ∧ (-1000000 ≤ p.z ∧ p.z ≤ 1000000))) (hn : -1000000 ≤ n ∧ n ≤ 1000000) (w : World) : Calls Tryz.prog 104 #[.agg (pcs p).toArray, .int .i64 1, .int .i64 n] w (RetV w (.agg (pcs ⟨p.x, p.y + n, p.z⟩).toArray)) := by
 have hm0 := Mem.nil w
 go_enter Tryz.func104, Tryz.ntmps104
 refine litStart 18 [(0, .agg (pcs p).toArray), (1, .int .i64 1), (2, .int .i64 n)] kr_ (fun X0 => ?_)
 refine sp_ fun _ hK1 => ?_
 refine plBox hm0 (cs := pcs p) (i := 0) rfl (wn rfl) rfl le_ ?_
 intro g2 w4 hm3
 clear hm0
 try simp only [lc_] at hm3
 refine qP rfl ?_
 refine plAlloc (z := [.int .i64 0, .int .i64 0, .int .i64 0]) Ty.ag_voxel_api_Point hm3 (i := 1) rfl (wn rfl) rfl ?_
 intro g5 w7 hm6
 clear hm3
 try simp only [lc_] at hm6
 refine qP rfl ?_
 refine pt_ hK1 ?_
 refine sp_ fun _ hK8 => ?_
 refine lv_ rfl (.agg (pcs p).toArray) (la_ 0 0 hm6 Ty.ag_voxel_api_Point) ?_
 refine plCall (i := 1) 80 [.agg (pcs p).toArray] [] [] rfl kr_ (wn rfl) rfl le_ (litArgs kr_) (of_any p _) ?_
 rintro e w9 ⟨rfl, hbz⟩
 have hm10 := hm6.below hbz
 clear hbz hm6
 refine ⟨_, rfl, ?_⟩
 refine qP rfl ?_
 refine plAlloc (z := [.int .i64 0, .int .i64 0, .int .i64 0]) Ty.ag_voxel_seam_vector hm10 (i := 2) rfl (wn rfl) rfl ?_
 intro g11 w13 hm12
 clear hm10
 try simp only [lc_] at hm12
 refine qP rfl ?_
 refine plStore 2 Ty.ag_voxel_seam_vector hm12 rfl (i := 3) (cs := pcs p) rfl (wn rfl) rfl le_ le_ rfl rfl kr_ ?_
 intro w15 hm14
 clear hm12
 try simp only [lc_] at hm14
 refine qNone rfl ?_
 refine pt_ hK8 ?_
 refine sp_ fun _ hK16 => ?_
 refine li_ 1 ?_
 refine lv_ rfl (.pointer (some ⟨g11, 1, none⟩)) (iaRun (b := g11) (off := 0) (s := 1) (n := 3) (kk := .i64) (.tmp 7) (.tmp 10) 1 Ty.und_voxel_seam_vector kr_ rfl le_ le_ rfl (by decide)) ?_
 refine lv_ rfl (.int .i64 p.y) (ld_ 1 2 hm14) ?_
 refine li_ n ?_
 refine lv_ rfl _ (ad_ p.y n) ?_
 refine lv_ rfl (.pointer (some ⟨g11, 1, none⟩)) (iaRun (b := g11) (off := 0) (s := 1) (n := 3) (kk := .i64) (.tmp 7) (.tmp 10) 1 Ty.und_voxel_seam_vector kr_ rfl le_ le_ rfl (by decide)) ?_
 refine plStore1 (v := .int .i64 (p.y + n)) (k := 1) 2 kr_ hm14 rfl (i := 6) rfl (wn rfl) rfl le_ le_ rfl rfl rfl ?_
 intro w18 hm17
 clear hm14
 try simp only [lc_] at hm17
 refine qNone rfl ?_
 refine pt_ hK16 ?_
 refine sp_ fun _ hK19 => ?_
 refine lv_ rfl (.agg (pcs ⟨p.x, p.y + n, p.z⟩).toArray) (la_ 0 2 hm17 Ty.ag_voxel_seam_vector) ?_
 refine plCall (i := 1) 127 [.agg (pcs ⟨p.x, p.y + n, p.z⟩).toArray] [] [] rfl kr_ (wn rfl) rfl le_ (litArgs kr_) (vpt_any (⟨p.x, p.y + n, p.z⟩) _) ?_
 rintro e w20 ⟨rfl, hbz⟩
 have hm21 := hm17.below hbz
 clear hbz hm17
 refine ⟨_, rfl, ?_⟩
 refine qP rfl ?_
 refine plStore 1 Ty.ag_voxel_api_Point hm21 rfl (i := 2) (cs := pcs ⟨p.x, p.y + n, p.z⟩) rfl (wn rfl) rfl le_ le_ rfl rfl kr_ ?_
 intro w23 hm22
 clear hm21
 try simp only [lc_] at hm22
 refine qNone rfl ?_
 refine pt_ hK19 ?_
 refine wpPrune [(6, .pointer (some ⟨g5, 0, none⟩))] fo_ (fun X24 => ?_)
 refine wp_ret ?_
 refine bodyPost_ret (v := .agg (pcs ⟨p.x, p.y + n, p.z⟩).toArray) (gRes1 rfl (gResAg (cs := pcs ⟨p.x, p.y + n, p.z⟩) 1 hm22 rfl Ty.ag_voxel_api_Point rfl (lg_))) rfl ?_
 exact ⟨by rfl, hm22.bel⟩
theorem step2_any (p : Pt) (n : Int) (hp : ((-1000000 ≤ p.x ∧ p.x ≤ 1000000) ∧ (-1000000 ≤ p.y ∧ p.y ≤ 1000000) ∧ (-1000000 ≤ p.z ∧ p.z ≤ 1000000))) (hn : -1000000 ≤ n ∧ n ≤ 1000000) (w : World) : Calls Tryz.prog 104 #[.agg (pcs p).toArray, .int .i64 2, .int .i64 n] w (RetV w (.agg (pcs ⟨p.x, p.y, p.z + n⟩).toArray)) := by
 have hm0 := Mem.nil w
 go_enter Tryz.func104, Tryz.ntmps104
 refine litStart 18 [(0, .agg (pcs p).toArray), (1, .int .i64 2), (2, .int .i64 n)] kr_ (fun X0 => ?_)
 refine sp_ fun _ hK1 => ?_
 refine plBox hm0 (cs := pcs p) (i := 0) rfl (wn rfl) rfl le_ ?_
 intro g2 w4 hm3
 clear hm0
 try simp only [lc_] at hm3
 refine qP rfl ?_
 refine plAlloc (z := [.int .i64 0, .int .i64 0, .int .i64 0]) Ty.ag_voxel_api_Point hm3 (i := 1) rfl (wn rfl) rfl ?_
 intro g5 w7 hm6
 clear hm3
 try simp only [lc_] at hm6
 refine qP rfl ?_
 refine pt_ hK1 ?_
 refine sp_ fun _ hK8 => ?_
 refine lv_ rfl (.agg (pcs p).toArray) (la_ 0 0 hm6 Ty.ag_voxel_api_Point) ?_
 refine plCall (i := 1) 80 [.agg (pcs p).toArray] [] [] rfl kr_ (wn rfl) rfl le_ (litArgs kr_) (of_any p _) ?_
 rintro e w9 ⟨rfl, hbz⟩
 have hm10 := hm6.below hbz
 clear hbz hm6
 refine ⟨_, rfl, ?_⟩
 refine qP rfl ?_
 refine plAlloc (z := [.int .i64 0, .int .i64 0, .int .i64 0]) Ty.ag_voxel_seam_vector hm10 (i := 2) rfl (wn rfl) rfl ?_
 intro g11 w13 hm12
 clear hm10
 try simp only [lc_] at hm12
 refine qP rfl ?_
 refine plStore 2 Ty.ag_voxel_seam_vector hm12 rfl (i := 3) (cs := pcs p) rfl (wn rfl) rfl le_ le_ rfl rfl kr_ ?_
 intro w15 hm14
 clear hm12
 try simp only [lc_] at hm14
 refine qNone rfl ?_
 refine pt_ hK8 ?_
 refine sp_ fun _ hK16 => ?_
 refine li_ 2 ?_
 refine lv_ rfl (.pointer (some ⟨g11, 2, none⟩)) (iaRun (b := g11) (off := 0) (s := 1) (n := 3) (kk := .i64) (.tmp 7) (.tmp 10) 2 Ty.und_voxel_seam_vector kr_ rfl le_ le_ rfl (by decide)) ?_
 refine lv_ rfl (.int .i64 p.z) (ld_ 2 2 hm14) ?_
 refine li_ n ?_
 refine lv_ rfl _ (ad_ p.z n) ?_
 refine lv_ rfl (.pointer (some ⟨g11, 2, none⟩)) (iaRun (b := g11) (off := 0) (s := 1) (n := 3) (kk := .i64) (.tmp 7) (.tmp 10) 2 Ty.und_voxel_seam_vector kr_ rfl le_ le_ rfl (by decide)) ?_
 refine plStore1 (v := .int .i64 (p.z + n)) (k := 2) 2 kr_ hm14 rfl (i := 6) rfl (wn rfl) rfl le_ le_ rfl rfl rfl ?_
 intro w18 hm17
 clear hm14
 try simp only [lc_] at hm17
 refine qNone rfl ?_
 refine pt_ hK16 ?_
 refine sp_ fun _ hK19 => ?_
 refine lv_ rfl (.agg (pcs ⟨p.x, p.y, p.z + n⟩).toArray) (la_ 0 2 hm17 Ty.ag_voxel_seam_vector) ?_
 refine plCall (i := 1) 127 [.agg (pcs ⟨p.x, p.y, p.z + n⟩).toArray] [] [] rfl kr_ (wn rfl) rfl le_ (litArgs kr_) (vpt_any (⟨p.x, p.y, p.z + n⟩) _) ?_
 rintro e w20 ⟨rfl, hbz⟩
 have hm21 := hm17.below hbz
 clear hbz hm17
 refine ⟨_, rfl, ?_⟩
 refine qP rfl ?_
 refine plStore 1 Ty.ag_voxel_api_Point hm21 rfl (i := 2) (cs := pcs ⟨p.x, p.y, p.z + n⟩) rfl (wn rfl) rfl le_ le_ rfl rfl kr_ ?_
 intro w23 hm22
 clear hm21
 try simp only [lc_] at hm22
 refine qNone rfl ?_
 refine pt_ hK19 ?_
 refine wpPrune [(6, .pointer (some ⟨g5, 0, none⟩))] fo_ (fun X24 => ?_)
 refine wp_ret ?_
 refine bodyPost_ret (v := .agg (pcs ⟨p.x, p.y, p.z + n⟩).toArray) (gRes1 rfl (gResAg (cs := pcs ⟨p.x, p.y, p.z + n⟩) 1 hm22 rfl Ty.ag_voxel_api_Point rfl (lg_))) rfl ?_
 exact ⟨by rfl, hm22.bel⟩
theorem step_any (p : Pt) (ax n : Int) (ha : ax = 0 ∨ ax = 1 ∨ ax = 2) (hp : p.w 1000000) (hn : -1000000 ≤ n ∧ n ≤ 1000000) (w : World) : Calls Tryz.prog 104 #[.agg (pcs p).toArray, .int .i64 ax, .int .i64 n] w (RetV w (.agg (pcs (stepP p ax n)).toArray)) := by
 rcases ha with rfl | rfl | rfl
 ·exact step0_any p n hp hn w
 ·exact step1_any p n hp hn w
 ·exact step2_any p n hp hn w
def sgc (s : Sg) : List Value := pcs s.p ++ [.int .i64 s.ax]
theorem les_any (a b : Int) (ha : -1000000 ≤ a ∧ a ≤ 1000000) (hb : -1000000 ≤ b ∧ b ≤ 1000000) (w : World) : Calls Tryz.prog 105 #[.int .i64 a, .int .i64 b] w (RetV w (.int .i64 (lesP a b))) := by
 have hm0 := Mem.nil w
 go_enter Tryz.func105, Tryz.ntmps105
 refine litStart 17 [(0, .int .i64 a), (1, .int .i64 b)] kr_ (fun X0 => ?_)
 refine sp_ fun _ hK1 => ?_
 refine li_ 0 ?_
 refine pt_ hK1 ?_
 refine sk_ fun _ hK2 => ?_
 refine sp_ fun _ hK3 => ?_
 refine li_ a ?_
 by_cases h4 : a = 0
 ·refine lv_ rfl _ (eqT_ h4) ?_
  refine lT_ ?_
  refine ps_ (i := 3) ?_
  refine ps_ (i := 4) ?_
  refine lT_ ?_
  refine pt_ hK3 ?_
  refine wp_cond_true le_ ?_
  refine sp_ fun _ hK5 => ?_
  refine li_ a ?_
  refine li_ b ?_
  refine lv_ rfl _ (ad_ a b) ?_
  refine li_ (a + b) ?_
  refine pt_ hK5 ?_
  refine wp_ret ?_
  refine then_ret ?_
  refine br_ 4 (.int .i64 (a + b)) ?_
  exact ⟨congrArg (fun n_ => Ending.returned (.int .i64 n_)) (show _ = lesP a b by unfold lesP; rw [if_pos (Or.inl h4)]), hm0.bel⟩
 refine lv_ rfl _ (eqF_ h4) ?_
 refine lF_ ?_
 refine lw_ rfl (.int .i64 b) (litRun kr_) ?_
 by_cases h6 : b = 0
 ·refine lw_ rfl _ (eqT_ h6) ?_
  refine lT_ ?_
  refine pt_ hK3 ?_
  refine wp_cond_true le_ ?_
  refine sp_ fun _ hK7 => ?_
  refine li_ a ?_
  refine li_ b ?_
  refine lv_ rfl _ (ad_ a b) ?_
  refine li_ (a + b) ?_
  refine pt_ hK7 ?_
  refine wp_ret ?_
  refine then_ret ?_
  refine br_ 4 (.int .i64 (a + b)) ?_
  exact ⟨congrArg (fun n_ => Ending.returned (.int .i64 n_)) (show _ = lesP a b by unfold lesP; rw [if_pos (Or.inr h6)]), hm0.bel⟩
 refine lw_ rfl _ (eqF_ h6) ?_
 refine lF_ ?_
 refine pt_ hK3 ?_
 refine wp_cond_false le_ ?_
 refine wp_skip ?_
 refine tn_ hK2 ?_
 refine sp_ fun _ hK8 => ?_
 refine li_ a ?_
 refine li_ b ?_
 refine lv_ rfl (.int .i64 (min a b)) (gMin (.tmp 14) (.tmp 15) rfl le_ le_) ?_
 refine li_ (min a b) ?_
 refine pt_ hK8 ?_
 refine wp_ret ?_
 refine br_ 4 (.int .i64 (min a b)) ?_
 exact ⟨congrArg (fun n_ => Ending.returned (.int .i64 n_)) (show _ = lesP a b by unfold lesP; rw [if_neg (by omega)]), hm0.bel⟩
theorem ssize_any (n : Nat) (hn : n = 1 ∨ n = 8) (p : Pt) (A : Option Addr) (cap : Nat) (w : World) (hrd : Rd w w.heap.size 4 A n cap (tlsC (planL n))) : Calls Tryz.prog 106 #[.slice A n cap, .agg (pcs p).toArray] w (RetV w (.int .i64 (sizeP n p))) := by
 obtain ⟨bk_, of_, rfl, _, _⟩ := hrd.cells (by omega)
 have hm0 := Mem.nil w
 go_enter Tryz.func106, Tryz.ntmps106
 refine litStart 17 [(0, .slice (some ⟨bk_, of_, none⟩) n cap), (1, .agg (pcs p).toArray)] kr_ (fun X0 => ?_)
 refine sp_ fun _ hK1 => ?_
 refine plBox hm0 (cs := pcs p) (i := 0) rfl (wn rfl) rfl le_ ?_
 intro g2 w4 hm3
 clear hm0
 try simp only [lc_] at hm3
 refine qP rfl ?_
 refine li_ 0 ?_
 refine pt_ hK1 ?_
 refine sp_ fun _ hK5 => ?_
 refine lk_ (.slice (some ⟨bk_, of_, none⟩) n cap) ?_
 refine lv_ rfl (.agg (pcs p).toArray) (la_ 0 0 hm3 Ty.ag_voxel_api_Point) ?_
 refine plCall (i := 2) 88 [.slice (some ⟨bk_, of_, none⟩) n cap, .agg (pcs p).toArray] [] [] rfl kr_ (wn rfl) rfl le_ (litArgs kr_) (find_any n hn p _ cap _ ((Rd.below hrd hm3.bel).more hm3.bel.size)) ?_
 rintro e w6 ⟨rfl, hbz⟩
 have hm7 := hm3.below hbz
 clear hbz hm3
 refine ⟨_, rfl, ?_⟩
 refine qP rfl ?_
 refine li_ (findN n p) ?_
 refine pt_ hK5 ?_
 refine sk_ fun _ hK8 => ?_
 refine sp_ fun _ hK9 => ?_
 refine li_ (findN n p) ?_
 by_cases h10 : (findN n p) < 0
 ·refine lv_ rfl _ (lsT_ h10) ?_
  refine pt_ hK9 ?_
  refine wp_cond_true le_ ?_
  refine sp_ fun _ hK11 => ?_
  refine li_ 0 ?_
  refine pt_ hK11 ?_
  refine wp_ret ?_
  refine then_ret ?_
  refine br_ 4 (.int .i64 0) ?_
  have hno_ : ¬ inC (sideN n) p := fun h_ => by unfold findN at h10; rw [if_pos h_] at h10; omega
  exact ⟨by unfold sizeP; rw [if_neg hno_], hm7.bel⟩
 have hin_ : inC (sideN n) p := Decidable.byContradiction (fun h_ => h10 (by unfold findN; rw [if_neg h_]; decide))
 have hfe_ : findN n p = (tNo p : Int) := if_pos hin_
 obtain ⟨hK1, hK2, hK3⟩ := posP_no hn hin_
 refine lv_ rfl _ (lsF_ h10) ?_
 refine pt_ hK9 ?_
 refine wp_cond_false le_ ?_
 refine wp_skip ?_
 refine tn_ hK8 ?_
 refine sp_ fun _ hK12 => ?_
 refine lk_ (.slice (some ⟨bk_, of_, none⟩) n cap) ?_
 refine li_ (findN n p) ?_
 refine lv_ rfl (.pointer (some ⟨bk_, of_ + (tNo p) * 4, none⟩)) (ia_ cap (tNo p) Ty.sl_L_api_Tile hfe_ hK1) ?_
 refine lp_ bk_ (of_ + (tNo p) * 4) ?_
 refine lv_ rfl (.int .i64 0) (lr_ (m := (tNo p) * 4) ((Rd.below hrd hm7.bel).more hm7.bel.size) (tlsC_get (planL_get hK1) 0 _ rfl) (by omega)) ?_
 refine li_ 1 ?_
 refine li_ 1 ?_
 refine pt_ hK12 ?_
 refine wpPrune [(4, .int .i64 1)] fo_ (fun X13 => ?_)
 refine wp_ret ?_
 refine br_ 4 (.int .i64 1) ?_
 exact ⟨by unfold sizeP; rw [if_pos hin_], hm7.bel⟩
theorem cell0_any (p : Pt) (a : Int) (ha : a = 0 ∨ a = 1 ∨ a = 2) (hp : p.w 2000) (w : World) : Calls Tryz.prog 107 #[.agg (pcs p).toArray, .int .i64 a, .int .i64 0] w (RetV w (.agg (pcs (cellS p a 0)).toArray)) := by
 have hab_ := ax_bd ha
 have hp_ : p.w 1000000 := by unfold Pt.w at *; omega
 have hp2_ : (stepP p (axB a) (-1)).w 1000000 := by have h_ := stepP_w hp (axB a) (n := -1) (by omega); unfold Pt.w at *; omega
 have hm0 := Mem.nil w
 go_enter Tryz.func107, Tryz.ntmps107
 refine litStart 25 [(0, .agg (pcs p).toArray), (1, .int .i64 a), (2, .int .i64 0)] kr_ (fun X0 => ?_)
 refine sp_ fun _ hK1 => ?_
 refine plBox hm0 (cs := pcs p) (i := 0) rfl (wn rfl) rfl le_ ?_
 intro g2 w4 hm3
 clear hm0
 try simp only [lc_] at hm3
 refine qP rfl ?_
 refine plAlloc (z := [.int .i64 0, .int .i64 0, .int .i64 0]) Ty.ag_voxel_api_Point hm3 (i := 1) rfl (wn rfl) rfl ?_
 intro g5 w7 hm6
 clear hm3
 try simp only [lc_] at hm6
 refine qP rfl ?_
 refine pt_ hK1 ?_
 refine sp_ fun _ hK8 => ?_
 refine li_ a ?_
 refine plCall (i := 1) 103 [.int .i64 a] [] [] rfl kr_ (wn rfl) rfl le_ (litArgs kr_) (turn_any a ha _) ?_
 rintro e w9 ⟨rfl, hbz⟩
 have hm10 := hm6.below hbz
 clear hbz hm6
 refine ⟨_, rfl, ?_⟩
 refine qP rfl ?_
 refine lk_ (.tuple #[.int .i64 (axB a), .int .i64 (axC a)]) ?_
 refine li_ (axB a) ?_
 refine li_ (axC a) ?_
 refine li_ (axB a) ?_
 refine li_ (axC a) ?_
 refine pt_ hK8 ?_
 refine sp_ fun _ hK11 => ?_
 refine lv_ rfl (.agg (pcs p).toArray) (la_ 0 0 hm10 Ty.ag_voxel_api_Point) ?_
 refine li_ (axB a) ?_
 refine li_ 0 ?_
 refine li_ 0 ?_
 refine li_ (-1) ?_
 refine plCall (i := 5) 104 [.agg (pcs p).toArray, .int .i64 (axB a), .int .i64 (-1)] [] [] rfl kr_ (wn rfl) rfl le_ (litArgs kr_) (step_any p (axB a) (-1) hab_.1 hp_ (by omega) _) ?_
 rintro e w12 ⟨rfl, hbz⟩
 have hm13 := hm10.below hbz
 clear hbz hm10
 refine ⟨_, rfl, ?_⟩
 refine qP rfl ?_
 refine li_ (axC a) ?_
 refine li_ 0 ?_
 refine li_ 0 ?_
 refine li_ (-1) ?_
 refine plCall (i := 10) 104 [.agg (pcs (stepP p (axB a) (-1))).toArray, .int .i64 (axC a), .int .i64 (-1)] [] [] rfl kr_ (wn rfl) rfl le_ (litArgs kr_) (step_any (stepP p (axB a) (-1)) (axC a) (-1) hab_.2 hp2_ (by omega) _) ?_
 rintro e w14 ⟨rfl, hbz⟩
 have hm15 := hm13.below hbz
 clear hbz hm13
 refine ⟨_, rfl, ?_⟩
 refine qP rfl ?_
 refine plStore 1 Ty.ag_voxel_api_Point hm15 rfl (i := 11) (cs := pcs (stepP (stepP p (axB a) (-1)) (axC a) (-1))) rfl (wn rfl) rfl le_ le_ rfl rfl kr_ ?_
 intro w17 hm16
 clear hm15
 try simp only [lc_] at hm16
 refine qNone rfl ?_
 refine pt_ hK11 ?_
 refine wpPrune [(6, .pointer (some ⟨g5, 0, none⟩))] fo_ (fun X18 => ?_)
 refine wp_ret ?_
 refine bodyPost_ret (v := .agg (pcs (stepP (stepP p (axB a) (-1)) (axC a) (-1))).toArray) (gRes1 rfl (gResAg (cs := pcs (stepP (stepP p (axB a) (-1)) (axC a) (-1))) 1 hm16 rfl Ty.ag_voxel_api_Point rfl (lg_))) rfl ?_
 exact ⟨by rfl, hm16.bel⟩
theorem cell1_any (p : Pt) (a : Int) (ha : a = 0 ∨ a = 1 ∨ a = 2) (hp : p.w 2000) (w : World) : Calls Tryz.prog 107 #[.agg (pcs p).toArray, .int .i64 a, .int .i64 1] w (RetV w (.agg (pcs (cellS p a 1)).toArray)) := by
 have hab_ := ax_bd ha
 have hp_ : p.w 1000000 := by unfold Pt.w at *; omega
 have hp2_ : (stepP p (axB a) (0)).w 1000000 := by have h_ := stepP_w hp (axB a) (n := 0) (by omega); unfold Pt.w at *; omega
 have hm0 := Mem.nil w
 go_enter Tryz.func107, Tryz.ntmps107
 refine litStart 25 [(0, .agg (pcs p).toArray), (1, .int .i64 a), (2, .int .i64 1)] kr_ (fun X0 => ?_)
 refine sp_ fun _ hK1 => ?_
 refine plBox hm0 (cs := pcs p) (i := 0) rfl (wn rfl) rfl le_ ?_
 intro g2 w4 hm3
 clear hm0
 try simp only [lc_] at hm3
 refine qP rfl ?_
 refine plAlloc (z := [.int .i64 0, .int .i64 0, .int .i64 0]) Ty.ag_voxel_api_Point hm3 (i := 1) rfl (wn rfl) rfl ?_
 intro g5 w7 hm6
 clear hm3
 try simp only [lc_] at hm6
 refine qP rfl ?_
 refine pt_ hK1 ?_
 refine sp_ fun _ hK8 => ?_
 refine li_ a ?_
 refine plCall (i := 1) 103 [.int .i64 a] [] [] rfl kr_ (wn rfl) rfl le_ (litArgs kr_) (turn_any a ha _) ?_
 rintro e w9 ⟨rfl, hbz⟩
 have hm10 := hm6.below hbz
 clear hbz hm6
 refine ⟨_, rfl, ?_⟩
 refine qP rfl ?_
 refine lk_ (.tuple #[.int .i64 (axB a), .int .i64 (axC a)]) ?_
 refine li_ (axB a) ?_
 refine li_ (axC a) ?_
 refine li_ (axB a) ?_
 refine li_ (axC a) ?_
 refine pt_ hK8 ?_
 refine sp_ fun _ hK11 => ?_
 refine lv_ rfl (.agg (pcs p).toArray) (la_ 0 0 hm10 Ty.ag_voxel_api_Point) ?_
 refine li_ (axB a) ?_
 refine li_ 1 ?_
 refine li_ 1 ?_
 refine li_ 0 ?_
 refine plCall (i := 5) 104 [.agg (pcs p).toArray, .int .i64 (axB a), .int .i64 0] [] [] rfl kr_ (wn rfl) rfl le_ (litArgs kr_) (step_any p (axB a) (0) hab_.1 hp_ (by omega) _) ?_
 rintro e w12 ⟨rfl, hbz⟩
 have hm13 := hm10.below hbz
 clear hbz hm10
 refine ⟨_, rfl, ?_⟩
 refine qP rfl ?_
 refine li_ (axC a) ?_
 refine li_ 1 ?_
 refine li_ 0 ?_
 refine li_ (-1) ?_
 refine plCall (i := 10) 104 [.agg (pcs (stepP p (axB a) (0))).toArray, .int .i64 (axC a), .int .i64 (-1)] [] [] rfl kr_ (wn rfl) rfl le_ (litArgs kr_) (step_any (stepP p (axB a) (0)) (axC a) (-1) hab_.2 hp2_ (by omega) _) ?_
 rintro e w14 ⟨rfl, hbz⟩
 have hm15 := hm13.below hbz
 clear hbz hm13
 refine ⟨_, rfl, ?_⟩
 refine qP rfl ?_
 refine plStore 1 Ty.ag_voxel_api_Point hm15 rfl (i := 11) (cs := pcs (stepP (stepP p (axB a) (0)) (axC a) (-1))) rfl (wn rfl) rfl le_ le_ rfl rfl kr_ ?_
 intro w17 hm16
 clear hm15
 try simp only [lc_] at hm16
 refine qNone rfl ?_
 refine pt_ hK11 ?_
 refine wpPrune [(6, .pointer (some ⟨g5, 0, none⟩))] fo_ (fun X18 => ?_)
 refine wp_ret ?_
 refine bodyPost_ret (v := .agg (pcs (stepP (stepP p (axB a) (0)) (axC a) (-1))).toArray) (gRes1 rfl (gResAg (cs := pcs (stepP (stepP p (axB a) (0)) (axC a) (-1))) 1 hm16 rfl Ty.ag_voxel_api_Point rfl (lg_))) rfl ?_
 exact ⟨by rfl, hm16.bel⟩
theorem cell2_any (p : Pt) (a : Int) (ha : a = 0 ∨ a = 1 ∨ a = 2) (hp : p.w 2000) (w : World) : Calls Tryz.prog 107 #[.agg (pcs p).toArray, .int .i64 a, .int .i64 2] w (RetV w (.agg (pcs (cellS p a 2)).toArray)) := by
 have hab_ := ax_bd ha
 have hp_ : p.w 1000000 := by unfold Pt.w at *; omega
 have hp2_ : (stepP p (axB a) (-1)).w 1000000 := by have h_ := stepP_w hp (axB a) (n := -1) (by omega); unfold Pt.w at *; omega
 have hm0 := Mem.nil w
 go_enter Tryz.func107, Tryz.ntmps107
 refine litStart 25 [(0, .agg (pcs p).toArray), (1, .int .i64 a), (2, .int .i64 2)] kr_ (fun X0 => ?_)
 refine sp_ fun _ hK1 => ?_
 refine plBox hm0 (cs := pcs p) (i := 0) rfl (wn rfl) rfl le_ ?_
 intro g2 w4 hm3
 clear hm0
 try simp only [lc_] at hm3
 refine qP rfl ?_
 refine plAlloc (z := [.int .i64 0, .int .i64 0, .int .i64 0]) Ty.ag_voxel_api_Point hm3 (i := 1) rfl (wn rfl) rfl ?_
 intro g5 w7 hm6
 clear hm3
 try simp only [lc_] at hm6
 refine qP rfl ?_
 refine pt_ hK1 ?_
 refine sp_ fun _ hK8 => ?_
 refine li_ a ?_
 refine plCall (i := 1) 103 [.int .i64 a] [] [] rfl kr_ (wn rfl) rfl le_ (litArgs kr_) (turn_any a ha _) ?_
 rintro e w9 ⟨rfl, hbz⟩
 have hm10 := hm6.below hbz
 clear hbz hm6
 refine ⟨_, rfl, ?_⟩
 refine qP rfl ?_
 refine lk_ (.tuple #[.int .i64 (axB a), .int .i64 (axC a)]) ?_
 refine li_ (axB a) ?_
 refine li_ (axC a) ?_
 refine li_ (axB a) ?_
 refine li_ (axC a) ?_
 refine pt_ hK8 ?_
 refine sp_ fun _ hK11 => ?_
 refine lv_ rfl (.agg (pcs p).toArray) (la_ 0 0 hm10 Ty.ag_voxel_api_Point) ?_
 refine li_ (axB a) ?_
 refine li_ 2 ?_
 refine li_ 0 ?_
 refine li_ (-1) ?_
 refine plCall (i := 5) 104 [.agg (pcs p).toArray, .int .i64 (axB a), .int .i64 (-1)] [] [] rfl kr_ (wn rfl) rfl le_ (litArgs kr_) (step_any p (axB a) (-1) hab_.1 hp_ (by omega) _) ?_
 rintro e w12 ⟨rfl, hbz⟩
 have hm13 := hm10.below hbz
 clear hbz hm10
 refine ⟨_, rfl, ?_⟩
 refine qP rfl ?_
 refine li_ (axC a) ?_
 refine li_ 2 ?_
 refine li_ 1 ?_
 refine li_ 0 ?_
 refine plCall (i := 10) 104 [.agg (pcs (stepP p (axB a) (-1))).toArray, .int .i64 (axC a), .int .i64 0] [] [] rfl kr_ (wn rfl) rfl le_ (litArgs kr_) (step_any (stepP p (axB a) (-1)) (axC a) (0) hab_.2 hp2_ (by omega) _) ?_
 rintro e w14 ⟨rfl, hbz⟩
 have hm15 := hm13.below hbz
 clear hbz hm13
 refine ⟨_, rfl, ?_⟩
 refine qP rfl ?_
 refine plStore 1 Ty.ag_voxel_api_Point hm15 rfl (i := 11) (cs := pcs (stepP (stepP p (axB a) (-1)) (axC a) (0))) rfl (wn rfl) rfl le_ le_ rfl rfl kr_ ?_
 intro w17 hm16
 clear hm15
 try simp only [lc_] at hm16
 refine qNone rfl ?_
 refine pt_ hK11 ?_
 refine wpPrune [(6, .pointer (some ⟨g5, 0, none⟩))] fo_ (fun X18 => ?_)
 refine wp_ret ?_
 refine bodyPost_ret (v := .agg (pcs (stepP (stepP p (axB a) (-1)) (axC a) (0))).toArray) (gRes1 rfl (gResAg (cs := pcs (stepP (stepP p (axB a) (-1)) (axC a) (0))) 1 hm16 rfl Ty.ag_voxel_api_Point rfl (lg_))) rfl ?_
 exact ⟨by rfl, hm16.bel⟩
theorem cell3_any (p : Pt) (a : Int) (ha : a = 0 ∨ a = 1 ∨ a = 2) (hp : p.w 2000) (w : World) : Calls Tryz.prog 107 #[.agg (pcs p).toArray, .int .i64 a, .int .i64 3] w (RetV w (.agg (pcs (cellS p a 3)).toArray)) := by
 have hab_ := ax_bd ha
 have hp_ : p.w 1000000 := by unfold Pt.w at *; omega
 have hp2_ : (stepP p (axB a) (0)).w 1000000 := by have h_ := stepP_w hp (axB a) (n := 0) (by omega); unfold Pt.w at *; omega
 have hm0 := Mem.nil w
 go_enter Tryz.func107, Tryz.ntmps107
 refine litStart 25 [(0, .agg (pcs p).toArray), (1, .int .i64 a), (2, .int .i64 3)] kr_ (fun X0 => ?_)
 refine sp_ fun _ hK1 => ?_
 refine plBox hm0 (cs := pcs p) (i := 0) rfl (wn rfl) rfl le_ ?_
 intro g2 w4 hm3
 clear hm0
 try simp only [lc_] at hm3
 refine qP rfl ?_
 refine plAlloc (z := [.int .i64 0, .int .i64 0, .int .i64 0]) Ty.ag_voxel_api_Point hm3 (i := 1) rfl (wn rfl) rfl ?_
 intro g5 w7 hm6
 clear hm3
 try simp only [lc_] at hm6
 refine qP rfl ?_
 refine pt_ hK1 ?_
 refine sp_ fun _ hK8 => ?_
 refine li_ a ?_
 refine plCall (i := 1) 103 [.int .i64 a] [] [] rfl kr_ (wn rfl) rfl le_ (litArgs kr_) (turn_any a ha _) ?_
 rintro e w9 ⟨rfl, hbz⟩
 have hm10 := hm6.below hbz
 clear hbz hm6
 refine ⟨_, rfl, ?_⟩
 refine qP rfl ?_
 refine lk_ (.tuple #[.int .i64 (axB a), .int .i64 (axC a)]) ?_
 refine li_ (axB a) ?_
 refine li_ (axC a) ?_
 refine li_ (axB a) ?_
 refine li_ (axC a) ?_
 refine pt_ hK8 ?_
 refine sp_ fun _ hK11 => ?_
 refine lv_ rfl (.agg (pcs p).toArray) (la_ 0 0 hm10 Ty.ag_voxel_api_Point) ?_
 refine li_ (axB a) ?_
 refine li_ 3 ?_
 refine li_ 1 ?_
 refine li_ 0 ?_
 refine plCall (i := 5) 104 [.agg (pcs p).toArray, .int .i64 (axB a), .int .i64 0] [] [] rfl kr_ (wn rfl) rfl le_ (litArgs kr_) (step_any p (axB a) (0) hab_.1 hp_ (by omega) _) ?_
 rintro e w12 ⟨rfl, hbz⟩
 have hm13 := hm10.below hbz
 clear hbz hm10
 refine ⟨_, rfl, ?_⟩
 refine qP rfl ?_
 refine li_ (axC a) ?_
 refine li_ 3 ?_
 refine li_ 1 ?_
 refine li_ 0 ?_
 refine plCall (i := 10) 104 [.agg (pcs (stepP p (axB a) (0))).toArray, .int .i64 (axC a), .int .i64 0] [] [] rfl kr_ (wn rfl) rfl le_ (litArgs kr_) (step_any (stepP p (axB a) (0)) (axC a) (0) hab_.2 hp2_ (by omega) _) ?_
 rintro e w14 ⟨rfl, hbz⟩
 have hm15 := hm13.below hbz
 clear hbz hm13
 refine ⟨_, rfl, ?_⟩
 refine qP rfl ?_
 refine plStore 1 Ty.ag_voxel_api_Point hm15 rfl (i := 11) (cs := pcs (stepP (stepP p (axB a) (0)) (axC a) (0))) rfl (wn rfl) rfl le_ le_ rfl rfl kr_ ?_
 intro w17 hm16
 clear hm15
 try simp only [lc_] at hm16
 refine qNone rfl ?_
 refine pt_ hK11 ?_
 refine wpPrune [(6, .pointer (some ⟨g5, 0, none⟩))] fo_ (fun X18 => ?_)
 refine wp_ret ?_
 refine bodyPost_ret (v := .agg (pcs (stepP (stepP p (axB a) (0)) (axC a) (0))).toArray) (gRes1 rfl (gResAg (cs := pcs (stepP (stepP p (axB a) (0)) (axC a) (0))) 1 hm16 rfl Ty.ag_voxel_api_Point rfl (lg_))) rfl ?_
 exact ⟨by rfl, hm16.bel⟩
theorem cut_any (n : Nat) (hn : n = 1 ∨ n = 8) (p : Pt) (a : Int) (ha : a = 0 ∨ a = 1 ∨ a = 2) (hp : p.w 2000) (A : Option Addr) (cap : Nat) (w : World) (hrd : Rd w w.heap.size 4 A n cap (tlsC (planL n))) : Calls Tryz.prog 79 #[.slice A n cap, .agg (pcs p).toArray, .int .i64 a] w (RetV w (.int .i64 (cutP n p a))) := by
 have h01_0 := lesP_01 (Or.inl rfl : (0 : Int) = 0 ∨ (0 : Int) = 1) (sizeP_01 n (cellS p a 0))
 have h01_1 := lesP_01 h01_0 (sizeP_01 n (cellS p a 1))
 have h01_2 := lesP_01 h01_1 (sizeP_01 n (cellS p a 2))
 have hm0 := Mem.nil w
 go_enter Tryz.func79, Tryz.ntmps79
 refine litStart 27 [(0, .slice A n cap), (1, .agg (pcs p).toArray), (2, .int .i64 a)] kr_ (fun X0 => ?_)
 refine sp_ fun _ hK1 => ?_
 refine plBox hm0 (cs := pcs p) (i := 0) rfl (wn rfl) rfl le_ ?_
 intro g2 w4 hm3
 clear hm0
 try simp only [lc_] at hm3
 refine qP rfl ?_
 refine li_ 0 ?_
 refine pt_ hK1 ?_
 refine sk_ fun _ hK5 => ?_
 refine sp_ fun _ hK6 => ?_
 refine li_ a ?_
 refine lv_ rfl _ (lsF_ (show ¬ a < 0 by omega)) ?_
 refine lF_ ?_
 refine lw_ rfl (.int .i64 a) (litRun kr_) ?_
 refine lw_ rfl _ (geF_ (show ¬ 3 ≤ a by omega)) ?_
 refine lF_ ?_
 refine pt_ hK6 ?_
 refine wp_cond_false le_ ?_
 refine wp_skip ?_
 refine tn_ hK5 ?_
 refine sk_ fun _ hK7 => ?_
 refine sp_ fun _ hK8 => ?_
 refine li_ 0 ?_
 refine pt_ hK8 ?_
 refine wp_block ?_
 refine roundsStart 5 ?_
 refine sp_ fun _ hK9 => ?_
 refine lT_ ?_
 refine pt_ hK9 ?_
 refine sk_ fun _ hK10 => ?_
 refine wp_cond_true le_ ?_
 refine wp_skip ?_
 refine tn_ hK10 ?_
 refine sk_ fun _ hK11 => ?_
 refine wp_block ?_
 refine sp_ fun _ hK12 => ?_
 refine li_ 0 ?_
 refine li_ 0 ?_
 refine pt_ hK12 ?_
 refine plStart ?_
 refine li_ 0 ?_
 refine lk_ (.slice A n cap) ?_
 refine lv_ rfl (.agg (pcs p).toArray) (la_ 0 0 hm3 Ty.ag_voxel_api_Point) ?_
 refine li_ a ?_
 refine li_ 0 ?_
 refine plCall (i := 5) 107 [.agg (pcs p).toArray, .int .i64 a, .int .i64 0] [] [] rfl kr_ (wn rfl) rfl le_ (litArgs kr_) (cell0_any p a ha hp _) ?_
 rintro e w13 ⟨rfl, hbz⟩
 have hm14 := hm3.below hbz
 clear hbz hm3
 refine ⟨_, rfl, ?_⟩
 refine qP rfl ?_
 refine plCall (i := 6) 106 [.slice A n cap, .agg (pcs (cellS p a 0)).toArray] [] [] rfl kr_ (wn rfl) rfl le_ (litArgs kr_) (ssize_any n hn (cellS p a 0) A cap _ ((Rd.below hrd hm14.bel).more hm14.bel.size)) ?_
 rintro e w15 ⟨rfl, hbz⟩
 have hm16 := hm14.below hbz
 clear hbz hm14
 refine ⟨_, rfl, ?_⟩
 refine qP rfl ?_
 refine plCall (i := 7) 105 [.int .i64 0, .int .i64 (sizeP n (cellS p a 0))] [] [] rfl kr_ (wn rfl) rfl le_ (litArgs kr_) (les_any 0 (sizeP n (cellS p a 0)) (by have h_ := (Or.inl rfl : (0 : Int) = 0 ∨ (0 : Int) = 1); omega) (by have h_ := sizeP_01 n (cellS p a 0); omega) _) ?_
 rintro e w17 ⟨rfl, hbz⟩
 have hm18 := hm16.below hbz
 clear hbz hm16
 refine ⟨_, rfl, ?_⟩
 refine qP rfl ?_
 refine li_ (lesP 0 (sizeP n (cellS p a 0))) ?_
 refine plD ?_
 refine inBlock_normal ?_
 refine tn_ hK11 ?_
 refine plStart ?_
 refine li_ 1 ?_
 refine li_ 1 ?_
 refine plD ?_
 refine then_normal (roundsNext ?_)
 refine sp_ fun _ hK19 => ?_
 refine lT_ ?_
 refine pt_ hK19 ?_
 refine sk_ fun _ hK20 => ?_
 refine wp_cond_true le_ ?_
 refine wp_skip ?_
 refine tn_ hK20 ?_
 refine sk_ fun _ hK21 => ?_
 refine wp_block ?_
 refine sp_ fun _ hK22 => ?_
 refine li_ 1 ?_
 refine li_ 1 ?_
 refine pt_ hK22 ?_
 refine plStart ?_
 refine li_ (lesP 0 (sizeP n (cellS p a 0))) ?_
 refine lk_ (.slice A n cap) ?_
 refine lv_ rfl (.agg (pcs p).toArray) (la_ 0 0 hm18 Ty.ag_voxel_api_Point) ?_
 refine li_ a ?_
 refine li_ 1 ?_
 refine plCall (i := 5) 107 [.agg (pcs p).toArray, .int .i64 a, .int .i64 1] [] [] rfl kr_ (wn rfl) rfl le_ (litArgs kr_) (cell1_any p a ha hp _) ?_
 rintro e w23 ⟨rfl, hbz⟩
 have hm24 := hm18.below hbz
 clear hbz hm18
 refine ⟨_, rfl, ?_⟩
 refine qP rfl ?_
 refine plCall (i := 6) 106 [.slice A n cap, .agg (pcs (cellS p a 1)).toArray] [] [] rfl kr_ (wn rfl) rfl le_ (litArgs kr_) (ssize_any n hn (cellS p a 1) A cap _ ((Rd.below hrd hm24.bel).more hm24.bel.size)) ?_
 rintro e w25 ⟨rfl, hbz⟩
 have hm26 := hm24.below hbz
 clear hbz hm24
 refine ⟨_, rfl, ?_⟩
 refine qP rfl ?_
 refine plCall (i := 7) 105 [.int .i64 (lesP 0 (sizeP n (cellS p a 0))), .int .i64 (sizeP n (cellS p a 1))] [] [] rfl kr_ (wn rfl) rfl le_ (litArgs kr_) (les_any (lesP 0 (sizeP n (cellS p a 0))) (sizeP n (cellS p a 1)) (by have h_ := h01_0; omega) (by have h_ := sizeP_01 n (cellS p a 1); omega) _) ?_
 rintro e w27 ⟨rfl, hbz⟩
 have hm28 := hm26.below hbz
 clear hbz hm26
 refine ⟨_, rfl, ?_⟩
 refine qP rfl ?_
 refine li_ (lesP (lesP 0 (sizeP n (cellS p a 0))) (sizeP n (cellS p a 1))) ?_
 refine plD ?_
 refine inBlock_normal ?_
 refine tn_ hK21 ?_
 refine wpPrune [(0, .slice A n cap), (2, .int .i64 a), (4, .pointer (some ⟨g2, 0, none⟩)), (6, .int .i64 (lesP (lesP 0 (sizeP n (cellS p a 0))) (sizeP n (cellS p a 1)))), (7, .int .i64 1), (14, .int .i64 1), (15, .bool true), (16, .int .i64 1), (17, .int .i64 (lesP 0 (sizeP n (cellS p a 0)))), (18, .slice A n cap), (19, .agg (pcs p).toArray), (20, .int .i64 a), (21, .int .i64 1), (22, .agg (pcs (cellS p a 1)).toArray), (23, .int .i64 (sizeP n (cellS p a 1))), (24, .int .i64 (lesP (lesP 0 (sizeP n (cellS p a 0))) (sizeP n (cellS p a 1)))), (25, .int .i64 1)] fo_ (fun X29 => ?_)
 refine plStart ?_
 refine li_ 2 ?_
 refine li_ 2 ?_
 refine plD ?_
 refine then_normal (roundsNext ?_)
 refine sp_ fun _ hK30 => ?_
 refine lT_ ?_
 refine pt_ hK30 ?_
 refine sk_ fun _ hK31 => ?_
 refine wp_cond_true le_ ?_
 refine wp_skip ?_
 refine tn_ hK31 ?_
 refine sk_ fun _ hK32 => ?_
 refine wp_block ?_
 refine sp_ fun _ hK33 => ?_
 refine li_ 2 ?_
 refine li_ 2 ?_
 refine pt_ hK33 ?_
 refine plStart ?_
 refine li_ (lesP (lesP 0 (sizeP n (cellS p a 0))) (sizeP n (cellS p a 1))) ?_
 refine lk_ (.slice A n cap) ?_
 refine lv_ rfl (.agg (pcs p).toArray) (la_ 0 0 hm28 Ty.ag_voxel_api_Point) ?_
 refine li_ a ?_
 refine li_ 2 ?_
 refine plCall (i := 5) 107 [.agg (pcs p).toArray, .int .i64 a, .int .i64 2] [] [] rfl kr_ (wn rfl) rfl le_ (litArgs kr_) (cell2_any p a ha hp _) ?_
 rintro e w34 ⟨rfl, hbz⟩
 have hm35 := hm28.below hbz
 clear hbz hm28
 refine ⟨_, rfl, ?_⟩
 refine qP rfl ?_
 refine plCall (i := 6) 106 [.slice A n cap, .agg (pcs (cellS p a 2)).toArray] [] [] rfl kr_ (wn rfl) rfl le_ (litArgs kr_) (ssize_any n hn (cellS p a 2) A cap _ ((Rd.below hrd hm35.bel).more hm35.bel.size)) ?_
 rintro e w36 ⟨rfl, hbz⟩
 have hm37 := hm35.below hbz
 clear hbz hm35
 refine ⟨_, rfl, ?_⟩
 refine qP rfl ?_
 refine plCall (i := 7) 105 [.int .i64 (lesP (lesP 0 (sizeP n (cellS p a 0))) (sizeP n (cellS p a 1))), .int .i64 (sizeP n (cellS p a 2))] [] [] rfl kr_ (wn rfl) rfl le_ (litArgs kr_) (les_any (lesP (lesP 0 (sizeP n (cellS p a 0))) (sizeP n (cellS p a 1))) (sizeP n (cellS p a 2)) (by have h_ := h01_1; omega) (by have h_ := sizeP_01 n (cellS p a 2); omega) _) ?_
 rintro e w38 ⟨rfl, hbz⟩
 have hm39 := hm37.below hbz
 clear hbz hm37
 refine ⟨_, rfl, ?_⟩
 refine qP rfl ?_
 refine li_ (lesP (lesP (lesP 0 (sizeP n (cellS p a 0))) (sizeP n (cellS p a 1))) (sizeP n (cellS p a 2))) ?_
 refine plD ?_
 refine inBlock_normal ?_
 refine tn_ hK32 ?_
 refine wpPrune [(0, .slice A n cap), (2, .int .i64 a), (4, .pointer (some ⟨g2, 0, none⟩)), (6, .int .i64 (lesP (lesP (lesP 0 (sizeP n (cellS p a 0))) (sizeP n (cellS p a 1))) (sizeP n (cellS p a 2)))), (7, .int .i64 2), (14, .int .i64 2), (15, .bool true), (16, .int .i64 2), (17, .int .i64 (lesP (lesP 0 (sizeP n (cellS p a 0))) (sizeP n (cellS p a 1)))), (18, .slice A n cap), (19, .agg (pcs p).toArray), (20, .int .i64 a), (21, .int .i64 2), (22, .agg (pcs (cellS p a 2)).toArray), (23, .int .i64 (sizeP n (cellS p a 2))), (24, .int .i64 (lesP (lesP (lesP 0 (sizeP n (cellS p a 0))) (sizeP n (cellS p a 1))) (sizeP n (cellS p a 2)))), (25, .int .i64 2)] fo_ (fun X40 => ?_)
 refine plStart ?_
 refine li_ 3 ?_
 refine li_ 3 ?_
 refine plD ?_
 refine then_normal (roundsNext ?_)
 refine sp_ fun _ hK41 => ?_
 refine lT_ ?_
 refine pt_ hK41 ?_
 refine sk_ fun _ hK42 => ?_
 refine wp_cond_true le_ ?_
 refine wp_skip ?_
 refine tn_ hK42 ?_
 refine sk_ fun _ hK43 => ?_
 refine wp_block ?_
 refine sp_ fun _ hK44 => ?_
 refine li_ 3 ?_
 refine li_ 3 ?_
 refine pt_ hK44 ?_
 refine plStart ?_
 refine li_ (lesP (lesP (lesP 0 (sizeP n (cellS p a 0))) (sizeP n (cellS p a 1))) (sizeP n (cellS p a 2))) ?_
 refine lk_ (.slice A n cap) ?_
 refine lv_ rfl (.agg (pcs p).toArray) (la_ 0 0 hm39 Ty.ag_voxel_api_Point) ?_
 refine li_ a ?_
 refine li_ 3 ?_
 refine plCall (i := 5) 107 [.agg (pcs p).toArray, .int .i64 a, .int .i64 3] [] [] rfl kr_ (wn rfl) rfl le_ (litArgs kr_) (cell3_any p a ha hp _) ?_
 rintro e w45 ⟨rfl, hbz⟩
 have hm46 := hm39.below hbz
 clear hbz hm39
 refine ⟨_, rfl, ?_⟩
 refine qP rfl ?_
 refine plCall (i := 6) 106 [.slice A n cap, .agg (pcs (cellS p a 3)).toArray] [] [] rfl kr_ (wn rfl) rfl le_ (litArgs kr_) (ssize_any n hn (cellS p a 3) A cap _ ((Rd.below hrd hm46.bel).more hm46.bel.size)) ?_
 rintro e w47 ⟨rfl, hbz⟩
 have hm48 := hm46.below hbz
 clear hbz hm46
 refine ⟨_, rfl, ?_⟩
 refine qP rfl ?_
 refine plCall (i := 7) 105 [.int .i64 (lesP (lesP (lesP 0 (sizeP n (cellS p a 0))) (sizeP n (cellS p a 1))) (sizeP n (cellS p a 2))), .int .i64 (sizeP n (cellS p a 3))] [] [] rfl kr_ (wn rfl) rfl le_ (litArgs kr_) (les_any (lesP (lesP (lesP 0 (sizeP n (cellS p a 0))) (sizeP n (cellS p a 1))) (sizeP n (cellS p a 2))) (sizeP n (cellS p a 3)) (by have h_ := h01_2; omega) (by have h_ := sizeP_01 n (cellS p a 3); omega) _) ?_
 rintro e w49 ⟨rfl, hbz⟩
 have hm50 := hm48.below hbz
 clear hbz hm48
 refine ⟨_, rfl, ?_⟩
 refine qP rfl ?_
 refine li_ (lesP (lesP (lesP (lesP 0 (sizeP n (cellS p a 0))) (sizeP n (cellS p a 1))) (sizeP n (cellS p a 2))) (sizeP n (cellS p a 3))) ?_
 refine plD ?_
 refine inBlock_normal ?_
 refine tn_ hK43 ?_
 refine wpPrune [(0, .slice A n cap), (2, .int .i64 a), (4, .pointer (some ⟨g2, 0, none⟩)), (6, .int .i64 (lesP (lesP (lesP (lesP 0 (sizeP n (cellS p a 0))) (sizeP n (cellS p a 1))) (sizeP n (cellS p a 2))) (sizeP n (cellS p a 3)))), (7, .int .i64 3), (14, .int .i64 3), (15, .bool true), (16, .int .i64 3), (17, .int .i64 (lesP (lesP (lesP 0 (sizeP n (cellS p a 0))) (sizeP n (cellS p a 1))) (sizeP n (cellS p a 2)))), (18, .slice A n cap), (19, .agg (pcs p).toArray), (20, .int .i64 a), (21, .int .i64 3), (22, .agg (pcs (cellS p a 3)).toArray), (23, .int .i64 (sizeP n (cellS p a 3))), (24, .int .i64 (lesP (lesP (lesP (lesP 0 (sizeP n (cellS p a 0))) (sizeP n (cellS p a 1))) (sizeP n (cellS p a 2))) (sizeP n (cellS p a 3)))), (25, .int .i64 3)] fo_ (fun X51 => ?_)
 refine plStart ?_
 refine li_ 4 ?_
 refine li_ 4 ?_
 refine plD ?_
 refine then_normal (roundsNext ?_)
 refine sp_ fun _ hK52 => ?_
 refine lF_ ?_
 refine pt_ hK52 ?_
 refine sk_ fun _ hK53 => ?_
 refine wp_cond_false le_ ?_
 refine wp_exit ?_
 refine then_exit ?_
 refine then_exit ?_
 refine inBlock_exit ?_
 refine tn_ hK7 ?_
 refine wpPrune [(6, .int .i64 (lesP (lesP (lesP (lesP 0 (sizeP n (cellS p a 0))) (sizeP n (cellS p a 1))) (sizeP n (cellS p a 2))) (sizeP n (cellS p a 3))))] fo_ (fun X54 => ?_)
 refine sp_ fun _ hK55 => ?_
 refine li_ (lesP (lesP (lesP (lesP 0 (sizeP n (cellS p a 0))) (sizeP n (cellS p a 1))) (sizeP n (cellS p a 2))) (sizeP n (cellS p a 3))) ?_
 refine li_ (lesP (lesP (lesP (lesP 0 (sizeP n (cellS p a 0))) (sizeP n (cellS p a 1))) (sizeP n (cellS p a 2))) (sizeP n (cellS p a 3))) ?_
 refine pt_ hK55 ?_
 refine wp_ret ?_
 refine br_ 6 (.int .i64 (lesP (lesP (lesP (lesP 0 (sizeP n (cellS p a 0))) (sizeP n (cellS p a 1))) (sizeP n (cellS p a 2))) (sizeP n (cellS p a 3)))) ?_
 exact ⟨by rfl, hm50.bel⟩
end Go.Proofs.YtbpihalphhoiaaaGreatDoor
