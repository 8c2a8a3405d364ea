/-
 MF: several texts in one. No statement is proved here.
-/
import Derived.Test.YtgjgjimgomhbmaaGreatDoorME
import Derived.Test.YtgjgjimgomhbmaaGreatDoorMC
set_option maxRecDepth 100000
set_option maxHeartbeats 4000000
set_option linter.unusedVariables false
set_option linter.unusedSimpArgs false
namespace Go.Proofs.YtgjgjimgomhbmaaGreatDoor
structure Vr where
 num : Int
 pins : Int
 h : Hd
deriving DecidableEq
def Lv.vr (v : Lv) : Vr := ⟨v.num, v.pins, v.h⟩
def vrs (l : List Lv) : List Vr := l.map Lv.vr
def placeVG (num : Int) : Nat → List Vr → Int
 | _, [] => -1
 | k, v :: l => if v.num = num then k else placeVG num (k + 1) l
def placeV (l : List Vr) (num : Int) : Int := placeVG num 0 l
theorem placeG_vrs (num : Int) : ∀ (l : List Lv) (k : Nat), placeG num k l = placeVG num k (vrs l)
 | [], _ => rfl
 | v :: l, k => by
  show (if v.num = num then (k : Int) else placeG num (k + 1) l) = if v.num = num then (k : Int) else placeVG num (k + 1) (vrs l)
  rw [placeG_vrs num l (k + 1)]
theorem placeP_vrs (l : List Lv) (num : Int) : placeP l num = placeV (vrs l) num := placeG_vrs num l 0
theorem vrs_len (l : List Lv) : (vrs l).length = l.length := by unfold vrs; rw [List.length_map]
theorem vrs_get {l : List Lv} {k : Nat} {v : Lv} (h : l[k]? = some v) : (vrs l)[k]? = some v.vr := by unfold vrs; rw [List.getElem?_map, h]; rfl
theorem vrs_app (l m : List Lv) : vrs (l ++ m) = vrs l ++ vrs m := List.map_append
theorem vrs_set (l : List Lv) (k : Nat) (v : Lv) : vrs (l.set k v) = (vrs l).set k v.vr := by unfold vrs; rw [List.map_set]
def sumV (l : List Vr) : Int := (l.map (·.pins)).sum
theorem pinsP_vrs (l : List Lv) : pinsP l = sumV (vrs l) := by unfold pinsP sumV vrs; rw [List.map_map]; rfl
def vr0 : Vr := ⟨0, 0, hd0⟩
def setPins (l : List Vr) (k : Nat) (d : Int) : List Vr := l.set k ⟨(l.getD k vr0).num, (l.getD k vr0).pins + d, (l.getD k vr0).h⟩
theorem setPins_vrs {l : List Lv} {k : Nat} {v : Lv} (h : l[k]? = some v) (d : Int) : vrs (l.set k { v with pins := v.pins + d }) = setPins (vrs l) k d := by
 rw [vrs_set]
 unfold setPins
 rw [List.getD_eq_getElem?_getD, vrs_get h]
 rfl
def pinV (l : List Vr) (nx num : Int) : List Vr × Int × Int :=
 if placeV l num < 0 then ([], 0, 9) else if 64 ≤ sumV l then ([], 0, 18) else (setPins l (placeV l num).toNat 1, nx, 0)
def unpinV (l : List Vr) (nx num : Int) : List Vr × Int × Int :=
 if placeV l num < 0 ∨ (l.getD (placeV l num).toNat vr0).pins = 0 then ([], 0, 9) else (setPins l (placeV l num).toNat (-1), nx, 0)
def addV (l : List Vr) (nx : Int) (h : Hd) : List Vr × Int × Int × Int :=
 if ckH h ≠ 0 then ([], 0, 0, 1) else
 if 0 < l.length ∧ ¬ covers h (l.getD (l.length - 1) vr0).h then ([], 0, 0, 22) else
 if 100 ≤ l.length then ([], 0, 0, 21) else (l ++ [⟨nx, 0, h⟩], nx + 1, nx, 0)
def kpV (n : Nat) (keep : Int) (i : Nat) (pins : Int) : Bool := decide (0 < pins ∨ (n : Int) - i ≤ keep)
def selG (n : Nat) (keep : Int) (b : Bool) : Nat → List Lv → List Lv
 | _, [] => []
 | i, v :: l => if kpV n keep i v.pins = b then v :: selG n keep b (i + 1) l else selG n keep b (i + 1) l
def selV (n : Nat) (keep : Int) (b : Bool) : Nat → List Vr → List Vr
 | _, [] => []
 | i, v :: l => if kpV n keep i v.pins = b then v :: selV n keep b (i + 1) l else selV n keep b (i + 1) l
theorem selG_vrs (n : Nat) (keep : Int) (b : Bool) : ∀ (i : Nat) (l : List Lv), vrs (selG n keep b i l) = selV n keep b i (vrs l)
 | _, [] => rfl
 | i, v :: l => by
  show vrs (if _ then _ else _) = if kpV n keep i v.pins = b then v.vr :: selV n keep b (i + 1) (vrs l) else selV n keep b (i + 1) (vrs l)
  rw [← selG_vrs n keep b (i + 1) l]
  split <;> rfl
theorem selG_sub (n : Nat) (keep : Int) (b : Bool) : ∀ (i : Nat) (l : List Lv), (selG n keep b i l).Sublist l
 | _, [] => .slnil
 | i, v :: l => by
  unfold selG
  split
  ·exact (selG_sub n keep b (i + 1) l).cons_cons v
  ·exact (selG_sub n keep b (i + 1) l).cons v
theorem sel_yes {n : Nat} {keep : Int} {b : Bool} {l ya r : List Lv} {k : Nat} {t : Lv} (ht : l[k]? = some t) (hr : ya ++ selG n keep b k (l.drop k) = r) (h : kpV n keep k t.pins = b) : (ya ++ [t]) ++ selG n keep b (k + 1) (l.drop (k + 1)) = r := by
 obtain ⟨hl, he⟩ := List.getElem?_eq_some_iff.1 ht
 rw [List.drop_eq_getElem_cons hl, he, selG, if_pos h] at hr
 rw [List.append_assoc]; exact hr
theorem sel_no {n : Nat} {keep : Int} {b : Bool} {l ya r : List Lv} {k : Nat} {t : Lv} (ht : l[k]? = some t) (hr : ya ++ selG n keep b k (l.drop k) = r) (h : ¬ kpV n keep k t.pins = b) : ya ++ selG n keep b (k + 1) (l.drop (k + 1)) = r := by
 obtain ⟨hl, he⟩ := List.getElem?_eq_some_iff.1 ht
 rw [List.drop_eq_getElem_cons hl, he, selG, if_neg h] at hr
 exact hr
theorem sel_end {n : Nat} {keep : Int} {b : Bool} {l ya r : List Lv} {k : Nat} (hk : l.length ≤ k) (hr : ya ++ selG n keep b k (l.drop k) = r) : ya = r := by
 rw [List.drop_of_length_le hk, selG, List.append_nil] at hr; exact hr
def collV (l : List Vr) (nx keep : Int) : List Vr × Int × List Int := (selV l.length keep true 0 l, nx, (selV l.length keep false 0 l).map (·.num))
theorem getD_some {l : List Vr} {i : Nat} {v d : Vr} (h : l[i]? = some v) : l.getD i d = v := by rw [List.getD_eq_getElem?_getD, h]; rfl
theorem mem_set_or {α : Type} {l : List α} {k : Nat} {u v : α} (h : v ∈ l.set k u) : v = u ∨ v ∈ l := by
 rcases List.mem_or_eq_of_mem_set h with h | h
 ·exact Or.inr h
 ·exact Or.inl h
end Go.Proofs.YtgjgjimgomhbmaaGreatDoor
namespace Go.Proofs.YtgjgjimgomhbmaaGreatDoor
open Go.RowKit
theorem own_upd {w : World} {base size n g : Nat} {e : TypeId} {off c : Nat} {xs : List Value} (h : w.ownsRow base e size (.slice (some ⟨g, off, none⟩) n c) n xs) {j : Nat} (hj : j < n * size) (u : Value) :
 off = 0 ∧ ∃ cur, Arr w g e cur ∧ cur[j]? = xs[j]? ∧ ∀ w', Arr w' g e (cur.set j u) → w'.ownsRow base e size (.slice (some ⟨g, off, none⟩) n c) n (xs.set j u) := by
 obtain ⟨hl, h2⟩ := h
 rcases h2 with ⟨h3, _⟩ | ⟨g', cap, cur, hv, hb, hg, hnc, hcm, hcs, htake⟩
 ·cases h3
 ·injection hv with e1 e2 e3
  injection e1 with e1
  injection e1 with e1 e4 _
  subst e1
  subst e4
  subst e3
  refine ⟨rfl, cur.toList, hg, ?_, fun w' hA => ?_⟩
  ·rw [← htake, List.getElem?_take, if_pos hj]
  ·refine ⟨by rw [List.length_set]; exact hl, Or.inr ⟨g, c, (cur.toList.set j u).toArray, rfl, hb, hA, hnc, hcm, by simp [hcs], ?_⟩⟩
   rw [← htake, List.take_set]
theorem Mem.setRowAt {w0 w w' : World} {L : List Res} {e : TypeId} (h : Mem w0 w L) (i : Nat) {v : Value} {size n g : Nat} {xs xs' : List Value} (hi : L[i]? = some (.row v e size n xs)) (hg : v.ownBlock = some g) (hA : w'.ownsRow w0.heap.size e size v n xs') (k : w.grownBy w' (some g)) : Mem w0 w' (L.set i (.row v e size n xs')) := by
 have hrow := h.row i hi
 refine ⟨h.bel.grown k h.bel.size (fun k' hk' => by cases hk'; exact (World.ownsRow.lt hrow g hg).1), fun s hs => ?_, resApart_set h.apart fun j s hji hj => ?_⟩
 ·rcases resMem_set_ne hs with rfl | ⟨j, hji, hj⟩
  ·exact hA
  ·refine (h.each s (List.mem_of_getElem? hj)).grown k ?_
   rcases resApart_at h.apart hji hj hi with ⟨_, h2⟩ | h2 | h2
   ·cases h2
   ·exact Or.inl h2
   ·refine Or.inr fun e => h2 (e.trans hg.symm)
 ·have h1 := resApart_at h.apart (Ne.symm hji) hi hj
  exact h1
theorem plStoreRow {P : Program} {ops : Array Oper} {Q : Exit → Act → World → Prop} {a : Act} {w w0 : World} {o : Oper} {L : List Res} {i : Nat} {x y : Operand} {ty e : TypeId} {g k n c size : Nat} {xs : List Value} {v v0 : Value} (j : Nat) (hsz : (P.info? ty).map (·.size) = some 1) (hm : Mem w0 w L) (hj : L[j]? = some (.row (.slice (some ⟨g, 0, none⟩) n c) e size n xs)) (hi : ops.toList[i]? = some o) (hw : Region.wanted o (yielded ops a.tmps) = true) (ho : o.op = .store ty x y)
 (hx : a.eval x = .pointer (some ⟨g, k, none⟩)) (hy : a.eval y = v) (hk : xs[k]? = some v0) (hn : k < n * size) (hv : v.cells = #[v]) (h1 : v.oneCell' = true)
 (h : ∀ w', Mem w0 w' (L.set j (.row (.slice (some ⟨g, 0, none⟩) n c) e size n (xs.set k v))) → PL P ops Q (i + 1) (a.put o.dst undef) w') : PL P ops Q i a w := by
 obtain ⟨_, cur, hA, hci, hset⟩ := own_upd (hm.row j hj) hn v
 refine plOf hi (stCellG x y hsz hw ho hx hy hA (hci.trans hk) hv h1 fun w' hA' hg => (h w' ?_).out)
 exact hm.setRowAt j hj rfl (hset w' hA') hg
structure NewT (B : Nat) (l l' : List Lv) (S' : Option Addr) : Prop where
 s : NewA B S'
 each : ∀ v ∈ l', (∃ u ∈ l, v.A = u.A ∧ v.B = u.B ∧ v.h = u.h) ∨ (NewA B v.A ∧ NewA B v.B)
theorem NewT.mono {B B' : Nat} {l l' : List Lv} {S' : Option Addr} (h : NewT B l l' S') (hb : B' ≤ B) : NewT B' l l' S' :=
 ⟨h.s.mono hb, fun v hv => (h.each v hv).imp id fun h2 => ⟨h2.1.mono hb, h2.2.mono hb⟩⟩
theorem NewT.nil (B : Nat) (l : List Lv) : NewT B l [] none := ⟨NewA.none B, fun _ h => by cases h⟩
theorem NewT.set {B k : Nat} {l : List Lv} {v : Lv} {S' : Option Addr} (h : NewA B S') (hv : l[k]? = some v) (x : Int) : NewT B l (l.set k { v with pins := x }) S' := by
 refine ⟨h, fun u hu => Or.inl ?_⟩
 rcases mem_set_or hu with rfl | hu
 ·exact ⟨v, List.mem_of_getElem? hv, rfl, rfl, rfl⟩
 ·exact ⟨u, hu, rfl, rfl, rfl⟩
theorem Mem.newRd {w0 w w' : World} {L : List Res} {A : Option Addr} {size n c : Nat} {xs : List Value} (h : Mem w0 w L) (b : Below w.heap.size w w') (hr : Rd w' w'.heap.size size A n c xs) (hn : NewA w.heap.size A) : Mem w0 w' (L ++ [.rd A size n c xs]) := by
 refine h.push b hr fun g hg => ?_
 simp only [Res.blk] at hg
 split at hg
 ·cases hg
 ·cases A with
  | none => cases hg
  | some a =>
   simp only [Option.map_some, Option.some.injEq] at hg
   exact hg ▸ hn a rfl
structure TbAt (w : World) (l : List Lv) (S : Option Addr) (c : Nat) : Prop where
 rd : Rd w w.heap.size 6 S l.length c (lvs l)
 all : AllAt l w
theorem TbAt.below {w w' : World} {l : List Lv} {S : Option Addr} {c : Nat} (h : TbAt w l S c) (b : Below w.heap.size w w') : TbAt w' l S c := ⟨(Rd.below h.rd b).more b.size, h.all.below b⟩
theorem TbAt.nil (w : World) : TbAt w [] none 0 := ⟨Rd.nil _ _ 6, fun _ h => by cases h⟩
theorem lvs_set {v : Lv} : ∀ {l : List Lv} {k : Nat} (x : Int), l[k]? = some v → (lvs l).set (k * 6 + 1) (.int .i64 x) = lvs (l.set k { v with pins := x })
 | [], _, _, h => by simp at h
 | q :: l, 0, x, h => by
  simp at h; subst h
  rfl
 | q :: l, k + 1, x, h => by
  have ih := lvs_set (l := l) (k := k) x (by simpa using h)
  have h6 : (lvc q).length = 6 := rfl
  show (lvc q ++ lvs l).set _ _ = lvc q ++ lvs (l.set k { v with pins := x })
  rw [List.set_append_right _ _ (by omega), ← ih]
  congr 2
  omega
theorem AllAt.set {l : List Lv} {w : World} {k : Nat} {v : Lv} (h : AllAt l w) (hv : l[k]? = some v) (x : Int) : AllAt (l.set k { v with pins := x }) w := by
 intro u hu
 rcases mem_set_or hu with rfl | hu
 ·have h1 := h v (List.mem_of_getElem? hv)
  exact ⟨h1.a, h1.b⟩
 ·exact h u hu
theorem move_any (l : List Lv) (S : Option Addr) (cS : Nat) (nx : Int) (k : Nat) (v : Lv) (by_ : Int) (w : World) (hT : TbAt w l S cS) (hl : l.length ≤ 1000) (hkv : l[k]? = some v) (hp : 0 ≤ v.pins ∧ v.pins ≤ 1000) (hby : -1 ≤ by_ ∧ by_ ≤ 1) : Calls Tryz.prog 59 #[.agg (tbs (.slice S l.length cS) nx).toArray, .int .i64 (k : Int), .int .i64 by_] w (fun e w' => ∃ S' c', e = .returned (.agg (tbs (.slice S' (l.set k { v with pins := v.pins + by_ }).length c') nx).toArray) ∧ TbAt w' (l.set k { v with pins := v.pins + by_ }) S' c' ∧ NewT w.heap.size l (l.set k { v with pins := v.pins + by_ }) S' ∧ Below w.heap.size w w') := by
 have hS := hT.rd
 have hall := hT.all
 have hkl_ := (List.getElem?_eq_some_iff.1 hkv).1
 have hv_ := hall v (List.mem_of_getElem? hkv)
 have hm0 := Mem.nil w
 go_enter Tryz.func59, Tryz.ntmps59
 refine litStart 22 [(0, .agg (tbs (.slice S l.length cS) nx).toArray), (1, .int .i64 (k : Int)), (2, .int .i64 by_)] kr_ (fun X0 => ?_)
 refine wp_seq_k fun K1 hK1 => ?_
 refine plStart ?_
 refine plBox hm0 (cs := tbs (.slice S l.length cS) nx) (i := 0) rfl (wn rfl) rfl le_ ?_
 intro g2 w4 hm3
 clear hm0
 try simp only [lc1_, lc2_, lc3_, lc4_] at hm3
 refine qP rfl ?_
 refine plAlloc (z := [.slice none 0 0, .int .i64 0]) Ty.ag_voxel_api_Versions hm3 (i := 1) rfl (wn rfl) rfl ?_
 intro g5 w7 hm6
 clear hm3
 try simp only [lc1_, lc2_, lc3_, lc4_] at hm6
 refine qP rfl ?_
 refine plD ?_
 refine tn_ hK1 ?_
 refine wp_seq_k fun K8 hK8 => ?_
 refine plStart ?_
 refine lk_ (.pointer (some ⟨g2, 0, none⟩)) ?_
 refine litVal (v := .slice S l.length cS) rfl (wn rfl) (gLoad (v := .slice S l.length cS) (k := 0) 0 hm6 rfl kr_ (.tmp 7) kr_ rfl le_) rfl (by decide) ?_
 refine plCall (i := 2) 57 [.slice S l.length cS] [] [] rfl kr_ (wn rfl) rfl le_ (litArgs kr_) (cloneV_any l l.length S cS _ ((Rd.below hS hm6.bel).more hm6.bel.size) (by omega)) ?_
 rintro e w9 ⟨v11, rfl, hown_, hbz⟩
 obtain ⟨A12, c13, rfl, hrd_⟩ := Rd.of_own hown_
 clear hrd_
 have hm10 := hm6.newRow hbz hown_
 clear hown_ hbz
 clear hm6
 try simp only [lc1_, lc2_, lc3_, lc4_] at hm10
 refine ⟨_, rfl, ?_⟩
 refine qP rfl ?_
 refine lk_ (.pointer (some ⟨g2, 0, none⟩)) ?_
 refine plStore1 (v := .slice A12 l.length c13) (k := 0) 0 kr_ hm10 rfl (i := 4) rfl (wn rfl) rfl le_ le_ rfl rfl rfl ?_
 intro w15 hm14
 clear hm10
 try simp only [lc1_, lc2_, lc3_, lc4_] at hm14
 refine qNone rfl ?_
 refine plD ?_
 refine tn_ hK8 ?_
 refine wp_seq_k fun K16 hK16 => ?_
 refine plStart ?_
 obtain ⟨b17, rfl⟩ := hm14.rowBlk (A := A12) (n := l.length) (c := c13) 2 rfl (by omega)
 refine lk_ (.pointer (some ⟨g2, 0, none⟩)) ?_
 refine litVal (v := .slice (some ⟨b17, 0, none⟩) l.length c13) rfl (wn rfl) (gLoad (v := .slice (some ⟨b17, 0, none⟩) l.length c13) (k := 0) 0 hm14 rfl kr_ (.tmp 11) kr_ rfl le_) rfl (by decide) ?_
 refine lk_ (.int .i64 (k : Int)) ?_
 refine litVal (v := .pointer (some ⟨b17, 0 + k * 6, none⟩)) rfl (wn rfl) (gIaSl (b := b17) (off := 0) (n := l.length) (c := c13) (kk := .i64) (K := (k : Int)) (.tmp 12) (.tmp 13) k Ty.sl_L_api_Version rfl le_ le_ (rfl) (by omega)) rfl (by decide) ?_
 refine lk_ (.pointer (some ⟨b17, 0 + k * 6 + 1, none⟩)) ?_
 refine litVal (v := .int .i64 v.pins) rfl (wn rfl) (gLoadRd (v := .int .i64 v.pins) (m := k * 6 + 1) (hm14.rdRow 2 rfl) rfl (lvs_get hkv 1 _ rfl) (by omega) (.tmp 15) kr_ rfl le_) rfl (by decide) ?_
 refine lk_ (.int .i64 by_) ?_
 refine litVal (v := .int .i64 (v.pins + by_)) rfl (wn rfl) (addRun (A := v.pins) (B := by_) (C := v.pins + by_) (.tmp 16) (.tmp 17) rfl le_ le_ rfl (by omega)) rfl (by decide) ?_
 refine litVal (v := .pointer (some ⟨b17, 0 + k * 6, none⟩)) rfl (wn rfl) (gIaSl (b := b17) (off := 0) (n := l.length) (c := c13) (kk := .i64) (K := (k : Int)) (.tmp 12) (.tmp 13) k Ty.sl_L_api_Version rfl le_ le_ (rfl) (by omega)) rfl (by decide) ?_
 refine lk_ (.pointer (some ⟨b17, 0 + k * 6 + 1, none⟩)) ?_
 refine plStoreRow (v := .int .i64 (v.pins + by_)) (g := b17) (k := k * 6 + 1) 2 kr_ hm14 rfl (i := 10) rfl (wn rfl) rfl ((litEv (v := .pointer (some ⟨b17, 0 + k * 6 + 1, none⟩)) kr_).trans (by rw [Nat.zero_add])) le_ (lvs_get hkv 1 _ rfl) (by omega) rfl rfl ?_
 intro w19 hm18
 clear hm14
 rw [lvs_set _ hkv] at hm18
 try simp only [lc1_, lc2_, lc3_, lc4_] at hm18
 refine qNone rfl ?_
 refine plD ?_
 refine tn_ hK16 ?_
 refine wpPrune [(3, .pointer (some ⟨g2, 0, none⟩)), (6, .pointer (some ⟨g5, 0, none⟩))] ⟨lg_, ⟨lg_, trivial⟩⟩ (fun X21 => ?_)
 refine wp_seq_k fun K22 hK22 => ?_
 refine plStart ?_
 refine litVal (v := .agg ([.slice (some ⟨b17, 0, none⟩) l.length c13, .int .i64 nx]).toArray) rfl (wn rfl) (gLoadAg (vs := [.slice (some ⟨b17, 0, none⟩) l.length c13, .int .i64 nx]) (k := 0) 0 hm18 rfl kr_ kr_ (.tmp 3) Ty.ag_voxel_api_Versions rfl le_) rfl (by decide) ?_
 refine plStore 1 Ty.ag_voxel_api_Versions hm18 rfl (i := 1) (cs := [.slice (some ⟨b17, 0, none⟩) l.length c13, .int .i64 nx]) rfl (wn rfl) rfl le_ le_ rfl rfl kr_ ?_
 intro w24 hm23
 clear hm18
 try simp only [lc1_, lc2_, lc3_, lc4_] at hm23
 refine qNone rfl ?_
 refine plD ?_
 refine tn_ hK22 ?_
 refine wp_ret ?_
 refine bodyPost_ret (v := .agg ([.slice (some ⟨b17, 0, none⟩) l.length c13, .int .i64 nx]).toArray) (gRes1 rfl (gResAg (cs := [.slice (some ⟨b17, 0, none⟩) l.length c13, .int .i64 nx]) 1 hm23 rfl Ty.ag_voxel_api_Versions rfl (lg_))) rfl ?_
 exact ⟨some ⟨b17, 0, none⟩, c13, by rw [List.length_set]; rfl, ⟨by rw [List.length_set]; exact hm23.rdRow 2 rfl, (AllAt.set hall hkv _).below hm23.bel⟩, .set (own_new (hm23.row 2 rfl)) hkv _, hm23.bel⟩
def NewV (B : Nat) (l : List Lv) (v : Lv) : Prop := (∃ u ∈ l, v.A = u.A ∧ v.B = u.B ∧ v.h = u.h) ∨ (NewA B v.A ∧ NewA B v.B)
def lv0 : Lv := ⟨0, 0, hd0, none, 0, none, 0⟩
def findHd (l : List Lv) (num : Int) : Hd × Int := if placeP l num < 0 then (hd0, 9) else ((l.getD (placeP l num).toNat lv0).h, 0)
theorem findHd_no {l : List Lv} {num : Int} (h : placeP l num < 0) : findHd l num = (hd0, 9) := if_pos h
theorem findHd_yes {l : List Lv} {num : Int} {k : Nat} {v : Lv} (hk : placeP l num = (k : Int)) (hv : l[k]? = some v) : findHd l num = (v.h, 0) := by
 unfold findHd
 rw [if_neg (by omega), hk, Int.toNat_natCast]
 simp [List.getD, hv]
theorem find_any (l : List Lv) (S : Option Addr) (cS : Nat) (nx : Int) (num : Int) (w : World) (hS : Rd w w.heap.size 6 S l.length cS (lvs l)) (hl : l.length ≤ 1000) (hall : AllAt l w) (hsm : ∀ v ∈ l, v.h.counts.length ≤ 20 ∧ v.h.rn ≤ 20) : Calls Tryz.prog 24 #[.agg (tbs (.slice S l.length cS) nx).toArray, .int .i64 num] w (fun e w' => ∃ v : Lv, v.h = (findHd l num).1 ∧ e = .returned (.tuple #[.agg (hcs v.h v.A v.c v.B v.d).toArray, .int .i64 (findHd l num).2]) ∧ v.At w' ∧ NewV w.heap.size l v ∧ Below w.heap.size w w') := by
 have hm0 := Mem.nil w
 go_enter Tryz.func24, Tryz.ntmps24
 refine litStart 29 [(0, .agg (tbs (.slice S l.length cS) nx).toArray), (1, .int .i64 num)] kr_ (fun X0 => ?_)
 refine wp_seq_k fun K1 hK1 => ?_
 refine plStart ?_
 refine plBox hm0 (cs := tbs (.slice S l.length cS) nx) (i := 0) rfl (wn rfl) rfl le_ ?_
 intro g2 w4 hm3
 clear hm0
 try simp only [lc1_, lc2_, lc3_, lc4_] at hm3
 refine qP rfl ?_
 refine plAlloc (z := [.int .i64 0, .slice none 0 0, .int .i64 0, .slice none 0 0]) Ty.ag_voxel_api_Header hm3 (i := 1) rfl (wn rfl) rfl ?_
 intro g5 w7 hm6
 clear hm3
 try simp only [lc1_, lc2_, lc3_, lc4_] at hm6
 refine qP rfl ?_
 refine lk_ (.int .i64 0) ?_
 refine plD ?_
 refine tn_ hK1 ?_
 refine wp_seq_k fun K8 hK8 => ?_
 refine plStart ?_
 refine litVal (v := .agg (tbs (.slice S l.length cS) nx).toArray) rfl (wn rfl) (gLoadAg (vs := tbs (.slice S l.length cS) nx) (k := 0) 0 hm6 rfl kr_ kr_ (.tmp 2) Ty.ag_voxel_api_Versions rfl le_) rfl (by decide) ?_
 refine lk_ (.int .i64 num) ?_
 refine plCall (i := 2) 58 [.agg (tbs (.slice S l.length cS) nx).toArray, .int .i64 num] [] [] rfl kr_ (wn rfl) rfl le_ (litArgs kr_) (index_any l S cS nx num _ ((Rd.below hS hm6.bel).more hm6.bel.size) hl) ?_
 rintro e w9 ⟨rfl, hbz⟩
 have hm10 := hm6.below hbz
 clear hbz hm6
 refine ⟨_, rfl, ?_⟩
 refine qP rfl ?_
 refine lk_ (.int .i64 (placeP l num)) ?_
 refine plD ?_
 refine tn_ hK8 ?_
 refine wp_seq_k fun K11 hK11 => ?_
 refine wp_seq_k fun K12 hK12 => ?_
 refine plStart ?_
 refine lk_ (.int .i64 (placeP l num)) ?_
 by_cases h13 : (placeP l num) < 0
 ·refine litVal (v := .bool true) rfl (wn rfl) (boolTo (decide_eq_true h13) (lssRun (A := (placeP l num)) (B := 0) (.tmp 11) (.const (.int .i64 0)) rfl le_ le_)) rfl (by decide) ?_
  refine plD ?_
  refine tn_ hK12 ?_
  refine wp_cond_true le_ ?_
  refine wp_seq_k fun K14 hK14 => ?_
  refine plStart ?_
  refine lk_ (.agg ([.int .i64 0, .slice none 0 0, .int .i64 0, .slice none 0 0]).toArray) ?_
  refine plStore 1 Ty.ag_voxel_api_Header hm10 rfl (i := 1) (cs := [.int .i64 0, .slice none 0 0, .int .i64 0, .slice none 0 0]) rfl (wn rfl) rfl le_ le_ rfl rfl kr_ ?_
  intro w16 hm15
  clear hm10
  try simp only [lc1_, lc2_, lc3_, lc4_] at hm15
  refine qNone rfl ?_
  refine lk_ (.int .i64 9) ?_
  refine plD ?_
  refine tn_ hK14 ?_
  refine wp_ret ?_
  refine then_ret ?_
  refine bodyPost_ret (v := .tuple #[.agg ([.int .i64 0, .slice none 0 0, .int .i64 0, .slice none 0 0]).toArray, .int .i64 9]) (gRes2 rfl (gResAg (cs := [.int .i64 0, .slice none 0 0, .int .i64 0, .slice none 0 0]) 1 hm15 rfl Ty.ag_voxel_api_Header rfl (lg_)) (gResTmp (t := 5) (v := .int .i64 9) (lg_))) rfl ?_
  have hfin_ := findHd_no h13
  exact ⟨⟨0, 0, hd0, none, 0, none, 0⟩, by rw [hfin_], by rw [hfin_]; rfl, ⟨Rd.nil _ _ 1, Rd.nil _ _ 16⟩, Or.inr ⟨NewA.none _, NewA.none _⟩, hm15.bel⟩
 obtain ⟨k, v, hk_, hkv, _⟩ : ∃ (i : Nat) (v : Lv), placeP l num = (i : Int) ∧ l[i]? = some v ∧ v.num = num := by
  rcases placeP_spec num l with h_ | h_
  ·exact absurd h_.1 (by omega)
  ·exact h_
 have hkl_ := (List.getElem?_eq_some_iff.1 hkv).1
 have hv_ := hall v (List.mem_of_getElem? hkv)
 have hsm_ := hsm v (List.mem_of_getElem? hkv)
 obtain ⟨b_, o_, rfl, _, _⟩ := hS.cells (by omega)
 refine litVal (v := .bool false) rfl (wn rfl) (boolTo (decide_eq_false h13) (lssRun (A := (placeP l num)) (B := 0) (.tmp 11) (.const (.int .i64 0)) rfl le_ le_)) rfl (by decide) ?_
 refine plD ?_
 refine tn_ hK12 ?_
 refine wp_cond_false le_ ?_
 refine wp_skip ?_
 refine tn_ hK11 ?_
 refine wp_seq_k fun K17 hK17 => ?_
 refine plStart ?_
 refine lk_ (.pointer (some ⟨g2, 0, none⟩)) ?_
 refine litVal (v := .slice (some ⟨b_, o_, none⟩) l.length cS) rfl (wn rfl) (gLoad (v := .slice (some ⟨b_, o_, none⟩) l.length cS) (k := 0) 0 hm10 rfl kr_ (.tmp 14) kr_ rfl le_) rfl (by decide) ?_
 refine lk_ (.int .i64 (placeP l num)) ?_
 refine litVal (v := .pointer (some ⟨b_, o_ + k * 6, none⟩)) rfl (wn rfl) (gIaSl (b := b_) (off := o_) (n := l.length) (c := cS) (kk := .i64) (K := (placeP l num)) (.tmp 15) (.tmp 16) k Ty.sl_L_api_Version rfl le_ le_ (hk_) (hkl_)) rfl (by decide) ?_
 refine lk_ (.pointer (some ⟨b_, o_ + k * 6 + 2, none⟩)) ?_
 refine litVal (v := .agg (hcs v.h v.A v.c v.B v.d).toArray) rfl (wn rfl) (gLoadAgRd (vs := hcs v.h v.A v.c v.B v.d) (m := k * 6 + 2) ((Rd.below hS hm10.bel).more hm10.bel.size) rfl (fun i_ u_ hu_ => by have := lvs_get hkv (2 + i_) u_ (by rw [Nat.add_comm]; exact hu_); rw [← Nat.add_assoc] at this; exact this) kr_ (by omega) (.tmp 18) Ty.ag_voxel_api_Header rfl le_) rfl (by decide) ?_
 refine plAlloc (z := [.int .i64 0, .slice none 0 0, .int .i64 0, .slice none 0 0]) Ty.ag_voxel_api_Header hm10 (i := 6) rfl (wn rfl) rfl ?_
 intro g18 w20 hm19
 clear hm10
 try simp only [lc1_, lc2_, lc3_, lc4_] at hm19
 refine qP rfl ?_
 refine plStore 2 Ty.ag_voxel_api_Header hm19 rfl (i := 7) (cs := hcs v.h v.A v.c v.B v.d) rfl (wn rfl) rfl le_ le_ rfl rfl kr_ ?_
 intro w22 hm21
 clear hm19
 try simp only [lc1_, lc2_, lc3_, lc4_] at hm21
 refine qNone rfl ?_
 refine plD ?_
 refine tn_ hK17 ?_
 refine wpPrune [(4, .pointer (some ⟨g5, 0, none⟩)), (5, .int .i64 0), (7, .pointer (some ⟨g18, 0, none⟩))] ⟨lg_, ⟨lg_, ⟨lg_, trivial⟩⟩⟩ (fun X23 => ?_)
 refine wp_seq_k fun K24 hK24 => ?_
 refine glStart 7 [.arr g2 52 (tbs (.slice (some ⟨b_, o_, none⟩) l.length cS) nx), .arr g5 25 ([.int .i64 0, .slice none 0 0, .int .i64 0, .slice none 0 0]), .arr g18 25 (hcs v.h v.A v.c v.B v.d)] hm21 kr_ ?_
 intro w26 hm25
 clear hm21
 refine glk (i := 0) (v := .pointer (some ⟨g18, 1, none⟩)) rfl rfl (fun _ _ _ h => h) (hm25.sub (.cons_cons _ (.cons_cons _ (.cons_cons _ .slnil)))) rfl ?_
 refine glTake (i := 1) (v := .slice v.A v.h.counts.length v.c) rfl kr_ (wn rfl) (fun _ _ _ h => h) (hm25.sub (.cons_cons _ (.cons_cons _ (.cons_cons _ .slnil)))) (fun w_ h_ => gLoad (v := .slice v.A v.h.counts.length v.c) (k := 1) 2 h_ rfl kr_ (.tmp 20) kr_ rfl le_) ?_
 refine glP rfl ?_
 refine glk (i := 3) (v := .pointer (some ⟨g18, 3, none⟩)) rfl rfl (fun _ _ _ h => h) (hm25.sub (.cons_cons _ (.cons_cons _ (.cons_cons _ .slnil)))) rfl ?_
 refine glTake (i := 4) (v := .slice v.B v.h.rn v.d) rfl kr_ (wn rfl) (fun _ _ _ h => h) (hm25.sub (.cons_cons _ (.cons_cons _ (.cons_cons _ .slnil)))) (fun w_ h_ => gLoad (v := .slice v.B v.h.rn v.d) (k := 3) 2 h_ rfl kr_ (.tmp 23) kr_ rfl le_) ?_
 refine glP rfl ?_
 refine glCall (i := 2) 55 [.slice v.A v.h.counts.length v.c] [] [] kr_ rfl kr_ (wn rfl) rfl le_ (litArgs kr_) (cloneI_any v.h.counts v.h.counts.length v.A v.c _ ((hv_.below hm25.bel).a) (by omega)) ?_
 rintro e w27 ⟨v29, rfl, hown_, hbz⟩
 obtain ⟨A30, c31, rfl, hrd_⟩ := Rd.of_own hown_
 clear hrd_
 have hm28 := hm25.newRow hbz hown_
 clear hown_ hbz
 try simp only [lc1_, lc2_, lc3_, lc4_] at hm28
 refine ⟨_, rfl, (hm28.sub (.cons_cons _ (.cons_cons _ (.cons_cons _ (.cons _ .slnil))))), ?_⟩
 refine glP rfl ?_
 refine glk (i := 6) (v := .pointer (some ⟨g18, 1, none⟩)) rfl rfl (fun _ _ _ h => h) (hm28.sub (.cons_cons _ (.cons_cons _ (.cons_cons _ (.cons _ .slnil))))) rfl ?_
 refine glCall (i := 5) 56 [.slice v.B v.h.rn v.d] [] [] kr_ rfl kr_ (wn rfl) rfl le_ (litArgs kr_) (cloneD_any v.h.D v.h.rn v.B v.d _ ((hv_.below hm28.bel).b) (by omega)) ?_
 rintro e w32 ⟨v34, rfl, hown_, hbz⟩
 obtain ⟨A35, c36, rfl, hrd_⟩ := Rd.of_own hown_
 clear hrd_
 have hm33 := hm28.newRow hbz hown_
 clear hown_ hbz
 try simp only [lc1_, lc2_, lc3_, lc4_] at hm33
 refine ⟨_, rfl, (hm33.sub (.cons_cons _ (.cons_cons _ (.cons_cons _ (.cons _ (.cons _ .slnil)))))), ?_⟩
 refine glP rfl ?_
 refine glStore1 (v := .slice A30 v.h.counts.length c31) (k := 1) 2 kr_ hm33 rfl kr_ (i := 7) rfl kr_ (wn rfl) rfl le_ le_ rfl rfl rfl ?_
 intro w38 hm37
 clear hm33
 try simp only [lc1_, lc2_, lc3_, lc4_] at hm37
 refine glNone rfl ?_
 refine glVal (i := 8) (v := .pointer (some ⟨g18, 3, none⟩)) kr_ rfl kr_ (wn rfl) (litRun kr_) ?_
 refine glP rfl ?_
 refine glStore1 (v := .slice A35 v.h.rn c36) (k := 3) 2 kr_ hm37 rfl kr_ (i := 9) rfl kr_ (wn rfl) rfl le_ le_ rfl rfl rfl ?_
 intro w40 hm39
 clear hm37
 try simp only [lc1_, lc2_, lc3_, lc4_] at hm39
 refine glNone rfl ?_
 refine glDone kr_ ?_
 refine tn_ hK24 ?_
 refine wp_seq_k fun K41 hK41 => ?_
 refine plStart ?_
 refine litVal (v := .agg ([.int .i64 v.h.tick, .slice A30 v.h.counts.length c31, .int .i64 v.h.depth, .slice A35 v.h.rn c36]).toArray) rfl (wn rfl) (gLoadAg (vs := [.int .i64 v.h.tick, .slice A30 v.h.counts.length c31, .int .i64 v.h.depth, .slice A35 v.h.rn c36]) (k := 0) 2 hm39 rfl kr_ kr_ (.tmp 7) Ty.ag_voxel_api_Header rfl le_) rfl (by decide) ?_
 refine plStore 1 Ty.ag_voxel_api_Header hm39 rfl (i := 1) (cs := [.int .i64 v.h.tick, .slice A30 v.h.counts.length c31, .int .i64 v.h.depth, .slice A35 v.h.rn c36]) rfl (wn rfl) rfl le_ le_ rfl rfl kr_ ?_
 intro w43 hm42
 clear hm39
 try simp only [lc1_, lc2_, lc3_, lc4_] at hm42
 refine qNone rfl ?_
 refine lk_ (.int .i64 0) ?_
 refine plD ?_
 refine tn_ hK41 ?_
 refine wp_ret ?_
 refine bodyPost_ret (v := .tuple #[.agg ([.int .i64 v.h.tick, .slice A30 v.h.counts.length c31, .int .i64 v.h.depth, .slice A35 v.h.rn c36]).toArray, .int .i64 0]) (gRes2 rfl (gResAg (cs := [.int .i64 v.h.tick, .slice A30 v.h.counts.length c31, .int .i64 v.h.depth, .slice A35 v.h.rn c36]) 1 hm42 rfl Ty.ag_voxel_api_Header rfl (lg_)) (gResTmp (t := 5) (v := .int .i64 0) (lg_))) rfl ?_
 have hfin_ := findHd_yes hk_ hkv
 exact ⟨⟨0, 0, v.h, A30, c31, A35, c36⟩, by rw [hfin_], by first | (rw [hfin_]; done) | (rw [hfin_]; rfl), ⟨(hm42.rdRow 3 rfl), (hm42.rdRow 4 rfl)⟩, Or.inr ⟨own_new (hm42.row 3 rfl), own_new (hm42.row 4 rfl)⟩, hm42.bel⟩
section
variable {l : List Lv} {nx num : Int} {k : Nat} {v : Lv}
theorem pinV_none (h : placeP l num < 0) : pinV (vrs l) nx num = ([], 0, 9) := by
 unfold pinV; rw [← placeP_vrs, if_pos h]
theorem pinV_full (h : ¬ placeP l num < 0) (h2 : 64 ≤ pinsP l) : pinV (vrs l) nx num = ([], 0, 18) := by
 unfold pinV; rw [← placeP_vrs, ← pinsP_vrs, if_neg h, if_pos h2]
theorem pinV_yes (hk : placeP l num = (k : Int)) (hv : l[k]? = some v) (h2 : ¬ 64 ≤ pinsP l) : pinV (vrs l) nx num = (vrs (l.set k { v with pins := v.pins + 1 }), nx, 0) := by
 unfold pinV; rw [← placeP_vrs, ← pinsP_vrs, hk, if_neg (by omega), if_neg h2, setPins_vrs hv]; rfl
theorem unpinV_none (h : placeP l num < 0) : unpinV (vrs l) nx num = ([], 0, 9) := by
 unfold unpinV; rw [← placeP_vrs, if_pos (Or.inl h)]
theorem unpinV_zero (hk : placeP l num = (k : Int)) (hv : l[k]? = some v) (h2 : v.pins = 0) : unpinV (vrs l) nx num = ([], 0, 9) := by
 unfold unpinV; rw [← placeP_vrs, hk, if_pos (Or.inr (by rw [Int.toNat_natCast, getD_some (vrs_get hv)]; exact h2))]
theorem unpinV_yes (hk : placeP l num = (k : Int)) (hv : l[k]? = some v) (h2 : ¬ v.pins = 0) : unpinV (vrs l) nx num = (vrs (l.set k { v with pins := v.pins + -1 }), nx, 0) := by
 unfold unpinV
 rw [← placeP_vrs, hk, if_neg (fun h => ?_), setPins_vrs hv]
 ·rfl
 ·rw [Int.toNat_natCast, getD_some (vrs_get hv)] at h
  rcases h with h | h
  ·omega
  ·exact h2 h
end
theorem pin_any (l : List Lv) (S : Option Addr) (cS : Nat) (nx : Int) (num : Int) (w : World) (hT : TbAt w l S cS) (hl : l.length ≤ 1000) (hp : PinsOk l) : Calls Tryz.prog 21 #[.agg (tbs (.slice S l.length cS) nx).toArray, .int .i64 num] w (fun e w' => ∃ l' S' c', e = .returned (.tuple #[.agg (tbs (.slice S' l'.length c') (pinV (vrs l) nx num).2.1).toArray, .int .i64 (pinV (vrs l) nx num).2.2]) ∧ vrs l' = (pinV (vrs l) nx num).1 ∧ TbAt w' l' S' c' ∧ NewT w.heap.size l l' S' ∧ Below w.heap.size w w') := by
 have hS := hT.rd
 have hall := hT.all
 have hm0 := Mem.nil w
 go_enter Tryz.func21, Tryz.ntmps21
 refine litStart 36 [(0, .agg (tbs (.slice S l.length cS) nx).toArray), (1, .int .i64 num)] kr_ (fun X0 => ?_)
 refine wp_seq_k fun K1 hK1 => ?_
 refine plStart ?_
 refine plBox hm0 (cs := tbs (.slice S l.length cS) nx) (i := 0) rfl (wn rfl) rfl le_ ?_
 intro g2 w4 hm3
 clear hm0
 try simp only [lc1_, lc2_, lc3_, lc4_] at hm3
 refine qP rfl ?_
 refine plAlloc (z := [.slice none 0 0, .int .i64 0]) Ty.ag_voxel_api_Versions hm3 (i := 1) rfl (wn rfl) rfl ?_
 intro g5 w7 hm6
 clear hm3
 try simp only [lc1_, lc2_, lc3_, lc4_] at hm6
 refine qP rfl ?_
 refine lk_ (.int .i64 0) ?_
 refine plD ?_
 refine tn_ hK1 ?_
 refine wp_seq_k fun K8 hK8 => ?_
 refine plStart ?_
 refine litVal (v := .agg (tbs (.slice S l.length cS) nx).toArray) rfl (wn rfl) (gLoadAg (vs := tbs (.slice S l.length cS) nx) (k := 0) 0 hm6 rfl kr_ kr_ (.tmp 2) Ty.ag_voxel_api_Versions rfl le_) rfl (by decide) ?_
 refine lk_ (.int .i64 num) ?_
 refine plCall (i := 2) 58 [.agg (tbs (.slice S l.length cS) nx).toArray, .int .i64 num] [] [] rfl kr_ (wn rfl) rfl le_ (litArgs kr_) (index_any l S cS nx num _ ((Rd.below hS hm6.bel).more hm6.bel.size) hl) ?_
 rintro e w9 ⟨rfl, hbz⟩
 have hm10 := hm6.below hbz
 clear hbz hm6
 refine ⟨_, rfl, ?_⟩
 refine qP rfl ?_
 refine lk_ (.int .i64 (placeP l num)) ?_
 refine lk_ (.int .i64 0) ?_
 refine plD ?_
 refine tn_ hK8 ?_
 refine wp_seq_k fun K11 hK11 => ?_
 refine wp_seq_k fun K12 hK12 => ?_
 refine plStart ?_
 refine lk_ (.pointer (some ⟨g2, 0, none⟩)) ?_
 refine litVal (v := .slice S l.length cS) rfl (wn rfl) (gLoad (v := .slice S l.length cS) (k := 0) 0 hm10 rfl kr_ (.tmp 13) kr_ rfl le_) rfl (by decide) ?_
 refine litVal (v := .int .i64 (l.length : Int)) rfl (wn rfl) (lenSlRun (A := S) (n := l.length) (c := cS) (.tmp 14) Ty.und_L_api_Version rfl le_) rfl (by decide) ?_
 refine lk_ (.int .i64 0) ?_
 refine plD ?_
 refine tn_ hK12 ?_
 refine wp_block ?_
 refine gwLoop (fun n_ a_ w_ => ∃ (k : Nat), n_ = l.length - k ∧ (k ≤ l.length) ∧ Fr a_ 36 [(2, .pointer (some ⟨g2, 0, none⟩)), (4, .pointer (some ⟨g5, 0, none⟩)), (5, .int .i64 0), (6, .int .i64 (placeP l num)), (7, .int .i64 (pinsP (l.take k))), (14, .slice S l.length cS), (15, .int .i64 (l.length : Int)), (16, .int .i64 (k : Int))] ∧ Mem w w_ [.arr g2 52 (tbs (.slice S l.length cS) nx), .arr g5 52 ([.slice none 0 0, .int .i64 0])]) (l.length - 0) ⟨0, rfl, (Nat.zero_le _), ⟨litSize, rfl, ⟨lg_, ⟨lg_, ⟨lg_, ⟨lg_, ⟨lg_, ⟨lg_, ⟨lg_, ⟨lg_, trivial⟩⟩⟩⟩⟩⟩⟩⟩⟩, (hm10.sub (.cons_cons _ (.cons_cons _ .slnil)))⟩ ?_
 clear hm10
 intro n_ a15 w13 hI_
 obtain ⟨k, rfl, hk, hF_, hm14⟩ := hI_
 obtain ⟨X16, rfl⟩ := frLit hF_
 clear hF_
 refine wp_seq_k fun K17 hK17 => ?_
 refine plStart ?_
 by_cases h18 : (k : Int) < (l.length : Int)
 ·obtain ⟨v, hkv⟩ : ∃ v, l[k]? = some v := ⟨_, List.getElem?_eq_getElem (by omega)⟩
  have hpv_ := hp v (List.mem_of_getElem? hkv)
  have hpb_ := pinsP_bd (l := l.take k) (fun u hu => hp u (List.mem_of_mem_take hu))
  have hlt_ : (l.take k).length ≤ 1000 := by rw [List.length_take]; omega
  obtain ⟨b_, o_, rfl, _, _⟩ := hS.cells (by omega)
  refine litVal (v := .bool true) rfl (wn rfl) (boolTo (decide_eq_true h18) (lssRun (A := (k : Int)) (B := (l.length : Int)) (.tmp 16) (.tmp 15) rfl le_ le_)) rfl (by decide) ?_
  refine plD ?_
  refine tn_ hK17 ?_
  refine wp_seq_k fun K19 hK19 => ?_
  refine wp_cond_true le_ ?_
  refine wp_skip ?_
  refine tn_ hK19 ?_
  refine wp_seq_k fun K20 hK20 => ?_
  refine wp_block ?_
  refine wp_seq_k fun K21 hK21 => ?_
  refine plStart ?_
  refine litVal (v := .pointer (some ⟨b_, o_ + k * 6, none⟩)) rfl (wn rfl) (gIaSl (b := b_) (off := o_) (n := l.length) (c := cS) (kk := .i64) (K := (k : Int)) (.tmp 14) (.tmp 16) k Ty.sl_L_api_Version rfl le_ le_ (rfl) (by omega)) rfl (by decide) ?_
  refine litVal (v := .agg (lvc v).toArray) rfl (wn rfl) (gLoadAgRd (vs := lvc v) (m := k * 6) ((Rd.below hS hm14.bel).more hm14.bel.size) rfl (fun i_ u_ hu_ => lvs_get hkv i_ u_ hu_) kr_ (by omega) (.tmp 18) Ty.ag_voxel_api_Version rfl le_) rfl (by decide) ?_
  refine plAlloc (z := [.int .i64 0, .int .i64 0, .int .i64 0, .slice none 0 0, .int .i64 0, .slice none 0 0]) Ty.ag_voxel_api_Version hm14 (i := 2) rfl (wn rfl) rfl ?_
  intro g22 w24 hm23
  clear hm14
  try simp only [lc1_, lc2_, lc3_, lc4_] at hm23
  refine qP rfl ?_
  refine plStore 2 Ty.ag_voxel_api_Version hm23 rfl (i := 3) (cs := lvc v) rfl (wn rfl) rfl le_ le_ rfl rfl kr_ ?_
  intro w26 hm25
  clear hm23
  try simp only [lc1_, lc2_, lc3_, lc4_] at hm25
  refine qNone rfl ?_
  refine plD ?_
  refine tn_ hK21 ?_
  refine plStart ?_
  refine lk_ (.int .i64 (pinsP (l.take k))) ?_
  refine lk_ (.pointer (some ⟨g22, 1, none⟩)) ?_
  refine litVal (v := .int .i64 v.pins) rfl (wn rfl) (gLoad (v := .int .i64 v.pins) (k := 1) 2 hm25 rfl kr_ (.tmp 21) kr_ rfl le_) rfl (by decide) ?_
  refine litVal (v := .int .i64 (pinsP (l.take (k + 1)))) rfl (wn rfl) (addRun (A := (pinsP (l.take k))) (B := v.pins) (C := pinsP (l.take (k + 1))) (.tmp 20) (.tmp 22) rfl le_ le_ (pinsP_take hkv).symm (by rw [pinsP_take hkv]; omega)) rfl (by decide) ?_
  refine lk_ (.int .i64 (pinsP (l.take (k + 1)))) ?_
  refine plD ?_
  refine inBlock_normal ?_
  refine tn_ hK20 ?_
  refine plStart ?_
  refine litVal (v := .int .i64 ((k : Int) + 1)) rfl (wn rfl) (addRun (A := (k : Int)) (B := 1) (C := (k : Int) + 1) (.tmp 16) (.const (.int .i64 1)) rfl le_ le_ rfl (by omega)) rfl (by decide) ?_
  refine lk_ (.int .i64 ((k : Int) + 1)) ?_
  refine plD ?_
  refine then_normal ?_
  exact ⟨_, by omega, (k + 1), rfl, (by omega), ⟨litSize, rfl, ⟨lg_, ⟨lg_, ⟨lg_, ⟨lg_, ⟨lg_, ⟨lg_, ⟨lg_, ⟨lg_, trivial⟩⟩⟩⟩⟩⟩⟩⟩⟩, (hm25.sub (.cons_cons _ (.cons_cons _ (.cons _ .slnil))))⟩
 have hpt_ : l.take k = l := List.take_of_length_le (by omega)
 rw [hpt_]
 refine litVal (v := .bool false) rfl (wn rfl) (boolTo (decide_eq_false h18) (lssRun (A := (k : Int)) (B := (l.length : Int)) (.tmp 16) (.tmp 15) rfl le_ le_)) rfl (by decide) ?_
 refine plD ?_
 refine tn_ hK17 ?_
 refine wp_seq_k fun K27 hK27 => ?_
 refine wp_cond_false le_ ?_
 refine wp_exit ?_
 refine then_exit ?_
 refine then_exit ?_
 refine inBlock_exit ?_
 refine tn_ hK11 ?_
 refine wp_seq_k fun K28 hK28 => ?_
 refine wp_block ?_
 refine wp_seq_k fun K29 hK29 => ?_
 refine plStart ?_
 refine lk_ (.int .i64 (placeP l num)) ?_
 by_cases h30 : (placeP l num) < 0
 ·refine litVal (v := .bool true) rfl (wn rfl) (boolTo (decide_eq_true h30) (lssRun (A := (placeP l num)) (B := 0) (.tmp 26) (.const (.int .i64 0)) rfl le_ le_)) rfl (by decide) ?_
  refine lk_ (.bool true) ?_
  refine plD ?_
  refine tn_ hK29 ?_
  refine wp_cond_true le_ ?_
  refine wp_seq_k fun K31 hK31 => ?_
  refine plStart ?_
  refine lk_ (.agg ([.slice none 0 0, .int .i64 0]).toArray) ?_
  refine plStore 1 Ty.ag_voxel_api_Versions hm14 rfl (i := 1) (cs := [.slice none 0 0, .int .i64 0]) rfl (wn rfl) rfl le_ le_ rfl rfl kr_ ?_
  intro w33 hm32
  clear hm14
  try simp only [lc1_, lc2_, lc3_, lc4_] at hm32
  refine qNone rfl ?_
  refine lk_ (.int .i64 9) ?_
  refine plD ?_
  refine tn_ hK31 ?_
  refine wp_ret ?_
  refine inBlock_ret ?_
  refine then_ret ?_
  refine bodyPost_ret (v := .tuple #[.agg ([.slice none 0 0, .int .i64 0]).toArray, .int .i64 9]) (gRes2 rfl (gResAg (cs := [.slice none 0 0, .int .i64 0]) 1 hm32 rfl Ty.ag_voxel_api_Versions rfl (lg_)) (gResTmp (t := 5) (v := .int .i64 9) (lg_))) rfl ?_
  have hfin_ := pinV_none (nx := nx) h30
  exact ⟨[], none, 0, by rw [hfin_]; rfl, by rw [hfin_]; rfl, TbAt.nil _, NewT.nil _ _, hm32.bel⟩
 obtain ⟨k, v, hk_, hkv, _⟩ : ∃ (i : Nat) (v : Lv), placeP l num = (i : Int) ∧ l[i]? = some v ∧ v.num = num := by
  rcases placeP_spec num l with h_ | h_
  ·exact absurd h_.1 (by omega)
  ·exact h_
 have hkl_ := (List.getElem?_eq_some_iff.1 hkv).1
 have hpv_ := hp v (List.mem_of_getElem? hkv)
 refine litVal (v := .bool false) rfl (wn rfl) (boolTo (decide_eq_false h30) (lssRun (A := (placeP l num)) (B := 0) (.tmp 26) (.const (.int .i64 0)) rfl le_ le_)) rfl (by decide) ?_
 refine lk_ (.bool false) ?_
 refine plD ?_
 refine tn_ hK29 ?_
 refine wp_cond_false le_ ?_
 refine wp_seq_k fun K34 hK34 => ?_
 refine plStart ?_
 refine lk_ (.int .i64 (pinsP l)) ?_
 by_cases h35 : 64 ≤ (pinsP l)
 ·refine litVal (v := .bool true) rfl (wn rfl) (boolTo (decide_eq_true h35) (gGeq (A := (pinsP l)) (B := 64) (.tmp 30) (.const (.int .i64 64)) rfl le_ le_)) rfl (by decide) ?_
  refine lk_ (.bool true) ?_
  refine plD ?_
  refine tn_ hK34 ?_
  refine wp_cond_true le_ ?_
  refine wp_seq_k fun K36 hK36 => ?_
  refine plStart ?_
  refine lk_ (.agg ([.slice none 0 0, .int .i64 0]).toArray) ?_
  refine plStore 1 Ty.ag_voxel_api_Versions hm14 rfl (i := 1) (cs := [.slice none 0 0, .int .i64 0]) rfl (wn rfl) rfl le_ le_ rfl rfl kr_ ?_
  intro w38 hm37
  clear hm14
  try simp only [lc1_, lc2_, lc3_, lc4_] at hm37
  refine qNone rfl ?_
  refine lk_ (.int .i64 18) ?_
  refine plD ?_
  refine tn_ hK36 ?_
  refine wpPrune [(2, .pointer (some ⟨g2, 0, none⟩)), (4, .pointer (some ⟨g5, 0, none⟩)), (5, .int .i64 18), (6, .int .i64 (placeP l num))] ⟨lg_, ⟨lg_, ⟨lg_, ⟨lg_, trivial⟩⟩⟩⟩ (fun X39 => ?_)
  refine wp_ret ?_
  refine inBlock_ret ?_
  refine then_ret ?_
  refine bodyPost_ret (v := .tuple #[.agg ([.slice none 0 0, .int .i64 0]).toArray, .int .i64 18]) (gRes2 rfl (gResAg (cs := [.slice none 0 0, .int .i64 0]) 1 hm37 rfl Ty.ag_voxel_api_Versions rfl (lg_)) (gResTmp (t := 5) (v := .int .i64 18) (lg_))) rfl ?_
  have hfin_ := pinV_full (nx := nx) h30 h35
  exact ⟨[], none, 0, by rw [hfin_]; rfl, by rw [hfin_]; rfl, TbAt.nil _, NewT.nil _ _, hm37.bel⟩
 refine litVal (v := .bool false) rfl (wn rfl) (boolTo (decide_eq_false h35) (gGeq (A := (pinsP l)) (B := 64) (.tmp 30) (.const (.int .i64 64)) rfl le_ le_)) rfl (by decide) ?_
 refine lk_ (.bool false) ?_
 refine plD ?_
 refine tn_ hK34 ?_
 refine wp_cond_false le_ ?_
 refine wp_skip ?_
 refine inBlock_normal ?_
 refine tn_ hK28 ?_
 refine wp_seq_k fun K40 hK40 => ?_
 refine plStart ?_
 refine litVal (v := .agg (tbs (.slice S l.length cS) nx).toArray) rfl (wn rfl) (gLoadAg (vs := tbs (.slice S l.length cS) nx) (k := 0) 0 hm14 rfl kr_ kr_ (.tmp 2) Ty.ag_voxel_api_Versions rfl le_) rfl (by decide) ?_
 refine lk_ (.int .i64 (placeP l num)) ?_
 refine plCall (i := 2) 59 [.agg (tbs (.slice S l.length cS) nx).toArray, .int .i64 (placeP l num), .int .i64 1] [] [] rfl kr_ (wn rfl) rfl le_ (litArgs kr_) (by have h_ := move_any l S cS nx k v 1 _ (hT.below hm14.bel) hl hkv hpv_ (by decide); rw [← hk_] at h_; exact h_) ?_
 rintro e w41 ⟨S43, c44, rfl, hT_, hN_, hbz⟩
 have hm42 := hm14.newRd hbz hT_.rd hN_.s
 replace hN_ := hN_.mono hm14.bel.size
 clear hbz hT_
 clear hm14
 try simp only [lc1_, lc2_, lc3_, lc4_] at hm42
 refine ⟨_, rfl, ?_⟩
 refine qP rfl ?_
 refine plStore 1 Ty.ag_voxel_api_Versions hm42 rfl (i := 3) (cs := tbs (.slice S43 ((l.set k { v with pins := v.pins + 1 }).length) c44) nx) rfl (wn rfl) rfl le_ le_ rfl rfl kr_ ?_
 intro w46 hm45
 clear hm42
 try simp only [lc1_, lc2_, lc3_, lc4_] at hm45
 refine qNone rfl ?_
 refine lk_ (.int .i64 0) ?_
 refine plD ?_
 refine tn_ hK40 ?_
 refine wpPrune [(4, .pointer (some ⟨g5, 0, none⟩)), (5, .int .i64 0)] ⟨lg_, ⟨lg_, trivial⟩⟩ (fun X47 => ?_)
 refine wp_ret ?_
 refine bodyPost_ret (v := .tuple #[.agg (tbs (.slice S43 ((l.set k { v with pins := v.pins + 1 }).length) c44) nx).toArray, .int .i64 0]) (gRes2 rfl (gResAg (cs := tbs (.slice S43 ((l.set k { v with pins := v.pins + 1 }).length) c44) nx) 1 hm45 rfl Ty.ag_voxel_api_Versions rfl (lg_)) (gResTmp (t := 5) (v := .int .i64 0) (lg_))) rfl ?_
 have hfin_ := pinV_yes (nx := nx) hk_ hkv h35
 exact ⟨l.set k { v with pins := v.pins + 1 }, S43, c44, by first | (rw [hfin_]; done) | (rw [hfin_]; rfl), by first | (rw [hfin_]; done) | (rw [hfin_]; rfl), ⟨hm45.rd 2 rfl, (AllAt.set hall hkv _).below hm45.bel⟩, hN_, hm45.bel⟩
theorem unpin_any (l : List Lv) (S : Option Addr) (cS : Nat) (nx : Int) (num : Int) (w : World) (hT : TbAt w l S cS) (hl : l.length ≤ 1000) (hp : PinsOk l) : Calls Tryz.prog 23 #[.agg (tbs (.slice S l.length cS) nx).toArray, .int .i64 num] w (fun e w' => ∃ l' S' c', e = .returned (.tuple #[.agg (tbs (.slice S' l'.length c') (unpinV (vrs l) nx num).2.1).toArray, .int .i64 (unpinV (vrs l) nx num).2.2]) ∧ vrs l' = (unpinV (vrs l) nx num).1 ∧ TbAt w' l' S' c' ∧ NewT w.heap.size l l' S' ∧ Below w.heap.size w w') := by
 have hS := hT.rd
 have hall := hT.all
 have hm0 := Mem.nil w
 go_enter Tryz.func23, Tryz.ntmps23
 refine litStart 25 [(0, .agg (tbs (.slice S l.length cS) nx).toArray), (1, .int .i64 num)] kr_ (fun X0 => ?_)
 refine wp_seq_k fun K1 hK1 => ?_
 refine plStart ?_
 refine plBox hm0 (cs := tbs (.slice S l.length cS) nx) (i := 0) rfl (wn rfl) rfl le_ ?_
 intro g2 w4 hm3
 clear hm0
 try simp only [lc1_, lc2_, lc3_, lc4_] at hm3
 refine qP rfl ?_
 refine plAlloc (z := [.slice none 0 0, .int .i64 0]) Ty.ag_voxel_api_Versions hm3 (i := 1) rfl (wn rfl) rfl ?_
 intro g5 w7 hm6
 clear hm3
 try simp only [lc1_, lc2_, lc3_, lc4_] at hm6
 refine qP rfl ?_
 refine lk_ (.int .i64 0) ?_
 refine plD ?_
 refine tn_ hK1 ?_
 refine wp_seq_k fun K8 hK8 => ?_
 refine plStart ?_
 refine litVal (v := .agg (tbs (.slice S l.length cS) nx).toArray) rfl (wn rfl) (gLoadAg (vs := tbs (.slice S l.length cS) nx) (k := 0) 0 hm6 rfl kr_ kr_ (.tmp 2) Ty.ag_voxel_api_Versions rfl le_) rfl (by decide) ?_
 refine lk_ (.int .i64 num) ?_
 refine plCall (i := 2) 58 [.agg (tbs (.slice S l.length cS) nx).toArray, .int .i64 num] [] [] rfl kr_ (wn rfl) rfl le_ (litArgs kr_) (index_any l S cS nx num _ ((Rd.below hS hm6.bel).more hm6.bel.size) hl) ?_
 rintro e w9 ⟨rfl, hbz⟩
 have hm10 := hm6.below hbz
 clear hbz hm6
 refine ⟨_, rfl, ?_⟩
 refine qP rfl ?_
 refine lk_ (.int .i64 (placeP l num)) ?_
 refine plD ?_
 refine tn_ hK8 ?_
 refine wp_seq_k fun K11 hK11 => ?_
 refine wp_seq_k fun K12 hK12 => ?_
 refine plStart ?_
 refine lk_ (.int .i64 (placeP l num)) ?_
 by_cases h13 : (placeP l num) < 0
 ·refine litVal (v := .bool true) rfl (wn rfl) (boolTo (decide_eq_true h13) (lssRun (A := (placeP l num)) (B := 0) (.tmp 10) (.const (.int .i64 0)) rfl le_ le_)) rfl (by decide) ?_
  refine lk_ (.bool true) ?_
  refine ps_ (i := 3) ?_
  refine ps_ (i := 4) ?_
  refine ps_ (i := 5) ?_
  refine ps_ (i := 6) ?_
  refine ps_ (i := 7) ?_
  refine ps_ (i := 8) ?_
  refine ps_ (i := 9) ?_
  refine lk_ (.bool true) ?_
  refine plD ?_
  refine tn_ hK12 ?_
  refine wpPrune [(2, .pointer (some ⟨g2, 0, none⟩)), (4, .pointer (some ⟨g5, 0, none⟩)), (5, .int .i64 0), (6, .int .i64 (placeP l num)), (20, .bool true)] ⟨lg_, ⟨lg_, ⟨lg_, ⟨lg_, ⟨lg_, trivial⟩⟩⟩⟩⟩ (fun X14 => ?_)
  refine wp_cond_true le_ ?_
  refine wp_seq_k fun K15 hK15 => ?_
  refine plStart ?_
  refine lk_ (.agg ([.slice none 0 0, .int .i64 0]).toArray) ?_
  refine plStore 1 Ty.ag_voxel_api_Versions hm10 rfl (i := 1) (cs := [.slice none 0 0, .int .i64 0]) rfl (wn rfl) rfl le_ le_ rfl rfl kr_ ?_
  intro w17 hm16
  clear hm10
  try simp only [lc1_, lc2_, lc3_, lc4_] at hm16
  refine qNone rfl ?_
  refine lk_ (.int .i64 9) ?_
  refine plD ?_
  refine tn_ hK15 ?_
  refine wp_ret ?_
  refine then_ret ?_
  refine bodyPost_ret (v := .tuple #[.agg ([.slice none 0 0, .int .i64 0]).toArray, .int .i64 9]) (gRes2 rfl (gResAg (cs := [.slice none 0 0, .int .i64 0]) 1 hm16 rfl Ty.ag_voxel_api_Versions rfl (lg_)) (gResTmp (t := 5) (v := .int .i64 9) (lg_))) rfl ?_
  have hfin_ := unpinV_none (nx := nx) h13
  exact ⟨[], none, 0, by rw [hfin_]; rfl, by rw [hfin_]; rfl, TbAt.nil _, NewT.nil _ _, hm16.bel⟩
 obtain ⟨k, v, hk_, hkv, _⟩ : ∃ (i : Nat) (v : Lv), placeP l num = (i : Int) ∧ l[i]? = some v ∧ v.num = num := by
  rcases placeP_spec num l with h_ | h_
  ·exact absurd h_.1 (by omega)
  ·exact h_
 have hkl_ := (List.getElem?_eq_some_iff.1 hkv).1
 have hpv_ := hp v (List.mem_of_getElem? hkv)
 obtain ⟨b_, o_, rfl, _, _⟩ := hS.cells (by omega)
 refine litVal (v := .bool false) rfl (wn rfl) (boolTo (decide_eq_false h13) (lssRun (A := (placeP l num)) (B := 0) (.tmp 10) (.const (.int .i64 0)) rfl le_ le_)) rfl (by decide) ?_
 refine lk_ (.bool false) ?_
 refine litVal (v := .pointer (some ⟨g2, 0, none⟩)) rfl (wgY rfl rfl rfl (by decide) kr_) (litRun kr_) rfl (by decide) ?_
 refine litVal (v := .slice (some ⟨b_, o_, none⟩) l.length cS) rfl (wgY rfl rfl rfl (by decide) kr_) (gLoad (v := .slice (some ⟨b_, o_, none⟩) l.length cS) (k := 0) 0 hm10 rfl kr_ (.tmp 13) kr_ rfl le_) rfl (by decide) ?_
 refine litVal (v := .int .i64 (placeP l num)) rfl (wgY rfl rfl rfl (by decide) kr_) (litRun kr_) rfl (by decide) ?_
 refine litVal (v := .pointer (some ⟨b_, o_ + k * 6, none⟩)) rfl (wgY rfl rfl rfl (by decide) kr_) (gIaSl (b := b_) (off := o_) (n := l.length) (c := cS) (kk := .i64) (K := (placeP l num)) (.tmp 14) (.tmp 15) k Ty.sl_L_api_Version rfl le_ le_ (hk_) (hkl_)) rfl (by decide) ?_
 refine litVal (v := .pointer (some ⟨b_, o_ + k * 6 + 1, none⟩)) rfl (wgY rfl rfl rfl (by decide) kr_) (litRun kr_) rfl (by decide) ?_
 refine litVal (v := .int .i64 v.pins) rfl (wgY rfl rfl rfl (by decide) kr_) (gLoadRd (v := .int .i64 v.pins) (m := k * 6 + 1) ((Rd.below hS hm10.bel).more hm10.bel.size) rfl (lvs_get hkv 1 _ rfl) (by omega) (.tmp 17) kr_ rfl le_) rfl (by decide) ?_
 by_cases h18 : v.pins = 0
 ·refine litVal (v := .bool true) rfl (wgY rfl rfl rfl (by decide) kr_) (boolTo (decide_eq_true h18) (eqlRun (A := v.pins) (B := 0) (.tmp 18) (.const (.int .i64 0)) rfl le_ le_)) rfl (by decide) ?_
  refine lk_ (.bool true) ?_
  refine plD ?_
  refine tn_ hK12 ?_
  refine wpPrune [(2, .pointer (some ⟨g2, 0, none⟩)), (4, .pointer (some ⟨g5, 0, none⟩)), (5, .int .i64 0), (6, .int .i64 (placeP l num)), (20, .bool true)] ⟨lg_, ⟨lg_, ⟨lg_, ⟨lg_, ⟨lg_, trivial⟩⟩⟩⟩⟩ (fun X19 => ?_)
  refine wp_cond_true le_ ?_
  refine wp_seq_k fun K20 hK20 => ?_
  refine plStart ?_
  refine lk_ (.agg ([.slice none 0 0, .int .i64 0]).toArray) ?_
  refine plStore 1 Ty.ag_voxel_api_Versions hm10 rfl (i := 1) (cs := [.slice none 0 0, .int .i64 0]) rfl (wn rfl) rfl le_ le_ rfl rfl kr_ ?_
  intro w22 hm21
  clear hm10
  try simp only [lc1_, lc2_, lc3_, lc4_] at hm21
  refine qNone rfl ?_
  refine lk_ (.int .i64 9) ?_
  refine plD ?_
  refine tn_ hK20 ?_
  refine wp_ret ?_
  refine then_ret ?_
  refine bodyPost_ret (v := .tuple #[.agg ([.slice none 0 0, .int .i64 0]).toArray, .int .i64 9]) (gRes2 rfl (gResAg (cs := [.slice none 0 0, .int .i64 0]) 1 hm21 rfl Ty.ag_voxel_api_Versions rfl (lg_)) (gResTmp (t := 5) (v := .int .i64 9) (lg_))) rfl ?_
  have hfin_ := unpinV_zero (nx := nx) hk_ hkv h18
  exact ⟨[], none, 0, by rw [hfin_]; rfl, by rw [hfin_]; rfl, TbAt.nil _, NewT.nil _ _, hm21.bel⟩
 refine litVal (v := .bool false) rfl (wgY rfl rfl rfl (by decide) kr_) (boolTo (decide_eq_false h18) (eqlRun (A := v.pins) (B := 0) (.tmp 18) (.const (.int .i64 0)) rfl le_ le_)) rfl (by decide) ?_
 refine lk_ (.bool false) ?_
 refine plD ?_
 refine tn_ hK12 ?_
 refine wpPrune [(2, .pointer (some ⟨g2, 0, none⟩)), (4, .pointer (some ⟨g5, 0, none⟩)), (5, .int .i64 0), (6, .int .i64 (placeP l num)), (20, .bool false)] ⟨lg_, ⟨lg_, ⟨lg_, ⟨lg_, ⟨lg_, trivial⟩⟩⟩⟩⟩ (fun X23 => ?_)
 refine wp_cond_false le_ ?_
 refine wp_skip ?_
 refine tn_ hK11 ?_
 refine wp_seq_k fun K24 hK24 => ?_
 refine plStart ?_
 refine litVal (v := .agg (tbs (.slice (some ⟨b_, o_, none⟩) l.length cS) nx).toArray) rfl (wn rfl) (gLoadAg (vs := tbs (.slice (some ⟨b_, o_, none⟩) l.length cS) nx) (k := 0) 0 hm10 rfl kr_ kr_ (.tmp 2) Ty.ag_voxel_api_Versions rfl le_) rfl (by decide) ?_
 refine lk_ (.int .i64 (placeP l num)) ?_
 refine plCall (i := 2) 59 [.agg (tbs (.slice (some ⟨b_, o_, none⟩) l.length cS) nx).toArray, .int .i64 (placeP l num), .int .i64 (-1)] [] [] rfl kr_ (wn rfl) rfl le_ (litArgs kr_) (by have h_ := move_any l (some ⟨b_, o_, none⟩) cS nx k v (-1) _ (hT.below hm10.bel) hl hkv hpv_ (by decide); rw [← hk_] at h_; exact h_) ?_
 rintro e w25 ⟨S27, c28, rfl, hT_, hN_, hbz⟩
 have hm26 := hm10.newRd hbz hT_.rd hN_.s
 replace hN_ := hN_.mono hm10.bel.size
 clear hbz hT_
 clear hm10
 try simp only [lc1_, lc2_, lc3_, lc4_] at hm26
 refine ⟨_, rfl, ?_⟩
 refine qP rfl ?_
 refine plStore 1 Ty.ag_voxel_api_Versions hm26 rfl (i := 3) (cs := tbs (.slice S27 ((l.set k { v with pins := v.pins + -1 }).length) c28) nx) rfl (wn rfl) rfl le_ le_ rfl rfl kr_ ?_
 intro w30 hm29
 clear hm26
 try simp only [lc1_, lc2_, lc3_, lc4_] at hm29
 refine qNone rfl ?_
 refine lk_ (.int .i64 0) ?_
 refine plD ?_
 refine tn_ hK24 ?_
 refine wp_ret ?_
 refine bodyPost_ret (v := .tuple #[.agg (tbs (.slice S27 ((l.set k { v with pins := v.pins + -1 }).length) c28) nx).toArray, .int .i64 0]) (gRes2 rfl (gResAg (cs := tbs (.slice S27 ((l.set k { v with pins := v.pins + -1 }).length) c28) nx) 1 hm29 rfl Ty.ag_voxel_api_Versions rfl (lg_)) (gResTmp (t := 5) (v := .int .i64 0) (lg_))) rfl ?_
 have hfin_ := unpinV_yes (nx := nx) hk_ hkv h18
 exact ⟨l.set k { v with pins := v.pins + -1 }, S27, c28, by first | (rw [hfin_]; done) | (rw [hfin_]; rfl), by first | (rw [hfin_]; done) | (rw [hfin_]; rfl), ⟨hm29.rd 2 rfl, (AllAt.set hall hkv _).below hm29.bel⟩, hN_, hm29.bel⟩
theorem pow_pair : ∀ (x x' y y' : Nat), 2 ^ x * (2 * y + 1) = 2 ^ x' * (2 * y' + 1) → x = x' ∧ y = y'
 | 0, 0, y, y', h => ⟨rfl, by simp at h; omega⟩
 | 0, x' + 1, y, y', h => by
  exfalso
  rw [Nat.pow_succ, Nat.mul_comm (2 ^ x') 2, Nat.mul_assoc] at h
  generalize 2 ^ x' * (2 * y' + 1) = t at h
  simp at h
  omega
 | x + 1, 0, y, y', h => by
  exfalso
  rw [Nat.pow_succ, Nat.mul_comm (2 ^ x) 2, Nat.mul_assoc] at h
  generalize 2 ^ x * (2 * y + 1) = t at h
  simp at h
  omega
 | x + 1, x' + 1, y, y', h => by
  rw [Nat.pow_succ, Nat.mul_comm (2 ^ x) 2, Nat.mul_assoc, Nat.pow_succ, Nat.mul_comm (2 ^ x') 2, Nat.mul_assoc] at h
  have h2 := pow_pair x x' y y' (by omega)
  omega
open Classical in
noncomputable def unpair (k : Nat) : Nat × Nat := if h : ∃ p : Nat × Nat, k = 2 ^ p.1 * (2 * p.2 + 1) then Classical.choose h else (0, 0)
theorem unpair_eq (x y : Nat) : unpair (2 ^ x * (2 * y + 1)) = (x, y) := by
 have h : ∃ p : Nat × Nat, 2 ^ x * (2 * y + 1) = 2 ^ p.1 * (2 * p.2 + 1) := ⟨(x, y), rfl⟩
 unfold unpair
 rw [dif_pos h]
 have h2 := Classical.choose_spec h
 have h3 := pow_pair _ _ _ _ h2
 exact Prod.ext h3.1.symm h3.2.symm
noncomputable def rA (k : Nat) : Option Addr := match (unpair k).1 with
 | 0 => none
 | g + 1 => some ⟨g, 0, none⟩
noncomputable def rC (k : Nat) : Nat := (unpair k).2
theorem r_none (c : Nat) : ∃ k, rA k = none ∧ rC k = c := ⟨2 ^ 0 * (2 * c + 1), by unfold rA; rw [unpair_eq], by unfold rC; rw [unpair_eq]⟩
theorem r_some (g c : Nat) : ∃ k, rA k = some ⟨g, 0, none⟩ ∧ rC k = c := ⟨2 ^ (g + 1) * (2 * c + 1), by unfold rA; rw [unpair_eq], by unfold rC; rw [unpair_eq]⟩
theorem own_code {w : World} {base size n : Nat} {e : TypeId} {v : Value} {xs : List Value} (h : w.ownsRow base e size v n xs) : ∃ k, v = .slice (rA k) n (rC k) := by
 rcases h.2 with ⟨rfl, rfl⟩ | ⟨g, cap, cur, rfl, _⟩
 ·obtain ⟨k, h1, h2⟩ := r_none 0
  exact ⟨k, by rw [h1, h2]⟩
 ·obtain ⟨k, h1, h2⟩ := r_some g cap
  exact ⟨k, by rw [h1, h2]⟩
section
variable {P : Program} {ops : Array Oper} {Q : Exit → Act → World → Prop} {w0 : World} {a0 : Act} {N : Nat} {val : Nat → List Nat → Value} {adr : Nat → List Nat} {L : (Nat → Bool) → (Nat → Nat) → List Res} {i : Nat} {o : Oper}
theorem Mem.setNewRow {w w' : World} {M : List Res} {e : TypeId} {size n : Nat} {v : Value} {xs : List Value} (h : Mem w0 w M) (j : Nat) {r : Res} (_hj : M[j]? = some r) (hA : w'.ownsRow w.heap.size e size v n xs) (b : Below w.heap.size w w') : Mem w0 w' (M.set j (.row v e size n xs)) := by
 refine ⟨h.bel.trans (b.mono h.bel.size), fun s hs => ?_, resApart_set h.apart fun k s hk hs => ?_⟩
 ·rcases resMem_set_ne hs with rfl | ⟨k, _, hk⟩
  ·exact ownsRow_base hA h.bel.size
  ·exact (h.each s (List.mem_of_getElem? hk)).below b
 ·cases hb : (Res.row v e size n xs).blk with
  | none => exact Or.inr (Or.inl hb)
  | some g =>
   refine Or.inr (Or.inr fun e2 => ?_)
   have h2 := (h.each s (List.mem_of_getElem? hs)).lt (g := g) (e2.symm.trans hb)
   have h3 := (World.ownsRow.lt hA g hb).1
   omega
theorem aoCallRow {c : Operand} {args : Array Operand} {argTypes : Array TypeId} {e : TypeId} {size n : Nat} {xs : List Value} (j : Nat) (li : (Nat → Nat) → List (Nat × Value)) (hfr : ∀ g a, AoKn ops a0 N val adr i g a → FrIs a (li g)) (f : FuncId) (vals : (Nat → Nat) → List Value) (first caps : List Value)
 (hf : callable P f = true) (hw : ∀ g X, Region.wanted o (yielded ops (lit N X (li g)).tmps) = true) (ho : o.op = .call { callee := .value c, args, argTypes })
 (hc : ∀ g X, (lit N X (li g)).eval c = .func (.func f) first.toArray caps.toArray) (hargs : ∀ g X, args.toList.map (lit N X (li g)).eval = vals g)
 (hC : ∀ b g w, AoB ops i b → Mem w0 w (L b g) → Calls P f (first ++ vals g ++ caps).toArray w (fun e' w' => ∃ v, e' = .returned v ∧ w'.ownsRow w.heap.size e size v n xs ∧ Below w.heap.size w w'))
 (hj : ∀ b g, AoB ops i b → ∃ r, (L b g)[j]? = some r) (hL : ∀ b g γ, AoB ops i b → L (upd b i true) (upd g i γ) = (L b g).set j (.row (.slice (rA γ) n (rC γ)) e size n xs))
 (hv : ∀ γ, val i [γ] = .slice (rA γ) n (rC γ)) (ha : adr i = [i]) : AoStep P ops Q w0 a0 N val adr L i o := by
 intro b g a w hb hp hp2 hk hm
 obtain ⟨X, rfl⟩ := frLit (⟨hk.size, hk.defers, hfr g a hk⟩ : Fr a N (li g))
 obtain ⟨r, hr⟩ := hj b g ⟨hb, hp, hp2⟩
 refine callOp f (vals g) first caps hf (hw g X) ho (hc g X) (hargs g X) ((hC b g w ⟨hb, hp, hp2⟩ hm).mono ?_)
 rintro e' w' ⟨v, rfl, hown, hB⟩
 obtain ⟨k, rfl⟩ := own_code hown
 refine ⟨_, rfl, k, ?_, ?_⟩
 ·rw [ha]; simp [upd, hv]
 ·rw [hL b g _ ⟨hb, hp, hp2⟩]; exact hm.setNewRow j hr hown hB
theorem aoApp1 {s x : Operand} {t e : TypeId} {z : Value} {size bytes n : Nat} {v : (Nat → Nat) → Value} {gb : (Nat → Nat) → Nat} {xs ys : List Value} (j j2 : Nat) (li : (Nat → Nat) → List (Nat × Value)) (hfr : ∀ g a, AoKn ops a0 N val adr i g a → FrIs a (li g)) (T : SlTy P t e z size bytes)
 (hj : ∀ b g, AoB ops i b → (L b g)[j]? = some (.row (v g) e size n xs)) (hj2 : ∀ b g, AoB ops i b → (L b g)[j2]? = some (.arr (gb g) e ys)) (hw : ∀ g X, Region.wanted o (yielded ops (lit N X (li g)).tmps) = true)
 (ho : o.op = .call { callee := .builtin .append, args := #[s, x], argTypes := #[t, t] }) (hs : ∀ g X, (lit N X (li g)).eval s = v g) (hx : ∀ g X, (lit N X (li g)).eval x = .slice (some ⟨gb g, 0, none⟩) 1 1) (hl : ys.length = size) (hu : (ys.all fun u => u.oneCell') = true)
 (hn : n + 1 ≤ 70368744177664) (hby : (n + 1) * bytes ≤ 140737488355328)
 (hL : ∀ b g γ, AoB ops i b → L (upd b i true) (upd g i γ) = (L b g).set j (.row (.slice (rA γ) (n + 1) (rC γ)) e size (n + 1) (xs ++ ys)))
 (hv : ∀ γ, val i [γ] = .slice (rA γ) (n + 1) (rC γ)) (ha : adr i = [i]) : AoStep P ops Q w0 a0 N val adr L i o := by
 intro b g a w hb hp hp2 hk hm
 obtain ⟨X, rfl⟩ := frLit (⟨hk.size, hk.defers, hfr g a hk⟩ : Fr a N (li g))
 have hj' := hj b g ⟨hb, hp, hp2⟩
 refine appNB s x T (hw g X) ho (hs g X) (hx g X) (hm.row j hj') (hm.arr j2 (hj2 b g ⟨hb, hp, hp2⟩)) hl hm.bel (Nat.le_refl _) (fun u h => List.all_eq_true.1 hu u h) hn hby fun v' w' h1 _ h3 h4 => ?_
 obtain ⟨k, rfl⟩ := own_code h1
 refine ⟨k, ?_, ?_⟩
 ·rw [ha]; simp [upd, hv]
 ·rw [hL b g _ ⟨hb, hp, hp2⟩]; exact hm.app j hj' h1 h3 h4
theorem mkRun {P : Program} {w : World} {rest : List Oper} {ops : Array Oper} {o : Oper} {a : Act} {Q : Exit → Act → World → Prop} {t e : TypeId} {n : Int} {m : Nat} {cs : List Value} (hgd : Region.wanted o (yielded ops a.tmps) = true) (ho : o.op = .makeSlice t (.const (.int .i64 n)) (.const (.int .i64 n)))
 (hmk : ∀ w : World, (Instr.makeSlice t (.int .i64 n) (.int .i64 n)).run P w = .ok (.slice (some ⟨w.heap.size, 0, none⟩) m m) (w.alloc (.cells cs.toArray e)))
 (h : ∀ w', Arr w' w.heap.size e cs → Below w.heap.size w w' → wpList P ops Q rest (a.put o.dst (.slice (some ⟨w.heap.size, 0, none⟩) m m)) w') : wpList P ops Q (o :: rest) a w := by
 refine wpList_want hgd fun K hK => ?_
 have he : a.eval (.const (.int .i64 n)) = .int .i64 n := rfl
 unfold Oper.wp execOp
 simp only [ho, he, Sem.run_bind, hmk, Result.andThen_ok]
 exact hK _ _ (h _ (Arr.new w e cs) ((Below.refl _ _).alloc (Nat.le_refl _) _))
theorem aoMake {t e : TypeId} {n : Int} {m : Nat} {cs : List Value} (j : Nat) (hw : o.guard = none) (ho : o.op = .makeSlice t (.const (.int .i64 n)) (.const (.int .i64 n)))
 (hmk : ∀ w : World, (Instr.makeSlice t (.int .i64 n) (.int .i64 n)).run P w = .ok (.slice (some ⟨w.heap.size, 0, none⟩) m m) (w.alloc (.cells cs.toArray e)))
 (hj : ∀ b g, AoB ops i b → ∃ r, (L b g)[j]? = some r) (hL : ∀ b g γ, AoB ops i b → L (upd b i true) (upd g i γ) = (L b g).set j (.arr γ e cs))
 (hv : ∀ γ, val i [γ] = .slice (some ⟨γ, 0, none⟩) m m) (ha : adr i = [i]) : AoStep P ops Q w0 a0 N val adr L i o := by
 intro b g a w hb hp hp2 _ hm
 obtain ⟨r, hr⟩ := hj b g ⟨hb, hp, hp2⟩
 refine mkRun (wn hw) ho hmk fun w' hA hB => ?_
 refine ⟨w.heap.size, ?_, ?_⟩
 ·rw [ha]; simp [upd, hv]
 ·rw [hL b g _ ⟨hb, hp, hp2⟩]; exact hm.setNew j hr hA hB
end
section
variable {l : List Lv} {nx : Int} {h : Hd} {k : Nat} {v : Lv}
theorem addV_bad (hb : ¬ ckH h = 0) : addV (vrs l) nx h = ([], 0, 0, 1) := by unfold addV; rw [if_pos hb]
theorem addV_stale (hb : ckH h = 0) (hn : 0 < l.length) (hv : l[l.length - 1]? = some v) (hc : ¬ covers h v.h) : addV (vrs l) nx h = ([], 0, 0, 22) := by
 unfold addV
 rw [if_neg (fun h2 => h2 hb), if_pos]
 rw [vrs_len, getD_some (vrs_get hv)]
 exact ⟨hn, hc⟩
theorem addV_full (hb : ckH h = 0) (hc : ¬ 0 < l.length ∨ ∃ v, l[l.length - 1]? = some v ∧ covers h v.h) (hf : 100 ≤ l.length) : addV (vrs l) nx h = ([], 0, 0, 21) := by
 unfold addV
 rw [if_neg (fun h2 => h2 hb), if_neg, if_pos (by rw [vrs_len]; exact hf)]
 rintro ⟨h1, h2⟩
 rw [vrs_len] at h1 h2
 rcases hc with hc | ⟨v, hv, hc⟩
 ·exact hc h1
 ·rw [getD_some (vrs_get hv)] at h2; exact h2 hc
theorem addV_yes (hb : ckH h = 0) (hc : ¬ 0 < l.length ∨ ∃ v, l[l.length - 1]? = some v ∧ covers h v.h) (hf : ¬ 100 ≤ l.length) (A : Option Addr) (c : Nat) (B : Option Addr) (d : Nat) : addV (vrs l) nx h = (vrs (l ++ [⟨nx, 0, h, A, c, B, d⟩]), nx + 1, nx, 0) := by
 unfold addV
 rw [if_neg (fun h2 => h2 hb), if_neg, if_neg (by rw [vrs_len]; exact hf), vrs_app]
 ·rfl
 ·rintro ⟨h1, h2⟩
  rw [vrs_len] at h1 h2
  rcases hc with hc | ⟨v, hv, hc⟩
  ·exact hc h1
  ·rw [getD_some (vrs_get hv)] at h2; exact h2 hc
end
theorem NewT.push {B : Nat} {l : List Lv} {v : Lv} {S' : Option Addr} (h : NewA B S') (ha : NewA B v.A) (hb : NewA B v.B) : NewT B l (l ++ [v]) S' := by
 refine ⟨h, fun u hu => ?_⟩
 rcases List.mem_append.1 hu with hu | hu
 ·exact Or.inl ⟨u, hu, rfl, rfl, rfl⟩
 ·simp at hu; subst hu; exact Or.inr ⟨ha, hb⟩
theorem AllAt.push {l : List Lv} {w : World} {v : Lv} (h : AllAt l w) (hv : v.At w) : AllAt (l ++ [v]) w := by
 intro u hu
 rcases List.mem_append.1 hu with hu | hu
 ·exact h u hu
 ·simp at hu; subst hu; exact hv
theorem vadd_any (l : List Lv) (S : Option Addr) (cS : Nat) (nx : Int) (h : Hd) (A : Option Addr) (c : Nat) (B : Option Addr) (d : Nat) (w : World) (hT : TbAt w l S cS) (hl : l.length ≤ 1000) (hA : Rd w w.heap.size 1 A h.counts.length c (ics h.counts)) (hB : Rd w w.heap.size 16 B h.rn d (bcs h.D)) (hfit : h.Fit) (hgood : ∀ v ∈ l, v.h.Good) (hnx : 0 ≤ nx ∧ nx ≤ 1000000) : Calls Tryz.prog 19 #[.agg (tbs (.slice S l.length cS) nx).toArray, .agg (hcs h A c B d).toArray] w (fun e w' => ∃ l' S' c', e = .returned (.tuple #[.agg (tbs (.slice S' l'.length c') (addV (vrs l) nx h).2.1).toArray, .int .i64 (addV (vrs l) nx h).2.2.1, .int .i64 (addV (vrs l) nx h).2.2.2]) ∧ vrs l' = (addV (vrs l) nx h).1 ∧ TbAt w' l' S' c' ∧ NewT w.heap.size l l' S' ∧ Below w.heap.size w w') := by
 have hS := hT.rd
 have hall := hT.all
 have hcl := hfit.c20
 have hrl := hfit.r20
 have hm0 := Mem.nil w
 go_enter Tryz.func19, Tryz.ntmps19
 refine litStart 65 [(0, .agg (tbs (.slice S l.length cS) nx).toArray), (1, .agg (hcs h A c B d).toArray)] kr_ (fun X0 => ?_)
 refine wp_seq_k fun K1 hK1 => ?_
 refine plStart ?_
 refine plBox hm0 (cs := tbs (.slice S l.length cS) nx) (i := 0) rfl (wn rfl) rfl le_ ?_
 intro g2 w4 hm3
 clear hm0
 try simp only [lc1_, lc2_, lc3_, lc4_] at hm3
 refine qP rfl ?_
 refine plBox hm3 (cs := hcs h A c B d) (i := 1) rfl (wn rfl) rfl le_ ?_
 intro g5 w7 hm6
 clear hm3
 try simp only [lc1_, lc2_, lc3_, lc4_] at hm6
 refine qP rfl ?_
 refine plAlloc (z := [.slice none 0 0, .int .i64 0]) Ty.ag_voxel_api_Versions hm6 (i := 2) rfl (wn rfl) rfl ?_
 intro g8 w10 hm9
 clear hm6
 try simp only [lc1_, lc2_, lc3_, lc4_] at hm9
 refine qP rfl ?_
 refine lk_ (.int .i64 0) ?_
 refine lk_ (.int .i64 0) ?_
 refine plD ?_
 refine tn_ hK1 ?_
 refine gwCut (fun a_ w_ => (ckH h = 0) ∧ (¬ 0 < l.length ∨ ∃ v, l[l.length - 1]? = some v ∧ covers h v.h) ∧ (¬ 100 ≤ (l.length : Int)) ∧ Fr a_ 65 [(2, .pointer (some ⟨g2, 0, none⟩)), (3, .pointer (some ⟨g5, 0, none⟩)), (4, .pointer (some ⟨g8, 0, none⟩))] ∧ Mem w w_ [.arr g2 52 (tbs (.slice S l.length cS) nx), .arr g5 25 (hcs h A c B d), .arr g8 52 ([.slice none 0 0, .int .i64 0])]) ?_ ?_
 ·refine wp_seq_k fun K11 hK11 => ?_
  refine plStart ?_
  refine lk_ (.pointer (some ⟨g2, 0, none⟩)) ?_
  refine litVal (v := .slice S l.length cS) rfl (wn rfl) (gLoad (v := .slice S l.length cS) (k := 0) 0 hm9 rfl kr_ (.tmp 10) kr_ rfl le_) rfl (by decide) ?_
  refine litVal (v := .int .i64 (l.length : Int)) rfl (wn rfl) (lenSlRun (A := S) (n := l.length) (c := cS) (.tmp 11) Ty.und_L_api_Version rfl le_) rfl (by decide) ?_
  refine lk_ (.int .i64 (l.length : Int)) ?_
  refine plD ?_
  refine tn_ hK11 ?_
  refine wp_block ?_
  refine wp_seq_k fun K12 hK12 => ?_
  refine plStart ?_
  refine litVal (v := .agg (hcs h A c B d).toArray) rfl (wn rfl) (gLoadAg (vs := hcs h A c B d) (k := 0) 1 hm9 rfl kr_ kr_ (.tmp 3) Ty.ag_voxel_api_Header rfl le_) rfl (by decide) ?_
  refine plCall (i := 1) 14 [.agg (hcs h A c B d).toArray] [] [] rfl kr_ (wn rfl) rfl le_ (litArgs kr_) (check_any h A c B d _ ((Rd.below hA hm9.bel).more hm9.bel.size) ((Rd.below hB hm9.bel).more hm9.bel.size) (by omega) (by omega) hfit.depth) ?_
  rintro e w13 ⟨rfl, hbz⟩
  have hm14 := hm9.below hbz
  clear hbz hm9
  refine ⟨_, rfl, ?_⟩
  refine qP rfl ?_
  by_cases h15 : (ckH h) = 0
  ·have hg_ := ckH_good.1 h15
   have h8_ : h.counts.length = 8 := by have q_ := hg_.2.2.1; omega
   refine litVal (v := .bool false) rfl (wn rfl) (boolTo (by rw [decide_eq_true h15]; rfl) (neqRun (A := (ckH h)) (B := 0) (.tmp 15) (.const (.int .i64 0)) rfl le_ le_)) rfl (by decide) ?_
   refine lk_ (.bool false) ?_
   refine plD ?_
   refine tn_ hK12 ?_
   refine wp_cond_false le_ ?_
   refine wp_seq_k fun K16 hK16 => ?_
   refine mgStart hm14 kr_ ?_
   intro w18 hm17
   clear hm14
   refine mk_ (i := 0) (v := .int .i64 (l.length : Int)) rfl rfl (fun _ _ _ h => h) hm17 rfl ?_
   by_cases h19 : 0 < (l.length : Int)
   ·obtain ⟨v, hkv⟩ : ∃ v, l[l.length - 1]? = some v := ⟨_, List.getElem?_eq_getElem (by omega)⟩
    have hv_ := hall v (List.mem_of_getElem? hkv)
    have hgv_ := hgood v (List.mem_of_getElem? hkv)
    have g8_ : v.h.counts.length = 8 := by have q_ := hgv_.2.2.1; omega
    obtain ⟨bS_, oS_, rfl, _, _⟩ := hS.cells (by omega)
    refine mgTake (i := 1) (v := .bool true) rfl kr_ (wn rfl) (fun _ _ _ h => h) hm17 (fun w_ h_ => boolTo (decide_eq_true h19) (gtrRun (A := (l.length : Int)) (B := 0) (.tmp 19) (.const (.int .i64 0)) rfl le_ le_)) ?_
    refine mP rfl ?_
    refine mk_ (i := 2) (v := .bool true) rfl rfl (fun _ _ _ h => h) hm17 rfl ?_
    refine mgTake (i := 3) (v := .agg (hcs h A c B d).toArray) rfl kr_ (wgY rfl rfl rfl (by decide) kr_) (fun _ _ _ h => h) hm17 (fun w_ h_ => gLoadAg (vs := hcs h A c B d) (k := 0) 1 h_ rfl kr_ kr_ (.tmp 3) Ty.ag_voxel_api_Header rfl le_) ?_
    refine mP rfl ?_
    refine mgTake (i := 4) (v := .pointer (some ⟨g2, 0, none⟩)) rfl kr_ (wgY rfl rfl rfl (by decide) kr_) (fun _ _ _ h => h) hm17 (fun w_ h_ => litRun kr_) ?_
    refine mP rfl ?_
    refine mgTake (i := 5) (v := .slice (some ⟨bS_, oS_, none⟩) l.length cS) rfl kr_ (wgY rfl rfl rfl (by decide) kr_) (fun _ _ _ h => h) hm17 (fun w_ h_ => gLoad (v := .slice (some ⟨bS_, oS_, none⟩) l.length cS) (k := 0) 0 h_ rfl kr_ (.tmp 23) kr_ rfl le_) ?_
    refine mP rfl ?_
    refine mgTake (i := 6) (v := .int .i64 (l.length : Int)) rfl kr_ (wgY rfl rfl rfl (by decide) kr_) (fun _ _ _ h => h) hm17 (fun w_ h_ => litRun kr_) ?_
    refine mP rfl ?_
    refine mgTake (i := 7) (v := .int .i64 ((l.length : Int) - 1)) rfl kr_ (wgY rfl rfl rfl (by decide) kr_) (fun _ _ _ h => h) hm17 (fun w_ h_ => subRun (A := (l.length : Int)) (B := 1) (C := (l.length : Int) - 1) (.tmp 25) (.const (.int .i64 1)) rfl le_ le_ rfl (by omega)) ?_
    refine mP rfl ?_
    refine mgTake (i := 8) (v := .pointer (some ⟨bS_, oS_ + (l.length - 1) * 6, none⟩)) rfl kr_ (wgY rfl rfl rfl (by decide) kr_) (fun _ _ _ h => h) hm17 (fun w_ h_ => gIaSl (b := bS_) (off := oS_) (n := l.length) (c := cS) (kk := .i64) (K := ((l.length : Int) - 1)) (.tmp 24) (.tmp 26) (l.length - 1) Ty.sl_L_api_Version rfl le_ le_ (by omega) (by omega)) ?_
    refine mP rfl ?_
    refine mgTake (i := 9) (v := .pointer (some ⟨bS_, oS_ + (l.length - 1) * 6 + 2, none⟩)) rfl kr_ (wgY rfl rfl rfl (by decide) kr_) (fun _ _ _ h => h) hm17 (fun w_ h_ => litRun kr_) ?_
    refine mP rfl ?_
    refine mgTake (i := 10) (v := .agg (hcs v.h v.A v.c v.B v.d).toArray) rfl kr_ (wgY rfl rfl rfl (by decide) kr_) (fun _ _ _ h => h) hm17 (fun w_ h_ => gLoadAgRd (vs := hcs v.h v.A v.c v.B v.d) (m := (l.length - 1) * 6 + 2) ((Rd.below hS h_.bel).more h_.bel.size) rfl (fun i_ u_ hu_ => by have := lvs_get hkv (2 + i_) u_ (by rw [Nat.add_comm]; exact hu_); rw [← Nat.add_assoc] at this; exact this) kr_ (by omega) (.tmp 28) Ty.ag_voxel_api_Header rfl le_) ?_
    refine mP rfl ?_
    refine mgCall (i := 11) 25 [.agg (hcs h A c B d).toArray, .agg (hcs v.h v.A v.c v.B v.d).toArray] [] [] kr_ rfl kr_ (wgY rfl rfl rfl (by decide) kr_) rfl le_ (litArgs kr_) (covers_any h A c B d v.h v.A v.c v.B v.d _ ((Rd.below hA hm17.bel).more hm17.bel.size) ((Rd.below hB hm17.bel).more hm17.bel.size) ((hv_.below hm17.bel).a) ((hv_.below hm17.bel).b) (by omega) (by omega) h8_ g8_) ?_
    rintro e w20 ⟨rfl, hbz⟩
    have hm21 := hm17.below hbz
    clear hbz hm17
    refine ⟨_, rfl, hm21, ?_⟩
    refine mP rfl ?_
    rcases bool_or (decide (covers h v.h)) with h22 | h22
    ·rw [h22]
     refine mgTake (i := 12) (v := .bool true) rfl kr_ (wgY rfl rfl rfl (by decide) kr_) (fun _ _ _ h => h) hm21 (fun w_ h_ => litRun kr_) ?_
     refine mP rfl ?_
     refine mk_ (i := 13) (v := .bool true) rfl rfl (fun _ _ _ h => h) hm21 rfl ?_
     refine mk_ (i := 14) (v := .bool true) rfl rfl (fun _ _ _ h => h) hm21 rfl ?_
     refine mgDone kr_ ?_
     refine tn_ hK16 ?_
     refine wpPrune [(2, .pointer (some ⟨g2, 0, none⟩)), (3, .pointer (some ⟨g5, 0, none⟩)), (4, .pointer (some ⟨g8, 0, none⟩)), (5, .int .i64 0), (6, .int .i64 0), (7, .int .i64 (l.length : Int)), (18, .bool true)] ⟨lg_, ⟨lg_, ⟨lg_, ⟨lg_, ⟨lg_, ⟨lg_, ⟨lg_, trivial⟩⟩⟩⟩⟩⟩⟩ (fun X23 => ?_)
     refine wp_cond_true le_ ?_
     refine wp_seq_k fun K24 hK24 => ?_
     refine plStart ?_
     refine lk_ (.agg ([.slice none 0 0, .int .i64 0]).toArray) ?_
     refine plStore 2 Ty.ag_voxel_api_Versions hm21 rfl (i := 1) (cs := [.slice none 0 0, .int .i64 0]) rfl (wn rfl) rfl le_ le_ rfl rfl kr_ ?_
     intro w26 hm25
     clear hm21
     try simp only [lc1_, lc2_, lc3_, lc4_] at hm25
     refine qNone rfl ?_
     refine lk_ (.int .i64 0) ?_
     refine lk_ (.int .i64 22) ?_
     refine plD ?_
     refine tn_ hK24 ?_
     refine wp_ret ?_
     refine inBlock_ret ?_
     refine then_ret ?_
     refine bodyPost_ret (v := .tuple #[.agg ([.slice none 0 0, .int .i64 0]).toArray, .int .i64 0, .int .i64 22]) (gRes3 rfl (gResAg (cs := [.slice none 0 0, .int .i64 0]) 2 hm25 rfl Ty.ag_voxel_api_Versions rfl (lg_)) (gResTmp (t := 5) (v := .int .i64 0) (lg_)) (gResTmp (t := 6) (v := .int .i64 22) (lg_))) rfl ?_
     have hfin_ := addV_stale (l := l) (nx := nx) h15 (by omega) hkv (of_decide_eq_false h22)
     exact ⟨[], none, 0, by rw [hfin_]; rfl, by rw [hfin_]; rfl, TbAt.nil _, NewT.nil _ _, hm25.bel⟩
    rw [h22]
    refine mgTake (i := 12) (v := .bool false) rfl kr_ (wgY rfl rfl rfl (by decide) kr_) (fun _ _ _ h => h) hm21 (fun w_ h_ => litRun kr_) ?_
    refine mP rfl ?_
    refine mk_ (i := 13) (v := .bool false) rfl rfl (fun _ _ _ h => h) hm21 rfl ?_
    refine mk_ (i := 14) (v := .bool false) rfl rfl (fun _ _ _ h => h) hm21 rfl ?_
    refine mgDone kr_ ?_
    refine tn_ hK16 ?_
    refine wpPrune [(2, .pointer (some ⟨g2, 0, none⟩)), (3, .pointer (some ⟨g5, 0, none⟩)), (4, .pointer (some ⟨g8, 0, none⟩)), (5, .int .i64 0), (6, .int .i64 0), (7, .int .i64 (l.length : Int)), (18, .bool false)] ⟨lg_, ⟨lg_, ⟨lg_, ⟨lg_, ⟨lg_, ⟨lg_, ⟨lg_, trivial⟩⟩⟩⟩⟩⟩⟩ (fun X27 => ?_)
    refine wp_cond_false le_ ?_
    refine wp_seq_k fun K28 hK28 => ?_
    refine plStart ?_
    refine lk_ (.int .i64 (l.length : Int)) ?_
    by_cases h29 : 100 ≤ (l.length : Int)
    ·refine litVal (v := .bool true) rfl (wn rfl) (boolTo (decide_eq_true h29) (gGeq (A := (l.length : Int)) (B := 100) (.tmp 35) (.const (.int .i64 100)) rfl le_ le_)) rfl (by decide) ?_
     refine lk_ (.bool true) ?_
     refine plD ?_
     refine tn_ hK28 ?_
     refine wp_cond_true le_ ?_
     refine wp_seq_k fun K30 hK30 => ?_
     refine plStart ?_
     refine lk_ (.agg ([.slice none 0 0, .int .i64 0]).toArray) ?_
     refine plStore 2 Ty.ag_voxel_api_Versions hm21 rfl (i := 1) (cs := [.slice none 0 0, .int .i64 0]) rfl (wn rfl) rfl le_ le_ rfl rfl kr_ ?_
     intro w32 hm31
     clear hm21
     try simp only [lc1_, lc2_, lc3_, lc4_] at hm31
     refine qNone rfl ?_
     refine lk_ (.int .i64 0) ?_
     refine lk_ (.int .i64 21) ?_
     refine plD ?_
     refine tn_ hK30 ?_
     refine wp_ret ?_
     refine inBlock_ret ?_
     refine then_ret ?_
     refine bodyPost_ret (v := .tuple #[.agg ([.slice none 0 0, .int .i64 0]).toArray, .int .i64 0, .int .i64 21]) (gRes3 rfl (gResAg (cs := [.slice none 0 0, .int .i64 0]) 2 hm31 rfl Ty.ag_voxel_api_Versions rfl (lg_)) (gResTmp (t := 5) (v := .int .i64 0) (lg_)) (gResTmp (t := 6) (v := .int .i64 21) (lg_))) rfl ?_
     have hfin_ := addV_full (l := l) (nx := nx) h15 (Or.inr ⟨v, hkv, of_decide_eq_true h22⟩) (by omega)
     exact ⟨[], none, 0, by rw [hfin_]; rfl, by rw [hfin_]; rfl, TbAt.nil _, NewT.nil _ _, hm31.bel⟩
    refine litVal (v := .bool false) rfl (wn rfl) (boolTo (decide_eq_false h29) (gGeq (A := (l.length : Int)) (B := 100) (.tmp 35) (.const (.int .i64 100)) rfl le_ le_)) rfl (by decide) ?_
    refine lk_ (.bool false) ?_
    refine plD ?_
    refine tn_ hK28 ?_
    refine wp_cond_false le_ ?_
    refine wp_skip ?_
    refine inBlock_normal ?_
    refine then_normal ?_
    exact ⟨h15, (Or.inr ⟨v, hkv, of_decide_eq_true h22⟩), h29, ⟨litSize, rfl, ⟨lg_, ⟨lg_, ⟨lg_, trivial⟩⟩⟩⟩, hm21⟩
   refine mgTake (i := 1) (v := .bool false) rfl kr_ (wn rfl) (fun _ _ _ h => h) hm17 (fun w_ h_ => boolTo (decide_eq_false h19) (gtrRun (A := (l.length : Int)) (B := 0) (.tmp 19) (.const (.int .i64 0)) rfl le_ le_)) ?_
   refine mP rfl ?_
   refine mk_ (i := 2) (v := .bool false) rfl rfl (fun _ _ _ h => h) hm17 rfl ?_
   refine mgSkip (i := 3) rfl kr_ (wgN rfl rfl rfl (by decide) kr_) (fun _ _ _ h => h) hm17 ?_
   refine mP rfl ?_
   refine mgSkip (i := 4) rfl kr_ (wgN rfl rfl rfl (by decide) kr_) (fun _ _ _ h => h) hm17 ?_
   refine mP rfl ?_
   refine mgSkip (i := 5) rfl kr_ (wgN rfl rfl rfl (by decide) kr_) (fun _ _ _ h => h) hm17 ?_
   refine mP rfl ?_
   refine mgSkip (i := 6) rfl kr_ (wgN rfl rfl rfl (by decide) kr_) (fun _ _ _ h => h) hm17 ?_
   refine mP rfl ?_
   refine mgSkip (i := 7) rfl kr_ (wgN rfl rfl rfl (by decide) kr_) (fun _ _ _ h => h) hm17 ?_
   refine mP rfl ?_
   refine mgSkip (i := 8) rfl kr_ (wgN rfl rfl rfl (by decide) kr_) (fun _ _ _ h => h) hm17 ?_
   refine mP rfl ?_
   refine mgSkip (i := 9) rfl kr_ (wgN rfl rfl rfl (by decide) kr_) (fun _ _ _ h => h) hm17 ?_
   refine mP rfl ?_
   refine mgSkip (i := 10) rfl kr_ (wgN rfl rfl rfl (by decide) kr_) (fun _ _ _ h => h) hm17 ?_
   refine mP rfl ?_
   refine mgSkip (i := 11) rfl kr_ (wgN rfl rfl rfl (by decide) kr_) (fun _ _ _ h => h) hm17 ?_
   refine mP rfl ?_
   refine mgSkip (i := 12) rfl kr_ (wgN rfl rfl rfl (by decide) kr_) (fun _ _ _ h => h) hm17 ?_
   refine mP rfl ?_
   refine mk_ (i := 13) (v := .bool false) rfl rfl (fun _ _ _ h => h) hm17 rfl ?_
   refine mk_ (i := 14) (v := .bool false) rfl rfl (fun _ _ _ h => h) hm17 rfl ?_
   refine mgDone kr_ ?_
   refine tn_ hK16 ?_
   refine wpPrune [(2, .pointer (some ⟨g2, 0, none⟩)), (3, .pointer (some ⟨g5, 0, none⟩)), (4, .pointer (some ⟨g8, 0, none⟩)), (5, .int .i64 0), (6, .int .i64 0), (7, .int .i64 (l.length : Int)), (18, .bool false)] ⟨lg_, ⟨lg_, ⟨lg_, ⟨lg_, ⟨lg_, ⟨lg_, ⟨lg_, trivial⟩⟩⟩⟩⟩⟩⟩ (fun X33 => ?_)
   refine wp_cond_false le_ ?_
   refine wp_seq_k fun K34 hK34 => ?_
   refine plStart ?_
   refine lk_ (.int .i64 (l.length : Int)) ?_
   by_cases h35 : 100 ≤ (l.length : Int)
   ·refine litVal (v := .bool true) rfl (wn rfl) (boolTo (decide_eq_true h35) (gGeq (A := (l.length : Int)) (B := 100) (.tmp 35) (.const (.int .i64 100)) rfl le_ le_)) rfl (by decide) ?_
    refine lk_ (.bool true) ?_
    refine plD ?_
    refine tn_ hK34 ?_
    refine wp_cond_true le_ ?_
    refine wp_seq_k fun K36 hK36 => ?_
    refine plStart ?_
    refine lk_ (.agg ([.slice none 0 0, .int .i64 0]).toArray) ?_
    refine plStore 2 Ty.ag_voxel_api_Versions hm17 rfl (i := 1) (cs := [.slice none 0 0, .int .i64 0]) rfl (wn rfl) rfl le_ le_ rfl rfl kr_ ?_
    intro w38 hm37
    clear hm17
    try simp only [lc1_, lc2_, lc3_, lc4_] at hm37
    refine qNone rfl ?_
    refine lk_ (.int .i64 0) ?_
    refine lk_ (.int .i64 21) ?_
    refine plD ?_
    refine tn_ hK36 ?_
    refine wp_ret ?_
    refine inBlock_ret ?_
    refine then_ret ?_
    refine bodyPost_ret (v := .tuple #[.agg ([.slice none 0 0, .int .i64 0]).toArray, .int .i64 0, .int .i64 21]) (gRes3 rfl (gResAg (cs := [.slice none 0 0, .int .i64 0]) 2 hm37 rfl Ty.ag_voxel_api_Versions rfl (lg_)) (gResTmp (t := 5) (v := .int .i64 0) (lg_)) (gResTmp (t := 6) (v := .int .i64 21) (lg_))) rfl ?_
    have hfin_ := addV_full (l := l) (nx := nx) h15 (Or.inl (by omega)) (by omega)
    exact ⟨[], none, 0, by rw [hfin_]; rfl, by rw [hfin_]; rfl, TbAt.nil _, NewT.nil _ _, hm37.bel⟩
   refine litVal (v := .bool false) rfl (wn rfl) (boolTo (decide_eq_false h35) (gGeq (A := (l.length : Int)) (B := 100) (.tmp 35) (.const (.int .i64 100)) rfl le_ le_)) rfl (by decide) ?_
   refine lk_ (.bool false) ?_
   refine plD ?_
   refine tn_ hK34 ?_
   refine wp_cond_false le_ ?_
   refine wp_skip ?_
   refine inBlock_normal ?_
   refine then_normal ?_
   exact ⟨h15, (Or.inl (by omega)), h35, ⟨litSize, rfl, ⟨lg_, ⟨lg_, ⟨lg_, trivial⟩⟩⟩⟩, hm17⟩
  refine litVal (v := .bool true) rfl (wn rfl) (boolTo (by rw [decide_eq_false h15]; rfl) (neqRun (A := (ckH h)) (B := 0) (.tmp 15) (.const (.int .i64 0)) rfl le_ le_)) rfl (by decide) ?_
  refine lk_ (.bool true) ?_
  refine plD ?_
  refine tn_ hK12 ?_
  refine wp_cond_true le_ ?_
  refine wp_seq_k fun K39 hK39 => ?_
  refine plStart ?_
  refine lk_ (.agg ([.slice none 0 0, .int .i64 0]).toArray) ?_
  refine plStore 2 Ty.ag_voxel_api_Versions hm14 rfl (i := 1) (cs := [.slice none 0 0, .int .i64 0]) rfl (wn rfl) rfl le_ le_ rfl rfl kr_ ?_
  intro w41 hm40
  clear hm14
  try simp only [lc1_, lc2_, lc3_, lc4_] at hm40
  refine qNone rfl ?_
  refine lk_ (.int .i64 0) ?_
  refine lk_ (.int .i64 1) ?_
  refine plD ?_
  refine tn_ hK39 ?_
  refine wpPrune [(2, .pointer (some ⟨g2, 0, none⟩)), (3, .pointer (some ⟨g5, 0, none⟩)), (4, .pointer (some ⟨g8, 0, none⟩)), (5, .int .i64 0), (6, .int .i64 1)] ⟨lg_, ⟨lg_, ⟨lg_, ⟨lg_, ⟨lg_, trivial⟩⟩⟩⟩⟩ (fun X42 => ?_)
  refine wp_ret ?_
  refine inBlock_ret ?_
  refine then_ret ?_
  refine bodyPost_ret (v := .tuple #[.agg ([.slice none 0 0, .int .i64 0]).toArray, .int .i64 0, .int .i64 1]) (gRes3 rfl (gResAg (cs := [.slice none 0 0, .int .i64 0]) 2 hm40 rfl Ty.ag_voxel_api_Versions rfl (lg_)) (gResTmp (t := 5) (v := .int .i64 0) (lg_)) (gResTmp (t := 6) (v := .int .i64 1) (lg_))) rfl ?_
  have hfin_ := addV_bad (l := l) (nx := nx) h15
  exact ⟨[], none, 0, by rw [hfin_]; rfl, by rw [hfin_]; rfl, TbAt.nil _, NewT.nil _ _, hm40.bel⟩
 clear hm9
 intro a45 w43 hI_
 obtain ⟨hck_, hcov_, hfull_, hF_, hm44⟩ := hI_
 obtain ⟨X46, rfl⟩ := frLit hF_
 clear hF_
 refine wp_seq_k fun K47 hK47 => ?_
 refine aoStart (aoV [fun _ => .pointer (some ⟨g5, 0, none⟩), fun _ => .int .i64 h.tick, fun _ => .pointer (some ⟨g5, 1, none⟩), fun _ => .slice A h.counts.length c, fun γ_ => .slice (rA (γ_.getD 0 0)) h.counts.length (rC (γ_.getD 0 0)), fun _ => .pointer (some ⟨g5, 2, none⟩), fun _ => .int .i64 h.depth, fun _ => .pointer (some ⟨g5, 3, none⟩), fun _ => .slice B h.rn d, fun γ_ => .slice (rA (γ_.getD 0 0)) h.rn (rC (γ_.getD 0 0)), fun γ_ => .agg ([.int .i64 h.tick, .slice (rA (γ_.getD 0 0)) h.counts.length (rC (γ_.getD 0 0)), .int .i64 h.depth, .slice (rA (γ_.getD 1 0)) h.rn (rC (γ_.getD 1 0))]).toArray, fun γ_ => .pointer (some ⟨(γ_.getD 0 0), 0, none⟩), fun _ => undef]) (aoA [[], [], [], [], [4], [], [], [], [], [9], [4, 9], [11], []]) (fun b_ g_ => ((.arr g2 52 (tbs (.slice S l.length cS) nx)) :: (.arr g5 25 (hcs h A c B d)) :: (.arr g8 52 ([.slice none 0 0, .int .i64 0])) :: (bsel (b_ 4) (.row (.slice (rA (g_ 4)) h.counts.length (rC (g_ 4))) 3 1 h.counts.length (ics h.counts)) (.free)) :: (bsel (b_ 9) (.row (.slice (rA (g_ 9)) h.rn (rC (g_ 9))) 27 16 h.rn (bcs h.D)) (.free)) :: (bsel (b_ 11) (.arr (g_ 11) 25 (bsel (b_ 12) [.int .i64 h.tick, .slice (rA (g_ 4)) h.counts.length (rC (g_ 4)), .int .i64 h.depth, .slice (rA (g_ 9)) h.rn (rC (g_ 9))] [.int .i64 0, .slice none 0 0, .int .i64 0, .slice none 0 0])) .free) :: [])) hm44 kr_ kr_ (fun w_ h_ => h_.pushFree.pushFree.pushFree) (fun b_ g_ h_ => by show (fun (x4_ x9_ x11_ x12_ : Bool) => (((.arr g2 52 (tbs (.slice S l.length cS) nx)) :: (.arr g5 25 (hcs h A c B d)) :: (.arr g8 52 ([.slice none 0 0, .int .i64 0])) :: (bsel x4_ (.row (.slice (rA (g_ 4)) h.counts.length (rC (g_ 4))) 3 1 h.counts.length (ics h.counts)) (.free)) :: (bsel x9_ (.row (.slice (rA (g_ 9)) h.rn (rC (g_ 9))) 27 16 h.rn (bcs h.D)) (.free)) :: (bsel x11_ (.arr (g_ 11) 25 (bsel x12_ [.int .i64 h.tick, .slice (rA (g_ 4)) h.counts.length (rC (g_ 4)), .int .i64 h.depth, .slice (rA (g_ 9)) h.rn (rC (g_ 9))] [.int .i64 0, .slice none 0 0, .int .i64 0, .slice none 0 0])) .free) :: []) : List Res)) (b_ 4) (b_ 9) (b_ 11) (b_ 12) = _; rw [h_ 4 (by decide), h_ 9 (by decide), h_ 11 (by decide), h_ 12 (by decide)]) ?_ ?_
 ·refine aoNext rfl (aoVal (fun g_ => [(3, .pointer (some ⟨g5, 0, none⟩))]) (fun g_ a_ h_k => ⟨(h_k.out 3 kr_).trans (lg_), trivial⟩) (fun g_ X_ => (wn rfl)) (fun b_ g_ => by kernel_rfl) (fun b_ g_ X_ w_ h_b h_ => valTo (b := .pointer (some ⟨g5, 0, none⟩)) kr_ (litRun kr_))) ?_
  refine aoNext rfl (aoVal (fun g_ => [(38, .pointer (some ⟨g5, 0, none⟩))]) (fun g_ a_ h_k => ⟨(h_k.inn 0 _ _ kr_ rfl rfl).trans kr_, trivial⟩) (fun g_ X_ => (wn rfl)) (fun b_ g_ => by kernel_rfl) (fun b_ g_ X_ w_ h_b h_ => valTo (b := .int .i64 h.tick) kr_ (gLoad (v := .int .i64 h.tick) (k := 0) 1 h_ rfl kr_ (.tmp 38) kr_ rfl le_))) ?_
  refine aoNext rfl (aoVal (fun g_ => [(3, .pointer (some ⟨g5, 0, none⟩))]) (fun g_ a_ h_k => ⟨(h_k.out 3 kr_).trans (lg_), trivial⟩) (fun g_ X_ => (wn rfl)) (fun b_ g_ => by kernel_rfl) (fun b_ g_ X_ w_ h_b h_ => valTo (b := .pointer (some ⟨g5, 1, none⟩)) kr_ (litRun kr_))) ?_
  refine aoNext rfl (aoVal (fun g_ => [(40, .pointer (some ⟨g5, 1, none⟩))]) (fun g_ a_ h_k => ⟨(h_k.inn 2 _ _ kr_ rfl rfl).trans kr_, trivial⟩) (fun g_ X_ => (wn rfl)) (fun b_ g_ => by kernel_rfl) (fun b_ g_ X_ w_ h_b h_ => valTo (b := .slice A h.counts.length c) kr_ (gLoad (v := .slice A h.counts.length c) (k := 1) 1 h_ rfl kr_ (.tmp 40) kr_ rfl le_))) ?_
  refine aoNext rfl (aoCallRow 3 (fun g_ => [(41, .slice A h.counts.length c)]) (fun g_ a_ h_k => ⟨(h_k.inn 3 _ _ kr_ rfl rfl).trans kr_, trivial⟩) 55 (fun g_ => [.slice A h.counts.length c]) [] [] kr_ (fun g_ X_ => (wn rfl)) rfl (fun g_ X_ => litEv kr_) (fun g_ X_ => litArgs kr_) (fun b_ g_ w_ h_b h_ => cloneI_any h.counts h.counts.length A c _ ((Rd.below hA h_.bel).more h_.bel.size) (by omega)) (fun _ _ _ => ⟨_, rfl⟩) (fun b_ g_ γ_ h_b => Eq.trans (b := ((.arr g2 52 (tbs (.slice S l.length cS) nx)) :: (.arr g5 25 (hcs h A c B d)) :: (.arr g8 52 ([.slice none 0 0, .int .i64 0])) :: (bsel true (.row (.slice (rA γ_) h.counts.length (rC γ_)) 3 1 h.counts.length (ics h.counts)) (.free)) :: (bsel (b_ 9) (.row (.slice (rA (g_ 9)) h.rn (rC (g_ 9))) 27 16 h.rn (bcs h.D)) (.free)) :: (bsel (b_ 11) (.arr (g_ 11) 25 (bsel (b_ 12) [.int .i64 h.tick, .slice (rA γ_) h.counts.length (rC γ_), .int .i64 h.depth, .slice (rA (g_ 9)) h.rn (rC (g_ 9))] [.int .i64 0, .slice none 0 0, .int .i64 0, .slice none 0 0])) .free) :: [])) kr_ (by simp only [bselF (h_b.post 9 kr_), bselF (h_b.post 12 kr_)] <;> kernel_rfl)) (fun _ => by kernel_rfl) kr_) ?_
  refine aoNext rfl (aoVal (fun g_ => [(3, .pointer (some ⟨g5, 0, none⟩))]) (fun g_ a_ h_k => ⟨(h_k.out 3 kr_).trans (lg_), trivial⟩) (fun g_ X_ => (wn rfl)) (fun b_ g_ => by kernel_rfl) (fun b_ g_ X_ w_ h_b h_ => valTo (b := .pointer (some ⟨g5, 2, none⟩)) kr_ (litRun kr_))) ?_
  refine aoNext rfl (aoVal (fun g_ => [(43, .pointer (some ⟨g5, 2, none⟩))]) (fun g_ a_ h_k => ⟨(h_k.inn 5 _ _ kr_ rfl rfl).trans kr_, trivial⟩) (fun g_ X_ => (wn rfl)) (fun b_ g_ => by kernel_rfl) (fun b_ g_ X_ w_ h_b h_ => valTo (b := .int .i64 h.depth) kr_ (gLoad (v := .int .i64 h.depth) (k := 2) 1 h_ rfl kr_ (.tmp 43) kr_ rfl le_))) ?_
  refine aoNext rfl (aoVal (fun g_ => [(3, .pointer (some ⟨g5, 0, none⟩))]) (fun g_ a_ h_k => ⟨(h_k.out 3 kr_).trans (lg_), trivial⟩) (fun g_ X_ => (wn rfl)) (fun b_ g_ => by kernel_rfl) (fun b_ g_ X_ w_ h_b h_ => valTo (b := .pointer (some ⟨g5, 3, none⟩)) kr_ (litRun kr_))) ?_
  refine aoNext rfl (aoVal (fun g_ => [(45, .pointer (some ⟨g5, 3, none⟩))]) (fun g_ a_ h_k => ⟨(h_k.inn 7 _ _ kr_ rfl rfl).trans kr_, trivial⟩) (fun g_ X_ => (wn rfl)) (fun b_ g_ => by kernel_rfl) (fun b_ g_ X_ w_ h_b h_ => valTo (b := .slice B h.rn d) kr_ (gLoad (v := .slice B h.rn d) (k := 3) 1 h_ rfl kr_ (.tmp 45) kr_ rfl le_))) ?_
  refine aoNext rfl (aoCallRow 4 (fun g_ => [(46, .slice B h.rn d)]) (fun g_ a_ h_k => ⟨(h_k.inn 8 _ _ kr_ rfl rfl).trans kr_, trivial⟩) 56 (fun g_ => [.slice B h.rn d]) [] [] kr_ (fun g_ X_ => (wn rfl)) rfl (fun g_ X_ => litEv kr_) (fun g_ X_ => litArgs kr_) (fun b_ g_ w_ h_b h_ => cloneD_any h.D h.rn B d _ ((Rd.below hB h_.bel).more h_.bel.size) (by omega)) (fun _ _ _ => ⟨_, rfl⟩) (fun b_ g_ γ_ h_b => Eq.trans (b := ((.arr g2 52 (tbs (.slice S l.length cS) nx)) :: (.arr g5 25 (hcs h A c B d)) :: (.arr g8 52 ([.slice none 0 0, .int .i64 0])) :: (bsel (b_ 4) (.row (.slice (rA (g_ 4)) h.counts.length (rC (g_ 4))) 3 1 h.counts.length (ics h.counts)) (.free)) :: (bsel true (.row (.slice (rA γ_) h.rn (rC γ_)) 27 16 h.rn (bcs h.D)) (.free)) :: (bsel (b_ 11) (.arr (g_ 11) 25 (bsel (b_ 12) [.int .i64 h.tick, .slice (rA (g_ 4)) h.counts.length (rC (g_ 4)), .int .i64 h.depth, .slice (rA γ_) h.rn (rC γ_)] [.int .i64 0, .slice none 0 0, .int .i64 0, .slice none 0 0])) .free) :: [])) kr_ (by simp only [bselF (h_b.post 12 kr_)] <;> kernel_rfl)) (fun _ => by kernel_rfl) kr_) ?_
  refine aoNext rfl (aoVal (fun g_ => [(39, .int .i64 h.tick), (42, .slice (rA (g_ 4)) h.counts.length (rC (g_ 4))), (44, .int .i64 h.depth), (47, .slice (rA (g_ 9)) h.rn (rC (g_ 9)))]) (fun g_ a_ h_k => ⟨(h_k.inn 1 _ _ kr_ rfl rfl).trans kr_, (h_k.inn 4 _ _ kr_ rfl rfl).trans kr_, (h_k.inn 6 _ _ kr_ rfl rfl).trans kr_, (h_k.inn 9 _ _ kr_ rfl rfl).trans kr_, trivial⟩) (fun g_ X_ => (wn rfl)) (fun b_ g_ => by kernel_rfl) (fun b_ g_ X_ w_ h_b h_ => valTo (b := .agg ([.int .i64 h.tick, .slice (rA (g_ 4)) h.counts.length (rC (g_ 4)), .int .i64 h.depth, .slice (rA (g_ 9)) h.rn (rC (g_ 9))]).toArray) kr_ (litRun kr_))) ?_
  refine aoNext rfl (aoNewAg (z := [.int .i64 0, .slice none 0 0, .int .i64 0, .slice none 0 0]) 5 Ty.ag_voxel_api_Header rfl rfl (fun _ _ _ => ⟨_, rfl⟩) (fun b_ g_ γ_ h_b => Eq.trans kr_ (congrArg (fun x_ => List.set _ 5 (Res.arr γ_ 25 x_)) (bselF (α := List Value) (h_b.post 12 kr_) [.int .i64 h.tick, .slice (rA (g_ 4)) h.counts.length (rC (g_ 4)), .int .i64 h.depth, .slice (rA (g_ 9)) h.rn (rC (g_ 9))] [.int .i64 0, .slice none 0 0, .int .i64 0, .slice none 0 0]))) (fun _ => by kernel_rfl) kr_) ?_
  refine aoNext rfl (aoStore (gb := fun g_ => (g_ 11)) (k := 0) (cur := fun g_ => [.int .i64 0, .slice none 0 0, .int .i64 0, .slice none 0 0]) (vs := fun g_ => [.int .i64 h.tick, .slice (rA (g_ 4)) h.counts.length (rC (g_ 4)), .int .i64 h.depth, .slice (rA (g_ 9)) h.rn (rC (g_ 9))]) 5 (fun g_ => [(8, .pointer (some ⟨(g_ 11), 0, none⟩)), (48, .agg ([.int .i64 h.tick, .slice (rA (g_ 4)) h.counts.length (rC (g_ 4)), .int .i64 h.depth, .slice (rA (g_ 9)) h.rn (rC (g_ 9))]).toArray)]) (fun g_ a_ h_k => ⟨(h_k.inn 11 _ _ kr_ rfl rfl).trans kr_, (h_k.inn 10 _ _ kr_ rfl rfl).trans kr_, trivial⟩) Ty.ag_voxel_api_Header (fun b_ g_ h_b => by show some (bsel (b_ 11) (Res.arr (g_ 11) 25 (bsel (b_ 12) [.int .i64 h.tick, .slice (rA (g_ 4)) h.counts.length (rC (g_ 4)), .int .i64 h.depth, .slice (rA (g_ 9)) h.rn (rC (g_ 9))] [.int .i64 0, .slice none 0 0, .int .i64 0, .slice none 0 0])) Res.free) = some (Res.arr (g_ 11) 25 ([.int .i64 0, .slice none 0 0, .int .i64 0, .slice none 0 0])); rw [bselT (h_b.pre 11 kr_), bselF h_b.no]) (fun g_ X_ => (wn rfl)) rfl (fun g_ X_ => litEv kr_) (fun g_ X_ => litEv kr_) (fun _ => by kernel_rfl) (fun _ => by kernel_rfl) (fun _ => by kernel_rfl) (fun b_ g_ h_b => Eq.trans (b := List.set (((.arr g2 52 (tbs (.slice S l.length cS) nx)) :: (.arr g5 25 (hcs h A c B d)) :: (.arr g8 52 ([.slice none 0 0, .int .i64 0])) :: (bsel (b_ 4) (.row (.slice (rA (g_ 4)) h.counts.length (rC (g_ 4))) 3 1 h.counts.length (ics h.counts)) (.free)) :: (bsel (b_ 9) (.row (.slice (rA (g_ 9)) h.rn (rC (g_ 9))) 27 16 h.rn (bcs h.D)) (.free)) :: (bsel (b_ 11) (.arr (g_ 11) 25 (bsel (b_ 12) [.int .i64 h.tick, .slice (rA (g_ 4)) h.counts.length (rC (g_ 4)), .int .i64 h.depth, .slice (rA (g_ 9)) h.rn (rC (g_ 9))] [.int .i64 0, .slice none 0 0, .int .i64 0, .slice none 0 0])) .free) :: [])) 5 (bsel (b_ 11) (Res.arr (g_ 11) 25 ([.int .i64 h.tick, .slice (rA (g_ 4)) h.counts.length (rC (g_ 4)), .int .i64 h.depth, .slice (rA (g_ 9)) h.rn (rC (g_ 9))])) Res.free)) kr_ (congrArg (fun x_ => List.set _ 5 x_) (bselT (h_b.pre 11 kr_) _ _))) rfl) ?_
  exact aoDone (by decide)
 intro g_ a_ w49 hF_ hm48
 obtain ⟨X50, rfl⟩ := frLit (⟨hF_.size, hF_.defers, ⟨(hF_.out 2 kr_).trans (lg_), (hF_.out 4 kr_).trans (lg_), (hF_.inn 11 _ _ rfl rfl).trans kr_, (hF_.inn 0 _ _ rfl rfl).trans kr_, (hF_.inn 1 _ _ rfl rfl).trans kr_, (hF_.inn 2 _ _ rfl rfl).trans kr_, (hF_.inn 3 _ _ rfl rfl).trans kr_, (hF_.inn 4 _ _ rfl rfl).trans kr_, (hF_.inn 5 _ _ rfl rfl).trans kr_, (hF_.inn 6 _ _ rfl rfl).trans kr_, (hF_.inn 7 _ _ rfl rfl).trans kr_, (hF_.inn 8 _ _ rfl rfl).trans kr_, (hF_.inn 9 _ _ rfl rfl).trans kr_, (hF_.inn 10 _ _ rfl rfl).trans kr_, trivial⟩⟩ : Fr _ 65 [(2, .pointer (some ⟨g2, 0, none⟩)), (4, .pointer (some ⟨g8, 0, none⟩)), (8, .pointer (some ⟨(g_ 11), 0, none⟩)), (38, .pointer (some ⟨g5, 0, none⟩)), (39, .int .i64 h.tick), (40, .pointer (some ⟨g5, 1, none⟩)), (41, .slice A h.counts.length c), (42, .slice (rA (g_ 4)) h.counts.length (rC (g_ 4))), (43, .pointer (some ⟨g5, 2, none⟩)), (44, .int .i64 h.depth), (45, .pointer (some ⟨g5, 3, none⟩)), (46, .slice B h.rn d), (47, .slice (rA (g_ 9)) h.rn (rC (g_ 9))), (48, .agg ([.int .i64 h.tick, .slice (rA (g_ 4)) h.counts.length (rC (g_ 4)), .int .i64 h.depth, .slice (rA (g_ 9)) h.rn (rC (g_ 9))]).toArray)])
 clear hF_
 have hm51 : Mem w w49 [.arr g2 52 (tbs (.slice S l.length cS) nx), .arr g5 25 (hcs h A c B d), .arr g8 52 ([.slice none 0 0, .int .i64 0]), .row (.slice (rA (g_ 4)) h.counts.length (rC (g_ 4))) 3 1 h.counts.length (ics h.counts), .row (.slice (rA (g_ 9)) h.rn (rC (g_ 9))) 27 16 h.rn (bcs h.D), .arr (g_ 11) 25 ([.int .i64 h.tick, .slice (rA (g_ 4)) h.counts.length (rC (g_ 4)), .int .i64 h.depth, .slice (rA (g_ 9)) h.rn (rC (g_ 9))])] := hm48
 clear hm48 hm44
 generalize rA (g_ 4) = A52 at hm51 ⊢
 generalize rC (g_ 4) = c53 at hm51 ⊢
 generalize rA (g_ 9) = A54 at hm51 ⊢
 generalize rC (g_ 9) = c55 at hm51 ⊢
 generalize g_ 11 = g56 at hm51 ⊢
 clear g_
 refine tn_ hK47 ?_
 refine wp_seq_k fun K57 hK57 => ?_
 refine aoStart (aoV [fun _ => .pointer (some ⟨g2, 0, none⟩), fun _ => .slice S l.length cS, fun γ_ => .slice (rA (γ_.getD 0 0)) l.length (rC (γ_.getD 0 0)), fun _ => .pointer (some ⟨g2, 1, none⟩), fun _ => .int .i64 nx, fun _ => .agg ([.int .i64 h.tick, .slice A52 h.counts.length c53, .int .i64 h.depth, .slice A54 h.rn c55]).toArray, fun _ => .agg ([.int .i64 nx, .int .i64 0, .int .i64 h.tick, .slice A52 h.counts.length c53, .int .i64 h.depth, .slice A54 h.rn c55]).toArray, fun γ_ => .slice (some ⟨(γ_.getD 0 0), 0, none⟩) 1 1, fun γ_ => .slice (rA (γ_.getD 0 0)) (l.length + 1) (rC (γ_.getD 0 0)), fun γ_ => .slice (rA (γ_.getD 0 0)) (l.length + 1) (rC (γ_.getD 0 0))]) (aoA [[], [], [2], [], [], [], [], [7], [8], [8]]) (fun b_ g_ => ((.arr g2 52 (tbs (.slice S l.length cS) nx)) :: (.arr g5 25 (hcs h A c B d)) :: (.arr g8 52 ([.slice none 0 0, .int .i64 0])) :: (.row (.slice A52 h.counts.length c53) 3 1 h.counts.length (ics h.counts)) :: (.row (.slice A54 h.rn c55) 27 16 h.rn (bcs h.D)) :: (.arr g56 25 ([.int .i64 h.tick, .slice A52 h.counts.length c53, .int .i64 h.depth, .slice A54 h.rn c55])) :: (bsel (b_ 8) (.row (.slice (rA (g_ 8)) (l.length + 1) (rC (g_ 8))) 84 6 (l.length + 1) ((lvs l) ++ ([.int .i64 nx, .int .i64 0, .int .i64 h.tick, .slice A52 h.counts.length c53, .int .i64 h.depth, .slice A54 h.rn c55] : List Value))) (bsel (b_ 2) (.row (.slice (rA (g_ 2)) l.length (rC (g_ 2))) 84 6 l.length (lvs l)) (.free))) :: (bsel (b_ 7) (.arr (g_ 7) 84 ([.int .i64 nx, .int .i64 0, .int .i64 h.tick, .slice A52 h.counts.length c53, .int .i64 h.depth, .slice A54 h.rn c55])) .free) :: [])) hm51 kr_ kr_ (fun w_ h_ => h_.pushFree.pushFree) (fun b_ g_ h_ => by show (fun (x2_ x7_ x8_ : Bool) => (((.arr g2 52 (tbs (.slice S l.length cS) nx)) :: (.arr g5 25 (hcs h A c B d)) :: (.arr g8 52 ([.slice none 0 0, .int .i64 0])) :: (.row (.slice A52 h.counts.length c53) 3 1 h.counts.length (ics h.counts)) :: (.row (.slice A54 h.rn c55) 27 16 h.rn (bcs h.D)) :: (.arr g56 25 ([.int .i64 h.tick, .slice A52 h.counts.length c53, .int .i64 h.depth, .slice A54 h.rn c55])) :: (bsel x8_ (.row (.slice (rA (g_ 8)) (l.length + 1) (rC (g_ 8))) 84 6 (l.length + 1) ((lvs l) ++ ([.int .i64 nx, .int .i64 0, .int .i64 h.tick, .slice A52 h.counts.length c53, .int .i64 h.depth, .slice A54 h.rn c55] : List Value))) (bsel x2_ (.row (.slice (rA (g_ 2)) l.length (rC (g_ 2))) 84 6 l.length (lvs l)) (.free))) :: (bsel x7_ (.arr (g_ 7) 84 ([.int .i64 nx, .int .i64 0, .int .i64 h.tick, .slice A52 h.counts.length c53, .int .i64 h.depth, .slice A54 h.rn c55])) .free) :: []) : List Res)) (b_ 2) (b_ 7) (b_ 8) = _; rw [h_ 2 (by decide), h_ 7 (by decide), h_ 8 (by decide)]) ?_ ?_
 ·refine aoNext rfl (aoVal (fun g_ => [(2, .pointer (some ⟨g2, 0, none⟩))]) (fun g_ a_ h_k => ⟨(h_k.out 2 kr_).trans (lg_), trivial⟩) (fun g_ X_ => (wn rfl)) (fun b_ g_ => by kernel_rfl) (fun b_ g_ X_ w_ h_b h_ => valTo (b := .pointer (some ⟨g2, 0, none⟩)) kr_ (litRun kr_))) ?_
  refine aoNext rfl (aoVal (fun g_ => [(49, .pointer (some ⟨g2, 0, none⟩))]) (fun g_ a_ h_k => ⟨(h_k.inn 0 _ _ kr_ rfl rfl).trans kr_, trivial⟩) (fun g_ X_ => (wn rfl)) (fun b_ g_ => by kernel_rfl) (fun b_ g_ X_ w_ h_b h_ => valTo (b := .slice S l.length cS) kr_ (gLoad (v := .slice S l.length cS) (k := 0) 0 h_ rfl kr_ (.tmp 49) kr_ rfl le_))) ?_
  refine aoNext rfl (aoCallRow 6 (fun g_ => [(50, .slice S l.length cS)]) (fun g_ a_ h_k => ⟨(h_k.inn 1 _ _ kr_ rfl rfl).trans kr_, trivial⟩) 57 (fun g_ => [.slice S l.length cS]) [] [] kr_ (fun g_ X_ => (wn rfl)) rfl (fun g_ X_ => litEv kr_) (fun g_ X_ => litArgs kr_) (fun b_ g_ w_ h_b h_ => cloneV_any l l.length S cS _ ((Rd.below hS h_.bel).more h_.bel.size) (by omega)) (fun _ _ _ => ⟨_, rfl⟩) (fun b_ g_ γ_ h_b => Eq.trans kr_ (congrArg (fun x_ => List.set _ 6 x_) (bselF (α := Res) (h_b.post 8 kr_) (.row (.slice (rA (g_ 8)) (l.length + 1) (rC (g_ 8))) 84 6 (l.length + 1) ((lvs l) ++ ([.int .i64 nx, .int .i64 0, .int .i64 h.tick, .slice A52 h.counts.length c53, .int .i64 h.depth, .slice A54 h.rn c55] : List Value))) (.row (.slice (rA γ_) l.length (rC γ_)) 84 6 l.length (lvs l))))) (fun _ => by kernel_rfl) kr_) ?_
  refine aoNext rfl (aoVal (fun g_ => [(2, .pointer (some ⟨g2, 0, none⟩))]) (fun g_ a_ h_k => ⟨(h_k.out 2 kr_).trans (lg_), trivial⟩) (fun g_ X_ => (wn rfl)) (fun b_ g_ => by kernel_rfl) (fun b_ g_ X_ w_ h_b h_ => valTo (b := .pointer (some ⟨g2, 1, none⟩)) kr_ (litRun kr_))) ?_
  refine aoNext rfl (aoVal (fun g_ => [(52, .pointer (some ⟨g2, 1, none⟩))]) (fun g_ a_ h_k => ⟨(h_k.inn 3 _ _ kr_ rfl rfl).trans kr_, trivial⟩) (fun g_ X_ => (wn rfl)) (fun b_ g_ => by kernel_rfl) (fun b_ g_ X_ w_ h_b h_ => valTo (b := .int .i64 nx) kr_ (gLoad (v := .int .i64 nx) (k := 1) 0 h_ rfl kr_ (.tmp 52) kr_ rfl le_))) ?_
  refine aoNext rfl (aoVal (fun g_ => [(8, .pointer (some ⟨g56, 0, none⟩))]) (fun g_ a_ h_k => ⟨(h_k.out 8 kr_).trans (lg_), trivial⟩) (fun g_ X_ => (wn rfl)) (fun b_ g_ => by kernel_rfl) (fun b_ g_ X_ w_ h_b h_ => valTo (b := .agg ([.int .i64 h.tick, .slice A52 h.counts.length c53, .int .i64 h.depth, .slice A54 h.rn c55]).toArray) kr_ (gLoadAg (vs := [.int .i64 h.tick, .slice A52 h.counts.length c53, .int .i64 h.depth, .slice A54 h.rn c55]) (k := 0) 5 h_ rfl kr_ kr_ (.tmp 8) Ty.ag_voxel_api_Header rfl le_))) ?_
  refine aoNext rfl (aoVal (fun g_ => [(53, .int .i64 nx), (54, .agg ([.int .i64 h.tick, .slice A52 h.counts.length c53, .int .i64 h.depth, .slice A54 h.rn c55]).toArray)]) (fun g_ a_ h_k => ⟨(h_k.inn 4 _ _ kr_ rfl rfl).trans kr_, (h_k.inn 5 _ _ kr_ rfl rfl).trans kr_, trivial⟩) (fun g_ X_ => (wn rfl)) (fun b_ g_ => by kernel_rfl) (fun b_ g_ X_ w_ h_b h_ => valTo (b := .agg ([.int .i64 nx, .int .i64 0, .int .i64 h.tick, .slice A52 h.counts.length c53, .int .i64 h.depth, .slice A54 h.rn c55]).toArray) kr_ (litRun kr_))) ?_
  refine aoNext rfl (aoLit (cs := fun g_ => [.int .i64 nx, .int .i64 0, .int .i64 h.tick, .slice A52 h.counts.length c53, .int .i64 h.depth, .slice A54 h.rn c55]) (n := 1) 7 (fun g_ => [(55, .agg ([.int .i64 nx, .int .i64 0, .int .i64 h.tick, .slice A52 h.counts.length c53, .int .i64 h.depth, .slice A54 h.rn c55]).toArray)]) (fun g_ a_ h_k => ⟨(h_k.inn 6 _ _ kr_ rfl rfl).trans kr_, trivial⟩) Ty.sl_L_api_Version (fun g_ X_ => (wn rfl)) rfl (by decide) (by decide) (fun g_ X_ => by rw [lit_eval]; kernel_rfl) (fun _ _ _ => ⟨_, rfl⟩) (fun b_ g_ γ_ h_b => by kernel_rfl) (fun _ => by kernel_rfl) kr_) ?_
  refine aoNext rfl (aoApp1 (v := fun g_ => .slice (rA (g_ 2)) l.length (rC (g_ 2))) (gb := fun g_ => (g_ 7)) (n := l.length) (xs := lvs l) (ys := ([.int .i64 nx, .int .i64 0, .int .i64 h.tick, .slice A52 h.counts.length c53, .int .i64 h.depth, .slice A54 h.rn c55] : List Value)) 6 7 (fun g_ => [(51, .slice (rA (g_ 2)) l.length (rC (g_ 2))), (56, .slice (some ⟨(g_ 7), 0, none⟩) 1 1)]) (fun g_ a_ h_k => ⟨(h_k.inn 2 _ _ kr_ rfl rfl).trans kr_, (h_k.inn 7 _ _ kr_ rfl rfl).trans kr_, trivial⟩) Ty.sl_L_api_Version (fun b_ g_ h_b => by show some ((bsel (b_ 8) (.row (.slice (rA (g_ 8)) (l.length + 1) (rC (g_ 8))) 84 6 (l.length + 1) ((lvs l) ++ ([.int .i64 nx, .int .i64 0, .int .i64 h.tick, .slice A52 h.counts.length c53, .int .i64 h.depth, .slice A54 h.rn c55] : List Value))) ((bsel (b_ 2) (.row (.slice (rA (g_ 2)) l.length (rC (g_ 2))) 84 6 l.length (lvs l)) (Res.free))))) = some (.row (.slice (rA (g_ 2)) l.length (rC (g_ 2))) 84 6 l.length (lvs l) : Res); rw [bselF h_b.no, bselT (h_b.pre 2 kr_)]) (fun b_ g_ h_b => by show some (bsel (b_ 7) (Res.arr (g_ 7) 84 ([.int .i64 nx, .int .i64 0, .int .i64 h.tick, .slice A52 h.counts.length c53, .int .i64 h.depth, .slice A54 h.rn c55] : List Value)) Res.free) = some (Res.arr (g_ 7) 84 ([.int .i64 nx, .int .i64 0, .int .i64 h.tick, .slice A52 h.counts.length c53, .int .i64 h.depth, .slice A54 h.rn c55] : List Value)); rw [bselT (h_b.pre 7 kr_)]) (fun g_ X_ => (wn rfl)) rfl (fun g_ X_ => litEv kr_) (fun g_ X_ => litEv kr_) kr_ kr_ (by omega) (by omega) (fun b_ g_ γ_ h_b => by kernel_rfl) (fun _ => by kernel_rfl) kr_) ?_
  refine aoNext rfl (aoVal (fun g_ => [(57, .slice (rA (g_ 8)) (l.length + 1) (rC (g_ 8)))]) (fun g_ a_ h_k => ⟨(h_k.inn 8 _ _ kr_ rfl rfl).trans kr_, trivial⟩) (fun g_ X_ => (wn rfl)) (fun b_ g_ => by kernel_rfl) (fun b_ g_ X_ w_ h_b h_ => valTo (b := .slice (rA (g_ 8)) (l.length + 1) (rC (g_ 8))) kr_ (litRun kr_))) ?_
  exact aoDone (by decide)
 intro g_ a_ w59 hF_ hm58
 obtain ⟨X60, rfl⟩ := frLit (⟨hF_.size, hF_.defers, ⟨(hF_.out 2 kr_).trans (lg_), (hF_.out 4 kr_).trans (lg_), (hF_.inn 9 _ _ rfl rfl).trans kr_, (hF_.inn 0 _ _ rfl rfl).trans kr_, (hF_.inn 1 _ _ rfl rfl).trans kr_, (hF_.inn 2 _ _ rfl rfl).trans kr_, (hF_.inn 3 _ _ rfl rfl).trans kr_, (hF_.inn 4 _ _ rfl rfl).trans kr_, (hF_.inn 5 _ _ rfl rfl).trans kr_, (hF_.inn 6 _ _ rfl rfl).trans kr_, (hF_.inn 7 _ _ rfl rfl).trans kr_, (hF_.inn 8 _ _ rfl rfl).trans kr_, trivial⟩⟩ : Fr _ 65 [(2, .pointer (some ⟨g2, 0, none⟩)), (4, .pointer (some ⟨g8, 0, none⟩)), (9, .slice (rA (g_ 8)) (l.length + 1) (rC (g_ 8))), (49, .pointer (some ⟨g2, 0, none⟩)), (50, .slice S l.length cS), (51, .slice (rA (g_ 2)) l.length (rC (g_ 2))), (52, .pointer (some ⟨g2, 1, none⟩)), (53, .int .i64 nx), (54, .agg ([.int .i64 h.tick, .slice A52 h.counts.length c53, .int .i64 h.depth, .slice A54 h.rn c55]).toArray), (55, .agg ([.int .i64 nx, .int .i64 0, .int .i64 h.tick, .slice A52 h.counts.length c53, .int .i64 h.depth, .slice A54 h.rn c55]).toArray), (56, .slice (some ⟨(g_ 7), 0, none⟩) 1 1), (57, .slice (rA (g_ 8)) (l.length + 1) (rC (g_ 8)))])
 clear hF_
 have hm61 : Mem w w59 [.arr g2 52 (tbs (.slice S l.length cS) nx), .arr g5 25 (hcs h A c B d), .arr g8 52 ([.slice none 0 0, .int .i64 0]), .row (.slice A52 h.counts.length c53) 3 1 h.counts.length (ics h.counts), .row (.slice A54 h.rn c55) 27 16 h.rn (bcs h.D), .arr g56 25 ([.int .i64 h.tick, .slice A52 h.counts.length c53, .int .i64 h.depth, .slice A54 h.rn c55]), .row (.slice (rA (g_ 8)) (l.length + 1) (rC (g_ 8))) 84 6 (l.length + 1) ((lvs l) ++ ([.int .i64 nx, .int .i64 0, .int .i64 h.tick, .slice A52 h.counts.length c53, .int .i64 h.depth, .slice A54 h.rn c55] : List Value)), .arr (g_ 7) 84 ([.int .i64 nx, .int .i64 0, .int .i64 h.tick, .slice A52 h.counts.length c53, .int .i64 h.depth, .slice A54 h.rn c55])] := hm58
 clear hm58 hm51
 generalize rA (g_ 2) = A62 at hm61 ⊢
 generalize rC (g_ 2) = c63 at hm61 ⊢
 generalize rA (g_ 8) = A64 at hm61 ⊢
 generalize rC (g_ 8) = c65 at hm61 ⊢
 generalize g_ 7 = g66 at hm61 ⊢
 clear g_
 refine tn_ hK57 ?_
 refine wp_seq_k fun K67 hK67 => ?_
 refine aoStart (aoV [fun _ => .slice A64 (l.length + 1) c65, fun _ => .pointer (some ⟨g2, 1, none⟩), fun _ => .int .i64 nx, fun _ => .int .i64 (nx + 1), fun _ => .agg ([.slice A64 (l.length + 1) c65, .int .i64 (nx + 1)]).toArray, fun _ => .pointer (some ⟨g2, 1, none⟩), fun _ => .int .i64 nx, fun _ => undef, fun _ => .int .i64 nx, fun _ => .int .i64 0]) (aoA [[], [], [], [], [], [], [], [], [], []]) (fun b_ g_ => ((.arr g2 52 (tbs (.slice S l.length cS) nx)) :: (.arr g5 25 (hcs h A c B d)) :: (.arr g8 52 (bsel (b_ 7) [.slice A64 (l.length + 1) c65, .int .i64 (nx + 1)] [.slice none 0 0, .int .i64 0])) :: (.row (.slice A52 h.counts.length c53) 3 1 h.counts.length (ics h.counts)) :: (.row (.slice A54 h.rn c55) 27 16 h.rn (bcs h.D)) :: (.arr g56 25 ([.int .i64 h.tick, .slice A52 h.counts.length c53, .int .i64 h.depth, .slice A54 h.rn c55])) :: (.row (.slice A64 (l.length + 1) c65) 84 6 (l.length + 1) ((lvs l) ++ ([.int .i64 nx, .int .i64 0, .int .i64 h.tick, .slice A52 h.counts.length c53, .int .i64 h.depth, .slice A54 h.rn c55] : List Value))) :: (.arr g66 84 ([.int .i64 nx, .int .i64 0, .int .i64 h.tick, .slice A52 h.counts.length c53, .int .i64 h.depth, .slice A54 h.rn c55])) :: [])) hm61 kr_ kr_ (fun w_ h_ => h_) (fun b_ g_ h_ => by show (fun (x7_ : Bool) => (((.arr g2 52 (tbs (.slice S l.length cS) nx)) :: (.arr g5 25 (hcs h A c B d)) :: (.arr g8 52 (bsel x7_ [.slice A64 (l.length + 1) c65, .int .i64 (nx + 1)] [.slice none 0 0, .int .i64 0])) :: (.row (.slice A52 h.counts.length c53) 3 1 h.counts.length (ics h.counts)) :: (.row (.slice A54 h.rn c55) 27 16 h.rn (bcs h.D)) :: (.arr g56 25 ([.int .i64 h.tick, .slice A52 h.counts.length c53, .int .i64 h.depth, .slice A54 h.rn c55])) :: (.row (.slice A64 (l.length + 1) c65) 84 6 (l.length + 1) ((lvs l) ++ ([.int .i64 nx, .int .i64 0, .int .i64 h.tick, .slice A52 h.counts.length c53, .int .i64 h.depth, .slice A54 h.rn c55] : List Value))) :: (.arr g66 84 ([.int .i64 nx, .int .i64 0, .int .i64 h.tick, .slice A52 h.counts.length c53, .int .i64 h.depth, .slice A54 h.rn c55])) :: []) : List Res)) (b_ 7) = _; rw [h_ 7 (by decide)]) ?_ ?_
 ·refine aoNext rfl (aoVal (fun g_ => [(9, .slice A64 (l.length + 1) c65)]) (fun g_ a_ h_k => ⟨(h_k.out 9 kr_).trans (lg_), trivial⟩) (fun g_ X_ => (wn rfl)) (fun b_ g_ => by kernel_rfl) (fun b_ g_ X_ w_ h_b h_ => valTo (b := .slice A64 (l.length + 1) c65) kr_ (litRun kr_))) ?_
  refine aoNext rfl (aoVal (fun g_ => [(2, .pointer (some ⟨g2, 0, none⟩))]) (fun g_ a_ h_k => ⟨(h_k.out 2 kr_).trans (lg_), trivial⟩) (fun g_ X_ => (wn rfl)) (fun b_ g_ => by kernel_rfl) (fun b_ g_ X_ w_ h_b h_ => valTo (b := .pointer (some ⟨g2, 1, none⟩)) kr_ (litRun kr_))) ?_
  refine aoNext rfl (aoVal (fun g_ => [(59, .pointer (some ⟨g2, 1, none⟩))]) (fun g_ a_ h_k => ⟨(h_k.inn 1 _ _ kr_ rfl rfl).trans kr_, trivial⟩) (fun g_ X_ => (wn rfl)) (fun b_ g_ => by kernel_rfl) (fun b_ g_ X_ w_ h_b h_ => valTo (b := .int .i64 nx) kr_ ((fun (h_ : Mem _ w_ ((.arr g2 52 (tbs (.slice S l.length cS) nx)) :: (.arr g5 25 (hcs h A c B d)) :: (.arr g8 52 ([.slice none 0 0, .int .i64 0])) :: (.row (.slice A52 h.counts.length c53) 3 1 h.counts.length (ics h.counts)) :: (.row (.slice A54 h.rn c55) 27 16 h.rn (bcs h.D)) :: (.arr g56 25 ([.int .i64 h.tick, .slice A52 h.counts.length c53, .int .i64 h.depth, .slice A54 h.rn c55])) :: (.row (.slice A64 (l.length + 1) c65) 84 6 (l.length + 1) ((lvs l) ++ ([.int .i64 nx, .int .i64 0, .int .i64 h.tick, .slice A52 h.counts.length c53, .int .i64 h.depth, .slice A54 h.rn c55] : List Value))) :: (.arr g66 84 ([.int .i64 nx, .int .i64 0, .int .i64 h.tick, .slice A52 h.counts.length c53, .int .i64 h.depth, .slice A54 h.rn c55])) :: [])) => gLoad (v := .int .i64 nx) (k := 1) 0 h_ rfl kr_ (.tmp 59) kr_ rfl le_) (by have h2_ : Mem w w_ ((.arr g2 52 (tbs (.slice S l.length cS) nx)) :: (.arr g5 25 (hcs h A c B d)) :: (.arr g8 52 (bsel (b_ 7) [.slice A64 (l.length + 1) c65, .int .i64 (nx + 1)] [.slice none 0 0, .int .i64 0])) :: (.row (.slice A52 h.counts.length c53) 3 1 h.counts.length (ics h.counts)) :: (.row (.slice A54 h.rn c55) 27 16 h.rn (bcs h.D)) :: (.arr g56 25 ([.int .i64 h.tick, .slice A52 h.counts.length c53, .int .i64 h.depth, .slice A54 h.rn c55])) :: (.row (.slice A64 (l.length + 1) c65) 84 6 (l.length + 1) ((lvs l) ++ ([.int .i64 nx, .int .i64 0, .int .i64 h.tick, .slice A52 h.counts.length c53, .int .i64 h.depth, .slice A54 h.rn c55] : List Value))) :: (.arr g66 84 ([.int .i64 nx, .int .i64 0, .int .i64 h.tick, .slice A52 h.counts.length c53, .int .i64 h.depth, .slice A54 h.rn c55])) :: []) := h_; rw [bselF (h_b.post 7 kr_)] at h2_; exact h2_)))) ?_
  refine aoNext rfl (aoVal (fun g_ => [(60, .int .i64 nx)]) (fun g_ a_ h_k => ⟨(h_k.inn 2 _ _ kr_ rfl rfl).trans kr_, trivial⟩) (fun g_ X_ => (wn rfl)) (fun b_ g_ => by kernel_rfl) (fun b_ g_ X_ w_ h_b h_ => valTo (b := .int .i64 (nx + 1)) kr_ (addRun (A := nx) (B := 1) (C := nx + 1) (.tmp 60) (.const (.int .i64 1)) rfl le_ le_ rfl (by omega)))) ?_
  refine aoNext rfl (aoVal (fun g_ => [(58, .slice A64 (l.length + 1) c65), (61, .int .i64 (nx + 1))]) (fun g_ a_ h_k => ⟨(h_k.inn 0 _ _ kr_ rfl rfl).trans kr_, (h_k.inn 3 _ _ kr_ rfl rfl).trans kr_, trivial⟩) (fun g_ X_ => (wn rfl)) (fun b_ g_ => by kernel_rfl) (fun b_ g_ X_ w_ h_b h_ => valTo (b := .agg ([.slice A64 (l.length + 1) c65, .int .i64 (nx + 1)]).toArray) kr_ (litRun kr_))) ?_
  refine aoNext rfl (aoVal (fun g_ => [(2, .pointer (some ⟨g2, 0, none⟩))]) (fun g_ a_ h_k => ⟨(h_k.out 2 kr_).trans (lg_), trivial⟩) (fun g_ X_ => (wn rfl)) (fun b_ g_ => by kernel_rfl) (fun b_ g_ X_ w_ h_b h_ => valTo (b := .pointer (some ⟨g2, 1, none⟩)) kr_ (litRun kr_))) ?_
  refine aoNext rfl (aoVal (fun g_ => [(63, .pointer (some ⟨g2, 1, none⟩))]) (fun g_ a_ h_k => ⟨(h_k.inn 5 _ _ kr_ rfl rfl).trans kr_, trivial⟩) (fun g_ X_ => (wn rfl)) (fun b_ g_ => by kernel_rfl) (fun b_ g_ X_ w_ h_b h_ => valTo (b := .int .i64 nx) kr_ (gLoad (v := .int .i64 nx) (k := 1) 0 h_ rfl kr_ (.tmp 63) kr_ rfl le_))) ?_
  refine aoNext rfl (aoStore (gb := fun g_ => g8) (k := 0) (cur := fun g_ => [.slice none 0 0, .int .i64 0]) (vs := fun g_ => [.slice A64 (l.length + 1) c65, .int .i64 (nx + 1)]) 2 (fun g_ => [(4, .pointer (some ⟨g8, 0, none⟩)), (62, .agg ([.slice A64 (l.length + 1) c65, .int .i64 (nx + 1)]).toArray)]) (fun g_ a_ h_k => ⟨(h_k.out 4 kr_).trans (lg_), (h_k.inn 4 _ _ kr_ rfl rfl).trans kr_, trivial⟩) Ty.ag_voxel_api_Versions (fun b_ g_ h_b => by show some (Res.arr g8 52 (bsel (b_ 7) [.slice A64 (l.length + 1) c65, .int .i64 (nx + 1)] [.slice none 0 0, .int .i64 0])) = some (Res.arr g8 52 ([.slice none 0 0, .int .i64 0])); rw [bselF h_b.no]) (fun g_ X_ => (wn rfl)) rfl (fun g_ X_ => litEv kr_) (fun g_ X_ => litEv kr_) (fun _ => by kernel_rfl) (fun _ => by kernel_rfl) (fun _ => by kernel_rfl) (fun b_ g_ h_b => by kernel_rfl) rfl) ?_
  refine aoNext rfl (aoVal (fun g_ => [(64, .int .i64 nx)]) (fun g_ a_ h_k => ⟨(h_k.inn 6 _ _ kr_ rfl rfl).trans kr_, trivial⟩) (fun g_ X_ => (wn rfl)) (fun b_ g_ => by kernel_rfl) (fun b_ g_ X_ w_ h_b h_ => valTo (b := .int .i64 nx) kr_ (litRun kr_))) ?_
  refine aoNext rfl (aoVal (fun g_ => []) (fun _ _ _ => trivial) (fun g_ X_ => (wn rfl)) (fun b_ g_ => by kernel_rfl) (fun b_ g_ X_ w_ h_b h_ => valTo (b := .int .i64 0) kr_ (litRun kr_))) ?_
  exact aoDone (by decide)
 intro g_ a_ w69 hF_ hm68
 obtain ⟨X70, rfl⟩ := frLit (⟨hF_.size, hF_.defers, ⟨(hF_.out 4 kr_).trans (lg_), (hF_.inn 8 _ _ rfl rfl).trans kr_, (hF_.inn 9 _ _ rfl rfl).trans kr_, (hF_.inn 0 _ _ rfl rfl).trans kr_, (hF_.inn 1 _ _ rfl rfl).trans kr_, (hF_.inn 2 _ _ rfl rfl).trans kr_, (hF_.inn 3 _ _ rfl rfl).trans kr_, (hF_.inn 4 _ _ rfl rfl).trans kr_, (hF_.inn 5 _ _ rfl rfl).trans kr_, (hF_.inn 6 _ _ rfl rfl).trans kr_, trivial⟩⟩ : Fr _ 65 [(4, .pointer (some ⟨g8, 0, none⟩)), (5, .int .i64 nx), (6, .int .i64 0), (58, .slice A64 (l.length + 1) c65), (59, .pointer (some ⟨g2, 1, none⟩)), (60, .int .i64 nx), (61, .int .i64 (nx + 1)), (62, .agg ([.slice A64 (l.length + 1) c65, .int .i64 (nx + 1)]).toArray), (63, .pointer (some ⟨g2, 1, none⟩)), (64, .int .i64 nx)])
 clear hF_
 have hm71 : Mem w w69 [.arr g2 52 (tbs (.slice S l.length cS) nx), .arr g5 25 (hcs h A c B d), .arr g8 52 ([.slice A64 (l.length + 1) c65, .int .i64 (nx + 1)]), .row (.slice A52 h.counts.length c53) 3 1 h.counts.length (ics h.counts), .row (.slice A54 h.rn c55) 27 16 h.rn (bcs h.D), .arr g56 25 ([.int .i64 h.tick, .slice A52 h.counts.length c53, .int .i64 h.depth, .slice A54 h.rn c55]), .row (.slice A64 (l.length + 1) c65) 84 6 (l.length + 1) ((lvs l) ++ ([.int .i64 nx, .int .i64 0, .int .i64 h.tick, .slice A52 h.counts.length c53, .int .i64 h.depth, .slice A54 h.rn c55] : List Value)), .arr g66 84 ([.int .i64 nx, .int .i64 0, .int .i64 h.tick, .slice A52 h.counts.length c53, .int .i64 h.depth, .slice A54 h.rn c55])] := hm68
 clear hm68 hm61
 refine tn_ hK67 ?_
 refine wp_ret ?_
 refine bodyPost_ret (v := .tuple #[.agg ([.slice A64 (l.length + 1) c65, .int .i64 (nx + 1)]).toArray, .int .i64 nx, .int .i64 0]) (gRes3 rfl (gResAg (cs := [.slice A64 (l.length + 1) c65, .int .i64 (nx + 1)]) 2 hm71 rfl Ty.ag_voxel_api_Versions rfl (lg_)) (gResTmp (t := 5) (v := .int .i64 nx) (lg_)) (gResTmp (t := 6) (v := .int .i64 0) (lg_))) rfl ?_
 have hfin_ := addV_yes (l := l) (nx := nx) hck_ hcov_ (by omega) A52 c53 A54 c55
 have hx_ : lvs ((l ++ [⟨nx, 0, h, A52, c53, A54, c55⟩]) : List Lv) = (lvs l) ++ ([.int .i64 nx, .int .i64 0, .int .i64 h.tick, .slice A52 h.counts.length c53, .int .i64 h.depth, .slice A54 h.rn c55] : List Value) := lvs_app _ _
 have hlen_ : ((l ++ [⟨nx, 0, h, A52, c53, A54, c55⟩]) : List Lv).length = l.length + 1 := by rw [List.length_append]; show l.length + 1 = _; omega
 refine ⟨((l ++ [⟨nx, 0, h, A52, c53, A54, c55⟩]) : List Lv), A64, c65, by first | (rw [hfin_, hlen_]; done) | (rw [hfin_, hlen_]; rfl), by rw [hfin_], ⟨?_, AllAt.push (hall.below hm71.bel) ⟨(hm71.rdRow 3 rfl), (hm71.rdRow 4 rfl)⟩⟩, NewT.push (own_new (hm71.row 6 rfl)) (own_new (hm71.row 3 rfl)) (own_new (hm71.row 4 rfl)), hm71.bel⟩
 rw [hlen_, hx_]
 exact hm71.rdRow 6 rfl
theorem AllAt.sub {l m : List Lv} {w : World} (h : AllAt l w) (s : m.Sublist l) : AllAt m w := fun v hv => h v (s.subset hv)
theorem NewT.sub {B : Nat} {l m : List Lv} {S' : Option Addr} (h : NewA B S') (s : m.Sublist l) : NewT B l m S' := ⟨h, fun v hv => Or.inl ⟨v, s.subset hv, rfl, rfl, rfl⟩⟩
theorem vrs_num (l : List Lv) : (vrs l).map (·.num) = l.map (·.num) := by unfold vrs; rw [List.map_map]; rfl
theorem coll_kept (l : List Lv) (nx keep : Int) : vrs (selG l.length keep true 0 l) = (collV (vrs l) nx keep).1 := by
 rw [selG_vrs]; unfold collV; rw [vrs_len]
theorem coll_gone (l : List Lv) (nx keep : Int) : (selG l.length keep false 0 l).map (·.num) = (collV (vrs l) nx keep).2.2 := by
 rw [← vrs_num, selG_vrs]; unfold collV; rw [vrs_len]
theorem ics_push {X : List Value} {l : List Int} (h : X = ics l) (n : Int) : X ++ ([.int .i64 n] : List Value) = ics (l ++ [n]) := by
 subst h; unfold ics; rw [List.map_append]; rfl
theorem take_num {l : List Lv} {k : Nat} {v : Lv} (h : l[k]? = some v) : (l.take k).map (·.num) ++ [v.num] = (l.take (k + 1)).map (·.num) := by
 rw [List.take_add_one, h]; simp
theorem lvs_push {X : List Value} {l : List Lv} (h : X = lvs l) (v : Lv) : X ++ lvc v = lvs (l ++ [v]) := by
 subst h; rw [lvs_app]; show _ = lvs l ++ (lvc v ++ []); rw [List.append_nil]
theorem selG_len (n : Nat) (keep : Int) (b : Bool) (l : List Lv) : (selG n keep b 0 l).length ≤ l.length := (selG_sub n keep b 0 l).length_le
theorem Mem.newRd2 {w0 w w' : World} {L : List Res} {A B : Option Addr} {size n c size2 m d : Nat} {xs ys : List Value} (h : Mem w0 w L) (b : Below w.heap.size w w') (hr : Rd w' w'.heap.size size A n c xs) (hn : NewA w.heap.size A) (hr2 : Rd w' w'.heap.size size2 B m d ys) (hn2 : NewA w.heap.size B) : Mem w0 w' (L ++ [.rd A size n c xs, .rd B size2 m d ys]) := by
 have h1 := h.newRd b hr hn
 have h2 := h.newRd b hr2 hn2
 refine ⟨h1.bel, fun r hr => ?_, ?_⟩
 ·rcases List.mem_append.1 hr with hr | hr
  ·exact h1.each r (List.mem_append_left _ hr)
  ·simp at hr
   rcases hr with rfl | rfl
   ·exact h1.each _ (List.mem_append_right _ (by simp))
   ·exact h2.each _ (List.mem_append_right _ (by simp))
 ·refine List.pairwise_append.2 ⟨h.apart, ?_, fun r hr s hs => ?_⟩
  ·refine List.pairwise_pair.2 (Or.inl ⟨rfl, rfl⟩)
  ·simp at hs
   rcases hs with rfl | rfl
   ·exact (List.pairwise_append.1 h1.apart).2.2 r hr _ (by simp)
   ·exact (List.pairwise_append.1 h2.apart).2.2 r hr _ (by simp)
theorem coll1_any (l : List Lv) (S : Option Addr) (cS : Nat) (nx : Int) (keep : Int) (hkeep : -9223372036854775808 ≤ keep ∧ keep ≤ 9223372036854775807) (k : Nat) (hk : k ≤ l.length) (hl : l.length ≤ 1000) (v : Lv) (g g2 : Nat) (w : World) (hg : Rd w w.heap.size 2 (some ⟨g, 0, none⟩) 1 1 (tbs (.slice S l.length cS) nx)) (hg2 : Rd w w.heap.size 1 (some ⟨g2, 0, none⟩) 1 1 [.int .i64 keep]) : Calls Tryz.prog 61 #[.int .i64 (k : Int), .agg (lvc v).toArray, .pointer (some ⟨g, 0 + 0 * 2, none⟩), .pointer (some ⟨g2, 0 + 0 * 1, none⟩)] w (RetV w (.bool (kpV l.length keep k v.pins))) := by
 have hm0 := Mem.nil w
 go_enter Tryz.func61, Tryz.ntmps61
 refine litStart 19 [(0, .int .i64 (k : Int)), (1, .agg (lvc v).toArray), (2, .pointer (some ⟨g, 0 + 0 * 2, none⟩)), (3, .pointer (some ⟨g2, 0 + 0 * 1, none⟩))] kr_ (fun X0 => ?_)
 refine wp_seq_k fun K1 hK1 => ?_
 refine plStart ?_
 refine plBox hm0 (cs := lvc v) (i := 0) rfl (wn rfl) rfl le_ ?_
 intro g2 w4 hm3
 clear hm0
 try simp only [lc1_, lc2_, lc3_, lc4_] at hm3
 refine qP rfl ?_
 refine lk_ (.bool false) ?_
 refine plD ?_
 refine tn_ hK1 ?_
 refine wp_seq_k fun K5 hK5 => ?_
 refine plStart ?_
 refine lk_ (.pointer (some ⟨g2, 1, none⟩)) ?_
 refine litVal (v := .int .i64 v.pins) rfl (wn rfl) (gLoad (v := .int .i64 v.pins) (k := 1) 0 hm3 rfl kr_ (.tmp 7) kr_ rfl le_) rfl (by decide) ?_
 by_cases h6 : 0 < v.pins
 ·refine litVal (v := .bool true) rfl (wn rfl) (boolTo (decide_eq_true h6) (gtrRun (A := v.pins) (B := 0) (.tmp 8) (.const (.int .i64 0)) rfl le_ le_)) rfl (by decide) ?_
  refine lk_ (.bool true) ?_
  refine ps_ (i := 4) ?_
  refine ps_ (i := 5) ?_
  refine ps_ (i := 6) ?_
  refine ps_ (i := 7) ?_
  refine ps_ (i := 8) ?_
  refine ps_ (i := 9) ?_
  refine ps_ (i := 10) ?_
  refine lk_ (.bool true) ?_
  refine lk_ (.bool true) ?_
  refine plD ?_
  refine tn_ hK5 ?_
  refine wpPrune [(6, .bool true)] ⟨lg_, trivial⟩ (fun X7 => ?_)
  refine wp_ret ?_
  refine bodyPost_ret (v := .bool true) (gRes1 rfl (gResTmp (t := 6) (v := .bool true) (lg_))) rfl ?_
  exact ⟨congrArg (fun b_ => Ending.returned (.bool b_)) (show true = kpV l.length keep k v.pins from (decide_eq_true (by omega)).symm), hm3.bel⟩
 refine litVal (v := .bool false) rfl (wn rfl) (boolTo (decide_eq_false h6) (gtrRun (A := v.pins) (B := 0) (.tmp 8) (.const (.int .i64 0)) rfl le_ le_)) rfl (by decide) ?_
 refine lk_ (.bool false) ?_
 refine litVal (v := .pointer (some ⟨g, 0 + 0 * 2, none⟩)) rfl (wgY rfl rfl rfl (by decide) kr_) (litRun kr_) rfl (by decide) ?_
 refine litVal (v := .slice S l.length cS) rfl (wgY rfl rfl rfl (by decide) kr_) (gLoadRd (v := .slice S l.length cS) (m := 0 * 2) ((Rd.below hg hm3.bel).more hm3.bel.size) rfl (rfl) (by decide) (.tmp 11) kr_ rfl le_) rfl (by decide) ?_
 refine litVal (v := .int .i64 (l.length : Int)) rfl (wgY rfl rfl rfl (by decide) kr_) (lenSlRun (A := S) (n := l.length) (c := cS) (.tmp 12) Ty.und_L_api_Version rfl le_) rfl (by decide) ?_
 refine litVal (v := .int .i64 (k : Int)) rfl (wgY rfl rfl rfl (by decide) kr_) (litRun kr_) rfl (by decide) ?_
 refine litVal (v := .int .i64 ((l.length : Int) - (k : Int))) rfl (wgY rfl rfl rfl (by decide) kr_) (subRun (A := (l.length : Int)) (B := (k : Int)) (C := (l.length : Int) - (k : Int)) (.tmp 13) (.tmp 14) rfl le_ le_ rfl (by omega)) rfl (by decide) ?_
 refine litVal (v := .int .i64 keep) rfl (wgY rfl rfl rfl (by decide) kr_) (gLoadRd (v := .int .i64 keep) (m := 0 * 1) ((Rd.below hg2 hm3.bel).more hm3.bel.size) rfl (rfl) (by decide) (.tmp 3) kr_ rfl le_) rfl (by decide) ?_
 by_cases h8 : ((l.length : Int) - (k : Int)) ≤ keep
 ·refine litVal (v := .bool true) rfl (wgY rfl rfl rfl (by decide) kr_) (boolTo (decide_eq_true h8) (leqRun (A := ((l.length : Int) - (k : Int))) (B := keep) (.tmp 15) (.tmp 16) rfl le_ le_)) rfl (by decide) ?_
  refine lk_ (.bool true) ?_
  refine lk_ (.bool true) ?_
  refine plD ?_
  refine tn_ hK5 ?_
  refine wpPrune [(6, .bool true)] ⟨lg_, trivial⟩ (fun X9 => ?_)
  refine wp_ret ?_
  refine bodyPost_ret (v := .bool true) (gRes1 rfl (gResTmp (t := 6) (v := .bool true) (lg_))) rfl ?_
  exact ⟨congrArg (fun b_ => Ending.returned (.bool b_)) (show true = kpV l.length keep k v.pins from (decide_eq_true (by omega)).symm), hm3.bel⟩
 refine litVal (v := .bool false) rfl (wgY rfl rfl rfl (by decide) kr_) (boolTo (decide_eq_false h8) (leqRun (A := ((l.length : Int) - (k : Int))) (B := keep) (.tmp 15) (.tmp 16) rfl le_ le_)) rfl (by decide) ?_
 refine lk_ (.bool false) ?_
 refine lk_ (.bool false) ?_
 refine plD ?_
 refine tn_ hK5 ?_
 refine wpPrune [(6, .bool false)] ⟨lg_, trivial⟩ (fun X10 => ?_)
 refine wp_ret ?_
 refine bodyPost_ret (v := .bool false) (gRes1 rfl (gResTmp (t := 6) (v := .bool false) (lg_))) rfl ?_
 exact ⟨congrArg (fun b_ => Ending.returned (.bool b_)) (show false = kpV l.length keep k v.pins from (decide_eq_false (by omega)).symm), hm3.bel⟩
theorem split_any (l : List Lv) (S : Option Addr) (cS : Nat) (nx : Int) (keep : Int) (hkeep : -9223372036854775808 ≤ keep ∧ keep ≤ 9223372036854775807) (g g2 : Nat) (w : World) (hS : Rd w w.heap.size 6 S l.length cS (lvs l)) (hl : l.length ≤ 1000) (hg : Rd w w.heap.size 2 (some ⟨g, 0, none⟩) 1 1 (tbs (.slice S l.length cS) nx)) (hg2 : Rd w w.heap.size 1 (some ⟨g2, 0, none⟩) 1 1 [.int .i64 keep]) : Calls Tryz.prog 60 #[.slice S l.length cS, .func (.func 61) #[] #[.pointer (some ⟨g, 0, none⟩), .pointer (some ⟨g2, 0, none⟩)]] w (fun e w' => ∃ (ya na : List Lv) (A1 : Option Addr) (c1 : Nat) (A2 : Option Addr) (c2 : Nat), ya = selG l.length keep true 0 l ∧ na = selG l.length keep false 0 l ∧ e = .returned (.tuple #[.slice A1 ya.length c1, .slice A2 na.length c2]) ∧ Rd w' w'.heap.size 6 A1 ya.length c1 (lvs ya) ∧ Rd w' w'.heap.size 6 A2 na.length c2 (lvs na) ∧ NewA w.heap.size A1 ∧ NewA w.heap.size A2 ∧ Below w.heap.size w w') := by
 have hm0 := Mem.nil w
 go_enter Tryz.func60, Tryz.ntmps60
 refine litStart 30 [(0, .slice S l.length cS), (1, .func (.func 61) #[] #[.pointer (some ⟨g, 0, none⟩), .pointer (some ⟨g2, 0, none⟩)])] kr_ (fun X0 => ?_)
 refine wp_seq_k fun K1 hK1 => ?_
 refine plStart ?_
 refine lk_ (.slice none 0 0) ?_
 refine lk_ (.slice none 0 0) ?_
 refine plD ?_
 refine tn_ hK1 ?_
 refine wp_seq_k fun K2 hK2 => ?_
 refine wp_seq_k fun K3 hK3 => ?_
 refine plStart ?_
 refine lk_ (.slice S l.length cS) ?_
 refine litVal (v := .int .i64 (l.length : Int)) rfl (wn rfl) (lenSlRun (A := S) (n := l.length) (c := cS) (.tmp 8) Ty.und_L_api_Version rfl le_) rfl (by decide) ?_
 refine lk_ (.int .i64 0) ?_
 refine plD ?_
 refine tn_ hK3 ?_
 refine wp_block ?_
 refine gwLoop (fun n_ a_ w_ => ∃ (k : Nat) (ya na : List Lv) (A1 A2 : Option Addr) (c1 c2 : Nat), n_ = l.length - k ∧ (k ≤ l.length) ∧ (ya ++ selG l.length keep true k (l.drop k) = selG l.length keep true 0 l) ∧ (na ++ selG l.length keep false k (l.drop k) = selG l.length keep false 0 l) ∧ (ya.length ≤ k ∧ na.length ≤ k) ∧ Fr a_ 30 [(1, .func (.func 61) #[] #[.pointer (some ⟨g, 0, none⟩), .pointer (some ⟨g2, 0, none⟩)]), (4, .slice A1 ya.length c1), (5, .slice A2 na.length c2), (8, .slice S l.length cS), (9, .int .i64 (l.length : Int)), (10, .int .i64 (k : Int))] ∧ Mem w w_ [.row (.slice A1 ya.length c1) 84 6 ya.length (lvs ya), .row (.slice A2 na.length c2) 84 6 na.length (lvs na)]) (l.length - 0) ⟨0, [], [], none, none, 0, 0, rfl, (Nat.zero_le _), rfl, rfl, ⟨Nat.zero_le _, Nat.zero_le _⟩, ⟨litSize, rfl, ⟨lg_, ⟨lg_, ⟨lg_, ⟨lg_, ⟨lg_, ⟨lg_, trivial⟩⟩⟩⟩⟩⟩⟩, ((hm0.nilRow 84 6).nilRow 84 6)⟩ ?_
 clear hm0
 intro n_ a6 w4 hI_
 obtain ⟨k, ya, na, A1, A2, c1, c2, rfl, hk, hy, hn, hlen_, hF_, hm5⟩ := hI_
 obtain ⟨X7, rfl⟩ := frLit hF_
 clear hF_
 refine wp_seq_k fun K8 hK8 => ?_
 refine plStart ?_
 by_cases h9 : (k : Int) < (l.length : Int)
 ·obtain ⟨v, hkv⟩ : ∃ v, l[k]? = some v := ⟨_, List.getElem?_eq_getElem (by omega)⟩
  obtain ⟨bS_, oS_, rfl, _, _⟩ := hS.cells (by omega)
  refine litVal (v := .bool true) rfl (wn rfl) (boolTo (decide_eq_true h9) (lssRun (A := (k : Int)) (B := (l.length : Int)) (.tmp 10) (.tmp 9) rfl le_ le_)) rfl (by decide) ?_
  refine plD ?_
  refine tn_ hK8 ?_
  refine wp_seq_k fun K10 hK10 => ?_
  refine wp_cond_true le_ ?_
  refine wp_skip ?_
  refine tn_ hK10 ?_
  refine wp_seq_k fun K11 hK11 => ?_
  refine wp_block ?_
  refine wp_seq_k fun K12 hK12 => ?_
  refine plStart ?_
  refine lk_ (.int .i64 (k : Int)) ?_
  refine litVal (v := .pointer (some ⟨bS_, oS_ + k * 6, none⟩)) rfl (wn rfl) (gIaSl (b := bS_) (off := oS_) (n := l.length) (c := cS) (kk := .i64) (K := (k : Int)) (.tmp 8) (.tmp 10) k Ty.sl_L_api_Version rfl le_ le_ (rfl) (by omega)) rfl (by decide) ?_
  refine litVal (v := .agg (lvc v).toArray) rfl (wn rfl) (gLoadAgRd (vs := lvc v) (m := k * 6) ((Rd.below hS hm5.bel).more hm5.bel.size) rfl (fun i_ u_ hu_ => lvs_get hkv i_ u_ hu_) kr_ (by omega) (.tmp 13) Ty.ag_voxel_api_Version rfl le_) rfl (by decide) ?_
  refine plAlloc (z := [.int .i64 0, .int .i64 0, .int .i64 0, .slice none 0 0, .int .i64 0, .slice none 0 0]) Ty.ag_voxel_api_Version hm5 (i := 3) rfl (wn rfl) rfl ?_
  intro g13 w15 hm14
  clear hm5
  try simp only [lc1_, lc2_, lc3_, lc4_] at hm14
  refine qP rfl ?_
  refine lk_ (.int .i64 (k : Int)) ?_
  refine plStore 2 Ty.ag_voxel_api_Version hm14 rfl (i := 5) (cs := lvc v) rfl (wn rfl) rfl le_ le_ rfl rfl kr_ ?_
  intro w17 hm16
  clear hm14
  try simp only [lc1_, lc2_, lc3_, lc4_] at hm16
  refine qNone rfl ?_
  refine plD ?_
  refine tn_ hK12 ?_
  refine wp_seq_k fun K18 hK18 => ?_
  refine plStart ?_
  refine lk_ (.func (.func 61) #[] #[.pointer (some ⟨g, 0, none⟩), .pointer (some ⟨g2, 0, none⟩)]) ?_
  refine lk_ (.int .i64 (k : Int)) ?_
  refine litVal (v := .agg (lvc v).toArray) rfl (wn rfl) (gLoadAg (vs := lvc v) (k := 0) 2 hm16 rfl kr_ kr_ (.tmp 7) Ty.ag_voxel_api_Version rfl le_) rfl (by decide) ?_
  refine plCall (i := 3) 61 [.int .i64 (k : Int), .agg (lvc v).toArray] [] [.pointer (some ⟨g, 0, none⟩), .pointer (some ⟨g2, 0, none⟩)] rfl kr_ (wn rfl) rfl le_ (litArgs kr_) (coll1_any l _ cS nx keep hkeep k (by omega) hl v g g2 _ ((Rd.below hg hm16.bel).more hm16.bel.size) ((Rd.below hg2 hm16.bel).more hm16.bel.size)) ?_
  rintro e w19 ⟨rfl, hbz⟩
  have hm20 := hm16.below hbz
  clear hbz hm16
  refine ⟨_, rfl, ?_⟩
  refine qP rfl ?_
  rcases bool_or (kpV l.length keep k v.pins) with h21 | h21
  ·rw [h21]
   refine plD ?_
   refine tn_ hK18 ?_
   refine wp_cond_false le_ ?_
   refine plStart ?_
   refine lk_ (.slice A2 na.length c2) ?_
   refine litVal (v := .agg (lvc v).toArray) rfl (wn rfl) (gLoadAg (vs := lvc v) (k := 0) 2 hm20 rfl kr_ kr_ (.tmp 7) Ty.ag_voxel_api_Version rfl le_) rfl (by decide) ?_
   refine plLit (cs := [.int .i64 v.num, .int .i64 v.pins, .int .i64 v.h.tick, .slice v.A v.h.counts.length v.c, .int .i64 v.h.depth, .slice v.B v.h.rn v.d]) (n := 1) Ty.sl_L_api_Version hm20 (i := 2) rfl (wn rfl) rfl (by decide) (by decide) (by rw [lit_eval]; kernel_rfl) ?_
   intro g22 w24 hm23
   clear hm20
   try simp only [lc1_, lc2_, lc3_, lc4_] at hm23
   refine qP rfl ?_
   refine plApp1 (v := .slice A2 na.length c2) (n := na.length) (xs := lvs na) (ys := [.int .i64 v.num, .int .i64 v.pins, .int .i64 v.h.tick, .slice v.A v.h.counts.length v.c, .int .i64 v.h.depth, .slice v.B v.h.rn v.d]) 1 3 Ty.sl_L_api_Version hm23 rfl rfl (i := 3) rfl (wn rfl) rfl le_ le_ kr_ kr_ (by omega) (by omega) ?_
   intro v29 w26 hm25
   clear hm23
   try simp only [lc1_, lc2_, lc3_, lc4_] at hm25
   replace hm25 := Mem.rowEq (v := v29) (e := 84) (size := 6) (n := na.length + 1) (n' := (na ++ [v]).length) (xs := (lvs na) ++ ([.int .i64 v.num, .int .i64 v.pins, .int .i64 v.h.tick, .slice v.A v.h.counts.length v.c, .int .i64 v.h.depth, .slice v.B v.h.rn v.d])) (xs' := lvs (na ++ [v])) 1 hm25 rfl (by rw [List.length_append]; rfl) (lvs_push rfl v)
   try simp only [lc1_, lc2_, lc3_, lc4_] at hm25
   obtain ⟨A27, c28, rfl⟩ := Mem.rowSl (v := v29) (e := 84) (size := 6) (n := (na ++ [v]).length) (xs := lvs (na ++ [v])) 1 hm25 rfl
   refine qP rfl ?_
   refine lk_ (.slice A27 ((na ++ [v]).length) c28) ?_
   refine plD ?_
   refine inBlock_normal ?_
   refine tn_ hK11 ?_
   refine plStart ?_
   refine litVal (v := .int .i64 ((k : Int) + 1)) rfl (wn rfl) (addRun (A := (k : Int)) (B := 1) (C := (k : Int) + 1) (.tmp 10) (.const (.int .i64 1)) rfl le_ le_ rfl (by omega)) rfl (by decide) ?_
   refine lk_ (.int .i64 ((k : Int) + 1)) ?_
   refine plD ?_
   refine then_normal ?_
   exact ⟨_, by omega, (k + 1), ya, (na ++ [v]), A1, A27, c1, c28, rfl, (by omega), (sel_no hkv hy (by rw [h21]; decide)), (sel_yes hkv hn h21), ⟨by omega, by rw [List.length_append]; show na.length + 1 ≤ _; omega⟩, ⟨litSize, rfl, ⟨lg_, ⟨lg_, ⟨lg_, ⟨lg_, ⟨lg_, ⟨lg_, trivial⟩⟩⟩⟩⟩⟩⟩, (hm25.sub (.cons_cons _ (.cons_cons _ (.cons _ (.cons _ .slnil)))))⟩
  rw [h21]
  refine plD ?_
  refine tn_ hK18 ?_
  refine wp_cond_true le_ ?_
  refine plStart ?_
  refine lk_ (.slice A1 ya.length c1) ?_
  refine litVal (v := .agg (lvc v).toArray) rfl (wn rfl) (gLoadAg (vs := lvc v) (k := 0) 2 hm20 rfl kr_ kr_ (.tmp 7) Ty.ag_voxel_api_Version rfl le_) rfl (by decide) ?_
  refine plLit (cs := [.int .i64 v.num, .int .i64 v.pins, .int .i64 v.h.tick, .slice v.A v.h.counts.length v.c, .int .i64 v.h.depth, .slice v.B v.h.rn v.d]) (n := 1) Ty.sl_L_api_Version hm20 (i := 2) rfl (wn rfl) rfl (by decide) (by decide) (by rw [lit_eval]; kernel_rfl) ?_
  intro g30 w32 hm31
  clear hm20
  try simp only [lc1_, lc2_, lc3_, lc4_] at hm31
  refine qP rfl ?_
  refine plApp1 (v := .slice A1 ya.length c1) (n := ya.length) (xs := lvs ya) (ys := [.int .i64 v.num, .int .i64 v.pins, .int .i64 v.h.tick, .slice v.A v.h.counts.length v.c, .int .i64 v.h.depth, .slice v.B v.h.rn v.d]) 0 3 Ty.sl_L_api_Version hm31 rfl rfl (i := 3) rfl (wn rfl) rfl le_ le_ kr_ kr_ (by omega) (by omega) ?_
  intro v37 w34 hm33
  clear hm31
  try simp only [lc1_, lc2_, lc3_, lc4_] at hm33
  replace hm33 := Mem.rowEq (v := v37) (e := 84) (size := 6) (n := ya.length + 1) (n' := (ya ++ [v]).length) (xs := (lvs ya) ++ ([.int .i64 v.num, .int .i64 v.pins, .int .i64 v.h.tick, .slice v.A v.h.counts.length v.c, .int .i64 v.h.depth, .slice v.B v.h.rn v.d])) (xs' := lvs (ya ++ [v])) 0 hm33 rfl (by rw [List.length_append]; rfl) (lvs_push rfl v)
  try simp only [lc1_, lc2_, lc3_, lc4_] at hm33
  obtain ⟨A35, c36, rfl⟩ := Mem.rowSl (v := v37) (e := 84) (size := 6) (n := (ya ++ [v]).length) (xs := lvs (ya ++ [v])) 0 hm33 rfl
  refine qP rfl ?_
  refine lk_ (.slice A35 ((ya ++ [v]).length) c36) ?_
  refine plD ?_
  refine inBlock_normal ?_
  refine tn_ hK11 ?_
  refine plStart ?_
  refine litVal (v := .int .i64 ((k : Int) + 1)) rfl (wn rfl) (addRun (A := (k : Int)) (B := 1) (C := (k : Int) + 1) (.tmp 10) (.const (.int .i64 1)) rfl le_ le_ rfl (by omega)) rfl (by decide) ?_
  refine lk_ (.int .i64 ((k : Int) + 1)) ?_
  refine plD ?_
  refine then_normal ?_
  exact ⟨_, by omega, (k + 1), (ya ++ [v]), na, A35, A2, c36, c2, rfl, (by omega), (sel_yes hkv hy h21), (sel_no hkv hn (by rw [h21]; decide)), ⟨by rw [List.length_append]; show ya.length + 1 ≤ _; omega, by omega⟩, ⟨litSize, rfl, ⟨lg_, ⟨lg_, ⟨lg_, ⟨lg_, ⟨lg_, ⟨lg_, trivial⟩⟩⟩⟩⟩⟩⟩, (hm33.sub (.cons_cons _ (.cons_cons _ (.cons _ (.cons _ .slnil)))))⟩
 refine litVal (v := .bool false) rfl (wn rfl) (boolTo (decide_eq_false h9) (lssRun (A := (k : Int)) (B := (l.length : Int)) (.tmp 10) (.tmp 9) rfl le_ le_)) rfl (by decide) ?_
 refine plD ?_
 refine tn_ hK8 ?_
 refine wp_seq_k fun K38 hK38 => ?_
 refine wp_cond_false le_ ?_
 refine wp_exit ?_
 refine then_exit ?_
 refine then_exit ?_
 refine inBlock_exit ?_
 refine tn_ hK2 ?_
 refine wp_seq_k fun K39 hK39 => ?_
 refine plStart ?_
 refine lk_ (.slice A1 ya.length c1) ?_
 refine lk_ (.slice A2 na.length c2) ?_
 refine lk_ (.slice A1 ya.length c1) ?_
 refine lk_ (.slice A2 na.length c2) ?_
 refine plD ?_
 refine tn_ hK39 ?_
 refine wp_ret ?_
 refine bodyPost_ret (v := .tuple #[.slice A1 ya.length c1, .slice A2 na.length c2]) (gRes2 rfl (gResTmp (t := 4) (v := .slice A1 ya.length c1) (lg_)) (gResTmp (t := 5) (v := .slice A2 na.length c2) (lg_))) rfl ?_
 have hy_ := sel_end (by omega) hy
 have hn_ := sel_end (by omega) hn
 exact ⟨ya, na, A1, c1, A2, c2, hy_, hn_, rfl, hm5.rdRow 0 rfl, hm5.rdRow 1 rfl, own_new (hm5.row 0 rfl), own_new (hm5.row 1 rfl), hm5.bel⟩
theorem collect_any (l : List Lv) (S : Option Addr) (cS : Nat) (nx : Int) (keep : Int) (hkeep : -9223372036854775808 ≤ keep ∧ keep ≤ 9223372036854775807) (w : World) (hT : TbAt w l S cS) (hl : l.length ≤ 1000) : Calls Tryz.prog 22 #[.agg (tbs (.slice S l.length cS) nx).toArray, .int .i64 keep] w (fun e w' => ∃ l' S' c' A c, e = .returned (.tuple #[.agg (tbs (.slice S' l'.length c') (collV (vrs l) nx keep).2.1).toArray, .slice A (collV (vrs l) nx keep).2.2.length c]) ∧ vrs l' = (collV (vrs l) nx keep).1 ∧ Rd w' w'.heap.size 1 A (collV (vrs l) nx keep).2.2.length c (ics (collV (vrs l) nx keep).2.2) ∧ NewA w.heap.size A ∧ TbAt w' l' S' c' ∧ NewT w.heap.size l l' S' ∧ Below w.heap.size w w') := by
 have hS := hT.rd
 have hall := hT.all
 have hm0 := Mem.nil w
 go_enter Tryz.func22, Tryz.ntmps22
 refine litStart 35 [(0, .agg (tbs (.slice S l.length cS) nx).toArray), (1, .int .i64 keep)] kr_ (fun X0 => ?_)
 refine wp_seq_k fun K1 hK1 => ?_
 refine plStart ?_
 refine plBox hm0 (cs := tbs (.slice S l.length cS) nx) (i := 0) rfl (wn rfl) rfl le_ ?_
 intro g2 w4 hm3
 clear hm0
 try simp only [lc1_, lc2_, lc3_, lc4_] at hm3
 refine qP rfl ?_
 refine plBox1 (v := .int .i64 keep) hm3 (i := 1) rfl (wn rfl) rfl le_ rfl ?_
 intro g5 w7 hm6
 clear hm3
 try simp only [lc1_, lc2_, lc3_, lc4_] at hm6
 refine qP rfl ?_
 refine plAlloc (z := [.slice none 0 0, .int .i64 0]) Ty.ag_voxel_api_Versions hm6 (i := 2) rfl (wn rfl) rfl ?_
 intro g8 w10 hm9
 clear hm6
 try simp only [lc1_, lc2_, lc3_, lc4_] at hm9
 refine qP rfl ?_
 refine lk_ (.slice none 0 0) ?_
 refine plD ?_
 refine tn_ hK1 ?_
 refine wp_seq_k fun K11 hK11 => ?_
 refine plStart ?_
 refine lk_ (.pointer (some ⟨g2, 0, none⟩)) ?_
 refine litVal (v := .slice S l.length cS) rfl (wn rfl) (gLoad (v := .slice S l.length cS) (k := 0) 0 hm9 rfl kr_ (.tmp 12) kr_ rfl le_) rfl (by decide) ?_
 refine lk_ (.func (.func 61) #[] #[.pointer (some ⟨g2, 0, none⟩), .pointer (some ⟨g5, 0, none⟩)]) ?_
 refine plCall (i := 3) 60 [.slice S l.length cS, .func (.func 61) #[] #[.pointer (some ⟨g2, 0, none⟩), .pointer (some ⟨g5, 0, none⟩)]] [] [] rfl kr_ (wn rfl) rfl le_ (litArgs kr_) (split_any l S cS nx keep hkeep g2 g5 _ ((Rd.below hS hm9.bel).more hm9.bel.size) hl (Rd.of_arr (n := 1) (size := 2) (hm9.arr 0 rfl) rfl (by decide)) (Rd.of_arr (n := 1) (size := 1) (hm9.arr 1 rfl) rfl (by decide))) ?_
 rintro e w12 ⟨ya, na, A1, c1, A2, c2, hy_, hn_, rfl, hr1_, hr2_, hw1_, hw2_, hbz⟩
 have hm13 := hm9.newRd2 hbz hr1_ hw1_ hr2_ hw2_
 replace hw1_ := hw1_.mono hm9.bel.size
 clear hbz hr1_ hr2_ hw2_ hm9
 try simp only [lc1_, lc2_, lc3_, lc4_] at hm13
 have hlen1_ := selG_len l.length keep true l
 rw [← hy_] at hlen1_
 have hlen2_ := selG_len l.length keep false l
 rw [← hn_] at hlen2_
 refine ⟨_, rfl, ?_⟩
 refine qP rfl ?_
 refine lk_ (.tuple #[.slice A1 ya.length c1, .slice A2 na.length c2]) ?_
 refine lk_ (.slice A1 ya.length c1) ?_
 refine lk_ (.slice A2 na.length c2) ?_
 refine lk_ (.slice A1 ya.length c1) ?_
 refine lk_ (.slice A2 na.length c2) ?_
 refine plD ?_
 refine tn_ hK11 ?_
 refine wp_seq_k fun K14 hK14 => ?_
 refine plStart ?_
 refine lk_ (.slice none 0 0) ?_
 refine plD ?_
 refine tn_ hK14 ?_
 refine wp_seq_k fun K15 hK15 => ?_
 refine wp_seq_k fun K16 hK16 => ?_
 refine plStart ?_
 refine lk_ (.slice A2 na.length c2) ?_
 refine litVal (v := .int .i64 (na.length : Int)) rfl (wn rfl) (lenSlRun (A := A2) (n := na.length) (c := c2) (.tmp 18) Ty.und_L_api_Version rfl le_) rfl (by decide) ?_
 refine lk_ (.int .i64 0) ?_
 refine plD ?_
 refine tn_ hK16 ?_
 refine wp_block ?_
 refine gwLoop (fun n_ a_ w_ => ∃ (k : Nat) (A3 : Option Addr) (c3 : Nat) (X3 : List Value), n_ = na.length - k ∧ (k ≤ na.length) ∧ (X3 = ics ((na.take k).map (·.num))) ∧ Fr a_ 35 [(2, .pointer (some ⟨g2, 0, none⟩)), (4, .pointer (some ⟨g8, 0, none⟩)), (5, .slice none 0 0), (6, .slice A1 ya.length c1), (8, .slice A3 k c3), (18, .slice A2 na.length c2), (19, .int .i64 (na.length : Int)), (20, .int .i64 (k : Int))] ∧ Mem w w_ [.arr g2 52 (tbs (.slice S l.length cS) nx), .arr g5 3 ([.int .i64 keep]), .arr g8 52 ([.slice none 0 0, .int .i64 0]), .rd A1 6 ya.length c1 (lvs ya), .rd A2 6 na.length c2 (lvs na), .row (.slice A3 k c3) 3 1 k X3]) (na.length - 0) ⟨0, none, 0, [], rfl, (Nat.zero_le _), rfl, ⟨litSize, rfl, ⟨lg_, ⟨lg_, ⟨lg_, ⟨lg_, ⟨lg_, ⟨lg_, ⟨lg_, ⟨lg_, trivial⟩⟩⟩⟩⟩⟩⟩⟩⟩, (hm13.nilRow 3 1)⟩ ?_
 clear hm13
 intro n_ a19 w17 hI_
 obtain ⟨k, A3, c3, X3, rfl, hk, hX3, hF_, hm18⟩ := hI_
 obtain ⟨X20, rfl⟩ := frLit hF_
 clear hF_
 refine wp_seq_k fun K21 hK21 => ?_
 refine plStart ?_
 by_cases h22 : (k : Int) < (na.length : Int)
 ·obtain ⟨v, hkv⟩ : ∃ v, na[k]? = some v := ⟨_, List.getElem?_eq_getElem (by omega)⟩
  obtain ⟨b2_, o2_, rfl, _, _⟩ := (hm18.rd 4 rfl).cells (by omega)
  refine litVal (v := .bool true) rfl (wn rfl) (boolTo (decide_eq_true h22) (lssRun (A := (k : Int)) (B := (na.length : Int)) (.tmp 20) (.tmp 19) rfl le_ le_)) rfl (by decide) ?_
  refine plD ?_
  refine tn_ hK21 ?_
  refine wp_seq_k fun K23 hK23 => ?_
  refine wp_cond_true le_ ?_
  refine wp_skip ?_
  refine tn_ hK23 ?_
  refine wp_seq_k fun K24 hK24 => ?_
  refine wp_block ?_
  refine wp_seq_k fun K25 hK25 => ?_
  refine plStart ?_
  refine litVal (v := .pointer (some ⟨b2_, o2_ + k * 6, none⟩)) rfl (wn rfl) (gIaSl (b := b2_) (off := o2_) (n := na.length) (c := c2) (kk := .i64) (K := (k : Int)) (.tmp 18) (.tmp 20) k Ty.sl_L_api_Version rfl le_ le_ (rfl) (by omega)) rfl (by decide) ?_
  refine litVal (v := .agg (lvc v).toArray) rfl (wn rfl) (gLoadAgRd (vs := lvc v) (m := k * 6) (hm18.rd 4 rfl) rfl (fun i_ u_ hu_ => lvs_get hkv i_ u_ hu_) kr_ (by omega) (.tmp 22) Ty.ag_voxel_api_Version rfl le_) rfl (by decide) ?_
  refine plAlloc (z := [.int .i64 0, .int .i64 0, .int .i64 0, .slice none 0 0, .int .i64 0, .slice none 0 0]) Ty.ag_voxel_api_Version hm18 (i := 2) rfl (wn rfl) rfl ?_
  intro g26 w28 hm27
  clear hm18
  try simp only [lc1_, lc2_, lc3_, lc4_] at hm27
  refine qP rfl ?_
  refine plStore 6 Ty.ag_voxel_api_Version hm27 rfl (i := 3) (cs := lvc v) rfl (wn rfl) rfl le_ le_ rfl rfl kr_ ?_
  intro w30 hm29
  clear hm27
  try simp only [lc1_, lc2_, lc3_, lc4_] at hm29
  refine qNone rfl ?_
  refine plD ?_
  refine tn_ hK25 ?_
  refine plStart ?_
  refine lk_ (.slice A3 k c3) ?_
  refine lk_ (.pointer (some ⟨g26, 0, none⟩)) ?_
  refine litVal (v := .int .i64 v.num) rfl (wn rfl) (gLoad (v := .int .i64 v.num) (k := 0) 6 hm29 rfl kr_ (.tmp 25) kr_ rfl le_) rfl (by decide) ?_
  refine plLit (cs := [.int .i64 v.num]) (n := 1) Ty.sl_L_int hm29 (i := 3) rfl (wn rfl) rfl (by decide) (by decide) (by rw [lit_eval]; kernel_rfl) ?_
  intro g31 w33 hm32
  clear hm29
  try simp only [lc1_, lc2_, lc3_, lc4_] at hm32
  refine qP rfl ?_
  refine plApp1 (v := .slice A3 k c3) (n := k) (xs := X3) (ys := [.int .i64 v.num]) 5 7 Ty.sl_L_int hm32 rfl rfl (i := 4) rfl (wn rfl) rfl le_ le_ kr_ kr_ (by omega) (by omega) ?_
  intro v38 w35 hm34
  clear hm32
  try simp only [lc1_, lc2_, lc3_, lc4_] at hm34
  obtain ⟨A36, c37, rfl⟩ := Mem.rowSl (v := v38) (e := 3) (size := 1) (n := k + 1) (xs := X3 ++ ([.int .i64 v.num])) 5 hm34 rfl
  refine qP rfl ?_
  refine lk_ (.slice A36 (k + 1) c37) ?_
  refine plD ?_
  refine inBlock_normal ?_
  refine tn_ hK24 ?_
  refine plStart ?_
  refine litVal (v := .int .i64 ((k : Int) + 1)) rfl (wn rfl) (addRun (A := (k : Int)) (B := 1) (C := (k : Int) + 1) (.tmp 20) (.const (.int .i64 1)) rfl le_ le_ rfl (by omega)) rfl (by decide) ?_
  refine lk_ (.int .i64 ((k : Int) + 1)) ?_
  refine plD ?_
  refine then_normal ?_
  exact ⟨_, by omega, (k + 1), A36, c37, _, rfl, (by omega), ((ics_push hX3 v.num).trans (congrArg ics (take_num hkv))), ⟨litSize, rfl, ⟨lg_, ⟨lg_, ⟨lg_, ⟨lg_, ⟨lg_, ⟨lg_, ⟨lg_, ⟨lg_, trivial⟩⟩⟩⟩⟩⟩⟩⟩⟩, (hm34.sub (.cons_cons _ (.cons_cons _ (.cons_cons _ (.cons_cons _ (.cons_cons _ (.cons_cons _ (.cons _ (.cons _ .slnil)))))))))⟩
 refine litVal (v := .bool false) rfl (wn rfl) (boolTo (decide_eq_false h22) (lssRun (A := (k : Int)) (B := (na.length : Int)) (.tmp 20) (.tmp 19) rfl le_ le_)) rfl (by decide) ?_
 refine plD ?_
 refine tn_ hK21 ?_
 refine wp_seq_k fun K39 hK39 => ?_
 refine wp_cond_false le_ ?_
 refine wp_exit ?_
 refine then_exit ?_
 refine then_exit ?_
 refine inBlock_exit ?_
 refine tn_ hK15 ?_
 refine wp_seq_k fun K40 hK40 => ?_
 refine plStart ?_
 refine lk_ (.slice A1 ya.length c1) ?_
 refine lk_ (.pointer (some ⟨g2, 1, none⟩)) ?_
 refine litVal (v := .int .i64 nx) rfl (wn rfl) (gLoad (v := .int .i64 nx) (k := 1) 0 hm18 rfl kr_ (.tmp 31) kr_ rfl le_) rfl (by decide) ?_
 refine lk_ (.agg ([.slice A1 ya.length c1, .int .i64 nx]).toArray) ?_
 refine lk_ (.slice A3 k c3) ?_
 refine plStore 2 Ty.ag_voxel_api_Versions hm18 rfl (i := 5) (cs := [.slice A1 ya.length c1, .int .i64 nx]) rfl (wn rfl) rfl le_ le_ rfl rfl kr_ ?_
 intro w42 hm41
 clear hm18
 try simp only [lc1_, lc2_, lc3_, lc4_] at hm41
 refine qNone rfl ?_
 refine lk_ (.slice A3 k c3) ?_
 refine plD ?_
 refine tn_ hK40 ?_
 refine wpPrune [(4, .pointer (some ⟨g8, 0, none⟩)), (5, .slice A3 k c3)] ⟨lg_, ⟨lg_, trivial⟩⟩ (fun X43 => ?_)
 refine wp_ret ?_
 refine bodyPost_ret (v := .tuple #[.agg ([.slice A1 ya.length c1, .int .i64 nx]).toArray, .slice A3 k c3]) (gRes2 rfl (gResAg (cs := [.slice A1 ya.length c1, .int .i64 nx]) 2 hm41 rfl Ty.ag_voxel_api_Versions rfl (lg_)) (gResTmp (t := 5) (v := .slice A3 k c3) (lg_))) rfl ?_
 obtain rfl : k = na.length := by omega
 rw [List.take_length] at hX3
 have hc1_ := coll_kept l nx keep
 rw [← hy_] at hc1_
 have hc2_ := coll_gone l nx keep
 rw [← hn_] at hc2_
 have hc3_ : na.length = (collV (vrs l) nx keep).2.2.length := by rw [← hc2_, List.length_map]
 refine ⟨ya, A1, c1, A3, c3, ?_, hc1_, ?_, own_new (hm41.row 5 rfl), ⟨hm41.rd 3 rfl, (hall.sub (hy_ ▸ selG_sub _ _ _ _ _)).below hm41.bel⟩, NewT.sub hw1_ (hy_ ▸ selG_sub _ _ _ _ _), hm41.bel⟩
 ·rw [← hc3_]; rfl
 ·rw [← hc3_, ← hc2_, ← hX3]; exact hm41.rdRow 5 rfl
section
variable {A B C : List Res} {a : Res}
theorem rf_ : A.Sublist A := List.Sublist.refl _
theorem lf_ : A.Sublist (A ++ B) := List.sublist_append_left _ _
theorem up_ (h : A.Sublist C) : A.Sublist (B ++ C) := h.trans (List.sublist_append_right _ _)
theorem ca_ (h : B.Sublist C) : (A ++ B).Sublist (A ++ C) := List.Sublist.append (List.Sublist.refl _) h
theorem sk_ (h : A.Sublist B) : A.Sublist (a :: B) := .cons _ h
theorem kp_ (h : A.Sublist B) : (a :: A).Sublist (a :: B) := .cons_cons _ h
end
def hdRes (v : Lv) : List Res := [.rd v.A 1 v.h.counts.length v.c (ics v.h.counts), .rd v.B 16 v.h.rn v.d (bcs v.h.D)]
def lvRes (l : List Lv) : List Res := l.flatMap hdRes
def tbRes (l : List Lv) (S : Option Addr) (c : Nat) : List Res := .rd S 6 l.length c (lvs l) :: lvRes l
theorem lvRes_mem {l : List Lv} {v : Lv} {r : Res} (hv : v ∈ l) (hr : r ∈ hdRes v) : r ∈ lvRes l := List.mem_flatMap.2 ⟨v, hv, hr⟩
theorem tbRes_mem {l : List Lv} {S : Option Addr} {c : Nat} {v : Lv} {r : Res} (hv : v ∈ l) (hr : r ∈ hdRes v) : r ∈ tbRes l S c := List.mem_cons_of_mem _ (lvRes_mem hv hr)
theorem hdRes_mut {v : Lv} {r : Res} (h : r ∈ hdRes v) : r.mut = false := by
 unfold hdRes at h
 simp at h
 rcases h with rfl | rfl <;> rfl
theorem lvRes_mut {l : List Lv} {r : Res} (h : r ∈ lvRes l) : r.mut = false := by
 obtain ⟨v, _, hr⟩ := List.mem_flatMap.1 h
 exact hdRes_mut hr
theorem tbRes_mut {l : List Lv} {S : Option Addr} {c : Nat} {r : Res} (h : r ∈ tbRes l S c) : r.mut = false := by
 rcases List.mem_cons.1 h with rfl | h
 ·rfl
 ·exact lvRes_mut h
section
variable {w0 w w' : World} {l l' lx : List Lv} {S S' : Option Addr} {c c' : Nat} {M X : List Res}
theorem lvRes_at (h : AllAt l w) {B : Nat} {r : Res} (hr : r ∈ lvRes l) : r.At B w := by
 obtain ⟨v, hv, hr⟩ := List.mem_flatMap.1 hr
 unfold hdRes at hr
 simp at hr
 rcases hr with rfl | rfl
 ·exact (h v hv).a
 ·exact (h v hv).b
theorem tbRes_at (h : TbAt w l S c) {B : Nat} {r : Res} (hr : r ∈ tbRes l S c) : r.At B w := by
 rcases List.mem_cons.1 hr with rfl | hr
 ·exact h.rd
 ·exact lvRes_at h.all hr
theorem Mem.lv (h : Mem w0 w (lvRes l)) : AllAt l w := fun v hv => ⟨h.each (.rd v.A 1 v.h.counts.length v.c (ics v.h.counts)) (lvRes_mem hv (by simp [hdRes])), h.each (.rd v.B 16 v.h.rn v.d (bcs v.h.D)) (lvRes_mem hv (by simp [hdRes]))⟩
theorem Mem.tb (h : Mem w0 w (tbRes l S c)) : TbAt w l S c := ⟨h.each _ List.mem_cons_self, Mem.lv (h.sub (List.sublist_cons_self _ _))⟩
theorem Mem.ofRds (hM : ∀ r ∈ M, r.mut = false) (h : ∀ r ∈ M, r.At w.heap.size w) : Mem w w M :=
 ⟨Below.refl _ _, h, List.Pairwise.imp_of_mem (R := fun _ _ => True) (fun ha hb _ => Or.inl ⟨hM _ ha, hM _ hb⟩) (List.pairwise_of_forall (fun _ _ => trivial))⟩
theorem Mem.ofLv (h : AllAt l w) : Mem w w (lvRes l) := Mem.ofRds (fun _ hr => lvRes_mut hr) (fun _ hr => lvRes_at h hr)
theorem blk_new {A : Option Addr} {size n c B : Nat} {xs : List Value} (h : NewA B A) {g : Nat} (hg : (Res.rd A size n c xs).blk = some g) : B ≤ g := by
 simp only [Res.blk] at hg
 split at hg
 ·cases hg
 ·cases A with
  | none => cases hg
  | some a =>
   simp only [Option.map_some, Option.some.injEq] at hg
   exact hg ▸ h a rfl
theorem Mem.newTb (X : List Res) (h : Mem w0 w (X ++ M)) (b : Below w.heap.size w w') (hT : TbAt w' l' S' c') (hN : NewT w.heap.size lx l' S') (hx : ∀ u ∈ lx, ∀ r ∈ hdRes u, r ∈ M) (hM : ∀ r ∈ M, r.mut = false) : Mem w0 w' (X ++ (tbRes l' S' c' ++ M)) := by
 have hb := h.below b
 have key : ∀ r ∈ tbRes l' S' c', ∀ s ∈ X, ResApart s r := by
  have new : ∀ r : Res, (∀ g, r.blk = some g → w.heap.size ≤ g) → ∀ s ∈ X, ResApart s r := fun r hr s hs => by
   cases hbk : r.blk with
   | none => exact ResApart.symm (Or.inr (Or.inl hbk))
   | some g =>
    refine Or.inr (Or.inr fun e => ?_)
    have h1 := (h.each s (List.mem_append_left _ hs)).lt (g := g) (e.trans hbk)
    have h2 := hr g hbk
    omega
  have old : ∀ r ∈ M, ∀ s ∈ X, ResApart s r := fun r hr s hs => (List.pairwise_append.1 h.apart).2.2 s hs r hr
  intro r hr
  rcases List.mem_cons.1 hr with rfl | hr
  ·exact new _ fun g hg => blk_new hN.s hg
  ·obtain ⟨v, hv, hr⟩ := List.mem_flatMap.1 hr
   rcases hN.each v hv with ⟨u, hu, e1, e2, e3⟩ | ⟨h1, h2⟩
   ·intro s hs
    unfold hdRes at hr
    simp at hr
    rcases hr with rfl | rfl
    ·have := old _ (hx u hu _ (by unfold hdRes; exact List.mem_cons_self)) s hs
     rcases this with h4 | h4 | h4
     ·exact Or.inl ⟨h4.1, rfl⟩
     ·exact Or.inr (Or.inl h4)
     ·refine Or.inr (Or.inr ?_)
      simpa only [Res.blk, e1, e3] using h4
    ·have := old _ (hx u hu (.rd u.B 16 u.h.rn u.d (bcs u.h.D)) (by unfold hdRes; simp)) s hs
     rcases this with h4 | h4 | h4
     ·exact Or.inl ⟨h4.1, rfl⟩
     ·exact Or.inr (Or.inl h4)
     ·refine Or.inr (Or.inr ?_)
      simpa only [Res.blk, e2, e3] using h4
   ·unfold hdRes at hr
    simp at hr
    rcases hr with rfl | rfl
    ·exact new _ fun g hg => blk_new h1 hg
    ·exact new _ fun g hg => blk_new h2 hg
 obtain ⟨hX, hMp, hXM⟩ := List.pairwise_append.1 hb.apart
 refine ⟨hb.bel, fun r hr => ?_, List.pairwise_append.2 ⟨hX, List.pairwise_append.2 ⟨?_, hMp, fun r hr s hs => Or.inl ⟨tbRes_mut hr, hM s hs⟩⟩, fun s hs r hr => ?_⟩⟩
 ·rcases List.mem_append.1 hr with hr | hr
  ·exact hb.each r (List.mem_append_left _ hr)
  ·rcases List.mem_append.1 hr with hr | hr
   ·exact tbRes_at hT hr
   ·exact hb.each r (List.mem_append_right _ hr)
 ·exact List.Pairwise.imp_of_mem (R := fun _ _ => True) (fun ha hb _ => Or.inl ⟨tbRes_mut ha, tbRes_mut hb⟩) (List.pairwise_of_forall (fun _ _ => trivial))
 ·rcases List.mem_append.1 hr with hr | hr
  ·exact key r hr s hs
  ·exact hXM s hs r hr
theorem Mem.newRdAt (X : List Res) {A : Option Addr} {size n c2 : Nat} {xs : List Value} (h : Mem w0 w (X ++ M)) (hr : Rd w w.heap.size size A n c2 xs) (hb : ∀ s ∈ X, ResApart s (.rd A size n c2 xs)) (hM : ∀ r ∈ M, r.mut = false) : Mem w0 w (X ++ (.rd A size n c2 xs :: M)) := by
 obtain ⟨hX, hMp, hXM⟩ := List.pairwise_append.1 h.apart
 refine ⟨h.bel, fun r hr2 => ?_, List.pairwise_append.2 ⟨hX, List.pairwise_cons.2 ⟨fun s hs => Or.inl ⟨rfl, hM s hs⟩, hMp⟩, fun s hs r hr2 => ?_⟩⟩
 ·rcases List.mem_append.1 hr2 with hr2 | hr2
  ·exact h.each r (List.mem_append_left _ hr2)
  ·rcases List.mem_cons.1 hr2 with rfl | hr2
   ·exact hr
   ·exact h.each r (List.mem_append_right _ hr2)
 ·rcases List.mem_cons.1 hr2 with rfl | hr2
  ·exact hb s hs
  ·exact hXM s hs r hr2
end
theorem Mem.tailN {w0 w : World} {L T : List Res} (n : Nat) (h : Mem w0 w L) (e : L.drop n = T) : Mem w0 w T := e ▸ h.sub (List.drop_sublist n L)
theorem mutApp {A B : List Res} (ha : ∀ r ∈ A, r.mut = false) (hb : ∀ r ∈ B, r.mut = false) : ∀ r ∈ A ++ B, r.mut = false := fun r hr => by
 rcases List.mem_append.1 hr with hr | hr
 ·exact ha r hr
 ·exact hb r hr
theorem mutCons {A : Option Addr} {size n c : Nat} {xs : List Value} {B : List Res} (hb : ∀ r ∈ B, r.mut = false) : ∀ r ∈ Res.rd A size n c xs :: B, r.mut = false := fun r hr => by
 rcases List.mem_cons.1 hr with rfl | hr
 ·rfl
 ·exact hb r hr
theorem Mem.newRdMid {w0 w w' : World} {M0 M : List Res} (X : List Res) {A : Option Addr} {size n c : Nat} {xs : List Value} (h0 : Mem w0 w (X ++ M0)) (h : Mem w0 w' (X ++ M)) (hr : Rd w' w'.heap.size size A n c xs) (hn : NewA w.heap.size A) (hM : ∀ r ∈ M, r.mut = false) : Mem w0 w' (X ++ (.rd A size n c xs :: M)) :=
 h.newRdAt X hr (fun s hs => by
  cases hbk : (Res.rd A size n c xs).blk with
  | none => exact ResApart.symm (Or.inr (Or.inl hbk))
  | some g =>
   refine Or.inr (Or.inr fun e => ?_)
   have h1 := (h0.each s (List.mem_append_left _ hs)).lt (g := g) (e.trans hbk)
   have h2 := blk_new hn hbk
   omega) hM
theorem good_small {l : List Lv} (h : ∀ v ∈ l, v.h.Good) : ∀ v ∈ l, v.h.counts.length ≤ 20 ∧ v.h.rn ≤ 20 := fun v hv => by
 have h1 := (h v hv).2.2
 omega
theorem Mem.newIm {w0 w w' : World} {M : List Res} (X N : List Res) (h : Mem w0 w (X ++ M)) (b : Below w.heap.size w w') (hat : ∀ r ∈ N, r.At w0.heap.size w') (hmut : ∀ r ∈ N, r.mut = false) (hblk : ∀ r ∈ N, (∀ g, r.blk = some g → w.heap.size ≤ g) ∨ ∃ s ∈ M, s.blk = r.blk) (hM : ∀ r ∈ M, r.mut = false) : Mem w0 w' (X ++ (N ++ M)) := by
 have hb := h.below b
 obtain ⟨hX, hMp, hXM⟩ := List.pairwise_append.1 hb.apart
 have key : ∀ r ∈ N, ∀ s ∈ X, ResApart s r := by
  intro r hr s hs
  rcases hblk r hr with h1 | ⟨t, ht, e⟩
  ·cases hbk : r.blk with
   | none => exact ResApart.symm (Or.inr (Or.inl hbk))
   | some g =>
    refine Or.inr (Or.inr fun e => ?_)
    have h2 := (h.each s (List.mem_append_left _ hs)).lt (g := g) (e.trans hbk)
    have h3 := h1 g hbk
    omega
  ·rcases hXM s hs t ht with h4 | h4 | h4
   ·exact Or.inl ⟨h4.1, hmut r hr⟩
   ·exact Or.inr (Or.inl h4)
   ·exact Or.inr (Or.inr (e ▸ h4))
 refine ⟨hb.bel, fun r hr => ?_, List.pairwise_append.2 ⟨hX, List.pairwise_append.2 ⟨?_, hMp, fun r hr s hs => Or.inl ⟨hmut r hr, hM s hs⟩⟩, fun s hs r hr => ?_⟩⟩
 ·rcases List.mem_append.1 hr with hr | hr
  ·exact hb.each r (List.mem_append_left _ hr)
  ·rcases List.mem_append.1 hr with hr | hr
   ·exact hat r hr
   ·exact hb.each r (List.mem_append_right _ hr)
 ·exact List.Pairwise.imp_of_mem (R := fun _ _ => True) (fun ha hb _ => Or.inl ⟨hmut _ ha, hmut _ hb⟩) (List.pairwise_of_forall (fun _ _ => trivial))
 ·rcases List.mem_append.1 hr with hr | hr
  ·exact key r hr s hs
  ·exact hXM s hs r hr
theorem Mem.newLv {w0 w w' : World} {M : List Res} (X : List Res) {lx : List Lv} {v : Lv} (h : Mem w0 w (X ++ M)) (b : Below w.heap.size w w') (hv : v.At w') (hN : NewV w.heap.size lx v) (hx : ∀ u ∈ lx, ∀ r ∈ hdRes u, r ∈ M) (hM : ∀ r ∈ M, r.mut = false) : Mem w0 w' (X ++ (lvRes [v] ++ M)) := by
 have hm : ∀ r ∈ lvRes [v], r ∈ hdRes v := fun r hr => by
  obtain ⟨u, hu, hr⟩ := List.mem_flatMap.1 hr
  rw [List.mem_singleton] at hu
  exact hu ▸ hr
 refine h.newIm X _ b (fun r hr => ?_) (fun r hr => lvRes_mut hr) (fun r hr => ?_) hM
 ·exact lvRes_at (l := [v]) (fun u hu => by rw [List.mem_singleton] at hu; exact hu ▸ hv) hr
 ·have hr2 := hm r hr
  unfold hdRes at hr2
  rcases hN with ⟨u, hu, e1, e2, e3⟩ | ⟨h1, h2⟩
  ·right
   simp at hr2
   rcases hr2 with rfl | rfl
   ·exact ⟨_, hx u hu (.rd u.A 1 u.h.counts.length u.c (ics u.h.counts)) (by unfold hdRes; simp), by simp only [Res.blk, e1, e3]⟩
   ·exact ⟨_, hx u hu (.rd u.B 16 u.h.rn u.d (bcs u.h.D)) (by unfold hdRes; simp), by simp only [Res.blk, e2, e3]⟩
  ·left
   simp at hr2
   rcases hr2 with rfl | rfl
   ·exact fun g hg => blk_new h1 hg
   ·exact fun g hg => blk_new h2 hg
theorem hdTb {l : List Lv} {S : Option Addr} {c : Nat} {M : List Res} (h2 : (tbRes l S c).Sublist M) : ∀ u ∈ l, ∀ r ∈ hdRes u, r ∈ M := fun u hu r hr => h2.subset (tbRes_mem hu hr)
theorem fit_of {h : Hd} (hs : h.counts.length ≤ 20 ∧ h.rn ≤ 20) (h1 : isI64 h.tick) (h2 : isI64 h.depth) (h3 : ∀ x ∈ h.counts, isI64 x) : h.Fit := ⟨hs.1, hs.2, h1, h2, h3⟩
def fewS (L : List Lv) : Prop := (∀ x ∈ L, x.h.counts.length ≤ 20 ∧ x.h.rn ≤ 20) ∧ L.length ≤ 250
instance (L : List Lv) : Decidable (fewS L) := by unfold fewS; infer_instance
theorem new_any (w : World) : Calls Tryz.prog 20 #[] w (RetV w (.agg (tbs (.slice none 0 0) 1).toArray)) := by
 have hm0 := Mem.nil w
 go_enter Tryz.func20, Tryz.ntmps20
 refine litStart 2 [] kr_ (fun X0 => ?_)
 refine wp_seq_k fun K1 hK1 => ?_
 refine plStart ?_
 refine plAlloc (z := [.slice none 0 0, .int .i64 0]) Ty.ag_voxel_api_Versions hm0 (i := 0) rfl (wn rfl) rfl ?_
 intro g2 w4 hm3
 clear hm0
 try simp only [lc1_, lc2_, lc3_, lc4_] at hm3
 refine qP rfl ?_
 refine plD ?_
 refine tn_ hK1 ?_
 refine wp_seq_k fun K5 hK5 => ?_
 refine plStart ?_
 refine lk_ (.agg ([.slice none 0 0, .int .i64 1]).toArray) ?_
 refine plStore 0 Ty.ag_voxel_api_Versions hm3 rfl (i := 1) (cs := [.slice none 0 0, .int .i64 1]) rfl (wn rfl) rfl le_ le_ rfl rfl kr_ ?_
 intro w7 hm6
 clear hm3
 try simp only [lc1_, lc2_, lc3_, lc4_] at hm6
 refine qNone rfl ?_
 refine plD ?_
 refine tn_ hK5 ?_
 refine wp_ret ?_
 refine bodyPost_ret (v := .agg ([.slice none 0 0, .int .i64 1]).toArray) (gRes1 rfl (gResAg (cs := [.slice none 0 0, .int .i64 1]) 0 hm6 rfl Ty.ag_voxel_api_Versions rfl (lg_))) rfl ?_
 exact ⟨rfl, hm6.bel⟩
theorem few1_any (h : Hd) (A : Option Addr) (c : Nat) (B : Option Addr) (d : Nat) (w : World) : Calls Tryz.prog 6 #[.agg (hcs h A c B d).toArray] w (RetV w (.bool (decide (h.counts.length ≤ 20 ∧ h.rn ≤ 20)))) := by
 have hm0 := Mem.nil w
 go_enter Tryz.func6, Tryz.ntmps6
 refine litStart 13 [(0, .agg (hcs h A c B d).toArray)] kr_ (fun X0 => ?_)
 refine wp_seq_k fun K1 hK1 => ?_
 refine plStart ?_
 refine plBox hm0 (cs := hcs h A c B d) (i := 0) rfl (wn rfl) rfl le_ ?_
 intro g2 w4 hm3
 clear hm0
 try simp only [lc1_, lc2_, lc3_, lc4_] at hm3
 refine qP rfl ?_
 refine lk_ (.bool false) ?_
 refine plD ?_
 refine tn_ hK1 ?_
 refine wp_seq_k fun K5 hK5 => ?_
 refine plStart ?_
 refine lk_ (.pointer (some ⟨g2, 1, none⟩)) ?_
 refine litVal (v := .slice A h.counts.length c) rfl (wn rfl) (gLoad (v := .slice A h.counts.length c) (k := 1) 0 hm3 rfl kr_ (.tmp 3) kr_ rfl le_) rfl (by decide) ?_
 refine litVal (v := .int .i64 (h.counts.length : Int)) rfl (wn rfl) (lenSlRun (A := A) (n := h.counts.length) (c := c) (.tmp 4) Ty.und_L_int rfl le_) rfl (by decide) ?_
 by_cases h6 : (h.counts.length : Int) ≤ 20
 ·refine litVal (v := .bool true) rfl (wn rfl) (boolTo (decide_eq_true h6) (leqRun (A := (h.counts.length : Int)) (B := 20) (.tmp 5) (.const (.int .i64 20)) rfl le_ le_)) rfl (by decide) ?_
  refine lk_ (.bool true) ?_
  refine litVal (v := .pointer (some ⟨g2, 3, none⟩)) rfl (wgY rfl rfl rfl (by decide) kr_) (litRun kr_) rfl (by decide) ?_
  refine litVal (v := .slice B h.rn d) rfl (wgY rfl rfl rfl (by decide) kr_) (gLoad (v := .slice B h.rn d) (k := 3) 0 hm3 rfl kr_ (.tmp 8) kr_ rfl le_) rfl (by decide) ?_
  refine litVal (v := .int .i64 (h.rn : Int)) rfl (wgY rfl rfl rfl (by decide) kr_) (lenSlRun (A := B) (n := h.rn) (c := d) (.tmp 9) Ty.und_L_api_Digest rfl le_) rfl (by decide) ?_
  by_cases h7 : (h.rn : Int) ≤ 20
  ·refine litVal (v := .bool true) rfl (wgY rfl rfl rfl (by decide) kr_) (boolTo (decide_eq_true h7) (leqRun (A := (h.rn : Int)) (B := 20) (.tmp 10) (.const (.int .i64 20)) rfl le_ le_)) rfl (by decide) ?_
   refine lk_ (.bool true) ?_
   refine lk_ (.bool true) ?_
   refine plD ?_
   refine tn_ hK5 ?_
   refine wpPrune [(2, .bool true)] ⟨lg_, trivial⟩ (fun X8 => ?_)
   refine wp_ret ?_
   refine bodyPost_ret (v := .bool true) (gRes1 rfl (gResTmp (t := 2) (v := .bool true) (lg_))) rfl ?_
   exact ⟨congrArg (fun b_ => Ending.returned (.bool b_)) (decide_eq_true (by omega)).symm, hm3.bel⟩
  refine litVal (v := .bool false) rfl (wgY rfl rfl rfl (by decide) kr_) (boolTo (decide_eq_false h7) (leqRun (A := (h.rn : Int)) (B := 20) (.tmp 10) (.const (.int .i64 20)) rfl le_ le_)) rfl (by decide) ?_
  refine lk_ (.bool false) ?_
  refine lk_ (.bool false) ?_
  refine plD ?_
  refine tn_ hK5 ?_
  refine wpPrune [(2, .bool false)] ⟨lg_, trivial⟩ (fun X9 => ?_)
  refine wp_ret ?_
  refine bodyPost_ret (v := .bool false) (gRes1 rfl (gResTmp (t := 2) (v := .bool false) (lg_))) rfl ?_
  exact ⟨congrArg (fun b_ => Ending.returned (.bool b_)) (decide_eq_false (by omega)).symm, hm3.bel⟩
 refine litVal (v := .bool false) rfl (wn rfl) (boolTo (decide_eq_false h6) (leqRun (A := (h.counts.length : Int)) (B := 20) (.tmp 5) (.const (.int .i64 20)) rfl le_ le_)) rfl (by decide) ?_
 refine lk_ (.bool false) ?_
 refine ps_ (i := 5) ?_
 refine ps_ (i := 6) ?_
 refine ps_ (i := 7) ?_
 refine ps_ (i := 8) ?_
 refine lk_ (.bool false) ?_
 refine lk_ (.bool false) ?_
 refine plD ?_
 refine tn_ hK5 ?_
 refine wpPrune [(2, .bool false)] ⟨lg_, trivial⟩ (fun X10 => ?_)
 refine wp_ret ?_
 refine bodyPost_ret (v := .bool false) (gRes1 rfl (gResTmp (t := 2) (v := .bool false) (lg_))) rfl ?_
 exact ⟨congrArg (fun b_ => Ending.returned (.bool b_)) (decide_eq_false (by omega)).symm, hm3.bel⟩
section
variable {P : Program} {ops : Array Oper} {Q : Exit → Act → World → Prop} {a : Act} {w w0 : World} {o : Oper} {L M : List Res} {i j c fuel : Nat} {listed : Array Bool}
structure MGI (P : Program) (ops : Array Oper) (Q : Exit → Act → World → Prop) (w0 : World) (M : List Res) (fuel : Nat) (listed : Array Bool) (i : Nat) (a : Act) (w : World) : Prop where
 out : ∀ o, ops.toList[i]? = some o → wpList P ops (Exit.then (fun a' w' => Mem w0 w' M ∧ wpAnyH P .any ops Q (fun w' => Mem w0 w' M) fuel (listed.setIfInBounds i true) a' w') Q) [o] a w
theorem mgFork (hr : Region.ready .any ops listed = [i, j]) (hi : (ops.toList[i]?).isSome = true) (hj : (ops.toList[j]?).isSome = true) (h1 : MGI P ops Q w0 M fuel listed i a w) (h2 : MGI P ops Q w0 M fuel listed j a w) : MG P ops Q w0 M (fuel + 1) listed a w := by
 refine ⟨wpAnyH_all hr (by simp) fun k hk => ?_⟩
 have hk2 : k = i ∨ k = j := by simpa using hk
 have go : ∀ k, (ops.toList[k]?).isSome = true → MGI P ops Q w0 M fuel listed k a w → wpOp P ops Q k (fun a' w' => Mem w0 w' M ∧ wpAnyH P .any ops Q (fun w' => Mem w0 w' M) fuel (listed.setIfInBounds k true) a' w') a w := by
  intro k hs h
  obtain ⟨o, ho⟩ := Option.isSome_iff_exists.1 hs
  have hi : ops[k]? = some o := by rw [← ho]; simp
  exact wpOp_of_list hi (h.out o ho)
 rcases hk2 with rfl | rfl
 ·exact go _ hi h1
 ·exact go _ hj h2
theorem mgiCall {x : Operand} {args : Array Operand} {argTypes : Array TypeId} {R : Ending → World → Prop} (f : FuncId) (vals first caps : List Value)
 (hi : ops.toList[i]? = some o) (hf : callable P f = true) (hw : Region.wanted o (yielded ops a.tmps) = true) (ho : o.op = .call { callee := .value x, args, argTypes }) (hc : a.eval x = .func (.func f) first.toArray caps.toArray) (hargs : args.toList.map a.eval = vals)
 (hC : Calls P f (first ++ vals ++ caps).toArray w R) (h : ∀ e w', R e w' → ∃ v, e = .returned v ∧ Mem w0 w' M ∧ MG P ops Q w0 M fuel (listed.setIfInBounds i true) (a.put o.dst v) w') : MGI P ops Q w0 M fuel listed i a w := by
 refine ⟨fun o' ho' => ?_⟩
 obtain rfl : o = o' := Option.some.inj (hi.symm.trans ho')
 exact callOp f vals first caps hf hw ho hc hargs (hC.mono fun e w' he => by
  obtain ⟨v, h1, h2, h3⟩ := h e w' he
  exact ⟨v, h1, h2, h3.out⟩)
theorem mgiAlloc {z : List Value} {ty : TypeId} {n : Nat} (T : AgTy P ty z.toArray n) (hm : Mem w0 w L) (hM : ∀ w', Mem w0 w' L → Mem w0 w' M) (hi : ops.toList[i]? = some o) (hw : Region.wanted o (yielded ops a.tmps) = true) (ho : o.op = .alloc ty)
 (h : ∀ g w', Mem w0 w' (L ++ [.arr g ty z]) → MG P ops Q w0 M fuel (listed.setIfInBounds i true) (a.put o.dst (.pointer (some ⟨g, 0, none⟩))) w') : MGI P ops Q w0 M fuel listed i a w := by
 refine ⟨fun o' ho' => ?_⟩
 obtain rfl : o = o' := Option.some.inj (hi.symm.trans ho')
 exact alArr T hw ho fun w' hA hb => ⟨hM _ (hm.below hb), (h _ w' (hm.new hb hA)).out⟩
theorem mgAlloc {z : List Value} {ty : TypeId} {n : Nat} (T : AgTy P ty z.toArray n) (hm : Mem w0 w L) (hM : ∀ w', Mem w0 w' L → Mem w0 w' M) (hr : Region.ready .any ops listed = [i]) (hi : ops.toList[i]? = some o) (hw : Region.wanted o (yielded ops a.tmps) = true) (ho : o.op = .alloc ty)
 (h : ∀ g w', Mem w0 w' (L ++ [.arr g ty z]) → MG P ops Q w0 M fuel (listed.setIfInBounds i true) (a.put o.dst (.pointer (some ⟨g, 0, none⟩))) w') : MG P ops Q w0 M (fuel + 1) listed a w :=
 ⟨rgNext hr hi (alArr T hw ho fun w' hA hb => ⟨hM _ (hm.below hb), (h _ w' (hm.new hb hA)).out⟩)⟩
theorem mgStore {x y : Operand} {ty : TypeId} {n g : Nat} {z : Array Value} {cur cs : List Value} {t : TypeId} (j : Nat) (T : AgTy P ty z n) (hm : Mem w0 w L) (hj : L[j]? = some (.arr g t cur)) (hr : Region.ready .any ops listed = [i]) (hi : ops.toList[i]? = some o) (hw : Region.wanted o (yielded ops a.tmps) = true) (ho : o.op = .store ty x y)
 (hx : a.eval x = .pointer (some ⟨g, 0, none⟩)) (hy : a.eval y = .agg cs.toArray) (hs : cur.length = n) (hl : cs.length = n) (h1 : (cs.all fun u => u.oneCell') = true) (hM : ∀ w', Mem w0 w' (L.set j (.arr g t cs)) → Mem w0 w' M)
 (h : ∀ w', Mem w0 w' (L.set j (.arr g t cs)) → MG P ops Q w0 M fuel (listed.setIfInBounds i true) (a.put o.dst undef) w') : MG P ops Q w0 M (fuel + 1) listed a w :=
 ⟨rgNext hr hi (stArrG x y T hw ho hx hy (hm.arr j hj) hs hl (fun u hu => List.all_eq_true.1 h1 u hu) fun w' hA hk => ⟨hM _ (hm.set j hj hA hk), (h w' (hm.set j hj hA hk)).out⟩)⟩
theorem glTurn_ {S S' : World → Prop} : ∀ (fuel : Nat) (listed : Array Bool) (a : Act) (w : World), listed.getD c true = true → wpAnyH P .any ops Q S' fuel listed a w → wpAnyL P ops Q S c fuel listed a w
 | 0, _, _, _, _, h => h
 | fuel + 1, listed, a, w, hc, h => by
  refine ⟨h.1, fun i hi => ?_⟩
  have h2 : (listed.setIfInBounds i true).getD c true = true := by
   by_cases hk : c = i
   ·subst hk
    by_cases hlt : c < listed.size
    ·simp [hlt]
    ·simp [hlt]
   ·rw [getD_set_ne true (Ne.symm hk)]; exact hc
  exact wpOp_mono (fun a' w' h' => ⟨fun h0 => (by rw [h2] at h0; cases h0), glTurn_ fuel _ a' w' h2 h'.2⟩) (h.2 i hi)
theorem glTurn (M' : List Res) (hc : listed.getD c true = true) (h : MG P ops Q w0 M' fuel listed a w) : MGL P ops Q w0 M c fuel listed a w := ⟨glTurn_ _ _ _ _ hc h.out⟩
end
end Go.Proofs.YtgjgjimgomhbmaaGreatDoor
