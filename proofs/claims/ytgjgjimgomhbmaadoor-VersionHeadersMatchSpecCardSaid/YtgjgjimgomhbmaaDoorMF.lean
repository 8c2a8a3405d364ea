/-
  MF: several texts in one. No statement is proved here.
-/
import Derived.Test.YtgjgjimgomhbmaaDoorME
import Derived.Test.YtgjgjimgomhbmaaDoorMC
set_option linter.unusedVariables false
set_option linter.unusedSimpArgs false
namespace Go.Proofs.YtgjgjimgomhbmaaDoor
/-- A version. -/
structure Vr where
  num : Int
  pins : Int
  h : Hd
deriving DecidableEq
def Lv.vr (v : Lv) : Vr := ⟨v.num, v.pins, v.h⟩
def vrs (l : List Lv) : List Vr := l.map Lv.vr
def placeVG (num : Int) : Nat → List Vr → Int
  | _, [] => -1
  | k, v :: l => if v.num = num then k else placeVG num (k + 1) l
def placeV (l : List Vr) (num : Int) : Int := placeVG num 0 l
theorem placeG_vrs (num : Int) : ∀ (l : List Lv) (k : Nat), placeG num k l = placeVG num k (vrs l)
  | [], _ => rfl
  | v :: l, k => by
    show (if v.num = num then (k : Int) else placeG num (k + 1) l) = if v.num = num then (k : Int) else placeVG num (k + 1) (vrs l)
    rw [placeG_vrs num l (k + 1)]
theorem placeP_vrs (l : List Lv) (num : Int) : placeP l num = placeV (vrs l) num := placeG_vrs num l 0
theorem vrs_len (l : List Lv) : (vrs l).length = l.length := by unfold vrs; rw [List.length_map]
theorem vrs_get {l : List Lv} {k : Nat} {v : Lv} (h : l[k]? = some v) : (vrs l)[k]? = some v.vr := by unfold vrs; rw [List.getElem?_map, h]; rfl
theorem vrs_app (l m : List Lv) : vrs (l ++ m) = vrs l ++ vrs m := List.map_append
theorem vrs_set (l : List Lv) (k : Nat) (v : Lv) : vrs (l.set k v) = (vrs l).set k v.vr := by unfold vrs; rw [List.map_set]
def sumV (l : List Vr) : Int := (l.map (·.pins)).sum
theorem pinsP_vrs (l : List Lv) : pinsP l = sumV (vrs l) := by unfold pinsP sumV vrs; rw [List.map_map]; rfl
def vr0 : Vr := ⟨0, 0, hd0⟩
/-- A version gets some pins more. -/
def setPins (l : List Vr) (k : Nat) (d : Int) : List Vr := l.set k ⟨(l.getD k vr0).num, (l.getD k vr0).pins + d, (l.getD k vr0).h⟩
theorem setPins_vrs {l : List Lv} {k : Nat} {v : Lv} (h : l[k]? = some v) (d : Int) : vrs (l.set k { v with pins := v.pins + d }) = setPins (vrs l) k d := by
  rw [vrs_set]
  unfold setPins
  rw [List.getD_eq_getElem?_getD, vrs_get h]
  rfl
def pinV (l : List Vr) (nx num : Int) : List Vr × Int × Int :=
  if placeV l num < 0 then ([], 0, 9) else if 64 ≤ sumV l then ([], 0, 18) else (setPins l (placeV l num).toNat 1, nx, 0)
def unpinV (l : List Vr) (nx num : Int) : List Vr × Int × Int :=
  if placeV l num < 0 ∨ (l.getD (placeV l num).toNat vr0).pins = 0 then ([], 0, 9) else (setPins l (placeV l num).toNat (-1), nx, 0)
def addV (l : List Vr) (nx : Int) (h : Hd) : List Vr × Int × Int × Int :=
  if ckH h ≠ 0 then ([], 0, 0, 1) else
  if 0 < l.length ∧ ¬ covers h (l.getD (l.length - 1) vr0).h then ([], 0, 0, 22) else
  if 100 ≤ l.length then ([], 0, 0, 21) else (l ++ [⟨nx, 0, h⟩], nx + 1, nx, 0)
/-- A version is kept. -/
def kpV (n : Nat) (keep : Int) (i : Nat) (pins : Int) : Bool := decide (0 < pins ∨ (n : Int) - i ≤ keep)
def selG (n : Nat) (keep : Int) (b : Bool) : Nat → List Lv → List Lv
  | _, [] => []
  | i, v :: l => if kpV n keep i v.pins = b then v :: selG n keep b (i + 1) l else selG n keep b (i + 1) l
def selV (n : Nat) (keep : Int) (b : Bool) : Nat → List Vr → List Vr
  | _, [] => []
  | i, v :: l => if kpV n keep i v.pins = b then v :: selV n keep b (i + 1) l else selV n keep b (i + 1) l
theorem selG_vrs (n : Nat) (keep : Int) (b : Bool) : ∀ (i : Nat) (l : List Lv), vrs (selG n keep b i l) = selV n keep b i (vrs l)
  | _, [] => rfl
  | i, v :: l => by
    show vrs (if _ then _ else _) = if kpV n keep i v.pins = b then v.vr :: selV n keep b (i + 1) (vrs l) else selV n keep b (i + 1) (vrs l)
    rw [← selG_vrs n keep b (i + 1) l]
    split <;> rfl
theorem selG_sub (n : Nat) (keep : Int) (b : Bool) : ∀ (i : Nat) (l : List Lv), (selG n keep b i l).Sublist l
  | _, [] => .slnil
  | i, v :: l => by
    unfold selG
    split
    · exact (selG_sub n keep b (i + 1) l).cons_cons v
    · exact (selG_sub n keep b (i + 1) l).cons v
theorem sel_yes {n : Nat} {keep : Int} {b : Bool} {l ya r : List Lv} {k : Nat} {t : Lv} (ht : l[k]? = some t) (hr : ya ++ selG n keep b k (l.drop k) = r) (h : kpV n keep k t.pins = b) : (ya ++ [t]) ++ selG n keep b (k + 1) (l.drop (k + 1)) = r := by
  obtain ⟨hl, he⟩ := List.getElem?_eq_some_iff.1 ht
  rw [List.drop_eq_getElem_cons hl, he, selG, if_pos h] at hr
  rw [List.append_assoc]; exact hr
theorem sel_no {n : Nat} {keep : Int} {b : Bool} {l ya r : List Lv} {k : Nat} {t : Lv} (ht : l[k]? = some t) (hr : ya ++ selG n keep b k (l.drop k) = r) (h : ¬ kpV n keep k t.pins = b) : ya ++ selG n keep b (k + 1) (l.drop (k + 1)) = r := by
  obtain ⟨hl, he⟩ := List.getElem?_eq_some_iff.1 ht
  rw [List.drop_eq_getElem_cons hl, he, selG, if_neg h] at hr
  exact hr
theorem sel_end {n : Nat} {keep : Int} {b : Bool} {l ya r : List Lv} {k : Nat} (hk : l.length ≤ k) (hr : ya ++ selG n keep b k (l.drop k) = r) : ya = r := by
  rw [List.drop_of_length_le hk, selG, List.append_nil] at hr; exact hr
def collV (l : List Vr) (nx keep : Int) : List Vr × Int × List Int := (selV l.length keep true 0 l, nx, (selV l.length keep false 0 l).map (·.num))
theorem getD_some {l : List Vr} {i : Nat} {v d : Vr} (h : l[i]? = some v) : l.getD i d = v := by rw [List.getD_eq_getElem?_getD, h]; rfl
theorem mem_set_or {α : Type} {l : List α} {k : Nat} {u v : α} (h : v ∈ l.set k u) : v = u ∨ v ∈ l := by
  rcases List.mem_or_eq_of_mem_set h with h | h
  · exact Or.inr h
  · exact Or.inl h
end Go.Proofs.YtgjgjimgomhbmaaDoor
namespace Go.Proofs.YtgjgjimgomhbmaaDoor
open Go.RowKit
set_option linter.unusedVariables false
set_option linter.unusedSimpArgs false
theorem own_upd {w : World} {base size n g : Nat} {e : TypeId} {off c : Nat} {xs : List Value} (h : w.ownsRow base e size (.slice (some ⟨g, off, none⟩) n c) n xs) {j : Nat} (hj : j < n * size) (u : Value) :
    off = 0 ∧ ∃ cur, Arr w g e cur ∧ cur[j]? = xs[j]? ∧ ∀ w', Arr w' g e (cur.set j u) → w'.ownsRow base e size (.slice (some ⟨g, off, none⟩) n c) n (xs.set j u) := by
  obtain ⟨hl, h2⟩ := h
  rcases h2 with ⟨h3, _⟩ | ⟨g', cap, cur, hv, hb, hg, hnc, hcm, hcs, htake⟩
  · cases h3
  · injection hv with e1 e2 e3
    injection e1 with e1
    injection e1 with e1 e4 _
    subst e1
    subst e4
    subst e3
    refine ⟨rfl, cur.toList, hg, ?_, fun w' hA => ?_⟩
    · rw [← htake, List.getElem?_take, if_pos hj]
    · refine ⟨by rw [List.length_set]; exact hl, Or.inr ⟨g, c, (cur.toList.set j u).toArray, rfl, hb, hA, hnc, hcm, by simp [hcs], ?_⟩⟩
      rw [← htake, List.take_set]
theorem Mem.setRowAt {w0 w w' : World} {L : List Res} {e : TypeId} (h : Mem w0 w L) (i : Nat) {v : Value} {size n g : Nat} {xs xs' : List Value} (hi : L[i]? = some (.row v e size n xs)) (hg : v.ownBlock = some g) (hA : w'.ownsRow w0.heap.size e size v n xs') (k : w.grownBy w' (some g)) : Mem w0 w' (L.set i (.row v e size n xs')) := by
  have hrow := h.row i hi
  refine ⟨h.bel.grown k h.bel.size (fun k' hk' => by cases hk'; exact (World.ownsRow.lt hrow g hg).1), fun s hs => ?_, resApart_set h.apart fun j s hji hj => ?_⟩
  · rcases resMem_set_ne hs with rfl | ⟨j, hji, hj⟩
    · exact hA
    · refine (h.each s (List.mem_of_getElem? hj)).grown k ?_
      rcases resApart_at h.apart hji hj hi with ⟨_, h2⟩ | h2 | h2
      · cases h2
      · exact Or.inl h2
      · refine Or.inr fun e => h2 (e.trans hg.symm)
  · have h1 := resApart_at h.apart (Ne.symm hji) hi hj
    exact h1
/-- A cell of an own row is set. -/
theorem plStoreRow {P : Program} {ops : Array Oper} {Q : Exit → Act → World → Prop} {a : Act} {w w0 : World} {o : Oper} {L : List Res} {i : Nat} {x y : Operand} {ty e : TypeId} {g k n c size : Nat} {xs : List Value} {v v0 : Value} (j : Nat) (hsz : (P.info? ty).map (·.size) = some 1) (hm : Mem w0 w L) (hj : L[j]? = some (.row (.slice (some ⟨g, 0, none⟩) n c) e size n xs)) (hi : ops.toList[i]? = some o) (hw : Region.wanted o (yielded ops a.tmps) = true) (ho : o.op = .store ty x y)
    (hx : a.eval x = .pointer (some ⟨g, k, none⟩)) (hy : a.eval y = v) (hk : xs[k]? = some v0) (hn : k < n * size) (hv : v.cells = #[v]) (h1 : v.oneCell' = true)
    (h : ∀ w', Mem w0 w' (L.set j (.row (.slice (some ⟨g, 0, none⟩) n c) e size n (xs.set k v))) → PL P ops Q (i + 1) (a.put o.dst undef) w') : PL P ops Q i a w := by
  obtain ⟨_, cur, hA, hci, hset⟩ := own_upd (hm.row j hj) hn v
  refine plOf hi (stCellG x y hsz hw ho hx hy hA (hci.trans hk) hv h1 fun w' hA' hg => (h w' ?_).out)
  exact hm.setRowAt j hj rfl (hset w' hA') hg
/-- The rows of a table are new, or those of the table before. -/
structure NewT (B : Nat) (l l' : List Lv) (S' : Option Addr) : Prop where
  s : NewA B S'
  each : ∀ v ∈ l', (∃ u ∈ l, v.A = u.A ∧ v.B = u.B ∧ v.h = u.h) ∨ (NewA B v.A ∧ NewA B v.B)
theorem NewT.mono {B B' : Nat} {l l' : List Lv} {S' : Option Addr} (h : NewT B l l' S') (hb : B' ≤ B) : NewT B' l l' S' :=
  ⟨h.s.mono hb, fun v hv => (h.each v hv).imp id fun h2 => ⟨h2.1.mono hb, h2.2.mono hb⟩⟩
theorem NewT.nil (B : Nat) (l : List Lv) : NewT B l [] none := ⟨NewA.none B, fun _ h => by cases h⟩
theorem NewT.set {B k : Nat} {l : List Lv} {v : Lv} {S' : Option Addr} (h : NewA B S') (hv : l[k]? = some v) (x : Int) : NewT B l (l.set k { v with pins := x }) S' := by
  refine ⟨h, fun u hu => Or.inl ?_⟩
  rcases mem_set_or hu with rfl | hu
  · exact ⟨v, List.mem_of_getElem? hv, rfl, rfl, rfl⟩
  · exact ⟨u, hu, rfl, rfl, rfl⟩
/-- A slice in new blocks is read. -/
theorem Mem.newRd {w0 w w' : World} {L : List Res} {A : Option Addr} {size n c : Nat} {xs : List Value} (h : Mem w0 w L) (b : Below w.heap.size w w') (hr : Rd w' w'.heap.size size A n c xs) (hn : NewA w.heap.size A) : Mem w0 w' (L ++ [.rd A size n c xs]) := by
  refine h.push b hr fun g hg => ?_
  simp only [Res.blk] at hg
  split at hg
  · cases hg
  · cases A with
    | none => cases hg
    | some a =>
      simp only [Option.map_some, Option.some.injEq] at hg
      exact hg ▸ hn a rfl
/-- A table in memory, to be read. -/
structure TbAt (w : World) (l : List Lv) (S : Option Addr) (c : Nat) : Prop where
  rd : Rd w w.heap.size 6 S l.length c (lvs l)
  all : AllAt l w
theorem TbAt.below {w w' : World} {l : List Lv} {S : Option Addr} {c : Nat} (h : TbAt w l S c) (b : Below w.heap.size w w') : TbAt w' l S c := ⟨(Rd.below h.rd b).more b.size, h.all.below b⟩
theorem TbAt.nil (w : World) : TbAt w [] none 0 := ⟨Rd.nil _ _ 6, fun _ h => by cases h⟩
theorem lvs_set {v : Lv} : ∀ {l : List Lv} {k : Nat} (x : Int), l[k]? = some v → (lvs l).set (k * 6 + 1) (.int .i64 x) = lvs (l.set k { v with pins := x })
  | [], _, _, h => by simp at h
  | q :: l, 0, x, h => by
    simp at h; subst h
    rfl
  | q :: l, k + 1, x, h => by
    have ih := lvs_set (l := l) (k := k) x (by simpa using h)
    have h6 : (lvc q).length = 6 := rfl
    show (lvc q ++ lvs l).set _ _ = lvc q ++ lvs (l.set k { v with pins := x })
    rw [List.set_append_right _ _ (by omega), ← ih]
    congr 2
    omega
theorem AllAt.set {l : List Lv} {w : World} {k : Nat} {v : Lv} (h : AllAt l w) (hv : l[k]? = some v) (x : Int) : AllAt (l.set k { v with pins := x }) w := by
  intro u hu
  rcases mem_set_or hu with rfl | hu
  · have h1 := h v (List.mem_of_getElem? hv)
    exact ⟨h1.a, h1.b⟩
  · exact h u hu
set_option maxRecDepth 100000 in
set_option maxHeartbeats 4000000 in
theorem move_any (l : List Lv) (S : Option Addr) (cS : Nat) (nx : Int) (k : Nat) (v : Lv) (by_ : Int) (w : World) (hT : TbAt w l S cS) (hl : l.length ≤ 1000) (hkv : l[k]? = some v) (hp : 0 ≤ v.pins ∧ v.pins ≤ 1000) (hby : -1 ≤ by_ ∧ by_ ≤ 1) : Calls Tryd.prog 63 #[.agg (tbs (.slice S l.length cS) nx).toArray, .int .i64 (k : Int), .int .i64 by_] w (fun e w' => ∃ S' c', e = .returned (.agg (tbs (.slice S' (l.set k { v with pins := v.pins + by_ }).length c') nx).toArray) ∧ TbAt w' (l.set k { v with pins := v.pins + by_ }) S' c' ∧ NewT w.heap.size l (l.set k { v with pins := v.pins + by_ }) S' ∧ Below w.heap.size w w') := by
 have hS := hT.rd
 have hall := hT.all
 have hkl_ := (List.getElem?_eq_some_iff.1 hkv).1
 have hv_ := hall v (List.mem_of_getElem? hkv)
 have hm0 := Mem.nil w
 go_enter Tryd.func63, Tryd.ntmps63
 refine litStart 22 [(0, .agg (tbs (.slice S l.length cS) nx).toArray), (1, .int .i64 (k : Int)), (2, .int .i64 by_)] (by kernel_rfl) (fun X0 => ?_)
 refine wp_seq_k fun K1 hK1 => ?_
 refine plStart ?_
 refine plBox hm0 (cs := tbs (.slice S l.length cS) nx) (i := 0) rfl (wn rfl) rfl (litEv (by kernel_rfl)) ?_
 intro g2 w4 hm3
 clear hm0
 try simp only [List.cons_append, List.nil_append, List.set_cons_succ, List.set_cons_zero] at hm3
 refine qP rfl ?_
 refine plAlloc (z := [.slice none 0 0, .int .i64 0]) Ty.ag_voxel_api_Versions hm3 (i := 1) rfl (wn rfl) rfl ?_
 intro g5 w7 hm6
 clear hm3
 try simp only [List.cons_append, List.nil_append, List.set_cons_succ, List.set_cons_zero] at hm6
 refine qP rfl ?_
 refine plD ?_
 refine then_normal (hK1 _ _ ?_)
 refine wp_seq_k fun K8 hK8 => ?_
 refine plStart ?_
 refine lk (v := .pointer (some ⟨g2, 0, none⟩)) rfl rfl rfl ?_
 refine litVal (v := .slice S l.length cS) rfl (wn rfl) (gLoad (v := .slice S l.length cS) (k := 0) 0 hm6 rfl (by kernel_rfl) (.tmp 7) (by kernel_rfl) rfl (litEv (by kernel_rfl))) rfl (by decide) ?_
 refine plCall (i := 2) 62 [.slice S l.length cS] [] [] rfl (by kernel_rfl) (wn rfl) rfl (litEv (by kernel_rfl)) (litArgs (by kernel_rfl)) (cloneV_any l l.length S cS _ ((Rd.below hS hm6.bel).more hm6.bel.size) (by omega)) ?_
 rintro e w9 ⟨v11, rfl, hown_, hbz⟩
 obtain ⟨A12, c13, rfl, hrd_⟩ := Rd.of_own hown_
 clear hrd_
 have hm10 := hm6.newRow hbz hown_
 clear hown_ hbz
 clear hm6
 try simp only [List.cons_append, List.nil_append, List.set_cons_succ, List.set_cons_zero] at hm10
 refine ⟨_, rfl, ?_⟩
 refine qP rfl ?_
 refine lk (v := .pointer (some ⟨g2, 0, none⟩)) rfl rfl rfl ?_
 refine plStore1 (v := .slice A12 l.length c13) (k := 0) 0 (by kernel_rfl) hm10 rfl (i := 4) rfl (wn rfl) rfl (litEv (by kernel_rfl)) (litEv (by kernel_rfl)) rfl rfl rfl ?_
 intro w15 hm14
 clear hm10
 try simp only [List.cons_append, List.nil_append, List.set_cons_succ, List.set_cons_zero] at hm14
 refine qNone rfl ?_
 refine plD ?_
 refine then_normal (hK8 _ _ ?_)
 refine wp_seq_k fun K16 hK16 => ?_
 refine plStart ?_
 obtain ⟨b17, rfl⟩ := hm14.rowBlk (A := A12) (n := l.length) (c := c13) 2 rfl (by omega)
 refine lk (v := .pointer (some ⟨g2, 0, none⟩)) rfl rfl rfl ?_
 refine litVal (v := .slice (some ⟨b17, 0, none⟩) l.length c13) rfl (wn rfl) (gLoad (v := .slice (some ⟨b17, 0, none⟩) l.length c13) (k := 0) 0 hm14 rfl (by kernel_rfl) (.tmp 11) (by kernel_rfl) rfl (litEv (by kernel_rfl))) rfl (by decide) ?_
 refine lk (v := .int .i64 (k : Int)) rfl rfl rfl ?_
 refine litVal (v := .pointer (some ⟨b17, 0 + k * 6, none⟩)) rfl (wn rfl) (gIaSl (b := b17) (off := 0) (n := l.length) (c := c13) (kk := .i64) (K := (k : Int)) (.tmp 12) (.tmp 13) k Ty.sl_L_api_Version rfl (litEv (by kernel_rfl)) (litEv (by kernel_rfl)) (rfl) (by omega)) rfl (by decide) ?_
 refine lk (v := .pointer (some ⟨b17, 0 + k * 6 + 1, none⟩)) rfl rfl rfl ?_
 refine litVal (v := .int .i64 v.pins) rfl (wn rfl) (gLoadRd (v := .int .i64 v.pins) (m := k * 6 + 1) (hm14.rdRow 2 rfl) rfl (lvs_get hkv 1 _ rfl) (by omega) (.tmp 15) (by kernel_rfl) rfl (litEv (by kernel_rfl))) rfl (by decide) ?_
 refine lk (v := .int .i64 by_) rfl rfl rfl ?_
 refine litVal (v := .int .i64 (v.pins + by_)) rfl (wn rfl) (addRun (A := v.pins) (B := by_) (C := v.pins + by_) (.tmp 16) (.tmp 17) rfl (litEv (by kernel_rfl)) (litEv (by kernel_rfl)) rfl (by omega)) rfl (by decide) ?_
 refine litVal (v := .pointer (some ⟨b17, 0 + k * 6, none⟩)) rfl (wn rfl) (gIaSl (b := b17) (off := 0) (n := l.length) (c := c13) (kk := .i64) (K := (k : Int)) (.tmp 12) (.tmp 13) k Ty.sl_L_api_Version rfl (litEv (by kernel_rfl)) (litEv (by kernel_rfl)) (rfl) (by omega)) rfl (by decide) ?_
 refine lk (v := .pointer (some ⟨b17, 0 + k * 6 + 1, none⟩)) rfl rfl rfl ?_
 refine plStoreRow (v := .int .i64 (v.pins + by_)) (g := b17) (k := k * 6 + 1) 2 (by kernel_rfl) hm14 rfl (i := 10) rfl (wn rfl) rfl ((litEv (v := .pointer (some ⟨b17, 0 + k * 6 + 1, none⟩)) (by kernel_rfl)).trans (by rw [Nat.zero_add])) (litEv (by kernel_rfl)) (lvs_get hkv 1 _ rfl) (by omega) rfl rfl ?_
 intro w19 hm18
 clear hm14
 rw [lvs_set _ hkv] at hm18
 try simp only [List.cons_append, List.nil_append, List.set_cons_succ, List.set_cons_zero] at hm18
 refine qNone rfl ?_
 refine plD ?_
 refine then_normal (hK16 _ _ ?_)
 refine wpPrune [(3, .pointer (some ⟨g2, 0, none⟩)), (6, .pointer (some ⟨g5, 0, none⟩))] ⟨litGet (by kernel_rfl), ⟨litGet (by kernel_rfl), trivial⟩⟩ (fun X21 => ?_)
 refine wp_seq_k fun K22 hK22 => ?_
 refine plStart ?_
 refine litVal (v := .agg ([.slice (some ⟨b17, 0, none⟩) l.length c13, .int .i64 nx]).toArray) rfl (wn rfl) (gLoadAg (vs := [.slice (some ⟨b17, 0, none⟩) l.length c13, .int .i64 nx]) (k := 0) 0 hm18 rfl (by kernel_rfl) (by kernel_rfl) (.tmp 3) Ty.ag_voxel_api_Versions rfl (litEv (by kernel_rfl))) rfl (by decide) ?_
 refine plStore 1 Ty.ag_voxel_api_Versions hm18 rfl (i := 1) (cs := [.slice (some ⟨b17, 0, none⟩) l.length c13, .int .i64 nx]) rfl (wn rfl) rfl (litEv (by kernel_rfl)) (litEv (by kernel_rfl)) rfl rfl (by kernel_rfl) ?_
 intro w24 hm23
 clear hm18
 try simp only [List.cons_append, List.nil_append, List.set_cons_succ, List.set_cons_zero] at hm23
 refine qNone rfl ?_
 refine plD ?_
 refine then_normal (hK22 _ _ ?_)
 refine wp_ret ?_
 refine bodyPost_ret (v := .agg ([.slice (some ⟨b17, 0, none⟩) l.length c13, .int .i64 nx]).toArray) (gRes1 rfl (gResAg (cs := [.slice (some ⟨b17, 0, none⟩) l.length c13, .int .i64 nx]) 1 hm23 rfl Ty.ag_voxel_api_Versions rfl (litGet (by kernel_rfl)))) rfl ?_
 exact ⟨some ⟨b17, 0, none⟩, c13, by rw [List.length_set]; rfl, ⟨by rw [List.length_set]; exact hm23.rdRow 2 rfl, (AllAt.set hall hkv _).below hm23.bel⟩, .set (own_new (hm23.row 2 rfl)) hkv _, hm23.bel⟩
set_option maxRecDepth 100000 in
set_option maxHeartbeats 4000000 in
theorem moved_any (l : List Lv) (S : Option Addr) (cS : Nat) (nx : Int) (k : Nat) (v : Lv) (by_ : Int) (w : World) (hT : TbAt w l S cS) (hl : l.length ≤ 1000) (hkv : l[k]? = some v) (hp : 0 ≤ v.pins ∧ v.pins ≤ 1000) (hby : -1 ≤ by_ ∧ by_ ≤ 1) : Calls Tryd.prog 86 #[.agg (tbs (.slice S l.length cS) nx).toArray, .int .i64 (k : Int), .int .i64 by_] w (fun e w' => ∃ S' c', e = .returned (.agg (tbs (.slice S' (l.set k { v with pins := v.pins + by_ }).length c') nx).toArray) ∧ TbAt w' (l.set k { v with pins := v.pins + by_ }) S' c' ∧ NewT w.heap.size l (l.set k { v with pins := v.pins + by_ }) S' ∧ Below w.heap.size w w') := by
 have hS := hT.rd
 have hall := hT.all
 have hkl_ := (List.getElem?_eq_some_iff.1 hkv).1
 have hv_ := hall v (List.mem_of_getElem? hkv)
 have hm0 := Mem.nil w
 go_enter Tryd.func86, Tryd.ntmps86
 refine litStart 27 [(0, .agg (tbs (.slice S l.length cS) nx).toArray), (1, .int .i64 (k : Int)), (2, .int .i64 by_)] (by kernel_rfl) (fun X0 => ?_)
 refine wp_seq_k fun K1 hK1 => ?_
 refine plStart ?_
 refine plBox hm0 (cs := tbs (.slice S l.length cS) nx) (i := 0) rfl (wn rfl) rfl (litEv (by kernel_rfl)) ?_
 intro g2 w4 hm3
 clear hm0
 try simp only [List.cons_append, List.nil_append, List.set_cons_succ, List.set_cons_zero] at hm3
 refine qP rfl ?_
 refine plAlloc (z := [.slice none 0 0, .int .i64 0]) Ty.ag_voxel_api_Versions hm3 (i := 1) rfl (wn rfl) rfl ?_
 intro g5 w7 hm6
 clear hm3
 try simp only [List.cons_append, List.nil_append, List.set_cons_succ, List.set_cons_zero] at hm6
 refine qP rfl ?_
 refine plD ?_
 refine then_normal (hK1 _ _ ?_)
 refine wp_seq_k fun K8 hK8 => ?_
 refine plStart ?_
 refine plLit0 Ty.sl_L_api_Version hm6 (i := 0) rfl (wn rfl) rfl rfl ?_
 intro g9 w11 hm10
 clear hm6
 try simp only [List.cons_append, List.nil_append, List.set_cons_succ, List.set_cons_zero] at hm10
 refine qP rfl ?_
 refine lk (v := .pointer (some ⟨g2, 0, none⟩)) rfl rfl rfl ?_
 refine litVal (v := .slice S l.length cS) rfl (wn rfl) (gLoad (v := .slice S l.length cS) (k := 0) 0 hm10 rfl (by kernel_rfl) (.tmp 9) (by kernel_rfl) rfl (litEv (by kernel_rfl))) rfl (by decide) ?_
 refine plAppR (v := .slice (some ⟨g9, 0, none⟩) 0 0) (n := 0) (xs := []) (ys := lvs l) (A := S) (m := l.length) (c := cS) 2 Ty.sl_L_api_Version hm10 rfl ((Rd.below hS hm10.bel).more hm10.bel.size) (i := 3) rfl (wn rfl) rfl (litEv (by kernel_rfl)) (litEv (by kernel_rfl)) (lvs_one _) (by omega) (by omega) ?_
 intro v16 w13 hm12
 clear hm10
 try simp only [List.cons_append, List.nil_append, List.set_cons_succ, List.set_cons_zero] at hm12
 replace hm12 := Mem.rowEq (v := v16) (e := 78) (size := 6) (n := 0 + l.length) (n' := l.length) (xs := ([]) ++ (lvs l)) (xs' := lvs l) 2 hm12 rfl (Nat.zero_add _) (rfl)
 try simp only [List.cons_append, List.nil_append, List.set_cons_succ, List.set_cons_zero] at hm12
 obtain ⟨A14, c15, rfl⟩ := Mem.rowSl (v := v16) (e := 78) (size := 6) (n := l.length) (xs := lvs l) 2 hm12 rfl
 refine qP rfl ?_
 refine lk (v := .slice A14 l.length c15) rfl rfl rfl ?_
 refine plD ?_
 refine then_normal (hK8 _ _ ?_)
 refine wp_seq_k fun K17 hK17 => ?_
 refine plStart ?_
 obtain ⟨b18, rfl⟩ := hm12.rowBlk (A := A14) (n := l.length) (c := c15) 2 rfl (by omega)
 refine lk (v := .slice (some ⟨b18, 0, none⟩) l.length c15) rfl rfl rfl ?_
 refine lk (v := .int .i64 (k : Int)) rfl rfl rfl ?_
 refine lk (v := .slice (some ⟨b18, 0, none⟩) l.length c15) rfl rfl rfl ?_
 refine lk (v := .int .i64 (k : Int)) rfl rfl rfl ?_
 refine litVal (v := .pointer (some ⟨b18, 0 + k * 6, none⟩)) rfl (wn rfl) (gIaSl (b := b18) (off := 0) (n := l.length) (c := c15) (kk := .i64) (K := (k : Int)) (.tmp 14) (.tmp 15) k Ty.sl_L_api_Version rfl (litEv (by kernel_rfl)) (litEv (by kernel_rfl)) (rfl) (by omega)) rfl (by decide) ?_
 refine lk (v := .pointer (some ⟨b18, 0 + k * 6 + 1, none⟩)) rfl rfl rfl ?_
 refine litVal (v := .int .i64 v.pins) rfl (wn rfl) (gLoadRd (v := .int .i64 v.pins) (m := k * 6 + 1) (hm12.rdRow 2 rfl) rfl (lvs_get hkv 1 _ rfl) (by omega) (.tmp 17) (by kernel_rfl) rfl (litEv (by kernel_rfl))) rfl (by decide) ?_
 refine lk (v := .int .i64 by_) rfl rfl rfl ?_
 refine litVal (v := .int .i64 (v.pins + by_)) rfl (wn rfl) (addRun (A := v.pins) (B := by_) (C := v.pins + by_) (.tmp 18) (.tmp 19) rfl (litEv (by kernel_rfl)) (litEv (by kernel_rfl)) rfl (by omega)) rfl (by decide) ?_
 refine litVal (v := .pointer (some ⟨b18, 0 + k * 6, none⟩)) rfl (wn rfl) (gIaSl (b := b18) (off := 0) (n := l.length) (c := c15) (kk := .i64) (K := (k : Int)) (.tmp 12) (.tmp 13) k Ty.sl_L_api_Version rfl (litEv (by kernel_rfl)) (litEv (by kernel_rfl)) (rfl) (by omega)) rfl (by decide) ?_
 refine lk (v := .pointer (some ⟨b18, 0 + k * 6 + 1, none⟩)) rfl rfl rfl ?_
 refine plStoreRow (v := .int .i64 (v.pins + by_)) (g := b18) (k := k * 6 + 1) 2 (by kernel_rfl) hm12 rfl (i := 11) rfl (wn rfl) rfl ((litEv (v := .pointer (some ⟨b18, 0 + k * 6 + 1, none⟩)) (by kernel_rfl)).trans (by rw [Nat.zero_add])) (litEv (by kernel_rfl)) (lvs_get hkv 1 _ rfl) (by omega) rfl rfl ?_
 intro w20 hm19
 clear hm12
 rw [lvs_set _ hkv] at hm19
 try simp only [List.cons_append, List.nil_append, List.set_cons_succ, List.set_cons_zero] at hm19
 refine qNone rfl ?_
 refine plD ?_
 refine then_normal (hK17 _ _ ?_)
 refine wpPrune [(3, .pointer (some ⟨g2, 0, none⟩)), (6, .pointer (some ⟨g5, 0, none⟩)), (7, .slice (some ⟨b18, 0, none⟩) l.length c15)] ⟨litGet (by kernel_rfl), ⟨litGet (by kernel_rfl), ⟨litGet (by kernel_rfl), trivial⟩⟩⟩ (fun X22 => ?_)
 refine wp_seq_k fun K23 hK23 => ?_
 refine plStart ?_
 refine lk (v := .slice (some ⟨b18, 0, none⟩) l.length c15) rfl rfl rfl ?_
 refine lk (v := .pointer (some ⟨g2, 1, none⟩)) rfl rfl rfl ?_
 refine litVal (v := .int .i64 nx) rfl (wn rfl) (gLoad (v := .int .i64 nx) (k := 1) 0 hm19 rfl (by kernel_rfl) (.tmp 24) (by kernel_rfl) rfl (litEv (by kernel_rfl))) rfl (by decide) ?_
 refine lk (v := .agg ([.slice (some ⟨b18, 0, none⟩) l.length c15, .int .i64 nx]).toArray) rfl rfl rfl ?_
 refine plStore 1 Ty.ag_voxel_api_Versions hm19 rfl (i := 4) (cs := [.slice (some ⟨b18, 0, none⟩) l.length c15, .int .i64 nx]) rfl (wn rfl) rfl (litEv (by kernel_rfl)) (litEv (by kernel_rfl)) rfl rfl (by kernel_rfl) ?_
 intro w25 hm24
 clear hm19
 try simp only [List.cons_append, List.nil_append, List.set_cons_succ, List.set_cons_zero] at hm24
 refine qNone rfl ?_
 refine plD ?_
 refine then_normal (hK23 _ _ ?_)
 refine wp_ret ?_
 refine bodyPost_ret (v := .agg ([.slice (some ⟨b18, 0, none⟩) l.length c15, .int .i64 nx]).toArray) (gRes1 rfl (gResAg (cs := [.slice (some ⟨b18, 0, none⟩) l.length c15, .int .i64 nx]) 1 hm24 rfl Ty.ag_voxel_api_Versions rfl (litGet (by kernel_rfl)))) rfl ?_
 exact ⟨some ⟨b18, 0, none⟩, c15, by rw [List.length_set]; rfl, ⟨by rw [List.length_set]; exact hm24.rdRow 2 rfl, (AllAt.set hall hkv _).below hm24.bel⟩, .set (own_new (hm24.row 2 rfl)) hkv _, hm24.bel⟩
end Go.Proofs.YtgjgjimgomhbmaaDoor
namespace Go.Proofs.YtgjgjimgomhbmaaDoor
open Go.RowKit
set_option linter.unusedVariables false
set_option linter.unusedSimpArgs false
/-- The header's slices are new, or those of one of a list. -/
def NewV (B : Nat) (l : List Lv) (v : Lv) : Prop := (∃ u ∈ l, v.A = u.A ∧ v.B = u.B ∧ v.h = u.h) ∨ (NewA B v.A ∧ NewA B v.B)
def lv0 : Lv := ⟨0, 0, hd0, none, 0, none, 0⟩
/-- The header of a version, and the error. -/
def findHd (l : List Lv) (num : Int) : Hd × Int := if placeP l num < 0 then (hd0, 9) else ((l.getD (placeP l num).toNat lv0).h, 0)
theorem findHd_no {l : List Lv} {num : Int} (h : placeP l num < 0) : findHd l num = (hd0, 9) := if_pos h
theorem findHd_yes {l : List Lv} {num : Int} {k : Nat} {v : Lv} (hk : placeP l num = (k : Int)) (hv : l[k]? = some v) : findHd l num = (v.h, 0) := by
  unfold findHd
  rw [if_neg (by omega), hk, Int.toNat_natCast]
  simp [List.getD, hv]
set_option maxRecDepth 100000 in
set_option maxHeartbeats 4000000 in
theorem rfind_any (l : List Lv) (S : Option Addr) (cS : Nat) (nx : Int) (num : Int) (w : World) (hS : Rd w w.heap.size 6 S l.length cS (lvs l)) (hl : l.length ≤ 1000) (hall : AllAt l w) (hsm : ∀ v ∈ l, v.h.counts.length ≤ 20 ∧ v.h.rn ≤ 20) : Calls Tryd.prog 29 #[.agg (tbs (.slice S l.length cS) nx).toArray, .int .i64 num] w (fun e w' => ∃ v : Lv, v.h = (findHd l num).1 ∧ e = .returned (.tuple #[.agg (hcs v.h v.A v.c v.B v.d).toArray, .int .i64 (findHd l num).2]) ∧ v.At w' ∧ NewV w.heap.size l v ∧ Below w.heap.size w w') := by
 have hm0 := Mem.nil w
 go_enter Tryd.func29, Tryd.ntmps29
 refine litStart 19 [(0, .agg (tbs (.slice S l.length cS) nx).toArray), (1, .int .i64 num)] (by kernel_rfl) (fun X0 => ?_)
 refine wp_seq_k fun K1 hK1 => ?_
 refine plStart ?_
 refine plBox hm0 (cs := tbs (.slice S l.length cS) nx) (i := 0) rfl (wn rfl) rfl (litEv (by kernel_rfl)) ?_
 intro g2 w4 hm3
 clear hm0
 try simp only [List.cons_append, List.nil_append, List.set_cons_succ, List.set_cons_zero] at hm3
 refine qP rfl ?_
 refine plAlloc (z := [.int .i64 0, .slice none 0 0, .int .i64 0, .slice none 0 0]) Ty.ag_voxel_api_Header hm3 (i := 1) rfl (wn rfl) rfl ?_
 intro g5 w7 hm6
 clear hm3
 try simp only [List.cons_append, List.nil_append, List.set_cons_succ, List.set_cons_zero] at hm6
 refine qP rfl ?_
 refine lk (v := .int .i64 0) rfl rfl rfl ?_
 refine plD ?_
 refine then_normal (hK1 _ _ ?_)
 refine wp_seq_k fun K8 hK8 => ?_
 refine plStart ?_
 refine litVal (v := .agg (tbs (.slice S l.length cS) nx).toArray) rfl (wn rfl) (gLoadAg (vs := tbs (.slice S l.length cS) nx) (k := 0) 0 hm6 rfl (by kernel_rfl) (by kernel_rfl) (.tmp 2) Ty.ag_voxel_api_Versions rfl (litEv (by kernel_rfl))) rfl (by decide) ?_
 refine lk (v := .int .i64 num) rfl rfl rfl ?_
 refine plCall (i := 2) 61 [.agg (tbs (.slice S l.length cS) nx).toArray, .int .i64 num] [] [] rfl (by kernel_rfl) (wn rfl) rfl (litEv (by kernel_rfl)) (litArgs (by kernel_rfl)) (place_any l S cS nx num _ ((Rd.below hS hm6.bel).more hm6.bel.size) hl) ?_
 rintro e w9 ⟨rfl, hbz⟩
 have hm10 := hm6.below hbz
 clear hbz hm6
 refine ⟨_, rfl, ?_⟩
 refine qP rfl ?_
 refine lk (v := .int .i64 (placeP l num)) rfl rfl rfl ?_
 refine plD ?_
 refine then_normal (hK8 _ _ ?_)
 refine wp_seq_k fun K11 hK11 => ?_
 refine wp_seq_k fun K12 hK12 => ?_
 refine plStart ?_
 refine lk (v := .int .i64 (placeP l num)) rfl rfl rfl ?_
 by_cases h13 : (placeP l num) < 0
 · refine litVal (v := .bool true) rfl (wn rfl) (boolTo (decide_eq_true h13) (lssRun (A := (placeP l num)) (B := 0) (.tmp 10) (.const (.int .i64 0)) rfl (litEv (by kernel_rfl)) (litEv (by kernel_rfl)))) rfl (by decide) ?_
   refine plD ?_
   refine then_normal (hK12 _ _ ?_)
   refine wp_cond_true (litEv (by kernel_rfl)) ?_
   refine wp_seq_k fun K14 hK14 => ?_
   refine plStart ?_
   refine lk (v := .agg ([.int .i64 0, .slice none 0 0, .int .i64 0, .slice none 0 0]).toArray) rfl rfl rfl ?_
   refine plStore 1 Ty.ag_voxel_api_Header hm10 rfl (i := 1) (cs := [.int .i64 0, .slice none 0 0, .int .i64 0, .slice none 0 0]) rfl (wn rfl) rfl (litEv (by kernel_rfl)) (litEv (by kernel_rfl)) rfl rfl (by kernel_rfl) ?_
   intro w16 hm15
   clear hm10
   try simp only [List.cons_append, List.nil_append, List.set_cons_succ, List.set_cons_zero] at hm15
   refine qNone rfl ?_
   refine lk (v := .int .i64 9) rfl rfl rfl ?_
   refine plD ?_
   refine then_normal (hK14 _ _ ?_)
   refine wp_ret ?_
   refine then_ret ?_
   refine bodyPost_ret (v := .tuple #[.agg ([.int .i64 0, .slice none 0 0, .int .i64 0, .slice none 0 0]).toArray, .int .i64 9]) (gRes2 rfl (gResAg (cs := [.int .i64 0, .slice none 0 0, .int .i64 0, .slice none 0 0]) 1 hm15 rfl Ty.ag_voxel_api_Header rfl (litGet (by kernel_rfl))) (gResTmp (t := 5) (v := .int .i64 9) (litGet (by kernel_rfl)))) rfl ?_
   have hfin_ := findHd_no h13
   exact ⟨⟨0, 0, hd0, none, 0, none, 0⟩, by rw [hfin_], by rw [hfin_]; rfl, ⟨Rd.nil _ _ 1, Rd.nil _ _ 16⟩, Or.inr ⟨NewA.none _, NewA.none _⟩, hm15.bel⟩
 obtain ⟨k, v, hk_, hkv, _⟩ : ∃ (i : Nat) (v : Lv), placeP l num = (i : Int) ∧ l[i]? = some v ∧ v.num = num := by
   rcases placeP_spec num l with h_ | h_
   · exact absurd h_.1 (by omega)
   · exact h_
 have hkl_ := (List.getElem?_eq_some_iff.1 hkv).1
 have hv_ := hall v (List.mem_of_getElem? hkv)
 have hsm_ := hsm v (List.mem_of_getElem? hkv)
 obtain ⟨b_, o_, rfl, _, _⟩ := hS.cells (by omega)
 refine litVal (v := .bool false) rfl (wn rfl) (boolTo (decide_eq_false h13) (lssRun (A := (placeP l num)) (B := 0) (.tmp 10) (.const (.int .i64 0)) rfl (litEv (by kernel_rfl)) (litEv (by kernel_rfl)))) rfl (by decide) ?_
 refine plD ?_
 refine then_normal (hK12 _ _ ?_)
 refine wp_cond_false (litEv (by kernel_rfl)) ?_
 refine wp_skip ?_
 refine then_normal (hK11 _ _ ?_)
 refine wp_seq_k fun K17 hK17 => ?_
 refine plStart ?_
 refine lk (v := .pointer (some ⟨g2, 0, none⟩)) rfl rfl rfl ?_
 refine litVal (v := .slice (some ⟨b_, o_, none⟩) l.length cS) rfl (wn rfl) (gLoad (v := .slice (some ⟨b_, o_, none⟩) l.length cS) (k := 0) 0 hm10 rfl (by kernel_rfl) (.tmp 13) (by kernel_rfl) rfl (litEv (by kernel_rfl))) rfl (by decide) ?_
 refine lk (v := .int .i64 (placeP l num)) rfl rfl rfl ?_
 refine litVal (v := .pointer (some ⟨b_, o_ + k * 6, none⟩)) rfl (wn rfl) (gIaSl (b := b_) (off := o_) (n := l.length) (c := cS) (kk := .i64) (K := (placeP l num)) (.tmp 14) (.tmp 15) k Ty.sl_L_api_Version rfl (litEv (by kernel_rfl)) (litEv (by kernel_rfl)) (hk_) (hkl_)) rfl (by decide) ?_
 refine lk (v := .pointer (some ⟨b_, o_ + k * 6 + 2, none⟩)) rfl rfl rfl ?_
 refine litVal (v := .agg (hcs v.h v.A v.c v.B v.d).toArray) rfl (wn rfl) (gLoadAgRd (vs := hcs v.h v.A v.c v.B v.d) (m := k * 6 + 2) ((Rd.below hS hm10.bel).more hm10.bel.size) rfl (fun i_ u_ hu_ => by have := lvs_get hkv (2 + i_) u_ (by rw [Nat.add_comm]; exact hu_); rw [← Nat.add_assoc] at this; exact this) (by kernel_rfl) (by omega) (.tmp 17) Ty.ag_voxel_api_Header rfl (litEv (by kernel_rfl))) rfl (by decide) ?_
 refine plStore 1 Ty.ag_voxel_api_Header hm10 rfl (i := 6) (cs := hcs v.h v.A v.c v.B v.d) rfl (wn rfl) rfl (litEv (by kernel_rfl)) (litEv (by kernel_rfl)) rfl rfl (by kernel_rfl) ?_
 intro w19 hm18
 clear hm10
 try simp only [List.cons_append, List.nil_append, List.set_cons_succ, List.set_cons_zero] at hm18
 refine qNone rfl ?_
 refine lk (v := .int .i64 0) rfl rfl rfl ?_
 refine plD ?_
 refine then_normal (hK17 _ _ ?_)
 refine wpPrune [(4, .pointer (some ⟨g5, 0, none⟩)), (5, .int .i64 0)] ⟨litGet (by kernel_rfl), ⟨litGet (by kernel_rfl), trivial⟩⟩ (fun X20 => ?_)
 refine wp_ret ?_
 refine bodyPost_ret (v := .tuple #[.agg (hcs v.h v.A v.c v.B v.d).toArray, .int .i64 0]) (gRes2 rfl (gResAg (cs := hcs v.h v.A v.c v.B v.d) 1 hm18 rfl Ty.ag_voxel_api_Header rfl (litGet (by kernel_rfl))) (gResTmp (t := 5) (v := .int .i64 0) (litGet (by kernel_rfl)))) rfl ?_
 have hfin_ := findHd_yes hk_ hkv
 exact ⟨⟨0, 0, v.h, v.A, v.c, v.B, v.d⟩, by rw [hfin_], by first | (rw [hfin_]; done) | (rw [hfin_]; rfl), ⟨((hv_.below hm18.bel).a), ((hv_.below hm18.bel).b)⟩, Or.inl ⟨v, List.mem_of_getElem? hkv, rfl, rfl, rfl⟩, hm18.bel⟩
set_option maxRecDepth 100000 in
set_option maxHeartbeats 4000000 in
theorem find_any (l : List Lv) (S : Option Addr) (cS : Nat) (nx : Int) (num : Int) (w : World) (hS : Rd w w.heap.size 6 S l.length cS (lvs l)) (hl : l.length ≤ 1000) (hall : AllAt l w) (hsm : ∀ v ∈ l, v.h.counts.length ≤ 20 ∧ v.h.rn ≤ 20) : Calls Tryd.prog 28 #[.agg (tbs (.slice S l.length cS) nx).toArray, .int .i64 num] w (fun e w' => ∃ v : Lv, v.h = (findHd l num).1 ∧ e = .returned (.tuple #[.agg (hcs v.h v.A v.c v.B v.d).toArray, .int .i64 (findHd l num).2]) ∧ v.At w' ∧ NewV w.heap.size l v ∧ Below w.heap.size w w') := by
 have hm0 := Mem.nil w
 go_enter Tryd.func28, Tryd.ntmps28
 refine litStart 29 [(0, .agg (tbs (.slice S l.length cS) nx).toArray), (1, .int .i64 num)] (by kernel_rfl) (fun X0 => ?_)
 refine wp_seq_k fun K1 hK1 => ?_
 refine plStart ?_
 refine plBox hm0 (cs := tbs (.slice S l.length cS) nx) (i := 0) rfl (wn rfl) rfl (litEv (by kernel_rfl)) ?_
 intro g2 w4 hm3
 clear hm0
 try simp only [List.cons_append, List.nil_append, List.set_cons_succ, List.set_cons_zero] at hm3
 refine qP rfl ?_
 refine plAlloc (z := [.int .i64 0, .slice none 0 0, .int .i64 0, .slice none 0 0]) Ty.ag_voxel_api_Header hm3 (i := 1) rfl (wn rfl) rfl ?_
 intro g5 w7 hm6
 clear hm3
 try simp only [List.cons_append, List.nil_append, List.set_cons_succ, List.set_cons_zero] at hm6
 refine qP rfl ?_
 refine lk (v := .int .i64 0) rfl rfl rfl ?_
 refine plD ?_
 refine then_normal (hK1 _ _ ?_)
 refine wp_seq_k fun K8 hK8 => ?_
 refine plStart ?_
 refine litVal (v := .agg (tbs (.slice S l.length cS) nx).toArray) rfl (wn rfl) (gLoadAg (vs := tbs (.slice S l.length cS) nx) (k := 0) 0 hm6 rfl (by kernel_rfl) (by kernel_rfl) (.tmp 2) Ty.ag_voxel_api_Versions rfl (litEv (by kernel_rfl))) rfl (by decide) ?_
 refine lk (v := .int .i64 num) rfl rfl rfl ?_
 refine plCall (i := 2) 58 [.agg (tbs (.slice S l.length cS) nx).toArray, .int .i64 num] [] [] rfl (by kernel_rfl) (wn rfl) rfl (litEv (by kernel_rfl)) (litArgs (by kernel_rfl)) (index_any l S cS nx num _ ((Rd.below hS hm6.bel).more hm6.bel.size) hl) ?_
 rintro e w9 ⟨rfl, hbz⟩
 have hm10 := hm6.below hbz
 clear hbz hm6
 refine ⟨_, rfl, ?_⟩
 refine qP rfl ?_
 refine lk (v := .int .i64 (placeP l num)) rfl rfl rfl ?_
 refine plD ?_
 refine then_normal (hK8 _ _ ?_)
 refine wp_seq_k fun K11 hK11 => ?_
 refine wp_seq_k fun K12 hK12 => ?_
 refine plStart ?_
 refine lk (v := .int .i64 (placeP l num)) rfl rfl rfl ?_
 by_cases h13 : (placeP l num) < 0
 · refine litVal (v := .bool true) rfl (wn rfl) (boolTo (decide_eq_true h13) (lssRun (A := (placeP l num)) (B := 0) (.tmp 11) (.const (.int .i64 0)) rfl (litEv (by kernel_rfl)) (litEv (by kernel_rfl)))) rfl (by decide) ?_
   refine plD ?_
   refine then_normal (hK12 _ _ ?_)
   refine wp_cond_true (litEv (by kernel_rfl)) ?_
   refine wp_seq_k fun K14 hK14 => ?_
   refine plStart ?_
   refine lk (v := .agg ([.int .i64 0, .slice none 0 0, .int .i64 0, .slice none 0 0]).toArray) rfl rfl rfl ?_
   refine plStore 1 Ty.ag_voxel_api_Header hm10 rfl (i := 1) (cs := [.int .i64 0, .slice none 0 0, .int .i64 0, .slice none 0 0]) rfl (wn rfl) rfl (litEv (by kernel_rfl)) (litEv (by kernel_rfl)) rfl rfl (by kernel_rfl) ?_
   intro w16 hm15
   clear hm10
   try simp only [List.cons_append, List.nil_append, List.set_cons_succ, List.set_cons_zero] at hm15
   refine qNone rfl ?_
   refine lk (v := .int .i64 9) rfl rfl rfl ?_
   refine plD ?_
   refine then_normal (hK14 _ _ ?_)
   refine wp_ret ?_
   refine then_ret ?_
   refine bodyPost_ret (v := .tuple #[.agg ([.int .i64 0, .slice none 0 0, .int .i64 0, .slice none 0 0]).toArray, .int .i64 9]) (gRes2 rfl (gResAg (cs := [.int .i64 0, .slice none 0 0, .int .i64 0, .slice none 0 0]) 1 hm15 rfl Ty.ag_voxel_api_Header rfl (litGet (by kernel_rfl))) (gResTmp (t := 5) (v := .int .i64 9) (litGet (by kernel_rfl)))) rfl ?_
   have hfin_ := findHd_no h13
   exact ⟨⟨0, 0, hd0, none, 0, none, 0⟩, by rw [hfin_], by rw [hfin_]; rfl, ⟨Rd.nil _ _ 1, Rd.nil _ _ 16⟩, Or.inr ⟨NewA.none _, NewA.none _⟩, hm15.bel⟩
 obtain ⟨k, v, hk_, hkv, _⟩ : ∃ (i : Nat) (v : Lv), placeP l num = (i : Int) ∧ l[i]? = some v ∧ v.num = num := by
   rcases placeP_spec num l with h_ | h_
   · exact absurd h_.1 (by omega)
   · exact h_
 have hkl_ := (List.getElem?_eq_some_iff.1 hkv).1
 have hv_ := hall v (List.mem_of_getElem? hkv)
 have hsm_ := hsm v (List.mem_of_getElem? hkv)
 obtain ⟨b_, o_, rfl, _, _⟩ := hS.cells (by omega)
 refine litVal (v := .bool false) rfl (wn rfl) (boolTo (decide_eq_false h13) (lssRun (A := (placeP l num)) (B := 0) (.tmp 11) (.const (.int .i64 0)) rfl (litEv (by kernel_rfl)) (litEv (by kernel_rfl)))) rfl (by decide) ?_
 refine plD ?_
 refine then_normal (hK12 _ _ ?_)
 refine wp_cond_false (litEv (by kernel_rfl)) ?_
 refine wp_skip ?_
 refine then_normal (hK11 _ _ ?_)
 refine wp_seq_k fun K17 hK17 => ?_
 refine plStart ?_
 refine lk (v := .pointer (some ⟨g2, 0, none⟩)) rfl rfl rfl ?_
 refine litVal (v := .slice (some ⟨b_, o_, none⟩) l.length cS) rfl (wn rfl) (gLoad (v := .slice (some ⟨b_, o_, none⟩) l.length cS) (k := 0) 0 hm10 rfl (by kernel_rfl) (.tmp 14) (by kernel_rfl) rfl (litEv (by kernel_rfl))) rfl (by decide) ?_
 refine lk (v := .int .i64 (placeP l num)) rfl rfl rfl ?_
 refine litVal (v := .pointer (some ⟨b_, o_ + k * 6, none⟩)) rfl (wn rfl) (gIaSl (b := b_) (off := o_) (n := l.length) (c := cS) (kk := .i64) (K := (placeP l num)) (.tmp 15) (.tmp 16) k Ty.sl_L_api_Version rfl (litEv (by kernel_rfl)) (litEv (by kernel_rfl)) (hk_) (hkl_)) rfl (by decide) ?_
 refine lk (v := .pointer (some ⟨b_, o_ + k * 6 + 2, none⟩)) rfl rfl rfl ?_
 refine litVal (v := .agg (hcs v.h v.A v.c v.B v.d).toArray) rfl (wn rfl) (gLoadAgRd (vs := hcs v.h v.A v.c v.B v.d) (m := k * 6 + 2) ((Rd.below hS hm10.bel).more hm10.bel.size) rfl (fun i_ u_ hu_ => by have := lvs_get hkv (2 + i_) u_ (by rw [Nat.add_comm]; exact hu_); rw [← Nat.add_assoc] at this; exact this) (by kernel_rfl) (by omega) (.tmp 18) Ty.ag_voxel_api_Header rfl (litEv (by kernel_rfl))) rfl (by decide) ?_
 refine plAlloc (z := [.int .i64 0, .slice none 0 0, .int .i64 0, .slice none 0 0]) Ty.ag_voxel_api_Header hm10 (i := 6) rfl (wn rfl) rfl ?_
 intro g18 w20 hm19
 clear hm10
 try simp only [List.cons_append, List.nil_append, List.set_cons_succ, List.set_cons_zero] at hm19
 refine qP rfl ?_
 refine plStore 2 Ty.ag_voxel_api_Header hm19 rfl (i := 7) (cs := hcs v.h v.A v.c v.B v.d) rfl (wn rfl) rfl (litEv (by kernel_rfl)) (litEv (by kernel_rfl)) rfl rfl (by kernel_rfl) ?_
 intro w22 hm21
 clear hm19
 try simp only [List.cons_append, List.nil_append, List.set_cons_succ, List.set_cons_zero] at hm21
 refine qNone rfl ?_
 refine plD ?_
 refine then_normal (hK17 _ _ ?_)
 refine wpPrune [(4, .pointer (some ⟨g5, 0, none⟩)), (5, .int .i64 0), (7, .pointer (some ⟨g18, 0, none⟩))] ⟨litGet (by kernel_rfl), ⟨litGet (by kernel_rfl), ⟨litGet (by kernel_rfl), trivial⟩⟩⟩ (fun X23 => ?_)
 refine wp_seq_k fun K24 hK24 => ?_
 refine glStart 7 [.arr g2 44 (tbs (.slice (some ⟨b_, o_, none⟩) l.length cS) nx), .arr g5 25 ([.int .i64 0, .slice none 0 0, .int .i64 0, .slice none 0 0]), .arr g18 25 (hcs v.h v.A v.c v.B v.d)] hm21 (by kernel_rfl) ?_
 intro w26 hm25
 clear hm21
 refine glk (i := 0) (v := .pointer (some ⟨g18, 1, none⟩)) rfl rfl (fun _ _ _ h => h) (hm25.sub (.cons_cons _ (.cons_cons _ (.cons_cons _ .slnil)))) rfl ?_
 refine glTake (i := 1) (v := .slice v.A v.h.counts.length v.c) rfl (by kernel_rfl) (wn rfl) (fun _ _ _ h => h) (hm25.sub (.cons_cons _ (.cons_cons _ (.cons_cons _ .slnil)))) (fun w_ h_ => gLoad (v := .slice v.A v.h.counts.length v.c) (k := 1) 2 h_ rfl (by kernel_rfl) (.tmp 20) (by kernel_rfl) rfl (litEv (by kernel_rfl))) ?_
 refine glP rfl ?_
 refine glk (i := 3) (v := .pointer (some ⟨g18, 3, none⟩)) rfl rfl (fun _ _ _ h => h) (hm25.sub (.cons_cons _ (.cons_cons _ (.cons_cons _ .slnil)))) rfl ?_
 refine glTake (i := 4) (v := .slice v.B v.h.rn v.d) rfl (by kernel_rfl) (wn rfl) (fun _ _ _ h => h) (hm25.sub (.cons_cons _ (.cons_cons _ (.cons_cons _ .slnil)))) (fun w_ h_ => gLoad (v := .slice v.B v.h.rn v.d) (k := 3) 2 h_ rfl (by kernel_rfl) (.tmp 23) (by kernel_rfl) rfl (litEv (by kernel_rfl))) ?_
 refine glP rfl ?_
 refine glCall (i := 2) 59 [.slice v.A v.h.counts.length v.c] [] [] (by kernel_rfl) rfl (by kernel_rfl) (wn rfl) rfl (litEv (by kernel_rfl)) (litArgs (by kernel_rfl)) (cloneI_any v.h.counts v.h.counts.length v.A v.c _ ((hv_.below hm25.bel).a) (by omega)) ?_
 rintro e w27 ⟨v29, rfl, hown_, hbz⟩
 obtain ⟨A30, c31, rfl, hrd_⟩ := Rd.of_own hown_
 clear hrd_
 have hm28 := hm25.newRow hbz hown_
 clear hown_ hbz
 try simp only [List.cons_append, List.nil_append, List.set_cons_succ, List.set_cons_zero] at hm28
 refine ⟨_, rfl, (hm28.sub (.cons_cons _ (.cons_cons _ (.cons_cons _ (.cons _ .slnil))))), ?_⟩
 refine glP rfl ?_
 refine glk (i := 6) (v := .pointer (some ⟨g18, 1, none⟩)) rfl rfl (fun _ _ _ h => h) (hm28.sub (.cons_cons _ (.cons_cons _ (.cons_cons _ (.cons _ .slnil))))) rfl ?_
 refine glCall (i := 5) 60 [.slice v.B v.h.rn v.d] [] [] (by kernel_rfl) rfl (by kernel_rfl) (wn rfl) rfl (litEv (by kernel_rfl)) (litArgs (by kernel_rfl)) (cloneD_any v.h.D v.h.rn v.B v.d _ ((hv_.below hm28.bel).b) (by omega)) ?_
 rintro e w32 ⟨v34, rfl, hown_, hbz⟩
 obtain ⟨A35, c36, rfl, hrd_⟩ := Rd.of_own hown_
 clear hrd_
 have hm33 := hm28.newRow hbz hown_
 clear hown_ hbz
 try simp only [List.cons_append, List.nil_append, List.set_cons_succ, List.set_cons_zero] at hm33
 refine ⟨_, rfl, (hm33.sub (.cons_cons _ (.cons_cons _ (.cons_cons _ (.cons _ (.cons _ .slnil)))))), ?_⟩
 refine glP rfl ?_
 refine glStore1 (v := .slice A30 v.h.counts.length c31) (k := 1) 2 (by kernel_rfl) hm33 rfl (by kernel_rfl) (i := 7) rfl (by kernel_rfl) (wn rfl) rfl (litEv (by kernel_rfl)) (litEv (by kernel_rfl)) rfl rfl rfl ?_
 intro w38 hm37
 clear hm33
 try simp only [List.cons_append, List.nil_append, List.set_cons_succ, List.set_cons_zero] at hm37
 refine glNone rfl ?_
 refine glVal (i := 8) (v := .pointer (some ⟨g18, 3, none⟩)) (by kernel_rfl) rfl (by kernel_rfl) (wn rfl) (litRun (by kernel_rfl)) ?_
 refine glP rfl ?_
 refine glStore1 (v := .slice A35 v.h.rn c36) (k := 3) 2 (by kernel_rfl) hm37 rfl (by kernel_rfl) (i := 9) rfl (by kernel_rfl) (wn rfl) rfl (litEv (by kernel_rfl)) (litEv (by kernel_rfl)) rfl rfl rfl ?_
 intro w40 hm39
 clear hm37
 try simp only [List.cons_append, List.nil_append, List.set_cons_succ, List.set_cons_zero] at hm39
 refine glNone rfl ?_
 refine glDone (by kernel_rfl) ?_
 refine then_normal (hK24 _ _ ?_)
 refine wp_seq_k fun K41 hK41 => ?_
 refine plStart ?_
 refine litVal (v := .agg ([.int .i64 v.h.tick, .slice A30 v.h.counts.length c31, .int .i64 v.h.depth, .slice A35 v.h.rn c36]).toArray) rfl (wn rfl) (gLoadAg (vs := [.int .i64 v.h.tick, .slice A30 v.h.counts.length c31, .int .i64 v.h.depth, .slice A35 v.h.rn c36]) (k := 0) 2 hm39 rfl (by kernel_rfl) (by kernel_rfl) (.tmp 7) Ty.ag_voxel_api_Header rfl (litEv (by kernel_rfl))) rfl (by decide) ?_
 refine plStore 1 Ty.ag_voxel_api_Header hm39 rfl (i := 1) (cs := [.int .i64 v.h.tick, .slice A30 v.h.counts.length c31, .int .i64 v.h.depth, .slice A35 v.h.rn c36]) rfl (wn rfl) rfl (litEv (by kernel_rfl)) (litEv (by kernel_rfl)) rfl rfl (by kernel_rfl) ?_
 intro w43 hm42
 clear hm39
 try simp only [List.cons_append, List.nil_append, List.set_cons_succ, List.set_cons_zero] at hm42
 refine qNone rfl ?_
 refine lk (v := .int .i64 0) rfl rfl rfl ?_
 refine plD ?_
 refine then_normal (hK41 _ _ ?_)
 refine wp_ret ?_
 refine bodyPost_ret (v := .tuple #[.agg ([.int .i64 v.h.tick, .slice A30 v.h.counts.length c31, .int .i64 v.h.depth, .slice A35 v.h.rn c36]).toArray, .int .i64 0]) (gRes2 rfl (gResAg (cs := [.int .i64 v.h.tick, .slice A30 v.h.counts.length c31, .int .i64 v.h.depth, .slice A35 v.h.rn c36]) 1 hm42 rfl Ty.ag_voxel_api_Header rfl (litGet (by kernel_rfl))) (gResTmp (t := 5) (v := .int .i64 0) (litGet (by kernel_rfl)))) rfl ?_
 have hfin_ := findHd_yes hk_ hkv
 exact ⟨⟨0, 0, v.h, A30, c31, A35, c36⟩, by rw [hfin_], by first | (rw [hfin_]; done) | (rw [hfin_]; rfl), ⟨(hm42.rdRow 3 rfl), (hm42.rdRow 4 rfl)⟩, Or.inr ⟨own_new (hm42.row 3 rfl), own_new (hm42.row 4 rfl)⟩, hm42.bel⟩
end Go.Proofs.YtgjgjimgomhbmaaDoor
namespace Go.Proofs.YtgjgjimgomhbmaaDoor
open Go.RowKit
set_option linter.unusedVariables false
set_option linter.unusedSimpArgs false
section
variable {l : List Lv} {nx num : Int} {k : Nat} {v : Lv}
theorem pinV_none (h : placeP l num < 0) : pinV (vrs l) nx num = ([], 0, 9) := by
  unfold pinV; rw [← placeP_vrs, if_pos h]
theorem pinV_full (h : ¬ placeP l num < 0) (h2 : 64 ≤ pinsP l) : pinV (vrs l) nx num = ([], 0, 18) := by
  unfold pinV; rw [← placeP_vrs, ← pinsP_vrs, if_neg h, if_pos h2]
theorem pinV_yes (hk : placeP l num = (k : Int)) (hv : l[k]? = some v) (h2 : ¬ 64 ≤ pinsP l) : pinV (vrs l) nx num = (vrs (l.set k { v with pins := v.pins + 1 }), nx, 0) := by
  unfold pinV; rw [← placeP_vrs, ← pinsP_vrs, hk, if_neg (by omega), if_neg h2, setPins_vrs hv]; rfl
theorem unpinV_none (h : placeP l num < 0) : unpinV (vrs l) nx num = ([], 0, 9) := by
  unfold unpinV; rw [← placeP_vrs, if_pos (Or.inl h)]
theorem unpinV_zero (hk : placeP l num = (k : Int)) (hv : l[k]? = some v) (h2 : v.pins = 0) : unpinV (vrs l) nx num = ([], 0, 9) := by
  unfold unpinV; rw [← placeP_vrs, hk, if_pos (Or.inr (by rw [Int.toNat_natCast, getD_some (vrs_get hv)]; exact h2))]
theorem unpinV_yes (hk : placeP l num = (k : Int)) (hv : l[k]? = some v) (h2 : ¬ v.pins = 0) : unpinV (vrs l) nx num = (vrs (l.set k { v with pins := v.pins + -1 }), nx, 0) := by
  unfold unpinV
  rw [← placeP_vrs, hk, if_neg (fun h => ?_), setPins_vrs hv]
  · rfl
  · rw [Int.toNat_natCast, getD_some (vrs_get hv)] at h
    rcases h with h | h
    · omega
    · exact h2 h
end
set_option maxRecDepth 100000 in
set_option maxHeartbeats 4000000 in
theorem pin_any (l : List Lv) (S : Option Addr) (cS : Nat) (nx : Int) (num : Int) (w : World) (hT : TbAt w l S cS) (hl : l.length ≤ 1000) (hp : PinsOk l) : Calls Tryd.prog 32 #[.agg (tbs (.slice S l.length cS) nx).toArray, .int .i64 num] w (fun e w' => ∃ l' S' c', e = .returned (.tuple #[.agg (tbs (.slice S' l'.length c') (pinV (vrs l) nx num).2.1).toArray, .int .i64 (pinV (vrs l) nx num).2.2]) ∧ vrs l' = (pinV (vrs l) nx num).1 ∧ TbAt w' l' S' c' ∧ NewT w.heap.size l l' S' ∧ Below w.heap.size w w') := by
 have hS := hT.rd
 have hall := hT.all
 have hm0 := Mem.nil w
 go_enter Tryd.func32, Tryd.ntmps32
 refine litStart 36 [(0, .agg (tbs (.slice S l.length cS) nx).toArray), (1, .int .i64 num)] (by kernel_rfl) (fun X0 => ?_)
 refine wp_seq_k fun K1 hK1 => ?_
 refine plStart ?_
 refine plBox hm0 (cs := tbs (.slice S l.length cS) nx) (i := 0) rfl (wn rfl) rfl (litEv (by kernel_rfl)) ?_
 intro g2 w4 hm3
 clear hm0
 try simp only [List.cons_append, List.nil_append, List.set_cons_succ, List.set_cons_zero] at hm3
 refine qP rfl ?_
 refine plAlloc (z := [.slice none 0 0, .int .i64 0]) Ty.ag_voxel_api_Versions hm3 (i := 1) rfl (wn rfl) rfl ?_
 intro g5 w7 hm6
 clear hm3
 try simp only [List.cons_append, List.nil_append, List.set_cons_succ, List.set_cons_zero] at hm6
 refine qP rfl ?_
 refine lk (v := .int .i64 0) rfl rfl rfl ?_
 refine plD ?_
 refine then_normal (hK1 _ _ ?_)
 refine wp_seq_k fun K8 hK8 => ?_
 refine plStart ?_
 refine litVal (v := .agg (tbs (.slice S l.length cS) nx).toArray) rfl (wn rfl) (gLoadAg (vs := tbs (.slice S l.length cS) nx) (k := 0) 0 hm6 rfl (by kernel_rfl) (by kernel_rfl) (.tmp 2) Ty.ag_voxel_api_Versions rfl (litEv (by kernel_rfl))) rfl (by decide) ?_
 refine lk (v := .int .i64 num) rfl rfl rfl ?_
 refine plCall (i := 2) 58 [.agg (tbs (.slice S l.length cS) nx).toArray, .int .i64 num] [] [] rfl (by kernel_rfl) (wn rfl) rfl (litEv (by kernel_rfl)) (litArgs (by kernel_rfl)) (index_any l S cS nx num _ ((Rd.below hS hm6.bel).more hm6.bel.size) hl) ?_
 rintro e w9 ⟨rfl, hbz⟩
 have hm10 := hm6.below hbz
 clear hbz hm6
 refine ⟨_, rfl, ?_⟩
 refine qP rfl ?_
 refine lk (v := .int .i64 (placeP l num)) rfl rfl rfl ?_
 refine lk (v := .int .i64 0) rfl rfl rfl ?_
 refine plD ?_
 refine then_normal (hK8 _ _ ?_)
 refine wp_seq_k fun K11 hK11 => ?_
 refine wp_seq_k fun K12 hK12 => ?_
 refine plStart ?_
 refine lk (v := .pointer (some ⟨g2, 0, none⟩)) rfl rfl rfl ?_
 refine litVal (v := .slice S l.length cS) rfl (wn rfl) (gLoad (v := .slice S l.length cS) (k := 0) 0 hm10 rfl (by kernel_rfl) (.tmp 13) (by kernel_rfl) rfl (litEv (by kernel_rfl))) rfl (by decide) ?_
 refine litVal (v := .int .i64 (l.length : Int)) rfl (wn rfl) (lenSlRun (A := S) (n := l.length) (c := cS) (.tmp 14) Ty.und_L_api_Version rfl (litEv (by kernel_rfl))) rfl (by decide) ?_
 refine lk (v := .int .i64 0) rfl rfl rfl ?_
 refine plD ?_
 refine then_normal (hK12 _ _ ?_)
 refine wp_block ?_
 refine gwLoop (fun n_ a_ w_ => ∃ (k : Nat), n_ = l.length - k ∧ (k ≤ l.length) ∧ Fr a_ 36 [(2, .pointer (some ⟨g2, 0, none⟩)), (4, .pointer (some ⟨g5, 0, none⟩)), (5, .int .i64 0), (6, .int .i64 (placeP l num)), (7, .int .i64 (pinsP (l.take k))), (14, .slice S l.length cS), (15, .int .i64 (l.length : Int)), (16, .int .i64 (k : Int))] ∧ Mem w w_ [.arr g2 44 (tbs (.slice S l.length cS) nx), .arr g5 44 ([.slice none 0 0, .int .i64 0])]) (l.length - 0) ⟨0, rfl, (Nat.zero_le _), ⟨litSize, rfl, ⟨litGet (by kernel_rfl), ⟨litGet (by kernel_rfl), ⟨litGet (by kernel_rfl), ⟨litGet (by kernel_rfl), ⟨litGet (by kernel_rfl), ⟨litGet (by kernel_rfl), ⟨litGet (by kernel_rfl), ⟨litGet (by kernel_rfl), trivial⟩⟩⟩⟩⟩⟩⟩⟩⟩, (hm10.sub (.cons_cons _ (.cons_cons _ .slnil)))⟩ ?_
 clear hm10
 intro n_ a15 w13 hI_
 obtain ⟨k, rfl, hk, hF_, hm14⟩ := hI_
 obtain ⟨X16, rfl⟩ := frLit hF_
 clear hF_
 refine wp_seq_k fun K17 hK17 => ?_
 refine plStart ?_
 by_cases h18 : (k : Int) < (l.length : Int)
 · obtain ⟨v, hkv⟩ : ∃ v, l[k]? = some v := ⟨_, List.getElem?_eq_getElem (by omega)⟩
   have hpv_ := hp v (List.mem_of_getElem? hkv)
   have hpb_ := pinsP_bd (l := l.take k) (fun u hu => hp u (List.mem_of_mem_take hu))
   have hlt_ : (l.take k).length ≤ 1000 := by rw [List.length_take]; omega
   obtain ⟨b_, o_, rfl, _, _⟩ := hS.cells (by omega)
   refine litVal (v := .bool true) rfl (wn rfl) (boolTo (decide_eq_true h18) (lssRun (A := (k : Int)) (B := (l.length : Int)) (.tmp 16) (.tmp 15) rfl (litEv (by kernel_rfl)) (litEv (by kernel_rfl)))) rfl (by decide) ?_
   refine plD ?_
   refine then_normal (hK17 _ _ ?_)
   refine wp_seq_k fun K19 hK19 => ?_
   refine wp_cond_true (litEv (by kernel_rfl)) ?_
   refine wp_skip ?_
   refine then_normal (hK19 _ _ ?_)
   refine wp_seq_k fun K20 hK20 => ?_
   refine wp_block ?_
   refine wp_seq_k fun K21 hK21 => ?_
   refine plStart ?_
   refine litVal (v := .pointer (some ⟨b_, o_ + k * 6, none⟩)) rfl (wn rfl) (gIaSl (b := b_) (off := o_) (n := l.length) (c := cS) (kk := .i64) (K := (k : Int)) (.tmp 14) (.tmp 16) k Ty.sl_L_api_Version rfl (litEv (by kernel_rfl)) (litEv (by kernel_rfl)) (rfl) (by omega)) rfl (by decide) ?_
   refine litVal (v := .agg (lvc v).toArray) rfl (wn rfl) (gLoadAgRd (vs := lvc v) (m := k * 6) ((Rd.below hS hm14.bel).more hm14.bel.size) rfl (fun i_ u_ hu_ => lvs_get hkv i_ u_ hu_) (by kernel_rfl) (by omega) (.tmp 18) Ty.ag_voxel_api_Version rfl (litEv (by kernel_rfl))) rfl (by decide) ?_
   refine plAlloc (z := [.int .i64 0, .int .i64 0, .int .i64 0, .slice none 0 0, .int .i64 0, .slice none 0 0]) Ty.ag_voxel_api_Version hm14 (i := 2) rfl (wn rfl) rfl ?_
   intro g22 w24 hm23
   clear hm14
   try simp only [List.cons_append, List.nil_append, List.set_cons_succ, List.set_cons_zero] at hm23
   refine qP rfl ?_
   refine plStore 2 Ty.ag_voxel_api_Version hm23 rfl (i := 3) (cs := lvc v) rfl (wn rfl) rfl (litEv (by kernel_rfl)) (litEv (by kernel_rfl)) rfl rfl (by kernel_rfl) ?_
   intro w26 hm25
   clear hm23
   try simp only [List.cons_append, List.nil_append, List.set_cons_succ, List.set_cons_zero] at hm25
   refine qNone rfl ?_
   refine plD ?_
   refine then_normal (hK21 _ _ ?_)
   refine plStart ?_
   refine lk (v := .int .i64 (pinsP (l.take k))) rfl rfl rfl ?_
   refine lk (v := .pointer (some ⟨g22, 1, none⟩)) rfl rfl rfl ?_
   refine litVal (v := .int .i64 v.pins) rfl (wn rfl) (gLoad (v := .int .i64 v.pins) (k := 1) 2 hm25 rfl (by kernel_rfl) (.tmp 21) (by kernel_rfl) rfl (litEv (by kernel_rfl))) rfl (by decide) ?_
   refine litVal (v := .int .i64 (pinsP (l.take (k + 1)))) rfl (wn rfl) (addRun (A := (pinsP (l.take k))) (B := v.pins) (C := pinsP (l.take (k + 1))) (.tmp 20) (.tmp 22) rfl (litEv (by kernel_rfl)) (litEv (by kernel_rfl)) (pinsP_take hkv).symm (by rw [pinsP_take hkv]; omega)) rfl (by decide) ?_
   refine lk (v := .int .i64 (pinsP (l.take (k + 1)))) rfl rfl rfl ?_
   refine plD ?_
   refine inBlock_normal ?_
   refine then_normal (hK20 _ _ ?_)
   refine plStart ?_
   refine litVal (v := .int .i64 ((k : Int) + 1)) rfl (wn rfl) (addRun (A := (k : Int)) (B := 1) (C := (k : Int) + 1) (.tmp 16) (.const (.int .i64 1)) rfl (litEv (by kernel_rfl)) (litEv (by kernel_rfl)) rfl (by omega)) rfl (by decide) ?_
   refine lk (v := .int .i64 ((k : Int) + 1)) rfl rfl rfl ?_
   refine plD ?_
   refine then_normal ?_
   exact ⟨_, by omega, (k + 1), rfl, (by omega), ⟨litSize, rfl, ⟨litGet (by kernel_rfl), ⟨litGet (by kernel_rfl), ⟨litGet (by kernel_rfl), ⟨litGet (by kernel_rfl), ⟨litGet (by kernel_rfl), ⟨litGet (by kernel_rfl), ⟨litGet (by kernel_rfl), ⟨litGet (by kernel_rfl), trivial⟩⟩⟩⟩⟩⟩⟩⟩⟩, (hm25.sub (.cons_cons _ (.cons_cons _ (.cons _ .slnil))))⟩
 have hpt_ : l.take k = l := List.take_of_length_le (by omega)
 rw [hpt_]
 refine litVal (v := .bool false) rfl (wn rfl) (boolTo (decide_eq_false h18) (lssRun (A := (k : Int)) (B := (l.length : Int)) (.tmp 16) (.tmp 15) rfl (litEv (by kernel_rfl)) (litEv (by kernel_rfl)))) rfl (by decide) ?_
 refine plD ?_
 refine then_normal (hK17 _ _ ?_)
 refine wp_seq_k fun K27 hK27 => ?_
 refine wp_cond_false (litEv (by kernel_rfl)) ?_
 refine wp_exit ?_
 refine then_exit ?_
 refine then_exit ?_
 refine inBlock_exit ?_
 refine then_normal (hK11 _ _ ?_)
 refine wp_seq_k fun K28 hK28 => ?_
 refine wp_block ?_
 refine wp_seq_k fun K29 hK29 => ?_
 refine plStart ?_
 refine lk (v := .int .i64 (placeP l num)) rfl rfl rfl ?_
 by_cases h30 : (placeP l num) < 0
 · refine litVal (v := .bool true) rfl (wn rfl) (boolTo (decide_eq_true h30) (lssRun (A := (placeP l num)) (B := 0) (.tmp 26) (.const (.int .i64 0)) rfl (litEv (by kernel_rfl)) (litEv (by kernel_rfl)))) rfl (by decide) ?_
   refine lk (v := .bool true) rfl rfl rfl ?_
   refine plD ?_
   refine then_normal (hK29 _ _ ?_)
   refine wp_cond_true (litEv (by kernel_rfl)) ?_
   refine wp_seq_k fun K31 hK31 => ?_
   refine plStart ?_
   refine lk (v := .agg ([.slice none 0 0, .int .i64 0]).toArray) rfl rfl rfl ?_
   refine plStore 1 Ty.ag_voxel_api_Versions hm14 rfl (i := 1) (cs := [.slice none 0 0, .int .i64 0]) rfl (wn rfl) rfl (litEv (by kernel_rfl)) (litEv (by kernel_rfl)) rfl rfl (by kernel_rfl) ?_
   intro w33 hm32
   clear hm14
   try simp only [List.cons_append, List.nil_append, List.set_cons_succ, List.set_cons_zero] at hm32
   refine qNone rfl ?_
   refine lk (v := .int .i64 9) rfl rfl rfl ?_
   refine plD ?_
   refine then_normal (hK31 _ _ ?_)
   refine wp_ret ?_
   refine inBlock_ret ?_
   refine then_ret ?_
   refine bodyPost_ret (v := .tuple #[.agg ([.slice none 0 0, .int .i64 0]).toArray, .int .i64 9]) (gRes2 rfl (gResAg (cs := [.slice none 0 0, .int .i64 0]) 1 hm32 rfl Ty.ag_voxel_api_Versions rfl (litGet (by kernel_rfl))) (gResTmp (t := 5) (v := .int .i64 9) (litGet (by kernel_rfl)))) rfl ?_
   have hfin_ := pinV_none (nx := nx) h30
   exact ⟨[], none, 0, by rw [hfin_]; rfl, by rw [hfin_]; rfl, TbAt.nil _, NewT.nil _ _, hm32.bel⟩
 obtain ⟨k, v, hk_, hkv, _⟩ : ∃ (i : Nat) (v : Lv), placeP l num = (i : Int) ∧ l[i]? = some v ∧ v.num = num := by
   rcases placeP_spec num l with h_ | h_
   · exact absurd h_.1 (by omega)
   · exact h_
 have hkl_ := (List.getElem?_eq_some_iff.1 hkv).1
 have hpv_ := hp v (List.mem_of_getElem? hkv)
 refine litVal (v := .bool false) rfl (wn rfl) (boolTo (decide_eq_false h30) (lssRun (A := (placeP l num)) (B := 0) (.tmp 26) (.const (.int .i64 0)) rfl (litEv (by kernel_rfl)) (litEv (by kernel_rfl)))) rfl (by decide) ?_
 refine lk (v := .bool false) rfl rfl rfl ?_
 refine plD ?_
 refine then_normal (hK29 _ _ ?_)
 refine wp_cond_false (litEv (by kernel_rfl)) ?_
 refine wp_seq_k fun K34 hK34 => ?_
 refine plStart ?_
 refine lk (v := .int .i64 (pinsP l)) rfl rfl rfl ?_
 by_cases h35 : 64 ≤ (pinsP l)
 · refine litVal (v := .bool true) rfl (wn rfl) (boolTo (decide_eq_true h35) (gGeq (A := (pinsP l)) (B := 64) (.tmp 30) (.const (.int .i64 64)) rfl (litEv (by kernel_rfl)) (litEv (by kernel_rfl)))) rfl (by decide) ?_
   refine lk (v := .bool true) rfl rfl rfl ?_
   refine plD ?_
   refine then_normal (hK34 _ _ ?_)
   refine wp_cond_true (litEv (by kernel_rfl)) ?_
   refine wp_seq_k fun K36 hK36 => ?_
   refine plStart ?_
   refine lk (v := .agg ([.slice none 0 0, .int .i64 0]).toArray) rfl rfl rfl ?_
   refine plStore 1 Ty.ag_voxel_api_Versions hm14 rfl (i := 1) (cs := [.slice none 0 0, .int .i64 0]) rfl (wn rfl) rfl (litEv (by kernel_rfl)) (litEv (by kernel_rfl)) rfl rfl (by kernel_rfl) ?_
   intro w38 hm37
   clear hm14
   try simp only [List.cons_append, List.nil_append, List.set_cons_succ, List.set_cons_zero] at hm37
   refine qNone rfl ?_
   refine lk (v := .int .i64 18) rfl rfl rfl ?_
   refine plD ?_
   refine then_normal (hK36 _ _ ?_)
   refine wpPrune [(2, .pointer (some ⟨g2, 0, none⟩)), (4, .pointer (some ⟨g5, 0, none⟩)), (5, .int .i64 18), (6, .int .i64 (placeP l num))] ⟨litGet (by kernel_rfl), ⟨litGet (by kernel_rfl), ⟨litGet (by kernel_rfl), ⟨litGet (by kernel_rfl), trivial⟩⟩⟩⟩ (fun X39 => ?_)
   refine wp_ret ?_
   refine inBlock_ret ?_
   refine then_ret ?_
   refine bodyPost_ret (v := .tuple #[.agg ([.slice none 0 0, .int .i64 0]).toArray, .int .i64 18]) (gRes2 rfl (gResAg (cs := [.slice none 0 0, .int .i64 0]) 1 hm37 rfl Ty.ag_voxel_api_Versions rfl (litGet (by kernel_rfl))) (gResTmp (t := 5) (v := .int .i64 18) (litGet (by kernel_rfl)))) rfl ?_
   have hfin_ := pinV_full (nx := nx) h30 h35
   exact ⟨[], none, 0, by rw [hfin_]; rfl, by rw [hfin_]; rfl, TbAt.nil _, NewT.nil _ _, hm37.bel⟩
 refine litVal (v := .bool false) rfl (wn rfl) (boolTo (decide_eq_false h35) (gGeq (A := (pinsP l)) (B := 64) (.tmp 30) (.const (.int .i64 64)) rfl (litEv (by kernel_rfl)) (litEv (by kernel_rfl)))) rfl (by decide) ?_
 refine lk (v := .bool false) rfl rfl rfl ?_
 refine plD ?_
 refine then_normal (hK34 _ _ ?_)
 refine wp_cond_false (litEv (by kernel_rfl)) ?_
 refine wp_skip ?_
 refine inBlock_normal ?_
 refine then_normal (hK28 _ _ ?_)
 refine wp_seq_k fun K40 hK40 => ?_
 refine plStart ?_
 refine litVal (v := .agg (tbs (.slice S l.length cS) nx).toArray) rfl (wn rfl) (gLoadAg (vs := tbs (.slice S l.length cS) nx) (k := 0) 0 hm14 rfl (by kernel_rfl) (by kernel_rfl) (.tmp 2) Ty.ag_voxel_api_Versions rfl (litEv (by kernel_rfl))) rfl (by decide) ?_
 refine lk (v := .int .i64 (placeP l num)) rfl rfl rfl ?_
 refine plCall (i := 2) 63 [.agg (tbs (.slice S l.length cS) nx).toArray, .int .i64 (placeP l num), .int .i64 1] [] [] rfl (by kernel_rfl) (wn rfl) rfl (litEv (by kernel_rfl)) (litArgs (by kernel_rfl)) (by have h_ := move_any l S cS nx k v 1 _ (hT.below hm14.bel) hl hkv hpv_ (by decide); rw [← hk_] at h_; exact h_) ?_
 rintro e w41 ⟨S43, c44, rfl, hT_, hN_, hbz⟩
 have hm42 := hm14.newRd hbz hT_.rd hN_.s
 replace hN_ := hN_.mono hm14.bel.size
 clear hbz hT_
 clear hm14
 try simp only [List.cons_append, List.nil_append, List.set_cons_succ, List.set_cons_zero] at hm42
 refine ⟨_, rfl, ?_⟩
 refine qP rfl ?_
 refine plStore 1 Ty.ag_voxel_api_Versions hm42 rfl (i := 3) (cs := tbs (.slice S43 ((l.set k { v with pins := v.pins + 1 }).length) c44) nx) rfl (wn rfl) rfl (litEv (by kernel_rfl)) (litEv (by kernel_rfl)) rfl rfl (by kernel_rfl) ?_
 intro w46 hm45
 clear hm42
 try simp only [List.cons_append, List.nil_append, List.set_cons_succ, List.set_cons_zero] at hm45
 refine qNone rfl ?_
 refine lk (v := .int .i64 0) rfl rfl rfl ?_
 refine plD ?_
 refine then_normal (hK40 _ _ ?_)
 refine wpPrune [(4, .pointer (some ⟨g5, 0, none⟩)), (5, .int .i64 0)] ⟨litGet (by kernel_rfl), ⟨litGet (by kernel_rfl), trivial⟩⟩ (fun X47 => ?_)
 refine wp_ret ?_
 refine bodyPost_ret (v := .tuple #[.agg (tbs (.slice S43 ((l.set k { v with pins := v.pins + 1 }).length) c44) nx).toArray, .int .i64 0]) (gRes2 rfl (gResAg (cs := tbs (.slice S43 ((l.set k { v with pins := v.pins + 1 }).length) c44) nx) 1 hm45 rfl Ty.ag_voxel_api_Versions rfl (litGet (by kernel_rfl))) (gResTmp (t := 5) (v := .int .i64 0) (litGet (by kernel_rfl)))) rfl ?_
 have hfin_ := pinV_yes (nx := nx) hk_ hkv h35
 exact ⟨l.set k { v with pins := v.pins + 1 }, S43, c44, by first | (rw [hfin_]; done) | (rw [hfin_]; rfl), by first | (rw [hfin_]; done) | (rw [hfin_]; rfl), ⟨hm45.rd 2 rfl, (AllAt.set hall hkv _).below hm45.bel⟩, hN_, hm45.bel⟩
set_option maxRecDepth 100000 in
set_option maxHeartbeats 4000000 in
theorem rpin_any (l : List Lv) (S : Option Addr) (cS : Nat) (nx : Int) (num : Int) (w : World) (hT : TbAt w l S cS) (hl : l.length ≤ 1000) (hp : PinsOk l) : Calls Tryd.prog 55 #[.agg (tbs (.slice S l.length cS) nx).toArray, .int .i64 num] w (fun e w' => ∃ l' S' c', e = .returned (.tuple #[.agg (tbs (.slice S' l'.length c') (pinV (vrs l) nx num).2.1).toArray, .int .i64 (pinV (vrs l) nx num).2.2]) ∧ vrs l' = (pinV (vrs l) nx num).1 ∧ TbAt w' l' S' c' ∧ NewT w.heap.size l l' S' ∧ Below w.heap.size w w') := by
 have hS := hT.rd
 have hall := hT.all
 have hm0 := Mem.nil w
 go_enter Tryd.func55, Tryd.ntmps55
 refine litStart 20 [(0, .agg (tbs (.slice S l.length cS) nx).toArray), (1, .int .i64 num)] (by kernel_rfl) (fun X0 => ?_)
 refine wp_seq_k fun K1 hK1 => ?_
 refine plStart ?_
 refine plBox hm0 (cs := tbs (.slice S l.length cS) nx) (i := 0) rfl (wn rfl) rfl (litEv (by kernel_rfl)) ?_
 intro g2 w4 hm3
 clear hm0
 try simp only [List.cons_append, List.nil_append, List.set_cons_succ, List.set_cons_zero] at hm3
 refine qP rfl ?_
 refine plAlloc (z := [.slice none 0 0, .int .i64 0]) Ty.ag_voxel_api_Versions hm3 (i := 1) rfl (wn rfl) rfl ?_
 intro g5 w7 hm6
 clear hm3
 try simp only [List.cons_append, List.nil_append, List.set_cons_succ, List.set_cons_zero] at hm6
 refine qP rfl ?_
 refine lk (v := .int .i64 0) rfl rfl rfl ?_
 refine plD ?_
 refine then_normal (hK1 _ _ ?_)
 refine wp_seq_k fun K8 hK8 => ?_
 refine plStart ?_
 refine litVal (v := .agg (tbs (.slice S l.length cS) nx).toArray) rfl (wn rfl) (gLoadAg (vs := tbs (.slice S l.length cS) nx) (k := 0) 0 hm6 rfl (by kernel_rfl) (by kernel_rfl) (.tmp 2) Ty.ag_voxel_api_Versions rfl (litEv (by kernel_rfl))) rfl (by decide) ?_
 refine lk (v := .int .i64 num) rfl rfl rfl ?_
 refine plCall (i := 2) 61 [.agg (tbs (.slice S l.length cS) nx).toArray, .int .i64 num] [] [] rfl (by kernel_rfl) (wn rfl) rfl (litEv (by kernel_rfl)) (litArgs (by kernel_rfl)) (place_any l S cS nx num _ ((Rd.below hS hm6.bel).more hm6.bel.size) hl) ?_
 rintro e w9 ⟨rfl, hbz⟩
 have hm10 := hm6.below hbz
 clear hbz hm6
 refine ⟨_, rfl, ?_⟩
 refine qP rfl ?_
 refine lk (v := .int .i64 (placeP l num)) rfl rfl rfl ?_
 refine plD ?_
 refine then_normal (hK8 _ _ ?_)
 refine wp_seq_k fun K11 hK11 => ?_
 refine wp_seq_k fun K12 hK12 => ?_
 refine plStart ?_
 refine lk (v := .int .i64 (placeP l num)) rfl rfl rfl ?_
 by_cases h13 : (placeP l num) < 0
 · refine litVal (v := .bool true) rfl (wn rfl) (boolTo (decide_eq_true h13) (lssRun (A := (placeP l num)) (B := 0) (.tmp 10) (.const (.int .i64 0)) rfl (litEv (by kernel_rfl)) (litEv (by kernel_rfl)))) rfl (by decide) ?_
   refine plD ?_
   refine then_normal (hK12 _ _ ?_)
   refine wp_cond_true (litEv (by kernel_rfl)) ?_
   refine wp_seq_k fun K14 hK14 => ?_
   refine plStart ?_
   refine lk (v := .agg ([.slice none 0 0, .int .i64 0]).toArray) rfl rfl rfl ?_
   refine plStore 1 Ty.ag_voxel_api_Versions hm10 rfl (i := 1) (cs := [.slice none 0 0, .int .i64 0]) rfl (wn rfl) rfl (litEv (by kernel_rfl)) (litEv (by kernel_rfl)) rfl rfl (by kernel_rfl) ?_
   intro w16 hm15
   clear hm10
   try simp only [List.cons_append, List.nil_append, List.set_cons_succ, List.set_cons_zero] at hm15
   refine qNone rfl ?_
   refine lk (v := .int .i64 9) rfl rfl rfl ?_
   refine plD ?_
   refine then_normal (hK14 _ _ ?_)
   refine wp_ret ?_
   refine then_ret ?_
   refine bodyPost_ret (v := .tuple #[.agg ([.slice none 0 0, .int .i64 0]).toArray, .int .i64 9]) (gRes2 rfl (gResAg (cs := [.slice none 0 0, .int .i64 0]) 1 hm15 rfl Ty.ag_voxel_api_Versions rfl (litGet (by kernel_rfl))) (gResTmp (t := 5) (v := .int .i64 9) (litGet (by kernel_rfl)))) rfl ?_
   have hfin_ := pinV_none (nx := nx) h13
   exact ⟨[], none, 0, by rw [hfin_]; rfl, by rw [hfin_]; rfl, TbAt.nil _, NewT.nil _ _, hm15.bel⟩
 obtain ⟨k, v, hk_, hkv, _⟩ : ∃ (i : Nat) (v : Lv), placeP l num = (i : Int) ∧ l[i]? = some v ∧ v.num = num := by
   rcases placeP_spec num l with h_ | h_
   · exact absurd h_.1 (by omega)
   · exact h_
 have hkl_ := (List.getElem?_eq_some_iff.1 hkv).1
 have hpv_ := hp v (List.mem_of_getElem? hkv)
 refine litVal (v := .bool false) rfl (wn rfl) (boolTo (decide_eq_false h13) (lssRun (A := (placeP l num)) (B := 0) (.tmp 10) (.const (.int .i64 0)) rfl (litEv (by kernel_rfl)) (litEv (by kernel_rfl)))) rfl (by decide) ?_
 refine plD ?_
 refine then_normal (hK12 _ _ ?_)
 refine wp_cond_false (litEv (by kernel_rfl)) ?_
 refine wp_skip ?_
 refine then_normal (hK11 _ _ ?_)
 refine wp_seq_k fun K17 hK17 => ?_
 refine wp_seq_k fun K18 hK18 => ?_
 refine plStart ?_
 refine litVal (v := .agg (tbs (.slice S l.length cS) nx).toArray) rfl (wn rfl) (gLoadAg (vs := tbs (.slice S l.length cS) nx) (k := 0) 0 hm10 rfl (by kernel_rfl) (by kernel_rfl) (.tmp 2) Ty.ag_voxel_api_Versions rfl (litEv (by kernel_rfl))) rfl (by decide) ?_
 refine plCall (i := 1) 85 [.agg (tbs (.slice S l.length cS) nx).toArray] [] [] rfl (by kernel_rfl) (wn rfl) rfl (litEv (by kernel_rfl)) (litArgs (by kernel_rfl)) (rpins_any l S cS nx _ ((Rd.below hS hm10.bel).more hm10.bel.size) hl hp) ?_
 rintro e w19 ⟨rfl, hbz⟩
 have hm20 := hm10.below hbz
 clear hbz hm10
 refine ⟨_, rfl, ?_⟩
 refine qP rfl ?_
 by_cases h21 : 64 ≤ (pinsP l)
 · refine litVal (v := .bool true) rfl (wn rfl) (boolTo (decide_eq_true h21) (gGeq (A := (pinsP l)) (B := 64) (.tmp 14) (.const (.int .i64 64)) rfl (litEv (by kernel_rfl)) (litEv (by kernel_rfl)))) rfl (by decide) ?_
   refine plD ?_
   refine then_normal (hK18 _ _ ?_)
   refine wp_cond_true (litEv (by kernel_rfl)) ?_
   refine wp_seq_k fun K22 hK22 => ?_
   refine plStart ?_
   refine lk (v := .agg ([.slice none 0 0, .int .i64 0]).toArray) rfl rfl rfl ?_
   refine plStore 1 Ty.ag_voxel_api_Versions hm20 rfl (i := 1) (cs := [.slice none 0 0, .int .i64 0]) rfl (wn rfl) rfl (litEv (by kernel_rfl)) (litEv (by kernel_rfl)) rfl rfl (by kernel_rfl) ?_
   intro w24 hm23
   clear hm20
   try simp only [List.cons_append, List.nil_append, List.set_cons_succ, List.set_cons_zero] at hm23
   refine qNone rfl ?_
   refine lk (v := .int .i64 18) rfl rfl rfl ?_
   refine plD ?_
   refine then_normal (hK22 _ _ ?_)
   refine wp_ret ?_
   refine then_ret ?_
   refine bodyPost_ret (v := .tuple #[.agg ([.slice none 0 0, .int .i64 0]).toArray, .int .i64 18]) (gRes2 rfl (gResAg (cs := [.slice none 0 0, .int .i64 0]) 1 hm23 rfl Ty.ag_voxel_api_Versions rfl (litGet (by kernel_rfl))) (gResTmp (t := 5) (v := .int .i64 18) (litGet (by kernel_rfl)))) rfl ?_
   have hfin_ := pinV_full (nx := nx) h13 h21
   exact ⟨[], none, 0, by rw [hfin_]; rfl, by rw [hfin_]; rfl, TbAt.nil _, NewT.nil _ _, hm23.bel⟩
 refine litVal (v := .bool false) rfl (wn rfl) (boolTo (decide_eq_false h21) (gGeq (A := (pinsP l)) (B := 64) (.tmp 14) (.const (.int .i64 64)) rfl (litEv (by kernel_rfl)) (litEv (by kernel_rfl)))) rfl (by decide) ?_
 refine plD ?_
 refine then_normal (hK18 _ _ ?_)
 refine wp_cond_false (litEv (by kernel_rfl)) ?_
 refine wp_skip ?_
 refine then_normal (hK17 _ _ ?_)
 refine wp_seq_k fun K25 hK25 => ?_
 refine plStart ?_
 refine litVal (v := .agg (tbs (.slice S l.length cS) nx).toArray) rfl (wn rfl) (gLoadAg (vs := tbs (.slice S l.length cS) nx) (k := 0) 0 hm20 rfl (by kernel_rfl) (by kernel_rfl) (.tmp 2) Ty.ag_voxel_api_Versions rfl (litEv (by kernel_rfl))) rfl (by decide) ?_
 refine lk (v := .int .i64 (placeP l num)) rfl rfl rfl ?_
 refine plCall (i := 2) 86 [.agg (tbs (.slice S l.length cS) nx).toArray, .int .i64 (placeP l num), .int .i64 1] [] [] rfl (by kernel_rfl) (wn rfl) rfl (litEv (by kernel_rfl)) (litArgs (by kernel_rfl)) (by have h_ := moved_any l S cS nx k v 1 _ (hT.below hm20.bel) hl hkv hpv_ (by decide); rw [← hk_] at h_; exact h_) ?_
 rintro e w26 ⟨S28, c29, rfl, hT_, hN_, hbz⟩
 have hm27 := hm20.newRd hbz hT_.rd hN_.s
 replace hN_ := hN_.mono hm20.bel.size
 clear hbz hT_
 clear hm20
 try simp only [List.cons_append, List.nil_append, List.set_cons_succ, List.set_cons_zero] at hm27
 refine ⟨_, rfl, ?_⟩
 refine qP rfl ?_
 refine plStore 1 Ty.ag_voxel_api_Versions hm27 rfl (i := 3) (cs := tbs (.slice S28 ((l.set k { v with pins := v.pins + 1 }).length) c29) nx) rfl (wn rfl) rfl (litEv (by kernel_rfl)) (litEv (by kernel_rfl)) rfl rfl (by kernel_rfl) ?_
 intro w31 hm30
 clear hm27
 try simp only [List.cons_append, List.nil_append, List.set_cons_succ, List.set_cons_zero] at hm30
 refine qNone rfl ?_
 refine lk (v := .int .i64 0) rfl rfl rfl ?_
 refine plD ?_
 refine then_normal (hK25 _ _ ?_)
 refine wpPrune [(4, .pointer (some ⟨g5, 0, none⟩)), (5, .int .i64 0)] ⟨litGet (by kernel_rfl), ⟨litGet (by kernel_rfl), trivial⟩⟩ (fun X32 => ?_)
 refine wp_ret ?_
 refine bodyPost_ret (v := .tuple #[.agg (tbs (.slice S28 ((l.set k { v with pins := v.pins + 1 }).length) c29) nx).toArray, .int .i64 0]) (gRes2 rfl (gResAg (cs := tbs (.slice S28 ((l.set k { v with pins := v.pins + 1 }).length) c29) nx) 1 hm30 rfl Ty.ag_voxel_api_Versions rfl (litGet (by kernel_rfl))) (gResTmp (t := 5) (v := .int .i64 0) (litGet (by kernel_rfl)))) rfl ?_
 have hfin_ := pinV_yes (nx := nx) hk_ hkv h21
 exact ⟨l.set k { v with pins := v.pins + 1 }, S28, c29, by first | (rw [hfin_]; done) | (rw [hfin_]; rfl), by first | (rw [hfin_]; done) | (rw [hfin_]; rfl), ⟨hm30.rd 2 rfl, (AllAt.set hall hkv _).below hm30.bel⟩, hN_, hm30.bel⟩
set_option maxRecDepth 100000 in
set_option maxHeartbeats 4000000 in
theorem unpin_any (l : List Lv) (S : Option Addr) (cS : Nat) (nx : Int) (num : Int) (w : World) (hT : TbAt w l S cS) (hl : l.length ≤ 1000) (hp : PinsOk l) : Calls Tryd.prog 34 #[.agg (tbs (.slice S l.length cS) nx).toArray, .int .i64 num] w (fun e w' => ∃ l' S' c', e = .returned (.tuple #[.agg (tbs (.slice S' l'.length c') (unpinV (vrs l) nx num).2.1).toArray, .int .i64 (unpinV (vrs l) nx num).2.2]) ∧ vrs l' = (unpinV (vrs l) nx num).1 ∧ TbAt w' l' S' c' ∧ NewT w.heap.size l l' S' ∧ Below w.heap.size w w') := by
 have hS := hT.rd
 have hall := hT.all
 have hm0 := Mem.nil w
 go_enter Tryd.func34, Tryd.ntmps34
 refine litStart 25 [(0, .agg (tbs (.slice S l.length cS) nx).toArray), (1, .int .i64 num)] (by kernel_rfl) (fun X0 => ?_)
 refine wp_seq_k fun K1 hK1 => ?_
 refine plStart ?_
 refine plBox hm0 (cs := tbs (.slice S l.length cS) nx) (i := 0) rfl (wn rfl) rfl (litEv (by kernel_rfl)) ?_
 intro g2 w4 hm3
 clear hm0
 try simp only [List.cons_append, List.nil_append, List.set_cons_succ, List.set_cons_zero] at hm3
 refine qP rfl ?_
 refine plAlloc (z := [.slice none 0 0, .int .i64 0]) Ty.ag_voxel_api_Versions hm3 (i := 1) rfl (wn rfl) rfl ?_
 intro g5 w7 hm6
 clear hm3
 try simp only [List.cons_append, List.nil_append, List.set_cons_succ, List.set_cons_zero] at hm6
 refine qP rfl ?_
 refine lk (v := .int .i64 0) rfl rfl rfl ?_
 refine plD ?_
 refine then_normal (hK1 _ _ ?_)
 refine wp_seq_k fun K8 hK8 => ?_
 refine plStart ?_
 refine litVal (v := .agg (tbs (.slice S l.length cS) nx).toArray) rfl (wn rfl) (gLoadAg (vs := tbs (.slice S l.length cS) nx) (k := 0) 0 hm6 rfl (by kernel_rfl) (by kernel_rfl) (.tmp 2) Ty.ag_voxel_api_Versions rfl (litEv (by kernel_rfl))) rfl (by decide) ?_
 refine lk (v := .int .i64 num) rfl rfl rfl ?_
 refine plCall (i := 2) 58 [.agg (tbs (.slice S l.length cS) nx).toArray, .int .i64 num] [] [] rfl (by kernel_rfl) (wn rfl) rfl (litEv (by kernel_rfl)) (litArgs (by kernel_rfl)) (index_any l S cS nx num _ ((Rd.below hS hm6.bel).more hm6.bel.size) hl) ?_
 rintro e w9 ⟨rfl, hbz⟩
 have hm10 := hm6.below hbz
 clear hbz hm6
 refine ⟨_, rfl, ?_⟩
 refine qP rfl ?_
 refine lk (v := .int .i64 (placeP l num)) rfl rfl rfl ?_
 refine plD ?_
 refine then_normal (hK8 _ _ ?_)
 refine wp_seq_k fun K11 hK11 => ?_
 refine wp_seq_k fun K12 hK12 => ?_
 refine plStart ?_
 refine lk (v := .int .i64 (placeP l num)) rfl rfl rfl ?_
 by_cases h13 : (placeP l num) < 0
 · refine litVal (v := .bool true) rfl (wn rfl) (boolTo (decide_eq_true h13) (lssRun (A := (placeP l num)) (B := 0) (.tmp 10) (.const (.int .i64 0)) rfl (litEv (by kernel_rfl)) (litEv (by kernel_rfl)))) rfl (by decide) ?_
   refine lk (v := .bool true) rfl rfl rfl ?_
   refine plSkip (i := 3) rfl (wgN rfl rfl rfl (by decide) (by kernel_rfl)) ?_
   refine qP rfl ?_
   refine plSkip (i := 4) rfl (wgN rfl rfl rfl (by decide) (by kernel_rfl)) ?_
   refine qP rfl ?_
   refine plSkip (i := 5) rfl (wgN rfl rfl rfl (by decide) (by kernel_rfl)) ?_
   refine qP rfl ?_
   refine plSkip (i := 6) rfl (wgN rfl rfl rfl (by decide) (by kernel_rfl)) ?_
   refine qP rfl ?_
   refine plSkip (i := 7) rfl (wgN rfl rfl rfl (by decide) (by kernel_rfl)) ?_
   refine qP rfl ?_
   refine plSkip (i := 8) rfl (wgN rfl rfl rfl (by decide) (by kernel_rfl)) ?_
   refine qP rfl ?_
   refine plSkip (i := 9) rfl (wgN rfl rfl rfl (by decide) (by kernel_rfl)) ?_
   refine qP rfl ?_
   refine lk (v := .bool true) rfl rfl rfl ?_
   refine plD ?_
   refine then_normal (hK12 _ _ ?_)
   refine wpPrune [(2, .pointer (some ⟨g2, 0, none⟩)), (4, .pointer (some ⟨g5, 0, none⟩)), (5, .int .i64 0), (6, .int .i64 (placeP l num)), (20, .bool true)] ⟨litGet (by kernel_rfl), ⟨litGet (by kernel_rfl), ⟨litGet (by kernel_rfl), ⟨litGet (by kernel_rfl), ⟨litGet (by kernel_rfl), trivial⟩⟩⟩⟩⟩ (fun X14 => ?_)
   refine wp_cond_true (litEv (by kernel_rfl)) ?_
   refine wp_seq_k fun K15 hK15 => ?_
   refine plStart ?_
   refine lk (v := .agg ([.slice none 0 0, .int .i64 0]).toArray) rfl rfl rfl ?_
   refine plStore 1 Ty.ag_voxel_api_Versions hm10 rfl (i := 1) (cs := [.slice none 0 0, .int .i64 0]) rfl (wn rfl) rfl (litEv (by kernel_rfl)) (litEv (by kernel_rfl)) rfl rfl (by kernel_rfl) ?_
   intro w17 hm16
   clear hm10
   try simp only [List.cons_append, List.nil_append, List.set_cons_succ, List.set_cons_zero] at hm16
   refine qNone rfl ?_
   refine lk (v := .int .i64 9) rfl rfl rfl ?_
   refine plD ?_
   refine then_normal (hK15 _ _ ?_)
   refine wp_ret ?_
   refine then_ret ?_
   refine bodyPost_ret (v := .tuple #[.agg ([.slice none 0 0, .int .i64 0]).toArray, .int .i64 9]) (gRes2 rfl (gResAg (cs := [.slice none 0 0, .int .i64 0]) 1 hm16 rfl Ty.ag_voxel_api_Versions rfl (litGet (by kernel_rfl))) (gResTmp (t := 5) (v := .int .i64 9) (litGet (by kernel_rfl)))) rfl ?_
   have hfin_ := unpinV_none (nx := nx) h13
   exact ⟨[], none, 0, by rw [hfin_]; rfl, by rw [hfin_]; rfl, TbAt.nil _, NewT.nil _ _, hm16.bel⟩
 obtain ⟨k, v, hk_, hkv, _⟩ : ∃ (i : Nat) (v : Lv), placeP l num = (i : Int) ∧ l[i]? = some v ∧ v.num = num := by
   rcases placeP_spec num l with h_ | h_
   · exact absurd h_.1 (by omega)
   · exact h_
 have hkl_ := (List.getElem?_eq_some_iff.1 hkv).1
 have hpv_ := hp v (List.mem_of_getElem? hkv)
 obtain ⟨b_, o_, rfl, _, _⟩ := hS.cells (by omega)
 refine litVal (v := .bool false) rfl (wn rfl) (boolTo (decide_eq_false h13) (lssRun (A := (placeP l num)) (B := 0) (.tmp 10) (.const (.int .i64 0)) rfl (litEv (by kernel_rfl)) (litEv (by kernel_rfl)))) rfl (by decide) ?_
 refine lk (v := .bool false) rfl rfl rfl ?_
 refine litVal (v := .pointer (some ⟨g2, 0, none⟩)) rfl (wgY rfl rfl rfl (by decide) (by kernel_rfl)) (litRun (by kernel_rfl)) rfl (by decide) ?_
 refine litVal (v := .slice (some ⟨b_, o_, none⟩) l.length cS) rfl (wgY rfl rfl rfl (by decide) (by kernel_rfl)) (gLoad (v := .slice (some ⟨b_, o_, none⟩) l.length cS) (k := 0) 0 hm10 rfl (by kernel_rfl) (.tmp 13) (by kernel_rfl) rfl (litEv (by kernel_rfl))) rfl (by decide) ?_
 refine litVal (v := .int .i64 (placeP l num)) rfl (wgY rfl rfl rfl (by decide) (by kernel_rfl)) (litRun (by kernel_rfl)) rfl (by decide) ?_
 refine litVal (v := .pointer (some ⟨b_, o_ + k * 6, none⟩)) rfl (wgY rfl rfl rfl (by decide) (by kernel_rfl)) (gIaSl (b := b_) (off := o_) (n := l.length) (c := cS) (kk := .i64) (K := (placeP l num)) (.tmp 14) (.tmp 15) k Ty.sl_L_api_Version rfl (litEv (by kernel_rfl)) (litEv (by kernel_rfl)) (hk_) (hkl_)) rfl (by decide) ?_
 refine litVal (v := .pointer (some ⟨b_, o_ + k * 6 + 1, none⟩)) rfl (wgY rfl rfl rfl (by decide) (by kernel_rfl)) (litRun (by kernel_rfl)) rfl (by decide) ?_
 refine litVal (v := .int .i64 v.pins) rfl (wgY rfl rfl rfl (by decide) (by kernel_rfl)) (gLoadRd (v := .int .i64 v.pins) (m := k * 6 + 1) ((Rd.below hS hm10.bel).more hm10.bel.size) rfl (lvs_get hkv 1 _ rfl) (by omega) (.tmp 17) (by kernel_rfl) rfl (litEv (by kernel_rfl))) rfl (by decide) ?_
 by_cases h18 : v.pins = 0
 · refine litVal (v := .bool true) rfl (wgY rfl rfl rfl (by decide) (by kernel_rfl)) (boolTo (decide_eq_true h18) (eqlRun (A := v.pins) (B := 0) (.tmp 18) (.const (.int .i64 0)) rfl (litEv (by kernel_rfl)) (litEv (by kernel_rfl)))) rfl (by decide) ?_
   refine lk (v := .bool true) rfl rfl rfl ?_
   refine plD ?_
   refine then_normal (hK12 _ _ ?_)
   refine wpPrune [(2, .pointer (some ⟨g2, 0, none⟩)), (4, .pointer (some ⟨g5, 0, none⟩)), (5, .int .i64 0), (6, .int .i64 (placeP l num)), (20, .bool true)] ⟨litGet (by kernel_rfl), ⟨litGet (by kernel_rfl), ⟨litGet (by kernel_rfl), ⟨litGet (by kernel_rfl), ⟨litGet (by kernel_rfl), trivial⟩⟩⟩⟩⟩ (fun X19 => ?_)
   refine wp_cond_true (litEv (by kernel_rfl)) ?_
   refine wp_seq_k fun K20 hK20 => ?_
   refine plStart ?_
   refine lk (v := .agg ([.slice none 0 0, .int .i64 0]).toArray) rfl rfl rfl ?_
   refine plStore 1 Ty.ag_voxel_api_Versions hm10 rfl (i := 1) (cs := [.slice none 0 0, .int .i64 0]) rfl (wn rfl) rfl (litEv (by kernel_rfl)) (litEv (by kernel_rfl)) rfl rfl (by kernel_rfl) ?_
   intro w22 hm21
   clear hm10
   try simp only [List.cons_append, List.nil_append, List.set_cons_succ, List.set_cons_zero] at hm21
   refine qNone rfl ?_
   refine lk (v := .int .i64 9) rfl rfl rfl ?_
   refine plD ?_
   refine then_normal (hK20 _ _ ?_)
   refine wp_ret ?_
   refine then_ret ?_
   refine bodyPost_ret (v := .tuple #[.agg ([.slice none 0 0, .int .i64 0]).toArray, .int .i64 9]) (gRes2 rfl (gResAg (cs := [.slice none 0 0, .int .i64 0]) 1 hm21 rfl Ty.ag_voxel_api_Versions rfl (litGet (by kernel_rfl))) (gResTmp (t := 5) (v := .int .i64 9) (litGet (by kernel_rfl)))) rfl ?_
   have hfin_ := unpinV_zero (nx := nx) hk_ hkv h18
   exact ⟨[], none, 0, by rw [hfin_]; rfl, by rw [hfin_]; rfl, TbAt.nil _, NewT.nil _ _, hm21.bel⟩
 refine litVal (v := .bool false) rfl (wgY rfl rfl rfl (by decide) (by kernel_rfl)) (boolTo (decide_eq_false h18) (eqlRun (A := v.pins) (B := 0) (.tmp 18) (.const (.int .i64 0)) rfl (litEv (by kernel_rfl)) (litEv (by kernel_rfl)))) rfl (by decide) ?_
 refine lk (v := .bool false) rfl rfl rfl ?_
 refine plD ?_
 refine then_normal (hK12 _ _ ?_)
 refine wpPrune [(2, .pointer (some ⟨g2, 0, none⟩)), (4, .pointer (some ⟨g5, 0, none⟩)), (5, .int .i64 0), (6, .int .i64 (placeP l num)), (20, .bool false)] ⟨litGet (by kernel_rfl), ⟨litGet (by kernel_rfl), ⟨litGet (by kernel_rfl), ⟨litGet (by kernel_rfl), ⟨litGet (by kernel_rfl), trivial⟩⟩⟩⟩⟩ (fun X23 => ?_)
 refine wp_cond_false (litEv (by kernel_rfl)) ?_
 refine wp_skip ?_
 refine then_normal (hK11 _ _ ?_)
 refine wp_seq_k fun K24 hK24 => ?_
 refine plStart ?_
 refine litVal (v := .agg (tbs (.slice (some ⟨b_, o_, none⟩) l.length cS) nx).toArray) rfl (wn rfl) (gLoadAg (vs := tbs (.slice (some ⟨b_, o_, none⟩) l.length cS) nx) (k := 0) 0 hm10 rfl (by kernel_rfl) (by kernel_rfl) (.tmp 2) Ty.ag_voxel_api_Versions rfl (litEv (by kernel_rfl))) rfl (by decide) ?_
 refine lk (v := .int .i64 (placeP l num)) rfl rfl rfl ?_
 refine plCall (i := 2) 63 [.agg (tbs (.slice (some ⟨b_, o_, none⟩) l.length cS) nx).toArray, .int .i64 (placeP l num), .int .i64 (-1)] [] [] rfl (by kernel_rfl) (wn rfl) rfl (litEv (by kernel_rfl)) (litArgs (by kernel_rfl)) (by have h_ := move_any l (some ⟨b_, o_, none⟩) cS nx k v (-1) _ (hT.below hm10.bel) hl hkv hpv_ (by decide); rw [← hk_] at h_; exact h_) ?_
 rintro e w25 ⟨S27, c28, rfl, hT_, hN_, hbz⟩
 have hm26 := hm10.newRd hbz hT_.rd hN_.s
 replace hN_ := hN_.mono hm10.bel.size
 clear hbz hT_
 clear hm10
 try simp only [List.cons_append, List.nil_append, List.set_cons_succ, List.set_cons_zero] at hm26
 refine ⟨_, rfl, ?_⟩
 refine qP rfl ?_
 refine plStore 1 Ty.ag_voxel_api_Versions hm26 rfl (i := 3) (cs := tbs (.slice S27 ((l.set k { v with pins := v.pins + -1 }).length) c28) nx) rfl (wn rfl) rfl (litEv (by kernel_rfl)) (litEv (by kernel_rfl)) rfl rfl (by kernel_rfl) ?_
 intro w30 hm29
 clear hm26
 try simp only [List.cons_append, List.nil_append, List.set_cons_succ, List.set_cons_zero] at hm29
 refine qNone rfl ?_
 refine lk (v := .int .i64 0) rfl rfl rfl ?_
 refine plD ?_
 refine then_normal (hK24 _ _ ?_)
 refine wp_ret ?_
 refine bodyPost_ret (v := .tuple #[.agg (tbs (.slice S27 ((l.set k { v with pins := v.pins + -1 }).length) c28) nx).toArray, .int .i64 0]) (gRes2 rfl (gResAg (cs := tbs (.slice S27 ((l.set k { v with pins := v.pins + -1 }).length) c28) nx) 1 hm29 rfl Ty.ag_voxel_api_Versions rfl (litGet (by kernel_rfl))) (gResTmp (t := 5) (v := .int .i64 0) (litGet (by kernel_rfl)))) rfl ?_
 have hfin_ := unpinV_yes (nx := nx) hk_ hkv h18
 exact ⟨l.set k { v with pins := v.pins + -1 }, S27, c28, by first | (rw [hfin_]; done) | (rw [hfin_]; rfl), by first | (rw [hfin_]; done) | (rw [hfin_]; rfl), ⟨hm29.rd 2 rfl, (AllAt.set hall hkv _).below hm29.bel⟩, hN_, hm29.bel⟩
end Go.Proofs.YtgjgjimgomhbmaaDoor
namespace Go.Proofs.YtgjgjimgomhbmaaDoor
open Go.RowKit
theorem pow_pair : ∀ (x x' y y' : Nat), 2 ^ x * (2 * y + 1) = 2 ^ x' * (2 * y' + 1) → x = x' ∧ y = y'
  | 0, 0, y, y', h => ⟨rfl, by simp at h; omega⟩
  | 0, x' + 1, y, y', h => by
    exfalso
    rw [Nat.pow_succ, Nat.mul_comm (2 ^ x') 2, Nat.mul_assoc] at h
    generalize 2 ^ x' * (2 * y' + 1) = t at h
    simp at h
    omega
  | x + 1, 0, y, y', h => by
    exfalso
    rw [Nat.pow_succ, Nat.mul_comm (2 ^ x) 2, Nat.mul_assoc] at h
    generalize 2 ^ x * (2 * y + 1) = t at h
    simp at h
    omega
  | x + 1, x' + 1, y, y', h => by
    rw [Nat.pow_succ, Nat.mul_comm (2 ^ x) 2, Nat.mul_assoc, Nat.pow_succ, Nat.mul_comm (2 ^ x') 2, Nat.mul_assoc] at h
    have h2 := pow_pair x x' y y' (by omega)
    omega
open Classical in
/-- A number read as two. -/
noncomputable def unpair (k : Nat) : Nat × Nat := if h : ∃ p : Nat × Nat, k = 2 ^ p.1 * (2 * p.2 + 1) then Classical.choose h else (0, 0)
theorem unpair_eq (x y : Nat) : unpair (2 ^ x * (2 * y + 1)) = (x, y) := by
  have h : ∃ p : Nat × Nat, 2 ^ x * (2 * y + 1) = 2 ^ p.1 * (2 * p.2 + 1) := ⟨(x, y), rfl⟩
  unfold unpair
  rw [dif_pos h]
  have h2 := Classical.choose_spec h
  have h3 := pow_pair _ _ _ _ h2
  exact Prod.ext h3.1.symm h3.2.symm
/-- A number read as the place of a row, and as its room. -/
noncomputable def rA (k : Nat) : Option Addr := match (unpair k).1 with
  | 0 => none
  | g + 1 => some ⟨g, 0, none⟩
noncomputable def rC (k : Nat) : Nat := (unpair k).2
theorem r_none (c : Nat) : ∃ k, rA k = none ∧ rC k = c := ⟨2 ^ 0 * (2 * c + 1), by unfold rA; rw [unpair_eq], by unfold rC; rw [unpair_eq]⟩
theorem r_some (g c : Nat) : ∃ k, rA k = some ⟨g, 0, none⟩ ∧ rC k = c := ⟨2 ^ (g + 1) * (2 * c + 1), by unfold rA; rw [unpair_eq], by unfold rC; rw [unpair_eq]⟩
theorem own_code {w : World} {base size n : Nat} {e : TypeId} {v : Value} {xs : List Value} (h : w.ownsRow base e size v n xs) : ∃ k, v = .slice (rA k) n (rC k) := by
  rcases h.2 with ⟨rfl, rfl⟩ | ⟨g, cap, cur, rfl, _⟩
  · obtain ⟨k, h1, h2⟩ := r_none 0
    exact ⟨k, by rw [h1, h2]⟩
  · obtain ⟨k, h1, h2⟩ := r_some g cap
    exact ⟨k, by rw [h1, h2]⟩
section
variable {P : Program} {ops : Array Oper} {Q : Exit → Act → World → Prop} {w0 : World} {a0 : Act} {N : Nat} {val : Nat → List Nat → Value} {adr : Nat → List Nat} {L : (Nat → Bool) → (Nat → Nat) → List Res} {i : Nat} {o : Oper}
theorem Mem.setNewRow {w w' : World} {M : List Res} {e : TypeId} {size n : Nat} {v : Value} {xs : List Value} (h : Mem w0 w M) (j : Nat) {r : Res} (_hj : M[j]? = some r) (hA : w'.ownsRow w.heap.size e size v n xs) (b : Below w.heap.size w w') : Mem w0 w' (M.set j (.row v e size n xs)) := by
  refine ⟨h.bel.trans (b.mono h.bel.size), fun s hs => ?_, resApart_set h.apart fun k s hk hs => ?_⟩
  · rcases resMem_set_ne hs with rfl | ⟨k, _, hk⟩
    · exact ownsRow_base hA h.bel.size
    · exact (h.each s (List.mem_of_getElem? hk)).below b
  · cases hb : (Res.row v e size n xs).blk with
    | none => exact Or.inr (Or.inl hb)
    | some g =>
      refine Or.inr (Or.inr fun e2 => ?_)
      have h2 := (h.each s (List.mem_of_getElem? hs)).lt (g := g) (e2.symm.trans hb)
      have h3 := (World.ownsRow.lt hA g hb).1
      omega
/-- A call that yields a row of its own. -/
theorem aoCallRow {c : Operand} {args : Array Operand} {argTypes : Array TypeId} {e : TypeId} {size n : Nat} {xs : List Value} (j : Nat) (li : (Nat → Nat) → List (Nat × Value)) (hfr : ∀ g a, AoKn ops a0 N val adr i g a → FrIs a (li g)) (f : FuncId) (vals : (Nat → Nat) → List Value) (first caps : List Value)
    (hf : callable P f = true) (hw : ∀ g X, Region.wanted o (yielded ops (lit N X (li g)).tmps) = true) (ho : o.op = .call { callee := .value c, args, argTypes })
    (hc : ∀ g X, (lit N X (li g)).eval c = .func (.func f) first.toArray caps.toArray) (hargs : ∀ g X, args.toList.map (lit N X (li g)).eval = vals g)
    (hC : ∀ b g w, AoB ops i b → Mem w0 w (L b g) → Calls P f (first ++ vals g ++ caps).toArray w (fun e' w' => ∃ v, e' = .returned v ∧ w'.ownsRow w.heap.size e size v n xs ∧ Below w.heap.size w w'))
    (hj : ∀ b g, AoB ops i b → ∃ r, (L b g)[j]? = some r) (hL : ∀ b g γ, AoB ops i b → L (upd b i true) (upd g i γ) = (L b g).set j (.row (.slice (rA γ) n (rC γ)) e size n xs))
    (hv : ∀ γ, val i [γ] = .slice (rA γ) n (rC γ)) (ha : adr i = [i]) : AoStep P ops Q w0 a0 N val adr L i o := by
  intro b g a w hb hp hp2 hk hm
  obtain ⟨X, rfl⟩ := frLit (⟨hk.size, hk.defers, hfr g a hk⟩ : Fr a N (li g))
  obtain ⟨r, hr⟩ := hj b g ⟨hb, hp, hp2⟩
  refine callOp f (vals g) first caps hf (hw g X) ho (hc g X) (hargs g X) ((hC b g w ⟨hb, hp, hp2⟩ hm).mono ?_)
  rintro e' w' ⟨v, rfl, hown, hB⟩
  obtain ⟨k, rfl⟩ := own_code hown
  refine ⟨_, rfl, k, ?_, ?_⟩
  · rw [ha]; simp [upd, hv]
  · rw [hL b g _ ⟨hb, hp, hp2⟩]; exact hm.setNewRow j hr hown hB
/-- append of a literal of one element. -/
theorem aoApp1 {s x : Operand} {t e : TypeId} {z : Value} {size bytes n : Nat} {v : (Nat → Nat) → Value} {gb : (Nat → Nat) → Nat} {xs ys : List Value} (j j2 : Nat) (li : (Nat → Nat) → List (Nat × Value)) (hfr : ∀ g a, AoKn ops a0 N val adr i g a → FrIs a (li g)) (T : SlTy P t e z size bytes)
    (hj : ∀ b g, AoB ops i b → (L b g)[j]? = some (.row (v g) e size n xs)) (hj2 : ∀ b g, AoB ops i b → (L b g)[j2]? = some (.arr (gb g) e ys)) (hw : ∀ g X, Region.wanted o (yielded ops (lit N X (li g)).tmps) = true)
    (ho : o.op = .call { callee := .builtin .append, args := #[s, x], argTypes := #[t, t] }) (hs : ∀ g X, (lit N X (li g)).eval s = v g) (hx : ∀ g X, (lit N X (li g)).eval x = .slice (some ⟨gb g, 0, none⟩) 1 1) (hl : ys.length = size) (hu : (ys.all fun u => u.oneCell') = true)
    (hn : n + 1 ≤ 70368744177664) (hby : (n + 1) * bytes ≤ 140737488355328)
    (hL : ∀ b g γ, AoB ops i b → L (upd b i true) (upd g i γ) = (L b g).set j (.row (.slice (rA γ) (n + 1) (rC γ)) e size (n + 1) (xs ++ ys)))
    (hv : ∀ γ, val i [γ] = .slice (rA γ) (n + 1) (rC γ)) (ha : adr i = [i]) : AoStep P ops Q w0 a0 N val adr L i o := by
  intro b g a w hb hp hp2 hk hm
  obtain ⟨X, rfl⟩ := frLit (⟨hk.size, hk.defers, hfr g a hk⟩ : Fr a N (li g))
  have hj' := hj b g ⟨hb, hp, hp2⟩
  refine appNB s x T (hw g X) ho (hs g X) (hx g X) (hm.row j hj') (hm.arr j2 (hj2 b g ⟨hb, hp, hp2⟩)) hl hm.bel (Nat.le_refl _) (fun u h => List.all_eq_true.1 hu u h) hn hby fun v' w' h1 _ h3 h4 => ?_
  obtain ⟨k, rfl⟩ := own_code h1
  refine ⟨k, ?_, ?_⟩
  · rw [ha]; simp [upd, hv]
  · rw [hL b g _ ⟨hb, hp, hp2⟩]; exact hm.app j hj' h1 h3 h4
/-- make of a constant size, as an operation. -/
theorem mkRun {P : Program} {w : World} {rest : List Oper} {ops : Array Oper} {o : Oper} {a : Act} {Q : Exit → Act → World → Prop} {t e : TypeId} {n : Int} {m : Nat} {cs : List Value} (hgd : Region.wanted o (yielded ops a.tmps) = true) (ho : o.op = .makeSlice t (.const (.int .i64 n)) (.const (.int .i64 n)))
    (hmk : ∀ w : World, (Instr.makeSlice t (.int .i64 n) (.int .i64 n)).run P w = .ok (.slice (some ⟨w.heap.size, 0, none⟩) m m) (w.alloc (.cells cs.toArray e)))
    (h : ∀ w', Arr w' w.heap.size e cs → Below w.heap.size w w' → wpList P ops Q rest (a.put o.dst (.slice (some ⟨w.heap.size, 0, none⟩) m m)) w') : wpList P ops Q (o :: rest) a w := by
  refine wpList_want hgd fun K hK => ?_
  have he : a.eval (.const (.int .i64 n)) = .int .i64 n := rfl
  unfold Oper.wp execOp
  simp only [ho, he, Sem.run_bind, hmk, Result.andThen_ok]
  exact hK _ _ (h _ (Arr.new w e cs) ((Below.refl _ _).alloc (Nat.le_refl _) _))
theorem aoMake {t e : TypeId} {n : Int} {m : Nat} {cs : List Value} (j : Nat) (hw : o.guard = none) (ho : o.op = .makeSlice t (.const (.int .i64 n)) (.const (.int .i64 n)))
    (hmk : ∀ w : World, (Instr.makeSlice t (.int .i64 n) (.int .i64 n)).run P w = .ok (.slice (some ⟨w.heap.size, 0, none⟩) m m) (w.alloc (.cells cs.toArray e)))
    (hj : ∀ b g, AoB ops i b → ∃ r, (L b g)[j]? = some r) (hL : ∀ b g γ, AoB ops i b → L (upd b i true) (upd g i γ) = (L b g).set j (.arr γ e cs))
    (hv : ∀ γ, val i [γ] = .slice (some ⟨γ, 0, none⟩) m m) (ha : adr i = [i]) : AoStep P ops Q w0 a0 N val adr L i o := by
  intro b g a w hb hp hp2 _ hm
  obtain ⟨r, hr⟩ := hj b g ⟨hb, hp, hp2⟩
  refine mkRun (wn hw) ho hmk fun w' hA hB => ?_
  refine ⟨w.heap.size, ?_, ?_⟩
  · rw [ha]; simp [upd, hv]
  · rw [hL b g _ ⟨hb, hp, hp2⟩]; exact hm.setNew j hr hA hB
end
end Go.Proofs.YtgjgjimgomhbmaaDoor
