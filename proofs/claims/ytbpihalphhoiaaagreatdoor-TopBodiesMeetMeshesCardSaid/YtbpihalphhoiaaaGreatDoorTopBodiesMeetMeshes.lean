/-
  TopBodiesMeetMeshes: the walk of the law. The statement itself is proved in the text TopBodiesMeetMeshesProof.
-/
import Derived.Test.YtbpihalphhoiaaaGreatDoorMZ
import Derived.Test.YtbpihalphhoiaaaGreatDoorMK
set_option maxRecDepth 100000
set_option maxHeartbeats 4000000
set_option linter.unusedVariables false
set_option linter.unusedSimpArgs false
namespace Go.Proofs.YtbpihalphhoiaaaGreatDoor
open Go.RowKit

theorem fullD_any (g : Gr) (A : Option Addr) (c : Nat) (d : Int) (w : World) (hrd : Rd w w.heap.size 1 A g.cells.length c (ics g.cells)) : Calls Tryz.prog 6 #[.agg (gcs g A c).toArray, .int .i64 d] w (fun e w' => (e = .returned (.tuple #[.slice none 0 0, .slice none 0 0, .bool false]) ∧ Below w.heap.size w w') ∨
    ∃ (n : Nat) (Es : List Ent) (A1 A2 : Option Addr) (c1 c2 : Nat), (n = 1 ∨ n = 8) ∧ g.Valid ∧ g.box = cubeB (sideN n) ∧ e = .returned (.tuple #[.slice A1 n c1, .slice A2 Es.length c2, .bool true]) ∧ Es.map (·.ids) = cellsG g n ∧ Mem w w' (.row (.slice A2 Es.length c2) 26 1 Es.length (Es.map entV) :: .row (.slice A1 n c1) 63 4 n (tlsC (planL n)) :: Es.map rowE)) := by
  by_cases h2 : d = 2
  · subst h2
    refine (fulld_any g A c 2 4 1 (Or.inl ⟨rfl, rfl, rfl⟩) w hrd).mono ?_
    rintro e w' (⟨_, h1, h3⟩ | ⟨⟨h1, h3⟩, Es, A1, A2, c1, c2, h4, h5, h6⟩)
    · exact Or.inl ⟨h1, h3⟩
    · exact Or.inr ⟨1, Es, A1, A2, c1, c2, Or.inl rfl, h1, h3, h4, h5, h6⟩
  · by_cases h3 : d = 3
    · subst h3
      refine (fulld_any g A c 3 8 8 (Or.inr ⟨rfl, rfl, rfl⟩) w hrd).mono ?_
      rintro e w' (⟨_, h1, h3⟩ | ⟨⟨h1, h3⟩, Es, A1, A2, c1, c2, h4, h5, h6⟩)
      · exact Or.inl ⟨h1, h3⟩
      · exact Or.inr ⟨8, Es, A1, A2, c1, c2, Or.inr rfl, h1, h3, h4, h5, h6⟩
    · exact (fullno_any g A c d (fun h => h.elim h2 h3) w).mono fun e w' h => Or.inl h
theorem rowsOnly {A1 A2 : Option Addr} {n c1 c2 : Nat} {t1 t2 : TypeId} {xs : List Value} {Es : List Ent} : ∀ r ∈ (.row (.slice A2 Es.length c2) t1 1 Es.length (Es.map entV) :: .row (.slice A1 n c1) t2 4 n xs :: Es.map rowE : List Res), ∃ v e size n xs, r = .row v e size n xs := by
  intro r hr
  rcases List.mem_cons.1 hr with rfl | hr
  · exact ⟨_, _, _, _, _, rfl⟩
  rcases List.mem_cons.1 hr with rfl | hr
  · exact ⟨_, _, _, _, _, rfl⟩
  obtain ⟨e, _, rfl⟩ := List.mem_map.1 hr
  exact ⟨_, _, _, _, _, rfl⟩
theorem boxes_small {g : Gr} {n m : Nat} (hv : g.Valid) (hn : n = 1 ∨ n = 8) (hb : g.box = cubeB (sideN n)) (h : m ≤ g.cells.length) : m ≤ 100000 := by
  have h2 : (g.cells.length : Int) = g.box.vol := Decidable.byContradiction fun e => hv.2.1 (Or.inr (Or.inr e))
  have h3 : g.box.vol ≤ 512 := by rw [hb]; rcases hn with rfl | rfl <;> decide
  omega
theorem qdc_pre {q : Qd} : ∀ (i : Nat) (u : Value), (pcs q.p)[i]? = some u → (qdc q)[i]? = some u
  | 0, _, h => h
  | 1, _, h => h
  | 2, _, h => h
  | i + 3, u, h => by cases h
theorem walk_TopBodiesMeetMeshes (g : Gr) (A : Option Addr) (c : Nat) (d : Int) (T : List Mat) (A2 : Option Addr) (c2 : Nat) (p : Pt) (w : World) (hsd : SidesIn w) (hrd : Rd w w.heap.size 1 A g.cells.length c (ics g.cells)) (_hd : -9223372036854775808 ≤ d ∧ d ≤ 9223372036854775807) (htb : Rd w w.heap.size 8 A2 T.length c2 (mts T)) (_b0 : -9223372036854775808 ≤ p.x ∧ p.x ≤ 9223372036854775807) (_b1 : -9223372036854775808 ≤ p.y ∧ p.y ≤ 9223372036854775807) (_b2 : -9223372036854775808 ≤ p.z ∧ p.z ≤ 9223372036854775807) : Calls Tryz.prog 3 #[.agg (gcs g A c).toArray, .int .i64 d, .slice A2 T.length c2, .agg (pcs p).toArray] w (RetV w (.bool true)) := by
 have hm0 := Mem.nil w
 go_enter Tryz.func3, Tryz.ntmps3
 refine litStart 105 [(0, .agg (gcs g A c).toArray), (1, .int .i64 d), (2, .slice A2 T.length c2), (3, .agg (pcs p).toArray)] kr_ (fun X0 => ?_)
 refine sp_ fun _ hK1 => ?_
 refine plBox hm0 (cs := gcs g A c) (i := 0) rfl (wn rfl) rfl le_ ?_
 intro g2 w4 hm3
 clear hm0
 try simp only [lc_] at hm3
 refine qP rfl ?_
 refine plBox hm3 (cs := pcs p) (i := 1) rfl (wn rfl) rfl le_ ?_
 intro g5 w7 hm6
 clear hm3
 try simp only [lc_] at hm6
 refine qP rfl ?_
 refine lF_ ?_
 refine pt_ hK1 ?_
 refine sp_ fun _ hK8 => ?_
 refine plCall (i := 0) 5 [] [] [] rfl kr_ (wn rfl) rfl le_ (litArgs kr_) (ball_any _ (hsd.below hm6.bel)) ?_
 rintro e w9 ⟨rfl, hbz⟩
 have hm10 := hm6.below hbz
 clear hbz hm6
 refine ⟨_, rfl, ?_⟩
 refine qP rfl ?_
 refine lT_ ?_
 refine pt_ hK8 ?_
 refine sp_ fun _ hK11 => ?_
 refine lv_ rfl (.agg (gcs g A c).toArray) (la_ 0 0 hm10 Ty.ag_voxel_api_Grid) ?_
 refine li_ d ?_
 refine plCall (i := 2) 6 [.agg (gcs g A c).toArray, .int .i64 d] [] [] rfl kr_ (wn rfl) rfl le_ (litArgs kr_) (fullD_any g A c d _ ((Rd.below hrd hm10.bel).more hm10.bel.size)) ?_
 rintro e w13 (⟨rfl, hbz⟩ | ⟨n, Es, A1, A3, c1, c3, hn, hvd, hbx, rfl, hE, hmm_⟩)
 · have hm12 := hm10.below hbz
   clear hbz hm10
   refine ⟨_, rfl, ?_⟩
   refine qP rfl ?_
   refine lk_ (.tuple #[.slice none 0 0, .slice none 0 0, .bool false]) ?_
   refine lk_ (.slice none 0 0) ?_
   refine lk_ (.slice none 0 0) ?_
   refine lF_ ?_
   refine lk_ (.slice none 0 0) ?_
   refine lk_ (.slice none 0 0) ?_
   refine lF_ ?_
   refine pt_ hK11 ?_
   refine sk_ fun _ hK14 => ?_
   refine sp_ fun _ hK15 => ?_
   refine lF_ ?_
   refine lT_ ?_
   refine lT_ ?_
   refine ps_ (i := 3) ?_
   refine ps_ (i := 4) ?_
   refine ps_ (i := 5) ?_
   refine lT_ ?_
   refine lT_ ?_
   refine ps_ (i := 8) ?_
   refine ps_ (i := 9) ?_
   refine ps_ (i := 10) ?_
   refine lT_ ?_
   refine pt_ hK15 ?_
   refine wpPrune [(2, .slice A2 T.length c2), (4, .pointer (some ⟨g2, 0, none⟩)), (7, .pointer (some ⟨g5, 0, none⟩)), (8, .bool false), (9, .bool true), (10, .slice none 0 0), (11, .slice none 0 0), (37, .bool true)] fo_ (fun X16 => ?_)
   refine wp_cond_true le_ ?_
   refine sp_ fun _ hK17 => ?_
   refine lT_ ?_
   refine lT_ ?_
   refine pt_ hK17 ?_
   refine wp_ret ?_
   refine then_ret ?_
   refine br_ 8 (.bool true) ?_
   exact ⟨rfl, hm12.bel⟩
 obtain rfl : n = Es.length := by have h_ := congrArg List.length hE; rw [List.length_map] at h_; simp [cellsG] at h_; omega
 have hm12 := hm10.join hmm_ rowsOnly
 clear hmm_ hm10
 have hm18 : Mem w w13 ((.arr g2 28 (gcs g A c)) :: (.arr g5 23 (pcs p)) :: (.row (.slice A3 Es.length c3) 26 1 Es.length (Es.map entV)) :: (.row (.slice A1 Es.length c1) 63 4 Es.length (tlsC (planL Es.length))) :: (Es.map rowE)) := hm12
 clear hm12
 refine ⟨_, rfl, ?_⟩
 refine qP rfl ?_
 have hse_ := fun p => solid_eq (g := g) (T := T) hn hbx p
 refine lk_ (.tuple #[.slice A1 Es.length c1, .slice A3 Es.length c3, .bool true]) ?_
 refine lk_ (.slice A1 Es.length c1) ?_
 refine lk_ (.slice A3 Es.length c3) ?_
 refine lT_ ?_
 refine lk_ (.slice A1 Es.length c1) ?_
 refine lk_ (.slice A3 Es.length c3) ?_
 refine lT_ ?_
 refine pt_ hK11 ?_
 refine sk_ fun _ hK19 => ?_
 refine sp_ fun _ hK20 => ?_
 refine lT_ ?_
 refine lF_ ?_
 refine lF_ ?_
 refine lw_ rfl (.slice A2 T.length c2) (litRun kr_) ?_
 refine lw_ rfl (.int .i64 (T.length : Int)) (ln_ A2 T.length c2 Ty.und_L_api_Material) ?_
 by_cases h21 : 20 < (T.length : Int)
 · refine lw_ rfl _ (gtT_ h21) ?_
   refine lT_ ?_
   refine lT_ ?_
   refine ps_ (i := 8) ?_
   refine ps_ (i := 9) ?_
   refine ps_ (i := 10) ?_
   refine lT_ ?_
   refine pt_ hK20 ?_
   refine wpPrune [(2, .slice A2 T.length c2), (4, .pointer (some ⟨g2, 0, none⟩)), (7, .pointer (some ⟨g5, 0, none⟩)), (8, .bool false), (9, .bool true), (10, .slice A1 Es.length c1), (11, .slice A3 Es.length c3), (37, .bool true)] fo_ (fun X22 => ?_)
   refine wp_cond_true le_ ?_
   refine sp_ fun _ hK23 => ?_
   refine lT_ ?_
   refine lT_ ?_
   refine pt_ hK23 ?_
   refine wp_ret ?_
   refine then_ret ?_
   refine br_ 8 (.bool true) ?_
   exact ⟨rfl, hm18.bel⟩
 refine lw_ rfl _ (gtF_ h21) ?_
 refine lF_ ?_
 refine lF_ ?_
 refine lw_ rfl (.agg (pcs p).toArray) (la_ 0 1 hm18 Ty.ag_voxel_api_Point) ?_
 refine plCall (i := 9) 7 [.agg (pcs p).toArray] [] [] rfl kr_ (wgY rfl rfl rfl (by decide) kr_) rfl le_ (litArgs kr_) (topnear_any p _) ?_
 rintro e w24 ⟨rfl, hbz⟩
 have hm25 := hm18.below hbz
 clear hbz hm18
 refine ⟨_, rfl, ?_⟩
 refine qP rfl ?_
 rcases bool_or (decide (nearB.has p)) with h26 | h26
 · rw [h26]
   refine lw_ rfl (.bool true) (litRun kr_) ?_
   refine lT_ ?_
   refine pt_ hK20 ?_
   refine wpPrune [(2, .slice A2 T.length c2), (4, .pointer (some ⟨g2, 0, none⟩)), (7, .pointer (some ⟨g5, 0, none⟩)), (8, .bool false), (9, .bool true), (10, .slice A1 Es.length c1), (11, .slice A3 Es.length c3), (37, .bool true)] fo_ (fun X27 => ?_)
   refine wp_cond_true le_ ?_
   refine sp_ fun _ hK28 => ?_
   refine lT_ ?_
   refine lT_ ?_
   refine pt_ hK28 ?_
   refine wp_ret ?_
   refine then_ret ?_
   refine br_ 8 (.bool true) ?_
   exact ⟨rfl, hm25.bel⟩
 rw [h26]
 refine lw_ rfl (.bool false) (litRun kr_) ?_
 refine lF_ ?_
 refine pt_ hK20 ?_
 refine wpPrune [(2, .slice A2 T.length c2), (4, .pointer (some ⟨g2, 0, none⟩)), (7, .pointer (some ⟨g5, 0, none⟩)), (8, .bool false), (9, .bool true), (10, .slice A1 Es.length c1), (11, .slice A3 Es.length c3), (37, .bool false)] fo_ (fun X29 => ?_)
 refine wp_cond_false le_ ?_
 refine wp_skip ?_
 refine tn_ hK19 ?_
 refine sp_ fun _ hK30 => ?_
 refine lv_ rfl (.agg (gcs g A c).toArray) (la_ 0 0 hm25 Ty.ag_voxel_api_Grid) ?_
 refine lk_ (.slice A2 T.length c2) ?_
 refine plCall (i := 2) 8 [.agg (gcs g A c).toArray, .slice A2 T.length c2] [] [] rfl kr_ (wn rfl) rfl le_ (litArgs kr_) (LD.boxes_any g hvd (sideN Es.length) (sideN_or _ hn) hbx A c T A2 c2 _ ((Rd.below hrd hm25.bel).more hm25.bel.size) ((Rd.below htb hm25.bel).more hm25.bel.size)) ?_
 rintro e w31 ⟨l, v_, rfl, hown_, hovl_, hlen_, hbz⟩
 obtain ⟨xA, xc, rfl, hrd_⟩ := Rd.of_own hown_
 clear hrd_
 replace hown_ : World.ownsRow w31 _ 25 6 _ l.length (bxsC l) := hown_
 have hm32 := hm25.newRow hbz hown_
 clear hown_ hbz hm25
 try simp only [lc_] at hm32
 replace hm32 := hm32.i4
 have hll_ := boxes_small hvd hn hbx hlen_
 refine ⟨_, rfl, ?_⟩
 refine qP rfl ?_
 refine lk_ (.slice xA l.length xc) ?_
 refine pt_ hK30 ?_
 refine sp_ fun _ hK33 => ?_
 refine lk_ (.slice A1 Es.length c1) ?_
 refine lk_ (.slice A3 Es.length c3) ?_
 refine lk_ (.slice A2 T.length c2) ?_
 refine plCall (i := 3) 9 [.slice A1 Es.length c1, .slice A3 Es.length c3, .slice A2 T.length c2] [] [] rfl kr_ (wn rfl) rfl le_ (litArgs kr_) (by have h_ := build_any (Es.map toSl) (by rw [List.length_map]; exact hn) T A1 c1 A3 c3 A2 c2 _ (show Rd _ _ 4 A1 (Es.map toSl).length c1 (tlsC (planL (Es.map toSl).length)) by rw [List.length_map]; exact (hm32.rdRow 3 rfl)) (hm32.cellsIn 2 rfl (fun e_ he_ => by simp only [List.mem_cons, List.mem_map]; exact Or.inr (Or.inr (Or.inr (Or.inr (Or.inr (⟨_, he_, rfl⟩)))))) (cells_64 hE)) ((Rd.below htb hm32.bel).more hm32.bel.size) (hsd.below hm32.bel); rw [show #[Value.slice A1 (Es.map toSl).length c1, .slice A3 (Es.map toSl).length c3, .slice A2 T.length c2] = #[.slice A1 Es.length c1, .slice A3 Es.length c3, .slice A2 T.length c2] by rw [List.length_map]] at h_; exact h_) ?_
 rintro e w34 ⟨dq, H, qA, hA, qc, hc, rfl, hperm, hsrt, htw, hrq_, hrh_, hoq_, hbz⟩
 rw [List.length_map, lsOf_map, hE] at hperm
 clear hrq_ hrh_ htw hsrt
 replace hoq_ : World.ownsRow w34 _ 45 6 _ dq.length (qdsC dq) := hoq_
 have hm35 := (hm32).newRow hbz hoq_
 clear hoq_ hbz hm32
 try simp only [lc_] at hm35
 replace hm35 := hm35.i5
 obtain ⟨xin, hxi_⟩ : ∃ x : Bool, x = (solF (cellsG g Es.length) T Es.length) p := ⟨_, rfl⟩
 obtain ⟨xun, hxu_⟩ : ∃ x : Bool, x = (!(solF (cellsG g Es.length) T Es.length) p && (solF (cellsG g Es.length) T Es.length) ⟨p.x, p.y, p.z - 1⟩) := ⟨_, rfl⟩
 have hIn_ : oddB p dq = xin := by rw [hxi_]; exact odd_solid hn (fun q_ h_ => solF_inC h_) hperm p
 have hUn_ : dq.any (undB p) = xun := by rw [hxu_]; exact und_iff hn (fun q_ h_ => solF_inC h_) hperm p
 have hOv_ : ovl l p = xin := by rw [hxi_, hovl_, hse_]
 have hRs_ : (!ovl l p && ovl l ⟨p.x, p.y, p.z - 1⟩) = xun := by rw [hxu_, hovl_, hovl_, hse_, hse_]
 have hx1_ : xin = true → xun = false := by rw [hxi_, hxu_]; intro h_; rw [h_]; rfl
 have hqok_ : ∀ x ∈ dq, x.Ok := fun x h_ => quadsU_ok hn (hperm.mem_iff.1 h_)
 have hdl_ : dq.length ≤ 3072 := by rw [hperm.length_eq]; exact quadsU_len hn
 have hpw_ : p.w 1000 := by have h_ := of_decide_eq_true h26; unfold Bx.has nearB at h_; unfold Pt.w; simp only at h_; omega
 refine ⟨_, rfl, ?_⟩
 refine qP rfl ?_
 refine plAlloc (z := [.slice none 0 0, .slice none 0 0]) Ty.ag_voxel_api_Mesh hm35 (i := 4) rfl (wn rfl) rfl ?_
 intro g36 w38 hm37
 clear hm35
 try simp only [lc_] at hm37
 replace hm37 := hm37.i6
 refine qP rfl ?_
 refine plStore 6 Ty.ag_voxel_api_Mesh hm37 rfl (i := 5) (cs := [.slice qA dq.length qc, .slice hA H.length hc]) rfl (wn rfl) rfl le_ le_ rfl rfl kr_ ?_
 intro w40 hm39
 clear hm37
 try simp only [lc_] at hm39
 refine qNone rfl ?_
 refine pt_ hK33 ?_
 refine sp_ fun _ hK41 => ?_
 refine lv_ rfl (.agg ([.slice qA dq.length qc, .slice hA H.length hc]).toArray) (la_ 0 6 hm39 Ty.ag_voxel_api_Mesh) ?_
 refine lv_ rfl (.agg (pcs p).toArray) (la_ 0 1 hm39 Ty.ag_voxel_api_Point) ?_
 refine plCall (i := 2) 10 [.agg ([.slice qA dq.length qc, .slice hA H.length hc]).toArray, .agg (pcs p).toArray] [] [] rfl kr_ (wn rfl) rfl le_ (litArgs kr_) (by have h_ := minside_any dq H hqok_ (by omega) p qA hA qc hc _ (hm39.rdRow 5 rfl); rw [hIn_] at h_; exact h_) ?_
 rintro e w42 ⟨rfl, hbz⟩
 have hm43 := hm39.below hbz
 clear hbz hm39
 refine ⟨_, rfl, ?_⟩
 refine qP rfl ?_
 refine lk_ (.bool xin) ?_
 refine pt_ hK41 ?_
 refine wpPrune [(7, .pointer (some ⟨g5, 0, none⟩)), (8, .bool false), (9, .bool true), (13, .slice xA l.length xc), (14, .pointer (some ⟨g36, 0, none⟩)), (15, .bool xin)] fo_ (fun X44 => ?_)
 refine sp_ fun _ hK45 => ?_
 refine lF_ ?_
 refine pt_ hK45 ?_
 refine sk_ fun _ hK46 => ?_
 refine sp_ fun _ hK47 => ?_
 refine li_ 0 ?_
 refine pt_ hK47 ?_
 refine wp_block ?_
 refine gwLoop (fun n_ a_ w_ => ∃ (k : Nat) (u : Bool), n_ = dq.length - k ∧ (k ≤ dq.length) ∧ ((dq.take k).any (undB p) = u) ∧ Fr a_ 105 [(7, .pointer (some ⟨g5, 0, none⟩)), (8, .bool false), (9, .bool true), (13, .slice xA l.length xc), (14, .pointer (some ⟨g36, 0, none⟩)), (15, .bool xin), (16, .bool u), (17, .int .i64 (k : Int))] ∧ Mem w w_ ((.arr g2 28 (gcs g A c)) :: (.arr g5 23 (pcs p)) :: (.row (.slice A3 Es.length c3) 26 1 Es.length (Es.map entV)) :: (.row (.slice A1 Es.length c1) 63 4 Es.length (tlsC (planL Es.length))) :: (.row (.slice xA l.length xc) 25 6 l.length (bxsC l)) :: (.row (.slice qA dq.length qc) 45 6 dq.length (qdsC dq)) :: (.arr g36 41 ([.slice qA dq.length qc, .slice hA H.length hc])) :: (Es.map rowE))) (dq.length - 0) ⟨0, false, rfl, (Nat.zero_le _), rfl, ⟨litSize, rfl, fo_⟩, hm43⟩ ?_
 clear hm43
 intro n_ a50 w48 hI_
 obtain ⟨k, u, rfl, hk, hu, hF_, hm49⟩ := hI_
 obtain ⟨X51, rfl⟩ := frLit hF_
 clear hF_
 refine sk_ fun _ hK52 => ?_
 refine sp_ fun _ hK53 => ?_
 refine li_ k ?_
 refine lp_ g36 0 ?_
 refine lv_ rfl (.slice qA dq.length qc) (ld_ 0 6 hm49) ?_
 refine lv_ rfl (.int .i64 (dq.length : Int)) (ln_ qA dq.length qc Ty.und_L_api_Quad) ?_
 by_cases h54 : (k : Int) < (dq.length : Int)
 · have hk2_ : k < dq.length := by omega
   obtain ⟨x, hx⟩ : ∃ x, dq[k]? = some x := ⟨_, List.getElem?_eq_getElem hk2_⟩
   have hxo_ := hqok_ x (List.mem_of_getElem? hx)
   obtain ⟨b55, rfl⟩ := hm49.rowBlk (A := qA) (n := dq.length) (c := qc) 5 rfl (show 0 < dq.length by omega)
   refine lv_ rfl _ (lsT_ h54) ?_
   refine pt_ hK53 ?_
   refine wp_cond_true le_ ?_
   refine wp_skip ?_
   refine tn_ hK52 ?_
   refine sk_ fun _ hK56 => ?_
   refine wp_block ?_
   refine mgStart hm49 kr_ ?_
   intro w58 hm57
   clear hm49
   rcases bool_or (u) with h59 | h59
   · refine mt_ 0 rfl (.bool false) hm57 (fun w_ h_ => boolTo h59 (litRun kr_)) ?_
     refine mk_ (i := 1) (v := .bool false) rfl rfl (fun _ _ _ h => h) hm57 rfl ?_
     refine mgTake (i := 2) (v := .pointer (some ⟨g36, 0, none⟩)) rfl kr_ (wgY rfl rfl rfl (by decide) kr_) (fun _ _ _ h => h) hm57 (fun w_ h_ => litRun kr_) ?_
     refine mP rfl ?_
     refine mgTake (i := 3) (v := .slice (some ⟨b55, 0, none⟩) dq.length qc) rfl kr_ (wgY rfl rfl rfl (by decide) kr_) (fun _ _ _ h => h) hm57 (fun w_ h_ => gLoad (v := .slice (some ⟨b55, 0, none⟩) dq.length qc) (k := 0) 6 h_ rfl kr_ (.tmp 58) kr_ rfl le_) ?_
     refine mP rfl ?_
     refine mgTake (i := 4) (v := .int .i64 (k : Int)) rfl kr_ (wgY rfl rfl rfl (by decide) kr_) (fun _ _ _ h => h) hm57 (fun w_ h_ => litRun kr_) ?_
     refine mP rfl ?_
     refine mgTake (i := 5) (v := .pointer (some ⟨b55, 0 + k * 6, none⟩)) rfl kr_ (wgY rfl rfl rfl (by decide) kr_) (fun _ _ _ h => h) hm57 (fun w_ h_ => gIaSl (b := b55) (off := 0) (n := dq.length) (c := qc) (kk := .i64) (K := (k : Int)) (.tmp 59) (.tmp 60) k Ty.sl_L_api_Quad rfl le_ le_ (rfl) ((show k < dq.length by omega))) ?_
     refine mP rfl ?_
     refine mgTake (i := 6) (v := .pointer (some ⟨b55, 0 + k * 6 + 3, none⟩)) rfl kr_ (wgY rfl rfl rfl (by decide) kr_) (fun _ _ _ h => h) hm57 (fun w_ h_ => litRun kr_) ?_
     refine mP rfl ?_
     refine mgTake (i := 7) (v := .int .i64 x.ax) rfl kr_ (wgY rfl rfl rfl (by decide) kr_) (fun _ _ _ h => h) hm57 (fun w_ h_ => gLoadRd (v := .int .i64 x.ax) (m := k * 6 + 3) (h_.rdRow 5 rfl) rfl (qdsC_get hx 3 _ rfl) (by omega) (.tmp 62) kr_ rfl le_) ?_
     refine mP rfl ?_
     by_cases h60 : x.ax = 2
     · refine mgTake (i := 8) (v := .bool true) rfl kr_ (wgY rfl rfl rfl (by decide) kr_) (fun _ _ _ h => h) hm57 (fun w_ h_ => boolTo (decide_eq_true h60) (eqlRun (A := x.ax) (B := 2) (.tmp 63) (.const (.int .i64 2)) rfl le_ le_)) ?_
       refine mP rfl ?_
       refine mgTake (i := 9) (v := .bool true) rfl kr_ (wgY rfl rfl rfl (by decide) kr_) (fun _ _ _ h => h) hm57 (fun w_ h_ => litRun kr_) ?_
       refine mP rfl ?_
       refine mgTake (i := 10) (v := .pointer (some ⟨g36, 0, none⟩)) rfl kr_ (wgY rfl rfl rfl (by decide) kr_) (fun _ _ _ h => h) hm57 (fun w_ h_ => litRun kr_) ?_
       refine mP rfl ?_
       refine mgTake (i := 11) (v := .slice (some ⟨b55, 0, none⟩) dq.length qc) rfl kr_ (wgY rfl rfl rfl (by decide) kr_) (fun _ _ _ h => h) hm57 (fun w_ h_ => gLoad (v := .slice (some ⟨b55, 0, none⟩) dq.length qc) (k := 0) 6 h_ rfl kr_ (.tmp 66) kr_ rfl le_) ?_
       refine mP rfl ?_
       refine mgTake (i := 12) (v := .int .i64 (k : Int)) rfl kr_ (wgY rfl rfl rfl (by decide) kr_) (fun _ _ _ h => h) hm57 (fun w_ h_ => litRun kr_) ?_
       refine mP rfl ?_
       refine mgTake (i := 13) (v := .pointer (some ⟨b55, 0 + k * 6, none⟩)) rfl kr_ (wgY rfl rfl rfl (by decide) kr_) (fun _ _ _ h => h) hm57 (fun w_ h_ => gIaSl (b := b55) (off := 0) (n := dq.length) (c := qc) (kk := .i64) (K := (k : Int)) (.tmp 67) (.tmp 68) k Ty.sl_L_api_Quad rfl le_ le_ (rfl) ((show k < dq.length by omega))) ?_
       refine mP rfl ?_
       refine mgTake (i := 14) (v := .pointer (some ⟨b55, 0 + k * 6 + 4, none⟩)) rfl kr_ (wgY rfl rfl rfl (by decide) kr_) (fun _ _ _ h => h) hm57 (fun w_ h_ => litRun kr_) ?_
       refine mP rfl ?_
       rcases bool_or (x.up) with h61 | h61
       · refine mgTake (i := 15) (v := .bool false) rfl kr_ (wgY rfl rfl rfl (by decide) kr_) (fun _ _ _ h => h) hm57 (fun w_ h_ => boolTo h61 (gLoadRd (v := .bool x.up) (m := k * 6 + 4) (h_.rdRow 5 rfl) rfl (qdsC_get hx 4 _ rfl) (by omega) (.tmp 70) kr_ rfl le_)) ?_
         refine mP rfl ?_
         refine mgTake (i := 16) (v := .bool false) rfl kr_ (wgY rfl rfl rfl (by decide) kr_) (fun _ _ _ h => h) hm57 (fun w_ h_ => litRun kr_) ?_
         refine mP rfl ?_
         refine mgTake (i := 17) (v := .bool false) rfl kr_ (wgY rfl rfl rfl (by decide) kr_) (fun _ _ _ h => h) hm57 (fun w_ h_ => litRun kr_) ?_
         refine mP rfl ?_
         refine mgSkip (i := 18) rfl kr_ (wgN rfl rfl rfl (by decide) kr_) (fun _ _ _ h => h) hm57 ?_
         refine mP rfl ?_
         refine mgSkip (i := 19) rfl kr_ (wgN rfl rfl rfl (by decide) kr_) (fun _ _ _ h => h) hm57 ?_
         refine mP rfl ?_
         refine mgSkip (i := 20) rfl kr_ (wgN rfl rfl rfl (by decide) kr_) (fun _ _ _ h => h) hm57 ?_
         refine mP rfl ?_
         refine mgSkip (i := 21) rfl kr_ (wgN rfl rfl rfl (by decide) kr_) (fun _ _ _ h => h) hm57 ?_
         refine mP rfl ?_
         refine mgSkip (i := 22) rfl kr_ (wgN rfl rfl rfl (by decide) kr_) (fun _ _ _ h => h) hm57 ?_
         refine mP rfl ?_
         refine mgSkip (i := 23) rfl kr_ (wgN rfl rfl rfl (by decide) kr_) (fun _ _ _ h => h) hm57 ?_
         refine mP rfl ?_
         refine mgSkip (i := 24) rfl kr_ (wgN rfl rfl rfl (by decide) kr_) (fun _ _ _ h => h) hm57 ?_
         refine mP rfl ?_
         refine mgSkip (i := 25) rfl kr_ (wgN rfl rfl rfl (by decide) kr_) (fun _ _ _ h => h) hm57 ?_
         refine mP rfl ?_
         refine mgTake (i := 26) (v := .bool false) rfl kr_ (wgY rfl rfl rfl (by decide) kr_) (fun _ _ _ h => h) hm57 (fun w_ h_ => litRun kr_) ?_
         refine mP rfl ?_
         refine mk_ (i := 27) (v := .bool false) rfl rfl (fun _ _ _ h => h) hm57 rfl ?_
         refine mk_ (i := 28) (v := .bool false) rfl rfl (fun _ _ _ h => h) hm57 rfl ?_
         refine mgDone kr_ ?_
         refine inBlock_normal ?_
         refine tn_ hK56 ?_
         refine plStart ?_
         refine li_ k ?_
         refine lv_ rfl _ (ad_ (k : Int) 1) ?_
         refine li_ ((k : Int) + 1) ?_
         refine plD ?_
         refine then_normal ?_
         exact ⟨_, by omega, (k + 1), false, rfl, (by omega), (by rw [any_take hx, hu, h59, show undB p x = false from decide_eq_false (fun h_ => by have h2_ := h_.2.1; rw [h61] at h2_; cases h2_)]; rfl), ⟨litSize, rfl, fo_⟩, (hm57.sub (.cons_cons _ (.cons_cons _ (.cons_cons _ (.cons_cons _ (.cons_cons _ (.cons_cons _ (.cons_cons _ (List.Sublist.refl _)))))))))⟩
       refine mgTake (i := 15) (v := .bool true) rfl kr_ (wgY rfl rfl rfl (by decide) kr_) (fun _ _ _ h => h) hm57 (fun w_ h_ => boolTo h61 (gLoadRd (v := .bool x.up) (m := k * 6 + 4) (h_.rdRow 5 rfl) rfl (qdsC_get hx 4 _ rfl) (by omega) (.tmp 70) kr_ rfl le_)) ?_
       refine mP rfl ?_
       refine mgTake (i := 16) (v := .bool true) rfl kr_ (wgY rfl rfl rfl (by decide) kr_) (fun _ _ _ h => h) hm57 (fun w_ h_ => litRun kr_) ?_
       refine mP rfl ?_
       refine mgTake (i := 17) (v := .bool true) rfl kr_ (wgY rfl rfl rfl (by decide) kr_) (fun _ _ _ h => h) hm57 (fun w_ h_ => litRun kr_) ?_
       refine mP rfl ?_
       refine mgTake (i := 18) (v := .pointer (some ⟨g36, 0, none⟩)) rfl kr_ (wgY rfl rfl rfl (by decide) kr_) (fun _ _ _ h => h) hm57 (fun w_ h_ => litRun kr_) ?_
       refine mP rfl ?_
       refine mgTake (i := 19) (v := .slice (some ⟨b55, 0, none⟩) dq.length qc) rfl kr_ (wgY rfl rfl rfl (by decide) kr_) (fun _ _ _ h => h) hm57 (fun w_ h_ => gLoad (v := .slice (some ⟨b55, 0, none⟩) dq.length qc) (k := 0) 6 h_ rfl kr_ (.tmp 74) kr_ rfl le_) ?_
       refine mP rfl ?_
       refine mgTake (i := 20) (v := .int .i64 (k : Int)) rfl kr_ (wgY rfl rfl rfl (by decide) kr_) (fun _ _ _ h => h) hm57 (fun w_ h_ => litRun kr_) ?_
       refine mP rfl ?_
       refine mgTake (i := 21) (v := .pointer (some ⟨b55, 0 + k * 6, none⟩)) rfl kr_ (wgY rfl rfl rfl (by decide) kr_) (fun _ _ _ h => h) hm57 (fun w_ h_ => gIaSl (b := b55) (off := 0) (n := dq.length) (c := qc) (kk := .i64) (K := (k : Int)) (.tmp 75) (.tmp 76) k Ty.sl_L_api_Quad rfl le_ le_ (rfl) ((show k < dq.length by omega))) ?_
       refine mP rfl ?_
       refine mgTake (i := 22) (v := .pointer (some ⟨b55, 0 + k * 6, none⟩)) rfl kr_ (wgY rfl rfl rfl (by decide) kr_) (fun _ _ _ h => h) hm57 (fun w_ h_ => litRun kr_) ?_
       refine mP rfl ?_
       refine mgTake (i := 23) (v := .agg (pcs x.p).toArray) rfl kr_ (wgY rfl rfl rfl (by decide) kr_) (fun _ _ _ h => h) hm57 (fun w_ h_ => gLoadAgRd (vs := pcs x.p) (m := k * 6) (h_.rdRow 5 rfl) rfl (fun i_ u_ h_ => qdsC_get hx i_ u_ (qdc_pre i_ u_ h_)) kr_ (by omega) (.tmp 78) Ty.ag_voxel_api_Point rfl le_) ?_
       refine mP rfl ?_
       refine mgTake (i := 24) (v := .agg (pcs p).toArray) rfl kr_ (wgY rfl rfl rfl (by decide) kr_) (fun _ _ _ h => h) hm57 (fun w_ h_ => gLoadAg (vs := pcs p) (k := 0) 1 h_ rfl kr_ kr_ (.tmp 7) Ty.ag_voxel_api_Point rfl le_) ?_
       refine mP rfl ?_
       by_cases h62 : x.p = p
       · refine mgTake (i := 25) (v := .bool true) rfl kr_ (wgY rfl rfl rfl (by decide) kr_) (fun _ _ _ h => h) hm57 (fun w_ h_ => boolTo (decide_eq_true h62) (eqPtRun (.tmp 79) (.tmp 80) x.p p kr_ kr_ kr_ kr_ rfl le_ le_)) ?_
         refine mP rfl ?_
         refine mgTake (i := 26) (v := .bool true) rfl kr_ (wgY rfl rfl rfl (by decide) kr_) (fun _ _ _ h => h) hm57 (fun w_ h_ => litRun kr_) ?_
         refine mP rfl ?_
         refine mk_ (i := 27) (v := .bool true) rfl rfl (fun _ _ _ h => h) hm57 rfl ?_
         refine mk_ (i := 28) (v := .bool true) rfl rfl (fun _ _ _ h => h) hm57 rfl ?_
         refine mgDone kr_ ?_
         refine inBlock_normal ?_
         refine tn_ hK56 ?_
         refine plStart ?_
         refine li_ k ?_
         refine lv_ rfl _ (ad_ (k : Int) 1) ?_
         refine li_ ((k : Int) + 1) ?_
         refine plD ?_
         refine then_normal ?_
         exact ⟨_, by omega, (k + 1), true, rfl, (by omega), (by rw [any_take hx, hu, h59, show undB p x = true from decide_eq_true ⟨h60, h61, h62⟩]; rfl), ⟨litSize, rfl, fo_⟩, (hm57.sub (.cons_cons _ (.cons_cons _ (.cons_cons _ (.cons_cons _ (.cons_cons _ (.cons_cons _ (.cons_cons _ (List.Sublist.refl _)))))))))⟩
       refine mgTake (i := 25) (v := .bool false) rfl kr_ (wgY rfl rfl rfl (by decide) kr_) (fun _ _ _ h => h) hm57 (fun w_ h_ => boolTo (decide_eq_false h62) (eqPtRun (.tmp 79) (.tmp 80) x.p p kr_ kr_ kr_ kr_ rfl le_ le_)) ?_
       refine mP rfl ?_
       refine mgTake (i := 26) (v := .bool false) rfl kr_ (wgY rfl rfl rfl (by decide) kr_) (fun _ _ _ h => h) hm57 (fun w_ h_ => litRun kr_) ?_
       refine mP rfl ?_
       refine mk_ (i := 27) (v := .bool false) rfl rfl (fun _ _ _ h => h) hm57 rfl ?_
       refine mk_ (i := 28) (v := .bool false) rfl rfl (fun _ _ _ h => h) hm57 rfl ?_
       refine mgDone kr_ ?_
       refine inBlock_normal ?_
       refine tn_ hK56 ?_
       refine plStart ?_
       refine li_ k ?_
       refine lv_ rfl _ (ad_ (k : Int) 1) ?_
       refine li_ ((k : Int) + 1) ?_
       refine plD ?_
       refine then_normal ?_
       exact ⟨_, by omega, (k + 1), false, rfl, (by omega), (by rw [any_take hx, hu, h59, show undB p x = false from decide_eq_false (fun h_ => h62 h_.2.2)]; rfl), ⟨litSize, rfl, fo_⟩, (hm57.sub (.cons_cons _ (.cons_cons _ (.cons_cons _ (.cons_cons _ (.cons_cons _ (.cons_cons _ (.cons_cons _ (List.Sublist.refl _)))))))))⟩
     refine mgTake (i := 8) (v := .bool false) rfl kr_ (wgY rfl rfl rfl (by decide) kr_) (fun _ _ _ h => h) hm57 (fun w_ h_ => boolTo (decide_eq_false h60) (eqlRun (A := x.ax) (B := 2) (.tmp 63) (.const (.int .i64 2)) rfl le_ le_)) ?_
     refine mP rfl ?_
     refine mgTake (i := 9) (v := .bool false) rfl kr_ (wgY rfl rfl rfl (by decide) kr_) (fun _ _ _ h => h) hm57 (fun w_ h_ => litRun kr_) ?_
     refine mP rfl ?_
     refine mgSkip (i := 10) rfl kr_ (wgN rfl rfl rfl (by decide) kr_) (fun _ _ _ h => h) hm57 ?_
     refine mP rfl ?_
     refine mgSkip (i := 11) rfl kr_ (wgN rfl rfl rfl (by decide) kr_) (fun _ _ _ h => h) hm57 ?_
     refine mP rfl ?_
     refine mgSkip (i := 12) rfl kr_ (wgN rfl rfl rfl (by decide) kr_) (fun _ _ _ h => h) hm57 ?_
     refine mP rfl ?_
     refine mgSkip (i := 13) rfl kr_ (wgN rfl rfl rfl (by decide) kr_) (fun _ _ _ h => h) hm57 ?_
     refine mP rfl ?_
     refine mgSkip (i := 14) rfl kr_ (wgN rfl rfl rfl (by decide) kr_) (fun _ _ _ h => h) hm57 ?_
     refine mP rfl ?_
     refine mgSkip (i := 15) rfl kr_ (wgN rfl rfl rfl (by decide) kr_) (fun _ _ _ h => h) hm57 ?_
     refine mP rfl ?_
     refine mgTake (i := 16) (v := .bool false) rfl kr_ (wgY rfl rfl rfl (by decide) kr_) (fun _ _ _ h => h) hm57 (fun w_ h_ => litRun kr_) ?_
     refine mP rfl ?_
     refine mgTake (i := 17) (v := .bool false) rfl kr_ (wgY rfl rfl rfl (by decide) kr_) (fun _ _ _ h => h) hm57 (fun w_ h_ => litRun kr_) ?_
     refine mP rfl ?_
     refine mgSkip (i := 18) rfl kr_ (wgN rfl rfl rfl (by decide) kr_) (fun _ _ _ h => h) hm57 ?_
     refine mP rfl ?_
     refine mgSkip (i := 19) rfl kr_ (wgN rfl rfl rfl (by decide) kr_) (fun _ _ _ h => h) hm57 ?_
     refine mP rfl ?_
     refine mgSkip (i := 20) rfl kr_ (wgN rfl rfl rfl (by decide) kr_) (fun _ _ _ h => h) hm57 ?_
     refine mP rfl ?_
     refine mgSkip (i := 21) rfl kr_ (wgN rfl rfl rfl (by decide) kr_) (fun _ _ _ h => h) hm57 ?_
     refine mP rfl ?_
     refine mgSkip (i := 22) rfl kr_ (wgN rfl rfl rfl (by decide) kr_) (fun _ _ _ h => h) hm57 ?_
     refine mP rfl ?_
     refine mgSkip (i := 23) rfl kr_ (wgN rfl rfl rfl (by decide) kr_) (fun _ _ _ h => h) hm57 ?_
     refine mP rfl ?_
     refine mgSkip (i := 24) rfl kr_ (wgN rfl rfl rfl (by decide) kr_) (fun _ _ _ h => h) hm57 ?_
     refine mP rfl ?_
     refine mgSkip (i := 25) rfl kr_ (wgN rfl rfl rfl (by decide) kr_) (fun _ _ _ h => h) hm57 ?_
     refine mP rfl ?_
     refine mgTake (i := 26) (v := .bool false) rfl kr_ (wgY rfl rfl rfl (by decide) kr_) (fun _ _ _ h => h) hm57 (fun w_ h_ => litRun kr_) ?_
     refine mP rfl ?_
     refine mk_ (i := 27) (v := .bool false) rfl rfl (fun _ _ _ h => h) hm57 rfl ?_
     refine mk_ (i := 28) (v := .bool false) rfl rfl (fun _ _ _ h => h) hm57 rfl ?_
     refine mgDone kr_ ?_
     refine inBlock_normal ?_
     refine tn_ hK56 ?_
     refine wpPrune [(7, .pointer (some ⟨g5, 0, none⟩)), (8, .bool false), (9, .bool true), (13, .slice xA l.length xc), (14, .pointer (some ⟨g36, 0, none⟩)), (15, .bool xin), (16, .bool false), (17, .int .i64 (k : Int)), (49, .int .i64 (k : Int)), (50, .pointer (some ⟨g36, 0, none⟩)), (51, .slice (some ⟨b55, 0, none⟩) dq.length qc), (52, .int .i64 (dq.length : Int)), (53, .bool true), (56, .bool false), (57, .bool false), (58, .pointer (some ⟨g36, 0, none⟩)), (59, .slice (some ⟨b55, 0, none⟩) dq.length qc), (60, .int .i64 (k : Int)), (61, .pointer (some ⟨b55, 0 + k * 6, none⟩)), (62, .pointer (some ⟨b55, 0 + k * 6 + 3, none⟩)), (63, .int .i64 x.ax), (64, .bool false), (65, .bool false), (72, .bool false), (73, .bool false), (82, .bool false), (83, .bool false)] fo_ (fun X63 => ?_)
     refine plStart ?_
     refine li_ k ?_
     refine lv_ rfl _ (ad_ (k : Int) 1) ?_
     refine li_ ((k : Int) + 1) ?_
     refine plD ?_
     refine then_normal ?_
     exact ⟨_, by omega, (k + 1), false, rfl, (by omega), (by rw [any_take hx, hu, h59, show undB p x = false from decide_eq_false (fun h_ => h60 h_.1)]; rfl), ⟨litSize, rfl, fo_⟩, (hm57.sub (.cons_cons _ (.cons_cons _ (.cons_cons _ (.cons_cons _ (.cons_cons _ (.cons_cons _ (.cons_cons _ (List.Sublist.refl _)))))))))⟩
   refine mt_ 0 rfl (.bool true) hm57 (fun w_ h_ => boolTo h59 (litRun kr_)) ?_
   refine mk_ (i := 1) (v := .bool true) rfl rfl (fun _ _ _ h => h) hm57 rfl ?_
   refine mgSkip (i := 2) rfl kr_ (wgN rfl rfl rfl (by decide) kr_) (fun _ _ _ h => h) hm57 ?_
   refine mP rfl ?_
   refine mgSkip (i := 3) rfl kr_ (wgN rfl rfl rfl (by decide) kr_) (fun _ _ _ h => h) hm57 ?_
   refine mP rfl ?_
   refine mgSkip (i := 4) rfl kr_ (wgN rfl rfl rfl (by decide) kr_) (fun _ _ _ h => h) hm57 ?_
   refine mP rfl ?_
   refine mgSkip (i := 5) rfl kr_ (wgN rfl rfl rfl (by decide) kr_) (fun _ _ _ h => h) hm57 ?_
   refine mP rfl ?_
   refine mgSkip (i := 6) rfl kr_ (wgN rfl rfl rfl (by decide) kr_) (fun _ _ _ h => h) hm57 ?_
   refine mP rfl ?_
   refine mgSkip (i := 7) rfl kr_ (wgN rfl rfl rfl (by decide) kr_) (fun _ _ _ h => h) hm57 ?_
   refine mP rfl ?_
   refine mgSkip (i := 8) rfl kr_ (wgN rfl rfl rfl (by decide) kr_) (fun _ _ _ h => h) hm57 ?_
   refine mP rfl ?_
   refine mgSkip (i := 9) rfl kr_ (wgN rfl rfl rfl (by decide) kr_) (fun _ _ _ h => h) hm57 ?_
   refine mP rfl ?_
   refine mgSkip (i := 10) rfl kr_ (wgU rfl rfl rfl (by decide) kr_) (fun _ _ _ h => h) hm57 ?_
   refine mP rfl ?_
   refine mgSkip (i := 11) rfl kr_ (wgU rfl rfl rfl (by decide) kr_) (fun _ _ _ h => h) hm57 ?_
   refine mP rfl ?_
   refine mgSkip (i := 12) rfl kr_ (wgU rfl rfl rfl (by decide) kr_) (fun _ _ _ h => h) hm57 ?_
   refine mP rfl ?_
   refine mgSkip (i := 13) rfl kr_ (wgU rfl rfl rfl (by decide) kr_) (fun _ _ _ h => h) hm57 ?_
   refine mP rfl ?_
   refine mgSkip (i := 14) rfl kr_ (wgU rfl rfl rfl (by decide) kr_) (fun _ _ _ h => h) hm57 ?_
   refine mP rfl ?_
   refine mgSkip (i := 15) rfl kr_ (wgU rfl rfl rfl (by decide) kr_) (fun _ _ _ h => h) hm57 ?_
   refine mP rfl ?_
   refine mgSkip (i := 16) rfl kr_ (wgN rfl rfl rfl (by decide) kr_) (fun _ _ _ h => h) hm57 ?_
   refine mP rfl ?_
   refine mgSkip (i := 17) rfl kr_ (wgN rfl rfl rfl (by decide) kr_) (fun _ _ _ h => h) hm57 ?_
   refine mP rfl ?_
   refine mgSkip (i := 18) rfl kr_ (wgU rfl rfl rfl (by decide) kr_) (fun _ _ _ h => h) hm57 ?_
   refine mP rfl ?_
   refine mgSkip (i := 19) rfl kr_ (wgU rfl rfl rfl (by decide) kr_) (fun _ _ _ h => h) hm57 ?_
   refine mP rfl ?_
   refine mgSkip (i := 20) rfl kr_ (wgU rfl rfl rfl (by decide) kr_) (fun _ _ _ h => h) hm57 ?_
   refine mP rfl ?_
   refine mgSkip (i := 21) rfl kr_ (wgU rfl rfl rfl (by decide) kr_) (fun _ _ _ h => h) hm57 ?_
   refine mP rfl ?_
   refine mgSkip (i := 22) rfl kr_ (wgU rfl rfl rfl (by decide) kr_) (fun _ _ _ h => h) hm57 ?_
   refine mP rfl ?_
   refine mgSkip (i := 23) rfl kr_ (wgU rfl rfl rfl (by decide) kr_) (fun _ _ _ h => h) hm57 ?_
   refine mP rfl ?_
   refine mgSkip (i := 24) rfl kr_ (wgU rfl rfl rfl (by decide) kr_) (fun _ _ _ h => h) hm57 ?_
   refine mP rfl ?_
   refine mgSkip (i := 25) rfl kr_ (wgU rfl rfl rfl (by decide) kr_) (fun _ _ _ h => h) hm57 ?_
   refine mP rfl ?_
   refine mgSkip (i := 26) rfl kr_ (wgN rfl rfl rfl (by decide) kr_) (fun _ _ _ h => h) hm57 ?_
   refine mP rfl ?_
   refine mk_ (i := 27) (v := .bool true) rfl rfl (fun _ _ _ h => h) hm57 rfl ?_
   refine mk_ (i := 28) (v := .bool true) rfl rfl (fun _ _ _ h => h) hm57 rfl ?_
   refine mgDone kr_ ?_
   refine inBlock_normal ?_
   refine tn_ hK56 ?_
   refine wpPrune [(7, .pointer (some ⟨g5, 0, none⟩)), (8, .bool false), (9, .bool true), (13, .slice xA l.length xc), (14, .pointer (some ⟨g36, 0, none⟩)), (15, .bool xin), (16, .bool true), (17, .int .i64 (k : Int)), (49, .int .i64 (k : Int)), (50, .pointer (some ⟨g36, 0, none⟩)), (51, .slice (some ⟨b55, 0, none⟩) dq.length qc), (52, .int .i64 (dq.length : Int)), (53, .bool true), (56, .bool true), (57, .bool true), (83, .bool true)] fo_ (fun X64 => ?_)
   refine plStart ?_
   refine li_ k ?_
   refine lv_ rfl _ (ad_ (k : Int) 1) ?_
   refine li_ ((k : Int) + 1) ?_
   refine plD ?_
   refine then_normal ?_
   exact ⟨_, by omega, (k + 1), true, rfl, (by omega), (by rw [any_take hx, hu, h59]; rfl), ⟨litSize, rfl, fo_⟩, (hm57.sub (.cons_cons _ (.cons_cons _ (.cons_cons _ (.cons_cons _ (.cons_cons _ (.cons_cons _ (.cons_cons _ (List.Sublist.refl _)))))))))⟩
 have huu_ : u = xun := by rw [← hu, List.take_of_length_le (by omega)]; exact hUn_
 rw [huu_]
 refine lv_ rfl _ (lsF_ h54) ?_
 refine pt_ hK53 ?_
 refine wp_cond_false le_ ?_
 refine wp_exit ?_
 refine then_exit ?_
 refine then_exit ?_
 refine inBlock_exit ?_
 refine tn_ hK46 ?_
 refine sp_ fun _ hK65 => ?_
 rcases bool_or xin with h66 | h66
 · rw [h66]
   refine lT_ ?_
   refine lT_ ?_
   refine lw_ rfl (.slice xA l.length xc) (litRun kr_) ?_
   refine lw_ rfl (.agg (pcs p).toArray) (la_ 0 1 hm49 Ty.ag_voxel_api_Point) ?_
   refine plCall (i := 4) 12 [.agg (pcs p).toArray] [] [] rfl kr_ (wgY rfl rfl rfl (by decide) kr_) rfl le_ (litArgs kr_) (cellBox_any p hpw_ _) ?_
   rintro e w67 ⟨rfl, hbz⟩
   have hm68 := hm49.below hbz
   clear hbz hm49
   refine ⟨_, rfl, ?_⟩
   refine qP rfl ?_
   refine plCall (i := 5) 11 [.slice xA l.length xc, .agg (bxs (unitB p)).toArray] [] [] rfl kr_ (wgY rfl rfl rfl (by decide) kr_) rfl le_ (litArgs kr_) (by have h_ := overlap_any l hll_ p xA xc _ (hm68.rdRow 4 rfl); rw [hOv_] at h_; exact h_) ?_
   rintro e w69 ⟨rfl, hbz⟩
   have hm70 := hm68.below hbz
   clear hbz hm68
   rw [h66]
   refine ⟨_, rfl, ?_⟩
   refine qP rfl ?_
   refine lw_ rfl (.bool false) (litRun kr_) ?_
   refine lw_ rfl (.bool true) (litRun kr_) ?_
   refine lT_ ?_
   refine lT_ ?_
   refine lw_ rfl (.slice xA l.length xc) (litRun kr_) ?_
   refine lw_ rfl (.agg (pcs p).toArray) (la_ 0 1 hm70 Ty.ag_voxel_api_Point) ?_
   refine plCall (i := 12) 12 [.agg (pcs p).toArray] [] [] rfl kr_ (wgY rfl rfl rfl (by decide) kr_) rfl le_ (litArgs kr_) (cellBox_any p hpw_ _) ?_
   rintro e w71 ⟨rfl, hbz⟩
   have hm72 := hm70.below hbz
   clear hbz hm70
   refine ⟨_, rfl, ?_⟩
   refine qP rfl ?_
   refine plCall (i := 13) 13 [.slice xA l.length xc, .agg (bxs (unitB p)).toArray] [] [] rfl kr_ (wgY rfl rfl rfl (by decide) kr_) rfl le_ (litArgs kr_) (by have h_ := rests_any l hll_ p hpw_ xA xc _ (hm72.rdRow 4 rfl); rw [hRs_] at h_; exact h_) ?_
   rintro e w73 ⟨rfl, hbz⟩
   have hm74 := hm72.below hbz
   clear hbz hm72
   refine ⟨_, rfl, ?_⟩
   refine qP rfl ?_
   rcases bool_or (xun) with h75 | h75
   · rw [h75]
     refine lw_ rfl (.bool false) (litRun kr_) ?_
     refine lw_ rfl (.bool true) (litRun kr_) ?_
     refine lw_ rfl (.bool true) (litRun kr_) ?_
     refine lw_ rfl (.bool false) (litRun kr_) ?_
     refine lw_ rfl (.bool false) (litRun kr_) ?_
     refine lw_ rfl (.bool true) (litRun kr_) ?_
     refine lT_ ?_
     refine lT_ ?_
     refine pt_ hK65 ?_
     refine wpPrune [(8, .bool true)] fo_ (fun X76 => ?_)
     refine wp_ret ?_
     refine br_ 8 (.bool true) ?_
     exact ⟨rfl, hm74.bel⟩
   rw [h75]
   refine lw_ rfl (.bool false) (litRun kr_) ?_
   refine lw_ rfl (.bool true) (litRun kr_) ?_
   refine lw_ rfl (.bool true) (litRun kr_) ?_
   refine lw_ rfl (.bool true) (litRun kr_) ?_
   refine lw_ rfl (.bool true) (litRun kr_) ?_
   refine lw_ rfl (.bool true) (litRun kr_) ?_
   refine lT_ ?_
   refine lT_ ?_
   refine pt_ hK65 ?_
   refine wpPrune [(8, .bool true)] fo_ (fun X77 => ?_)
   refine wp_ret ?_
   refine br_ 8 (.bool true) ?_
   exact ⟨rfl, hm74.bel⟩
 rw [h66]
 refine lT_ ?_
 refine lT_ ?_
 refine lw_ rfl (.slice xA l.length xc) (litRun kr_) ?_
 refine lw_ rfl (.agg (pcs p).toArray) (la_ 0 1 hm49 Ty.ag_voxel_api_Point) ?_
 refine plCall (i := 4) 12 [.agg (pcs p).toArray] [] [] rfl kr_ (wgY rfl rfl rfl (by decide) kr_) rfl le_ (litArgs kr_) (cellBox_any p hpw_ _) ?_
 rintro e w78 ⟨rfl, hbz⟩
 have hm79 := hm49.below hbz
 clear hbz hm49
 refine ⟨_, rfl, ?_⟩
 refine qP rfl ?_
 refine plCall (i := 5) 11 [.slice xA l.length xc, .agg (bxs (unitB p)).toArray] [] [] rfl kr_ (wgY rfl rfl rfl (by decide) kr_) rfl le_ (litArgs kr_) (by have h_ := overlap_any l hll_ p xA xc _ (hm79.rdRow 4 rfl); rw [hOv_] at h_; exact h_) ?_
 rintro e w80 ⟨rfl, hbz⟩
 have hm81 := hm79.below hbz
 clear hbz hm79
 rw [h66]
 refine ⟨_, rfl, ?_⟩
 refine qP rfl ?_
 refine lw_ rfl (.bool true) (litRun kr_) ?_
 refine lw_ rfl (.bool true) (litRun kr_) ?_
 refine lT_ ?_
 refine lT_ ?_
 refine lw_ rfl (.slice xA l.length xc) (litRun kr_) ?_
 refine lw_ rfl (.agg (pcs p).toArray) (la_ 0 1 hm81 Ty.ag_voxel_api_Point) ?_
 refine plCall (i := 12) 12 [.agg (pcs p).toArray] [] [] rfl kr_ (wgY rfl rfl rfl (by decide) kr_) rfl le_ (litArgs kr_) (cellBox_any p hpw_ _) ?_
 rintro e w82 ⟨rfl, hbz⟩
 have hm83 := hm81.below hbz
 clear hbz hm81
 refine ⟨_, rfl, ?_⟩
 refine qP rfl ?_
 refine plCall (i := 13) 13 [.slice xA l.length xc, .agg (bxs (unitB p)).toArray] [] [] rfl kr_ (wgY rfl rfl rfl (by decide) kr_) rfl le_ (litArgs kr_) (by have h_ := rests_any l hll_ p hpw_ xA xc _ (hm83.rdRow 4 rfl); rw [hRs_] at h_; exact h_) ?_
 rintro e w84 ⟨rfl, hbz⟩
 have hm85 := hm83.below hbz
 clear hbz hm83
 rw [(hx1_ h66)]
 refine ⟨_, rfl, ?_⟩
 refine qP rfl ?_
 refine lw_ rfl (.bool true) (litRun kr_) ?_
 refine lw_ rfl (.bool false) (litRun kr_) ?_
 refine lw_ rfl (.bool false) (litRun kr_) ?_
 refine ps_ (i := 17) ?_
 refine lw_ rfl (.bool false) (litRun kr_) ?_
 refine lw_ rfl (.bool true) (litRun kr_) ?_
 refine lT_ ?_
 refine lT_ ?_
 refine pt_ hK65 ?_
 refine wpPrune [(8, .bool true)] fo_ (fun X86 => ?_)
 refine wp_ret ?_
 refine br_ 8 (.bool true) ?_
 exact ⟨rfl, hm85.bel⟩
end Go.Proofs.YtbpihalphhoiaaaGreatDoor
