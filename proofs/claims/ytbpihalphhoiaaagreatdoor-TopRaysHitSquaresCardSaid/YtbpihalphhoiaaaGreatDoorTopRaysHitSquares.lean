/-
  TopRaysHitSquares: the walk of the law. The statement itself is proved in the text TopRaysHitSquaresProof.
-/
import Derived.Test.YtbpihalphhoiaaaGreatDoorMZ
import Derived.Test.YtbpihalphhoiaaaGreatDoorMJ
set_option maxRecDepth 100000
set_option maxHeartbeats 4000000
set_option linter.unusedVariables false
set_option linter.unusedSimpArgs false
namespace Go.Proofs.YtbpihalphhoiaaaGreatDoor
open Go.RowKit

theorem fullD_any (g : Gr) (A : Option Addr) (c : Nat) (d : Int) (w : World) (hrd : Rd w w.heap.size 1 A g.cells.length c (ics g.cells)) : Calls Tryz.prog 6 #[.agg (gcs g A c).toArray, .int .i64 d] w (fun e w' => (e = .returned (.tuple #[.slice none 0 0, .slice none 0 0, .bool false]) ∧ Below w.heap.size w w') ∨
    ∃ (n : Nat) (Es : List Ent) (A1 A2 : Option Addr) (c1 c2 : Nat), (n = 1 ∨ n = 8) ∧ g.Valid ∧ g.box = cubeB (sideN n) ∧ e = .returned (.tuple #[.slice A1 n c1, .slice A2 Es.length c2, .bool true]) ∧ Es.map (·.ids) = cellsG g n ∧ Mem w w' (.row (.slice A2 Es.length c2) 26 1 Es.length (Es.map entV) :: .row (.slice A1 n c1) 63 4 n (tlsC (planL n)) :: Es.map rowE)) := by
  by_cases h2 : d = 2
  · subst h2
    refine (fulld_any g A c 2 4 1 (Or.inl ⟨rfl, rfl, rfl⟩) w hrd).mono ?_
    rintro e w' (⟨_, h1, h3⟩ | ⟨⟨h1, h3⟩, Es, A1, A2, c1, c2, h4, h5, h6⟩)
    · exact Or.inl ⟨h1, h3⟩
    · exact Or.inr ⟨1, Es, A1, A2, c1, c2, Or.inl rfl, h1, h3, h4, h5, h6⟩
  · by_cases h3 : d = 3
    · subst h3
      refine (fulld_any g A c 3 8 8 (Or.inr ⟨rfl, rfl, rfl⟩) w hrd).mono ?_
      rintro e w' (⟨_, h1, h3⟩ | ⟨⟨h1, h3⟩, Es, A1, A2, c1, c2, h4, h5, h6⟩)
      · exact Or.inl ⟨h1, h3⟩
      · exact Or.inr ⟨8, Es, A1, A2, c1, c2, Or.inr rfl, h1, h3, h4, h5, h6⟩
    · exact (fullno_any g A c d (fun h => h.elim h2 h3) w).mono fun e w' h => Or.inl h
theorem rowsOnly {A1 A2 : Option Addr} {n c1 c2 : Nat} {t1 t2 : TypeId} {xs : List Value} {Es : List Ent} : ∀ r ∈ (.row (.slice A2 Es.length c2) t1 1 Es.length (Es.map entV) :: .row (.slice A1 n c1) t2 4 n xs :: Es.map rowE : List Res), ∃ v e size n xs, r = .row v e size n xs := by
  intro r hr
  rcases List.mem_cons.1 hr with rfl | hr
  · exact ⟨_, _, _, _, _, rfl⟩
  rcases List.mem_cons.1 hr with rfl | hr
  · exact ⟨_, _, _, _, _, rfl⟩
  obtain ⟨e, _, rfl⟩ := List.mem_map.1 hr
  exact ⟨_, _, _, _, _, rfl⟩
theorem hit_yes {q u : Pt} {x : Qd} (h1 : solidP x = q) (h2 : emptyP x = u) : hitB q u x = true := by unfold hitB; rw [decide_eq_true h1, decide_eq_true h2]; rfl
theorem hit_no1 {q u : Pt} {x : Qd} (h1 : ¬ solidP x = q) : hitB q u x = false := by unfold hitB; rw [decide_eq_false h1]; rfl
theorem hit_no2 {q u : Pt} {x : Qd} (h2 : ¬ emptyP x = u) : hitB q u x = false := by unfold hitB; rw [decide_eq_false h2, Bool.and_false]
theorem cnt_succ {p : Qd → Bool} {l : List Qd} {k : Nat} {x : Qd} (h : l[k]? = some x) : (l.take (k + 1)).countP p = (l.take k).countP p + (if p x then 1 else 0) := by
  rw [List.take_add_one, h, List.countP_append]
  simp [List.countP_cons]
theorem mulOk {x y : Int} (hx : -100 ≤ x ∧ x ≤ 100) (hy : -100 ≤ y ∧ y ≤ 100) : -10000 ≤ x * y ∧ x * y ≤ 10000 := by
  have a1 := Int.mul_nonneg (show 0 ≤ 100 - x by omega) (show 0 ≤ 100 - y by omega)
  have a2 := Int.mul_nonneg (show 0 ≤ 100 + x by omega) (show 0 ≤ 100 + y by omega)
  have a3 := Int.mul_nonneg (show 0 ≤ 100 - x by omega) (show 0 ≤ 100 + y by omega)
  have a4 := Int.mul_nonneg (show 0 ≤ 100 + x by omega) (show 0 ≤ 100 - y by omega)
  simp only [Int.sub_mul, Int.mul_sub, Int.add_mul, Int.mul_add] at a1 a2 a3 a4
  omega
theorem walk_TopRaysHitSquares (g : Gr) (A : Option Addr) (c : Nat) (d : Int) (T : List Mat) (A2 : Option Addr) (c2 : Nat) (a b : Pt) (w : World) (hsd : SidesIn w) (hrd : Rd w w.heap.size 1 A g.cells.length c (ics g.cells)) (_hd : -9223372036854775808 ≤ d ∧ d ≤ 9223372036854775807) (htb : Rd w w.heap.size 8 A2 T.length c2 (mts T)) (_b0 : -9223372036854775808 ≤ a.x ∧ a.x ≤ 9223372036854775807) (_b1 : -9223372036854775808 ≤ a.y ∧ a.y ≤ 9223372036854775807) (_b2 : -9223372036854775808 ≤ a.z ∧ a.z ≤ 9223372036854775807) (_c0 : -9223372036854775808 ≤ b.x ∧ b.x ≤ 9223372036854775807) (_c1 : -9223372036854775808 ≤ b.y ∧ b.y ≤ 9223372036854775807) (_c2 : -9223372036854775808 ≤ b.z ∧ b.z ≤ 9223372036854775807) : Calls Tryz.prog 4 #[.agg (gcs g A c).toArray, .int .i64 d, .slice A2 T.length c2, .agg (pcs a).toArray, .agg (pcs b).toArray] w (RetV w (.bool true)) := by
 have hm0 := Mem.nil w
 go_enter Tryz.func4, Tryz.ntmps4
 refine litStart 162 [(0, .agg (gcs g A c).toArray), (1, .int .i64 d), (2, .slice A2 T.length c2), (3, .agg (pcs a).toArray), (4, .agg (pcs b).toArray)] kr_ (fun X0 => ?_)
 refine sp_ fun _ hK1 => ?_
 refine plBox hm0 (cs := gcs g A c) (i := 0) rfl (wn rfl) rfl le_ ?_
 intro g2 w4 hm3
 clear hm0
 try simp only [lc_] at hm3
 refine qP rfl ?_
 refine plBox hm3 (cs := pcs a) (i := 1) rfl (wn rfl) rfl le_ ?_
 intro g5 w7 hm6
 clear hm3
 try simp only [lc_] at hm6
 refine qP rfl ?_
 refine plBox hm6 (cs := pcs b) (i := 2) rfl (wn rfl) rfl le_ ?_
 intro g8 w10 hm9
 clear hm6
 try simp only [lc_] at hm9
 refine qP rfl ?_
 refine lF_ ?_
 refine pt_ hK1 ?_
 refine sp_ fun _ hK11 => ?_
 refine plCall (i := 0) 5 [] [] [] rfl kr_ (wn rfl) rfl le_ (litArgs kr_) (ball_any _ (hsd.below hm9.bel)) ?_
 rintro e w12 ⟨rfl, hbz⟩
 have hm13 := hm9.below hbz
 clear hbz hm9
 refine ⟨_, rfl, ?_⟩
 refine qP rfl ?_
 refine lT_ ?_
 refine pt_ hK11 ?_
 refine sp_ fun _ hK14 => ?_
 refine lv_ rfl (.agg (gcs g A c).toArray) (la_ 0 0 hm13 Ty.ag_voxel_api_Grid) ?_
 refine li_ d ?_
 refine plCall (i := 2) 6 [.agg (gcs g A c).toArray, .int .i64 d] [] [] rfl kr_ (wn rfl) rfl le_ (litArgs kr_) (fullD_any g A c d _ ((Rd.below hrd hm13.bel).more hm13.bel.size)) ?_
 rintro e w16 (⟨rfl, hbz⟩ | ⟨n, Es, A1, A3, c1, c3, hn, hvd, hbx, rfl, hE, hmm_⟩)
 · have hm15 := hm13.below hbz
   clear hbz hm13
   refine ⟨_, rfl, ?_⟩
   refine qP rfl ?_
   refine lk_ (.tuple #[.slice none 0 0, .slice none 0 0, .bool false]) ?_
   refine lk_ (.slice none 0 0) ?_
   refine lk_ (.slice none 0 0) ?_
   refine lF_ ?_
   refine lk_ (.slice none 0 0) ?_
   refine lk_ (.slice none 0 0) ?_
   refine lF_ ?_
   refine pt_ hK14 ?_
   refine sk_ fun _ hK17 => ?_
   refine sp_ fun _ hK18 => ?_
   refine lF_ ?_
   refine lT_ ?_
   refine lT_ ?_
   refine ps_ (i := 3) ?_
   refine ps_ (i := 4) ?_
   refine ps_ (i := 5) ?_
   refine lT_ ?_
   refine lT_ ?_
   refine ps_ (i := 8) ?_
   refine ps_ (i := 9) ?_
   refine ps_ (i := 10) ?_
   refine lT_ ?_
   refine lT_ ?_
   refine ps_ (i := 13) ?_
   refine ps_ (i := 14) ?_
   refine ps_ (i := 15) ?_
   refine lT_ ?_
   refine pt_ hK18 ?_
   refine wpPrune [(2, .slice A2 T.length c2), (5, .pointer (some ⟨g2, 0, none⟩)), (8, .pointer (some ⟨g5, 0, none⟩)), (9, .pointer (some ⟨g8, 0, none⟩)), (10, .bool false), (11, .bool true), (12, .slice none 0 0), (13, .slice none 0 0), (48, .bool true)] fo_ (fun X19 => ?_)
   refine wp_cond_true le_ ?_
   refine sp_ fun _ hK20 => ?_
   refine lT_ ?_
   refine lT_ ?_
   refine pt_ hK20 ?_
   refine wp_ret ?_
   refine then_ret ?_
   refine br_ 10 (.bool true) ?_
   exact ⟨rfl, hm15.bel⟩
 obtain rfl : n = Es.length := by have h_ := congrArg List.length hE; rw [List.length_map] at h_; simp [cellsG] at h_; omega
 have hm15 := hm13.join hmm_ rowsOnly
 clear hmm_ hm13
 have hm21 : Mem w w16 ((.arr g2 28 (gcs g A c)) :: (.arr g5 23 (pcs a)) :: (.arr g8 23 (pcs b)) :: (.row (.slice A3 Es.length c3) 26 1 Es.length (Es.map entV)) :: (.row (.slice A1 Es.length c1) 63 4 Es.length (tlsC (planL Es.length))) :: (Es.map rowE)) := hm15
 clear hm15
 refine ⟨_, rfl, ?_⟩
 refine qP rfl ?_
 have hse_ := fun p => solid_eq (g := g) (T := T) hn hbx p
 refine lk_ (.tuple #[.slice A1 Es.length c1, .slice A3 Es.length c3, .bool true]) ?_
 refine lk_ (.slice A1 Es.length c1) ?_
 refine lk_ (.slice A3 Es.length c3) ?_
 refine lT_ ?_
 refine lk_ (.slice A1 Es.length c1) ?_
 refine lk_ (.slice A3 Es.length c3) ?_
 refine lT_ ?_
 refine pt_ hK14 ?_
 refine sk_ fun _ hK22 => ?_
 refine sp_ fun _ hK23 => ?_
 refine lT_ ?_
 refine lF_ ?_
 refine lF_ ?_
 refine lw_ rfl (.slice A2 T.length c2) (litRun kr_) ?_
 refine lw_ rfl (.int .i64 (T.length : Int)) (ln_ A2 T.length c2 Ty.und_L_api_Material) ?_
 by_cases h24 : 20 < (T.length : Int)
 · refine lw_ rfl _ (gtT_ h24) ?_
   refine lT_ ?_
   refine lT_ ?_
   refine ps_ (i := 8) ?_
   refine ps_ (i := 9) ?_
   refine ps_ (i := 10) ?_
   refine lT_ ?_
   refine lT_ ?_
   refine ps_ (i := 13) ?_
   refine ps_ (i := 14) ?_
   refine ps_ (i := 15) ?_
   refine lT_ ?_
   refine pt_ hK23 ?_
   refine wpPrune [(2, .slice A2 T.length c2), (5, .pointer (some ⟨g2, 0, none⟩)), (8, .pointer (some ⟨g5, 0, none⟩)), (9, .pointer (some ⟨g8, 0, none⟩)), (10, .bool false), (11, .bool true), (12, .slice A1 Es.length c1), (13, .slice A3 Es.length c3), (48, .bool true)] fo_ (fun X25 => ?_)
   refine wp_cond_true le_ ?_
   refine sp_ fun _ hK26 => ?_
   refine lT_ ?_
   refine lT_ ?_
   refine pt_ hK26 ?_
   refine wp_ret ?_
   refine then_ret ?_
   refine br_ 10 (.bool true) ?_
   exact ⟨rfl, hm21.bel⟩
 refine lw_ rfl _ (gtF_ h24) ?_
 refine lF_ ?_
 refine lF_ ?_
 refine lw_ rfl (.agg (pcs a).toArray) (la_ 0 1 hm21 Ty.ag_voxel_api_Point) ?_
 refine plCall (i := 9) 7 [.agg (pcs a).toArray] [] [] rfl kr_ (wgY rfl rfl rfl (by decide) kr_) rfl le_ (litArgs kr_) (topnear_any a _) ?_
 rintro e w27 ⟨rfl, hbz⟩
 have hm28 := hm21.below hbz
 clear hbz hm21
 refine ⟨_, rfl, ?_⟩
 refine qP rfl ?_
 rcases bool_or (decide (nearB.has a)) with h29 | h29
 · rw [h29]
   refine lw_ rfl (.bool true) (litRun kr_) ?_
   refine lT_ ?_
   refine lT_ ?_
   refine ps_ (i := 13) ?_
   refine ps_ (i := 14) ?_
   refine ps_ (i := 15) ?_
   refine lT_ ?_
   refine pt_ hK23 ?_
   refine wpPrune [(2, .slice A2 T.length c2), (5, .pointer (some ⟨g2, 0, none⟩)), (8, .pointer (some ⟨g5, 0, none⟩)), (9, .pointer (some ⟨g8, 0, none⟩)), (10, .bool false), (11, .bool true), (12, .slice A1 Es.length c1), (13, .slice A3 Es.length c3), (48, .bool true)] fo_ (fun X30 => ?_)
   refine wp_cond_true le_ ?_
   refine sp_ fun _ hK31 => ?_
   refine lT_ ?_
   refine lT_ ?_
   refine pt_ hK31 ?_
   refine wp_ret ?_
   refine then_ret ?_
   refine br_ 10 (.bool true) ?_
   exact ⟨rfl, hm28.bel⟩
 rw [h29]
 refine lw_ rfl (.bool false) (litRun kr_) ?_
 refine lF_ ?_
 refine lF_ ?_
 refine lw_ rfl (.agg (pcs b).toArray) (la_ 0 2 hm28 Ty.ag_voxel_api_Point) ?_
 refine plCall (i := 14) 7 [.agg (pcs b).toArray] [] [] rfl kr_ (wgY rfl rfl rfl (by decide) kr_) rfl le_ (litArgs kr_) (topnear_any b _) ?_
 rintro e w32 ⟨rfl, hbz⟩
 have hm33 := hm28.below hbz
 clear hbz hm28
 refine ⟨_, rfl, ?_⟩
 refine qP rfl ?_
 rcases bool_or (decide (nearB.has b)) with h34 | h34
 · rw [h34]
   refine lw_ rfl (.bool true) (litRun kr_) ?_
   refine lT_ ?_
   refine pt_ hK23 ?_
   refine wpPrune [(2, .slice A2 T.length c2), (5, .pointer (some ⟨g2, 0, none⟩)), (8, .pointer (some ⟨g5, 0, none⟩)), (9, .pointer (some ⟨g8, 0, none⟩)), (10, .bool false), (11, .bool true), (12, .slice A1 Es.length c1), (13, .slice A3 Es.length c3), (48, .bool true)] fo_ (fun X35 => ?_)
   refine wp_cond_true le_ ?_
   refine sp_ fun _ hK36 => ?_
   refine lT_ ?_
   refine lT_ ?_
   refine pt_ hK36 ?_
   refine wp_ret ?_
   refine then_ret ?_
   refine br_ 10 (.bool true) ?_
   exact ⟨rfl, hm33.bel⟩
 rw [h34]
 refine lw_ rfl (.bool false) (litRun kr_) ?_
 refine lF_ ?_
 refine pt_ hK23 ?_
 refine wpPrune [(2, .slice A2 T.length c2), (5, .pointer (some ⟨g2, 0, none⟩)), (8, .pointer (some ⟨g5, 0, none⟩)), (9, .pointer (some ⟨g8, 0, none⟩)), (10, .bool false), (11, .bool true), (12, .slice A1 Es.length c1), (13, .slice A3 Es.length c3), (48, .bool false)] fo_ (fun X37 => ?_)
 refine wp_cond_false le_ ?_
 refine wp_skip ?_
 refine tn_ hK22 ?_
 refine sp_ fun _ hK38 => ?_
 refine lv_ rfl (.agg (gcs g A c).toArray) (la_ 0 0 hm33 Ty.ag_voxel_api_Grid) ?_
 refine lk_ (.agg ([.int .i64 g.box.mn.x, .int .i64 g.box.mn.y, .int .i64 g.box.mn.z, .int .i64 g.box.mx.x, .int .i64 g.box.mx.y, .int .i64 g.box.mx.z, .slice A g.cells.length c]).toArray) ?_
 refine plAlloc (z := [.int .i64 0, .int .i64 0, .int .i64 0, .int .i64 0, .int .i64 0, .int .i64 0, .slice none 0 0]) Ty.ag_voxel_voxeltop_gridField hm33 (i := 2) rfl (wn rfl) rfl ?_
 intro g39 w41 hm40
 clear hm33
 try simp only [lc_] at hm40
 replace hm40 := hm40.i5
 refine qP rfl ?_
 refine plStore 5 Ty.ag_voxel_voxeltop_gridField hm40 rfl (i := 3) (cs := [.int .i64 g.box.mn.x, .int .i64 g.box.mn.y, .int .i64 g.box.mn.z, .int .i64 g.box.mx.x, .int .i64 g.box.mx.y, .int .i64 g.box.mx.z, .slice A g.cells.length c]) rfl (wn rfl) rfl le_ le_ rfl rfl kr_ ?_
 intro w43 hm42
 clear hm40
 try simp only [lc_] at hm42
 refine qNone rfl ?_
 refine pt_ hK38 ?_
 refine sp_ fun _ hK44 => ?_
 have hna_ := of_decide_eq_true h29
 have hnb_ := of_decide_eq_true h34
 have hck_ := near_ck hna_ hnb_
 rcases hfs : firstSol (solidAt g T) (walk a b) 0 with _ | ⟨k, q⟩
 · refine lv_ rfl (.agg ([.int .i64 g.box.mn.x, .int .i64 g.box.mn.y, .int .i64 g.box.mn.z, .int .i64 g.box.mx.x, .int .i64 g.box.mx.y, .int .i64 g.box.mx.z, .slice A g.cells.length c]).toArray) (la_ 0 5 hm42 Ty.ag_voxel_voxeltop_gridField) ?_
   refine lk_ (.iface 50 (.agg ([.int .i64 g.box.mn.x, .int .i64 g.box.mn.y, .int .i64 g.box.mn.z, .int .i64 g.box.mx.x, .int .i64 g.box.mx.y, .int .i64 g.box.mx.z, .slice A g.cells.length c]).toArray)) ?_
   refine lk_ (.slice A2 T.length c2) ?_
   refine lv_ rfl (.agg (pcs a).toArray) (la_ 0 1 hm42 Ty.ag_voxel_api_Point) ?_
   refine lv_ rfl (.agg (pcs b).toArray) (la_ 0 2 hm42 Ty.ag_voxel_api_Point) ?_
   refine plCall (i := 5) 14 [.iface 50 (.agg ([.int .i64 g.box.mn.x, .int .i64 g.box.mn.y, .int .i64 g.box.mn.z, .int .i64 g.box.mx.x, .int .i64 g.box.mx.y, .int .i64 g.box.mx.z, .slice A g.cells.length c]).toArray), .slice A2 T.length c2, .agg (pcs a).toArray, .agg (pcs b).toArray] [] [] rfl kr_ (wn rfl) rfl le_ (litArgs kr_) (by have h_ := first_any g hvd T A c A2 c2 a b _ ((Rd.below hrd hm42.bel).more hm42.bel.size) ((Rd.below htb hm42.bel).more hm42.bel.size); rw [firstH_none hck_ hfs, firstE_none hck_ hfs] at h_; exact h_) ?_
   rintro e w45 ⟨rfl, hbz⟩
   have hm46 := hm42.below hbz
   clear hbz hm42
   refine ⟨_, rfl, ?_⟩
   refine qP rfl ?_
   refine lk_ (.tuple #[.agg (hcs p0 p0 0).toArray, .int .i64 9]) ?_
   refine lk_ (.agg (hcs p0 p0 0).toArray) ?_
   refine li_ 9 ?_
   refine plAlloc (z := [.int .i64 0, .int .i64 0, .int .i64 0, .int .i64 0, .int .i64 0, .int .i64 0, .int .i64 0]) Ty.ag_voxel_ray_Hit hm46 (i := 9) rfl (wn rfl) rfl ?_
   intro g47 w49 hm48
   clear hm46
   try simp only [lc_] at hm48
   replace hm48 := hm48.i6
   refine qP rfl ?_
   refine plStore 6 Ty.ag_voxel_ray_Hit hm48 rfl (i := 10) (cs := hcs p0 p0 0) rfl (wn rfl) rfl le_ le_ rfl rfl kr_ ?_
   intro w51 hm50
   clear hm48
   try simp only [lc_] at hm50
   refine qNone rfl ?_
   refine li_ 9 ?_
   refine pt_ hK44 ?_
   refine wpPrune [(2, .slice A2 T.length c2), (8, .pointer (some ⟨g5, 0, none⟩)), (9, .pointer (some ⟨g8, 0, none⟩)), (10, .bool false), (11, .bool true), (12, .slice A1 Es.length c1), (13, .slice A3 Es.length c3), (15, .pointer (some ⟨g39, 0, none⟩)), (16, .pointer (some ⟨g47, 0, none⟩)), (17, .int .i64 9)] fo_ (fun X52 => ?_)
   refine sp_ fun _ hK53 => ?_
   refine lv_ rfl (.agg ([.int .i64 g.box.mn.x, .int .i64 g.box.mn.y, .int .i64 g.box.mn.z, .int .i64 g.box.mx.x, .int .i64 g.box.mx.y, .int .i64 g.box.mx.z, .slice A g.cells.length c]).toArray) (la_ 0 5 hm50 Ty.ag_voxel_voxeltop_gridField) ?_
   refine lk_ (.iface 50 (.agg ([.int .i64 g.box.mn.x, .int .i64 g.box.mn.y, .int .i64 g.box.mn.z, .int .i64 g.box.mx.x, .int .i64 g.box.mx.y, .int .i64 g.box.mx.z, .slice A g.cells.length c]).toArray)) ?_
   refine lk_ (.slice A2 T.length c2) ?_
   refine lv_ rfl (.agg (pcs a).toArray) (la_ 0 1 hm50 Ty.ag_voxel_api_Point) ?_
   refine lv_ rfl (.agg (pcs b).toArray) (la_ 0 2 hm50 Ty.ag_voxel_api_Point) ?_
   refine plCall (i := 5) 15 [.iface 50 (.agg ([.int .i64 g.box.mn.x, .int .i64 g.box.mn.y, .int .i64 g.box.mn.z, .int .i64 g.box.mx.x, .int .i64 g.box.mx.y, .int .i64 g.box.mx.z, .slice A g.cells.length c]).toArray), .slice A2 T.length c2, .agg (pcs a).toArray, .agg (pcs b).toArray] [] [] rfl kr_ (wn rfl) rfl le_ (litArgs kr_) (by have h_ := visible_any g hvd T A c A2 c2 a b _ ((Rd.below hrd hm50.bel).more hm50.bel.size) ((Rd.below htb hm50.bel).more hm50.bel.size); rw [hck_, vis_free hck_ hfs] at h_; exact h_) ?_
   rintro e w54 ⟨rfl, hbz⟩
   have hm55 := hm50.below hbz
   clear hbz hm50
   refine ⟨_, rfl, ?_⟩
   refine qP rfl ?_
   refine lk_ (.tuple #[.bool true, .int .i64 0]) ?_
   refine lT_ ?_
   refine li_ 0 ?_
   refine lT_ ?_
   refine li_ 0 ?_
   refine pt_ hK53 ?_
   refine sk_ fun _ hK56 => ?_
   refine sp_ fun _ hK57 => ?_
   refine li_ 0 ?_
   refine lF_ ?_
   refine lF_ ?_
   refine lw_ rfl (.int .i64 9) (litRun kr_) ?_
   refine lw_ rfl (.bool true) (litRun kr_) ?_
   refine lw_ rfl (.bool true) (litRun kr_) ?_
   refine lw_ rfl (.int .i64 9) (litRun kr_) ?_
   refine lw_ rfl (.bool false) (litRun kr_) ?_
   refine lw_ rfl (.bool false) (litRun kr_) ?_
   refine lF_ ?_
   refine lF_ ?_
   refine lw_ rfl (.int .i64 9) (litRun kr_) ?_
   refine lw_ rfl (.bool true) (litRun kr_) ?_
   refine lw_ rfl (.bool true) (litRun kr_) ?_
   refine lw_ rfl (.bool true) (litRun kr_) ?_
   refine lw_ rfl (.bool false) (litRun kr_) ?_
   refine lw_ rfl (.bool false) (litRun kr_) ?_
   refine lF_ ?_
   refine pt_ hK57 ?_
   refine wpPrune [(2, .slice A2 T.length c2), (9, .pointer (some ⟨g8, 0, none⟩)), (10, .bool false), (11, .bool true), (12, .slice A1 Es.length c1), (13, .slice A3 Es.length c3), (16, .pointer (some ⟨g47, 0, none⟩)), (17, .int .i64 9), (18, .bool true), (87, .bool false)] fo_ (fun X58 => ?_)
   refine wp_cond_false le_ ?_
   refine wp_skip ?_
   refine tn_ hK56 ?_
   refine sk_ fun _ hK59 => ?_
   refine sp_ fun _ hK60 => ?_
   refine li_ 9 ?_
   refine lT_ ?_
   refine pt_ hK60 ?_
   refine wp_cond_true le_ ?_
   refine sp_ fun _ hK61 => ?_
   refine lT_ ?_
   refine lT_ ?_
   refine pt_ hK61 ?_
   refine wp_ret ?_
   refine then_ret ?_
   refine br_ 10 (.bool true) ?_
   exact ⟨rfl, hm55.bel⟩
 obtain ⟨hqm_, hqs_, hum_, hu0_, hu1_⟩ := first_bef hfs
 generalize hue_ : befOf (walk a b) a k = u at *
 have hqn_ := walk_near hna_ hnb_ hqm_
 have hun_ := walk_near hna_ hnb_ hum_
 unfold Bx.has nearB at hqn_ hun_
 simp only at hqn_ hun_
 refine lv_ rfl (.agg ([.int .i64 g.box.mn.x, .int .i64 g.box.mn.y, .int .i64 g.box.mn.z, .int .i64 g.box.mx.x, .int .i64 g.box.mx.y, .int .i64 g.box.mx.z, .slice A g.cells.length c]).toArray) (la_ 0 5 hm42 Ty.ag_voxel_voxeltop_gridField) ?_
 refine lk_ (.iface 50 (.agg ([.int .i64 g.box.mn.x, .int .i64 g.box.mn.y, .int .i64 g.box.mn.z, .int .i64 g.box.mx.x, .int .i64 g.box.mx.y, .int .i64 g.box.mx.z, .slice A g.cells.length c]).toArray)) ?_
 refine lk_ (.slice A2 T.length c2) ?_
 refine lv_ rfl (.agg (pcs a).toArray) (la_ 0 1 hm42 Ty.ag_voxel_api_Point) ?_
 refine lv_ rfl (.agg (pcs b).toArray) (la_ 0 2 hm42 Ty.ag_voxel_api_Point) ?_
 refine plCall (i := 5) 14 [.iface 50 (.agg ([.int .i64 g.box.mn.x, .int .i64 g.box.mn.y, .int .i64 g.box.mn.z, .int .i64 g.box.mx.x, .int .i64 g.box.mx.y, .int .i64 g.box.mx.z, .slice A g.cells.length c]).toArray), .slice A2 T.length c2, .agg (pcs a).toArray, .agg (pcs b).toArray] [] [] rfl kr_ (wn rfl) rfl le_ (litArgs kr_) (by have h_ := first_any g hvd T A c A2 c2 a b _ ((Rd.below hrd hm42.bel).more hm42.bel.size) ((Rd.below htb hm42.bel).more hm42.bel.size); rw [firstH_some hck_ hfs, firstE_some hck_ hfs, hue_] at h_; exact h_) ?_
 rintro e w62 ⟨rfl, hbz⟩
 have hm63 := hm42.below hbz
 clear hbz hm42
 refine ⟨_, rfl, ?_⟩
 refine qP rfl ?_
 refine lk_ (.tuple #[.agg (hcs q u (k : Int)).toArray, .int .i64 0]) ?_
 refine lk_ (.agg (hcs q u (k : Int)).toArray) ?_
 refine li_ 0 ?_
 refine plAlloc (z := [.int .i64 0, .int .i64 0, .int .i64 0, .int .i64 0, .int .i64 0, .int .i64 0, .int .i64 0]) Ty.ag_voxel_ray_Hit hm63 (i := 9) rfl (wn rfl) rfl ?_
 intro g64 w66 hm65
 clear hm63
 try simp only [lc_] at hm65
 replace hm65 := hm65.i6
 refine qP rfl ?_
 refine plStore 6 Ty.ag_voxel_ray_Hit hm65 rfl (i := 10) (cs := hcs q u (k : Int)) rfl (wn rfl) rfl le_ le_ rfl rfl kr_ ?_
 intro w68 hm67
 clear hm65
 try simp only [lc_] at hm67
 refine qNone rfl ?_
 refine li_ 0 ?_
 refine pt_ hK44 ?_
 refine wpPrune [(2, .slice A2 T.length c2), (8, .pointer (some ⟨g5, 0, none⟩)), (9, .pointer (some ⟨g8, 0, none⟩)), (10, .bool false), (11, .bool true), (12, .slice A1 Es.length c1), (13, .slice A3 Es.length c3), (15, .pointer (some ⟨g39, 0, none⟩)), (16, .pointer (some ⟨g64, 0, none⟩)), (17, .int .i64 0)] fo_ (fun X69 => ?_)
 refine gwAhead4 (fun a_ w_ => (True) ∧ Fr a_ 162 [(2, .slice A2 T.length c2), (11, .bool true), (12, .slice A1 Es.length c1), (13, .slice A3 Es.length c3), (16, .pointer (some ⟨g64, 0, none⟩))] ∧ Mem w w_ ((.arr g2 28 (gcs g A c)) :: (.arr g5 23 (pcs a)) :: (.arr g8 23 (pcs b)) :: (.row (.slice A3 Es.length c3) 26 1 Es.length (Es.map entV)) :: (.row (.slice A1 Es.length c1) 63 4 Es.length (tlsC (planL Es.length))) :: (.arr g39 50 ([.int .i64 g.box.mn.x, .int .i64 g.box.mn.y, .int .i64 g.box.mn.z, .int .i64 g.box.mx.x, .int .i64 g.box.mx.y, .int .i64 g.box.mx.z, .slice A g.cells.length c])) :: (.arr g64 52 (hcs q u (k : Int))) :: (Es.map rowE))) ?_ (fun hJ70 => ?_)
 · clear hm67
   intro a73 w71 hI_
   obtain ⟨ht_, hF_, hm72⟩ := hI_
   obtain ⟨X74, rfl⟩ := frLit hF_
   clear hF_
   refine sp_ fun _ hK75 => ?_
   refine lp_ g64 0 ?_
   refine lv_ rfl (.agg (pcs q).toArray) (la_ 0 6 hm72 Ty.ag_voxel_api_Point) ?_
   refine lp_ g64 3 ?_
   refine lv_ rfl (.agg (pcs u).toArray) (la_ 3 6 hm72 Ty.ag_voxel_api_Point) ?_
   refine plCall (i := 4) 16 [.agg (pcs q).toArray, .agg (pcs u).toArray] [] [] rfl kr_ (wn rfl) rfl le_ (litArgs kr_) (sub_any q u (by omega) (by omega) _) ?_
   rintro e w76 ⟨rfl, hbz⟩
   have hm77 := hm72.below hbz
   clear hbz hm72
   refine ⟨_, rfl, ?_⟩
   refine qP rfl ?_
   refine plAlloc (z := [.int .i64 0, .int .i64 0, .int .i64 0]) Ty.ag_voxel_api_Point hm77 (i := 5) rfl (wn rfl) rfl ?_
   intro g78 w80 hm79
   clear hm77
   try simp only [lc_] at hm79
   replace hm79 := hm79.i7
   refine qP rfl ?_
   refine plStore 7 Ty.ag_voxel_api_Point hm79 rfl (i := 6) (cs := pcs (q.sub u)) rfl (wn rfl) rfl le_ le_ rfl rfl kr_ ?_
   intro w82 hm81
   clear hm79
   try simp only [lc_] at hm81
   refine qNone rfl ?_
   refine pt_ hK75 ?_
   refine sk_ fun _ hK83 => ?_
   refine sp_ fun _ hK84 => ?_
   refine lp_ g78 0 ?_
   refine lv_ rfl (.int .i64 ((q.sub u).x)) (ld_ 0 7 hm81) ?_
   refine lp_ g78 0 ?_
   refine lv_ rfl (.int .i64 ((q.sub u).x)) (ld_ 0 7 hm81) ?_
   refine lv_ rfl (.int .i64 (((q.sub u).x) * ((q.sub u).x))) (mulRun' (A := ((q.sub u).x)) (B := ((q.sub u).x)) (C := ((q.sub u).x) * ((q.sub u).x)) (.tmp 109) (.tmp 111) rfl le_ le_ rfl (by have h_ := mulOk (x := ((q.sub u).x)) (y := ((q.sub u).x)) (by simp only [Pt.sub]; omega) (by simp only [Pt.sub]; omega); omega)) ?_
   refine lp_ g78 1 ?_
   refine lv_ rfl (.int .i64 ((q.sub u).y)) (ld_ 1 7 hm81) ?_
   refine lp_ g78 1 ?_
   refine lv_ rfl (.int .i64 ((q.sub u).y)) (ld_ 1 7 hm81) ?_
   refine lv_ rfl (.int .i64 (((q.sub u).y) * ((q.sub u).y))) (mulRun' (A := ((q.sub u).y)) (B := ((q.sub u).y)) (C := ((q.sub u).y) * ((q.sub u).y)) (.tmp 114) (.tmp 116) rfl le_ le_ rfl (by have h_ := mulOk (x := ((q.sub u).y)) (y := ((q.sub u).y)) (by simp only [Pt.sub]; omega) (by simp only [Pt.sub]; omega); omega)) ?_
   refine lv_ rfl _ (ad_ (((q.sub u).x) * ((q.sub u).x)) (((q.sub u).y) * ((q.sub u).y)) (h := by have hx_ := mulOk (x := (q.sub u).x) (y := (q.sub u).x) (by simp only [Pt.sub]; omega) (by simp only [Pt.sub]; omega); have hy_ := mulOk (x := (q.sub u).y) (y := (q.sub u).y) (by simp only [Pt.sub]; omega) (by simp only [Pt.sub]; omega); have hz_ := mulOk (x := (q.sub u).z) (y := (q.sub u).z) (by simp only [Pt.sub]; omega) (by simp only [Pt.sub]; omega); omega)) ?_
   refine lp_ g78 2 ?_
   refine lv_ rfl (.int .i64 ((q.sub u).z)) (ld_ 2 7 hm81) ?_
   refine lp_ g78 2 ?_
   refine lv_ rfl (.int .i64 ((q.sub u).z)) (ld_ 2 7 hm81) ?_
   refine lv_ rfl (.int .i64 (((q.sub u).z) * ((q.sub u).z))) (mulRun' (A := ((q.sub u).z)) (B := ((q.sub u).z)) (C := ((q.sub u).z) * ((q.sub u).z)) (.tmp 120) (.tmp 122) rfl le_ le_ rfl (by have h_ := mulOk (x := ((q.sub u).z)) (y := ((q.sub u).z)) (by simp only [Pt.sub]; omega) (by simp only [Pt.sub]; omega); omega)) ?_
   refine lv_ rfl _ (ad_ ((((q.sub u).x) * ((q.sub u).x)) + (((q.sub u).y) * ((q.sub u).y))) (((q.sub u).z) * ((q.sub u).z)) (h := by have hx_ := mulOk (x := (q.sub u).x) (y := (q.sub u).x) (by simp only [Pt.sub]; omega) (by simp only [Pt.sub]; omega); have hy_ := mulOk (x := (q.sub u).y) (y := (q.sub u).y) (by simp only [Pt.sub]; omega) (by simp only [Pt.sub]; omega); have hz_ := mulOk (x := (q.sub u).z) (y := (q.sub u).z) (by simp only [Pt.sub]; omega) (by simp only [Pt.sub]; omega); omega)) ?_
   by_cases h85 : (((((q.sub u).x) * ((q.sub u).x)) + (((q.sub u).y) * ((q.sub u).y))) + (((q.sub u).z) * ((q.sub u).z))) = 1
   · refine lv_ rfl _ (neT_ h85) ?_
     refine pt_ hK84 ?_
     refine wpPrune [(2, .slice A2 T.length c2), (11, .bool true), (12, .slice A1 Es.length c1), (13, .slice A3 Es.length c3), (16, .pointer (some ⟨g64, 0, none⟩)), (125, .bool false)] fo_ (fun X86 => ?_)
     refine wp_cond_false le_ ?_
     refine wp_skip ?_
     refine tn_ hK83 ?_
     refine sp_ fun _ hK87 => ?_
     refine lk_ (.slice A1 Es.length c1) ?_
     refine lk_ (.slice A3 Es.length c3) ?_
     refine lk_ (.slice A2 T.length c2) ?_
     refine plCall (i := 3) 17 [.slice A1 Es.length c1, .slice A3 Es.length c3, .slice A2 T.length c2] [] [] rfl kr_ (wn rfl) rfl le_ (litArgs kr_) (by have h_ := quads_any (Es.map toSl) (by rw [List.length_map]; exact hn) T A1 c1 A3 c3 A2 c2 _ (show Rd _ _ 4 A1 (Es.map toSl).length c1 (tlsC (planL (Es.map toSl).length)) by rw [List.length_map]; exact (hm81.rdRow 4 rfl)) (hm81.cellsIn 3 rfl (fun e_ he_ => by simp only [List.mem_cons, List.mem_map]; exact Or.inr (Or.inr (Or.inr (Or.inr (Or.inr (Or.inr (Or.inr (Or.inr (⟨_, he_, rfl⟩))))))))) (cells_64 hE)) ((Rd.below htb hm81.bel).more hm81.bel.size) (hsd.below hm81.bel); rw [show #[Value.slice A1 (Es.map toSl).length c1, .slice A3 (Es.map toSl).length c3, .slice A2 T.length c2] = #[.slice A1 Es.length c1, .slice A3 Es.length c3, .slice A2 T.length c2] by rw [List.length_map]] at h_; exact h_) ?_
     rintro e w88 ⟨v_, dq, rfl, hperm, hsrt, hown_, hbz⟩
     obtain ⟨qA, qc, rfl, hrd_⟩ := Rd.of_own hown_
     clear hrd_
     replace hown_ : World.ownsRow w88 _ 45 6 _ dq.length (qdsC dq) := hown_
     have hm89 := hm81.newRow hbz hown_
     clear hown_ hbz hm81
     try simp only [lc_] at hm89
     replace hm89 := hm89.i8
     rw [List.length_map, lsOf_map, hE] at hperm
     have hqok_ : ∀ x ∈ dq, x.Ok := fun x h_ => quadsU_ok hn (hperm.mem_iff.1 h_)
     have hdl_ : dq.length ≤ 3072 := by rw [hperm.length_eq]; exact quadsU_len hn
     refine ⟨_, rfl, ?_⟩
     refine qP rfl ?_
     refine lk_ (.slice qA dq.length qc) ?_
     refine pt_ hK87 ?_
     refine sp_ fun _ hK90 => ?_
     refine li_ 0 ?_
     refine pt_ hK90 ?_
     refine sk_ fun _ hK91 => ?_
     refine sp_ fun _ hK92 => ?_
     refine li_ 0 ?_
     refine pt_ hK92 ?_
     refine wp_block ?_
     refine gwLoop (fun n_ a_ w_ => ∃ (j : Nat), n_ = dq.length - j ∧ (j ≤ dq.length) ∧ Fr a_ 162 [(11, .bool true), (16, .pointer (some ⟨g64, 0, none⟩)), (21, .slice qA dq.length qc), (22, .int .i64 ((dq.take j).countP (hitB q u) : Int)), (23, .int .i64 (j : Int))] ∧ Mem w w_ ((.arr g2 28 (gcs g A c)) :: (.arr g5 23 (pcs a)) :: (.arr g8 23 (pcs b)) :: (.row (.slice A3 Es.length c3) 26 1 Es.length (Es.map entV)) :: (.row (.slice A1 Es.length c1) 63 4 Es.length (tlsC (planL Es.length))) :: (.arr g39 50 ([.int .i64 g.box.mn.x, .int .i64 g.box.mn.y, .int .i64 g.box.mn.z, .int .i64 g.box.mx.x, .int .i64 g.box.mx.y, .int .i64 g.box.mx.z, .slice A g.cells.length c])) :: (.arr g64 52 (hcs q u (k : Int))) :: (.arr g78 23 (pcs (q.sub u))) :: (.row (.slice qA dq.length qc) 45 6 dq.length (qdsC dq)) :: (Es.map rowE))) (dq.length - 0) ⟨0, rfl, (Nat.zero_le _), ⟨litSize, rfl, fo_⟩, hm89⟩ ?_
     clear hm89
     intro n_ a95 w93 hI_
     obtain ⟨j, rfl, hj, hF_, hm94⟩ := hI_
     obtain ⟨X96, rfl⟩ := frLit hF_
     clear hF_
     refine sk_ fun _ hK97 => ?_
     refine sp_ fun _ hK98 => ?_
     refine li_ j ?_
     refine lk_ (.slice qA dq.length qc) ?_
     refine lv_ rfl (.int .i64 (dq.length : Int)) (ln_ qA dq.length qc Ty.und_L_api_Quad) ?_
     by_cases h99 : (j : Int) < (dq.length : Int)
     · have hj2_ : j < dq.length := by omega
       obtain ⟨x, hx⟩ : ∃ x, dq[j]? = some x := ⟨_, List.getElem?_eq_getElem hj2_⟩
       have hxo_ := hqok_ x (List.mem_of_getElem? hx)
       have hcl_ := List.countP_le_length (p := (hitB q u)) (l := dq.take j)
       rw [List.length_take] at hcl_
       obtain ⟨b100, rfl⟩ := hm94.rowBlk (A := qA) (n := dq.length) (c := qc) 8 rfl (by omega)
       refine lv_ rfl _ (lsT_ h99) ?_
       refine pt_ hK98 ?_
       refine wp_cond_true le_ ?_
       refine wp_skip ?_
       refine tn_ hK97 ?_
       refine sk_ fun _ hK101 => ?_
       refine wp_block ?_
       refine sk_ fun _ hK102 => ?_
       refine mgStart hm94 kr_ ?_
       intro w104 hm103
       clear hm94
       refine mk_ (i := 0) (v := .slice (some ⟨b100, 0, none⟩) dq.length qc) rfl rfl (fun _ _ _ h => h) hm103 rfl ?_
       refine mk_ (i := 1) (v := .int .i64 (j : Int)) rfl rfl (fun _ _ _ h => h) hm103 rfl ?_
       refine mt_ 2 rfl (.pointer (some ⟨b100, 0 + j * 6, none⟩)) hm103 (fun w_ h_ => ia_ qc j Ty.sl_L_api_Quad rfl (show j < dq.length by omega)) ?_
       refine mt_ 3 rfl (.agg (qdc x).toArray) hm103 (fun w_ h_ => lar_ (m := j * 6) (h_.rdRow 8 rfl) (qdsC_get hx) (by omega) Ty.ag_voxel_api_Quad) ?_
       refine mk_ (i := 5) (v := .pointer (some ⟨g64, 0, none⟩)) rfl rfl (fun _ _ _ h => h) hm103 rfl ?_
       refine mt_ 6 rfl (.agg (pcs q).toArray) hm103 (fun w_ h_ => la_ 0 6 h_ Ty.ag_voxel_api_Point) ?_
       refine mgCall (i := 4) 18 [.agg (qdc x).toArray] [] [] kr_ rfl kr_ (wn rfl) rfl le_ (litArgs kr_) (fsolid_any x hxo_ _) ?_
       rintro e w105 ⟨rfl, hbz⟩
       have hm106 := hm103.below hbz
       clear hbz hm103
       refine ⟨_, rfl, hm106, ?_⟩
       refine mP rfl ?_
       by_cases h107 : (solidP x) = q
       · refine mt_ 7 rfl (.bool true) hm106 (fun w_ h_ => boolTo (decide_eq_true h107) (eqPtRun (.tmp 141) (.tmp 143) (solidP x) q kr_ kr_ kr_ kr_ rfl le_ le_)) ?_
         refine mk_ (i := 8) (v := .bool true) rfl rfl (fun _ _ _ h => h) hm106 rfl ?_
         refine mgTake (i := 9) (v := .slice (some ⟨b100, 0, none⟩) dq.length qc) rfl kr_ (wgY rfl rfl rfl (by decide) kr_) (fun _ _ _ h => h) hm106 (fun w_ h_ => litRun kr_) ?_
         refine mP rfl ?_
         refine mgTake (i := 10) (v := .int .i64 (j : Int)) rfl kr_ (wgY rfl rfl rfl (by decide) kr_) (fun _ _ _ h => h) hm106 (fun w_ h_ => litRun kr_) ?_
         refine mP rfl ?_
         refine mgTake (i := 11) (v := .pointer (some ⟨b100, 0 + j * 6, none⟩)) rfl kr_ (wgY rfl rfl rfl (by decide) kr_) (fun _ _ _ h => h) hm106 (fun w_ h_ => gIaSl (b := b100) (off := 0) (n := dq.length) (c := qc) (kk := .i64) (K := (j : Int)) (.tmp 146) (.tmp 147) j Ty.sl_L_api_Quad rfl le_ le_ (rfl) ((show j < dq.length by omega))) ?_
         refine mP rfl ?_
         refine mgTake (i := 12) (v := .agg (qdc x).toArray) rfl kr_ (wgY rfl rfl rfl (by decide) kr_) (fun _ _ _ h => h) hm106 (fun w_ h_ => gLoadAgRd (vs := qdc x) (m := j * 6) (h_.rdRow 8 rfl) rfl (qdsC_get hx) kr_ (by omega) (.tmp 148) Ty.ag_voxel_api_Quad rfl le_) ?_
         refine mP rfl ?_
         refine mgTake (i := 14) (v := .pointer (some ⟨g64, 3, none⟩)) rfl kr_ (wgY rfl rfl rfl (by decide) kr_) (fun _ _ _ h => h) hm106 (fun w_ h_ => litRun kr_) ?_
         refine mP rfl ?_
         refine mgTake (i := 15) (v := .agg (pcs u).toArray) rfl kr_ (wgY rfl rfl rfl (by decide) kr_) (fun _ _ _ h => h) hm106 (fun w_ h_ => gLoadAg (vs := pcs u) (k := 3) 6 h_ rfl kr_ kr_ (.tmp 151) Ty.ag_voxel_api_Point rfl le_) ?_
         refine mP rfl ?_
         refine mgCall (i := 13) 19 [.agg (qdc x).toArray] [] [] kr_ rfl kr_ (wgY rfl rfl rfl (by decide) kr_) rfl le_ (litArgs kr_) (fempty_any x hxo_ _) ?_
         rintro e w108 ⟨rfl, hbz⟩
         have hm109 := hm106.below hbz
         clear hbz hm106
         refine ⟨_, rfl, hm109, ?_⟩
         refine mP rfl ?_
         by_cases h110 : (emptyP x) = u
         · refine mgTake (i := 16) (v := .bool true) rfl kr_ (wgY rfl rfl rfl (by decide) kr_) (fun _ _ _ h => h) hm109 (fun w_ h_ => boolTo (decide_eq_true h110) (eqPtRun (.tmp 150) (.tmp 152) (emptyP x) u kr_ kr_ kr_ kr_ rfl le_ le_)) ?_
           refine mP rfl ?_
           refine mk_ (i := 17) (v := .bool true) rfl rfl (fun _ _ _ h => h) hm109 rfl ?_
           refine mgDone kr_ ?_
           refine tn_ hK102 ?_
           refine wp_cond_true le_ ?_
           refine plStart ?_
           refine li_ ((dq.take j).countP (hitB q u) : Int) ?_
           refine lv_ rfl _ (ad_ ((dq.take j).countP (hitB q u) : Int) 1) ?_
           refine li_ (((dq.take j).countP (hitB q u) : Int) + 1) ?_
           refine plD ?_
           refine inBlock_normal ?_
           refine tn_ hK101 ?_
           refine plStart ?_
           refine li_ j ?_
           refine lv_ rfl _ (ad_ (j : Int) 1) ?_
           refine li_ ((j : Int) + 1) ?_
           refine plD ?_
           refine then_normal ?_
           have hcs_ := cnt_succ (p := (hitB q u)) hx
           rw [hit_yes h107 h110] at hcs_
           simp only [if_true, if_false, Bool.false_eq_true, Nat.add_zero] at hcs_
           rw [show ((dq.take j).countP (hitB q u) : Int) + 1 = ((dq.take (j + 1)).countP (hitB q u) : Int) by rw [hcs_]; rfl]
           exact ⟨_, by omega, (j + 1), rfl, (by omega), ⟨litSize, rfl, fo_⟩, (hm109.sub (.cons_cons _ (.cons_cons _ (.cons_cons _ (.cons_cons _ (.cons_cons _ (.cons_cons _ (.cons_cons _ (.cons_cons _ (.cons_cons _ (List.Sublist.refl _)))))))))))⟩
         refine mgTake (i := 16) (v := .bool false) rfl kr_ (wgY rfl rfl rfl (by decide) kr_) (fun _ _ _ h => h) hm109 (fun w_ h_ => boolTo (decide_eq_false h110) (eqPtRun (.tmp 150) (.tmp 152) (emptyP x) u kr_ kr_ kr_ kr_ rfl le_ le_)) ?_
         refine mP rfl ?_
         refine mk_ (i := 17) (v := .bool false) rfl rfl (fun _ _ _ h => h) hm109 rfl ?_
         refine mgDone kr_ ?_
         refine tn_ hK102 ?_
         refine wp_cond_false le_ ?_
         refine wp_skip ?_
         refine inBlock_normal ?_
         refine tn_ hK101 ?_
         refine plStart ?_
         refine li_ j ?_
         refine lv_ rfl _ (ad_ (j : Int) 1) ?_
         refine li_ ((j : Int) + 1) ?_
         refine plD ?_
         refine then_normal ?_
         have hcs_ := cnt_succ (p := (hitB q u)) hx
         rw [hit_no2 h110] at hcs_
         simp only [if_true, if_false, Bool.false_eq_true, Nat.add_zero] at hcs_
         rw [show ((dq.take j).countP (hitB q u) : Int) = ((dq.take (j + 1)).countP (hitB q u) : Int) by rw [hcs_]]
         exact ⟨_, by omega, (j + 1), rfl, (by omega), ⟨litSize, rfl, fo_⟩, (hm109.sub (.cons_cons _ (.cons_cons _ (.cons_cons _ (.cons_cons _ (.cons_cons _ (.cons_cons _ (.cons_cons _ (.cons_cons _ (.cons_cons _ (List.Sublist.refl _)))))))))))⟩
       refine mt_ 7 rfl (.bool false) hm106 (fun w_ h_ => boolTo (decide_eq_false h107) (eqPtRun (.tmp 141) (.tmp 143) (solidP x) q kr_ kr_ kr_ kr_ rfl le_ le_)) ?_
       refine mk_ (i := 8) (v := .bool false) rfl rfl (fun _ _ _ h => h) hm106 rfl ?_
       refine mgSkip (i := 9) rfl kr_ (wgN rfl rfl rfl (by decide) kr_) (fun _ _ _ h => h) hm106 ?_
       refine mP rfl ?_
       refine mgSkip (i := 10) rfl kr_ (wgN rfl rfl rfl (by decide) kr_) (fun _ _ _ h => h) hm106 ?_
       refine mP rfl ?_
       refine mgSkip (i := 11) rfl kr_ (wgN rfl rfl rfl (by decide) kr_) (fun _ _ _ h => h) hm106 ?_
       refine mP rfl ?_
       refine mgSkip (i := 12) rfl kr_ (wgN rfl rfl rfl (by decide) kr_) (fun _ _ _ h => h) hm106 ?_
       refine mP rfl ?_
       refine mgSkip (i := 13) rfl kr_ (wgN rfl rfl rfl (by decide) kr_) (fun _ _ _ h => h) hm106 ?_
       refine mP rfl ?_
       refine mgSkip (i := 14) rfl kr_ (wgN rfl rfl rfl (by decide) kr_) (fun _ _ _ h => h) hm106 ?_
       refine mP rfl ?_
       refine mgSkip (i := 15) rfl kr_ (wgN rfl rfl rfl (by decide) kr_) (fun _ _ _ h => h) hm106 ?_
       refine mP rfl ?_
       refine mgSkip (i := 16) rfl kr_ (wgN rfl rfl rfl (by decide) kr_) (fun _ _ _ h => h) hm106 ?_
       refine mP rfl ?_
       refine mk_ (i := 17) (v := .bool false) rfl rfl (fun _ _ _ h => h) hm106 rfl ?_
       refine mgDone kr_ ?_
       refine tn_ hK102 ?_
       refine wp_cond_false le_ ?_
       refine wp_skip ?_
       refine inBlock_normal ?_
       refine tn_ hK101 ?_
       refine plStart ?_
       refine li_ j ?_
       refine lv_ rfl _ (ad_ (j : Int) 1) ?_
       refine li_ ((j : Int) + 1) ?_
       refine plD ?_
       refine then_normal ?_
       have hcs_ := cnt_succ (p := (hitB q u)) hx
       rw [hit_no1 h107] at hcs_
       simp only [if_true, if_false, Bool.false_eq_true, Nat.add_zero] at hcs_
       rw [show ((dq.take j).countP (hitB q u) : Int) = ((dq.take (j + 1)).countP (hitB q u) : Int) by rw [hcs_]]
       exact ⟨_, by omega, (j + 1), rfl, (by omega), ⟨litSize, rfl, fo_⟩, (hm106.sub (.cons_cons _ (.cons_cons _ (.cons_cons _ (.cons_cons _ (.cons_cons _ (.cons_cons _ (.cons_cons _ (.cons_cons _ (.cons_cons _ (List.Sublist.refl _)))))))))))⟩
     have hcnt_ : (dq.take j).countP (hitB q u) = 1 := by
       rw [List.take_of_length_le (by omega), hperm.countP_eq]
       have hk0_ : 0 < k := Decidable.byContradiction fun h_ => by
         rw [hu0_ (by omega)] at *
         have h2_ := h85
         simp [Pt.sub] at h2_
       exact cnt_one hn (solF_inC ((hse_ q).symm.trans hqs_)) ((hse_ q).symm.trans hqs_) ((hse_ u).symm.trans (hu1_ hk0_).1) h85
     refine lv_ rfl _ (lsF_ h99) ?_
     refine pt_ hK98 ?_
     refine wp_cond_false le_ ?_
     refine wp_exit ?_
     refine then_exit ?_
     refine then_exit ?_
     refine inBlock_exit ?_
     refine tn_ hK91 ?_
     refine sp_ fun _ hK111 => ?_
     refine lT_ ?_
     refine lT_ ?_
     refine lw_ rfl (.int .i64 ((dq.take j).countP (hitB q u) : Int)) (litRun kr_) ?_
     refine lw_ rfl (.bool true) (boolTo (decide_eq_true (by rw [hcnt_]; rfl : ((dq.take j).countP (hitB q u) : Int) = 1)) (eqlRun (A := ((dq.take j).countP (hitB q u) : Int)) (B := 1) (.tmp 159) (.const (.int .i64 1)) rfl le_ le_)) ?_
     refine lT_ ?_
     refine lT_ ?_
     refine pt_ hK111 ?_
     refine wpPrune [(10, .bool true)] fo_ (fun X112 => ?_)
     refine wp_ret ?_
     refine br_ 10 (.bool true) ?_
     exact ⟨rfl, hm94.bel⟩
   refine lv_ rfl _ (neF_ h85) ?_
   refine pt_ hK84 ?_
   refine wpPrune [(2, .slice A2 T.length c2), (11, .bool true), (12, .slice A1 Es.length c1), (13, .slice A3 Es.length c3), (16, .pointer (some ⟨g64, 0, none⟩)), (125, .bool true)] fo_ (fun X113 => ?_)
   refine wp_cond_true le_ ?_
   refine sp_ fun _ hK114 => ?_
   refine lT_ ?_
   refine lT_ ?_
   refine pt_ hK114 ?_
   refine wp_ret ?_
   refine then_ret ?_
   refine br_ 10 (.bool true) ?_
   exact ⟨rfl, hm81.bel⟩
 refine sp_ fun _ hK115 => ?_
 refine lv_ rfl (.agg ([.int .i64 g.box.mn.x, .int .i64 g.box.mn.y, .int .i64 g.box.mn.z, .int .i64 g.box.mx.x, .int .i64 g.box.mx.y, .int .i64 g.box.mx.z, .slice A g.cells.length c]).toArray) (la_ 0 5 hm67 Ty.ag_voxel_voxeltop_gridField) ?_
 refine lk_ (.iface 50 (.agg ([.int .i64 g.box.mn.x, .int .i64 g.box.mn.y, .int .i64 g.box.mn.z, .int .i64 g.box.mx.x, .int .i64 g.box.mx.y, .int .i64 g.box.mx.z, .slice A g.cells.length c]).toArray)) ?_
 refine lk_ (.slice A2 T.length c2) ?_
 refine lv_ rfl (.agg (pcs a).toArray) (la_ 0 1 hm67 Ty.ag_voxel_api_Point) ?_
 refine lv_ rfl (.agg (pcs b).toArray) (la_ 0 2 hm67 Ty.ag_voxel_api_Point) ?_
 refine plCall (i := 5) 15 [.iface 50 (.agg ([.int .i64 g.box.mn.x, .int .i64 g.box.mn.y, .int .i64 g.box.mn.z, .int .i64 g.box.mx.x, .int .i64 g.box.mx.y, .int .i64 g.box.mx.z, .slice A g.cells.length c]).toArray), .slice A2 T.length c2, .agg (pcs a).toArray, .agg (pcs b).toArray] [] [] rfl kr_ (wn rfl) rfl le_ (litArgs kr_) (by have h_ := visible_any g hvd T A c A2 c2 a b _ ((Rd.below hrd hm67.bel).more hm67.bel.size) ((Rd.below htb hm67.bel).more hm67.bel.size); rw [hck_] at h_; exact h_) ?_
 rintro e w116 ⟨rfl, hbz⟩
 have hm117 := hm67.below hbz
 clear hbz hm67
 refine ⟨_, rfl, ?_⟩
 refine qP rfl ?_
 rcases bool_or (visR g T a b) with h118 | h118
 · rw [h118]
   refine lk_ (.tuple #[.bool false, .int .i64 0]) ?_
   refine lF_ ?_
   refine li_ 0 ?_
   refine lF_ ?_
   refine li_ 0 ?_
   refine pt_ hK115 ?_
   refine sk_ fun _ hK119 => ?_
   refine sp_ fun _ hK120 => ?_
   refine li_ 0 ?_
   refine lF_ ?_
   refine lF_ ?_
   refine lw_ rfl (.int .i64 0) (litRun kr_) ?_
   refine lw_ rfl (.bool false) (litRun kr_) ?_
   refine lw_ rfl (.bool false) (litRun kr_) ?_
   refine ps_ (i := 6) ?_
   refine ps_ (i := 7) ?_
   refine lw_ rfl (.bool false) (litRun kr_) ?_
   refine lF_ ?_
   refine lF_ ?_
   refine lw_ rfl (.int .i64 0) (litRun kr_) ?_
   refine lw_ rfl (.bool false) (litRun kr_) ?_
   refine lw_ rfl (.bool false) (litRun kr_) ?_
   refine ps_ (i := 14) ?_
   refine ps_ (i := 15) ?_
   refine lw_ rfl (.bool false) (litRun kr_) ?_
   refine lF_ ?_
   refine pt_ hK120 ?_
   refine wpPrune [(2, .slice A2 T.length c2), (9, .pointer (some ⟨g8, 0, none⟩)), (10, .bool false), (11, .bool true), (12, .slice A1 Es.length c1), (13, .slice A3 Es.length c3), (16, .pointer (some ⟨g64, 0, none⟩)), (17, .int .i64 0), (18, .bool false), (87, .bool false)] fo_ (fun X121 => ?_)
   refine wp_cond_false le_ ?_
   refine wp_skip ?_
   refine tn_ hK119 ?_
   refine sk_ fun _ hK122 => ?_
   refine sp_ fun _ hK123 => ?_
   refine li_ 0 ?_
   refine lF_ ?_
   refine pt_ hK123 ?_
   refine wp_cond_false le_ ?_
   refine wp_skip ?_
   refine tn_ hK122 ?_
   refine sk_ fun _ hK124 => ?_
   refine sp_ fun _ hK125 => ?_
   refine lp_ g64 0 ?_
   refine lv_ rfl (.agg (pcs q).toArray) (la_ 0 6 hm117 Ty.ag_voxel_api_Point) ?_
   refine lv_ rfl (.agg (pcs b).toArray) (la_ 0 2 hm117 Ty.ag_voxel_api_Point) ?_
   by_cases h126 : q = b
   · refine lv_ rfl (.bool false) (boolTo (by rw [decide_eq_true h126]; rfl) (neqPtRun (.tmp 92) (.tmp 93) q b kr_ kr_ kr_ kr_ rfl le_ le_)) ?_
     refine lF_ ?_
     refine ps_ (i := 5) ?_
     refine ps_ (i := 6) ?_
     refine ps_ (i := 7) ?_
     refine lF_ ?_
     refine lF_ ?_
     refine ps_ (i := 10) ?_
     refine lF_ ?_
     refine pt_ hK125 ?_
     refine wpPrune [(2, .slice A2 T.length c2), (10, .bool false), (11, .bool true), (12, .slice A1 Es.length c1), (13, .slice A3 Es.length c3), (16, .pointer (some ⟨g64, 0, none⟩)), (102, .bool false)] fo_ (fun X127 => ?_)
     refine wp_cond_false le_ ?_
     refine wp_skip ?_
     refine tn_ hK124 ?_
     exact hJ70 _ _ ⟨trivial, ⟨litSize, rfl, fo_⟩, hm117⟩
   refine lv_ rfl (.bool true) (boolTo (by rw [decide_eq_false h126]; rfl) (neqPtRun (.tmp 92) (.tmp 93) q b kr_ kr_ kr_ kr_ rfl le_ le_)) ?_
   refine lT_ ?_
   refine lw_ rfl (.pointer (some ⟨g64, 6, none⟩)) (litRun kr_) ?_
   refine lw_ rfl (.int .i64 (k : Int)) (ld_ 6 6 hm117) ?_
   by_cases h128 : 0 < (k : Int)
   · refine lw_ rfl _ (gtT_ h128) ?_
     refine lT_ ?_
     refine lT_ ?_
     refine lw_ rfl (.bool false) (litRun kr_) ?_
     refine lF_ ?_
     refine pt_ hK125 ?_
     refine wpPrune [(2, .slice A2 T.length c2), (10, .bool false), (11, .bool true), (12, .slice A1 Es.length c1), (13, .slice A3 Es.length c3), (16, .pointer (some ⟨g64, 0, none⟩)), (102, .bool false)] fo_ (fun X129 => ?_)
     refine wp_cond_false le_ ?_
     refine wp_skip ?_
     refine tn_ hK124 ?_
     exact hJ70 _ _ ⟨trivial, ⟨litSize, rfl, fo_⟩, hm117⟩
   refine lw_ rfl _ (gtF_ h128) ?_
   refine lF_ ?_
   refine lF_ ?_
   refine ps_ (i := 10) ?_
   refine lF_ ?_
   refine pt_ hK125 ?_
   refine wpPrune [(2, .slice A2 T.length c2), (10, .bool false), (11, .bool true), (12, .slice A1 Es.length c1), (13, .slice A3 Es.length c3), (16, .pointer (some ⟨g64, 0, none⟩)), (102, .bool false)] fo_ (fun X130 => ?_)
   refine wp_cond_false le_ ?_
   refine wp_skip ?_
   refine tn_ hK124 ?_
   exact hJ70 _ _ ⟨trivial, ⟨litSize, rfl, fo_⟩, hm117⟩
 rw [h118]
 refine lk_ (.tuple #[.bool true, .int .i64 0]) ?_
 refine lT_ ?_
 refine li_ 0 ?_
 refine lT_ ?_
 refine li_ 0 ?_
 refine pt_ hK115 ?_
 refine sk_ fun _ hK131 => ?_
 refine sp_ fun _ hK132 => ?_
 refine li_ 0 ?_
 refine lF_ ?_
 refine lF_ ?_
 refine lw_ rfl (.int .i64 0) (litRun kr_) ?_
 refine lw_ rfl (.bool false) (litRun kr_) ?_
 refine lw_ rfl (.bool false) (litRun kr_) ?_
 refine ps_ (i := 6) ?_
 refine ps_ (i := 7) ?_
 refine lw_ rfl (.bool false) (litRun kr_) ?_
 refine lF_ ?_
 refine lF_ ?_
 refine lw_ rfl (.int .i64 0) (litRun kr_) ?_
 refine lw_ rfl (.bool false) (litRun kr_) ?_
 refine lw_ rfl (.bool false) (litRun kr_) ?_
 refine ps_ (i := 14) ?_
 refine ps_ (i := 15) ?_
 refine lw_ rfl (.bool false) (litRun kr_) ?_
 refine lF_ ?_
 refine pt_ hK132 ?_
 refine wpPrune [(2, .slice A2 T.length c2), (9, .pointer (some ⟨g8, 0, none⟩)), (10, .bool false), (11, .bool true), (12, .slice A1 Es.length c1), (13, .slice A3 Es.length c3), (16, .pointer (some ⟨g64, 0, none⟩)), (17, .int .i64 0), (18, .bool true), (87, .bool false)] fo_ (fun X133 => ?_)
 refine wp_cond_false le_ ?_
 refine wp_skip ?_
 refine tn_ hK131 ?_
 refine sk_ fun _ hK134 => ?_
 refine sp_ fun _ hK135 => ?_
 refine li_ 0 ?_
 refine lF_ ?_
 refine pt_ hK135 ?_
 refine wp_cond_false le_ ?_
 refine wp_skip ?_
 refine tn_ hK134 ?_
 refine sk_ fun _ hK136 => ?_
 refine sp_ fun _ hK137 => ?_
 refine lp_ g64 0 ?_
 refine lv_ rfl (.agg (pcs q).toArray) (la_ 0 6 hm117 Ty.ag_voxel_api_Point) ?_
 refine lv_ rfl (.agg (pcs b).toArray) (la_ 0 2 hm117 Ty.ag_voxel_api_Point) ?_
 by_cases h138 : q = b
 · refine lv_ rfl (.bool false) (boolTo (by rw [decide_eq_true h138]; rfl) (neqPtRun (.tmp 92) (.tmp 93) q b kr_ kr_ kr_ kr_ rfl le_ le_)) ?_
   refine lF_ ?_
   refine ps_ (i := 5) ?_
   refine ps_ (i := 6) ?_
   refine ps_ (i := 7) ?_
   refine lF_ ?_
   refine lF_ ?_
   refine ps_ (i := 10) ?_
   refine lF_ ?_
   refine pt_ hK137 ?_
   refine wpPrune [(2, .slice A2 T.length c2), (10, .bool false), (11, .bool true), (12, .slice A1 Es.length c1), (13, .slice A3 Es.length c3), (16, .pointer (some ⟨g64, 0, none⟩)), (102, .bool false)] fo_ (fun X139 => ?_)
   refine wp_cond_false le_ ?_
   refine wp_skip ?_
   refine tn_ hK136 ?_
   exact hJ70 _ _ ⟨trivial, ⟨litSize, rfl, fo_⟩, hm117⟩
 refine lv_ rfl (.bool true) (boolTo (by rw [decide_eq_false h138]; rfl) (neqPtRun (.tmp 92) (.tmp 93) q b kr_ kr_ kr_ kr_ rfl le_ le_)) ?_
 refine lT_ ?_
 refine lw_ rfl (.pointer (some ⟨g64, 6, none⟩)) (litRun kr_) ?_
 refine lw_ rfl (.int .i64 (k : Int)) (ld_ 6 6 hm117) ?_
 by_cases h140 : 0 < (k : Int)
 · refine lw_ rfl _ (gtT_ h140) ?_
   refine lT_ ?_
   refine lT_ ?_
   refine lw_ rfl (.bool true) (litRun kr_) ?_
   refine lT_ ?_
   refine pt_ hK137 ?_
   refine wpPrune [(2, .slice A2 T.length c2), (10, .bool false), (11, .bool true), (12, .slice A1 Es.length c1), (13, .slice A3 Es.length c3), (16, .pointer (some ⟨g64, 0, none⟩)), (102, .bool true)] fo_ (fun X141 => ?_)
   refine wp_cond_true le_ ?_
   refine sp_ fun _ hK142 => ?_
   refine lF_ ?_
   refine pt_ hK142 ?_
   refine wp_ret ?_
   refine then_ret ?_
   refine br_ 10 (.bool false) ?_
   exact absurd ((vis_blocked hck_ hfs (hu1_ (by omega)).2 h138).symm.trans h118) (by decide)
 refine lw_ rfl _ (gtF_ h140) ?_
 refine lF_ ?_
 refine lF_ ?_
 refine ps_ (i := 10) ?_
 refine lF_ ?_
 refine pt_ hK137 ?_
 refine wpPrune [(2, .slice A2 T.length c2), (10, .bool false), (11, .bool true), (12, .slice A1 Es.length c1), (13, .slice A3 Es.length c3), (16, .pointer (some ⟨g64, 0, none⟩)), (102, .bool false)] fo_ (fun X143 => ?_)
 refine wp_cond_false le_ ?_
 refine wp_skip ?_
 refine tn_ hK136 ?_
 exact hJ70 _ _ ⟨trivial, ⟨litSize, rfl, fo_⟩, hm117⟩
end Go.Proofs.YtbpihalphhoiaaaGreatDoor
