/-
 MG: several texts in one. No statement is proved here.
-/
import Derived.Test.YtgjgjimgomhbmaaGreatDoorMF
import Derived.Test.YtgjgjimgomhbmaaGreatDoorME
import Derived.Test.YtgjgjimgomhbmaaGreatDoorMC
import Derived.Test.YtgjgjimgomhbmaaGreatDoorCards
import Derived.Test.YtgjgjimgomhbmaaGreatDoorTie
import Derived.Test.YtgjgjimgomhbmaaGreatDoorMA
import Derived.ProofKit
import Derived.OpenShut
import Derived.Deep.DeepHandedRow
import Derived.Lib.LaidTab
import Derived.Test.YtgjgjimgomhbmaaGreatDoorMB
import Derived.Deep.CutBlock
set_option maxRecDepth 100000
set_option maxHeartbeats 4000000
set_option linter.unusedVariables false
set_option linter.unusedSimpArgs false
namespace Go.Proofs.YtgjgjimgomhbmaaGreatDoor
open Go.RowKit
def hd3 (n : Int) : Hd := ⟨n, List.replicate 8 0, 3, 2, List.replicate 32 0⟩
def hdBad : Hd := ⟨5, List.replicate 8 0, 3, 1, List.replicate 16 0⟩
def sT0 : List Vr := []
def sT1 : List Vr := [⟨1, 0, hd3 5⟩]
def sT2 : List Vr := [⟨1, 0, hd3 5⟩, ⟨2, 0, hd3 6⟩]
def sTp : List Vr := [⟨1, 1, hd3 5⟩, ⟨2, 0, hd3 6⟩]
def sT3 : List Vr := [⟨2, 0, hd3 6⟩]
theorem fit_n {n : Int} (h : isI64 n) : (hd3 n).Fit := ⟨by show (List.replicate 8 (0 : Int)).length ≤ 20; decide, by show (2 : Nat) ≤ 20; decide, h, by show isI64 3; unfold isI64; decide, fun x hx => by
 have : x = 0 := (List.mem_replicate.1 hx).2
 subst this; unfold isI64; decide⟩
theorem fit5 : (hd3 5).Fit := fit_n (by unfold isI64; decide)
theorem fit6 : (hd3 6).Fit := fit_n (by unfold isI64; decide)
theorem fit_eq {h g : Hd} (e : h = g) (f : g.Fit) : h.Fit := e ▸ f
theorem goodT {l : List Lv} {t : List Vr} (h : vrs l = t) (g : t.all (fun v => decide v.h.Good) = true) : ∀ v ∈ l, v.h.Good := fun v hv => by
 have := List.all_eq_true.1 g v.vr (by rw [← h]; exact List.mem_map.2 ⟨v, hv, rfl⟩)
 exact of_decide_eq_true this
theorem pinsT {l : List Lv} {t : List Vr} (h : vrs l = t) (g : t.all (fun v => decide (0 ≤ v.pins ∧ v.pins ≤ 1000)) = true) : PinsOk l := fun v hv => by
 have := List.all_eq_true.1 g v.vr (by rw [← h]; exact List.mem_map.2 ⟨v, hv, rfl⟩)
 exact of_decide_eq_true this
theorem lenT {l : List Lv} {t : List Vr} (h : vrs l = t) {n : Nat} (g : t.length ≤ n) : l.length ≤ n := by rw [← h, vrs_len] at g; exact g
theorem sliceH_blk {P : Program} {w : World} {t e : TypeId} {z : Value} {size bytes B n c V : Nat} {A : Option Addr} {xs : List Value} (T : SlTy P t e z size bytes) (hr : Rd w B size A n c xs) (h2 : V ≤ n) :
 ∃ A', Rd w B size A' V c (xs.take (V * size)) ∧ A'.map (·.block) = A.map (·.block) ∧ ∀ w' : World, (Instr.sliceAt t (.slice A n c) none (some (.int .i64 (V : Int))) none).run P w' = .ok (.slice A' V c) w' := by
 obtain ⟨i, hi, hz0, hz1, hz2⟩ := info_parts T.inf
 have hle := hr.le
 have ht : P.underlying t = some (.slice (P.elem t)) := by rw [T.und]; simp [Program.elem, T.und]
 have he : P.elem t = e := by have := T.und; rw [this] at ht; injection ht with ht; injection ht with ht; exact ht.symm
 have hrun := fun w' => run_slice_h (P := P) w' t A n c ht .i64 (V : Int) (by omega) (by omega)
 have hcut := hr.cut (lo := 0) (hi := V) (m := c) (by omega) (by omega) (by omega) (by omega)
 simp only [Nat.sub_zero, Nat.zero_mul, List.drop_zero] at hcut
 refine ⟨_, hcut, ?_, fun w' => ?_⟩
 ·split
  ·rfl
  ·cases A with
   | none => rfl
   | some a => show some _ = some _; unfold Addr.add; split <;> rfl
 ·simp only [run_sliceAt_slice w' t _ _ _ _ ht, hrun w', he, sizeOf, typeInfo, Int.toNat_natCast, sliced]
  simp [hi, hz1]
theorem Mem.newBad {w0 w : World} {M : List Res} (X : List Res) {v vb : Lv} (h : Mem w0 w (X ++ M)) (ha : vb.A = v.A) (hc : vb.h.counts = v.h.counts) (hb : vb.B.map (·.block) = v.B.map (·.block)) (hv : vb.At w) (hrn : 0 < v.h.rn) (hx : ∀ r ∈ hdRes v, r ∈ M) (hM : ∀ r ∈ M, r.mut = false) : Mem w0 w (X ++ (lvRes [vb] ++ M)) := by
 refine h.newIm X _ (Below.refl _ _) (fun r hr => lvRes_at (l := [vb]) (fun u hu => by rw [List.mem_singleton] at hu; exact hu ▸ hv) hr) (fun r hr => lvRes_mut hr) (fun r hr => ?_) hM
 obtain ⟨u, hu, hr⟩ := List.mem_flatMap.1 hr
 rw [List.mem_singleton] at hu
 subst hu
 have hr : r ∈ hdRes u := hr
 unfold hdRes at hr
 simp at hr
 rcases hr with rfl | rfl
 ·exact Or.inr ⟨_, hx (.rd v.A 1 v.h.counts.length v.c (ics v.h.counts)) (by unfold hdRes; simp), by simp only [Res.blk, ha, hc]⟩
 ·by_cases h0 : u.h.rn = 0
  ·exact Or.inl fun g hg => by simp [Res.blk, h0] at hg
  ·refine Or.inr ⟨_, hx (.rd v.B 16 v.h.rn v.d (bcs v.h.D)) (by unfold hdRes; simp), ?_⟩
   simp only [Res.blk]
   rw [if_neg (by omega), if_neg (by omega), hb]
theorem hdSelf {v : Lv} {M : List Res} (h1 : (lvRes [v]).Sublist M) : ∀ r ∈ hdRes v, r ∈ M := fun _ hr => h1.subset (lvRes_mem List.mem_cons_self hr)
theorem hdNone {M : List Res} : ∀ u ∈ ([] : List Lv), ∀ r ∈ hdRes u, r ∈ M := fun _ h => by cases h
section
variable {P : Program} {w : World} {o : Oper} {a : Act}
theorem eqDigRun {t e ty : TypeId} {n : Nat} (x y : Operand) (xs ys : List UInt8) (b : Bool) (ht : P.underlying t = some (.array n e)) (he : P.underlying e = some (.int .u8)) (hs : (P.info? e).map (·.size) = some 1) (hq : P.eqGuardType P.depth t = false) (hx : xs.length = n) (hy : ys.length = n) (hb : (xs == ys) = b)
 (ho : o.op = .binOp .eql t x y ty) (hxv : a.eval x = .agg (bcs xs).toArray) (hyv : a.eval y = .agg (bcs ys).toArray) : (execOp a.eval o).run P w = .ok (.value (.bool b)) w := by
 unfold execOp
 have hr := run_eqBytes (P := P) w ht he hs xs ys hx hy
 rw [hb] at hr
 simp [ho, hxv, hyv, eqGuard, hq, run_eql_struct, hr]
end
theorem header_any (n : Int) (w : World) : Calls Tryz.prog 18 #[.int .i64 n] w (fun e w' => ∃ v : Lv, v.h = hd3 n ∧ e = .returned (.agg (hcs v.h v.A v.c v.B v.d).toArray) ∧ v.At w' ∧ NewA w.heap.size v.A ∧ NewA w.heap.size v.B ∧ Below w.heap.size w w') := by
 have hm0 := Mem.nil w
 go_enter Tryz.func18, Tryz.ntmps18
 refine litStart 7 [(0, .int .i64 n)] kr_ (fun X0 => ?_)
 refine wp_seq_k fun K1 hK1 => ?_
 refine plStart ?_
 refine plAlloc (z := [.int .i64 0, .slice none 0 0, .int .i64 0, .slice none 0 0]) Ty.ag_voxel_api_Header hm0 (i := 0) rfl (wn rfl) rfl ?_
 intro g2 w4 hm3
 clear hm0
 try simp only [lc1_, lc2_, lc3_, lc4_] at hm3
 refine qP rfl ?_
 refine plD ?_
 refine tn_ hK1 ?_
 refine wp_seq_k fun K5 hK5 => ?_
 refine aoStart (aoV [fun _ => .int .i64 n, fun γ_ => .slice (some ⟨(γ_.getD 0 0), 0, none⟩) 8 8, fun γ_ => .slice (some ⟨(γ_.getD 0 0), 0, none⟩) 2 2, fun γ_ => .agg ([.int .i64 n, .slice (some ⟨(γ_.getD 0 0), 0, none⟩) 8 8, .int .i64 3, .slice (some ⟨(γ_.getD 1 0), 0, none⟩) 2 2]).toArray, fun _ => undef]) (aoA [[], [1], [2], [1, 2], []]) (fun b_ g_ => ((.arr g2 25 (bsel (b_ 4) [.int .i64 n, .slice (some ⟨(g_ 1), 0, none⟩) 8 8, .int .i64 3, .slice (some ⟨(g_ 2), 0, none⟩) 2 2] [.int .i64 0, .slice none 0 0, .int .i64 0, .slice none 0 0])) :: (bsel (b_ 1) (.arr (g_ 1) 3 (ics (List.replicate 8 0))) .free) :: (bsel (b_ 2) (.arr (g_ 2) 27 (bcs (List.replicate 32 0))) .free) :: [])) hm3 kr_ kr_ (fun w_ h_ => h_.pushFree.pushFree) (fun b_ g_ h_ => by show (fun (x1_ x2_ x4_ : Bool) => (((.arr g2 25 (bsel x4_ [.int .i64 n, .slice (some ⟨(g_ 1), 0, none⟩) 8 8, .int .i64 3, .slice (some ⟨(g_ 2), 0, none⟩) 2 2] [.int .i64 0, .slice none 0 0, .int .i64 0, .slice none 0 0])) :: (bsel x1_ (.arr (g_ 1) 3 (ics (List.replicate 8 0))) .free) :: (bsel x2_ (.arr (g_ 2) 27 (bcs (List.replicate 32 0))) .free) :: []) : List Res)) (b_ 1) (b_ 2) (b_ 4) = _; rw [h_ 1 (by decide), h_ 2 (by decide), h_ 4 (by decide)]) ?_ ?_
 ·refine aoNext rfl (aoVal (fun g_ => [(0, .int .i64 n)]) (fun g_ a_ h_k => ⟨(h_k.out 0 kr_).trans (lg_), trivial⟩) (fun g_ X_ => (wn rfl)) (fun b_ g_ => by kernel_rfl) (fun b_ g_ X_ w_ h_b h_ => valTo (b := .int .i64 n) kr_ (litRun kr_))) ?_
  refine aoNext rfl (aoMake (n := 8) (m := 8) (cs := ics (List.replicate 8 0)) (e := 3) 1 rfl rfl (fun w_ => by kernel_rfl) (fun _ _ _ => ⟨_, rfl⟩) (fun b_ g_ γ_ h_b => Eq.trans (b := ((.arr g2 25 (bsel (b_ 4) [.int .i64 n, .slice (some ⟨γ_, 0, none⟩) 8 8, .int .i64 3, .slice (some ⟨(g_ 2), 0, none⟩) 2 2] [.int .i64 0, .slice none 0 0, .int .i64 0, .slice none 0 0])) :: (bsel true (.arr γ_ 3 (ics (List.replicate 8 0))) .free) :: (bsel (b_ 2) (.arr (g_ 2) 27 (bcs (List.replicate 32 0))) .free) :: [])) kr_ (by simp only [bselF (h_b.post 4 kr_)] <;> kernel_rfl)) (fun _ => by kernel_rfl) kr_) ?_
  refine aoNext rfl (aoMake (n := 2) (m := 2) (cs := bcs (List.replicate 32 0)) (e := 27) 2 rfl rfl (fun w_ => by kernel_rfl) (fun _ _ _ => ⟨_, rfl⟩) (fun b_ g_ γ_ h_b => Eq.trans (b := ((.arr g2 25 (bsel (b_ 4) [.int .i64 n, .slice (some ⟨(g_ 1), 0, none⟩) 8 8, .int .i64 3, .slice (some ⟨γ_, 0, none⟩) 2 2] [.int .i64 0, .slice none 0 0, .int .i64 0, .slice none 0 0])) :: (bsel (b_ 1) (.arr (g_ 1) 3 (ics (List.replicate 8 0))) .free) :: (bsel true (.arr γ_ 27 (bcs (List.replicate 32 0))) .free) :: [])) kr_ (by simp only [bselF (h_b.post 4 kr_)] <;> kernel_rfl)) (fun _ => by kernel_rfl) kr_) ?_
  refine aoNext rfl (aoVal (fun g_ => [(3, .int .i64 n), (4, .slice (some ⟨(g_ 1), 0, none⟩) 8 8), (5, .slice (some ⟨(g_ 2), 0, none⟩) 2 2)]) (fun g_ a_ h_k => ⟨(h_k.inn 0 _ _ kr_ rfl rfl).trans kr_, (h_k.inn 1 _ _ kr_ rfl rfl).trans kr_, (h_k.inn 2 _ _ kr_ rfl rfl).trans kr_, trivial⟩) (fun g_ X_ => (wn rfl)) (fun b_ g_ => by kernel_rfl) (fun b_ g_ X_ w_ h_b h_ => valTo (b := .agg ([.int .i64 n, .slice (some ⟨(g_ 1), 0, none⟩) 8 8, .int .i64 3, .slice (some ⟨(g_ 2), 0, none⟩) 2 2]).toArray) kr_ (litRun kr_))) ?_
  refine aoNext rfl (aoStore (gb := fun g_ => g2) (k := 0) (cur := fun g_ => [.int .i64 0, .slice none 0 0, .int .i64 0, .slice none 0 0]) (vs := fun g_ => [.int .i64 n, .slice (some ⟨(g_ 1), 0, none⟩) 8 8, .int .i64 3, .slice (some ⟨(g_ 2), 0, none⟩) 2 2]) 0 (fun g_ => [(2, .pointer (some ⟨g2, 0, none⟩)), (6, .agg ([.int .i64 n, .slice (some ⟨(g_ 1), 0, none⟩) 8 8, .int .i64 3, .slice (some ⟨(g_ 2), 0, none⟩) 2 2]).toArray)]) (fun g_ a_ h_k => ⟨(h_k.out 2 kr_).trans (lg_), (h_k.inn 3 _ _ kr_ rfl rfl).trans kr_, trivial⟩) Ty.ag_voxel_api_Header (fun b_ g_ h_b => by show some (Res.arr g2 25 (bsel (b_ 4) [.int .i64 n, .slice (some ⟨(g_ 1), 0, none⟩) 8 8, .int .i64 3, .slice (some ⟨(g_ 2), 0, none⟩) 2 2] [.int .i64 0, .slice none 0 0, .int .i64 0, .slice none 0 0])) = some (Res.arr g2 25 ([.int .i64 0, .slice none 0 0, .int .i64 0, .slice none 0 0])); rw [bselF h_b.no]) (fun g_ X_ => (wn rfl)) rfl (fun g_ X_ => litEv kr_) (fun g_ X_ => litEv kr_) (fun _ => by kernel_rfl) (fun _ => by kernel_rfl) (fun _ => by kernel_rfl) (fun b_ g_ h_b => by kernel_rfl) rfl) ?_
  exact aoDone (by decide)
 intro g_ a_ w7 hF_ hm6
 obtain ⟨X8, rfl⟩ := frLit (⟨hF_.size, hF_.defers, ⟨(hF_.out 2 kr_).trans (lg_), (hF_.inn 0 _ _ rfl rfl).trans kr_, (hF_.inn 1 _ _ rfl rfl).trans kr_, (hF_.inn 2 _ _ rfl rfl).trans kr_, (hF_.inn 3 _ _ rfl rfl).trans kr_, trivial⟩⟩ : Fr _ 7 [(2, .pointer (some ⟨g2, 0, none⟩)), (3, .int .i64 n), (4, .slice (some ⟨(g_ 1), 0, none⟩) 8 8), (5, .slice (some ⟨(g_ 2), 0, none⟩) 2 2), (6, .agg ([.int .i64 n, .slice (some ⟨(g_ 1), 0, none⟩) 8 8, .int .i64 3, .slice (some ⟨(g_ 2), 0, none⟩) 2 2]).toArray)])
 clear hF_
 have hm9 : Mem w w7 [.arr g2 25 ([.int .i64 n, .slice (some ⟨(g_ 1), 0, none⟩) 8 8, .int .i64 3, .slice (some ⟨(g_ 2), 0, none⟩) 2 2]), .arr (g_ 1) 3 (ics (List.replicate 8 0)), .arr (g_ 2) 27 (bcs (List.replicate 32 0))] := hm6
 clear hm6 hm3
 generalize g_ 1 = g10 at hm9 ⊢
 generalize g_ 2 = g11 at hm9 ⊢
 clear g_
 refine tn_ hK5 ?_
 refine wp_ret ?_
 refine bodyPost_ret (v := .agg ([.int .i64 n, .slice (some ⟨g10, 0, none⟩) 8 8, .int .i64 3, .slice (some ⟨g11, 0, none⟩) 2 2]).toArray) (gRes1 rfl (gResAg (cs := [.int .i64 n, .slice (some ⟨g10, 0, none⟩) 8 8, .int .i64 3, .slice (some ⟨g11, 0, none⟩) 2 2]) 0 hm9 rfl Ty.ag_voxel_api_Header rfl (lg_))) rfl ?_
 exact ⟨⟨0, 0, hd3 n, some ⟨g10, 0, none⟩, 8, some ⟨g11, 0, none⟩, 2⟩, rfl, rfl, ⟨Rd.of_arr (hm9.arr 1 rfl) rfl (by show (8 : Nat) ≤ _; decide), Rd.of_arr (hm9.arr 2 rfl) rfl (by show (2 : Nat) ≤ _; decide)⟩, fun a_ ha_ => by cases ha_; exact hm9.arrGe 1 rfl, fun a_ ha_ => by cases ha_; exact hm9.arrGe 2 rfl, hm9.bel⟩
theorem sanity_any (w : World) (ht : Tabs w) (htR : TabsR w) : Calls Tryz.prog 5 #[] w (RetV w (.bool true)) := by
 have hm0 := Mem.ofLv (l := []) (w := w) (fun _ h_ => by cases h_)
 go_enter Tryz.func5, Tryz.ntmps5
 refine litStart 195 [] kr_ (fun X0 => ?_)
 refine wp_seq_k fun K1 hK1 => ?_
 refine plStart ?_
 refine lk_ (.bool false) ?_
 refine plD ?_
 refine tn_ hK1 ?_
 refine wp_seq_k fun K2 hK2 => ?_
 refine plStart ?_
 refine plCall (i := 0) 18 [.int .i64 5] [] [] rfl kr_ (wn rfl) rfl le_ (litArgs kr_) (header_any 5 _) ?_
 rintro e w3 ⟨v5, hv5_, rfl, hat_, hA_, hB_, hbz⟩
 have hm4 := Mem.newLv (lx := []) (M := lvRes []) [] hm0 hbz hat_ (Or.inr ⟨hA_, hB_⟩) hdNone (fun _ h_ => lvRes_mut h_)
 rw [List.nil_append] at hm4
 clear hm0
 clear hat_ hA_ hB_ hbz
 refine ⟨_, rfl, ?_⟩
 refine qP rfl ?_
 refine plAlloc (z := [.int .i64 0, .slice none 0 0, .int .i64 0, .slice none 0 0]) Ty.ag_voxel_api_Header hm4 (i := 1) rfl (wn rfl) rfl ?_
 intro g6 w8 hm7
 clear hm4
 try simp only [lc1_, lc2_, lc3_, lc4_] at hm7
 replace hm7 := Mem.insAt (M := ((lvRes [v5] ++ lvRes []))) 0 hm7
 simp only [List.insertIdx_succ_cons, List.insertIdx_zero] at hm7
 refine qP rfl ?_
 refine plStore 0 Ty.ag_voxel_api_Header hm7 rfl (i := 2) (cs := hcs v5.h v5.A v5.c v5.B v5.d) rfl (wn rfl) rfl le_ le_ rfl rfl kr_ ?_
 intro w10 hm9
 clear hm7
 try simp only [lc1_, lc2_, lc3_, lc4_] at hm9
 refine qNone rfl ?_
 refine plD ?_
 refine tn_ hK2 ?_
 refine wp_seq_k fun K11 hK11 => ?_
 refine plStart ?_
 refine lk_ (.pointer (some ⟨g6, 3, none⟩)) ?_
 refine litVal (v := .slice v5.B v5.h.rn v5.d) rfl (wn rfl) (gLoad (v := .slice v5.B v5.h.rn v5.d) (k := 3) 0 hm9 rfl kr_ (.tmp 29) kr_ rfl le_) rfl (by decide) ?_
 obtain ⟨Ab, hrb_, hbb_, hsb_⟩ := sliceH_blk (V := 1) Ty.sl_L_api_Digest ((Mem.lv ((Mem.tailN (T := (lvRes [v5] ++ lvRes [])) 1 hm9 rfl).sub (L' := lvRes [v5]) (lf_))) v5 List.mem_cons_self).b (by rw [hv5_]; decide)
 obtain ⟨vbad, hvb_⟩ : ∃ v_ : Lv, v_ = ⟨0, 0, hdBad, v5.A, v5.c, Ab, v5.d⟩ := ⟨_, rfl⟩
 have hat_ : vbad.At w10 := by
  have q1_ := ((Mem.lv ((Mem.tailN (T := (lvRes [v5] ++ lvRes [])) 1 hm9 rfl).sub (L' := lvRes [v5]) (lf_))) v5 List.mem_cons_self).a
  have q2_ := hrb_
  rw [hv5_] at q1_ q2_
  rw [hvb_]
  exact ⟨q1_, q2_⟩
 have hm12 : Mem w w10 ([.arr g6 25 (hcs v5.h v5.A v5.c v5.B v5.d)] ++ (lvRes [vbad] ++ (lvRes [v5] ++ lvRes []))) := Mem.newBad (M := (lvRes [v5] ++ lvRes [])) (v := v5) [.arr g6 25 (hcs v5.h v5.A v5.c v5.B v5.d)] hm9 (by rw [hvb_]) (by rw [hvb_, hv5_]; rfl) (by rw [hvb_]; exact hbb_) hat_ (by rw [hv5_]; decide) (hdSelf (lf_)) (mutApp (fun _ h_ => lvRes_mut h_) (fun _ h_ => lvRes_mut h_))
 have hm13 : Mem w w10 ((.arr g6 25 (hcs v5.h v5.A v5.c v5.B v5.d)) :: (lvRes [vbad] ++ (lvRes [v5] ++ lvRes []))) := hm12
 clear hm12 hm9
 clear hat_
 refine litVal (i := 2) (v := .slice Ab 1 v5.d) rfl (wn rfl) (sliceHRun (k := 1) (.tmp 30) (.const (.int .i64 1)) hsb_ rfl le_ le_ rfl) rfl (by decide) ?_
 refine lk_ (.pointer (some ⟨g6, 3, none⟩)) ?_
 refine plStore1 (v := .slice Ab 1 v5.d) (k := 3) 0 kr_ hm13 rfl (i := 4) rfl (wn rfl) rfl le_ le_ rfl rfl rfl ?_
 intro w15 hm14
 clear hm13
 try simp only [lc1_, lc2_, lc3_, lc4_] at hm14
 refine qNone rfl ?_
 refine plD ?_
 refine tn_ hK11 ?_
 refine wp_seq_k fun K16 hK16 => ?_
 refine plStart ?_
 refine plCall (i := 0) 20 [] [] [] rfl kr_ (wn rfl) rfl le_ (litArgs kr_) (new_any _) ?_
 rintro e w17 ⟨rfl, hbz⟩
 have hm18 := hm14.below hbz
 clear hbz hm14
 refine ⟨_, rfl, ?_⟩
 refine qP rfl ?_
 refine plCall (i := 1) 18 [.int .i64 5] [] [] rfl kr_ (wn rfl) rfl le_ (litArgs kr_) (header_any 5 _) ?_
 rintro e w19 ⟨v21, hv21_, rfl, hat_, hA_, hB_, hbz⟩
 have hm20 := Mem.newLv (lx := []) (M := (lvRes [vbad] ++ (lvRes [v5] ++ lvRes []))) [.arr g6 25 ([.int .i64 v5.h.tick, .slice v5.A v5.h.counts.length v5.c, .int .i64 v5.h.depth, .slice Ab 1 v5.d])] hm18 hbz hat_ (Or.inr ⟨hA_, hB_⟩) hdNone (mutApp (fun _ h_ => lvRes_mut h_) (mutApp (fun _ h_ => lvRes_mut h_) (fun _ h_ => lvRes_mut h_)))
 simp only [List.cons_append, List.nil_append] at hm20
 clear hm18
 clear hat_ hA_ hB_ hbz
 refine ⟨_, rfl, ?_⟩
 refine qP rfl ?_
 refine plCall (i := 2) 19 [.agg (tbs (.slice none 0 0) 1).toArray, .agg (hcs v21.h v21.A v21.c v21.B v21.d).toArray] [] [] rfl kr_ (wn rfl) rfl le_ (litArgs kr_) (by exact vadd_any ([] : List Lv) none 0 1 v21.h v21.A v21.c v21.B v21.d _ (TbAt.nil _) (lenT (rfl : vrs [] = sT0) (by decide)) ((Mem.lv ((Mem.tailN (T := (lvRes [v21] ++ (lvRes [vbad] ++ (lvRes [v5] ++ lvRes [])))) 1 hm20 rfl).sub (L' := lvRes [v21]) (lf_))) v21 List.mem_cons_self).a ((Mem.lv ((Mem.tailN (T := (lvRes [v21] ++ (lvRes [vbad] ++ (lvRes [v5] ++ lvRes [])))) 1 hm20 rfl).sub (L' := lvRes [v21]) (lf_))) v21 List.mem_cons_self).b (fit_eq hv21_ fit5) (goodT (rfl : vrs [] = sT0) (by decide +kernel)) (by decide)) ?_
 have hE_ : addV (vrs ([] : List Lv)) 1 v21.h = (sT1, 2, 1, 0) := by rw [(rfl : vrs [] = sT0), hv21_]; kernel_rfl
 rintro e w22 ⟨l24, S25, c26, rfl, hvl24, hT_, hN_, hbz⟩
 rw [hE_] at hvl24 ⊢
 clear hE_
 have hm23 := Mem.newTb (M := (lvRes [v21] ++ (lvRes [vbad] ++ (lvRes [v5] ++ lvRes [])))) [.arr g6 25 ([.int .i64 v5.h.tick, .slice v5.A v5.h.counts.length v5.c, .int .i64 v5.h.depth, .slice Ab 1 v5.d])] hm20 hbz hT_ hN_ hdNone (mutApp (fun _ h_ => lvRes_mut h_) (mutApp (fun _ h_ => lvRes_mut h_) (mutApp (fun _ h_ => lvRes_mut h_) (fun _ h_ => lvRes_mut h_))))
 simp only [List.cons_append, List.nil_append] at hm23
 clear hm20
 clear hT_ hN_ hbz
 refine ⟨_, rfl, ?_⟩
 refine qP rfl ?_
 refine lk_ (.tuple #[.agg (tbs (.slice S25 l24.length c26) 2).toArray, .int .i64 1, .int .i64 0]) ?_
 refine lk_ (.agg (tbs (.slice S25 l24.length c26) 2).toArray) ?_
 refine lk_ (.int .i64 1) ?_
 refine lk_ (.int .i64 0) ?_
 refine plAlloc (z := [.slice none 0 0, .int .i64 0]) Ty.ag_voxel_api_Versions hm23 (i := 7) rfl (wn rfl) rfl ?_
 intro g29 w31 hm30
 clear hm23
 try simp only [lc1_, lc2_, lc3_, lc4_] at hm30
 replace hm30 := Mem.insAt (M := ((.arr g6 25 ([.int .i64 v5.h.tick, .slice v5.A v5.h.counts.length v5.c, .int .i64 v5.h.depth, .slice Ab 1 v5.d])) :: (tbRes l24 S25 c26 ++ (lvRes [v21] ++ (lvRes [vbad] ++ (lvRes [v5] ++ lvRes [])))))) 1 hm30
 simp only [List.insertIdx_succ_cons, List.insertIdx_zero] at hm30
 refine qP rfl ?_
 refine plStore 1 Ty.ag_voxel_api_Versions hm30 rfl (i := 8) (cs := tbs (.slice S25 l24.length c26) 2) rfl (wn rfl) rfl le_ le_ rfl rfl kr_ ?_
 intro w33 hm32
 clear hm30
 try simp only [lc1_, lc2_, lc3_, lc4_] at hm32
 refine qNone rfl ?_
 refine lk_ (.int .i64 1) ?_
 refine lk_ (.int .i64 0) ?_
 refine plD ?_
 refine tn_ hK16 ?_
 have hm34 : Mem w w33 ((.arr g6 25 ([.int .i64 v5.h.tick, .slice v5.A v5.h.counts.length v5.c, .int .i64 v5.h.depth, .slice Ab 1 v5.d])) :: (.arr g29 52 (tbs (.slice S25 l24.length c26) 2)) :: (tbRes l24 S25 c26 ++ (lvRes [vbad] ++ lvRes [v5]))) := hm32.sub (kp_ (kp_ (ca_ (up_ (ca_ (lf_))))))
 clear hm32
 refine wp_seq_k fun K35 hK35 => ?_
 refine glStart 2 ((.arr g6 25 ([.int .i64 v5.h.tick, .slice v5.A v5.h.counts.length v5.c, .int .i64 v5.h.depth, .slice Ab 1 v5.d])) :: (.arr g29 52 (tbs (.slice S25 l24.length c26) 2)) :: (tbRes l24 S25 c26 ++ (lvRes [vbad] ++ lvRes [v5]))) hm34 kr_ ?_
 intro w37 hm36
 clear hm34
 refine glTake (i := 0) (v := .agg (tbs (.slice S25 l24.length c26) 2).toArray) rfl kr_ (wn rfl) (fun _ _ _ h => h) hm36 (fun w_ h_ => gLoadAg (vs := tbs (.slice S25 l24.length c26) 2) (k := 0) 1 h_ rfl kr_ kr_ (.tmp 2) Ty.ag_voxel_api_Versions rfl le_) ?_
 refine glP rfl ?_
 refine glCall (i := 1) 18 [.int .i64 6] [] [] kr_ rfl kr_ (wn rfl) rfl le_ (litArgs kr_) (header_any 6 _) ?_
 rintro e w38 ⟨v40, hv40_, rfl, hat_, hA_, hB_, hbz⟩
 have hm39 := Mem.newLv (lx := []) (M := (tbRes l24 S25 c26 ++ (lvRes [vbad] ++ lvRes [v5]))) [.arr g6 25 ([.int .i64 v5.h.tick, .slice v5.A v5.h.counts.length v5.c, .int .i64 v5.h.depth, .slice Ab 1 v5.d]), .arr g29 52 (tbs (.slice S25 l24.length c26) 2)] hm36 hbz hat_ (Or.inr ⟨hA_, hB_⟩) hdNone (mutApp (fun _ h_ => tbRes_mut h_) (mutApp (fun _ h_ => lvRes_mut h_) (fun _ h_ => lvRes_mut h_)))
 simp only [List.cons_append, List.nil_append] at hm39
 clear hat_ hA_ hB_ hbz
 have hk41 := (hm39.sub (.cons_cons _ (.cons_cons _ (up_ (rf_)))))
 refine ⟨_, rfl, hk41, ?_⟩
 refine glP rfl ?_
 refine glCall (i := 2) 19 [.agg (tbs (.slice S25 l24.length c26) 2).toArray, .agg (hcs v40.h v40.A v40.c v40.B v40.d).toArray] [] [] kr_ rfl kr_ (wn rfl) rfl le_ (litArgs kr_) (by exact vadd_any l24 S25 c26 2 v40.h v40.A v40.c v40.B v40.d _ (Mem.tb ((Mem.tailN (T := (lvRes [v40] ++ (tbRes l24 S25 c26 ++ (lvRes [vbad] ++ lvRes [v5])))) 2 hm39 rfl).sub (L' := tbRes l24 S25 c26) (up_ (lf_)))) (lenT hvl24 (by decide)) ((Mem.lv ((Mem.tailN (T := (lvRes [v40] ++ (tbRes l24 S25 c26 ++ (lvRes [vbad] ++ lvRes [v5])))) 2 hm39 rfl).sub (L' := lvRes [v40]) (lf_))) v40 List.mem_cons_self).a ((Mem.lv ((Mem.tailN (T := (lvRes [v40] ++ (tbRes l24 S25 c26 ++ (lvRes [vbad] ++ lvRes [v5])))) 2 hm39 rfl).sub (L' := lvRes [v40]) (lf_))) v40 List.mem_cons_self).b (fit_eq hv40_ fit6) (goodT hvl24 (by decide +kernel)) (by decide)) ?_
 have hE_ : addV (vrs l24) 2 v40.h = (sT2, 3, 2, 0) := by rw [hvl24, hv40_]; kernel_rfl
 rintro e w42 ⟨l44, S45, c46, rfl, hvl44, hT_, hN_, hbz⟩
 rw [hE_] at hvl44 ⊢
 clear hE_
 have hm43 := Mem.newTb (M := (lvRes [v40] ++ (tbRes l24 S25 c26 ++ (lvRes [vbad] ++ lvRes [v5])))) [.arr g6 25 ([.int .i64 v5.h.tick, .slice v5.A v5.h.counts.length v5.c, .int .i64 v5.h.depth, .slice Ab 1 v5.d]), .arr g29 52 (tbs (.slice S25 l24.length c26) 2)] hm39 hbz hT_ hN_ (hdTb (up_ (lf_))) (mutApp (fun _ h_ => lvRes_mut h_) (mutApp (fun _ h_ => tbRes_mut h_) (mutApp (fun _ h_ => lvRes_mut h_) (fun _ h_ => lvRes_mut h_))))
 simp only [List.cons_append, List.nil_append] at hm43
 clear hT_ hN_ hbz
 have hk49 := (hm43.sub (.cons_cons _ (.cons_cons _ (up_ (up_ (rf_))))))
 refine ⟨_, rfl, hk49, ?_⟩
 refine glP rfl ?_
 refine glTurn ((.arr g6 25 ([.int .i64 v5.h.tick, .slice v5.A v5.h.counts.length v5.c, .int .i64 v5.h.depth, .slice Ab 1 v5.d])) :: (tbRes l44 S45 c46 ++ (lvRes [v40] ++ (tbRes l24 S25 c26 ++ (lvRes [vbad] ++ lvRes [v5]))))) kr_ ?_
 have hk50 := (hm43.sub (.cons_cons _ (.cons _ (List.Sublist.refl _))))
 refine mk_ (i := 3) (v := .tuple #[.agg (tbs (.slice S45 l44.length c46) 3).toArray, .int .i64 2, .int .i64 0]) rfl rfl (fun _ _ _ h => h) hk50 rfl ?_
 refine mk_ (i := 4) (v := .agg (tbs (.slice S45 l44.length c46) 3).toArray) rfl rfl (fun _ _ _ h => h) hk50 rfl ?_
 refine mk_ (i := 5) (v := .int .i64 2) rfl rfl (fun _ _ _ h => h) hk50 rfl ?_
 refine mk_ (i := 6) (v := .int .i64 0) rfl rfl (fun _ _ _ h => h) hk50 rfl ?_
 refine mgStore 1 Ty.ag_voxel_api_Versions hm43 rfl kr_ (i := 7) (cs := tbs (.slice S45 l44.length c46) 3) rfl (wn rfl) rfl le_ le_ rfl rfl kr_ (fun w_ h_ => (h_.sub (.cons_cons _ (.cons _ (List.Sublist.refl _))))) ?_
 intro w52 hm51
 clear hm43
 try simp only [lc1_, lc2_, lc3_, lc4_] at hm51
 refine mNone rfl ?_
 have hk53 := (hm51.sub (.cons_cons _ (.cons _ (List.Sublist.refl _))))
 refine mk_ (i := 8) (v := .int .i64 2) rfl rfl (fun _ _ _ h => h) hk53 rfl ?_
 refine mk_ (i := 9) (v := .int .i64 0) rfl rfl (fun _ _ _ h => h) hk53 rfl ?_
 refine mgDone kr_ ?_
 refine tn_ hK35 ?_
 refine wpPrune [(0, .bool false), (1, .pointer (some ⟨g6, 0, none⟩)), (2, .pointer (some ⟨g29, 0, none⟩)), (3, .int .i64 1), (4, .int .i64 0), (5, .int .i64 2), (6, .int .i64 0)] ⟨lg_, ⟨lg_, ⟨lg_, ⟨lg_, ⟨lg_, ⟨lg_, ⟨lg_, trivial⟩⟩⟩⟩⟩⟩⟩ (fun X54 => ?_)
 have hm55 : Mem w w52 ((.arr g6 25 ([.int .i64 v5.h.tick, .slice v5.A v5.h.counts.length v5.c, .int .i64 v5.h.depth, .slice Ab 1 v5.d])) :: (.arr g29 52 (tbs (.slice S45 l44.length c46) 3)) :: (tbRes l44 S45 c46 ++ (lvRes [vbad] ++ lvRes [v5]))) := hm51.sub (kp_ (kp_ (ca_ (up_ (up_ (ca_ (rf_)))))))
 clear hm51
 refine gwCut (fun a_ w_ => Fr a_ 195 [(0, .bool false), (1, .pointer (some ⟨g6, 0, none⟩)), (2, .pointer (some ⟨g29, 0, none⟩)), (3, .int .i64 1), (4, .int .i64 0), (5, .int .i64 2), (6, .int .i64 0), (9, .int .i64 22)] ∧ Mem w w_ ((.arr g6 25 ([.int .i64 v5.h.tick, .slice v5.A v5.h.counts.length v5.c, .int .i64 v5.h.depth, .slice Ab 1 v5.d])) :: (.arr g29 52 (tbs (.slice S45 l44.length c46) 3)) :: (tbRes l44 S45 c46 ++ (lvRes [vbad] ++ lvRes [v5])))) ?_ ?_
 ·refine mgStartM ((.arr g6 25 ([.int .i64 v5.h.tick, .slice v5.A v5.h.counts.length v5.c, .int .i64 v5.h.depth, .slice Ab 1 v5.d])) :: (.arr g29 52 (tbs (.slice S45 l44.length c46) 3)) :: (tbRes l44 S45 c46 ++ (lvRes [vbad] ++ lvRes [v5]))) hm55 kr_ ?_
  intro w57 hm56
  clear hm55
  refine mgTake (i := 0) (v := .agg (tbs (.slice S45 l44.length c46) 3).toArray) rfl kr_ (wn rfl) (fun _ _ _ h => h) hm56 (fun w_ h_ => gLoadAg (vs := tbs (.slice S45 l44.length c46) 3) (k := 0) 1 h_ rfl kr_ kr_ (.tmp 2) Ty.ag_voxel_api_Versions rfl le_) ?_
  refine mP rfl ?_
  refine mgFork (i := 1) (j := 7) kr_ kr_ kr_ ?_ ?_
  ·refine mgiCall (i := 1) 18 [.int .i64 5] [] [] rfl kr_ (wn rfl) rfl le_ (litArgs kr_) (header_any 5 _) ?_
   rintro e w58 ⟨v60, hv60_, rfl, hat_, hA_, hB_, hbz⟩
   have hm59 := Mem.newLv (lx := []) (M := (tbRes l44 S45 c46 ++ (lvRes [vbad] ++ lvRes [v5]))) [.arr g6 25 ([.int .i64 v5.h.tick, .slice v5.A v5.h.counts.length v5.c, .int .i64 v5.h.depth, .slice Ab 1 v5.d]), .arr g29 52 (tbs (.slice S45 l44.length c46) 3)] hm56 hbz hat_ (Or.inr ⟨hA_, hB_⟩) hdNone (mutApp (fun _ h_ => tbRes_mut h_) (mutApp (fun _ h_ => lvRes_mut h_) (fun _ h_ => lvRes_mut h_)))
   simp only [List.cons_append, List.nil_append] at hm59
   clear hat_ hA_ hB_ hbz
   have hk61 := (hm59.sub (.cons_cons _ (.cons_cons _ (up_ (rf_)))))
   refine ⟨_, rfl, hk61, ?_⟩
   refine mP rfl ?_
   refine mgFork (i := 2) (j := 7) kr_ kr_ kr_ ?_ ?_
   ·refine mgiCall (i := 2) 19 [.agg (tbs (.slice S45 l44.length c46) 3).toArray, .agg (hcs v60.h v60.A v60.c v60.B v60.d).toArray] [] [] rfl kr_ (wn rfl) rfl le_ (litArgs kr_) (by exact vadd_any l44 S45 c46 3 v60.h v60.A v60.c v60.B v60.d _ (Mem.tb ((Mem.tailN (T := (lvRes [v60] ++ (tbRes l44 S45 c46 ++ (lvRes [vbad] ++ lvRes [v5])))) 2 hm59 rfl).sub (L' := tbRes l44 S45 c46) (up_ (lf_)))) (lenT hvl44 (by decide)) ((Mem.lv ((Mem.tailN (T := (lvRes [v60] ++ (tbRes l44 S45 c46 ++ (lvRes [vbad] ++ lvRes [v5])))) 2 hm59 rfl).sub (L' := lvRes [v60]) (lf_))) v60 List.mem_cons_self).a ((Mem.lv ((Mem.tailN (T := (lvRes [v60] ++ (tbRes l44 S45 c46 ++ (lvRes [vbad] ++ lvRes [v5])))) 2 hm59 rfl).sub (L' := lvRes [v60]) (lf_))) v60 List.mem_cons_self).b (fit_eq hv60_ fit5) (goodT hvl44 (by decide +kernel)) (by decide)) ?_
    have hE_ : addV (vrs l44) 3 v60.h = (sT0, 0, 0, 22) := by rw [hvl44, hv60_]; kernel_rfl
    rintro e w62 ⟨l64, S65, c66, rfl, hvl64, hT_, hN_, hbz⟩
    rw [hE_] at hvl64 ⊢
    clear hE_
    have hm63 := Mem.newTb (M := (lvRes [v60] ++ (tbRes l44 S45 c46 ++ (lvRes [vbad] ++ lvRes [v5])))) [.arr g6 25 ([.int .i64 v5.h.tick, .slice v5.A v5.h.counts.length v5.c, .int .i64 v5.h.depth, .slice Ab 1 v5.d]), .arr g29 52 (tbs (.slice S45 l44.length c46) 3)] hm59 hbz hT_ hN_ (hdTb (up_ (lf_))) (mutApp (fun _ h_ => lvRes_mut h_) (mutApp (fun _ h_ => tbRes_mut h_) (mutApp (fun _ h_ => lvRes_mut h_) (fun _ h_ => lvRes_mut h_))))
    simp only [List.cons_append, List.nil_append] at hm63
    clear hT_ hN_ hbz
    have hk69 := (hm63.sub (.cons_cons _ (.cons_cons _ (up_ (up_ (rf_))))))
    refine ⟨_, rfl, hk69, ?_⟩
    refine mP rfl ?_
    refine mk_ (i := 3) (v := .tuple #[.agg (tbs (.slice S65 l64.length c66) 0).toArray, .int .i64 0, .int .i64 22]) rfl rfl (fun _ _ _ h => h) hk69 rfl ?_
    refine mk_ (i := 4) (v := .agg (tbs (.slice S65 l64.length c66) 0).toArray) rfl rfl (fun _ _ _ h => h) hk69 rfl ?_
    refine mk_ (i := 5) (v := .int .i64 0) rfl rfl (fun _ _ _ h => h) hk69 rfl ?_
    refine mk_ (i := 6) (v := .int .i64 22) rfl rfl (fun _ _ _ h => h) hk69 rfl ?_
    refine mgAlloc (i := 7) (z := [.slice none 0 0, .int .i64 0]) Ty.ag_voxel_api_Versions hm63 (fun w_ h_ => (h_.sub (.cons_cons _ (.cons_cons _ (up_ (up_ (rf_))))))) kr_ rfl (wn rfl) rfl ?_
    intro g70 w72 hm71
    clear hm63
    try simp only [lc1_, lc2_, lc3_, lc4_] at hm71
    replace hm71 := Mem.insAt (M := ((.arr g6 25 ([.int .i64 v5.h.tick, .slice v5.A v5.h.counts.length v5.c, .int .i64 v5.h.depth, .slice Ab 1 v5.d])) :: (.arr g29 52 (tbs (.slice S45 l44.length c46) 3)) :: (tbRes l64 S65 c66 ++ (lvRes [v60] ++ (tbRes l44 S45 c46 ++ (lvRes [vbad] ++ lvRes [v5])))))) 2 hm71
    simp only [List.insertIdx_succ_cons, List.insertIdx_zero] at hm71
    refine mP rfl ?_
    refine mgStore 2 Ty.ag_voxel_api_Versions hm71 rfl kr_ (i := 8) (cs := tbs (.slice S65 l64.length c66) 0) rfl (wn rfl) rfl le_ le_ rfl rfl kr_ (fun w_ h_ => (h_.sub (.cons_cons _ (.cons_cons _ (.cons _ (up_ (up_ (rf_)))))))) ?_
    intro w74 hm73
    clear hm71
    try simp only [lc1_, lc2_, lc3_, lc4_] at hm73
    refine mNone rfl ?_
    have hk75 := (hm73.sub (.cons_cons _ (.cons_cons _ (.cons _ (up_ (up_ (rf_)))))))
    refine mk_ (i := 9) (v := .int .i64 0) rfl rfl (fun _ _ _ h => h) hk75 rfl ?_
    refine mk_ (i := 10) (v := .int .i64 22) rfl rfl (fun _ _ _ h => h) hk75 rfl ?_
    refine mgDone kr_ ?_
    refine then_normal ?_
    exact ⟨⟨litSize, rfl, ⟨lg_, ⟨lg_, ⟨lg_, ⟨lg_, ⟨lg_, ⟨lg_, ⟨lg_, ⟨lg_, trivial⟩⟩⟩⟩⟩⟩⟩⟩⟩, (hm73.sub (.cons_cons _ (.cons_cons _ (.cons _ (up_ (up_ (rf_)))))))⟩
   refine mgiAlloc (i := 7) (z := [.slice none 0 0, .int .i64 0]) Ty.ag_voxel_api_Versions hm59 (fun w_ h_ => (h_.sub (.cons_cons _ (.cons_cons _ (up_ (rf_)))))) rfl (wn rfl) rfl ?_
   intro g76 w78 hm77
   clear hm59
   try simp only [lc1_, lc2_, lc3_, lc4_] at hm77
   replace hm77 := Mem.insAt (M := ((.arr g6 25 ([.int .i64 v5.h.tick, .slice v5.A v5.h.counts.length v5.c, .int .i64 v5.h.depth, .slice Ab 1 v5.d])) :: (.arr g29 52 (tbs (.slice S45 l44.length c46) 3)) :: (lvRes [v60] ++ (tbRes l44 S45 c46 ++ (lvRes [vbad] ++ lvRes [v5]))))) 2 hm77
   simp only [List.insertIdx_succ_cons, List.insertIdx_zero] at hm77
   refine mP rfl ?_
   refine mgCall (i := 2) 19 [.agg (tbs (.slice S45 l44.length c46) 3).toArray, .agg (hcs v60.h v60.A v60.c v60.B v60.d).toArray] [] [] kr_ rfl kr_ (wn rfl) rfl le_ (litArgs kr_) (by exact vadd_any l44 S45 c46 3 v60.h v60.A v60.c v60.B v60.d _ (Mem.tb ((Mem.tailN (T := (lvRes [v60] ++ (tbRes l44 S45 c46 ++ (lvRes [vbad] ++ lvRes [v5])))) 3 hm77 rfl).sub (L' := tbRes l44 S45 c46) (up_ (lf_)))) (lenT hvl44 (by decide)) ((Mem.lv ((Mem.tailN (T := (lvRes [v60] ++ (tbRes l44 S45 c46 ++ (lvRes [vbad] ++ lvRes [v5])))) 3 hm77 rfl).sub (L' := lvRes [v60]) (lf_))) v60 List.mem_cons_self).a ((Mem.lv ((Mem.tailN (T := (lvRes [v60] ++ (tbRes l44 S45 c46 ++ (lvRes [vbad] ++ lvRes [v5])))) 3 hm77 rfl).sub (L' := lvRes [v60]) (lf_))) v60 List.mem_cons_self).b (fit_eq hv60_ fit5) (goodT hvl44 (by decide +kernel)) (by decide)) ?_
   have hE_ : addV (vrs l44) 3 v60.h = (sT0, 0, 0, 22) := by rw [hvl44, hv60_]; kernel_rfl
   rintro e w79 ⟨l81, S82, c83, rfl, hvl81, hT_, hN_, hbz⟩
   rw [hE_] at hvl81 ⊢
   clear hE_
   have hm80 := Mem.newTb (M := (lvRes [v60] ++ (tbRes l44 S45 c46 ++ (lvRes [vbad] ++ lvRes [v5])))) [.arr g6 25 ([.int .i64 v5.h.tick, .slice v5.A v5.h.counts.length v5.c, .int .i64 v5.h.depth, .slice Ab 1 v5.d]), .arr g29 52 (tbs (.slice S45 l44.length c46) 3), .arr g76 52 ([.slice none 0 0, .int .i64 0])] hm77 hbz hT_ hN_ (hdTb (up_ (lf_))) (mutApp (fun _ h_ => lvRes_mut h_) (mutApp (fun _ h_ => tbRes_mut h_) (mutApp (fun _ h_ => lvRes_mut h_) (fun _ h_ => lvRes_mut h_))))
   simp only [List.cons_append, List.nil_append] at hm80
   clear hT_ hN_ hbz
   have hk86 := (hm80.sub (.cons_cons _ (.cons_cons _ (.cons _ (up_ (up_ (rf_)))))))
   refine ⟨_, rfl, hk86, ?_⟩
   refine mP rfl ?_
   refine mk_ (i := 3) (v := .tuple #[.agg (tbs (.slice S82 l81.length c83) 0).toArray, .int .i64 0, .int .i64 22]) rfl rfl (fun _ _ _ h => h) hk86 rfl ?_
   refine mk_ (i := 4) (v := .agg (tbs (.slice S82 l81.length c83) 0).toArray) rfl rfl (fun _ _ _ h => h) hk86 rfl ?_
   refine mk_ (i := 5) (v := .int .i64 0) rfl rfl (fun _ _ _ h => h) hk86 rfl ?_
   refine mk_ (i := 6) (v := .int .i64 22) rfl rfl (fun _ _ _ h => h) hk86 rfl ?_
   refine mgStore 2 Ty.ag_voxel_api_Versions hm80 rfl kr_ (i := 8) (cs := tbs (.slice S82 l81.length c83) 0) rfl (wn rfl) rfl le_ le_ rfl rfl kr_ (fun w_ h_ => (h_.sub (.cons_cons _ (.cons_cons _ (.cons _ (up_ (up_ (rf_)))))))) ?_
   intro w88 hm87
   clear hm80
   try simp only [lc1_, lc2_, lc3_, lc4_] at hm87
   refine mNone rfl ?_
   have hk89 := (hm87.sub (.cons_cons _ (.cons_cons _ (.cons _ (up_ (up_ (rf_)))))))
   refine mk_ (i := 9) (v := .int .i64 0) rfl rfl (fun _ _ _ h => h) hk89 rfl ?_
   refine mk_ (i := 10) (v := .int .i64 22) rfl rfl (fun _ _ _ h => h) hk89 rfl ?_
   refine mgDone kr_ ?_
   refine then_normal ?_
   exact ⟨⟨litSize, rfl, ⟨lg_, ⟨lg_, ⟨lg_, ⟨lg_, ⟨lg_, ⟨lg_, ⟨lg_, ⟨lg_, trivial⟩⟩⟩⟩⟩⟩⟩⟩⟩, (hm87.sub (.cons_cons _ (.cons_cons _ (.cons _ (up_ (up_ (rf_)))))))⟩
  refine mgiAlloc (i := 7) (z := [.slice none 0 0, .int .i64 0]) Ty.ag_voxel_api_Versions hm56 (fun w_ h_ => (h_.sub (.cons_cons _ (.cons_cons _ (List.Sublist.refl _))))) rfl (wn rfl) rfl ?_
  intro g90 w92 hm91
  clear hm56
  try simp only [lc1_, lc2_, lc3_, lc4_] at hm91
  replace hm91 := Mem.insAt (M := ((.arr g6 25 ([.int .i64 v5.h.tick, .slice v5.A v5.h.counts.length v5.c, .int .i64 v5.h.depth, .slice Ab 1 v5.d])) :: (.arr g29 52 (tbs (.slice S45 l44.length c46) 3)) :: (tbRes l44 S45 c46 ++ (lvRes [vbad] ++ lvRes [v5])))) 2 hm91
  simp only [List.insertIdx_succ_cons, List.insertIdx_zero] at hm91
  refine mP rfl ?_
  refine mgCall (i := 1) 18 [.int .i64 5] [] [] kr_ rfl kr_ (wn rfl) rfl le_ (litArgs kr_) (header_any 5 _) ?_
  rintro e w93 ⟨v95, hv95_, rfl, hat_, hA_, hB_, hbz⟩
  have hm94 := Mem.newLv (lx := []) (M := (tbRes l44 S45 c46 ++ (lvRes [vbad] ++ lvRes [v5]))) [.arr g6 25 ([.int .i64 v5.h.tick, .slice v5.A v5.h.counts.length v5.c, .int .i64 v5.h.depth, .slice Ab 1 v5.d]), .arr g29 52 (tbs (.slice S45 l44.length c46) 3), .arr g90 52 ([.slice none 0 0, .int .i64 0])] hm91 hbz hat_ (Or.inr ⟨hA_, hB_⟩) hdNone (mutApp (fun _ h_ => tbRes_mut h_) (mutApp (fun _ h_ => lvRes_mut h_) (fun _ h_ => lvRes_mut h_)))
  simp only [List.cons_append, List.nil_append] at hm94
  clear hat_ hA_ hB_ hbz
  have hk96 := (hm94.sub (.cons_cons _ (.cons_cons _ (.cons _ (up_ (rf_))))))
  refine ⟨_, rfl, hk96, ?_⟩
  refine mP rfl ?_
  refine mgCall (i := 2) 19 [.agg (tbs (.slice S45 l44.length c46) 3).toArray, .agg (hcs v95.h v95.A v95.c v95.B v95.d).toArray] [] [] kr_ rfl kr_ (wn rfl) rfl le_ (litArgs kr_) (by exact vadd_any l44 S45 c46 3 v95.h v95.A v95.c v95.B v95.d _ (Mem.tb ((Mem.tailN (T := (lvRes [v95] ++ (tbRes l44 S45 c46 ++ (lvRes [vbad] ++ lvRes [v5])))) 3 hm94 rfl).sub (L' := tbRes l44 S45 c46) (up_ (lf_)))) (lenT hvl44 (by decide)) ((Mem.lv ((Mem.tailN (T := (lvRes [v95] ++ (tbRes l44 S45 c46 ++ (lvRes [vbad] ++ lvRes [v5])))) 3 hm94 rfl).sub (L' := lvRes [v95]) (lf_))) v95 List.mem_cons_self).a ((Mem.lv ((Mem.tailN (T := (lvRes [v95] ++ (tbRes l44 S45 c46 ++ (lvRes [vbad] ++ lvRes [v5])))) 3 hm94 rfl).sub (L' := lvRes [v95]) (lf_))) v95 List.mem_cons_self).b (fit_eq hv95_ fit5) (goodT hvl44 (by decide +kernel)) (by decide)) ?_
  have hE_ : addV (vrs l44) 3 v95.h = (sT0, 0, 0, 22) := by rw [hvl44, hv95_]; kernel_rfl
  rintro e w97 ⟨l99, S100, c101, rfl, hvl99, hT_, hN_, hbz⟩
  rw [hE_] at hvl99 ⊢
  clear hE_
  have hm98 := Mem.newTb (M := (lvRes [v95] ++ (tbRes l44 S45 c46 ++ (lvRes [vbad] ++ lvRes [v5])))) [.arr g6 25 ([.int .i64 v5.h.tick, .slice v5.A v5.h.counts.length v5.c, .int .i64 v5.h.depth, .slice Ab 1 v5.d]), .arr g29 52 (tbs (.slice S45 l44.length c46) 3), .arr g90 52 ([.slice none 0 0, .int .i64 0])] hm94 hbz hT_ hN_ (hdTb (up_ (lf_))) (mutApp (fun _ h_ => lvRes_mut h_) (mutApp (fun _ h_ => tbRes_mut h_) (mutApp (fun _ h_ => lvRes_mut h_) (fun _ h_ => lvRes_mut h_))))
  simp only [List.cons_append, List.nil_append] at hm98
  clear hT_ hN_ hbz
  have hk104 := (hm98.sub (.cons_cons _ (.cons_cons _ (.cons _ (up_ (up_ (rf_)))))))
  refine ⟨_, rfl, hk104, ?_⟩
  refine mP rfl ?_
  refine mk_ (i := 3) (v := .tuple #[.agg (tbs (.slice S100 l99.length c101) 0).toArray, .int .i64 0, .int .i64 22]) rfl rfl (fun _ _ _ h => h) hk104 rfl ?_
  refine mk_ (i := 4) (v := .agg (tbs (.slice S100 l99.length c101) 0).toArray) rfl rfl (fun _ _ _ h => h) hk104 rfl ?_
  refine mk_ (i := 5) (v := .int .i64 0) rfl rfl (fun _ _ _ h => h) hk104 rfl ?_
  refine mk_ (i := 6) (v := .int .i64 22) rfl rfl (fun _ _ _ h => h) hk104 rfl ?_
  refine mgStore 2 Ty.ag_voxel_api_Versions hm98 rfl kr_ (i := 8) (cs := tbs (.slice S100 l99.length c101) 0) rfl (wn rfl) rfl le_ le_ rfl rfl kr_ (fun w_ h_ => (h_.sub (.cons_cons _ (.cons_cons _ (.cons _ (up_ (up_ (rf_)))))))) ?_
  intro w106 hm105
  clear hm98
  try simp only [lc1_, lc2_, lc3_, lc4_] at hm105
  refine mNone rfl ?_
  have hk107 := (hm105.sub (.cons_cons _ (.cons_cons _ (.cons _ (up_ (up_ (rf_)))))))
  refine mk_ (i := 9) (v := .int .i64 0) rfl rfl (fun _ _ _ h => h) hk107 rfl ?_
  refine mk_ (i := 10) (v := .int .i64 22) rfl rfl (fun _ _ _ h => h) hk107 rfl ?_
  refine mgDone kr_ ?_
  refine then_normal ?_
  exact ⟨⟨litSize, rfl, ⟨lg_, ⟨lg_, ⟨lg_, ⟨lg_, ⟨lg_, ⟨lg_, ⟨lg_, ⟨lg_, trivial⟩⟩⟩⟩⟩⟩⟩⟩⟩, (hm105.sub (.cons_cons _ (.cons_cons _ (.cons _ (up_ (up_ (rf_)))))))⟩
 clear hm55
 intro a110 w108 hI_
 obtain ⟨hF_, hm109⟩ := hI_
 obtain ⟨X111, rfl⟩ := frLit hF_
 clear hF_
 refine wp_seq_k fun K112 hK112 => ?_
 refine plStart ?_
 refine litVal (v := .agg (tbs (.slice S45 l44.length c46) 3).toArray) rfl (wn rfl) (gLoadAg (vs := tbs (.slice S45 l44.length c46) 3) (k := 0) 1 hm109 rfl kr_ kr_ (.tmp 2) Ty.ag_voxel_api_Versions rfl le_) rfl (by decide) ?_
 refine plCall (i := 1) 21 [.agg (tbs (.slice S45 l44.length c46) 3).toArray, .int .i64 1] [] [] rfl kr_ (wn rfl) rfl le_ (litArgs kr_) (by exact pin_any l44 S45 c46 3 1 _ (Mem.tb ((Mem.tailN (T := (tbRes l44 S45 c46 ++ (lvRes [vbad] ++ lvRes [v5]))) 2 hm109 rfl).sub (L' := tbRes l44 S45 c46) (lf_))) (lenT hvl44 (by decide)) (pinsT hvl44 (by decide +kernel))) ?_
 have hE_ : pinV (vrs l44) 3 1 = (sTp, 3, 0) := by rw [hvl44]; kernel_rfl
 rintro e w113 ⟨l115, S116, c117, rfl, hvl115, hT_, hN_, hbz⟩
 rw [hE_] at hvl115 ⊢
 clear hE_
 have hm114 := Mem.newTb (M := (tbRes l44 S45 c46 ++ (lvRes [vbad] ++ lvRes [v5]))) [.arr g6 25 ([.int .i64 v5.h.tick, .slice v5.A v5.h.counts.length v5.c, .int .i64 v5.h.depth, .slice Ab 1 v5.d]), .arr g29 52 (tbs (.slice S45 l44.length c46) 3)] hm109 hbz hT_ hN_ (hdTb (lf_)) (mutApp (fun _ h_ => tbRes_mut h_) (mutApp (fun _ h_ => lvRes_mut h_) (fun _ h_ => lvRes_mut h_)))
 simp only [List.cons_append, List.nil_append] at hm114
 clear hm109
 clear hT_ hN_ hbz
 refine ⟨_, rfl, ?_⟩
 refine qP rfl ?_
 refine lk_ (.tuple #[.agg (tbs (.slice S116 l115.length c117) 3).toArray, .int .i64 0]) ?_
 refine lk_ (.agg (tbs (.slice S116 l115.length c117) 3).toArray) ?_
 refine lk_ (.int .i64 0) ?_
 refine plAlloc (z := [.slice none 0 0, .int .i64 0]) Ty.ag_voxel_api_Versions hm114 (i := 5) rfl (wn rfl) rfl ?_
 intro g120 w122 hm121
 clear hm114
 try simp only [lc1_, lc2_, lc3_, lc4_] at hm121
 replace hm121 := Mem.insAt (M := ((.arr g6 25 ([.int .i64 v5.h.tick, .slice v5.A v5.h.counts.length v5.c, .int .i64 v5.h.depth, .slice Ab 1 v5.d])) :: (.arr g29 52 (tbs (.slice S45 l44.length c46) 3)) :: (tbRes l115 S116 c117 ++ (tbRes l44 S45 c46 ++ (lvRes [vbad] ++ lvRes [v5]))))) 2 hm121
 simp only [List.insertIdx_succ_cons, List.insertIdx_zero] at hm121
 refine qP rfl ?_
 refine plStore 2 Ty.ag_voxel_api_Versions hm121 rfl (i := 6) (cs := tbs (.slice S116 l115.length c117) 3) rfl (wn rfl) rfl le_ le_ rfl rfl kr_ ?_
 intro w124 hm123
 clear hm121
 try simp only [lc1_, lc2_, lc3_, lc4_] at hm123
 refine qNone rfl ?_
 refine lk_ (.int .i64 0) ?_
 refine plD ?_
 refine tn_ hK112 ?_
 refine wp_seq_k fun K125 hK125 => ?_
 refine plStart ?_
 refine litVal (v := .agg (tbs (.slice S116 l115.length c117) 3).toArray) rfl (wn rfl) (gLoadAg (vs := tbs (.slice S116 l115.length c117) 3) (k := 0) 2 hm123 rfl kr_ kr_ (.tmp 10) Ty.ag_voxel_api_Versions rfl le_) rfl (by decide) ?_
 refine plCall (i := 1) 22 [.agg (tbs (.slice S116 l115.length c117) 3).toArray, .int .i64 1] [] [] rfl kr_ (wn rfl) rfl le_ (litArgs kr_) (by exact collect_any l115 S116 c117 3 1 (by decide) _ (Mem.tb ((Mem.tailN (T := (tbRes l115 S116 c117 ++ (tbRes l44 S45 c46 ++ (lvRes [vbad] ++ lvRes [v5])))) 3 hm123 rfl).sub (L' := tbRes l115 S116 c117) (lf_))) (lenT hvl115 (by decide))) ?_
 have hE_ : collV (vrs l115) 3 1 = (sTp, 3, []) := by rw [hvl115]; kernel_rfl
 rintro e w126 ⟨l128, S129, c130, A131, c132, rfl, hvl128, hrd_, hna_, hT_, hN_, hbz⟩
 rw [hE_] at hvl128 hrd_ ⊢
 clear hE_
 have hm127 := Mem.newTb (M := (tbRes l115 S116 c117 ++ (tbRes l44 S45 c46 ++ (lvRes [vbad] ++ lvRes [v5])))) [.arr g6 25 ([.int .i64 v5.h.tick, .slice v5.A v5.h.counts.length v5.c, .int .i64 v5.h.depth, .slice Ab 1 v5.d]), .arr g29 52 (tbs (.slice S45 l44.length c46) 3), .arr g120 52 (tbs (.slice S116 l115.length c117) 3)] hm123 hbz hT_ hN_ (hdTb (lf_)) (mutApp (fun _ h_ => tbRes_mut h_) (mutApp (fun _ h_ => tbRes_mut h_) (mutApp (fun _ h_ => lvRes_mut h_) (fun _ h_ => lvRes_mut h_))))
 have hm133 := Mem.newRdMid (M0 := (tbRes l115 S116 c117 ++ (tbRes l44 S45 c46 ++ (lvRes [vbad] ++ lvRes [v5])))) [.arr g6 25 ([.int .i64 v5.h.tick, .slice v5.A v5.h.counts.length v5.c, .int .i64 v5.h.depth, .slice Ab 1 v5.d]), .arr g29 52 (tbs (.slice S45 l44.length c46) 3), .arr g120 52 (tbs (.slice S116 l115.length c117) 3)] hm123 hm127 hrd_ hna_ (mutApp (fun _ h_ => tbRes_mut h_) (mutApp (fun _ h_ => tbRes_mut h_) (mutApp (fun _ h_ => tbRes_mut h_) (mutApp (fun _ h_ => lvRes_mut h_) (fun _ h_ => lvRes_mut h_)))))
 clear hm127
 simp only [List.cons_append, List.nil_append] at hm133
 clear hm123
 clear hT_ hN_ hbz hrd_ hna_
 refine ⟨_, rfl, ?_⟩
 refine qP rfl ?_
 refine lk_ (.tuple #[.agg (tbs (.slice S129 l128.length c130) 3).toArray, .slice A131 0 c132]) ?_
 refine lk_ (.agg (tbs (.slice S129 l128.length c130) 3).toArray) ?_
 refine lk_ (.slice A131 0 c132) ?_
 refine plAlloc (z := [.slice none 0 0, .int .i64 0]) Ty.ag_voxel_api_Versions hm133 (i := 5) rfl (wn rfl) rfl ?_
 intro g134 w136 hm135
 clear hm133
 try simp only [lc1_, lc2_, lc3_, lc4_] at hm135
 replace hm135 := Mem.insAt (M := ((.arr g6 25 ([.int .i64 v5.h.tick, .slice v5.A v5.h.counts.length v5.c, .int .i64 v5.h.depth, .slice Ab 1 v5.d])) :: (.arr g29 52 (tbs (.slice S45 l44.length c46) 3)) :: (.arr g120 52 (tbs (.slice S116 l115.length c117) 3)) :: ((.rd A131 1 0 c132 (ics [])) :: (tbRes l128 S129 c130 ++ (tbRes l115 S116 c117 ++ (tbRes l44 S45 c46 ++ (lvRes [vbad] ++ lvRes [v5]))))))) 3 hm135
 simp only [List.insertIdx_succ_cons, List.insertIdx_zero] at hm135
 refine qP rfl ?_
 refine plStore 3 Ty.ag_voxel_api_Versions hm135 rfl (i := 6) (cs := tbs (.slice S129 l128.length c130) 3) rfl (wn rfl) rfl le_ le_ rfl rfl kr_ ?_
 intro w138 hm137
 clear hm135
 try simp only [lc1_, lc2_, lc3_, lc4_] at hm137
 refine qNone rfl ?_
 refine lk_ (.slice A131 0 c132) ?_
 refine plD ?_
 refine tn_ hK125 ?_
 have hm139 : Mem w w138 ((.arr g6 25 ([.int .i64 v5.h.tick, .slice v5.A v5.h.counts.length v5.c, .int .i64 v5.h.depth, .slice Ab 1 v5.d])) :: (.arr g29 52 (tbs (.slice S45 l44.length c46) 3)) :: (.arr g134 52 (tbs (.slice S129 l128.length c130) 3)) :: ((.rd A131 1 0 c132 (ics [])) :: (tbRes l128 S129 c130 ++ (tbRes l44 S45 c46 ++ (lvRes [vbad] ++ lvRes [v5]))))) := hm137.sub (kp_ (kp_ (sk_ (kp_ (kp_ (ca_ (up_ (ca_ (ca_ (rf_))))))))))
 clear hm137
 refine wp_seq_k fun K140 hK140 => ?_
 refine plStart ?_
 refine litVal (v := .agg (tbs (.slice S129 l128.length c130) 3).toArray) rfl (wn rfl) (gLoadAg (vs := tbs (.slice S129 l128.length c130) 3) (k := 0) 2 hm139 rfl kr_ kr_ (.tmp 12) Ty.ag_voxel_api_Versions rfl le_) rfl (by decide) ?_
 refine plCall (i := 1) 23 [.agg (tbs (.slice S129 l128.length c130) 3).toArray, .int .i64 1] [] [] rfl kr_ (wn rfl) rfl le_ (litArgs kr_) (by exact unpin_any l128 S129 c130 3 1 _ (Mem.tb ((Mem.tailN (T := ((.rd A131 1 0 c132 (ics [])) :: (tbRes l128 S129 c130 ++ (tbRes l44 S45 c46 ++ (lvRes [vbad] ++ lvRes [v5]))))) 3 hm139 rfl).sub (L' := tbRes l128 S129 c130) (sk_ (lf_)))) (lenT hvl128 (by decide)) (pinsT hvl128 (by decide +kernel))) ?_
 have hE_ : unpinV (vrs l128) 3 1 = (sT2, 3, 0) := by rw [hvl128]; kernel_rfl
 rintro e w141 ⟨l143, S144, c145, rfl, hvl143, hT_, hN_, hbz⟩
 rw [hE_] at hvl143 ⊢
 clear hE_
 have hm142 := Mem.newTb (M := ((.rd A131 1 0 c132 (ics [])) :: (tbRes l128 S129 c130 ++ (tbRes l44 S45 c46 ++ (lvRes [vbad] ++ lvRes [v5]))))) [.arr g6 25 ([.int .i64 v5.h.tick, .slice v5.A v5.h.counts.length v5.c, .int .i64 v5.h.depth, .slice Ab 1 v5.d]), .arr g29 52 (tbs (.slice S45 l44.length c46) 3), .arr g134 52 (tbs (.slice S129 l128.length c130) 3)] hm139 hbz hT_ hN_ (hdTb (sk_ (lf_))) (mutCons (mutApp (fun _ h_ => tbRes_mut h_) (mutApp (fun _ h_ => tbRes_mut h_) (mutApp (fun _ h_ => lvRes_mut h_) (fun _ h_ => lvRes_mut h_)))))
 simp only [List.cons_append, List.nil_append] at hm142
 clear hm139
 clear hT_ hN_ hbz
 refine ⟨_, rfl, ?_⟩
 refine qP rfl ?_
 refine lk_ (.tuple #[.agg (tbs (.slice S144 l143.length c145) 3).toArray, .int .i64 0]) ?_
 refine lk_ (.agg (tbs (.slice S144 l143.length c145) 3).toArray) ?_
 refine lk_ (.int .i64 0) ?_
 refine plAlloc (z := [.slice none 0 0, .int .i64 0]) Ty.ag_voxel_api_Versions hm142 (i := 5) rfl (wn rfl) rfl ?_
 intro g148 w150 hm149
 clear hm142
 try simp only [lc1_, lc2_, lc3_, lc4_] at hm149
 replace hm149 := Mem.insAt (M := ((.arr g6 25 ([.int .i64 v5.h.tick, .slice v5.A v5.h.counts.length v5.c, .int .i64 v5.h.depth, .slice Ab 1 v5.d])) :: (.arr g29 52 (tbs (.slice S45 l44.length c46) 3)) :: (.arr g134 52 (tbs (.slice S129 l128.length c130) 3)) :: (tbRes l143 S144 c145 ++ ((.rd A131 1 0 c132 (ics [])) :: (tbRes l128 S129 c130 ++ (tbRes l44 S45 c46 ++ (lvRes [vbad] ++ lvRes [v5]))))))) 3 hm149
 simp only [List.insertIdx_succ_cons, List.insertIdx_zero] at hm149
 refine qP rfl ?_
 refine plStore 3 Ty.ag_voxel_api_Versions hm149 rfl (i := 6) (cs := tbs (.slice S144 l143.length c145) 3) rfl (wn rfl) rfl le_ le_ rfl rfl kr_ ?_
 intro w152 hm151
 clear hm149
 try simp only [lc1_, lc2_, lc3_, lc4_] at hm151
 refine qNone rfl ?_
 refine lk_ (.int .i64 0) ?_
 refine plD ?_
 refine tn_ hK140 ?_
 refine wpPrune [(0, .bool false), (1, .pointer (some ⟨g6, 0, none⟩)), (2, .pointer (some ⟨g29, 0, none⟩)), (3, .int .i64 1), (4, .int .i64 0), (5, .int .i64 2), (6, .int .i64 0), (9, .int .i64 22), (11, .int .i64 0), (13, .slice A131 0 c132), (14, .pointer (some ⟨g148, 0, none⟩)), (15, .int .i64 0)] ⟨lg_, ⟨lg_, ⟨lg_, ⟨lg_, ⟨lg_, ⟨lg_, ⟨lg_, ⟨lg_, ⟨lg_, ⟨lg_, ⟨lg_, ⟨lg_, trivial⟩⟩⟩⟩⟩⟩⟩⟩⟩⟩⟩⟩ (fun X153 => ?_)
 have hm154 : Mem w w152 ((.arr g6 25 ([.int .i64 v5.h.tick, .slice v5.A v5.h.counts.length v5.c, .int .i64 v5.h.depth, .slice Ab 1 v5.d])) :: (.arr g29 52 (tbs (.slice S45 l44.length c46) 3)) :: (.arr g148 52 (tbs (.slice S144 l143.length c145) 3)) :: (tbRes l143 S144 c145 ++ ((.rd A131 1 0 c132 (ics [])) :: (tbRes l44 S45 c46 ++ (lvRes [vbad] ++ lvRes [v5]))))) := hm151.sub (kp_ (kp_ (sk_ (kp_ (ca_ (kp_ (up_ (ca_ (ca_ (rf_))))))))))
 clear hm151
 refine wp_seq_k fun K155 hK155 => ?_
 refine plStart ?_
 refine litVal (v := .agg (tbs (.slice S144 l143.length c145) 3).toArray) rfl (wn rfl) (gLoadAg (vs := tbs (.slice S144 l143.length c145) 3) (k := 0) 2 hm154 rfl kr_ kr_ (.tmp 14) Ty.ag_voxel_api_Versions rfl le_) rfl (by decide) ?_
 refine plCall (i := 1) 22 [.agg (tbs (.slice S144 l143.length c145) 3).toArray, .int .i64 1] [] [] rfl kr_ (wn rfl) rfl le_ (litArgs kr_) (by exact collect_any l143 S144 c145 3 1 (by decide) _ (Mem.tb ((Mem.tailN (T := (tbRes l143 S144 c145 ++ ((.rd A131 1 0 c132 (ics [])) :: (tbRes l44 S45 c46 ++ (lvRes [vbad] ++ lvRes [v5]))))) 3 hm154 rfl).sub (L' := tbRes l143 S144 c145) (lf_))) (lenT hvl143 (by decide))) ?_
 have hE_ : collV (vrs l143) 3 1 = (sT3, 3, [1]) := by rw [hvl143]; kernel_rfl
 rintro e w156 ⟨l158, S159, c160, A161, c162, rfl, hvl158, hrd_, hna_, hT_, hN_, hbz⟩
 rw [hE_] at hvl158 hrd_ ⊢
 clear hE_
 obtain ⟨bg_, og_, rfl, _, _⟩ := hrd_.cells (by decide)
 have hm157 := Mem.newTb (M := (tbRes l143 S144 c145 ++ ((.rd A131 1 0 c132 (ics [])) :: (tbRes l44 S45 c46 ++ (lvRes [vbad] ++ lvRes [v5]))))) [.arr g6 25 ([.int .i64 v5.h.tick, .slice v5.A v5.h.counts.length v5.c, .int .i64 v5.h.depth, .slice Ab 1 v5.d]), .arr g29 52 (tbs (.slice S45 l44.length c46) 3), .arr g148 52 (tbs (.slice S144 l143.length c145) 3)] hm154 hbz hT_ hN_ (hdTb (lf_)) (mutApp (fun _ h_ => tbRes_mut h_) (mutCons (mutApp (fun _ h_ => tbRes_mut h_) (mutApp (fun _ h_ => lvRes_mut h_) (fun _ h_ => lvRes_mut h_)))))
 have hm163 := Mem.newRdMid (M0 := (tbRes l143 S144 c145 ++ ((.rd A131 1 0 c132 (ics [])) :: (tbRes l44 S45 c46 ++ (lvRes [vbad] ++ lvRes [v5]))))) [.arr g6 25 ([.int .i64 v5.h.tick, .slice v5.A v5.h.counts.length v5.c, .int .i64 v5.h.depth, .slice Ab 1 v5.d]), .arr g29 52 (tbs (.slice S45 l44.length c46) 3), .arr g148 52 (tbs (.slice S144 l143.length c145) 3)] hm154 hm157 hrd_ hna_ (mutApp (fun _ h_ => tbRes_mut h_) (mutApp (fun _ h_ => tbRes_mut h_) (mutCons (mutApp (fun _ h_ => tbRes_mut h_) (mutApp (fun _ h_ => lvRes_mut h_) (fun _ h_ => lvRes_mut h_))))))
 clear hm157
 simp only [List.cons_append, List.nil_append] at hm163
 clear hm154
 clear hT_ hN_ hbz hrd_ hna_
 refine ⟨_, rfl, ?_⟩
 refine qP rfl ?_
 refine lk_ (.tuple #[.agg (tbs (.slice S159 l158.length c160) 3).toArray, .slice (some ⟨bg_, og_, none⟩) 1 c162]) ?_
 refine lk_ (.agg (tbs (.slice S159 l158.length c160) 3).toArray) ?_
 refine lk_ (.slice (some ⟨bg_, og_, none⟩) 1 c162) ?_
 refine plAlloc (z := [.slice none 0 0, .int .i64 0]) Ty.ag_voxel_api_Versions hm163 (i := 5) rfl (wn rfl) rfl ?_
 intro g164 w166 hm165
 clear hm163
 try simp only [lc1_, lc2_, lc3_, lc4_] at hm165
 replace hm165 := Mem.insAt (M := ((.arr g6 25 ([.int .i64 v5.h.tick, .slice v5.A v5.h.counts.length v5.c, .int .i64 v5.h.depth, .slice Ab 1 v5.d])) :: (.arr g29 52 (tbs (.slice S45 l44.length c46) 3)) :: (.arr g148 52 (tbs (.slice S144 l143.length c145) 3)) :: ((.rd (some ⟨bg_, og_, none⟩) 1 1 c162 (ics [1])) :: (tbRes l158 S159 c160 ++ (tbRes l143 S144 c145 ++ ((.rd A131 1 0 c132 (ics [])) :: (tbRes l44 S45 c46 ++ (lvRes [vbad] ++ lvRes [v5])))))))) 3 hm165
 simp only [List.insertIdx_succ_cons, List.insertIdx_zero] at hm165
 refine qP rfl ?_
 refine plStore 3 Ty.ag_voxel_api_Versions hm165 rfl (i := 6) (cs := tbs (.slice S159 l158.length c160) 3) rfl (wn rfl) rfl le_ le_ rfl rfl kr_ ?_
 intro w168 hm167
 clear hm165
 try simp only [lc1_, lc2_, lc3_, lc4_] at hm167
 refine qNone rfl ?_
 refine lk_ (.slice (some ⟨bg_, og_, none⟩) 1 c162) ?_
 refine plD ?_
 refine tn_ hK155 ?_
 have hm169 : Mem w w168 ((.arr g6 25 ([.int .i64 v5.h.tick, .slice v5.A v5.h.counts.length v5.c, .int .i64 v5.h.depth, .slice Ab 1 v5.d])) :: (.arr g29 52 (tbs (.slice S45 l44.length c46) 3)) :: ((.rd (some ⟨bg_, og_, none⟩) 1 1 c162 (ics [1])) :: ((.rd A131 1 0 c132 (ics [])) :: (tbRes l44 S45 c46 ++ (lvRes [vbad] ++ lvRes [v5]))))) := hm167.sub (kp_ (kp_ (sk_ (sk_ (kp_ (up_ (up_ (kp_ (ca_ (ca_ (rf_)))))))))))
 clear hm167
 refine wp_seq_k fun K170 hK170 => ?_
 refine plStart ?_
 refine plCall (i := 0) 12 [.slice none 0 0] [] [] rfl kr_ (wn rfl) rfl le_ (litArgs kr_) (by exact LD.decode_any ([] : List UInt8) none 0 _ (Rd.nil _ _ 1) (by decide)) ?_
 have hE_ : decH ([] : List UInt8) = (hd0, 5) := by kernel_rfl
 rintro e w171 ⟨A_, c_, B_, d_, rfl, ha_, hb_, hA_, hB_, hbz⟩
 rw [hE_] at ha_ hb_ ⊢
 clear hE_
 obtain ⟨v173, hv173_, rfl, rfl, rfl, rfl, hat_⟩ : ∃ v_ : Lv, v_.h = hd0 ∧ v_.A = A_ ∧ v_.c = c_ ∧ v_.B = B_ ∧ v_.d = d_ ∧ v_.At w171 := ⟨⟨0, 0, hd0, A_, c_, B_, d_⟩, rfl, rfl, rfl, rfl, rfl, ⟨ha_, hb_⟩⟩
 rw [← hv173_] at ha_ hb_ ⊢
 have hm172 := Mem.newLv (lx := []) (M := ((.rd (some ⟨bg_, og_, none⟩) 1 1 c162 (ics [1])) :: ((.rd A131 1 0 c132 (ics [])) :: (tbRes l44 S45 c46 ++ (lvRes [vbad] ++ lvRes [v5]))))) [.arr g6 25 ([.int .i64 v5.h.tick, .slice v5.A v5.h.counts.length v5.c, .int .i64 v5.h.depth, .slice Ab 1 v5.d]), .arr g29 52 (tbs (.slice S45 l44.length c46) 3)] hm169 hbz hat_ (Or.inr ⟨hA_, hB_⟩) hdNone (mutCons (mutCons (mutApp (fun _ h_ => tbRes_mut h_) (mutApp (fun _ h_ => lvRes_mut h_) (fun _ h_ => lvRes_mut h_)))))
 simp only [List.cons_append, List.nil_append] at hm172
 clear hm169
 clear hat_ hA_ hB_ hbz ha_ hb_
 refine ⟨_, rfl, ?_⟩
 refine qP rfl ?_
 refine lk_ (.tuple #[.agg (hcs v173.h v173.A v173.c v173.B v173.d).toArray, .int .i64 5]) ?_
 refine lk_ (.agg (hcs v173.h v173.A v173.c v173.B v173.d).toArray) ?_
 refine lk_ (.int .i64 5) ?_
 refine plAlloc (z := [.int .i64 0, .slice none 0 0, .int .i64 0, .slice none 0 0]) Ty.ag_voxel_api_Header hm172 (i := 4) rfl (wn rfl) rfl ?_
 intro g174 w176 hm175
 clear hm172
 try simp only [lc1_, lc2_, lc3_, lc4_] at hm175
 replace hm175 := Mem.insAt (M := ((.arr g6 25 ([.int .i64 v5.h.tick, .slice v5.A v5.h.counts.length v5.c, .int .i64 v5.h.depth, .slice Ab 1 v5.d])) :: (.arr g29 52 (tbs (.slice S45 l44.length c46) 3)) :: (lvRes [v173] ++ ((.rd (some ⟨bg_, og_, none⟩) 1 1 c162 (ics [1])) :: ((.rd A131 1 0 c132 (ics [])) :: (tbRes l44 S45 c46 ++ (lvRes [vbad] ++ lvRes [v5]))))))) 2 hm175
 simp only [List.insertIdx_succ_cons, List.insertIdx_zero] at hm175
 refine qP rfl ?_
 refine plStore 2 Ty.ag_voxel_api_Header hm175 rfl (i := 5) (cs := hcs v173.h v173.A v173.c v173.B v173.d) rfl (wn rfl) rfl le_ le_ rfl rfl kr_ ?_
 intro w178 hm177
 clear hm175
 try simp only [lc1_, lc2_, lc3_, lc4_] at hm177
 refine qNone rfl ?_
 refine lk_ (.int .i64 5) ?_
 refine plD ?_
 refine tn_ hK170 ?_
 have hm179 : Mem w w178 ((.arr g6 25 ([.int .i64 v5.h.tick, .slice v5.A v5.h.counts.length v5.c, .int .i64 v5.h.depth, .slice Ab 1 v5.d])) :: (.arr g29 52 (tbs (.slice S45 l44.length c46) 3)) :: ((.rd (some ⟨bg_, og_, none⟩) 1 1 c162 (ics [1])) :: ((.rd A131 1 0 c132 (ics [])) :: (tbRes l44 S45 c46 ++ (lvRes [vbad] ++ lvRes [v5]))))) := hm177.sub (kp_ (kp_ (sk_ (up_ (kp_ (kp_ (ca_ (ca_ (rf_)))))))))
 clear hm177
 refine wp_seq_k fun K180 hK180 => ?_
 refine plStart ?_
 refine plCall (i := 0) 18 [.int .i64 5] [] [] rfl kr_ (wn rfl) rfl le_ (litArgs kr_) (header_any 5 _) ?_
 rintro e w181 ⟨v183, hv183_, rfl, hat_, hA_, hB_, hbz⟩
 have hm182 := Mem.newLv (lx := []) (M := ((.rd (some ⟨bg_, og_, none⟩) 1 1 c162 (ics [1])) :: ((.rd A131 1 0 c132 (ics [])) :: (tbRes l44 S45 c46 ++ (lvRes [vbad] ++ lvRes [v5]))))) [.arr g6 25 ([.int .i64 v5.h.tick, .slice v5.A v5.h.counts.length v5.c, .int .i64 v5.h.depth, .slice Ab 1 v5.d]), .arr g29 52 (tbs (.slice S45 l44.length c46) 3)] hm179 hbz hat_ (Or.inr ⟨hA_, hB_⟩) hdNone (mutCons (mutCons (mutApp (fun _ h_ => tbRes_mut h_) (mutApp (fun _ h_ => lvRes_mut h_) (fun _ h_ => lvRes_mut h_)))))
 simp only [List.cons_append, List.nil_append] at hm182
 clear hm179
 clear hat_ hA_ hB_ hbz
 refine ⟨_, rfl, ?_⟩
 refine qP rfl ?_
 refine plCall (i := 1) 13 [.agg (hcs v183.h v183.A v183.c v183.B v183.d).toArray] [] [] rfl kr_ (wn rfl) rfl le_ (litArgs kr_) (encode_any v183.h v183.A v183.c v183.B v183.d _ ((Mem.lv ((Mem.tailN (T := (lvRes [v183] ++ ((.rd (some ⟨bg_, og_, none⟩) 1 1 c162 (ics [1])) :: ((.rd A131 1 0 c132 (ics [])) :: (tbRes l44 S45 c46 ++ (lvRes [vbad] ++ lvRes [v5])))))) 2 hm182 rfl).sub (L' := lvRes [v183]) (lf_))) v183 List.mem_cons_self).a ((Mem.lv ((Mem.tailN (T := (lvRes [v183] ++ ((.rd (some ⟨bg_, og_, none⟩) 1 1 c162 (ics [1])) :: ((.rd A131 1 0 c132 (ics [])) :: (tbRes l44 S45 c46 ++ (lvRes [vbad] ++ lvRes [v5])))))) 2 hm182 rfl).sub (L' := lvRes [v183]) (lf_))) v183 List.mem_cons_self).b (fit_eq hv183_ fit5)) ?_
 rintro e w184 ⟨v186, rfl, hown_, hbz⟩
 obtain ⟨A187, c188, rfl, hrd_⟩ := Rd.of_own hown_
 clear hrd_
 have hm185 := hm182.newRow hbz hown_
 clear hown_ hbz
 clear hm182
 try simp only [lc1_, lc2_, lc3_, lc4_] at hm185
 replace hm185 := Mem.insAt (M := ((.arr g6 25 ([.int .i64 v5.h.tick, .slice v5.A v5.h.counts.length v5.c, .int .i64 v5.h.depth, .slice Ab 1 v5.d])) :: (.arr g29 52 (tbs (.slice S45 l44.length c46) 3)) :: (lvRes [v183] ++ ((.rd (some ⟨bg_, og_, none⟩) 1 1 c162 (ics [1])) :: ((.rd A131 1 0 c132 (ics [])) :: (tbRes l44 S45 c46 ++ (lvRes [vbad] ++ lvRes [v5]))))))) 2 hm185
 simp only [List.insertIdx_succ_cons, List.insertIdx_zero] at hm185
 have hlen1 : (encH v183.h).length ≤ 1000000 := by rw [hv183_]; decide +kernel
 have hlen2 : (encH v183.h ++ [0]).length ≤ 1000000 := by rw [hv183_]; decide +kernel
 refine ⟨_, rfl, ?_⟩
 refine qP rfl ?_
 refine lk_ (.slice A187 ((encH v183.h).length) c188) ?_
 refine plD ?_
 refine tn_ hK180 ?_
 refine wpPrune [(0, .bool false), (1, .pointer (some ⟨g6, 0, none⟩)), (2, .pointer (some ⟨g29, 0, none⟩)), (3, .int .i64 1), (4, .int .i64 0), (5, .int .i64 2), (6, .int .i64 0), (9, .int .i64 22), (11, .int .i64 0), (13, .slice A131 0 c132), (15, .int .i64 0), (17, .slice (some ⟨bg_, og_, none⟩) 1 c162), (19, .int .i64 5), (20, .slice A187 ((encH v183.h).length) c188)] ⟨lg_, ⟨lg_, ⟨lg_, ⟨lg_, ⟨lg_, ⟨lg_, ⟨lg_, ⟨lg_, ⟨lg_, ⟨lg_, ⟨lg_, ⟨lg_, ⟨lg_, ⟨lg_, trivial⟩⟩⟩⟩⟩⟩⟩⟩⟩⟩⟩⟩⟩⟩ (fun X189 => ?_)
 refine wp_seq_k fun K190 hK190 => ?_
 refine plStart ?_
 refine lk_ (.slice A187 ((encH v183.h).length) c188) ?_
 refine plCall (i := 1) 12 [.slice A187 ((encH v183.h).length) c188] [] [] rfl kr_ (wn rfl) rfl le_ (litArgs kr_) (by exact LD.decode_any (encH v183.h) A187 c188 _ (hm185.rdRow 2 rfl) hlen1) ?_
 have hE_ : decH (encH v183.h) = (hd3 5, 0) := by rw [hv183_]; kernel_rfl
 rintro e w191 ⟨A_, c_, B_, d_, rfl, ha_, hb_, hA_, hB_, hbz⟩
 rw [hE_] at ha_ hb_ ⊢
 clear hE_
 obtain ⟨v193, hv193_, rfl, rfl, rfl, rfl, hat_⟩ : ∃ v_ : Lv, v_.h = hd3 5 ∧ v_.A = A_ ∧ v_.c = c_ ∧ v_.B = B_ ∧ v_.d = d_ ∧ v_.At w191 := ⟨⟨0, 0, hd3 5, A_, c_, B_, d_⟩, rfl, rfl, rfl, rfl, rfl, ⟨ha_, hb_⟩⟩
 rw [← hv193_] at ha_ hb_ ⊢
 have hm192 := Mem.newLv (lx := []) (M := (lvRes [v183] ++ ((.rd (some ⟨bg_, og_, none⟩) 1 1 c162 (ics [1])) :: ((.rd A131 1 0 c132 (ics [])) :: (tbRes l44 S45 c46 ++ (lvRes [vbad] ++ lvRes [v5])))))) [.arr g6 25 ([.int .i64 v5.h.tick, .slice v5.A v5.h.counts.length v5.c, .int .i64 v5.h.depth, .slice Ab 1 v5.d]), .arr g29 52 (tbs (.slice S45 l44.length c46) 3), .row (.slice A187 ((encH v183.h).length) c188) 5 1 ((encH v183.h).length) (bcs (encH v183.h))] hm185 hbz hat_ (Or.inr ⟨hA_, hB_⟩) hdNone (mutApp (fun _ h_ => lvRes_mut h_) (mutCons (mutCons (mutApp (fun _ h_ => tbRes_mut h_) (mutApp (fun _ h_ => lvRes_mut h_) (fun _ h_ => lvRes_mut h_))))))
 simp only [List.cons_append, List.nil_append] at hm192
 clear hm185
 clear hat_ hA_ hB_ hbz ha_ hb_
 refine ⟨_, rfl, ?_⟩
 refine qP rfl ?_
 refine lk_ (.tuple #[.agg (hcs v193.h v193.A v193.c v193.B v193.d).toArray, .int .i64 0]) ?_
 refine lk_ (.agg (hcs v193.h v193.A v193.c v193.B v193.d).toArray) ?_
 refine lk_ (.int .i64 0) ?_
 refine plAlloc (z := [.int .i64 0, .slice none 0 0, .int .i64 0, .slice none 0 0]) Ty.ag_voxel_api_Header hm192 (i := 5) rfl (wn rfl) rfl ?_
 intro g194 w196 hm195
 clear hm192
 try simp only [lc1_, lc2_, lc3_, lc4_] at hm195
 replace hm195 := Mem.insAt (M := ((.arr g6 25 ([.int .i64 v5.h.tick, .slice v5.A v5.h.counts.length v5.c, .int .i64 v5.h.depth, .slice Ab 1 v5.d])) :: (.arr g29 52 (tbs (.slice S45 l44.length c46) 3)) :: (.row (.slice A187 ((encH v183.h).length) c188) 5 1 ((encH v183.h).length) (bcs (encH v183.h))) :: (lvRes [v193] ++ (lvRes [v183] ++ ((.rd (some ⟨bg_, og_, none⟩) 1 1 c162 (ics [1])) :: ((.rd A131 1 0 c132 (ics [])) :: (tbRes l44 S45 c46 ++ (lvRes [vbad] ++ lvRes [v5])))))))) 3 hm195
 simp only [List.insertIdx_succ_cons, List.insertIdx_zero] at hm195
 refine qP rfl ?_
 refine plStore 3 Ty.ag_voxel_api_Header hm195 rfl (i := 6) (cs := hcs v193.h v193.A v193.c v193.B v193.d) rfl (wn rfl) rfl le_ le_ rfl rfl kr_ ?_
 intro w198 hm197
 clear hm195
 try simp only [lc1_, lc2_, lc3_, lc4_] at hm197
 refine qNone rfl ?_
 refine lk_ (.int .i64 0) ?_
 refine plD ?_
 refine tn_ hK190 ?_
 refine wp_seq_k fun K199 hK199 => ?_
 refine plStart ?_
 refine plLit0 Ty.sl_L_uint8 hm197 (i := 0) rfl (wn rfl) rfl rfl ?_
 intro g200 w202 hm201
 clear hm197
 try simp only [lc1_, lc2_, lc3_, lc4_] at hm201
 replace hm201 := Mem.insAt (M := ((.arr g6 25 ([.int .i64 v5.h.tick, .slice v5.A v5.h.counts.length v5.c, .int .i64 v5.h.depth, .slice Ab 1 v5.d])) :: (.arr g29 52 (tbs (.slice S45 l44.length c46) 3)) :: (.row (.slice A187 ((encH v183.h).length) c188) 5 1 ((encH v183.h).length) (bcs (encH v183.h))) :: (.arr g194 25 (hcs v193.h v193.A v193.c v193.B v193.d)) :: (lvRes [v193] ++ (lvRes [v183] ++ ((.rd (some ⟨bg_, og_, none⟩) 1 1 c162 (ics [1])) :: ((.rd A131 1 0 c132 (ics [])) :: (tbRes l44 S45 c46 ++ (lvRes [vbad] ++ lvRes [v5])))))))) 4 hm201
 simp only [List.insertIdx_succ_cons, List.insertIdx_zero] at hm201
 refine qP rfl ?_
 refine lk_ (.slice A187 ((encH v183.h).length) c188) ?_
 refine plAppR (v := .slice (some ⟨g200, 0, none⟩) 0 0) (n := 0) (xs := []) (ys := bcs (encH v183.h)) (A := A187) (m := (encH v183.h).length) (c := c188) 4 Ty.sl_L_uint8 hm201 rfl (hm201.rdRow 2 rfl) (i := 2) rfl (wn rfl) rfl le_ le_ (bcs_one _) (by omega) (by omega) ?_
 intro v207 w204 hm203
 clear hm201
 try simp only [lc1_, lc2_, lc3_, lc4_] at hm203
 replace hm203 := Mem.rowEq (v := v207) (e := 5) (size := 1) (n := 0 + ((encH v183.h).length)) (n' := (encH v183.h).length) (xs := ([]) ++ (bcs (encH v183.h))) (xs' := bcs (encH v183.h)) 4 hm203 rfl (Nat.zero_add _) (rfl)
 try simp only [lc1_, lc2_, lc3_, lc4_] at hm203
 obtain ⟨A205, c206, rfl⟩ := Mem.rowSl (v := v207) (e := 5) (size := 1) (n := (encH v183.h).length) (xs := bcs (encH v183.h)) 4 hm203 rfl
 refine qP rfl ?_
 refine plLit (cs := [.int .u8 0]) (n := 1) Ty.sl_L_uint8 hm203 (i := 3) rfl (wn rfl) rfl (by decide) (by decide) (by rw [lit_eval]; kernel_rfl) ?_
 intro g208 w210 hm209
 clear hm203
 try simp only [lc1_, lc2_, lc3_, lc4_] at hm209
 replace hm209 := Mem.insAt (M := ((.arr g6 25 ([.int .i64 v5.h.tick, .slice v5.A v5.h.counts.length v5.c, .int .i64 v5.h.depth, .slice Ab 1 v5.d])) :: (.arr g29 52 (tbs (.slice S45 l44.length c46) 3)) :: (.row (.slice A187 ((encH v183.h).length) c188) 5 1 ((encH v183.h).length) (bcs (encH v183.h))) :: (.arr g194 25 (hcs v193.h v193.A v193.c v193.B v193.d)) :: (.row (.slice A205 ((encH v183.h).length) c206) 5 1 ((encH v183.h).length) (bcs (encH v183.h))) :: (lvRes [v193] ++ (lvRes [v183] ++ ((.rd (some ⟨bg_, og_, none⟩) 1 1 c162 (ics [1])) :: ((.rd A131 1 0 c132 (ics [])) :: (tbRes l44 S45 c46 ++ (lvRes [vbad] ++ lvRes [v5])))))))) 5 hm209
 simp only [List.insertIdx_succ_cons, List.insertIdx_zero] at hm209
 refine qP rfl ?_
 refine plApp1 (v := .slice A205 ((encH v183.h).length) c206) (n := (encH v183.h).length) (xs := bcs (encH v183.h)) (ys := [.int .u8 0]) 4 5 Ty.sl_L_uint8 hm209 rfl rfl (i := 4) rfl (wn rfl) rfl le_ le_ kr_ kr_ (by omega) (by omega) ?_
 intro v215 w212 hm211
 clear hm209
 try simp only [lc1_, lc2_, lc3_, lc4_] at hm211
 replace hm211 := Mem.rowEq (v := v215) (e := 5) (size := 1) (n := ((encH v183.h).length) + 1) (n' := (encH v183.h ++ [0]).length) (xs := (bcs (encH v183.h)) ++ ([.int .u8 0])) (xs' := bcs (encH v183.h ++ [0])) 4 hm211 rfl (by rw [List.length_append]; rfl) (by unfold bcs; rw [List.map_append]; rfl)
 try simp only [lc1_, lc2_, lc3_, lc4_] at hm211
 obtain ⟨A213, c214, rfl⟩ := Mem.rowSl (v := v215) (e := 5) (size := 1) (n := (encH v183.h ++ [0]).length) (xs := bcs (encH v183.h ++ [0])) 4 hm211 rfl
 refine qP rfl ?_
 refine plCall (i := 5) 12 [.slice A213 ((encH v183.h ++ [0]).length) c214] [] [] rfl kr_ (wn rfl) rfl le_ (litArgs kr_) (by exact LD.decode_any (encH v183.h ++ [0]) A213 c214 _ (hm211.rdRow 4 rfl) hlen2) ?_
 have hE_ : decH (encH v183.h ++ [0]) = (hd0, 6) := by rw [hv183_]; kernel_rfl
 rintro e w216 ⟨A_, c_, B_, d_, rfl, ha_, hb_, hA_, hB_, hbz⟩
 rw [hE_] at ha_ hb_ ⊢
 clear hE_
 obtain ⟨v218, hv218_, rfl, rfl, rfl, rfl, hat_⟩ : ∃ v_ : Lv, v_.h = hd0 ∧ v_.A = A_ ∧ v_.c = c_ ∧ v_.B = B_ ∧ v_.d = d_ ∧ v_.At w216 := ⟨⟨0, 0, hd0, A_, c_, B_, d_⟩, rfl, rfl, rfl, rfl, rfl, ⟨ha_, hb_⟩⟩
 rw [← hv218_] at ha_ hb_ ⊢
 have hm217 := Mem.newLv (lx := []) (M := (lvRes [v193] ++ (lvRes [v183] ++ ((.rd (some ⟨bg_, og_, none⟩) 1 1 c162 (ics [1])) :: ((.rd A131 1 0 c132 (ics [])) :: (tbRes l44 S45 c46 ++ (lvRes [vbad] ++ lvRes [v5]))))))) [.arr g6 25 ([.int .i64 v5.h.tick, .slice v5.A v5.h.counts.length v5.c, .int .i64 v5.h.depth, .slice Ab 1 v5.d]), .arr g29 52 (tbs (.slice S45 l44.length c46) 3), .row (.slice A187 ((encH v183.h).length) c188) 5 1 ((encH v183.h).length) (bcs (encH v183.h)), .arr g194 25 (hcs v193.h v193.A v193.c v193.B v193.d), .row (.slice A213 ((encH v183.h ++ [0]).length) c214) 5 1 ((encH v183.h ++ [0]).length) (bcs (encH v183.h ++ [0])), .arr g208 5 ([.int .u8 0])] hm211 hbz hat_ (Or.inr ⟨hA_, hB_⟩) hdNone (mutApp (fun _ h_ => lvRes_mut h_) (mutApp (fun _ h_ => lvRes_mut h_) (mutCons (mutCons (mutApp (fun _ h_ => tbRes_mut h_) (mutApp (fun _ h_ => lvRes_mut h_) (fun _ h_ => lvRes_mut h_)))))))
 simp only [List.cons_append, List.nil_append] at hm217
 clear hm211
 clear hat_ hA_ hB_ hbz ha_ hb_
 refine ⟨_, rfl, ?_⟩
 refine qP rfl ?_
 refine lk_ (.tuple #[.agg (hcs v218.h v218.A v218.c v218.B v218.d).toArray, .int .i64 6]) ?_
 refine lk_ (.agg (hcs v218.h v218.A v218.c v218.B v218.d).toArray) ?_
 refine lk_ (.int .i64 6) ?_
 refine plAlloc (z := [.int .i64 0, .slice none 0 0, .int .i64 0, .slice none 0 0]) Ty.ag_voxel_api_Header hm217 (i := 9) rfl (wn rfl) rfl ?_
 intro g219 w221 hm220
 clear hm217
 try simp only [lc1_, lc2_, lc3_, lc4_] at hm220
 replace hm220 := Mem.insAt (M := ((.arr g6 25 ([.int .i64 v5.h.tick, .slice v5.A v5.h.counts.length v5.c, .int .i64 v5.h.depth, .slice Ab 1 v5.d])) :: (.arr g29 52 (tbs (.slice S45 l44.length c46) 3)) :: (.row (.slice A187 ((encH v183.h).length) c188) 5 1 ((encH v183.h).length) (bcs (encH v183.h))) :: (.arr g194 25 (hcs v193.h v193.A v193.c v193.B v193.d)) :: (.row (.slice A213 ((encH v183.h ++ [0]).length) c214) 5 1 ((encH v183.h ++ [0]).length) (bcs (encH v183.h ++ [0]))) :: (.arr g208 5 ([.int .u8 0])) :: (lvRes [v218] ++ (lvRes [v193] ++ (lvRes [v183] ++ ((.rd (some ⟨bg_, og_, none⟩) 1 1 c162 (ics [1])) :: ((.rd A131 1 0 c132 (ics [])) :: (tbRes l44 S45 c46 ++ (lvRes [vbad] ++ lvRes [v5]))))))))) 6 hm220
 simp only [List.insertIdx_succ_cons, List.insertIdx_zero] at hm220
 refine qP rfl ?_
 refine plStore 6 Ty.ag_voxel_api_Header hm220 rfl (i := 10) (cs := hcs v218.h v218.A v218.c v218.B v218.d) rfl (wn rfl) rfl le_ le_ rfl rfl kr_ ?_
 intro w223 hm222
 clear hm220
 try simp only [lc1_, lc2_, lc3_, lc4_] at hm222
 refine qNone rfl ?_
 refine lk_ (.int .i64 6) ?_
 refine plD ?_
 refine tn_ hK199 ?_
 refine wpPrune [(0, .bool false), (1, .pointer (some ⟨g6, 0, none⟩)), (2, .pointer (some ⟨g29, 0, none⟩)), (3, .int .i64 1), (4, .int .i64 0), (5, .int .i64 2), (6, .int .i64 0), (9, .int .i64 22), (11, .int .i64 0), (13, .slice A131 0 c132), (15, .int .i64 0), (17, .slice (some ⟨bg_, og_, none⟩) 1 c162), (19, .int .i64 5), (21, .pointer (some ⟨g194, 0, none⟩)), (22, .int .i64 0), (24, .int .i64 6)] ⟨lg_, ⟨lg_, ⟨lg_, ⟨lg_, ⟨lg_, ⟨lg_, ⟨lg_, ⟨lg_, ⟨lg_, ⟨lg_, ⟨lg_, ⟨lg_, ⟨lg_, ⟨lg_, ⟨lg_, ⟨lg_, trivial⟩⟩⟩⟩⟩⟩⟩⟩⟩⟩⟩⟩⟩⟩⟩⟩ (fun X224 => ?_)
 have hm225 : Mem w w223 ((.arr g6 25 ([.int .i64 v5.h.tick, .slice v5.A v5.h.counts.length v5.c, .int .i64 v5.h.depth, .slice Ab 1 v5.d])) :: (.arr g29 52 (tbs (.slice S45 l44.length c46) 3)) :: (.arr g194 25 (hcs v193.h v193.A v193.c v193.B v193.d)) :: (lvRes [v193] ++ ((.rd (some ⟨bg_, og_, none⟩) 1 1 c162 (ics [1])) :: ((.rd A131 1 0 c132 (ics [])) :: (tbRes l44 S45 c46 ++ (lvRes [vbad] ++ lvRes [v5])))))) := hm222.sub (kp_ (kp_ (sk_ (kp_ (sk_ (sk_ (sk_ (up_ (ca_ (up_ (kp_ (kp_ (ca_ (ca_ (rf_)))))))))))))))
 clear hm222
 refine wp_seq_k fun K226 hK226 => ?_
 refine plStart ?_
 refine litVal (v := .agg (tbs (.slice S45 l44.length c46) 3).toArray) rfl (wn rfl) (gLoadAg (vs := tbs (.slice S45 l44.length c46) 3) (k := 0) 1 hm225 rfl kr_ kr_ (.tmp 2) Ty.ag_voxel_api_Versions rfl le_) rfl (by decide) ?_
 refine plCall (i := 1) 24 [.agg (tbs (.slice S45 l44.length c46) 3).toArray, .int .i64 3] [] [] rfl kr_ (wn rfl) rfl le_ (litArgs kr_) (by exact find_any l44 S45 c46 3 3 _ ((Mem.tb ((Mem.tailN (T := (lvRes [v193] ++ ((.rd (some ⟨bg_, og_, none⟩) 1 1 c162 (ics [1])) :: ((.rd A131 1 0 c132 (ics [])) :: (tbRes l44 S45 c46 ++ (lvRes [vbad] ++ lvRes [v5])))))) 3 hm225 rfl).sub (L' := tbRes l44 S45 c46) (up_ (sk_ (sk_ (lf_))))))).rd (lenT hvl44 (by decide)) ((Mem.tb ((Mem.tailN (T := (lvRes [v193] ++ ((.rd (some ⟨bg_, og_, none⟩) 1 1 c162 (ics [1])) :: ((.rd A131 1 0 c132 (ics [])) :: (tbRes l44 S45 c46 ++ (lvRes [vbad] ++ lvRes [v5])))))) 3 hm225 rfl).sub (L' := tbRes l44 S45 c46) (up_ (sk_ (sk_ (lf_))))))).all (good_small (goodT hvl44 (by decide +kernel)))) ?_
 have hE_ : findHd l44 3 = (hd0, 9) := findHd_no (by rw [placeP_vrs, hvl44]; decide +kernel)
 rintro e w227 ⟨v229, hv229_, rfl, hat_, hN_, hbz⟩
 rw [hE_] at hv229_ ⊢
 clear hE_
 have hm228 := Mem.newLv  (M := (lvRes [v193] ++ ((.rd (some ⟨bg_, og_, none⟩) 1 1 c162 (ics [1])) :: ((.rd A131 1 0 c132 (ics [])) :: (tbRes l44 S45 c46 ++ (lvRes [vbad] ++ lvRes [v5])))))) [.arr g6 25 ([.int .i64 v5.h.tick, .slice v5.A v5.h.counts.length v5.c, .int .i64 v5.h.depth, .slice Ab 1 v5.d]), .arr g29 52 (tbs (.slice S45 l44.length c46) 3), .arr g194 25 (hcs v193.h v193.A v193.c v193.B v193.d)] hm225 hbz hat_ hN_ (hdTb (up_ (sk_ (sk_ (lf_))))) (mutApp (fun _ h_ => lvRes_mut h_) (mutCons (mutCons (mutApp (fun _ h_ => tbRes_mut h_) (mutApp (fun _ h_ => lvRes_mut h_) (fun _ h_ => lvRes_mut h_))))))
 simp only [List.cons_append, List.nil_append] at hm228
 clear hm225
 clear hat_ hN_ hbz
 refine ⟨_, rfl, ?_⟩
 refine qP rfl ?_
 refine lk_ (.tuple #[.agg (hcs v229.h v229.A v229.c v229.B v229.d).toArray, .int .i64 9]) ?_
 refine lk_ (.agg (hcs v229.h v229.A v229.c v229.B v229.d).toArray) ?_
 refine lk_ (.int .i64 9) ?_
 refine plAlloc (z := [.int .i64 0, .slice none 0 0, .int .i64 0, .slice none 0 0]) Ty.ag_voxel_api_Header hm228 (i := 5) rfl (wn rfl) rfl ?_
 intro g230 w232 hm231
 clear hm228
 try simp only [lc1_, lc2_, lc3_, lc4_] at hm231
 replace hm231 := Mem.insAt (M := ((.arr g6 25 ([.int .i64 v5.h.tick, .slice v5.A v5.h.counts.length v5.c, .int .i64 v5.h.depth, .slice Ab 1 v5.d])) :: (.arr g29 52 (tbs (.slice S45 l44.length c46) 3)) :: (.arr g194 25 (hcs v193.h v193.A v193.c v193.B v193.d)) :: (lvRes [v229] ++ (lvRes [v193] ++ ((.rd (some ⟨bg_, og_, none⟩) 1 1 c162 (ics [1])) :: ((.rd A131 1 0 c132 (ics [])) :: (tbRes l44 S45 c46 ++ (lvRes [vbad] ++ lvRes [v5])))))))) 3 hm231
 simp only [List.insertIdx_succ_cons, List.insertIdx_zero] at hm231
 refine qP rfl ?_
 refine plStore 3 Ty.ag_voxel_api_Header hm231 rfl (i := 6) (cs := hcs v229.h v229.A v229.c v229.B v229.d) rfl (wn rfl) rfl le_ le_ rfl rfl kr_ ?_
 intro w234 hm233
 clear hm231
 try simp only [lc1_, lc2_, lc3_, lc4_] at hm233
 refine qNone rfl ?_
 refine lk_ (.int .i64 9) ?_
 refine plD ?_
 refine tn_ hK226 ?_
 have hm235 : Mem w w234 ((.arr g6 25 ([.int .i64 v5.h.tick, .slice v5.A v5.h.counts.length v5.c, .int .i64 v5.h.depth, .slice Ab 1 v5.d])) :: (.arr g194 25 (hcs v193.h v193.A v193.c v193.B v193.d)) :: (lvRes [v193] ++ ((.rd (some ⟨bg_, og_, none⟩) 1 1 c162 (ics [1])) :: ((.rd A131 1 0 c132 (ics [])) :: (lvRes [vbad] ++ lvRes [v5]))))) := hm233.sub (kp_ (sk_ (kp_ (sk_ (up_ (ca_ (kp_ (kp_ (up_ (ca_ (rf_)))))))))))
 clear hm233
 refine wp_seq_k fun K236 hK236 => ?_
 refine wp_seq_k fun K237 hK237 => ?_
 refine plStart ?_
 refine lk_ (.int .i64 0) ?_
 refine lk_ (.bool false) ?_
 refine lk_ (.bool false) ?_
 refine litVal (v := .int .i64 0) rfl (wgY rfl rfl rfl (by decide) kr_) (litRun kr_) rfl (by decide) ?_
 refine litVal (v := .bool false) rfl (wgY rfl rfl rfl (by decide) kr_) (litRun kr_) rfl (by decide) ?_
 refine lk_ (.bool false) ?_
 refine lk_ (.bool false) ?_
 refine litVal (v := .int .i64 22) rfl (wgY rfl rfl rfl (by decide) kr_) (litRun kr_) rfl (by decide) ?_
 refine litVal (v := .bool false) rfl (wgY rfl rfl rfl (by decide) kr_) (litRun kr_) rfl (by decide) ?_
 refine lk_ (.bool false) ?_
 refine lk_ (.bool false) ?_
 refine litVal (v := .int .i64 0) rfl (wgY rfl rfl rfl (by decide) kr_) (litRun kr_) rfl (by decide) ?_
 refine litVal (v := .bool false) rfl (wgY rfl rfl rfl (by decide) kr_) (litRun kr_) rfl (by decide) ?_
 refine lk_ (.bool false) ?_
 refine lk_ (.bool false) ?_
 refine litVal (v := .int .i64 0) rfl (wgY rfl rfl rfl (by decide) kr_) (litRun kr_) rfl (by decide) ?_
 refine litVal (v := .bool false) rfl (wgY rfl rfl rfl (by decide) kr_) (litRun kr_) rfl (by decide) ?_
 refine lk_ (.bool false) ?_
 refine lk_ (.bool false) ?_
 refine litVal (v := .int .i64 5) rfl (wgY rfl rfl rfl (by decide) kr_) (litRun kr_) rfl (by decide) ?_
 refine litVal (v := .bool false) rfl (wgY rfl rfl rfl (by decide) kr_) (litRun kr_) rfl (by decide) ?_
 refine lk_ (.bool false) ?_
 refine lk_ (.bool false) ?_
 refine litVal (v := .int .i64 0) rfl (wgY rfl rfl rfl (by decide) kr_) (litRun kr_) rfl (by decide) ?_
 refine litVal (v := .bool false) rfl (wgY rfl rfl rfl (by decide) kr_) (litRun kr_) rfl (by decide) ?_
 refine lk_ (.bool false) ?_
 refine lk_ (.bool false) ?_
 refine litVal (v := .int .i64 6) rfl (wgY rfl rfl rfl (by decide) kr_) (litRun kr_) rfl (by decide) ?_
 refine litVal (v := .bool false) rfl (wgY rfl rfl rfl (by decide) kr_) (litRun kr_) rfl (by decide) ?_
 refine lk_ (.bool false) ?_
 refine lk_ (.bool false) ?_
 refine litVal (v := .int .i64 9) rfl (wgY rfl rfl rfl (by decide) kr_) (litRun kr_) rfl (by decide) ?_
 refine litVal (v := .bool false) rfl (wgY rfl rfl rfl (by decide) kr_) (litRun kr_) rfl (by decide) ?_
 refine lk_ (.bool false) ?_
 refine plD ?_
 refine tn_ hK237 ?_
 refine wpPrune [(0, .bool false), (1, .pointer (some ⟨g6, 0, none⟩)), (3, .int .i64 1), (5, .int .i64 2), (13, .slice A131 0 c132), (17, .slice (some ⟨bg_, og_, none⟩) 1 c162), (21, .pointer (some ⟨g194, 0, none⟩)), (132, .bool false)] ⟨lg_, ⟨lg_, ⟨lg_, ⟨lg_, ⟨lg_, ⟨lg_, ⟨lg_, ⟨lg_, trivial⟩⟩⟩⟩⟩⟩⟩⟩ (fun X238 => ?_)
 refine wp_cond_false le_ ?_
 refine wp_skip ?_
 refine tn_ hK236 ?_
 refine wp_seq_k fun K239 hK239 => ?_
 refine plStart ?_
 refine lk_ (.int .i64 1) ?_
 refine lk_ (.bool true) ?_
 refine lk_ (.bool true) ?_
 refine litVal (v := .int .i64 2) rfl (wgY rfl rfl rfl (by decide) kr_) (litRun kr_) rfl (by decide) ?_
 refine litVal (v := .bool true) rfl (wgY rfl rfl rfl (by decide) kr_) (litRun kr_) rfl (by decide) ?_
 refine lk_ (.bool true) ?_
 refine lk_ (.bool true) ?_
 refine litVal (v := .slice A131 0 c132) rfl (wgY rfl rfl rfl (by decide) kr_) (litRun kr_) rfl (by decide) ?_
 refine litVal (v := .int .i64 0) rfl (wgY rfl rfl rfl (by decide) kr_) (lenSlRun (A := A131) (n := 0) (c := c132) (.tmp 140) Ty.und_L_int rfl le_) rfl (by decide) ?_
 refine litVal (v := .bool true) rfl (wgY rfl rfl rfl (by decide) kr_) (litRun kr_) rfl (by decide) ?_
 refine lk_ (.bool true) ?_
 refine lk_ (.bool true) ?_
 refine litVal (v := .slice (some ⟨bg_, og_, none⟩) 1 c162) rfl (wgY rfl rfl rfl (by decide) kr_) (litRun kr_) rfl (by decide) ?_
 refine litVal (v := .int .i64 1) rfl (wgY rfl rfl rfl (by decide) kr_) (lenSlRun (A := some ⟨bg_, og_, none⟩) (n := 1) (c := c162) (.tmp 145) Ty.und_L_int rfl le_) rfl (by decide) ?_
 refine litVal (v := .bool true) rfl (wgY rfl rfl rfl (by decide) kr_) (litRun kr_) rfl (by decide) ?_
 refine lk_ (.bool true) ?_
 refine lk_ (.bool true) ?_
 refine litVal (v := .slice (some ⟨bg_, og_, none⟩) 1 c162) rfl (wgY rfl rfl rfl (by decide) kr_) (litRun kr_) rfl (by decide) ?_
 refine litVal (v := .pointer (some ⟨bg_, og_ + 0 * 1, none⟩)) rfl (wgY rfl rfl rfl (by decide) kr_) (gIaSl (b := bg_) (off := og_) (n := 1) (c := c162) (kk := .i64) (K := 0) (.tmp 150) (.const (.int .i64 0)) 0 Ty.sl_L_int rfl le_ le_ (rfl) (by decide)) rfl (by decide) ?_
 refine litVal (v := .int .i64 1) rfl (wgY rfl rfl rfl (by decide) kr_) (gLoadRd (v := .int .i64 1) (m := 0 * 1) (((Mem.tailN (T := (lvRes [v193] ++ ((.rd (some ⟨bg_, og_, none⟩) 1 1 c162 (ics [1])) :: ((.rd A131 1 0 c132 (ics [])) :: (lvRes [vbad] ++ lvRes [v5]))))) 2 hm235 rfl).sub (L' := [.rd (some ⟨bg_, og_, none⟩) 1 1 c162 (ics [1])]) (up_ (kp_ (List.nil_sublist _)))).rd 0 rfl) rfl (rfl) (by decide) (.tmp 151) kr_ rfl le_) rfl (by decide) ?_
 refine litVal (v := .bool true) rfl (wgY rfl rfl rfl (by decide) kr_) (litRun kr_) rfl (by decide) ?_
 refine lk_ (.bool true) ?_
 refine lk_ (.bool true) ?_
 refine plD ?_
 refine tn_ hK239 ?_
 refine wpPrune [(0, .bool false), (1, .pointer (some ⟨g6, 0, none⟩)), (21, .pointer (some ⟨g194, 0, none⟩)), (27, .bool true)] ⟨lg_, ⟨lg_, ⟨lg_, ⟨lg_, trivial⟩⟩⟩⟩ (fun X240 => ?_)
 have hm241 : Mem w w234 ((.arr g6 25 ([.int .i64 v5.h.tick, .slice v5.A v5.h.counts.length v5.c, .int .i64 v5.h.depth, .slice Ab 1 v5.d])) :: (.arr g194 25 (hcs v193.h v193.A v193.c v193.B v193.d)) :: (lvRes [v193] ++ (lvRes [vbad] ++ lvRes [v5]))) := hm235.sub (kp_ (kp_ (ca_ (sk_ (sk_ (ca_ (rf_)))))))
 clear hm235
 refine wp_seq_k fun K242 hK242 => ?_
 refine mgStartM ((.arr g6 25 ([.int .i64 v5.h.tick, .slice v5.A v5.h.counts.length v5.c, .int .i64 v5.h.depth, .slice Ab 1 v5.d])) :: (.arr g194 25 (hcs v193.h v193.A v193.c v193.B v193.d)) :: (lvRes [v193] ++ (lvRes [vbad] ++ lvRes [v5]))) hm241 kr_ ?_
 intro w244 hm243
 clear hm241
 refine mk_ (i := 0) (v := .bool true) rfl rfl (fun _ _ _ h => h) hm243 rfl ?_
 refine mk_ (i := 1) (v := .bool true) rfl rfl (fun _ _ _ h => h) hm243 rfl ?_
 refine mgCall (i := 2) 18 [.int .i64 5] [] [] kr_ rfl kr_ (wgY rfl rfl rfl (by decide) kr_) rfl le_ (litArgs kr_) (header_any 5 _) ?_
 rintro e w245 ⟨v247, hv247_, rfl, hat_, hA_, hB_, hbz⟩
 have hm246 := Mem.newLv (lx := []) (M := (lvRes [v193] ++ (lvRes [vbad] ++ lvRes [v5]))) [.arr g6 25 ([.int .i64 v5.h.tick, .slice v5.A v5.h.counts.length v5.c, .int .i64 v5.h.depth, .slice Ab 1 v5.d]), .arr g194 25 (hcs v193.h v193.A v193.c v193.B v193.d)] hm243 hbz hat_ (Or.inr ⟨hA_, hB_⟩) hdNone (mutApp (fun _ h_ => lvRes_mut h_) (mutApp (fun _ h_ => lvRes_mut h_) (fun _ h_ => lvRes_mut h_)))
 simp only [List.cons_append, List.nil_append] at hm246
 clear hat_ hA_ hB_ hbz
 have hk248 := (hm246.sub (.cons_cons _ (.cons_cons _ (up_ (rf_)))))
 refine ⟨_, rfl, hk248, ?_⟩
 refine mP rfl ?_
 refine mgCall (i := 3) 14 [.agg (hcs v247.h v247.A v247.c v247.B v247.d).toArray] [] [] kr_ rfl kr_ (wgY rfl rfl rfl (by decide) kr_) rfl le_ (litArgs kr_) (by have h_ := check_any v247.h v247.A v247.c v247.B v247.d _ ((Mem.lv ((Mem.tailN (T := (lvRes [v247] ++ (lvRes [v193] ++ (lvRes [vbad] ++ lvRes [v5])))) 2 hm246 rfl).sub (L' := lvRes [v247]) (lf_))) v247 List.mem_cons_self).a ((Mem.lv ((Mem.tailN (T := (lvRes [v247] ++ (lvRes [v193] ++ (lvRes [vbad] ++ lvRes [v5])))) 2 hm246 rfl).sub (L' := lvRes [v247]) (lf_))) v247 List.mem_cons_self).b (by rw [hv247_]; decide) (by rw [hv247_]; decide) (by rw [hv247_]; decide); rw [show ckH v247.h = 0 by rw [hv247_]; kernel_rfl] at h_; exact h_) ?_
 rintro e w249 ⟨rfl, hbz⟩
 have hm250 := hm246.below hbz
 clear hbz hm246
 have hk251 := (hm250.sub (.cons_cons _ (.cons_cons _ (up_ (rf_)))))
 refine ⟨_, rfl, hk251, ?_⟩
 refine mP rfl ?_
 refine mgTake (i := 4) (v := .bool true) rfl kr_ (wgY rfl rfl rfl (by decide) kr_) (fun _ _ _ h => h) hk251 (fun w_ h_ => litRun kr_) ?_
 refine mP rfl ?_
 refine mk_ (i := 5) (v := .bool true) rfl rfl (fun _ _ _ h => h) hk251 rfl ?_
 refine mk_ (i := 6) (v := .bool true) rfl rfl (fun _ _ _ h => h) hk251 rfl ?_
 refine mgTake (i := 7) (v := .agg ([.int .i64 v5.h.tick, .slice v5.A v5.h.counts.length v5.c, .int .i64 v5.h.depth, .slice Ab 1 v5.d]).toArray) rfl kr_ (wgY rfl rfl rfl (by decide) kr_) (fun _ _ _ h => h) hk251 (fun w_ h_ => gLoadAg (vs := [.int .i64 v5.h.tick, .slice v5.A v5.h.counts.length v5.c, .int .i64 v5.h.depth, .slice Ab 1 v5.d]) (k := 0) 0 h_ rfl kr_ kr_ (.tmp 1) Ty.ag_voxel_api_Header rfl le_) ?_
 refine mP rfl ?_
 refine mgCall (i := 8) 14 [.agg ([.int .i64 v5.h.tick, .slice v5.A v5.h.counts.length v5.c, .int .i64 v5.h.depth, .slice Ab 1 v5.d]).toArray] [] [] kr_ rfl kr_ (wgY rfl rfl rfl (by decide) kr_) rfl le_ (litArgs kr_) (by have h_ := check_any hdBad v5.A v5.c Ab v5.d _ (by have q_ := ((Mem.lv ((Mem.tailN (T := (lvRes [v247] ++ (lvRes [v193] ++ (lvRes [vbad] ++ lvRes [v5])))) 2 hm250 rfl).sub (L' := lvRes [vbad]) (up_ (up_ (lf_))))) vbad List.mem_cons_self).a; rw [hvb_] at q_; exact q_) (by have q_ := ((Mem.lv ((Mem.tailN (T := (lvRes [v247] ++ (lvRes [v193] ++ (lvRes [vbad] ++ lvRes [v5])))) 2 hm250 rfl).sub (L' := lvRes [vbad]) (up_ (up_ (lf_))))) vbad List.mem_cons_self).b; rw [hvb_] at q_; exact q_) (by decide) (by decide) (by decide); have e_ : hcs hdBad v5.A v5.c Ab v5.d = [.int .i64 v5.h.tick, .slice v5.A v5.h.counts.length v5.c, .int .i64 v5.h.depth, .slice Ab 1 v5.d] := (by rw [hv5_]; first | done | rfl); rw [e_, show ckH hdBad = 1 by kernel_rfl] at h_; exact h_) ?_
 rintro e w252 ⟨rfl, hbz⟩
 have hm253 := hm250.below hbz
 clear hbz hm250
 have hk254 := (hm253.sub (.cons_cons _ (.cons_cons _ (up_ (rf_)))))
 refine ⟨_, rfl, hk254, ?_⟩
 refine mP rfl ?_
 refine mgTake (i := 9) (v := .bool true) rfl kr_ (wgY rfl rfl rfl (by decide) kr_) (fun _ _ _ h => h) hk254 (fun w_ h_ => litRun kr_) ?_
 refine mP rfl ?_
 refine mk_ (i := 10) (v := .bool true) rfl rfl (fun _ _ _ h => h) hk254 rfl ?_
 refine mk_ (i := 11) (v := .bool true) rfl rfl (fun _ _ _ h => h) hk254 rfl ?_
 refine mgTake (i := 12) (v := .agg (hcs v193.h v193.A v193.c v193.B v193.d).toArray) rfl kr_ (wgY rfl rfl rfl (by decide) kr_) (fun _ _ _ h => h) hk254 (fun w_ h_ => gLoadAg (vs := hcs v193.h v193.A v193.c v193.B v193.d) (k := 0) 1 h_ rfl kr_ kr_ (.tmp 21) Ty.ag_voxel_api_Header rfl le_) ?_
 refine mP rfl ?_
 refine mgCall (i := 13) 18 [.int .i64 5] [] [] kr_ rfl kr_ (wgY rfl rfl rfl (by decide) kr_) rfl le_ (litArgs kr_) (header_any 5 _) ?_
 rintro e w255 ⟨v257, hv257_, rfl, hat_, hA_, hB_, hbz⟩
 have hm256 := Mem.newLv (lx := []) (M := (lvRes [v247] ++ (lvRes [v193] ++ (lvRes [vbad] ++ lvRes [v5])))) [.arr g6 25 ([.int .i64 v5.h.tick, .slice v5.A v5.h.counts.length v5.c, .int .i64 v5.h.depth, .slice Ab 1 v5.d]), .arr g194 25 (hcs v193.h v193.A v193.c v193.B v193.d)] hm253 hbz hat_ (Or.inr ⟨hA_, hB_⟩) hdNone (mutApp (fun _ h_ => lvRes_mut h_) (mutApp (fun _ h_ => lvRes_mut h_) (mutApp (fun _ h_ => lvRes_mut h_) (fun _ h_ => lvRes_mut h_))))
 simp only [List.cons_append, List.nil_append] at hm256
 clear hat_ hA_ hB_ hbz
 have hk258 := (hm256.sub (.cons_cons _ (.cons_cons _ (up_ (up_ (rf_))))))
 refine ⟨_, rfl, hk258, ?_⟩
 refine mP rfl ?_
 refine mgCall (i := 14) 15 [.agg (hcs v193.h v193.A v193.c v193.B v193.d).toArray, .agg (hcs v257.h v257.A v257.c v257.B v257.d).toArray] [] [] kr_ rfl kr_ (wgY rfl rfl rfl (by decide) kr_) rfl le_ (litArgs kr_) (by have h_ := same_any v193.h v193.A v193.c v193.B v193.d v257.h v257.A v257.c v257.B v257.d _ ((Mem.lv ((Mem.tailN (T := (lvRes [v257] ++ (lvRes [v247] ++ (lvRes [v193] ++ (lvRes [vbad] ++ lvRes [v5]))))) 2 hm256 rfl).sub (L' := lvRes [v193]) (up_ (up_ (lf_))))) v193 List.mem_cons_self).a ((Mem.lv ((Mem.tailN (T := (lvRes [v257] ++ (lvRes [v247] ++ (lvRes [v193] ++ (lvRes [vbad] ++ lvRes [v5]))))) 2 hm256 rfl).sub (L' := lvRes [v193]) (up_ (up_ (lf_))))) v193 List.mem_cons_self).b ((Mem.lv ((Mem.tailN (T := (lvRes [v257] ++ (lvRes [v247] ++ (lvRes [v193] ++ (lvRes [vbad] ++ lvRes [v5]))))) 2 hm256 rfl).sub (L' := lvRes [v257]) (lf_))) v257 List.mem_cons_self).a ((Mem.lv ((Mem.tailN (T := (lvRes [v257] ++ (lvRes [v247] ++ (lvRes [v193] ++ (lvRes [vbad] ++ lvRes [v5]))))) 2 hm256 rfl).sub (L' := lvRes [v257]) (lf_))) v257 List.mem_cons_self).b (by rw [hv193_]; decide) (by rw [hv193_]; decide); rw [show decide (v193.h = v257.h) = true by rw [hv193_, hv257_]; kernel_rfl] at h_; exact h_) ?_
 rintro e w259 ⟨rfl, hbz⟩
 have hm260 := hm256.below hbz
 clear hbz hm256
 have hk261 := (hm260.sub (.cons_cons _ (.cons_cons _ (up_ (up_ (rf_))))))
 refine ⟨_, rfl, hk261, ?_⟩
 refine mP rfl ?_
 refine mk_ (i := 15) (v := .bool true) rfl rfl (fun _ _ _ h => h) hk261 rfl ?_
 refine mk_ (i := 16) (v := .bool true) rfl rfl (fun _ _ _ h => h) hk261 rfl ?_
 refine mgTake (i := 17) (v := .agg (hcs v193.h v193.A v193.c v193.B v193.d).toArray) rfl kr_ (wgY rfl rfl rfl (by decide) kr_) (fun _ _ _ h => h) hk261 (fun w_ h_ => gLoadAg (vs := hcs v193.h v193.A v193.c v193.B v193.d) (k := 0) 1 h_ rfl kr_ kr_ (.tmp 21) Ty.ag_voxel_api_Header rfl le_) ?_
 refine mP rfl ?_
 refine mgCall (i := 18) 18 [.int .i64 6] [] [] kr_ rfl kr_ (wgY rfl rfl rfl (by decide) kr_) rfl le_ (litArgs kr_) (header_any 6 _) ?_
 rintro e w262 ⟨v264, hv264_, rfl, hat_, hA_, hB_, hbz⟩
 have hm263 := Mem.newLv (lx := []) (M := (lvRes [v257] ++ (lvRes [v247] ++ (lvRes [v193] ++ (lvRes [vbad] ++ lvRes [v5]))))) [.arr g6 25 ([.int .i64 v5.h.tick, .slice v5.A v5.h.counts.length v5.c, .int .i64 v5.h.depth, .slice Ab 1 v5.d]), .arr g194 25 (hcs v193.h v193.A v193.c v193.B v193.d)] hm260 hbz hat_ (Or.inr ⟨hA_, hB_⟩) hdNone (mutApp (fun _ h_ => lvRes_mut h_) (mutApp (fun _ h_ => lvRes_mut h_) (mutApp (fun _ h_ => lvRes_mut h_) (mutApp (fun _ h_ => lvRes_mut h_) (fun _ h_ => lvRes_mut h_)))))
 simp only [List.cons_append, List.nil_append] at hm263
 clear hat_ hA_ hB_ hbz
 have hk265 := (hm263.sub (.cons_cons _ (.cons_cons _ (up_ (up_ (up_ (rf_)))))))
 refine ⟨_, rfl, hk265, ?_⟩
 refine mP rfl ?_
 refine mgCall (i := 19) 15 [.agg (hcs v193.h v193.A v193.c v193.B v193.d).toArray, .agg (hcs v264.h v264.A v264.c v264.B v264.d).toArray] [] [] kr_ rfl kr_ (wgY rfl rfl rfl (by decide) kr_) rfl le_ (litArgs kr_) (by have h_ := same_any v193.h v193.A v193.c v193.B v193.d v264.h v264.A v264.c v264.B v264.d _ ((Mem.lv ((Mem.tailN (T := (lvRes [v264] ++ (lvRes [v257] ++ (lvRes [v247] ++ (lvRes [v193] ++ (lvRes [vbad] ++ lvRes [v5])))))) 2 hm263 rfl).sub (L' := lvRes [v193]) (up_ (up_ (up_ (lf_)))))) v193 List.mem_cons_self).a ((Mem.lv ((Mem.tailN (T := (lvRes [v264] ++ (lvRes [v257] ++ (lvRes [v247] ++ (lvRes [v193] ++ (lvRes [vbad] ++ lvRes [v5])))))) 2 hm263 rfl).sub (L' := lvRes [v193]) (up_ (up_ (up_ (lf_)))))) v193 List.mem_cons_self).b ((Mem.lv ((Mem.tailN (T := (lvRes [v264] ++ (lvRes [v257] ++ (lvRes [v247] ++ (lvRes [v193] ++ (lvRes [vbad] ++ lvRes [v5])))))) 2 hm263 rfl).sub (L' := lvRes [v264]) (lf_))) v264 List.mem_cons_self).a ((Mem.lv ((Mem.tailN (T := (lvRes [v264] ++ (lvRes [v257] ++ (lvRes [v247] ++ (lvRes [v193] ++ (lvRes [vbad] ++ lvRes [v5])))))) 2 hm263 rfl).sub (L' := lvRes [v264]) (lf_))) v264 List.mem_cons_self).b (by rw [hv193_]; decide) (by rw [hv193_]; decide); rw [show decide (v193.h = v264.h) = false by rw [hv193_, hv264_]; kernel_rfl] at h_; exact h_) ?_
 rintro e w266 ⟨rfl, hbz⟩
 have hm267 := hm263.below hbz
 clear hbz hm263
 have hk268 := (hm267.sub (.cons_cons _ (.cons_cons _ (up_ (up_ (up_ (rf_)))))))
 refine ⟨_, rfl, hk268, ?_⟩
 refine mP rfl ?_
 refine mgTake (i := 20) (v := .bool true) rfl kr_ (wgY rfl rfl rfl (by decide) kr_) (fun _ _ _ h => h) hk268 (fun w_ h_ => litRun kr_) ?_
 refine mP rfl ?_
 refine mk_ (i := 21) (v := .bool true) rfl rfl (fun _ _ _ h => h) hk268 rfl ?_
 refine mk_ (i := 22) (v := .bool true) rfl rfl (fun _ _ _ h => h) hk268 rfl ?_
 refine mgCall (i := 23) 18 [.int .i64 6] [] [] kr_ rfl kr_ (wgY rfl rfl rfl (by decide) kr_) rfl le_ (litArgs kr_) (header_any 6 _) ?_
 rintro e w269 ⟨v271, hv271_, rfl, hat_, hA_, hB_, hbz⟩
 have hm270 := Mem.newLv (lx := []) (M := (lvRes [v264] ++ (lvRes [v257] ++ (lvRes [v247] ++ (lvRes [v193] ++ (lvRes [vbad] ++ lvRes [v5])))))) [.arr g6 25 ([.int .i64 v5.h.tick, .slice v5.A v5.h.counts.length v5.c, .int .i64 v5.h.depth, .slice Ab 1 v5.d]), .arr g194 25 (hcs v193.h v193.A v193.c v193.B v193.d)] hm267 hbz hat_ (Or.inr ⟨hA_, hB_⟩) hdNone (mutApp (fun _ h_ => lvRes_mut h_) (mutApp (fun _ h_ => lvRes_mut h_) (mutApp (fun _ h_ => lvRes_mut h_) (mutApp (fun _ h_ => lvRes_mut h_) (mutApp (fun _ h_ => lvRes_mut h_) (fun _ h_ => lvRes_mut h_))))))
 simp only [List.cons_append, List.nil_append] at hm270
 clear hat_ hA_ hB_ hbz
 have hk272 := (hm270.sub (.cons_cons _ (.cons_cons _ (up_ (up_ (up_ (up_ (rf_))))))))
 refine ⟨_, rfl, hk272, ?_⟩
 refine mP rfl ?_
 refine mgCall (i := 24) 18 [.int .i64 5] [] [] kr_ rfl kr_ (wgY rfl rfl rfl (by decide) kr_) rfl le_ (litArgs kr_) (header_any 5 _) ?_
 rintro e w273 ⟨v275, hv275_, rfl, hat_, hA_, hB_, hbz⟩
 have hm274 := Mem.newLv (lx := []) (M := (lvRes [v271] ++ (lvRes [v264] ++ (lvRes [v257] ++ (lvRes [v247] ++ (lvRes [v193] ++ (lvRes [vbad] ++ lvRes [v5]))))))) [.arr g6 25 ([.int .i64 v5.h.tick, .slice v5.A v5.h.counts.length v5.c, .int .i64 v5.h.depth, .slice Ab 1 v5.d]), .arr g194 25 (hcs v193.h v193.A v193.c v193.B v193.d)] hm270 hbz hat_ (Or.inr ⟨hA_, hB_⟩) hdNone (mutApp (fun _ h_ => lvRes_mut h_) (mutApp (fun _ h_ => lvRes_mut h_) (mutApp (fun _ h_ => lvRes_mut h_) (mutApp (fun _ h_ => lvRes_mut h_) (mutApp (fun _ h_ => lvRes_mut h_) (mutApp (fun _ h_ => lvRes_mut h_) (fun _ h_ => lvRes_mut h_)))))))
 simp only [List.cons_append, List.nil_append] at hm274
 clear hat_ hA_ hB_ hbz
 have hk276 := (hm274.sub (.cons_cons _ (.cons_cons _ (up_ (up_ (up_ (up_ (up_ (rf_)))))))))
 refine ⟨_, rfl, hk276, ?_⟩
 refine mP rfl ?_
 refine mgCall (i := 25) 25 [.agg (hcs v271.h v271.A v271.c v271.B v271.d).toArray, .agg (hcs v275.h v275.A v275.c v275.B v275.d).toArray] [] [] kr_ rfl kr_ (wgY rfl rfl rfl (by decide) kr_) rfl le_ (litArgs kr_) (by have h_ := covers_any v271.h v271.A v271.c v271.B v271.d v275.h v275.A v275.c v275.B v275.d _ ((Mem.lv ((Mem.tailN (T := (lvRes [v275] ++ (lvRes [v271] ++ (lvRes [v264] ++ (lvRes [v257] ++ (lvRes [v247] ++ (lvRes [v193] ++ (lvRes [vbad] ++ lvRes [v5])))))))) 2 hm274 rfl).sub (L' := lvRes [v271]) (up_ (lf_)))) v271 List.mem_cons_self).a ((Mem.lv ((Mem.tailN (T := (lvRes [v275] ++ (lvRes [v271] ++ (lvRes [v264] ++ (lvRes [v257] ++ (lvRes [v247] ++ (lvRes [v193] ++ (lvRes [vbad] ++ lvRes [v5])))))))) 2 hm274 rfl).sub (L' := lvRes [v271]) (up_ (lf_)))) v271 List.mem_cons_self).b ((Mem.lv ((Mem.tailN (T := (lvRes [v275] ++ (lvRes [v271] ++ (lvRes [v264] ++ (lvRes [v257] ++ (lvRes [v247] ++ (lvRes [v193] ++ (lvRes [vbad] ++ lvRes [v5])))))))) 2 hm274 rfl).sub (L' := lvRes [v275]) (lf_))) v275 List.mem_cons_self).a ((Mem.lv ((Mem.tailN (T := (lvRes [v275] ++ (lvRes [v271] ++ (lvRes [v264] ++ (lvRes [v257] ++ (lvRes [v247] ++ (lvRes [v193] ++ (lvRes [vbad] ++ lvRes [v5])))))))) 2 hm274 rfl).sub (L' := lvRes [v275]) (lf_))) v275 List.mem_cons_self).b (by rw [hv271_]; decide) (by rw [hv271_]; decide) (by rw [hv271_]; rfl) (by rw [hv275_]; rfl); rw [show decide (covers v271.h v275.h) = true by rw [hv271_, hv275_]; kernel_rfl] at h_; exact h_) ?_
 rintro e w277 ⟨rfl, hbz⟩
 have hm278 := hm274.below hbz
 clear hbz hm274
 have hk279 := (hm278.sub (.cons_cons _ (.cons_cons _ (up_ (up_ (up_ (up_ (up_ (rf_)))))))))
 refine ⟨_, rfl, hk279, ?_⟩
 refine mP rfl ?_
 refine mk_ (i := 26) (v := .bool true) rfl rfl (fun _ _ _ h => h) hk279 rfl ?_
 refine mk_ (i := 27) (v := .bool true) rfl rfl (fun _ _ _ h => h) hk279 rfl ?_
 refine mgCall (i := 28) 18 [.int .i64 5] [] [] kr_ rfl kr_ (wgY rfl rfl rfl (by decide) kr_) rfl le_ (litArgs kr_) (header_any 5 _) ?_
 rintro e w280 ⟨v282, hv282_, rfl, hat_, hA_, hB_, hbz⟩
 have hm281 := Mem.newLv (lx := []) (M := (lvRes [v275] ++ (lvRes [v271] ++ (lvRes [v264] ++ (lvRes [v257] ++ (lvRes [v247] ++ (lvRes [v193] ++ (lvRes [vbad] ++ lvRes [v5])))))))) [.arr g6 25 ([.int .i64 v5.h.tick, .slice v5.A v5.h.counts.length v5.c, .int .i64 v5.h.depth, .slice Ab 1 v5.d]), .arr g194 25 (hcs v193.h v193.A v193.c v193.B v193.d)] hm278 hbz hat_ (Or.inr ⟨hA_, hB_⟩) hdNone (mutApp (fun _ h_ => lvRes_mut h_) (mutApp (fun _ h_ => lvRes_mut h_) (mutApp (fun _ h_ => lvRes_mut h_) (mutApp (fun _ h_ => lvRes_mut h_) (mutApp (fun _ h_ => lvRes_mut h_) (mutApp (fun _ h_ => lvRes_mut h_) (mutApp (fun _ h_ => lvRes_mut h_) (fun _ h_ => lvRes_mut h_))))))))
 simp only [List.cons_append, List.nil_append] at hm281
 clear hat_ hA_ hB_ hbz
 have hk283 := (hm281.sub (.cons_cons _ (.cons_cons _ (up_ (up_ (up_ (up_ (up_ (up_ (rf_))))))))))
 refine ⟨_, rfl, hk283, ?_⟩
 refine mP rfl ?_
 refine mgCall (i := 29) 18 [.int .i64 6] [] [] kr_ rfl kr_ (wgY rfl rfl rfl (by decide) kr_) rfl le_ (litArgs kr_) (header_any 6 _) ?_
 rintro e w284 ⟨v286, hv286_, rfl, hat_, hA_, hB_, hbz⟩
 have hm285 := Mem.newLv (lx := []) (M := (lvRes [v282] ++ (lvRes [v275] ++ (lvRes [v271] ++ (lvRes [v264] ++ (lvRes [v257] ++ (lvRes [v247] ++ (lvRes [v193] ++ (lvRes [vbad] ++ lvRes [v5]))))))))) [.arr g6 25 ([.int .i64 v5.h.tick, .slice v5.A v5.h.counts.length v5.c, .int .i64 v5.h.depth, .slice Ab 1 v5.d]), .arr g194 25 (hcs v193.h v193.A v193.c v193.B v193.d)] hm281 hbz hat_ (Or.inr ⟨hA_, hB_⟩) hdNone (mutApp (fun _ h_ => lvRes_mut h_) (mutApp (fun _ h_ => lvRes_mut h_) (mutApp (fun _ h_ => lvRes_mut h_) (mutApp (fun _ h_ => lvRes_mut h_) (mutApp (fun _ h_ => lvRes_mut h_) (mutApp (fun _ h_ => lvRes_mut h_) (mutApp (fun _ h_ => lvRes_mut h_) (mutApp (fun _ h_ => lvRes_mut h_) (fun _ h_ => lvRes_mut h_)))))))))
 simp only [List.cons_append, List.nil_append] at hm285
 clear hat_ hA_ hB_ hbz
 have hk287 := (hm285.sub (.cons_cons _ (.cons_cons _ (up_ (up_ (up_ (up_ (up_ (up_ (up_ (rf_)))))))))))
 refine ⟨_, rfl, hk287, ?_⟩
 refine mP rfl ?_
 refine mgCall (i := 30) 25 [.agg (hcs v282.h v282.A v282.c v282.B v282.d).toArray, .agg (hcs v286.h v286.A v286.c v286.B v286.d).toArray] [] [] kr_ rfl kr_ (wgY rfl rfl rfl (by decide) kr_) rfl le_ (litArgs kr_) (by have h_ := covers_any v282.h v282.A v282.c v282.B v282.d v286.h v286.A v286.c v286.B v286.d _ ((Mem.lv ((Mem.tailN (T := (lvRes [v286] ++ (lvRes [v282] ++ (lvRes [v275] ++ (lvRes [v271] ++ (lvRes [v264] ++ (lvRes [v257] ++ (lvRes [v247] ++ (lvRes [v193] ++ (lvRes [vbad] ++ lvRes [v5])))))))))) 2 hm285 rfl).sub (L' := lvRes [v282]) (up_ (lf_)))) v282 List.mem_cons_self).a ((Mem.lv ((Mem.tailN (T := (lvRes [v286] ++ (lvRes [v282] ++ (lvRes [v275] ++ (lvRes [v271] ++ (lvRes [v264] ++ (lvRes [v257] ++ (lvRes [v247] ++ (lvRes [v193] ++ (lvRes [vbad] ++ lvRes [v5])))))))))) 2 hm285 rfl).sub (L' := lvRes [v282]) (up_ (lf_)))) v282 List.mem_cons_self).b ((Mem.lv ((Mem.tailN (T := (lvRes [v286] ++ (lvRes [v282] ++ (lvRes [v275] ++ (lvRes [v271] ++ (lvRes [v264] ++ (lvRes [v257] ++ (lvRes [v247] ++ (lvRes [v193] ++ (lvRes [vbad] ++ lvRes [v5])))))))))) 2 hm285 rfl).sub (L' := lvRes [v286]) (lf_))) v286 List.mem_cons_self).a ((Mem.lv ((Mem.tailN (T := (lvRes [v286] ++ (lvRes [v282] ++ (lvRes [v275] ++ (lvRes [v271] ++ (lvRes [v264] ++ (lvRes [v257] ++ (lvRes [v247] ++ (lvRes [v193] ++ (lvRes [vbad] ++ lvRes [v5])))))))))) 2 hm285 rfl).sub (L' := lvRes [v286]) (lf_))) v286 List.mem_cons_self).b (by rw [hv282_]; decide) (by rw [hv282_]; decide) (by rw [hv282_]; rfl) (by rw [hv286_]; rfl); rw [show decide (covers v282.h v286.h) = false by rw [hv282_, hv286_]; kernel_rfl] at h_; exact h_) ?_
 rintro e w288 ⟨rfl, hbz⟩
 have hm289 := hm285.below hbz
 clear hbz hm285
 have hk290 := (hm289.sub (.cons_cons _ (.cons_cons _ (up_ (up_ (up_ (up_ (up_ (up_ (up_ (rf_)))))))))))
 refine ⟨_, rfl, hk290, ?_⟩
 refine mP rfl ?_
 refine mgTake (i := 31) (v := .bool true) rfl kr_ (wgY rfl rfl rfl (by decide) kr_) (fun _ _ _ h => h) hk290 (fun w_ h_ => litRun kr_) ?_
 refine mP rfl ?_
 refine mk_ (i := 32) (v := .bool true) rfl rfl (fun _ _ _ h => h) hk290 rfl ?_
 refine mk_ (i := 33) (v := .bool true) rfl rfl (fun _ _ _ h => h) hk290 rfl ?_
 refine mgTake (i := 34) (v := .agg (hcs v193.h v193.A v193.c v193.B v193.d).toArray) rfl kr_ (wgY rfl rfl rfl (by decide) kr_) (fun _ _ _ h => h) hk290 (fun w_ h_ => gLoadAg (vs := hcs v193.h v193.A v193.c v193.B v193.d) (k := 0) 1 h_ rfl kr_ kr_ (.tmp 21) Ty.ag_voxel_api_Header rfl le_) ?_
 refine mP rfl ?_
 refine mgCall (i := 35) 26 [.agg (hcs v193.h v193.A v193.c v193.B v193.d).toArray] [] [] kr_ rfl kr_ (wgY rfl rfl rfl (by decide) kr_) rfl le_ (litArgs kr_) (digestH_any v193.h v193.A v193.c v193.B v193.d _ (ht.below hm289.bel ht.size) ((Mem.lv ((Mem.tailN (T := (lvRes [v286] ++ (lvRes [v282] ++ (lvRes [v275] ++ (lvRes [v271] ++ (lvRes [v264] ++ (lvRes [v257] ++ (lvRes [v247] ++ (lvRes [v193] ++ (lvRes [vbad] ++ lvRes [v5])))))))))) 2 hm289 rfl).sub (L' := lvRes [v193]) (up_ (up_ (up_ (up_ (up_ (up_ (up_ (lf_)))))))))) v193 List.mem_cons_self).a ((Mem.lv ((Mem.tailN (T := (lvRes [v286] ++ (lvRes [v282] ++ (lvRes [v275] ++ (lvRes [v271] ++ (lvRes [v264] ++ (lvRes [v257] ++ (lvRes [v247] ++ (lvRes [v193] ++ (lvRes [vbad] ++ lvRes [v5])))))))))) 2 hm289 rfl).sub (L' := lvRes [v193]) (up_ (up_ (up_ (up_ (up_ (up_ (up_ (lf_)))))))))) v193 List.mem_cons_self).b (fit_eq hv193_ fit5)) ?_
 rintro e w291 ⟨rfl, hbz⟩
 have hm292 := hm289.below hbz
 clear hbz hm289
 have hk293 := (hm292.sub (.cons_cons _ (.cons_cons _ (up_ (up_ (up_ (up_ (up_ (up_ (up_ (rf_)))))))))))
 refine ⟨_, rfl, hk293, ?_⟩
 refine mP rfl ?_
 refine mgCall (i := 36) 18 [.int .i64 5] [] [] kr_ rfl kr_ (wgY rfl rfl rfl (by decide) kr_) rfl le_ (litArgs kr_) (header_any 5 _) ?_
 rintro e w294 ⟨v296, hv296_, rfl, hat_, hA_, hB_, hbz⟩
 have hm295 := Mem.newLv (lx := []) (M := (lvRes [v286] ++ (lvRes [v282] ++ (lvRes [v275] ++ (lvRes [v271] ++ (lvRes [v264] ++ (lvRes [v257] ++ (lvRes [v247] ++ (lvRes [v193] ++ (lvRes [vbad] ++ lvRes [v5])))))))))) [.arr g6 25 ([.int .i64 v5.h.tick, .slice v5.A v5.h.counts.length v5.c, .int .i64 v5.h.depth, .slice Ab 1 v5.d]), .arr g194 25 (hcs v193.h v193.A v193.c v193.B v193.d)] hm292 hbz hat_ (Or.inr ⟨hA_, hB_⟩) hdNone (mutApp (fun _ h_ => lvRes_mut h_) (mutApp (fun _ h_ => lvRes_mut h_) (mutApp (fun _ h_ => lvRes_mut h_) (mutApp (fun _ h_ => lvRes_mut h_) (mutApp (fun _ h_ => lvRes_mut h_) (mutApp (fun _ h_ => lvRes_mut h_) (mutApp (fun _ h_ => lvRes_mut h_) (mutApp (fun _ h_ => lvRes_mut h_) (mutApp (fun _ h_ => lvRes_mut h_) (fun _ h_ => lvRes_mut h_))))))))))
 simp only [List.cons_append, List.nil_append] at hm295
 clear hat_ hA_ hB_ hbz
 have hk297 := (hm295.sub (.cons_cons _ (.cons_cons _ (up_ (up_ (up_ (up_ (up_ (up_ (up_ (up_ (rf_))))))))))))
 refine ⟨_, rfl, hk297, ?_⟩
 refine mP rfl ?_
 refine mgCall (i := 37) 27 [.agg (hcs v296.h v296.A v296.c v296.B v296.d).toArray] [] [] kr_ rfl kr_ (wgY rfl rfl rfl (by decide) kr_) rfl le_ (litArgs kr_) (rdigestH_any v296.h v296.A v296.c v296.B v296.d _ (htR.below hm295.bel htR.size) ((Mem.lv ((Mem.tailN (T := (lvRes [v296] ++ (lvRes [v286] ++ (lvRes [v282] ++ (lvRes [v275] ++ (lvRes [v271] ++ (lvRes [v264] ++ (lvRes [v257] ++ (lvRes [v247] ++ (lvRes [v193] ++ (lvRes [vbad] ++ lvRes [v5]))))))))))) 2 hm295 rfl).sub (L' := lvRes [v296]) (lf_))) v296 List.mem_cons_self).a ((Mem.lv ((Mem.tailN (T := (lvRes [v296] ++ (lvRes [v286] ++ (lvRes [v282] ++ (lvRes [v275] ++ (lvRes [v271] ++ (lvRes [v264] ++ (lvRes [v257] ++ (lvRes [v247] ++ (lvRes [v193] ++ (lvRes [vbad] ++ lvRes [v5]))))))))))) 2 hm295 rfl).sub (L' := lvRes [v296]) (lf_))) v296 List.mem_cons_self).b (fit_eq hv296_ fit5)) ?_
 rintro e w298 ⟨rfl, hbz⟩
 have hm299 := hm295.below hbz
 clear hbz hm295
 have hk300 := (hm299.sub (.cons_cons _ (.cons_cons _ (up_ (up_ (up_ (up_ (up_ (up_ (up_ (up_ (rf_))))))))))))
 refine ⟨_, rfl, hk300, ?_⟩
 refine mP rfl ?_
 refine mgTake (i := 38) (v := .bool true) rfl kr_ (wgY rfl rfl rfl (by decide) kr_) (fun _ _ _ h => h) hk300 (fun w_ h_ => eqDigRun (n := 16) (.tmp 190) (.tmp 192) (digH v193.h) (digH v296.h) true Tryz.underlying27 Tryz.underlying5 kr_ kr_ (ofDig_len _ _) (ofDig_len _ _) (by rw [hv193_, hv296_]; simp) rfl le_ le_) ?_
 refine mP rfl ?_
 refine mk_ (i := 39) (v := .bool true) rfl rfl (fun _ _ _ h => h) hk300 rfl ?_
 refine mk_ (i := 40) (v := .bool true) rfl rfl (fun _ _ _ h => h) hk300 rfl ?_
 refine mgDone kr_ ?_
 refine tn_ hK242 ?_
 refine wpPrune [(0, .bool true)] ⟨lg_, trivial⟩ (fun X301 => ?_)
 have hm302 : Mem w w298 (lvRes [v5]) := hm299.sub (sk_ (sk_ (up_ (up_ (up_ (up_ (up_ (up_ (up_ (up_ (up_ (up_ (rf_)))))))))))))
 clear hm299
 refine wp_ret ?_
 refine bodyPost_ret (v := .bool true) (gRes1 rfl (gResTmp (t := 0) (v := .bool true) (lg_))) rfl ?_
 exact ⟨by rfl, hm302.bel⟩
end Go.Proofs.YtgjgjimgomhbmaaGreatDoor
namespace Go.Proofs.YtgjgjimgomhbmaaGreatDoor
section
variable {T : List Vr} {nx m : Int} {hs : List Hd} {ps : List Int} {kind n : Int} {h : Hd}
end
end Go.Proofs.YtgjgjimgomhbmaaGreatDoor
namespace Go.Proofs.YtgjgjimgomhbmaaGreatDoor
open Go.RowKit Go.ChangeShapes Go.WideShapes
section
variable {H : Type} {enc : TypeId × Value → H} {P : Program} {w : World} {base : Nat} {held : Bool} {cs : List Value} {ls : List (Nat × TypeId)}
theorem leaf_at {o : Nat} {v : Value} (h : (cs.drop o).take 1 = [v]) : cs[o]? = some v := by
 have h2 : ((cs.drop o).take 1)[0]? = some v := by rw [h]; rfl
 rwa [List.getElem?_take, if_pos (by omega), List.getElem?_drop, Nat.add_zero] at h2
theorem leaf_ints64 {e : TypeId} (h : ∀ p ∈ ls, ∃ fuel' y, DataW.trod enc P w base (fun _ => true) held fuel' p.2 ((cs.drop p.1).take (P.cellsOf p.2)) = some y) {o : Nat} {t : TypeId} (hp : ls.contains (o, t) = true) (ht : P.underlying t = some (.slice e)) (he : P.underlying e = some (.int .i64)) (hce : P.cellsOf e = 1) (hc : P.cellsOf t = 1) :
 ∃ (A : Option Addr) (c : Nat) (zs : List Int), cs[o]? = some (.slice A zs.length c) ∧ Rd w w.heap.size 1 A zs.length c (ics zs) ∧ ∀ z ∈ zs, isI64 z := by
 obtain ⟨f, y, hy⟩ := h (o, t) (by simpa using hp)
 simp only [hc] at hy
 obtain ⟨A, n, c, xs, D, sp, hcs, hn, hr, _, _, _, hR⟩ := br_slice (fun z : Int => [Value.int .i64 z]) (fun z (_ : DataW H) => (Lit.int .i64 z).wf = true) ht hce (by decide)
  (fun fuel cs' d pl _ hh => by obtain ⟨z, rfl, _, hz⟩ := DataW.trod_int he hh; exact ⟨z, rfl, hz⟩) hy
 subst hn
 refine ⟨A, c, xs, leaf_at hcs, ?_, fun z hz => ?_⟩
 ·have e1 : ics xs = xs.flatMap fun z => [Value.int .i64 z] := by unfold ics; rw [flat_one]
  rw [e1]; exact hr
 ·obtain ⟨i, hi⟩ := List.getElem?_of_mem hz
  obtain ⟨_, _, h⟩ := hR i z hi
  exact bounds_i64 h
theorem leaf_digs {e b : TypeId} (h : ∀ p ∈ ls, ∃ fuel' y, DataW.trod enc P w base (fun _ => true) held fuel' p.2 ((cs.drop p.1).take (P.cellsOf p.2)) = some y) {o : Nat} {t : TypeId} (hp : ls.contains (o, t) = true) (ht : P.underlying t = some (.slice e)) (he : P.underlying e = some (.array 16 b)) (hb : P.underlying b = some (.int .u8)) (hcb : P.cellsOf b = 1) (hce : P.cellsOf e = 16) (hc : P.cellsOf t = 1) :
 ∃ (A : Option Addr) (n c : Nat) (D : List UInt8), cs[o]? = some (.slice A n c) ∧ Rd w w.heap.size 16 A n c (bcs D) := by
 obtain ⟨f, y, hy⟩ := h (o, t) (by simpa using hp)
 simp only [hc] at hy
 obtain ⟨A, n, c, xs, D, sp, hcs, hn, hr, _, _, _, hR⟩ := br_slice bcs (fun _ (_ : DataW H) => True) ht hce (by decide)
  (fun fuel cs' d pl _ hh => by
   obtain ⟨zs, rfl, _, hz, _⟩ := br_arr he hb hcb hce hh
   exact ⟨_, u8_list zs hz, trivial⟩) hy
 exact ⟨A, n, c, xs.flatten, leaf_at hcs, by rw [← bcs_flat]; exact hr⟩
end
theorem eq4 {cs : List Value} {a b c d : Value} (hl : cs.length = 4) (h0 : cs[0]? = some a) (h1 : cs[1]? = some b) (h2 : cs[2]? = some c) (h3 : cs[3]? = some d) : cs = [a, b, c, d] := by
 match cs, hl with
 | [x, y, z, u], _ => simp_all
structure Hd.I64 (h : Hd) : Prop where
 tick : isI64 h.tick
 depth : isI64 h.depth
 counts : ∀ n ∈ h.counts, isI64 n
section
variable {H : Type} {enc : TypeId × Value → H} {W : World} {held : Bool} {b0 : Nat} {r : Reach}
theorem br_header {v : Value} {d : DataW H} {pl : List MemPlace} (hval : Value.okWide Tryz.prog W r b0 25 v) (h : DataW.Trod enc Tryz.prog W 0 (fun _ => true) held 25 v d pl) :
 ∃ x : Lv, v = .agg (hcs x.h x.A x.c x.B x.d).toArray ∧ x.At W ∧ x.h.I64 := by
 obtain ⟨cs, rfl, hl, f⟩ := br_flat (m := 8) (n := 4) (ls := [(0, 3), (1, 22), (2, 3), (3, 23)]) kr_ kr_ kr_ hval h
 obtain ⟨z0, e0, w0⟩ := leaf_int f (o := 0) (t := 3) kr_ Tryz.underlying3 kr_
 obtain ⟨A, c, zs, e1, hr, hz⟩ := leaf_ints64 f (o := 1) (t := 22) kr_ Tryz.underlying22 Tryz.underlying3 kr_ kr_
 obtain ⟨z2, e2, w2⟩ := leaf_int f (o := 2) (t := 3) kr_ Tryz.underlying3 kr_
 obtain ⟨B, n, c2, D, e3, hr3⟩ := leaf_digs f (o := 3) (t := 23) kr_ Tryz.underlying23 Tryz.underlying27 Tryz.underlying5 kr_ kr_ kr_
 obtain rfl := eq4 hl e0 e1 e2 e3
 exact ⟨⟨0, 0, ⟨z0, zs, z2, n, D⟩, A, c, B, c2⟩, rfl, ⟨hr, hr3⟩, ⟨bounds_i64 w0, bounds_i64 w2, hz⟩⟩
end
end Go.Proofs.YtgjgjimgomhbmaaGreatDoor
namespace Go.Proofs.YtgjgjimgomhbmaaGreatDoor
open Go.ChangeShapes Go.WideShapes Go.ChangeAt Go.RowKit
def shaZ : List Int := shaK.map fun x : Nat => (x : Int)
theorem gOwn : Tryz.prog.globalNamed "voxel/hash.constants" = some 0 := by kernel_rfl
theorem gRef : Tryz.prog.globalNamed "voxel/voxelref02.constants" = some 1 := by kernel_rfl
theorem gOwnT : (Tryz.prog.globals[0]?).map (·.type) = some 146 := by kernel_rfl
theorem gRefT : (Tryz.prog.globals[1]?).map (·.type) = some 146 := by kernel_rfl
theorem gUndA : Tryz.prog.underlying 146 = some (.array 64 125) := by kernel_rfl
theorem gUndE : Tryz.prog.underlying 125 = some (.int .u32) := by kernel_rfl
theorem gCellsA : Tryz.prog.cellsOf 146 = 64 := by kernel_rfl
theorem gCellsE : Tryz.prog.cellsOf 125 = 1 := by kernel_rfl
theorem tabs_cells {W : World} {g : Nat} {cs : Array Value} (h : ∀ i : Nat, i < 64 → W.cell? ⟨g, i, none⟩ = some (.int .u32 (shaZ.getD i 0))) (_hc : cs = cs) :
 ∀ j u, (wvs shaK)[j]? = some u → W.cell? ⟨g, 0 + j, none⟩ = some u := by
 intro j u hu
 have hj : j < 64 := by have := (List.getElem?_eq_some_iff.1 hu).1; rwa [wvs_len] at this
 rw [Nat.zero_add, h j hj, ← hu]
 unfold wvs shaZ
 rw [List.getElem?_map, List.getElem?_eq_getElem (show j < shaK.length from hj)]
 simp [List.getD, show j < shaK.length from hj, wv]
theorem blocks_there {W : World} {g : Nat} {v : Value} (h : W.cell? ⟨g, 0, none⟩ = some v) : g < W.heap.size := by
 unfold World.cell? at h
 rcases Nat.lt_or_ge g W.heap.size with h' | h'
 ·exact h'
 ·rw [show W.heap[(⟨g, 0, none⟩ : Addr).block]? = none from Array.getElem?_eq_none h'] at h
  simp at h
theorem laid_both {W : World} (h : laidMetH Tryz.prog [("voxel/voxelref02.constants", Rows.laid_voxel_voxelref02_constants), ("voxel/hash.constants", Rows.laid_voxel_hash_constants)] W) : Tabs W ∧ TabsR W := by
 have hr : Lib.TabIs Tryz.prog W "voxel/voxelref02.constants" .u32 shaZ := Lib.tabIs_of_head (rest := [("voxel/hash.constants", Rows.laid_voxel_hash_constants)]) gRef gRefT gUndA gUndE gCellsE gCellsA h
 have h' : laidMet Tryz.prog [("voxel/voxelref02.constants", Rows.laid_voxel_voxelref02_constants), ("voxel/hash.constants", Rows.laid_voxel_hash_constants)] W := h
 obtain ⟨ps, ⟨_, _, _, _, _, q1, _, _, _, _, ⟨g', t', cs, fuel, p, q, hg', ht', hvar, hd, _, _⟩, _⟩, _⟩ := h'
 obtain rfl := Option.some.inj (gOwn.symm.trans hg')
 obtain rfl := Option.some.inj (gOwnT.symm.trans ht')
 have ho : Lib.TabIs Tryz.prog W "voxel/hash.constants" .u32 shaZ := by
  unfold Lib.TabIs
  have hd' : DataW.trod (fun _ => ()) Tryz.prog W 0 (fun _ => true) false fuel 146 cs.toList = some (Lib.tabData .u32 shaZ, p) := hd
  rw [hvar, ← Lib.cells_of_tab gUndA gUndE gCellsE gCellsA hd']
 have hsz : 2 ≤ W.heap.size := blocks_there (hr.cell gRef 0 (by decide))
 exact ⟨⟨hsz, tabs_cells (cs := #[]) (fun i hi => ho.cell gOwn i hi) rfl⟩, ⟨hsz, tabs_cells (cs := #[]) (fun i hi => hr.cell gRef i hi) rfl⟩⟩
def fillTab : Obj → Obj
 | .cells _ t frozen => .cells (wvs shaK).toArray t frozen
 | o => o
noncomputable def laidWorld (os : Os) : World :=
 { World.holding Tryz.prog os ⟨#[], #[], []⟩ with heap := ((World.holding Tryz.prog os ⟨#[], #[], []⟩).heap.modify 0 fillTab).modify 1 fillTab }
theorem laid_met2 (os : Os) (args : Array Value) : laidMet Tryz.prog [("voxel/voxelref02.constants", Rows.laid_voxel_voxelref02_constants), ("voxel/hash.constants", Rows.laid_voxel_hash_constants)] ((laidWorld os).forCall (fun _ _ => 0) ⟨#[], args, []⟩).memory :=
 laidMet_of_run' 8 kr_ kr_
end Go.Proofs.YtgjgjimgomhbmaaGreatDoor
namespace Go.Proofs.YtgjgjimgomhbmaaGreatDoor
open Go.RowKit
section
variable {P : Program} {ops : Array Oper} {Q : Exit → Act → World → Prop} {S : World → Prop} {listed : Array Bool} {a : Act} {w : World} {fuel : Nat}
end
section
variable {P : Program} {ops : Array Oper} {Q : Exit → Act → World → Prop} {S : World → Prop} {listed : Array Bool} {a : Act} {w : World} {fuel : Nat}
end
end Go.Proofs.YtgjgjimgomhbmaaGreatDoor
namespace Go.Proofs.YtgjgjimgomhbmaaGreatDoor
def nib (b : UInt8) : List Nat := [b.toNat / 16, b.toNat % 16]
def digs (d : List UInt8) : List Nat := d.flatMap nib
def chk (d : List UInt8) : Nat := 30 * d.length - (digs d).sum
def digitsD (d : List UInt8) : List Nat := digs d ++ [chk d / 256 % 16, chk d / 16 % 16, chk d % 16]
theorem digs_len (d : List UInt8) : (digs d).length = 2 * d.length := by
 induction d with
 | nil => rfl
 | cons b d ih => unfold digs at *; simp only [List.flatMap_cons, List.length_append, List.length_cons, ih, nib]; simp; omega
theorem nib_le (b : UInt8) : b.toNat / 16 ≤ 15 ∧ b.toNat % 16 ≤ 15 := by have := b.toNat_lt; omega
theorem digs_le (d : List UInt8) : ∀ x ∈ digs d, x ≤ 15 := by
 intro x hx
 unfold digs at hx
 obtain ⟨b, _, hb⟩ := List.mem_flatMap.1 hx
 have := nib_le b
 unfold nib at hb
 simp at hb
 omega
theorem digs_sum (d : List UInt8) : (digs d).sum ≤ 30 * d.length := by
 induction d with
 | nil => simp [digs]
 | cons b d ih =>
  have := nib_le b
  unfold digs at *
  simp only [List.flatMap_cons, List.sum_append, List.length_cons, nib]
  simp
  omega
theorem digitsD_len {d : List UInt8} (h : d.length = 16) : (digitsD d).length = 35 := by unfold digitsD; rw [List.length_append, digs_len, h]; rfl
theorem digitsD_le (d : List UInt8) : ∀ x ∈ digitsD d, x ≤ 15 := by
 intro x hx
 unfold digitsD at hx
 rcases List.mem_append.1 hx with h | h
 ·exact digs_le d x h
 ·simp at h; omega
def countD (h : Int) : Nat := if h < 0 ∨ 6 < h then 0 else 2 ^ h.toNat
def sizeD (h i : Int) : Nat := if i < 0 ∨ (countD h : Int) ≤ i then 0 else (enc i).length + 16 * (35 + h.toNat)
def climbD (i j : Int) (a : Nat) (v : List UInt8) : Nat → List UInt8
 | 0 => v
 | n + 1 => ofDig 4 [encI [i, j, ((a + n + 1 : Nat) : Int)], climbD i j a v n]
theorem climbD_len (i j : Int) (a : Nat) {v : List UInt8} (hv : v.length = 16) : ∀ n, (climbD i j a v n).length = 16
 | 0 => hv
 | _ + 1 => ofDig_len _ _
def startD (seed : List UInt8) (i j : Int) : List UInt8 := (mac seed (encI [i, j])).take 16
def leafD (vs : List (List UInt8)) : List UInt8 := ofDig 4 [encD vs.length vs.flatten]
def joinD (level n : Int) (a b : List UInt8) : List UInt8 := ofDig 5 [encI [level, n], a, b]
def chainD (seed : List UInt8) (i : Nat) (n j : Nat) : List UInt8 := climbD i j 0 (startD seed i j) n
def valueD (seed : List UInt8) : Nat → Nat → List UInt8
 | 0, n => leafD ((List.range 35).map fun j => chainD seed n 15 j)
 | l + 1, n => joinD ((l + 1 : Nat) : Int) (n : Nat) (valueD seed l (2 * n)) (valueD seed l (2 * n + 1))
theorem valueD_len (seed : List UInt8) (l n : Nat) : (valueD seed l n).length = 16 := by
 cases l <;> exact ofDig_len _ _
def messageD (p : List UInt8) (i : Int) (m : List UInt8) : List UInt8 := ofDig 6 [p, enc i, m]
def digAt (d : List UInt8) (j : Nat) : Nat := ((digitsD d)[j]?).getD 0
theorem digAt_le (d : List UInt8) (j : Nat) : digAt d j ≤ 15 := by
 unfold digAt
 cases h : (digitsD d)[j]? with
 | none => simp
 | some x => exact digitsD_le d x (List.mem_of_getElem? h)
def restD (seed : List UInt8) (h i : Nat) (d : List UInt8) : List UInt8 :=
 ((List.range 35).map fun j => chainD seed i (digAt d j) j).flatten ++ ((List.range h).map fun l => valueD seed l ((i / 2 ^ l) ^^^ 1)).flatten
def signD (seed : List UInt8) (h i : Nat) (m : List UInt8) : List UInt8 := enc i ++ restD seed h i (messageD (valueD seed h 0) i m)
def part (r : List UInt8) (k : Nat) : List UInt8 := (r.drop (16 * k)).take 16
def upD (h i : Nat) (r : List UInt8) (v : List UInt8) : Nat → List UInt8
 | 0 => v
 | l + 1 => if i / 2 ^ l % 2 = 1 then joinD ((l + 1 : Nat) : Int) ((i / 2 ^ (l + 1) : Nat) : Int) (part r (35 + l)) (upD h i r v l) else joinD ((l + 1 : Nat) : Int) ((i / 2 ^ (l + 1) : Nat) : Int) (upD h i r v l) (part r (35 + l))
def rootD (h i : Nat) (d r : List UInt8) : List UInt8 := upD h i r (leafD ((List.range 35).map fun (j : Nat) => climbD i j (digAt d j) (part r j) (15 - digAt d j))) h
theorem chainD_len (seed : List UInt8) (i n j : Nat) : (chainD seed i n j).length = 16 := by
 unfold chainD
 refine climbD_len _ _ _ ?_ _
 unfold startD
 rw [List.length_take, show (mac seed (encI [(i : Int), (j : Int)])).length = 32 from sha_len _]
 rfl
theorem flat16_len : ∀ {vs : List (List UInt8)}, (∀ v ∈ vs, v.length = 16) → vs.flatten.length = 16 * vs.length
 | [], _ => rfl
 | v :: vs, h => by
  rw [List.flatten_cons, List.length_append, h v (by simp), flat16_len (fun u hu => h u (List.mem_cons_of_mem _ hu)), List.length_cons]
  omega
theorem restD_len (seed : List UInt8) (h i : Nat) (d : List UInt8) : (restD seed h i d).length = 16 * (35 + h) := by
 unfold restD
 rw [List.length_append, flat16_len, flat16_len]
 ·simp; omega
 ·intro v hv; obtain ⟨l, _, rfl⟩ := List.mem_map.1 hv; exact valueD_len _ _ _
 ·intro v hv; obtain ⟨l, _, rfl⟩ := List.mem_map.1 hv; exact chainD_len _ _ _ _
theorem xor_one (n : Nat) : n ^^^ 1 = if n % 2 = 1 then n - 1 else n + 1 := by
 have h1 : n ^^^ 1 = 2 * (n / 2) + (1 - n % 2) := by
  apply Nat.eq_of_testBit_eq
  intro k
  rw [Nat.testBit_xor]
  cases k with
  | zero =>
   simp [Nat.testBit_zero]
   rcases Nat.mod_two_eq_zero_or_one n with h | h <;> simp [h] <;> omega
  | succ k =>
   rw [Nat.testBit_succ, Nat.testBit_succ, Nat.testBit_succ]
   have e1 : (2 * (n / 2) + (1 - n % 2)) / 2 = n / 2 := by omega
   rw [e1]
   simp
 rw [h1]
 split <;> omega
def verifyD (p : List UInt8) (h : Int) (m sig : List UInt8) : Int × Int :=
 if countD h = 0 then (0, 1) else
 if (dec sig).2.2 ≠ 0 then (0, (dec sig).2.2) else
 if sizeD h (dec sig).1 = 0 then (0, 8) else
 if sig.length < sizeD h (dec sig).1 then (0, 5) else
 if sizeD h (dec sig).1 < sig.length then (0, 6) else
 if rootD h.toNat (dec sig).1.toNat (messageD p (dec sig).1 m) (sig.drop (dec sig).2.1.toNat) = p then ((dec sig).1, 0) else (0, 8)
def publicD (seed : List UInt8) (h : Int) : List UInt8 × Int := if countD h = 0 then (List.replicate 16 0, 1) else (valueD seed h.toNat 0, 0)
def makeD (seed : List UInt8) (h i : Int) (m : List UInt8) : List UInt8 × Int :=
 if countD h = 0 then ([], 1) else if i < 0 ∨ (countD h : Int) ≤ i then ([], 23) else (signD seed h.toNat i.toNat m, 0)
theorem countD_of {h : Nat} (hh : h ≤ 6) : countD h = 2 ^ h := by
 unfold countD
 rw [if_neg (by omega), Int.toNat_natCast]
theorem two_pow_pos (h : Nat) : 0 < 2 ^ h := Nat.pow_pos (by omega)
theorem two_pow_le {h : Nat} (hh : h ≤ 6) : 2 ^ h ≤ 64 := Nat.le_trans (Nat.pow_le_pow_right (by omega) hh) (by decide)
theorem sizeD_of {h i : Nat} (hh : h ≤ 6) (hi : i < 2 ^ h) : sizeD h i = (enc i).length + 16 * (35 + h) := by
 unfold sizeD
 rw [countD_of hh, if_neg (by omega), Int.toNat_natCast]
theorem signD_len (seed : List UInt8) {h i : Nat} (m : List UInt8) (hh : h ≤ 6) (hi : i < 2 ^ h) : (signD seed h i m).length = sizeD h i := by
 unfold signD
 rw [List.length_append, restD_len, sizeD_of hh hi]
end Go.Proofs.YtgjgjimgomhbmaaGreatDoor
namespace Go.Proofs.YtgjgjimgomhbmaaGreatDoor
open Go.RowKit
def ivs (l : List Nat) : List Value := l.map fun x : Nat => Value.int .i64 (x : Int)
theorem ivs_len (l : List Nat) : (ivs l).length = l.length := by simp [ivs]
theorem ivs_append (l m : List Nat) : ivs (l ++ m) = ivs l ++ ivs m := by simp [ivs]
theorem ivs_one (l : List Nat) : ∀ u ∈ ivs l, u.oneCell' = true := by
 intro u hu
 obtain ⟨x, _, rfl⟩ := List.mem_map.1 hu
 rfl
def zerosI (n : Nat) : List Value := List.replicate n (.int .i64 0)
theorem zerosI_len (n : Nat) : (zerosI n).length = n := by simp [zerosI]
theorem set_at (p q : List Value) (x y : Value) : (p ++ x :: q).set p.length y = p ++ y :: q := by
 induction p with
 | nil => rfl
 | cons a p ih => simp [ih]
def dgCells (d : List UInt8) (i : Nat) : List Value := ivs (digs (d.take i)) ++ zerosI (35 - 2 * i)
theorem dgCells_len (d : List UInt8) {i : Nat} (h : i ≤ d.length) (h2 : i ≤ 16) : (dgCells d i).length = 35 := by
 unfold dgCells
 rw [List.length_append, ivs_len, digs_len, List.length_take, zerosI_len]
 omega
theorem digs_next {d : List UInt8} {i : Nat} {b : UInt8} (h : d[i]? = some b) : digs (d.take (i + 1)) = digs (d.take i) ++ [b.toNat / 16, b.toNat % 16] := by
 rw [List.take_add_one, h]
 unfold digs
 rw [List.flatMap_append]
 rfl
theorem dgCells_next {d : List UInt8} {i : Nat} {b : UInt8} (h : d[i]? = some b) (hi : i < 16) :
 ((dgCells d i).set (2 * i) (.int .i64 ((b.toNat / 16 : Nat) : Int))).set (2 * i + 1) (.int .i64 ((b.toNat % 16 : Nat) : Int)) = dgCells d (i + 1) := by
 have hlt := (List.getElem?_eq_some_iff.1 h).1
 have hl : (ivs (digs (d.take i))).length = 2 * i := by rw [ivs_len, digs_len, List.length_take]; omega
 unfold dgCells
 rw [digs_next h, ivs_append]
 have hz : zerosI (35 - 2 * i) = .int .i64 0 :: .int .i64 0 :: zerosI (35 - 2 * (i + 1)) := by
  unfold zerosI
  rw [show 35 - 2 * i = (35 - 2 * (i + 1)) + 1 + 1 by omega, List.replicate_succ, List.replicate_succ]
 rw [hz]
 have e1 := set_at (ivs (digs (d.take i))) (.int .i64 0 :: zerosI (35 - 2 * (i + 1))) (.int .i64 0) (.int .i64 ((b.toNat / 16 : Nat) : Int))
 rw [hl] at e1
 rw [e1]
 have e2 := set_at (ivs (digs (d.take i)) ++ [.int .i64 ((b.toNat / 16 : Nat) : Int)]) (zerosI (35 - 2 * (i + 1))) (.int .i64 0) (.int .i64 ((b.toNat % 16 : Nat) : Int))
 rw [List.length_append, hl, List.append_assoc, List.append_assoc] at e2
 refine Eq.trans e2 ?_
 rw [List.append_assoc]
 rfl
theorem dgCells_at (d : List UInt8) (i k : Nat) (h : i ≤ d.length) (h1 : 2 * i ≤ k) (h2 : k < 35) : (dgCells d i)[k]? = some (.int .i64 0) := by
 have hl : (ivs (digs (d.take i))).length = 2 * i := by rw [ivs_len, digs_len, List.length_take]; omega
 unfold dgCells
 rw [List.getElem?_append_right (by omega), hl]
 unfold zerosI
 rw [List.getElem?_replicate, if_pos (by omega)]
def dgSum (d : List UInt8) (i : Nat) : Nat := 30 * i - (digs (d.take i)).sum
theorem dgSum_le (d : List UInt8) (i : Nat) (h : i ≤ 16) : dgSum d i ≤ 480 := by unfold dgSum; omega
theorem dgSum_next {d : List UInt8} {i : Nat} {b : UInt8} (h : d[i]? = some b) : dgSum d (i + 1) = dgSum d i + 30 - b.toNat / 16 - b.toNat % 16 := by
 have hlt := (List.getElem?_eq_some_iff.1 h).1
 have h1 := digs_sum (d.take i)
 have h2 := nib_le b
 rw [List.length_take] at h1
 unfold dgSum
 rw [digs_next h, List.sum_append]
 simp only [List.sum_cons, List.sum_nil]
 omega
theorem dgSum_all {d : List UInt8} (h : d.length = 16) : dgSum d 16 = chk d := by
 unfold dgSum chk
 rw [List.take_of_length_le (by omega), h]
theorem dgCells_all {d : List UInt8} (h : d.length = 16) : (((dgCells d 16).set 34 (.int .i64 ((chk d % 16 : Nat) : Int))).set 33 (.int .i64 ((chk d / 16 % 16 : Nat) : Int))).set 32 (.int .i64 ((chk d / 256 % 16 : Nat) : Int)) = ivs (digitsD d) := by
 have hl : (ivs (digs d)).length = 32 := by rw [ivs_len, digs_len]; omega
 unfold dgCells
 rw [List.take_of_length_le (by omega)]
 unfold digitsD
 rw [ivs_append]
 generalize ivs (digs d) = p at *
 rw [List.set_append_right _ _ (by omega), List.set_append_right _ _ (by omega), List.set_append_right _ _ (by omega), hl]
 rfl
theorem Tryz.sl_intSg : SlTy Tryz.prog 22 3 (.int .i64 0) 1 8 := ⟨by kernel_rfl, by kernel_rfl, rfl, by decide⟩
theorem Tryz.sl_strSg : SlTy Tryz.prog 95 9 (.string ⟨#[]⟩) 1 16 := ⟨by kernel_rfl, by kernel_rfl, rfl, by decide⟩
theorem encI_leSg (l : List Int) : (encI l).length ≤ 10 * (l.length + 1) := by
 unfold encI
 rw [List.length_append]
 have h1 := enc_len l.length
 have h2 : ((l.map enc).flatten).length ≤ 10 * l.length := by
  induction l with
  | nil => simp
  | cons x l ih =>
   have := enc_len x
   have h3 := enc_len (l.length : Int)
   have := ih h3
   simp only [List.map_cons, List.flatten_cons, List.length_append, List.length_cons]
   omega
 omega
theorem input_leSg (tag : Int) (l : List (List UInt8)) (b : Nat) (h : ∀ x ∈ l, x.length ≤ b) : (inputOf tag l).length ≤ 1 + l.length * (10 + b) := by
 unfold inputOf
 rw [List.length_cons]
 have : (partsOf l).length ≤ l.length * (10 + b) := by
  induction l with
  | nil => simp [partsOf]
  | cons x l ih =>
   have h1 := h x (by simp)
   have h2 := ih fun y hy => h y (List.mem_cons_of_mem _ hy)
   have h3 := enc_len x.length
   unfold partsOf at *
   simp only [List.map_cons, List.flatten_cons, List.length_append, List.length_cons, Nat.add_mul, Nat.one_mul]
   unfold encS at *
   rw [List.length_append]
   omega
 omega
theorem input2_le (tag : Int) (x y : List UInt8) (hx : x.length ≤ 1000) (hy : y.length ≤ 1000) : (inputOf tag [x, y]).length ≤ 1000000000 := by
 have := input_leSg tag [x, y] 1000 (by intro z hz; simp at hz; rcases hz with rfl | rfl <;> assumption)
 simp at this
 omega
theorem input3_le (tag : Int) (x y z : List UInt8) (hx : x.length ≤ 1000) (hy : y.length ≤ 1000) (hz : z.length ≤ 100000000) : (inputOf tag [x, y, z]).length ≤ 1000000000 := by
 have := input_leSg tag [x, y, z] 100000000 (by intro u hu; simp at hu; rcases hu with rfl | rfl | rfl <;> omega)
 simp at this
 omega
theorem iv_cells (l : List Int) : ∀ v ∈ l.map iv, v.cells = #[v] := by
 intro v hv
 obtain ⟨x, _, rfl⟩ := List.mem_map.1 hv
 rfl
theorem sv_cells (l : List (List UInt8)) : ∀ v ∈ l.map sv, v.cells = #[v] := by
 intro v hv
 obtain ⟨x, _, rfl⟩ := List.mem_map.1 hv
 rfl
theorem sgText_any (l : List UInt8) (w : World) (hl : l.length = 16) : Calls Tryz.prog 110 #[.agg (bcs l).toArray] w fun e w' => e = .returned (sv l) ∧ Below w.heap.size w w' := by
 have hbl : (bcs l).length = 16 := by rw [bcs_length]; exact hl
 have HL := Lib.hid hbl
 clear hbl
 go_enter Tryz.func110, Tryz.ntmps110
 go_wp2_with (with_reducible refine bxArr (cs := bcs l) (.tmp 0) (wn rfl) rfl rfl ?_)
 intro w1 h1 hb
 have hrd : Rd w1 (w.heap.size + 1) 1 (some ⟨w.heap.size, 0, none⟩) 16 16 (bcs l) := by
  refine ⟨by rw [HL.out], Nat.le_refl _, by decide, fun _ => ⟨w.heap.size, 0, rfl, by omega, fun j u hu => ?_⟩⟩
  rw [Nat.zero_add]
  exact h1.cell hu
 clear h1
 go_wp2_with (first | (with_reducible refine slPtr (.tmp 1) Tryz.arr_b16 Tryz.one_u8 (by omega) (wn rfl) rfl rfl ?_) | (with_reducible refine convStr (.tmp 3) l Tryz.sl_u8.und Tryz.und_u8 Tryz.und_str (wn rfl) rfl rfl hrd ?_))
 go_ret
 exact ⟨rfl, hb⟩
theorem sgDigest_any (l : List UInt8) (w : World) (hl : 16 ≤ l.length) : Calls Tryz.prog 83 #[sv l] w fun e w' => e = .returned (.agg (bcs (l.take 16)).toArray) ∧ Below w.heap.size w w' := by
 have hbl : (bcs (l.take 16)).length = 16 := by rw [bcs_length, List.length_take]; omega
 have hspl : spl (zerosB 16) 0 (bcs (l.take 16)) = bcs (l.take 16) := by
  have := spl_head (zerosB 16) [] (bcs (l.take 16)) (by rw [hbl, zerosB_len])
  rwa [List.append_nil, List.append_nil] at this
 have HL := Lib.hid hbl
 have HS := Lib.hid hspl
 clear hbl hspl
 unfold sv
 go_enter Tryz.func83, Tryz.ntmps83
 go_wp2_with (with_reducible refine alArr (z := zerosB 16) Tryz.ag_b16 (wn rfl) rfl ?_)
 intro w1 h1 hb
 have hg : w.heap.size ≤ w.heap.size := Nat.le_refl _
 go_wp2_with (first | (with_reducible refine slPtr (.tmp 2) Tryz.arr_b16 Tryz.one_u8 (by omega) (wn rfl) rfl rfl ?_) | (with_reducible refine cpStr (.tmp 3) (.tmp 4) l Tryz.sl_u8.und Tryz.one_u8 (wn rfl) rfl rfl rfl h1 (by rw [zerosB_len]; omega) ?_))
 intro w2 h2 _ hbel
 rw [HS.out] at h2
 replace hb := hb.trans (hbel _ hg)
 clear hbel h1
 go_wp2_with (first | (with_reducible refine ldArr (.tmp 2) Tryz.ag_b16 (wn rfl) rfl rfl HL.out h2 ?_) | (with_reducible refine stArr (cs := bcs (l.take 16)) (.tmp 2) (.tmp 6) Tryz.ag_b16 (wn rfl) rfl rfl rfl h2 HL.out HL.out (bcs_one _) ?_))
 intro w3 h3 _ hbel
 go_wp2_with fail
 refine bodyPost_ret (v := .agg (bcs (l.take 16)).toArray) ?_ rfl ⟨rfl, hb.trans (hbel _ hg)⟩
 exact res_cell1 _ Tryz.results83 Tryz.ag_b16 _ rfl HL.out (fun j u hu => by rw [Nat.zero_add]; exact h3.cell hu)
theorem count_any (h : Int) (w : World) : Calls Tryz.prog 64 #[.int .i64 h] w fun e w' => e = .returned (.int .i64 (countD h : Int)) ∧ Below w.heap.size w w' := by
 by_cases h1 : h < 0
 ·have hc : countD h = 0 := by unfold countD; rw [if_pos (Or.inl h1)]
  have HC := Lib.hid hc
  clear hc
  have e1 : decide (h < 0) = true := decide_eq_true h1
  go_enter Tryz.func64, Tryz.ntmps64
  go_wp2_with fail
  go_ret
  rw [HC.out]
  exact ⟨rfl, Below.refl _ _⟩
 ·by_cases h2 : 6 < h
  ·have hc : countD h = 0 := by unfold countD; rw [if_pos (Or.inr h2)]
   have HC := Lib.hid hc
   clear hc
   go_enter Tryz.func64, Tryz.ntmps64
   go_wp2_with fail
   go_ret
   rw [HC.out]
   exact ⟨rfl, Below.refl _ _⟩
  ·obtain ⟨k, rfl⟩ : ∃ k : Nat, h = (k : Int) := ⟨h.toNat, by omega⟩
   have hk : k ≤ 6 := by omega
   have hc : countD (k : Int) = 2 ^ k := by unfold countD; rw [if_neg (by omega), Int.toNat_natCast]
   rw [hc]
   clear hc
   go_enter Tryz.func64, Tryz.ntmps64
   rcases (by omega : k = 0 ∨ k = 1 ∨ k = 2 ∨ k = 3 ∨ k = 4 ∨ k = 5 ∨ k = 6) with rfl | rfl | rfl | rfl | rfl | rfl | rfl
   all_goals
    go_wp2_with fail
    go_ret
    exact ⟨rfl, Below.refl _ _⟩
theorem ixArrSg {P : Program} {w : World} {ops : Array Oper} {rest : List Oper} {o : Oper} {a : Act} {Q : Exit → Act → World → Prop} {t e : TypeId} {n : Nat} {k2 : IntKind} {cs : List Value} {kk : IntKind} {K : Int} (x y : Operand) (i : Nat) (v : Value)
 (hu : P.underlying t = some (.array n e)) (hue : P.underlying e = some (.int k2)) (he : (P.info? e).map (·.size) = some 1) (hgd : Region.wanted o (yielded ops a.tmps) = true)
 (ho : o.op = .index t x y) (hx : a.eval x = .agg cs.toArray) (hy : a.eval y = .int kk K) (hK : K = (i : Int)) (hv : cs[i]? = some v) (hl : cs.length = n)
 (h : wpList P ops Q rest (a.put o.dst v) w) : wpList P ops Q (o :: rest) a w := by
 subst hK
 obtain ⟨j, hj, hs⟩ := Option.map_eq_some_iff.1 he
 have hlt : i < n := by rw [← hl]; exact (List.getElem?_eq_some_iff.1 hv).1
 refine opVal (v := v) hgd ?_ h
 unfold execOp
 have hp : (Go.part e cs.toArray i).run P w = .ok v w := by
  unfold Go.part
  have ha : (isAgg e).run P w = .ok false w := by
   unfold isAgg
   rw [Sem.run_bind, run_underlying hue w]
   rfl
  simp [ha, hv]
 simp [ho, hx, hy, Instr.index, asIntOf, run_underlying hu, sizeOf, typeInfo, hj, hs, hlt, hp]
theorem Tryz.arr_i35 : Tryz.prog.underlying 99 = some (.array 35 3) := by kernel_rfl
theorem Tryz.ag_i35 : AgTy Tryz.prog 99 (zerosI 35).toArray 35 := ⟨by kernel_rfl, by kernel_rfl, by simp [zerosI]⟩
theorem bcs_get {l : List UInt8} {i : Nat} {b : UInt8} (h : l[i]? = some b) : (bcs l)[i]? = some (.int .u8 (b.toNat : Int)) := by
 unfold bcs
 rw [List.getElem?_map, h]
 rfl
theorem dgCells_old {d : List UInt8} {i : Nat} {b : UInt8} (h : d[i]? = some b) (_hi : i < 16) :
 (dgCells d (i + 1))[2 * i]? = some (.int .i64 ((b.toNat / 16 : Nat) : Int)) ∧ (dgCells d (i + 1))[2 * i + 1]? = some (.int .i64 ((b.toNat % 16 : Nat) : Int)) := by
 have hlt := (List.getElem?_eq_some_iff.1 h).1
 have hl : (ivs (digs (d.take i))).length = 2 * i := by rw [ivs_len, digs_len, List.length_take]; omega
 unfold dgCells
 rw [digs_next h, ivs_append]
 refine ⟨?_, ?_⟩
 ·rw [List.append_assoc, List.getElem?_append_right (by omega), hl, Nat.sub_self]
  rfl
 ·rw [List.append_assoc, List.getElem?_append_right (by omega), hl, show 2 * i + 1 - 2 * i = 1 by omega]
  rfl
theorem dgSum_room {d : List UInt8} {i : Nat} {b : UInt8} (_h : d[i]? = some b) (_hi : i < 16) : dgSum d i + 30 ≥ b.toNat / 16 + b.toNat % 16 := by
 have := nib_le b
 omega
theorem below_drewN' {B : Nat} {w w' : World} (h : Below B w w') (n : Nat) : Below B w (w'.drewN n) := ⟨h.os, h.tape, h.output, h.size, h.block⟩
def dgTail (d : List UInt8) : Nat → List Value
 | 0 => dgCells d 16
 | j + 1 => (dgTail d j).set (34 - j) (.int .i64 ((chk d / 16 ^ j % 16 : Nat) : Int))
theorem dgTail_len {d : List UInt8} (h : d.length = 16) : ∀ j, (dgTail d j).length = 35
 | 0 => dgCells_len d (by omega) (by omega)
 | j + 1 => by unfold dgTail; rw [List.length_set, dgTail_len h j]
theorem digits_any (d : List UInt8) (w : World) (hd : d.length = 16) : Calls Tryz.prog 67 #[.agg (bcs d).toArray] w fun e w' => e = .returned (.agg (ivs (digitsD d)).toArray) ∧ Below w.heap.size w w' := by
 have HB := Lib.hid (show (bcs d).length = 16 by rw [bcs_length]; exact hd)
 have hg : w.heap.size ≤ w.heap.size := Nat.le_refl _
 go_enter Tryz.func67, Tryz.ntmps67
 go_wp2_with (with_reducible refine bxArr (cs := bcs d) (.tmp 0) (wn rfl) rfl rfl ?_)
 intro w1 h1 hb
 have n1 := h1.lt
 go_wp2_with (with_reducible refine alArr (z := zerosI 35) Tryz.ag_i35 (wn rfl) rfl ?_)
 intro w2 h2 hb2
 have e12 : w.heap.size < w1.heap.size := n1
 replace h1 := h1.below hb2 n1
 replace hb := hb.trans (hb2.mono hb.size)
 clear hb2 n1
 generalize w1.heap.size = g2 at *
 have n2 := h2.lt
 go_wp2_with (with_reducible refine alArr (z := zerosI 35) Tryz.ag_i35 (wn rfl) rfl ?_)
 intro w3 h3 hb3
 replace h1 := h1.below hb3 h1.lt
 replace h2 := h2.below hb3 h2.lt
 replace hb := hb.trans (hb3.mono hb.size)
 clear hb3
 generalize w2.heap.size = g3 at *
 have h3' : Arr w3 g3 99 (dgCells d 0) := h3
 clear h3
 go_wp2_with (with_reducible refine ldArr (.tmp 1) Tryz.ag_b16 (wn rfl) rfl rfl HB.out h1 ?_)
 go_loopw [4, 9] (fun v4 v9 wr => ∃ i : Nat, i ≤ 16 ∧ v9 = .int .i64 i ∧ v4 = .int .i64 ((dgSum d i : Nat) : Int) ∧ Arr wr g3 99 (dgCells d i) ∧ Arr wr g2 99 (zerosI 35) ∧ Below w.heap.size w wr) (fun _ v9 _ => 16 - (intOf v9).toNat)
 case atStart => exact ⟨0, by omega, rfl, rfl, h3', h2, hb⟩
 case round =>
  clear h3' h2 h1 hb
  obtain ⟨i, hi, rfl, rfl, h3, h2, hb⟩ := hrel
  by_cases hlt : i < 16
  ·obtain ⟨b, hbi⟩ : ∃ b, d[i]? = some b := ⟨_, List.getElem?_eq_getElem (show i < d.length by omega)⟩
   have hbc := bcs_get hbi
   have hn := dgCells_next hbi hlt
   have hsn := dgSum_next hbi
   have hdl := dgSum_room hbi hlt
   have hs := dgSum_le d i (by omega)
   have c0 := h3.cell (dgCells_at d i (2 * i) (by omega) (by omega) (by omega))
   have c1 := h3.cell (dgCells_at d i (2 * i + 1) (by omega) (by omega) (by omega))
   have f0 := h3.thaw (2 * i)
   have f1 := h3.thaw (2 * i + 1)
   have hbn := b.toNat_lt
   have HN := Lib.hid hn
   have HSN := Lib.hid hsn
   have HBC := Lib.hid hbc
   have HBC' := Lib.hid hbi
   clear hn hsn hbi hbc
   go_wp2_with (with_reducible refine ixArrSg (.tmp 8) (.tmp 9) i (.int .u8 (b.toNat : Int)) Tryz.arr_b16 Tryz.und_u8 Tryz.one_u8 (wn rfl) rfl rfl rfl rfl HBC.out HB.out ?_)
   have h3n := (h3.set (2 * i) (.int .i64 ((b.toNat / 16 : Nat) : Int))).set (2 * i + 1) (.int .i64 ((b.toNat % 16 : Nat) : Int))
   rw [HN.out] at h3n
   have h2n := (h2.other (b' := g3) (by omega) (2 * i) (.int .i64 ((b.toNat / 16 : Nat) : Int))).other (b' := g3) (by omega) (2 * i + 1) (.int .i64 ((b.toNat % 16 : Nat) : Int))
   have hbn2 := (hb.setCell (p := ⟨g3, 2 * i, none⟩) (by show w.heap.size ≤ g3; omega) (.int .i64 ((b.toNat / 16 : Nat) : Int))).setCell (p := ⟨g3, 2 * i + 1, none⟩) (by show w.heap.size ≤ g3; omega) (.int .i64 ((b.toNat % 16 : Nat) : Int))
   have d0 := h3n.cell (dgCells_old (i := i) HBC'.out hlt).1
   have d1 := h3n.cell (dgCells_old (i := i) HBC'.out hlt).2
   simp only [Int.natCast_ediv, Int.natCast_emod, Int.cast_ofNat_Int] at h3n h2n hbn2 d0 d1
   clear c0 c1 f0 f1 h3 h2 hb
   generalize (wr.setCell ⟨g3, 2 * i, none⟩ (.int .i64 ((b.toNat : Int) / 16))).setCell ⟨g3, 2 * i + 1, none⟩ (.int .i64 ((b.toNat : Int) % 16)) = w6 at *
   have hx : 0 ≤ (b.toNat : Int) / 16 ∧ (b.toNat : Int) / 16 ≤ 15 := by omega
   have hy : 0 ≤ (b.toNat : Int) % 16 ∧ (b.toNat : Int) % 16 ≤ 15 := by omega
   obtain ⟨hx0, hx1⟩ := hx
   obtain ⟨hy0, hy1⟩ := hy
   generalize hX : (b.toNat : Int) / 16 = X at *
   generalize hY : (b.toNat : Int) % 16 = Y at *
   have HX := Lib.hid hX
   have HY := Lib.hid hY
   clear hX hY
   have k0 : (0 : Int) ≤ 2 * (i : Int) := by omega
   have k1 : 2 * (i : Int) < 35 := by omega
   have k2 : (0 : Int) ≤ 2 * (i : Int) + 1 := by omega
   have k3 : 2 * (i : Int) + 1 < 35 := by omega
   have t0 : (2 * (i : Int)).toNat = 2 * i := by omega
   have t1 : (2 * (i : Int) + 1).toNat = 2 * i + 1 := by omega
   go_quiet (fail)
   go_wp2
   go_roundw
   case rel =>
    have hsn := HSN.out
    have h1 := HX.out
    have h2' := HY.out
    have hdn := hdl
    refine ⟨i + 1, by omega, by go_num, ?_, h3n.drewN nq, h2n.drewN nq, Go.Proofs.YtgjgjimgomhbmaaGreatDoor.below_drewN' hbn2 nq⟩
    congr 1
    omega
   case measure => simp [intOf]; omega
  ·obtain rfl : i = 16 := by omega
   have hall := dgSum_all hd
   have hcells := dgCells_all hd
   have hs := dgSum_le d 16 (by omega)
   rw [hall] at hs
   have h3' : Arr wr g3 99 (dgTail d 0) := h3
   have HA := Lib.hid hall
   have HC := Lib.hid hcells
   clear hall hcells h3
   go_wp2
   rw [HA.out]
   go_loopw [4, 40] (fun v4 v40 wr => ∃ j : Nat, j ≤ 3 ∧ v40 = .int .i64 j ∧ v4 = .int .i64 ((chk d / 16 ^ j : Nat) : Int) ∧ Arr wr g3 99 (dgTail d j) ∧ Arr wr g2 99 (zerosI 35) ∧ Below w.heap.size w wr) (fun _ v40 _ => 3 - (intOf v40).toNat)
   case atStart => exact ⟨0, by omega, rfl, by simp, h3', h2, hb⟩
   case round =>
    clear h3' h2 hb
    obtain ⟨j, hj, rfl, rfl, h3, h2, hb⟩ := hrel
    have hc480 : chk d / 16 ^ j ≤ 480 := Nat.le_trans (Nat.div_le_self _ _) hs
    by_cases hlt : j < 3
    ·obtain ⟨u, hu⟩ : ∃ u, (dgTail d j)[34 - j]? = some u := ⟨_, List.getElem?_eq_getElem (show 34 - j < (dgTail d j).length by rw [dgTail_len hd]; omega)⟩
     have hnx : (dgTail d j).set (34 - j) (.int .i64 ((chk d / 16 ^ j % 16 : Nat) : Int)) = dgTail d (j + 1) := rfl
     have hdv : chk d / 16 ^ j / 16 = chk d / 16 ^ (j + 1) := by rw [Nat.div_div_eq_div_mul, Nat.pow_succ]
     have HNX := Lib.hid hnx
     have HDV := Lib.hid hdv
     have c0 := h3.cell hu
     have f0 := h3.thaw (34 - j)
     clear hnx hdv hu
     generalize chk d / 16 ^ j = q at *
     have k0 : (0 : Int) ≤ 34 - (j : Int) := by omega
     have t0 : (34 - (j : Int)).toNat = 34 - j := by omega
     go_wp2
     have h3n := h3.set (34 - j) (.int .i64 ((q % 16 : Nat) : Int))
     rw [HNX.out] at h3n
     have h2n := h2.other (b' := g3) (by omega) (34 - j) (.int .i64 ((q % 16 : Nat) : Int))
     have hbn2 := hb.setCell (p := ⟨g3, 34 - j, none⟩) (by show w.heap.size ≤ g3; omega) (.int .i64 ((q % 16 : Nat) : Int))
     simp only [Int.natCast_emod, Int.cast_ofNat_Int] at h3n h2n hbn2
     go_roundw
     case rel => exact ⟨j + 1, by omega, by go_num, by rw [← HDV.out]; go_num, h3n, h2n, hbn2⟩
     case measure => simp [intOf]; omega
    ·obtain rfl : j = 3 := by omega
     rw [show dgTail d 3 = ivs (digitsD d) from by have := HC.out; simpa [dgTail] using this] at h3
     have hl35 : (ivs (digitsD d)).length = 35 := by rw [ivs_len]; exact digitsD_len hd
     have HL := Lib.hid hl35
     clear hl35
     go_wp2_with (first | (with_reducible refine ldArr (.tmp 3) Tryz.ag_i35 (wn rfl) rfl rfl HL.out h3 ?_) | (with_reducible refine stArr (cs := ivs (digitsD d)) (.tmp 2) (.tmp 51) Tryz.ag_i35 (wn rfl) rfl rfl rfl h2 (zerosI_len _) HL.out (ivs_one _) ?_))
     intro w9 h9 _ hbel
     go_wp2_with fail
     refine bodyPost_ret (v := .agg (ivs (digitsD d)).toArray) ?_ rfl ⟨rfl, hb.trans (hbel _ (by omega))⟩
     exact res_cell1 _ Tryz.results67 Tryz.ag_i35 _ rfl HL.out (fun j u hu => by rw [Nat.zero_add]; exact h9.cell hu)
def GClimb (i j K : Int) (D : List UInt8) (ix_ : Nat) (v : Value) (w : World) : Prop :=
 match ix_ with
 | 3 => Reads 3 (([i, j, K]).map iv) v w
 | 4 => Reads (encI [i, j, K]).length (bcs (encI [i, j, K])) v w
 | 5 => v = sv (encI [i, j, K])
 | 6 => v = .agg (bcs D).toArray
 | 7 => v = sv D
 | 8 => Reads 2 (([encI [i, j, K], D]).map sv) v w
 | 9 => v = .agg (bcs (ofDig 4 [encI [i, j, K], D])).toArray
 | _ => True
theorem climb_any (i j : Int) (d : List UInt8) (a n : Nat) (w : World) (ht : Tabs w) (hi : isI64 i) (hj : isI64 j) (hd : d.length = 16) (han : a + n ≤ 1000) :
 Calls Tryz.prog 69 #[.int .i64 i, .int .i64 j, .agg (bcs d).toArray, .int .i64 (a : Int), .int .i64 ((a + n : Nat) : Int)] w fun e w' => e = .returned (.agg (bcs (climbD i j a d n)).toArray) ∧ Below w.heap.size w w' := by
 have hbd : (bcs d).length = 16 := by rw [bcs_length]; exact hd
 have HB := Lib.hid hbd
 clear hbd
 have hg : w.heap.size ≤ w.heap.size := Nat.le_refl _
 go_enter Tryz.func69, Tryz.ntmps69
 go_wp2_with (with_reducible refine bxArr (cs := bcs d) (.tmp 2) (wn rfl) rfl rfl ?_)
 intro w1 h7 hb
 have h7l := h7.lt
 go_wp2_with (with_reducible refine alArr (z := zerosB 16) Tryz.ag_b16 (wn rfl) rfl ?_)
 intro w2 h10 hb2
 have hne : w.heap.size ≠ w1.heap.size := by omega
 replace h7 := h7.below hb2 h7l
 replace hb := hb.trans (hb2.mono hb.size)
 clear hb2
 have hg10 : w.heap.size ≤ w1.heap.size := by omega
 clear h7l
 generalize w1.heap.size = g10 at *
 have h7' : Arr w2 w.heap.size 27 (bcs (climbD i j a d 0)) := h7
 clear h7
 go_wp2_with fail
 go_loopw [11] (fun k_ wr => ∃ (m : Nat) (K : Int), m ≤ n ∧ k_ = .int .i64 K ∧ K = ((a + m + 1 : Nat) : Int) ∧ Arr wr w.heap.size 27 (bcs (climbD i j a d m)) ∧ Arr wr g10 27 (zerosB 16) ∧ Below w.heap.size w wr) (fun k_ _ => a + n + 1 - (intOf k_).toNat)
 case atStart => exact ⟨0, _, by omega, rfl, by omega, h7', h10, hb⟩
 case round =>
  clear h7' h10 hb
  obtain ⟨m, K, hm, rfl, hK, h7, h10, hb⟩ := hrel
  by_cases hlt : m < n
  ·have hnx : ofDig 4 [encI [i, j, K], climbD i j a d m] = climbD i j a d (m + 1) := by rw [hK]; rfl
   have HNX := Lib.hid hnx
   have hD16 := climbD_len i j a hd m
   clear hnx
   generalize climbD i j a d m = D at *
   have HD := Lib.hid hD16
   have HDB := Lib.hid (show (bcs D).length = 16 by rw [bcs_length]; exact hD16)
   have h64 : ∀ x ∈ [i, j, K], isI64 x := by
    intro x hx
    simp only [List.mem_cons, List.not_mem_nil, or_false] at hx
    rcases hx with rfl | rfl | rfl
    ·exact hi
    ·exact hj
    ·unfold isI64; omega
   have hlen : (encI [i, j, K]).length ≤ 70368744177664 := Nat.le_trans (encI_leSg _) (by simp)
   have hin : (inputOf 4 [encI [i, j, K], D]).length ≤ 1000000000 := input2_le 4 _ _ (Nat.le_trans (encI_leSg _) (by simp)) (by omega)
   go_wp2_with fail
   refine aStart kr_ ?_
   replace h7 := h7.drew
   replace h10 := h10.drew
   replace hb := hb.drew
   generalize wr.drew = wd at *
   refine aTake (i := 0) (v := .int .i64 i) rfl kr_ (wn rfl) (fun _ _ _ h => h) (fun w => by kernel_rfl) ?_
   refine aTake (i := 1) (v := .int .i64 j) rfl kr_ (wn rfl) (fun _ _ _ h => h) (fun w => by kernel_rfl) ?_
   refine aTake (i := 2) (v := .int .i64 K) rfl kr_ (wn rfl) (fun _ _ _ h => h) (fun w => by kernel_rfl) ?_
   refine rgFloat [(3, 22), (4, 23), (5, 24), (6, 25), (7, 26), (8, 27), (9, 28)] (GClimb i j K D) _ 1 rfl kr_ ?mono ?step ?fin
   case mono =>
    intro p hp v w w' h hE
    simp only [List.mem_cons, List.not_mem_nil, or_false] at hp
    rcases hp with rfl | rfl | rfl | rfl | rfl | rfl | rfl
    ·exact Reads.ext h hE
    ·exact Reads.ext h hE
    ·exact h
    ·exact h
    ·exact h
    ·exact Reads.ext h hE
    ·exact h
   case step =>
    intro p hp
    simp only [List.mem_cons, List.not_mem_nil, or_false] at hp
    rcases hp with rfl | rfl | rfl | rfl | rfl | rfl | rfl
    ·refine ⟨_, rfl, rfl, fun a w' hF hE hG => ?_⟩
     have hx19 : a.eval (.tmp 19) = iv (i) := (hF.eval 19 kr_).trans kr_
     have hx20 : a.eval (.tmp 20) = iv (j) := (hF.eval 20 kr_).trans kr_
     have hx21 : a.eval (.tmp 21) = iv (K) := (hF.eval 21 kr_).trans kr_
     refine bsRow (([i, j, K]).map iv) Tryz.sl_intSg (wn rfl) rfl (by rw [Array.toList_map]; show [(0, a.eval (.tmp 19)), (1, a.eval (.tmp 20)), (2, a.eval (.tmp 21))] = _; rw [hx19, hx20, hx21]; rfl) rfl (by omega) (by omega) (iv_cells _) ?_
     intro A5 w5 hrd hb5
     exact ⟨_, rfl, hb5, A5, 3, _, rfl, Nat.le_refl _, hrd⟩
    ·refine ⟨_, rfl, rfl, fun a w' hF hE hG => ?_⟩
     obtain ⟨A5, c5, B5, q1, q2, hrd⟩ : Reads 3 (([i, j, K]).map iv) (a.tmps.getD 22 undef) w' := hG (3, 22) (by simp) kr_
     refine callOp 46 [.slice A5 3 c5] [] [] kr_ (wn rfl) rfl rfl (by rw [← q1]; rfl) ?_
     refine (ints_any [i, j, K] A5 3 c5 B5 w' hrd q2 h64 hlen).mono ?_
     rintro e w2 hret
     obtain ⟨A6, c6, rfl, _, hrd2, hb2⟩ := hret.open
     exact ⟨_, rfl, ⟨_, rfl, hb2, A6, c6, _, rfl, Nat.le_refl _, hrd2⟩⟩
    ·refine ⟨_, rfl, rfl, fun a w' hF hE hG => ?_⟩
     obtain ⟨A5, c5, B5, q1, q2, hrd⟩ : Reads (encI [i, j, K]).length (bcs (encI [i, j, K])) (a.tmps.getD 23 undef) w' := hG (4, 23) (by simp) kr_
     refine convStr (.tmp 23) (encI [i, j, K]) Tryz.sl_u8.und Tryz.und_u8 Tryz.und_str (wn rfl) rfl q1 hrd ?_
     exact ⟨_, rfl, Below.refl _ _, rfl⟩
    ·refine ⟨_, rfl, rfl, fun a w' hF hE hG => ?_⟩
     refine ldArr (b := w.heap.size) (.tmp 7) Tryz.ag_b16 (wn rfl) rfl ((hF.eval 7 kr_).trans kr_) HDB.out (h7.below hE h7.lt) ?_
     exact ⟨_, rfl, Below.refl _ _, rfl⟩
    ·refine ⟨_, rfl, rfl, fun a w' hF hE hG => ?_⟩
     have hx : a.tmps.getD 25 undef = .agg (bcs D).toArray := hG (6, 25) (by simp) kr_
     refine callOp 110 [.agg (bcs D).toArray] [] [] kr_ (wn rfl) rfl rfl (by rw [← hx]; rfl) ?_
     refine (sgText_any D w' HD.out).mono ?_
     rintro e w2 ⟨rfl, hb2⟩
     exact ⟨_, rfl, ⟨_, rfl, hb2, rfl⟩⟩
    ·refine ⟨_, rfl, rfl, fun a w' hF hE hG => ?_⟩
     have hx24 : a.tmps.getD 24 undef = sv (encI [i, j, K]) := hG (5, 24) (by simp) kr_
     have hx26 : a.tmps.getD 26 undef = sv (D) := hG (7, 26) (by simp) kr_
     refine bsRow (([encI [i, j, K], D]).map sv) Tryz.sl_strSg (wn rfl) rfl (by rw [Array.toList_map]; show [(0, a.tmps.getD 24 undef), (1, a.tmps.getD 26 undef)] = _; rw [hx24, hx26]; rfl) rfl (by omega) (by omega) (sv_cells _) ?_
     intro A5 w5 hrd hb5
     exact ⟨_, rfl, hb5, A5, 2, _, rfl, Nat.le_refl _, hrd⟩
    ·refine ⟨_, rfl, rfl, fun a w' hF hE hG => ?_⟩
     obtain ⟨A5, c5, B5, q1, q2, hrd⟩ : Reads 2 (([encI [i, j, K], D]).map sv) (a.tmps.getD 27 undef) w' := hG (8, 27) (by simp) kr_
     refine callOp 62 [.int .i64 4, .slice A5 2 c5] [] [] kr_ (wn rfl) rfl rfl (by rw [← q1]; rfl) ?_
     refine (of_any 4 [encI [i, j, K], D] A5 2 c5 B5 w' (ht.below (hb.trans (hE.mono hb.size)) ht.size) hrd q2 hin (by simp)).mono ?_
     rintro e w2 ⟨rfl, hb2⟩
     exact ⟨_, rfl, ⟨_, rfl, hb2, rfl⟩⟩
   case fin =>
    intro a wf hF hE hG
    have qf : a.tmps.getD 28 undef = .agg (bcs (ofDig 4 [encI [i, j, K], D])).toArray := hG (9, 28) (by simp)
    replace h7 := h7.below hE h7.lt
    replace h10 := h10.below hE h10.lt
    have hszf := hb.size
    replace hb := hb.trans (hE.mono hb.size)
    rw [hF.eq]
    simp only [putsX]
    rw [qf]
    generalize a.tmps.getD 22 undef = x22
    generalize a.tmps.getD 23 undef = x23
    generalize a.tmps.getD 24 undef = x24
    generalize a.tmps.getD 25 undef = x25
    generalize a.tmps.getD 26 undef = x26
    generalize a.tmps.getD 27 undef = x27
    clear hG hF hE qf
    refine aNext (i := 10) kr_ rfl ?_
    refine stArr (b := w.heap.size) (cs := bcs (ofDig 4 [encI [i, j, K], D])) (.tmp 7) (.tmp 28) Tryz.ag_b16 (wn rfl) rfl kr_ kr_ h7 HDB.out (by rw [bcs_length]; exact ofDig_len _ _) (bcs_one _) ?_
    intro w3 h7 hkeep hbel
    replace h10 := hkeep _ _ _ (Ne.symm hne) h10
    replace hb := hb.trans (hbel _ hg)
    clear hkeep hbel
    rw [HNX.out] at h7
    refine aDone kr_ ?_
    simp only [Act.put, List.setIfInBounds_toArray, List.set_cons_succ, List.set_cons_zero]
    go_wp2_with fail
    go_roundw
    case rel => exact ⟨m + 1, K + 1, by omega, by go_num, by omega, h7, h10, hb⟩
    case measure => (simp [intOf]; try omega)
  ·obtain rfl : m = n := by omega
   have HD := Lib.hid (show (bcs (climbD i j a d m)).length = 16 by rw [bcs_length]; exact climbD_len i j a hd m)
   go_wp2_with (first | (with_reducible refine ldArr (.tmp 7) Tryz.ag_b16 (wn rfl) rfl rfl HD.out h7 ?_) | (with_reducible refine stArr (cs := bcs (climbD i j a d m)) (.tmp 10) (.tmp 29) Tryz.ag_b16 (wn rfl) rfl rfl rfl h10 (zerosB_len _) HD.out (bcs_one _) ?_))
   intro w3 h3 _ hbel
   go_wp2_with fail
   refine bodyPost_ret (v := .agg (bcs (climbD i j a d m)).toArray) ?_ rfl ⟨rfl, hb.trans (hbel _ hg10)⟩
   exact res_cell1 _ Tryz.results69 Tryz.ag_b16 _ rfl HD.out (fun j u hu => by rw [Nat.zero_add]; exact h3.cell hu)
theorem ext_take (l : List UInt8) (V : Nat) : (⟨l.toArray⟩ : ByteArray).extract 0 V = ⟨(l.take V).toArray⟩ := by
 apply ByteArray.ext
 apply Array.ext'
 simp
theorem ext_drop (l : List UInt8) (U : Nat) : (⟨l.toArray⟩ : ByteArray).extract U (⟨l.toArray⟩ : ByteArray).size = ⟨(l.drop U).toArray⟩ := by
 apply ByteArray.ext
 apply Array.ext'
 have : (⟨l.toArray⟩ : ByteArray).size = l.length := by simp [ByteArray.size]
 rw [this]
 simp
 rw [List.take_of_length_le (by rw [List.length_drop]; exact Nat.le_refl _)]
section
variable {P : Program} {w : World} {ops : Array Oper} {rest : List Oper} {o : Oper} {a : Act} {Q : Exit → Act → World → Prop}
theorem ixStr {t : TypeId} {kk : IntKind} {K : Int} (x y : Operand) (l : List UInt8) (k : Nat) (b : UInt8) (ht : P.underlying t = some .string) (hgd : Region.wanted o (yielded ops a.tmps) = true)
 (ho : o.op = .index t x y) (hx : a.eval x = .string ⟨l.toArray⟩) (hy : a.eval y = .int kk K) (hK : K = (k : Int)) (hb : l[k]? = some b)
 (hk : wpList P ops Q rest (a.put o.dst (.int .u8 (b.toNat : Int))) w) : wpList P ops Q (o :: rest) a w := by
 subst hK
 refine opVal (v := .int .u8 (b.toNat : Int)) hgd ?_ hk
 unfold execOp
 have hlt := (List.getElem?_eq_some_iff.1 hb).1
 have hg : (⟨l.toArray⟩ : ByteArray)[k]? = some b := by
  rw [← hb]
  simp only [getElem?_def, ByteArray.size, List.size_toArray]
  by_cases h : k < l.length
  ·rw [dif_pos h, dif_pos h]; rfl
  ·omega
 simp [ho, hx, hy, Instr.index, asIntOf, run_underlying ht, hg]
theorem slStrH {t : TypeId} {kh : IntKind} {H : Int} (x h : Operand) (l : List UInt8) (V : Nat) (hgd : Region.wanted o (yielded ops a.tmps) = true)
 (ho : o.op = .slice t x none (some h) none) (hx : a.eval x = .string ⟨l.toArray⟩) (hh : a.eval h = .int kh H) (hH : H = (V : Int)) (h2 : V ≤ l.length) (ht : P.underlying t = some .string)
 (hk : wpList P ops Q rest (a.put o.dst (.string ⟨(l.take V).toArray⟩)) w) : wpList P ops Q (o :: rest) a w := by
 subst hH
 refine opVal (v := .string ⟨(l.take V).toArray⟩) hgd ?_ hk
 unfold execOp
 have hs : (⟨l.toArray⟩ : ByteArray).size = l.length := by simp [ByteArray.size]
 have := run_slice_string_h (P := P) w t ⟨l.toArray⟩ ht kh (V : Int) (by omega) (by rw [hs]; omega)
 rw [Int.toNat_natCast, ext_take] at this
 simp only [ho, hx, hh, Option.map_some, Option.map_none, Sem.run_bind, Sem.run_pure, run_sliceAt_string w t _ _ _ _ ht, this, Result.andThen_ok]
theorem slStrL {t : TypeId} {kl : IntKind} {L : Int} (x y : Operand) (l : List UInt8) (U : Nat) (hgd : Region.wanted o (yielded ops a.tmps) = true)
 (ho : o.op = .slice t x (some y) none none) (hx : a.eval x = .string ⟨l.toArray⟩) (hh : a.eval y = .int kl L) (hL : L = (U : Int)) (h2 : U ≤ l.length) (ht : P.underlying t = some .string)
 (hk : wpList P ops Q rest (a.put o.dst (.string ⟨(l.drop U).toArray⟩)) w) : wpList P ops Q (o :: rest) a w := by
 subst hL
 refine opVal (v := .string ⟨(l.drop U).toArray⟩) hgd ?_ hk
 unfold execOp
 have hs : (⟨l.toArray⟩ : ByteArray).size = l.length := by simp [ByteArray.size]
 have := run_slice_string_l (P := P) w t ⟨l.toArray⟩ ht kl (U : Int) (by omega) (by rw [hs]; omega)
 rw [Int.toNat_natCast, ext_drop] at this
 simp only [ho, hx, hh, Option.map_some, Option.map_none, Sem.run_bind, Sem.run_pure, run_sliceAt_string w t _ _ _ _ ht, this, Result.andThen_ok]
end
theorem inputB_le (tag : Int) (x : List UInt8) (hx : x.length ≤ 100000000) : (inputOf tag [x]).length ≤ 1000000000 := by
 have := input_leSg tag [x] 100000000 (by intro u hu; simp at hu; subst hu; assumption)
 simp at this
 omega
theorem refDig_any (l : List UInt8) (w : World) (hl : 16 ≤ l.length) : Calls Tryz.prog 112 #[sv l] w fun e w' => e = .returned (.agg (bcs (l.take 16)).toArray) ∧ Below w.heap.size w w' := by
 have HD := Lib.hid (show (bcs (l.take 16)).length = 16 by rw [bcs_length, List.length_take]; omega)
 have hsz : (⟨l.toArray⟩ : ByteArray).size = l.length := by simp [ByteArray.size]
 have HSZ := Lib.hid hsz
 clear hsz
 unfold sv
 go_enter Tryz.func112, Tryz.ntmps112
 go_wp2_with (with_reducible refine alArr (z := zerosB 16) Tryz.ag_b16 (wn rfl) rfl ?_)
 intro w1 h2 hb
 have n12 := h2.lt
 go_wp2_with (with_reducible refine alArr (z := zerosB 16) Tryz.ag_b16 (wn rfl) rfl ?_)
 intro w2 h4 hb2
 replace h2 := h2.below hb2 h2.lt
 replace hb := hb.trans (hb2.mono hb.size)
 clear hb2
 generalize w1.heap.size = g4 at *
 rw [zeros_pad l] at h4
 go_wp2_with fail
 go_loopw [4] (fun iv_ wr => ∃ i : Nat, i ≤ 16 ∧ iv_ = .int .i64 i ∧ Arr wr w.heap.size 27 (zerosB 16) ∧ Arr wr g4 27 (bcs (l.take i ++ List.replicate (16 - i) 0)) ∧ Below w.heap.size w wr) (fun iv_ _ => 16 - (intOf iv_).toNat)
 case atStart => exact ⟨0, by omega, rfl, h2, h4, hb⟩
 case round =>
  clear h2 h4 hb
  obtain ⟨i, hi, rfl, h2, h4, hb⟩ := hrel
  by_cases hlt : i < 16
  ·obtain ⟨b, hb1, hb2⟩ := bcs_at (l := l) (i := i) (by omega)
   have hc4 : wr.cell? ⟨g4, i, none⟩ = some (.int .u8 0) := h4.cell (pad_at l i 16 (by omega) hlt)
   have hf := h4.thaw i
   have hnx := set_pad hb1 hlt
   have HNX := Lib.hid hnx
   have HB1 := Lib.hid hb1
   clear hnx hb1 hb2
   go_wp2_with (with_reducible refine ixStr (.tmp 10) (.tmp 11) l i b Tryz.und_str (wn rfl) rfl rfl rfl rfl HB1.out ?_)
   go_roundw
   case rel => exact ⟨i + 1, by omega, by go_num, h2.other (by omega) i _, by rw [← HNX.out]; exact h4.set i _, hb.setCell (p := ⟨g4, i, none⟩) (by show w.heap.size ≤ g4; omega) _⟩
   case measure => (simp [intOf]; try omega)
  ·obtain rfl : i = 16 := by omega
   rw [show l.take 16 ++ List.replicate (16 - 16) 0 = l.take 16 from by simp] at h4
   go_wp2_with (first | (with_reducible refine ldArr (.tmp 3) Tryz.ag_b16 (wn rfl) rfl rfl HD.out h4 ?_) | (with_reducible refine stArr (cs := bcs (l.take 16)) (.tmp 2) (.tmp 14) Tryz.ag_b16 (wn rfl) rfl rfl rfl h2 (zerosB_len _) HD.out (bcs_one _) ?_))
   intro w5 h2 hkeep hbel
   go_wp2_with fail
   refine bodyPost_ret (v := .agg (bcs (l.take 16)).toArray) ?_ rfl ⟨rfl, hb.trans (hbel _ (Nat.le_refl _))⟩
   exact res_cell1 (bcs (l.take 16)) Tryz.results112 Tryz.ag_b16 _ rfl HD.out (fun j u hu => by rw [Nat.zero_add]; exact h2.cell hu)
end Go.Proofs.YtgjgjimgomhbmaaGreatDoor
