/-
  MI: several texts in one. No statement is proved here.
-/
import Derived.Test.YtgjgjimgomhbmaaDoorMH
import Derived.Test.YtgjgjimgomhbmaaDoorME
set_option linter.unusedVariables false
set_option linter.unusedSimpArgs false
namespace Go.Proofs.YtgjgjimgomhbmaaDoor
open Go.RowKit
set_option linter.unusedVariables false
set_option linter.unusedSimpArgs false
/-- The header of the examples. -/
def hd3 (n : Int) : Hd := ⟨n, List.replicate 8 0, 3, 2, List.replicate 32 0⟩
def hdBad : Hd := ⟨5, List.replicate 8 0, 3, 1, List.replicate 16 0⟩
def sT0 : List Vr := []
def sT1 : List Vr := [⟨1, 0, hd3 5⟩]
def sT2 : List Vr := [⟨1, 0, hd3 5⟩, ⟨2, 0, hd3 6⟩]
def sTp : List Vr := [⟨1, 1, hd3 5⟩, ⟨2, 0, hd3 6⟩]
def sT3 : List Vr := [⟨2, 0, hd3 6⟩]
theorem fit_n {n : Int} (h : isI64 n) : (hd3 n).Fit := ⟨by show (List.replicate 8 (0 : Int)).length ≤ 20; decide, by show (2 : Nat) ≤ 20; decide, h, by show isI64 3; unfold isI64; decide, fun x hx => by
  have : x = 0 := (List.mem_replicate.1 hx).2
  subst this; unfold isI64; decide⟩
theorem fit5 : (hd3 5).Fit := fit_n (by unfold isI64; decide)
theorem fit6 : (hd3 6).Fit := fit_n (by unfold isI64; decide)
theorem fit_eq {h g : Hd} (e : h = g) (f : g.Fit) : h.Fit := e ▸ f
theorem goodT {l : List Lv} {t : List Vr} (h : vrs l = t) (g : t.all (fun v => decide v.h.Good) = true) : ∀ v ∈ l, v.h.Good := fun v hv => by
  have := List.all_eq_true.1 g v.vr (by rw [← h]; exact List.mem_map.2 ⟨v, hv, rfl⟩)
  exact of_decide_eq_true this
theorem pinsT {l : List Lv} {t : List Vr} (h : vrs l = t) (g : t.all (fun v => decide (0 ≤ v.pins ∧ v.pins ≤ 1000)) = true) : PinsOk l := fun v hv => by
  have := List.all_eq_true.1 g v.vr (by rw [← h]; exact List.mem_map.2 ⟨v, hv, rfl⟩)
  exact of_decide_eq_true this
theorem lenT {l : List Lv} {t : List Vr} (h : vrs l = t) {n : Nat} (g : t.length ≤ n) : l.length ≤ n := by rw [← h, vrs_len] at g; exact g
theorem sliceH_blk {P : Program} {w : World} {t e : TypeId} {z : Value} {size bytes B n c V : Nat} {A : Option Addr} {xs : List Value} (T : SlTy P t e z size bytes) (hr : Rd w B size A n c xs) (h2 : V ≤ n) :
    ∃ A', Rd w B size A' V c (xs.take (V * size)) ∧ A'.map (·.block) = A.map (·.block) ∧ ∀ w' : World, (Instr.sliceAt t (.slice A n c) none (some (.int .i64 (V : Int))) none).run P w' = .ok (.slice A' V c) w' := by
  obtain ⟨i, hi, hz0, hz1, hz2⟩ := info_parts T.inf
  have hle := hr.le
  have ht : P.underlying t = some (.slice (P.elem t)) := by rw [T.und]; simp [Program.elem, T.und]
  have he : P.elem t = e := by have := T.und; rw [this] at ht; injection ht with ht; injection ht with ht; exact ht.symm
  have hrun := fun w' => run_slice_h (P := P) w' t A n c ht .i64 (V : Int) (by omega) (by omega)
  have hcut := hr.cut (lo := 0) (hi := V) (m := c) (by omega) (by omega) (by omega) (by omega)
  simp only [Nat.sub_zero, Nat.zero_mul, List.drop_zero] at hcut
  refine ⟨_, hcut, ?_, fun w' => ?_⟩
  · split
    · rfl
    · cases A with
      | none => rfl
      | some a => show some _ = some _; unfold Addr.add; split <;> rfl
  · simp only [run_sliceAt_slice w' t _ _ _ _ ht, hrun w', he, sizeOf, typeInfo, Int.toNat_natCast, sliced]
    simp [hi, hz1]
/-- A header that has one root less. -/
theorem Mem.newBad {w0 w : World} {M : List Res} (X : List Res) {v vb : Lv} (h : Mem w0 w (X ++ M)) (ha : vb.A = v.A) (hc : vb.h.counts = v.h.counts) (hb : vb.B.map (·.block) = v.B.map (·.block)) (hv : vb.At w) (hrn : 0 < v.h.rn) (hx : ∀ r ∈ hdRes v, r ∈ M) (hM : ∀ r ∈ M, r.mut = false) : Mem w0 w (X ++ (lvRes [vb] ++ M)) := by
  refine h.newIm X _ (Below.refl _ _) (fun r hr => lvRes_at (l := [vb]) (fun u hu => by rw [List.mem_singleton] at hu; exact hu ▸ hv) hr) (fun r hr => lvRes_mut hr) (fun r hr => ?_) hM
  obtain ⟨u, hu, hr⟩ := List.mem_flatMap.1 hr
  rw [List.mem_singleton] at hu
  subst hu
  have hr : r ∈ hdRes u := hr
  unfold hdRes at hr
  simp at hr
  rcases hr with rfl | rfl
  · exact Or.inr ⟨_, hx (.rd v.A 1 v.h.counts.length v.c (ics v.h.counts)) (by unfold hdRes; simp), by simp only [Res.blk, ha, hc]⟩
  · by_cases h0 : u.h.rn = 0
    · exact Or.inl fun g hg => by simp [Res.blk, h0] at hg
    · refine Or.inr ⟨_, hx (.rd v.B 16 v.h.rn v.d (bcs v.h.D)) (by unfold hdRes; simp), ?_⟩
      simp only [Res.blk]
      rw [if_neg (by omega), if_neg (by omega), hb]
theorem hdSelf {v : Lv} {M : List Res} (h1 : (lvRes [v]).Sublist M) : ∀ r ∈ hdRes v, r ∈ M := fun _ hr => h1.subset (lvRes_mem List.mem_cons_self hr)
theorem hdNone {M : List Res} : ∀ u ∈ ([] : List Lv), ∀ r ∈ hdRes u, r ∈ M := fun _ h => by cases h
section
variable {P : Program} {w : World} {o : Oper} {a : Act}
theorem eqDigRun {t e ty : TypeId} {n : Nat} (x y : Operand) (xs ys : List UInt8) (b : Bool) (ht : P.underlying t = some (.array n e)) (he : P.underlying e = some (.int .u8)) (hs : (P.info? e).map (·.size) = some 1) (hq : P.eqGuardType P.depth t = false) (hx : xs.length = n) (hy : ys.length = n) (hb : (xs == ys) = b)
    (ho : o.op = .binOp .eql t x y ty) (hxv : a.eval x = .agg (bcs xs).toArray) (hyv : a.eval y = .agg (bcs ys).toArray) : (execOp a.eval o).run P w = .ok (.value (.bool b)) w := by
  unfold execOp
  have hr := run_eqBytes (P := P) w ht he hs xs ys hx hy
  rw [hb] at hr
  simp [ho, hxv, hyv, eqGuard, hq, run_eql_struct, hr]
theorem neDgRun {t e ty : TypeId} {n : Nat} (x y : Operand) (xs ys : List UInt8) (b : Bool) (ht : P.underlying t = some (.array n e)) (he : P.underlying e = some (.int .u8)) (hs : (P.info? e).map (·.size) = some 1) (hq : P.eqGuardType P.depth t = false) (hx : xs.length = n) (hy : ys.length = n) (hb : (xs == ys) = b)
    (ho : o.op = .binOp .neq t x y ty) (hxv : a.eval x = .agg (bcs xs).toArray) (hyv : a.eval y = .agg (bcs ys).toArray) : (execOp a.eval o).run P w = .ok (.value (.bool !b)) w := by
  unfold execOp
  have hr := run_eqBytes (P := P) w ht he hs xs ys hx hy
  rw [hb] at hr
  simp [ho, hxv, hyv, eqGuard, hq, run_neq_struct, hr]
end
set_option maxRecDepth 100000 in
set_option maxHeartbeats 4000000 in
theorem header_any (n : Int) (w : World) : Calls Tryd.prog 30 #[.int .i64 n] w (fun e w' => ∃ v : Lv, v.h = hd3 n ∧ e = .returned (.agg (hcs v.h v.A v.c v.B v.d).toArray) ∧ v.At w' ∧ NewA w.heap.size v.A ∧ NewA w.heap.size v.B ∧ Below w.heap.size w w') := by
 have hm0 := Mem.nil w
 go_enter Tryd.func30, Tryd.ntmps30
 refine litStart 7 [(0, .int .i64 n)] (by kernel_rfl) (fun X0 => ?_)
 refine wp_seq_k fun K1 hK1 => ?_
 refine plStart ?_
 refine plAlloc (z := [.int .i64 0, .slice none 0 0, .int .i64 0, .slice none 0 0]) Ty.ag_voxel_api_Header hm0 (i := 0) rfl (wn rfl) rfl ?_
 intro g2 w4 hm3
 clear hm0
 try simp only [List.cons_append, List.nil_append, List.set_cons_succ, List.set_cons_zero] at hm3
 refine qP rfl ?_
 refine plD ?_
 refine then_normal (hK1 _ _ ?_)
 refine wp_seq_k fun K5 hK5 => ?_
 refine aoStart (aoV [fun _ => .int .i64 n, fun γ_ => .slice (some ⟨(γ_.getD 0 0), 0, none⟩) 8 8, fun γ_ => .slice (some ⟨(γ_.getD 0 0), 0, none⟩) 2 2, fun γ_ => .agg ([.int .i64 n, .slice (some ⟨(γ_.getD 0 0), 0, none⟩) 8 8, .int .i64 3, .slice (some ⟨(γ_.getD 1 0), 0, none⟩) 2 2]).toArray, fun _ => undef]) (aoA [[], [1], [2], [1, 2], []]) (fun b_ g_ => ((.arr g2 25 (bsel (b_ 4) [.int .i64 n, .slice (some ⟨(g_ 1), 0, none⟩) 8 8, .int .i64 3, .slice (some ⟨(g_ 2), 0, none⟩) 2 2] [.int .i64 0, .slice none 0 0, .int .i64 0, .slice none 0 0])) :: (bsel (b_ 1) (.arr (g_ 1) 3 (ics (List.replicate 8 0))) .free) :: (bsel (b_ 2) (.arr (g_ 2) 37 (bcs (List.replicate 32 0))) .free) :: [])) hm3 (by kernel_rfl) (by kernel_rfl) (fun w_ h_ => h_.pushFree.pushFree) (fun b_ g_ h_ => by show (fun (x1_ x2_ x4_ : Bool) => (((.arr g2 25 (bsel x4_ [.int .i64 n, .slice (some ⟨(g_ 1), 0, none⟩) 8 8, .int .i64 3, .slice (some ⟨(g_ 2), 0, none⟩) 2 2] [.int .i64 0, .slice none 0 0, .int .i64 0, .slice none 0 0])) :: (bsel x1_ (.arr (g_ 1) 3 (ics (List.replicate 8 0))) .free) :: (bsel x2_ (.arr (g_ 2) 37 (bcs (List.replicate 32 0))) .free) :: []) : List Res)) (b_ 1) (b_ 2) (b_ 4) = _; rw [h_ 1 (by decide), h_ 2 (by decide), h_ 4 (by decide)]) ?_ ?_
 · refine aoNext rfl (aoVal (fun g_ => [(0, .int .i64 n)]) (fun g_ a_ h_k => ⟨(h_k.out 0 (by kernel_rfl)).trans (litGet (by kernel_rfl)), trivial⟩) (fun g_ X_ => (wn rfl)) (fun b_ g_ => by kernel_rfl) (fun b_ g_ X_ w_ h_b h_ => valTo (b := .int .i64 n) (by kernel_rfl) (litRun (by kernel_rfl)))) ?_
   refine aoNext rfl (aoMake (n := 8) (m := 8) (cs := ics (List.replicate 8 0)) (e := 3) 1 rfl rfl (fun w_ => by kernel_rfl) (fun _ _ _ => ⟨_, rfl⟩) (fun b_ g_ γ_ h_b => Eq.trans (b := ((.arr g2 25 (bsel (b_ 4) [.int .i64 n, .slice (some ⟨γ_, 0, none⟩) 8 8, .int .i64 3, .slice (some ⟨(g_ 2), 0, none⟩) 2 2] [.int .i64 0, .slice none 0 0, .int .i64 0, .slice none 0 0])) :: (bsel true (.arr γ_ 3 (ics (List.replicate 8 0))) .free) :: (bsel (b_ 2) (.arr (g_ 2) 37 (bcs (List.replicate 32 0))) .free) :: [])) (by kernel_rfl) (by simp only [bselF (h_b.post 4 (by kernel_rfl))] <;> kernel_rfl)) (fun _ => by kernel_rfl) (by kernel_rfl)) ?_
   refine aoNext rfl (aoMake (n := 2) (m := 2) (cs := bcs (List.replicate 32 0)) (e := 37) 2 rfl rfl (fun w_ => by kernel_rfl) (fun _ _ _ => ⟨_, rfl⟩) (fun b_ g_ γ_ h_b => Eq.trans (b := ((.arr g2 25 (bsel (b_ 4) [.int .i64 n, .slice (some ⟨(g_ 1), 0, none⟩) 8 8, .int .i64 3, .slice (some ⟨γ_, 0, none⟩) 2 2] [.int .i64 0, .slice none 0 0, .int .i64 0, .slice none 0 0])) :: (bsel (b_ 1) (.arr (g_ 1) 3 (ics (List.replicate 8 0))) .free) :: (bsel true (.arr γ_ 37 (bcs (List.replicate 32 0))) .free) :: [])) (by kernel_rfl) (by simp only [bselF (h_b.post 4 (by kernel_rfl))] <;> kernel_rfl)) (fun _ => by kernel_rfl) (by kernel_rfl)) ?_
   refine aoNext rfl (aoVal (fun g_ => [(3, .int .i64 n), (4, .slice (some ⟨(g_ 1), 0, none⟩) 8 8), (5, .slice (some ⟨(g_ 2), 0, none⟩) 2 2)]) (fun g_ a_ h_k => ⟨(h_k.inn 0 _ _ (by kernel_rfl) rfl rfl).trans (by kernel_rfl), (h_k.inn 1 _ _ (by kernel_rfl) rfl rfl).trans (by kernel_rfl), (h_k.inn 2 _ _ (by kernel_rfl) rfl rfl).trans (by kernel_rfl), trivial⟩) (fun g_ X_ => (wn rfl)) (fun b_ g_ => by kernel_rfl) (fun b_ g_ X_ w_ h_b h_ => valTo (b := .agg ([.int .i64 n, .slice (some ⟨(g_ 1), 0, none⟩) 8 8, .int .i64 3, .slice (some ⟨(g_ 2), 0, none⟩) 2 2]).toArray) (by kernel_rfl) (litRun (by kernel_rfl)))) ?_
   refine aoNext rfl (aoStore (gb := fun g_ => g2) (k := 0) (cur := fun g_ => [.int .i64 0, .slice none 0 0, .int .i64 0, .slice none 0 0]) (vs := fun g_ => [.int .i64 n, .slice (some ⟨(g_ 1), 0, none⟩) 8 8, .int .i64 3, .slice (some ⟨(g_ 2), 0, none⟩) 2 2]) 0 (fun g_ => [(2, .pointer (some ⟨g2, 0, none⟩)), (6, .agg ([.int .i64 n, .slice (some ⟨(g_ 1), 0, none⟩) 8 8, .int .i64 3, .slice (some ⟨(g_ 2), 0, none⟩) 2 2]).toArray)]) (fun g_ a_ h_k => ⟨(h_k.out 2 (by kernel_rfl)).trans (litGet (by kernel_rfl)), (h_k.inn 3 _ _ (by kernel_rfl) rfl rfl).trans (by kernel_rfl), trivial⟩) Ty.ag_voxel_api_Header (fun b_ g_ h_b => by show some (Res.arr g2 25 (bsel (b_ 4) [.int .i64 n, .slice (some ⟨(g_ 1), 0, none⟩) 8 8, .int .i64 3, .slice (some ⟨(g_ 2), 0, none⟩) 2 2] [.int .i64 0, .slice none 0 0, .int .i64 0, .slice none 0 0])) = some (Res.arr g2 25 ([.int .i64 0, .slice none 0 0, .int .i64 0, .slice none 0 0])); rw [bselF h_b.no]) (fun g_ X_ => (wn rfl)) rfl (fun g_ X_ => litEv (by kernel_rfl)) (fun g_ X_ => litEv (by kernel_rfl)) (fun _ => by kernel_rfl) (fun _ => by kernel_rfl) (fun _ => by kernel_rfl) (fun b_ g_ h_b => by kernel_rfl) rfl) ?_
   exact aoDone (by decide)
 intro g_ a_ w7 hF_ hm6
 obtain ⟨X8, rfl⟩ := frLit (⟨hF_.size, hF_.defers, ⟨(hF_.out 2 (by kernel_rfl)).trans (litGet (by kernel_rfl)), (hF_.inn 0 _ _ rfl rfl).trans (by kernel_rfl), (hF_.inn 1 _ _ rfl rfl).trans (by kernel_rfl), (hF_.inn 2 _ _ rfl rfl).trans (by kernel_rfl), (hF_.inn 3 _ _ rfl rfl).trans (by kernel_rfl), trivial⟩⟩ : Fr _ 7 [(2, .pointer (some ⟨g2, 0, none⟩)), (3, .int .i64 n), (4, .slice (some ⟨(g_ 1), 0, none⟩) 8 8), (5, .slice (some ⟨(g_ 2), 0, none⟩) 2 2), (6, .agg ([.int .i64 n, .slice (some ⟨(g_ 1), 0, none⟩) 8 8, .int .i64 3, .slice (some ⟨(g_ 2), 0, none⟩) 2 2]).toArray)])
 clear hF_
 have hm9 : Mem w w7 [.arr g2 25 ([.int .i64 n, .slice (some ⟨(g_ 1), 0, none⟩) 8 8, .int .i64 3, .slice (some ⟨(g_ 2), 0, none⟩) 2 2]), .arr (g_ 1) 3 (ics (List.replicate 8 0)), .arr (g_ 2) 37 (bcs (List.replicate 32 0))] := hm6
 clear hm6 hm3
 generalize g_ 1 = g10 at hm9 ⊢
 generalize g_ 2 = g11 at hm9 ⊢
 clear g_
 refine then_normal (hK5 _ _ ?_)
 refine wp_ret ?_
 refine bodyPost_ret (v := .agg ([.int .i64 n, .slice (some ⟨g10, 0, none⟩) 8 8, .int .i64 3, .slice (some ⟨g11, 0, none⟩) 2 2]).toArray) (gRes1 rfl (gResAg (cs := [.int .i64 n, .slice (some ⟨g10, 0, none⟩) 8 8, .int .i64 3, .slice (some ⟨g11, 0, none⟩) 2 2]) 0 hm9 rfl Ty.ag_voxel_api_Header rfl (litGet (by kernel_rfl)))) rfl ?_
 exact ⟨⟨0, 0, hd3 n, some ⟨g10, 0, none⟩, 8, some ⟨g11, 0, none⟩, 2⟩, rfl, rfl, ⟨Rd.of_arr (hm9.arr 1 rfl) rfl (by show (8 : Nat) ≤ _; decide), Rd.of_arr (hm9.arr 2 rfl) rfl (by show (2 : Nat) ≤ _; decide)⟩, fun a_ ha_ => by cases ha_; exact hm9.arrGe 1 rfl, fun a_ ha_ => by cases ha_; exact hm9.arrGe 2 rfl, hm9.bel⟩
end Go.Proofs.YtgjgjimgomhbmaaDoor
namespace Go.Proofs.YtgjgjimgomhbmaaDoor
open Go.RowKit
set_option linter.unusedVariables false
set_option linter.unusedSimpArgs false
set_option maxRecDepth 100000 in
set_option maxHeartbeats 4000000 in
theorem sanity_any (w : World) (ht : Tabs w) (htR : TabsR w) : Calls Tryd.prog 6 #[] w (RetV w (.bool true)) := by
 have hm0 := Mem.ofLv (l := []) (w := w) (fun _ h_ => by cases h_)
 go_enter Tryd.func6, Tryd.ntmps6
 refine litStart 195 [] (by kernel_rfl) (fun X0 => ?_)
 refine wp_seq_k fun K1 hK1 => ?_
 refine plStart ?_
 refine lk (v := .bool false) rfl rfl rfl ?_
 refine plD ?_
 refine then_normal (hK1 _ _ ?_)
 refine wp_seq_k fun K2 hK2 => ?_
 refine plStart ?_
 refine plCall (i := 0) 30 [.int .i64 5] [] [] rfl (by kernel_rfl) (wn rfl) rfl (litEv (by kernel_rfl)) (litArgs (by kernel_rfl)) (header_any 5 _) ?_
 rintro e w3 ⟨v5, hv5_, rfl, hat_, hA_, hB_, hbz⟩
 have hm4 : Mem w w3 ([] ++ (lvRes [v5] ++ lvRes [])) := Mem.newLv (lx := []) (M := lvRes []) [] hm0 hbz hat_ (Or.inr ⟨hA_, hB_⟩) hdNone (fun _ h_ => lvRes_mut h_)
 have hm6 : Mem w w3 ((lvRes [v5] ++ lvRes [])) := hm4
 clear hm4
 clear hm0
 clear hat_ hA_ hB_ hbz
 refine ⟨_, rfl, ?_⟩
 refine qP rfl ?_
 refine plAlloc (z := [.int .i64 0, .slice none 0 0, .int .i64 0, .slice none 0 0]) Ty.ag_voxel_api_Header hm6 (i := 1) rfl (wn rfl) rfl ?_
 intro g7 w9 hm8
 clear hm6
 try simp only [List.cons_append, List.nil_append, List.set_cons_succ, List.set_cons_zero] at hm8
 replace hm8 := Mem.insAt (M := ((lvRes [v5] ++ lvRes []))) 0 hm8
 simp only [List.insertIdx_succ_cons, List.insertIdx_zero] at hm8
 refine qP rfl ?_
 refine plStore 0 Ty.ag_voxel_api_Header hm8 rfl (i := 2) (cs := hcs v5.h v5.A v5.c v5.B v5.d) rfl (wn rfl) rfl (litEv (by kernel_rfl)) (litEv (by kernel_rfl)) rfl rfl (by kernel_rfl) ?_
 intro w11 hm10
 clear hm8
 try simp only [List.cons_append, List.nil_append, List.set_cons_succ, List.set_cons_zero] at hm10
 refine qNone rfl ?_
 refine plD ?_
 refine then_normal (hK2 _ _ ?_)
 refine wp_seq_k fun K12 hK12 => ?_
 refine plStart ?_
 refine lk (v := .pointer (some ⟨g7, 3, none⟩)) rfl rfl rfl ?_
 refine litVal (v := .slice v5.B v5.h.rn v5.d) rfl (wn rfl) (gLoad (v := .slice v5.B v5.h.rn v5.d) (k := 3) 0 hm10 rfl (by kernel_rfl) (.tmp 29) (by kernel_rfl) rfl (litEv (by kernel_rfl))) rfl (by decide) ?_
 obtain ⟨Ab, hrb_, hbb_, hsb_⟩ := sliceH_blk (V := 1) Ty.sl_L_api_Digest ((Mem.lv ((Mem.tailN (T := (lvRes [v5] ++ lvRes [])) 1 hm10 rfl).sub (L' := lvRes [v5]) (List.sublist_append_left _ _))) v5 List.mem_cons_self).b (by rw [hv5_]; decide)
 obtain ⟨vbad, hvb_⟩ : ∃ v_ : Lv, v_ = ⟨0, 0, hdBad, v5.A, v5.c, Ab, v5.d⟩ := ⟨_, rfl⟩
 have hat_ : vbad.At w11 := by
   have q1_ := ((Mem.lv ((Mem.tailN (T := (lvRes [v5] ++ lvRes [])) 1 hm10 rfl).sub (L' := lvRes [v5]) (List.sublist_append_left _ _))) v5 List.mem_cons_self).a
   have q2_ := hrb_
   rw [hv5_] at q1_ q2_
   rw [hvb_]
   exact ⟨q1_, q2_⟩
 have hm13 : Mem w w11 ([.arr g7 25 (hcs v5.h v5.A v5.c v5.B v5.d)] ++ (lvRes [vbad] ++ (lvRes [v5] ++ lvRes []))) := Mem.newBad (M := (lvRes [v5] ++ lvRes [])) (v := v5) [.arr g7 25 (hcs v5.h v5.A v5.c v5.B v5.d)] hm10 (by rw [hvb_]) (by rw [hvb_, hv5_]; rfl) (by rw [hvb_]; exact hbb_) hat_ (by rw [hv5_]; decide) (hdSelf (List.sublist_append_left _ _)) (mutApp (fun _ h_ => lvRes_mut h_) (fun _ h_ => lvRes_mut h_))
 have hm14 : Mem w w11 ((.arr g7 25 (hcs v5.h v5.A v5.c v5.B v5.d)) :: (lvRes [vbad] ++ (lvRes [v5] ++ lvRes []))) := hm13
 clear hm13 hm10
 clear hat_
 refine litVal (i := 2) (v := .slice Ab 1 v5.d) rfl (wn rfl) (sliceHRun (k := 1) (.tmp 30) (.const (.int .i64 1)) hsb_ rfl (litEv (by kernel_rfl)) (litEv (by kernel_rfl)) rfl) rfl (by decide) ?_
 refine lk (v := .pointer (some ⟨g7, 3, none⟩)) rfl rfl rfl ?_
 refine plStore1 (v := .slice Ab 1 v5.d) (k := 3) 0 (by kernel_rfl) hm14 rfl (i := 4) rfl (wn rfl) rfl (litEv (by kernel_rfl)) (litEv (by kernel_rfl)) rfl rfl rfl ?_
 intro w16 hm15
 clear hm14
 try simp only [List.cons_append, List.nil_append, List.set_cons_succ, List.set_cons_zero] at hm15
 refine qNone rfl ?_
 refine plD ?_
 refine then_normal (hK12 _ _ ?_)
 refine wp_seq_k fun K17 hK17 => ?_
 refine plStart ?_
 refine plCall (i := 0) 22 [] [] [] rfl (by kernel_rfl) (wn rfl) rfl (litEv (by kernel_rfl)) (litArgs (by kernel_rfl)) (new_any _) ?_
 rintro e w18 ⟨rfl, hbz⟩
 have hm19 := hm15.below hbz
 clear hbz hm15
 refine ⟨_, rfl, ?_⟩
 refine qP rfl ?_
 refine plCall (i := 1) 30 [.int .i64 5] [] [] rfl (by kernel_rfl) (wn rfl) rfl (litEv (by kernel_rfl)) (litArgs (by kernel_rfl)) (header_any 5 _) ?_
 rintro e w20 ⟨v22, hv22_, rfl, hat_, hA_, hB_, hbz⟩
 have hm21 : Mem w w20 ([.arr g7 25 ([.int .i64 v5.h.tick, .slice v5.A v5.h.counts.length v5.c, .int .i64 v5.h.depth, .slice Ab 1 v5.d])] ++ (lvRes [v22] ++ (lvRes [vbad] ++ (lvRes [v5] ++ lvRes [])))) := Mem.newLv (lx := []) (M := (lvRes [vbad] ++ (lvRes [v5] ++ lvRes []))) [.arr g7 25 ([.int .i64 v5.h.tick, .slice v5.A v5.h.counts.length v5.c, .int .i64 v5.h.depth, .slice Ab 1 v5.d])] hm19 hbz hat_ (Or.inr ⟨hA_, hB_⟩) hdNone (mutApp (fun _ h_ => lvRes_mut h_) (mutApp (fun _ h_ => lvRes_mut h_) (fun _ h_ => lvRes_mut h_)))
 have hm23 : Mem w w20 ((.arr g7 25 ([.int .i64 v5.h.tick, .slice v5.A v5.h.counts.length v5.c, .int .i64 v5.h.depth, .slice Ab 1 v5.d])) :: (lvRes [v22] ++ (lvRes [vbad] ++ (lvRes [v5] ++ lvRes [])))) := hm21
 clear hm21
 clear hm19
 clear hat_ hA_ hB_ hbz
 refine ⟨_, rfl, ?_⟩
 refine qP rfl ?_
 refine plCall (i := 2) 31 [.agg (tbs (.slice none 0 0) 1).toArray, .agg (hcs v22.h v22.A v22.c v22.B v22.d).toArray] [] [] rfl (by kernel_rfl) (wn rfl) rfl (litEv (by kernel_rfl)) (litArgs (by kernel_rfl)) (by exact vadd_any ([] : List Lv) none 0 1 v22.h v22.A v22.c v22.B v22.d _ (TbAt.nil _) (lenT (rfl : vrs [] = sT0) (by decide)) ((Mem.lv ((Mem.tailN (T := (lvRes [v22] ++ (lvRes [vbad] ++ (lvRes [v5] ++ lvRes [])))) 1 hm23 rfl).sub (L' := lvRes [v22]) (List.sublist_append_left _ _))) v22 List.mem_cons_self).a ((Mem.lv ((Mem.tailN (T := (lvRes [v22] ++ (lvRes [vbad] ++ (lvRes [v5] ++ lvRes [])))) 1 hm23 rfl).sub (L' := lvRes [v22]) (List.sublist_append_left _ _))) v22 List.mem_cons_self).b (fit_eq hv22_ fit5) (goodT (rfl : vrs [] = sT0) (by decide +kernel)) (by decide)) ?_
 have hE_ : addV (vrs ([] : List Lv)) 1 v22.h = (sT1, 2, 1, 0) := by rw [(rfl : vrs [] = sT0), hv22_]; kernel_rfl
 rintro e w24 ⟨l26, S27, c28, rfl, hvl26, hT_, hN_, hbz⟩
 rw [hE_] at hvl26 ⊢
 clear hE_
 have hm25 : Mem w w24 ([.arr g7 25 ([.int .i64 v5.h.tick, .slice v5.A v5.h.counts.length v5.c, .int .i64 v5.h.depth, .slice Ab 1 v5.d])] ++ (tbRes l26 S27 c28 ++ (lvRes [v22] ++ (lvRes [vbad] ++ (lvRes [v5] ++ lvRes []))))) := Mem.newTb (M := (lvRes [v22] ++ (lvRes [vbad] ++ (lvRes [v5] ++ lvRes [])))) [.arr g7 25 ([.int .i64 v5.h.tick, .slice v5.A v5.h.counts.length v5.c, .int .i64 v5.h.depth, .slice Ab 1 v5.d])] hm23 hbz hT_ hN_ hdNone (mutApp (fun _ h_ => lvRes_mut h_) (mutApp (fun _ h_ => lvRes_mut h_) (mutApp (fun _ h_ => lvRes_mut h_) (fun _ h_ => lvRes_mut h_))))
 have hm31 : Mem w w24 ((.arr g7 25 ([.int .i64 v5.h.tick, .slice v5.A v5.h.counts.length v5.c, .int .i64 v5.h.depth, .slice Ab 1 v5.d])) :: (tbRes l26 S27 c28 ++ (lvRes [v22] ++ (lvRes [vbad] ++ (lvRes [v5] ++ lvRes []))))) := hm25
 clear hm25
 clear hm23
 clear hT_ hN_ hbz
 refine ⟨_, rfl, ?_⟩
 refine qP rfl ?_
 refine lk (v := .tuple #[.agg (tbs (.slice S27 l26.length c28) 2).toArray, .int .i64 1, .int .i64 0]) rfl rfl rfl ?_
 refine lk (v := .agg (tbs (.slice S27 l26.length c28) 2).toArray) rfl rfl rfl ?_
 refine lk (v := .int .i64 1) rfl rfl rfl ?_
 refine lk (v := .int .i64 0) rfl rfl rfl ?_
 refine plAlloc (z := [.slice none 0 0, .int .i64 0]) Ty.ag_voxel_api_Versions hm31 (i := 7) rfl (wn rfl) rfl ?_
 intro g32 w34 hm33
 clear hm31
 try simp only [List.cons_append, List.nil_append, List.set_cons_succ, List.set_cons_zero] at hm33
 replace hm33 := Mem.insAt (M := ((.arr g7 25 ([.int .i64 v5.h.tick, .slice v5.A v5.h.counts.length v5.c, .int .i64 v5.h.depth, .slice Ab 1 v5.d])) :: (tbRes l26 S27 c28 ++ (lvRes [v22] ++ (lvRes [vbad] ++ (lvRes [v5] ++ lvRes [])))))) 1 hm33
 simp only [List.insertIdx_succ_cons, List.insertIdx_zero] at hm33
 refine qP rfl ?_
 refine plStore 1 Ty.ag_voxel_api_Versions hm33 rfl (i := 8) (cs := tbs (.slice S27 l26.length c28) 2) rfl (wn rfl) rfl (litEv (by kernel_rfl)) (litEv (by kernel_rfl)) rfl rfl (by kernel_rfl) ?_
 intro w36 hm35
 clear hm33
 try simp only [List.cons_append, List.nil_append, List.set_cons_succ, List.set_cons_zero] at hm35
 refine qNone rfl ?_
 refine lk (v := .int .i64 1) rfl rfl rfl ?_
 refine lk (v := .int .i64 0) rfl rfl rfl ?_
 refine plD ?_
 refine then_normal (hK17 _ _ ?_)
 have hm37 : Mem w w36 ((.arr g7 25 ([.int .i64 v5.h.tick, .slice v5.A v5.h.counts.length v5.c, .int .i64 v5.h.depth, .slice Ab 1 v5.d])) :: (.arr g32 44 (tbs (.slice S27 l26.length c28) 2)) :: (tbRes l26 S27 c28 ++ (lvRes [vbad] ++ lvRes [v5]))) := hm35.sub (List.Sublist.cons_cons _ (List.Sublist.cons_cons _ (List.Sublist.append (List.Sublist.refl _) ((List.Sublist.append (List.Sublist.refl _) (List.sublist_append_left _ _)).trans (List.sublist_append_right _ _)))))
 clear hm35
 refine wp_seq_k fun K38 hK38 => ?_
 refine glStart 2 ((.arr g7 25 ([.int .i64 v5.h.tick, .slice v5.A v5.h.counts.length v5.c, .int .i64 v5.h.depth, .slice Ab 1 v5.d])) :: (.arr g32 44 (tbs (.slice S27 l26.length c28) 2)) :: (tbRes l26 S27 c28 ++ (lvRes [vbad] ++ lvRes [v5]))) hm37 (by kernel_rfl) ?_
 intro w40 hm39
 clear hm37
 refine glTake (i := 0) (v := .agg (tbs (.slice S27 l26.length c28) 2).toArray) rfl (by kernel_rfl) (wn rfl) (fun _ _ _ h => h) (hm39.sub (.cons_cons _ (.cons_cons _ (List.Sublist.refl _)))) (fun w_ h_ => gLoadAg (vs := tbs (.slice S27 l26.length c28) 2) (k := 0) 1 h_ rfl (by kernel_rfl) (by kernel_rfl) (.tmp 2) Ty.ag_voxel_api_Versions rfl (litEv (by kernel_rfl))) ?_
 refine glP rfl ?_
 refine glCall (i := 1) 30 [.int .i64 6] [] [] (by kernel_rfl) rfl (by kernel_rfl) (wn rfl) rfl (litEv (by kernel_rfl)) (litArgs (by kernel_rfl)) (header_any 6 _) ?_
 rintro e w41 ⟨v43, hv43_, rfl, hat_, hA_, hB_, hbz⟩
 have hm42 : Mem w w41 ([.arr g7 25 ([.int .i64 v5.h.tick, .slice v5.A v5.h.counts.length v5.c, .int .i64 v5.h.depth, .slice Ab 1 v5.d]), .arr g32 44 (tbs (.slice S27 l26.length c28) 2)] ++ (lvRes [v43] ++ (tbRes l26 S27 c28 ++ (lvRes [vbad] ++ lvRes [v5])))) := Mem.newLv (lx := []) (M := (tbRes l26 S27 c28 ++ (lvRes [vbad] ++ lvRes [v5]))) [.arr g7 25 ([.int .i64 v5.h.tick, .slice v5.A v5.h.counts.length v5.c, .int .i64 v5.h.depth, .slice Ab 1 v5.d]), .arr g32 44 (tbs (.slice S27 l26.length c28) 2)] hm39 hbz hat_ (Or.inr ⟨hA_, hB_⟩) hdNone (mutApp (fun _ h_ => tbRes_mut h_) (mutApp (fun _ h_ => lvRes_mut h_) (fun _ h_ => lvRes_mut h_)))
 have hm44 : Mem w w41 ((.arr g7 25 ([.int .i64 v5.h.tick, .slice v5.A v5.h.counts.length v5.c, .int .i64 v5.h.depth, .slice Ab 1 v5.d])) :: (.arr g32 44 (tbs (.slice S27 l26.length c28) 2)) :: (lvRes [v43] ++ (tbRes l26 S27 c28 ++ (lvRes [vbad] ++ lvRes [v5])))) := hm42
 clear hm42
 clear hat_ hA_ hB_ hbz
 refine ⟨_, rfl, (hm44.sub (.cons_cons _ (.cons_cons _ ((List.Sublist.refl _).trans (List.sublist_append_right _ _))))), ?_⟩
 refine glP rfl ?_
 refine glCall (i := 2) 31 [.agg (tbs (.slice S27 l26.length c28) 2).toArray, .agg (hcs v43.h v43.A v43.c v43.B v43.d).toArray] [] [] (by kernel_rfl) rfl (by kernel_rfl) (wn rfl) rfl (litEv (by kernel_rfl)) (litArgs (by kernel_rfl)) (by exact vadd_any l26 S27 c28 2 v43.h v43.A v43.c v43.B v43.d _ (Mem.tb ((Mem.tailN (T := (lvRes [v43] ++ (tbRes l26 S27 c28 ++ (lvRes [vbad] ++ lvRes [v5])))) 2 hm44 rfl).sub (L' := tbRes l26 S27 c28) ((List.sublist_append_left _ _).trans (List.sublist_append_right _ _)))) (lenT hvl26 (by decide)) ((Mem.lv ((Mem.tailN (T := (lvRes [v43] ++ (tbRes l26 S27 c28 ++ (lvRes [vbad] ++ lvRes [v5])))) 2 hm44 rfl).sub (L' := lvRes [v43]) (List.sublist_append_left _ _))) v43 List.mem_cons_self).a ((Mem.lv ((Mem.tailN (T := (lvRes [v43] ++ (tbRes l26 S27 c28 ++ (lvRes [vbad] ++ lvRes [v5])))) 2 hm44 rfl).sub (L' := lvRes [v43]) (List.sublist_append_left _ _))) v43 List.mem_cons_self).b (fit_eq hv43_ fit6) (goodT hvl26 (by decide +kernel)) (by decide)) ?_
 have hE_ : addV (vrs l26) 2 v43.h = (sT2, 3, 2, 0) := by rw [hvl26, hv43_]; kernel_rfl
 rintro e w45 ⟨l47, S48, c49, rfl, hvl47, hT_, hN_, hbz⟩
 rw [hE_] at hvl47 ⊢
 clear hE_
 have hm46 : Mem w w45 ([.arr g7 25 ([.int .i64 v5.h.tick, .slice v5.A v5.h.counts.length v5.c, .int .i64 v5.h.depth, .slice Ab 1 v5.d]), .arr g32 44 (tbs (.slice S27 l26.length c28) 2)] ++ (tbRes l47 S48 c49 ++ (lvRes [v43] ++ (tbRes l26 S27 c28 ++ (lvRes [vbad] ++ lvRes [v5]))))) := Mem.newTb (M := (lvRes [v43] ++ (tbRes l26 S27 c28 ++ (lvRes [vbad] ++ lvRes [v5])))) [.arr g7 25 ([.int .i64 v5.h.tick, .slice v5.A v5.h.counts.length v5.c, .int .i64 v5.h.depth, .slice Ab 1 v5.d]), .arr g32 44 (tbs (.slice S27 l26.length c28) 2)] hm44 hbz hT_ hN_ (hdTb ((List.sublist_append_left _ _).trans (List.sublist_append_right _ _))) (mutApp (fun _ h_ => lvRes_mut h_) (mutApp (fun _ h_ => tbRes_mut h_) (mutApp (fun _ h_ => lvRes_mut h_) (fun _ h_ => lvRes_mut h_))))
 have hm52 : Mem w w45 ((.arr g7 25 ([.int .i64 v5.h.tick, .slice v5.A v5.h.counts.length v5.c, .int .i64 v5.h.depth, .slice Ab 1 v5.d])) :: (.arr g32 44 (tbs (.slice S27 l26.length c28) 2)) :: (tbRes l47 S48 c49 ++ (lvRes [v43] ++ (tbRes l26 S27 c28 ++ (lvRes [vbad] ++ lvRes [v5]))))) := hm46
 clear hm46
 clear hT_ hN_ hbz
 refine ⟨_, rfl, (hm52.sub (.cons_cons _ (.cons_cons _ (((List.Sublist.refl _).trans (List.sublist_append_right _ _)).trans (List.sublist_append_right _ _))))), ?_⟩
 refine glP rfl ?_
 refine glTurn ((.arr g7 25 ([.int .i64 v5.h.tick, .slice v5.A v5.h.counts.length v5.c, .int .i64 v5.h.depth, .slice Ab 1 v5.d])) :: (tbRes l47 S48 c49 ++ (lvRes [v43] ++ (tbRes l26 S27 c28 ++ (lvRes [vbad] ++ lvRes [v5]))))) (by kernel_rfl) ?_
 refine mk_ (i := 3) (v := .tuple #[.agg (tbs (.slice S48 l47.length c49) 3).toArray, .int .i64 2, .int .i64 0]) rfl rfl (fun _ _ _ h => h) (hm52.sub (.cons_cons _ (.cons _ (List.Sublist.refl _)))) rfl ?_
 refine mk_ (i := 4) (v := .agg (tbs (.slice S48 l47.length c49) 3).toArray) rfl rfl (fun _ _ _ h => h) (hm52.sub (.cons_cons _ (.cons _ (List.Sublist.refl _)))) rfl ?_
 refine mk_ (i := 5) (v := .int .i64 2) rfl rfl (fun _ _ _ h => h) (hm52.sub (.cons_cons _ (.cons _ (List.Sublist.refl _)))) rfl ?_
 refine mk_ (i := 6) (v := .int .i64 0) rfl rfl (fun _ _ _ h => h) (hm52.sub (.cons_cons _ (.cons _ (List.Sublist.refl _)))) rfl ?_
 refine mgStore 1 Ty.ag_voxel_api_Versions hm52 rfl (by kernel_rfl) (i := 7) (cs := tbs (.slice S48 l47.length c49) 3) rfl (wn rfl) rfl (litEv (by kernel_rfl)) (litEv (by kernel_rfl)) rfl rfl (by kernel_rfl) (fun w_ h_ => (h_.sub (.cons_cons _ (.cons _ (List.Sublist.refl _))))) ?_
 intro w54 hm53
 clear hm52
 try simp only [List.cons_append, List.nil_append, List.set_cons_succ, List.set_cons_zero] at hm53
 refine mNone rfl ?_
 refine mk_ (i := 8) (v := .int .i64 2) rfl rfl (fun _ _ _ h => h) (hm53.sub (.cons_cons _ (.cons _ (List.Sublist.refl _)))) rfl ?_
 refine mk_ (i := 9) (v := .int .i64 0) rfl rfl (fun _ _ _ h => h) (hm53.sub (.cons_cons _ (.cons _ (List.Sublist.refl _)))) rfl ?_
 refine mgDone (by kernel_rfl) ?_
 refine then_normal (hK38 _ _ ?_)
 refine wpPrune [(0, .bool false), (1, .pointer (some ⟨g7, 0, none⟩)), (2, .pointer (some ⟨g32, 0, none⟩)), (3, .int .i64 1), (4, .int .i64 0), (5, .int .i64 2), (6, .int .i64 0)] ⟨litGet (by kernel_rfl), ⟨litGet (by kernel_rfl), ⟨litGet (by kernel_rfl), ⟨litGet (by kernel_rfl), ⟨litGet (by kernel_rfl), ⟨litGet (by kernel_rfl), ⟨litGet (by kernel_rfl), trivial⟩⟩⟩⟩⟩⟩⟩ (fun X55 => ?_)
 have hm56 : Mem w w54 ((.arr g7 25 ([.int .i64 v5.h.tick, .slice v5.A v5.h.counts.length v5.c, .int .i64 v5.h.depth, .slice Ab 1 v5.d])) :: (.arr g32 44 (tbs (.slice S48 l47.length c49) 3)) :: (tbRes l47 S48 c49 ++ (lvRes [vbad] ++ lvRes [v5]))) := hm53.sub (List.Sublist.cons_cons _ (List.Sublist.cons_cons _ (List.Sublist.append (List.Sublist.refl _) (((List.Sublist.append (List.Sublist.refl _) (List.Sublist.refl _)).trans (List.sublist_append_right _ _)).trans (List.sublist_append_right _ _)))))
 clear hm53
 refine gwCut (fun a_ w_ => Fr a_ 195 [(0, .bool false), (1, .pointer (some ⟨g7, 0, none⟩)), (2, .pointer (some ⟨g32, 0, none⟩)), (3, .int .i64 1), (4, .int .i64 0), (5, .int .i64 2), (6, .int .i64 0), (9, .int .i64 22)] ∧ Mem w w_ ((.arr g7 25 ([.int .i64 v5.h.tick, .slice v5.A v5.h.counts.length v5.c, .int .i64 v5.h.depth, .slice Ab 1 v5.d])) :: (.arr g32 44 (tbs (.slice S48 l47.length c49) 3)) :: (tbRes l47 S48 c49 ++ (lvRes [vbad] ++ lvRes [v5])))) ?_ ?_
 · refine mgStartM ((.arr g7 25 ([.int .i64 v5.h.tick, .slice v5.A v5.h.counts.length v5.c, .int .i64 v5.h.depth, .slice Ab 1 v5.d])) :: (.arr g32 44 (tbs (.slice S48 l47.length c49) 3)) :: (tbRes l47 S48 c49 ++ (lvRes [vbad] ++ lvRes [v5]))) hm56 (by kernel_rfl) ?_
   intro w58 hm57
   clear hm56
   refine mgTake (i := 0) (v := .agg (tbs (.slice S48 l47.length c49) 3).toArray) rfl (by kernel_rfl) (wn rfl) (fun _ _ _ h => h) (hm57.sub (.cons_cons _ (.cons_cons _ (List.Sublist.refl _)))) (fun w_ h_ => gLoadAg (vs := tbs (.slice S48 l47.length c49) 3) (k := 0) 1 h_ rfl (by kernel_rfl) (by kernel_rfl) (.tmp 2) Ty.ag_voxel_api_Versions rfl (litEv (by kernel_rfl))) ?_
   refine mP rfl ?_
   refine mgFork (i := 1) (j := 7) (by kernel_rfl) (by kernel_rfl) (by kernel_rfl) ?_ ?_
   · refine mgiCall (i := 1) 30 [.int .i64 5] [] [] rfl (by kernel_rfl) (wn rfl) rfl (litEv (by kernel_rfl)) (litArgs (by kernel_rfl)) (header_any 5 _) ?_
     rintro e w59 ⟨v61, hv61_, rfl, hat_, hA_, hB_, hbz⟩
     have hm60 : Mem w w59 ([.arr g7 25 ([.int .i64 v5.h.tick, .slice v5.A v5.h.counts.length v5.c, .int .i64 v5.h.depth, .slice Ab 1 v5.d]), .arr g32 44 (tbs (.slice S48 l47.length c49) 3)] ++ (lvRes [v61] ++ (tbRes l47 S48 c49 ++ (lvRes [vbad] ++ lvRes [v5])))) := Mem.newLv (lx := []) (M := (tbRes l47 S48 c49 ++ (lvRes [vbad] ++ lvRes [v5]))) [.arr g7 25 ([.int .i64 v5.h.tick, .slice v5.A v5.h.counts.length v5.c, .int .i64 v5.h.depth, .slice Ab 1 v5.d]), .arr g32 44 (tbs (.slice S48 l47.length c49) 3)] hm57 hbz hat_ (Or.inr ⟨hA_, hB_⟩) hdNone (mutApp (fun _ h_ => tbRes_mut h_) (mutApp (fun _ h_ => lvRes_mut h_) (fun _ h_ => lvRes_mut h_)))
     have hm62 : Mem w w59 ((.arr g7 25 ([.int .i64 v5.h.tick, .slice v5.A v5.h.counts.length v5.c, .int .i64 v5.h.depth, .slice Ab 1 v5.d])) :: (.arr g32 44 (tbs (.slice S48 l47.length c49) 3)) :: (lvRes [v61] ++ (tbRes l47 S48 c49 ++ (lvRes [vbad] ++ lvRes [v5])))) := hm60
     clear hm60
     clear hat_ hA_ hB_ hbz
     refine ⟨_, rfl, (hm62.sub (.cons_cons _ (.cons_cons _ ((List.Sublist.refl _).trans (List.sublist_append_right _ _))))), ?_⟩
     refine mP rfl ?_
     refine mgFork (i := 2) (j := 7) (by kernel_rfl) (by kernel_rfl) (by kernel_rfl) ?_ ?_
     · refine mgiCall (i := 2) 31 [.agg (tbs (.slice S48 l47.length c49) 3).toArray, .agg (hcs v61.h v61.A v61.c v61.B v61.d).toArray] [] [] rfl (by kernel_rfl) (wn rfl) rfl (litEv (by kernel_rfl)) (litArgs (by kernel_rfl)) (by exact vadd_any l47 S48 c49 3 v61.h v61.A v61.c v61.B v61.d _ (Mem.tb ((Mem.tailN (T := (lvRes [v61] ++ (tbRes l47 S48 c49 ++ (lvRes [vbad] ++ lvRes [v5])))) 2 hm62 rfl).sub (L' := tbRes l47 S48 c49) ((List.sublist_append_left _ _).trans (List.sublist_append_right _ _)))) (lenT hvl47 (by decide)) ((Mem.lv ((Mem.tailN (T := (lvRes [v61] ++ (tbRes l47 S48 c49 ++ (lvRes [vbad] ++ lvRes [v5])))) 2 hm62 rfl).sub (L' := lvRes [v61]) (List.sublist_append_left _ _))) v61 List.mem_cons_self).a ((Mem.lv ((Mem.tailN (T := (lvRes [v61] ++ (tbRes l47 S48 c49 ++ (lvRes [vbad] ++ lvRes [v5])))) 2 hm62 rfl).sub (L' := lvRes [v61]) (List.sublist_append_left _ _))) v61 List.mem_cons_self).b (fit_eq hv61_ fit5) (goodT hvl47 (by decide +kernel)) (by decide)) ?_
       have hE_ : addV (vrs l47) 3 v61.h = (sT0, 0, 0, 22) := by rw [hvl47, hv61_]; kernel_rfl
       rintro e w63 ⟨l65, S66, c67, rfl, hvl65, hT_, hN_, hbz⟩
       rw [hE_] at hvl65 ⊢
       clear hE_
       have hm64 : Mem w w63 ([.arr g7 25 ([.int .i64 v5.h.tick, .slice v5.A v5.h.counts.length v5.c, .int .i64 v5.h.depth, .slice Ab 1 v5.d]), .arr g32 44 (tbs (.slice S48 l47.length c49) 3)] ++ (tbRes l65 S66 c67 ++ (lvRes [v61] ++ (tbRes l47 S48 c49 ++ (lvRes [vbad] ++ lvRes [v5]))))) := Mem.newTb (M := (lvRes [v61] ++ (tbRes l47 S48 c49 ++ (lvRes [vbad] ++ lvRes [v5])))) [.arr g7 25 ([.int .i64 v5.h.tick, .slice v5.A v5.h.counts.length v5.c, .int .i64 v5.h.depth, .slice Ab 1 v5.d]), .arr g32 44 (tbs (.slice S48 l47.length c49) 3)] hm62 hbz hT_ hN_ (hdTb ((List.sublist_append_left _ _).trans (List.sublist_append_right _ _))) (mutApp (fun _ h_ => lvRes_mut h_) (mutApp (fun _ h_ => tbRes_mut h_) (mutApp (fun _ h_ => lvRes_mut h_) (fun _ h_ => lvRes_mut h_))))
       have hm70 : Mem w w63 ((.arr g7 25 ([.int .i64 v5.h.tick, .slice v5.A v5.h.counts.length v5.c, .int .i64 v5.h.depth, .slice Ab 1 v5.d])) :: (.arr g32 44 (tbs (.slice S48 l47.length c49) 3)) :: (tbRes l65 S66 c67 ++ (lvRes [v61] ++ (tbRes l47 S48 c49 ++ (lvRes [vbad] ++ lvRes [v5]))))) := hm64
       clear hm64
       clear hT_ hN_ hbz
       refine ⟨_, rfl, (hm70.sub (.cons_cons _ (.cons_cons _ (((List.Sublist.refl _).trans (List.sublist_append_right _ _)).trans (List.sublist_append_right _ _))))), ?_⟩
       refine mP rfl ?_
       refine mk_ (i := 3) (v := .tuple #[.agg (tbs (.slice S66 l65.length c67) 0).toArray, .int .i64 0, .int .i64 22]) rfl rfl (fun _ _ _ h => h) (hm70.sub (.cons_cons _ (.cons_cons _ (((List.Sublist.refl _).trans (List.sublist_append_right _ _)).trans (List.sublist_append_right _ _))))) rfl ?_
       refine mk_ (i := 4) (v := .agg (tbs (.slice S66 l65.length c67) 0).toArray) rfl rfl (fun _ _ _ h => h) (hm70.sub (.cons_cons _ (.cons_cons _ (((List.Sublist.refl _).trans (List.sublist_append_right _ _)).trans (List.sublist_append_right _ _))))) rfl ?_
       refine mk_ (i := 5) (v := .int .i64 0) rfl rfl (fun _ _ _ h => h) (hm70.sub (.cons_cons _ (.cons_cons _ (((List.Sublist.refl _).trans (List.sublist_append_right _ _)).trans (List.sublist_append_right _ _))))) rfl ?_
       refine mk_ (i := 6) (v := .int .i64 22) rfl rfl (fun _ _ _ h => h) (hm70.sub (.cons_cons _ (.cons_cons _ (((List.Sublist.refl _).trans (List.sublist_append_right _ _)).trans (List.sublist_append_right _ _))))) rfl ?_
       refine mgAlloc (i := 7) (z := [.slice none 0 0, .int .i64 0]) Ty.ag_voxel_api_Versions hm70 (fun w_ h_ => (h_.sub (.cons_cons _ (.cons_cons _ (((List.Sublist.refl _).trans (List.sublist_append_right _ _)).trans (List.sublist_append_right _ _)))))) (by kernel_rfl) rfl (wn rfl) rfl ?_
       intro g71 w73 hm72
       clear hm70
       try simp only [List.cons_append, List.nil_append, List.set_cons_succ, List.set_cons_zero] at hm72
       replace hm72 := Mem.insAt (M := ((.arr g7 25 ([.int .i64 v5.h.tick, .slice v5.A v5.h.counts.length v5.c, .int .i64 v5.h.depth, .slice Ab 1 v5.d])) :: (.arr g32 44 (tbs (.slice S48 l47.length c49) 3)) :: (tbRes l65 S66 c67 ++ (lvRes [v61] ++ (tbRes l47 S48 c49 ++ (lvRes [vbad] ++ lvRes [v5])))))) 2 hm72
       simp only [List.insertIdx_succ_cons, List.insertIdx_zero] at hm72
       refine mP rfl ?_
       refine mgStore 2 Ty.ag_voxel_api_Versions hm72 rfl (by kernel_rfl) (i := 8) (cs := tbs (.slice S66 l65.length c67) 0) rfl (wn rfl) rfl (litEv (by kernel_rfl)) (litEv (by kernel_rfl)) rfl rfl (by kernel_rfl) (fun w_ h_ => (h_.sub (.cons_cons _ (.cons_cons _ (.cons _ (((List.Sublist.refl _).trans (List.sublist_append_right _ _)).trans (List.sublist_append_right _ _))))))) ?_
       intro w75 hm74
       clear hm72
       try simp only [List.cons_append, List.nil_append, List.set_cons_succ, List.set_cons_zero] at hm74
       refine mNone rfl ?_
       refine mk_ (i := 9) (v := .int .i64 0) rfl rfl (fun _ _ _ h => h) (hm74.sub (.cons_cons _ (.cons_cons _ (.cons _ (((List.Sublist.refl _).trans (List.sublist_append_right _ _)).trans (List.sublist_append_right _ _)))))) rfl ?_
       refine mk_ (i := 10) (v := .int .i64 22) rfl rfl (fun _ _ _ h => h) (hm74.sub (.cons_cons _ (.cons_cons _ (.cons _ (((List.Sublist.refl _).trans (List.sublist_append_right _ _)).trans (List.sublist_append_right _ _)))))) rfl ?_
       refine mgDone (by kernel_rfl) ?_
       refine then_normal ?_
       exact ⟨⟨litSize, rfl, ⟨litGet (by kernel_rfl), ⟨litGet (by kernel_rfl), ⟨litGet (by kernel_rfl), ⟨litGet (by kernel_rfl), ⟨litGet (by kernel_rfl), ⟨litGet (by kernel_rfl), ⟨litGet (by kernel_rfl), ⟨litGet (by kernel_rfl), trivial⟩⟩⟩⟩⟩⟩⟩⟩⟩, (hm74.sub (.cons_cons _ (.cons_cons _ (.cons _ (((List.Sublist.refl _).trans (List.sublist_append_right _ _)).trans (List.sublist_append_right _ _))))))⟩
     refine mgiAlloc (i := 7) (z := [.slice none 0 0, .int .i64 0]) Ty.ag_voxel_api_Versions hm62 (fun w_ h_ => (h_.sub (.cons_cons _ (.cons_cons _ ((List.Sublist.refl _).trans (List.sublist_append_right _ _)))))) rfl (wn rfl) rfl ?_
     intro g76 w78 hm77
     clear hm62
     try simp only [List.cons_append, List.nil_append, List.set_cons_succ, List.set_cons_zero] at hm77
     replace hm77 := Mem.insAt (M := ((.arr g7 25 ([.int .i64 v5.h.tick, .slice v5.A v5.h.counts.length v5.c, .int .i64 v5.h.depth, .slice Ab 1 v5.d])) :: (.arr g32 44 (tbs (.slice S48 l47.length c49) 3)) :: (lvRes [v61] ++ (tbRes l47 S48 c49 ++ (lvRes [vbad] ++ lvRes [v5]))))) 2 hm77
     simp only [List.insertIdx_succ_cons, List.insertIdx_zero] at hm77
     refine mP rfl ?_
     refine mgCall (i := 2) 31 [.agg (tbs (.slice S48 l47.length c49) 3).toArray, .agg (hcs v61.h v61.A v61.c v61.B v61.d).toArray] [] [] (by kernel_rfl) rfl (by kernel_rfl) (wn rfl) rfl (litEv (by kernel_rfl)) (litArgs (by kernel_rfl)) (by exact vadd_any l47 S48 c49 3 v61.h v61.A v61.c v61.B v61.d _ (Mem.tb ((Mem.tailN (T := (lvRes [v61] ++ (tbRes l47 S48 c49 ++ (lvRes [vbad] ++ lvRes [v5])))) 3 hm77 rfl).sub (L' := tbRes l47 S48 c49) ((List.sublist_append_left _ _).trans (List.sublist_append_right _ _)))) (lenT hvl47 (by decide)) ((Mem.lv ((Mem.tailN (T := (lvRes [v61] ++ (tbRes l47 S48 c49 ++ (lvRes [vbad] ++ lvRes [v5])))) 3 hm77 rfl).sub (L' := lvRes [v61]) (List.sublist_append_left _ _))) v61 List.mem_cons_self).a ((Mem.lv ((Mem.tailN (T := (lvRes [v61] ++ (tbRes l47 S48 c49 ++ (lvRes [vbad] ++ lvRes [v5])))) 3 hm77 rfl).sub (L' := lvRes [v61]) (List.sublist_append_left _ _))) v61 List.mem_cons_self).b (fit_eq hv61_ fit5) (goodT hvl47 (by decide +kernel)) (by decide)) ?_
     have hE_ : addV (vrs l47) 3 v61.h = (sT0, 0, 0, 22) := by rw [hvl47, hv61_]; kernel_rfl
     rintro e w79 ⟨l81, S82, c83, rfl, hvl81, hT_, hN_, hbz⟩
     rw [hE_] at hvl81 ⊢
     clear hE_
     have hm80 : Mem w w79 ([.arr g7 25 ([.int .i64 v5.h.tick, .slice v5.A v5.h.counts.length v5.c, .int .i64 v5.h.depth, .slice Ab 1 v5.d]), .arr g32 44 (tbs (.slice S48 l47.length c49) 3), .arr g76 44 ([.slice none 0 0, .int .i64 0])] ++ (tbRes l81 S82 c83 ++ (lvRes [v61] ++ (tbRes l47 S48 c49 ++ (lvRes [vbad] ++ lvRes [v5]))))) := Mem.newTb (M := (lvRes [v61] ++ (tbRes l47 S48 c49 ++ (lvRes [vbad] ++ lvRes [v5])))) [.arr g7 25 ([.int .i64 v5.h.tick, .slice v5.A v5.h.counts.length v5.c, .int .i64 v5.h.depth, .slice Ab 1 v5.d]), .arr g32 44 (tbs (.slice S48 l47.length c49) 3), .arr g76 44 ([.slice none 0 0, .int .i64 0])] hm77 hbz hT_ hN_ (hdTb ((List.sublist_append_left _ _).trans (List.sublist_append_right _ _))) (mutApp (fun _ h_ => lvRes_mut h_) (mutApp (fun _ h_ => tbRes_mut h_) (mutApp (fun _ h_ => lvRes_mut h_) (fun _ h_ => lvRes_mut h_))))
     have hm86 : Mem w w79 ((.arr g7 25 ([.int .i64 v5.h.tick, .slice v5.A v5.h.counts.length v5.c, .int .i64 v5.h.depth, .slice Ab 1 v5.d])) :: (.arr g32 44 (tbs (.slice S48 l47.length c49) 3)) :: (.arr g76 44 ([.slice none 0 0, .int .i64 0])) :: (tbRes l81 S82 c83 ++ (lvRes [v61] ++ (tbRes l47 S48 c49 ++ (lvRes [vbad] ++ lvRes [v5]))))) := hm80
     clear hm80
     clear hT_ hN_ hbz
     refine ⟨_, rfl, (hm86.sub (.cons_cons _ (.cons_cons _ (.cons _ (((List.Sublist.refl _).trans (List.sublist_append_right _ _)).trans (List.sublist_append_right _ _)))))), ?_⟩
     refine mP rfl ?_
     refine mk_ (i := 3) (v := .tuple #[.agg (tbs (.slice S82 l81.length c83) 0).toArray, .int .i64 0, .int .i64 22]) rfl rfl (fun _ _ _ h => h) (hm86.sub (.cons_cons _ (.cons_cons _ (.cons _ (((List.Sublist.refl _).trans (List.sublist_append_right _ _)).trans (List.sublist_append_right _ _)))))) rfl ?_
     refine mk_ (i := 4) (v := .agg (tbs (.slice S82 l81.length c83) 0).toArray) rfl rfl (fun _ _ _ h => h) (hm86.sub (.cons_cons _ (.cons_cons _ (.cons _ (((List.Sublist.refl _).trans (List.sublist_append_right _ _)).trans (List.sublist_append_right _ _)))))) rfl ?_
     refine mk_ (i := 5) (v := .int .i64 0) rfl rfl (fun _ _ _ h => h) (hm86.sub (.cons_cons _ (.cons_cons _ (.cons _ (((List.Sublist.refl _).trans (List.sublist_append_right _ _)).trans (List.sublist_append_right _ _)))))) rfl ?_
     refine mk_ (i := 6) (v := .int .i64 22) rfl rfl (fun _ _ _ h => h) (hm86.sub (.cons_cons _ (.cons_cons _ (.cons _ (((List.Sublist.refl _).trans (List.sublist_append_right _ _)).trans (List.sublist_append_right _ _)))))) rfl ?_
     refine mgStore 2 Ty.ag_voxel_api_Versions hm86 rfl (by kernel_rfl) (i := 8) (cs := tbs (.slice S82 l81.length c83) 0) rfl (wn rfl) rfl (litEv (by kernel_rfl)) (litEv (by kernel_rfl)) rfl rfl (by kernel_rfl) (fun w_ h_ => (h_.sub (.cons_cons _ (.cons_cons _ (.cons _ (((List.Sublist.refl _).trans (List.sublist_append_right _ _)).trans (List.sublist_append_right _ _))))))) ?_
     intro w88 hm87
     clear hm86
     try simp only [List.cons_append, List.nil_append, List.set_cons_succ, List.set_cons_zero] at hm87
     refine mNone rfl ?_
     refine mk_ (i := 9) (v := .int .i64 0) rfl rfl (fun _ _ _ h => h) (hm87.sub (.cons_cons _ (.cons_cons _ (.cons _ (((List.Sublist.refl _).trans (List.sublist_append_right _ _)).trans (List.sublist_append_right _ _)))))) rfl ?_
     refine mk_ (i := 10) (v := .int .i64 22) rfl rfl (fun _ _ _ h => h) (hm87.sub (.cons_cons _ (.cons_cons _ (.cons _ (((List.Sublist.refl _).trans (List.sublist_append_right _ _)).trans (List.sublist_append_right _ _)))))) rfl ?_
     refine mgDone (by kernel_rfl) ?_
     refine then_normal ?_
     exact ⟨⟨litSize, rfl, ⟨litGet (by kernel_rfl), ⟨litGet (by kernel_rfl), ⟨litGet (by kernel_rfl), ⟨litGet (by kernel_rfl), ⟨litGet (by kernel_rfl), ⟨litGet (by kernel_rfl), ⟨litGet (by kernel_rfl), ⟨litGet (by kernel_rfl), trivial⟩⟩⟩⟩⟩⟩⟩⟩⟩, (hm87.sub (.cons_cons _ (.cons_cons _ (.cons _ (((List.Sublist.refl _).trans (List.sublist_append_right _ _)).trans (List.sublist_append_right _ _))))))⟩
   refine mgiAlloc (i := 7) (z := [.slice none 0 0, .int .i64 0]) Ty.ag_voxel_api_Versions hm57 (fun w_ h_ => (h_.sub (.cons_cons _ (.cons_cons _ (List.Sublist.refl _))))) rfl (wn rfl) rfl ?_
   intro g89 w91 hm90
   clear hm57
   try simp only [List.cons_append, List.nil_append, List.set_cons_succ, List.set_cons_zero] at hm90
   replace hm90 := Mem.insAt (M := ((.arr g7 25 ([.int .i64 v5.h.tick, .slice v5.A v5.h.counts.length v5.c, .int .i64 v5.h.depth, .slice Ab 1 v5.d])) :: (.arr g32 44 (tbs (.slice S48 l47.length c49) 3)) :: (tbRes l47 S48 c49 ++ (lvRes [vbad] ++ lvRes [v5])))) 2 hm90
   simp only [List.insertIdx_succ_cons, List.insertIdx_zero] at hm90
   refine mP rfl ?_
   refine mgCall (i := 1) 30 [.int .i64 5] [] [] (by kernel_rfl) rfl (by kernel_rfl) (wn rfl) rfl (litEv (by kernel_rfl)) (litArgs (by kernel_rfl)) (header_any 5 _) ?_
   rintro e w92 ⟨v94, hv94_, rfl, hat_, hA_, hB_, hbz⟩
   have hm93 : Mem w w92 ([.arr g7 25 ([.int .i64 v5.h.tick, .slice v5.A v5.h.counts.length v5.c, .int .i64 v5.h.depth, .slice Ab 1 v5.d]), .arr g32 44 (tbs (.slice S48 l47.length c49) 3), .arr g89 44 ([.slice none 0 0, .int .i64 0])] ++ (lvRes [v94] ++ (tbRes l47 S48 c49 ++ (lvRes [vbad] ++ lvRes [v5])))) := Mem.newLv (lx := []) (M := (tbRes l47 S48 c49 ++ (lvRes [vbad] ++ lvRes [v5]))) [.arr g7 25 ([.int .i64 v5.h.tick, .slice v5.A v5.h.counts.length v5.c, .int .i64 v5.h.depth, .slice Ab 1 v5.d]), .arr g32 44 (tbs (.slice S48 l47.length c49) 3), .arr g89 44 ([.slice none 0 0, .int .i64 0])] hm90 hbz hat_ (Or.inr ⟨hA_, hB_⟩) hdNone (mutApp (fun _ h_ => tbRes_mut h_) (mutApp (fun _ h_ => lvRes_mut h_) (fun _ h_ => lvRes_mut h_)))
   have hm95 : Mem w w92 ((.arr g7 25 ([.int .i64 v5.h.tick, .slice v5.A v5.h.counts.length v5.c, .int .i64 v5.h.depth, .slice Ab 1 v5.d])) :: (.arr g32 44 (tbs (.slice S48 l47.length c49) 3)) :: (.arr g89 44 ([.slice none 0 0, .int .i64 0])) :: (lvRes [v94] ++ (tbRes l47 S48 c49 ++ (lvRes [vbad] ++ lvRes [v5])))) := hm93
   clear hm93
   clear hat_ hA_ hB_ hbz
   refine ⟨_, rfl, (hm95.sub (.cons_cons _ (.cons_cons _ (.cons _ ((List.Sublist.refl _).trans (List.sublist_append_right _ _)))))), ?_⟩
   refine mP rfl ?_
   refine mgCall (i := 2) 31 [.agg (tbs (.slice S48 l47.length c49) 3).toArray, .agg (hcs v94.h v94.A v94.c v94.B v94.d).toArray] [] [] (by kernel_rfl) rfl (by kernel_rfl) (wn rfl) rfl (litEv (by kernel_rfl)) (litArgs (by kernel_rfl)) (by exact vadd_any l47 S48 c49 3 v94.h v94.A v94.c v94.B v94.d _ (Mem.tb ((Mem.tailN (T := (lvRes [v94] ++ (tbRes l47 S48 c49 ++ (lvRes [vbad] ++ lvRes [v5])))) 3 hm95 rfl).sub (L' := tbRes l47 S48 c49) ((List.sublist_append_left _ _).trans (List.sublist_append_right _ _)))) (lenT hvl47 (by decide)) ((Mem.lv ((Mem.tailN (T := (lvRes [v94] ++ (tbRes l47 S48 c49 ++ (lvRes [vbad] ++ lvRes [v5])))) 3 hm95 rfl).sub (L' := lvRes [v94]) (List.sublist_append_left _ _))) v94 List.mem_cons_self).a ((Mem.lv ((Mem.tailN (T := (lvRes [v94] ++ (tbRes l47 S48 c49 ++ (lvRes [vbad] ++ lvRes [v5])))) 3 hm95 rfl).sub (L' := lvRes [v94]) (List.sublist_append_left _ _))) v94 List.mem_cons_self).b (fit_eq hv94_ fit5) (goodT hvl47 (by decide +kernel)) (by decide)) ?_
   have hE_ : addV (vrs l47) 3 v94.h = (sT0, 0, 0, 22) := by rw [hvl47, hv94_]; kernel_rfl
   rintro e w96 ⟨l98, S99, c100, rfl, hvl98, hT_, hN_, hbz⟩
   rw [hE_] at hvl98 ⊢
   clear hE_
   have hm97 : Mem w w96 ([.arr g7 25 ([.int .i64 v5.h.tick, .slice v5.A v5.h.counts.length v5.c, .int .i64 v5.h.depth, .slice Ab 1 v5.d]), .arr g32 44 (tbs (.slice S48 l47.length c49) 3), .arr g89 44 ([.slice none 0 0, .int .i64 0])] ++ (tbRes l98 S99 c100 ++ (lvRes [v94] ++ (tbRes l47 S48 c49 ++ (lvRes [vbad] ++ lvRes [v5]))))) := Mem.newTb (M := (lvRes [v94] ++ (tbRes l47 S48 c49 ++ (lvRes [vbad] ++ lvRes [v5])))) [.arr g7 25 ([.int .i64 v5.h.tick, .slice v5.A v5.h.counts.length v5.c, .int .i64 v5.h.depth, .slice Ab 1 v5.d]), .arr g32 44 (tbs (.slice S48 l47.length c49) 3), .arr g89 44 ([.slice none 0 0, .int .i64 0])] hm95 hbz hT_ hN_ (hdTb ((List.sublist_append_left _ _).trans (List.sublist_append_right _ _))) (mutApp (fun _ h_ => lvRes_mut h_) (mutApp (fun _ h_ => tbRes_mut h_) (mutApp (fun _ h_ => lvRes_mut h_) (fun _ h_ => lvRes_mut h_))))
   have hm103 : Mem w w96 ((.arr g7 25 ([.int .i64 v5.h.tick, .slice v5.A v5.h.counts.length v5.c, .int .i64 v5.h.depth, .slice Ab 1 v5.d])) :: (.arr g32 44 (tbs (.slice S48 l47.length c49) 3)) :: (.arr g89 44 ([.slice none 0 0, .int .i64 0])) :: (tbRes l98 S99 c100 ++ (lvRes [v94] ++ (tbRes l47 S48 c49 ++ (lvRes [vbad] ++ lvRes [v5]))))) := hm97
   clear hm97
   clear hT_ hN_ hbz
   refine ⟨_, rfl, (hm103.sub (.cons_cons _ (.cons_cons _ (.cons _ (((List.Sublist.refl _).trans (List.sublist_append_right _ _)).trans (List.sublist_append_right _ _)))))), ?_⟩
   refine mP rfl ?_
   refine mk_ (i := 3) (v := .tuple #[.agg (tbs (.slice S99 l98.length c100) 0).toArray, .int .i64 0, .int .i64 22]) rfl rfl (fun _ _ _ h => h) (hm103.sub (.cons_cons _ (.cons_cons _ (.cons _ (((List.Sublist.refl _).trans (List.sublist_append_right _ _)).trans (List.sublist_append_right _ _)))))) rfl ?_
   refine mk_ (i := 4) (v := .agg (tbs (.slice S99 l98.length c100) 0).toArray) rfl rfl (fun _ _ _ h => h) (hm103.sub (.cons_cons _ (.cons_cons _ (.cons _ (((List.Sublist.refl _).trans (List.sublist_append_right _ _)).trans (List.sublist_append_right _ _)))))) rfl ?_
   refine mk_ (i := 5) (v := .int .i64 0) rfl rfl (fun _ _ _ h => h) (hm103.sub (.cons_cons _ (.cons_cons _ (.cons _ (((List.Sublist.refl _).trans (List.sublist_append_right _ _)).trans (List.sublist_append_right _ _)))))) rfl ?_
   refine mk_ (i := 6) (v := .int .i64 22) rfl rfl (fun _ _ _ h => h) (hm103.sub (.cons_cons _ (.cons_cons _ (.cons _ (((List.Sublist.refl _).trans (List.sublist_append_right _ _)).trans (List.sublist_append_right _ _)))))) rfl ?_
   refine mgStore 2 Ty.ag_voxel_api_Versions hm103 rfl (by kernel_rfl) (i := 8) (cs := tbs (.slice S99 l98.length c100) 0) rfl (wn rfl) rfl (litEv (by kernel_rfl)) (litEv (by kernel_rfl)) rfl rfl (by kernel_rfl) (fun w_ h_ => (h_.sub (.cons_cons _ (.cons_cons _ (.cons _ (((List.Sublist.refl _).trans (List.sublist_append_right _ _)).trans (List.sublist_append_right _ _))))))) ?_
   intro w105 hm104
   clear hm103
   try simp only [List.cons_append, List.nil_append, List.set_cons_succ, List.set_cons_zero] at hm104
   refine mNone rfl ?_
   refine mk_ (i := 9) (v := .int .i64 0) rfl rfl (fun _ _ _ h => h) (hm104.sub (.cons_cons _ (.cons_cons _ (.cons _ (((List.Sublist.refl _).trans (List.sublist_append_right _ _)).trans (List.sublist_append_right _ _)))))) rfl ?_
   refine mk_ (i := 10) (v := .int .i64 22) rfl rfl (fun _ _ _ h => h) (hm104.sub (.cons_cons _ (.cons_cons _ (.cons _ (((List.Sublist.refl _).trans (List.sublist_append_right _ _)).trans (List.sublist_append_right _ _)))))) rfl ?_
   refine mgDone (by kernel_rfl) ?_
   refine then_normal ?_
   exact ⟨⟨litSize, rfl, ⟨litGet (by kernel_rfl), ⟨litGet (by kernel_rfl), ⟨litGet (by kernel_rfl), ⟨litGet (by kernel_rfl), ⟨litGet (by kernel_rfl), ⟨litGet (by kernel_rfl), ⟨litGet (by kernel_rfl), ⟨litGet (by kernel_rfl), trivial⟩⟩⟩⟩⟩⟩⟩⟩⟩, (hm104.sub (.cons_cons _ (.cons_cons _ (.cons _ (((List.Sublist.refl _).trans (List.sublist_append_right _ _)).trans (List.sublist_append_right _ _))))))⟩
 clear hm56
 intro a108 w106 hI_
 obtain ⟨hF_, hm107⟩ := hI_
 obtain ⟨X109, rfl⟩ := frLit hF_
 clear hF_
 refine wp_seq_k fun K110 hK110 => ?_
 refine plStart ?_
 refine litVal (v := .agg (tbs (.slice S48 l47.length c49) 3).toArray) rfl (wn rfl) (gLoadAg (vs := tbs (.slice S48 l47.length c49) 3) (k := 0) 1 hm107 rfl (by kernel_rfl) (by kernel_rfl) (.tmp 2) Ty.ag_voxel_api_Versions rfl (litEv (by kernel_rfl))) rfl (by decide) ?_
 refine plCall (i := 1) 32 [.agg (tbs (.slice S48 l47.length c49) 3).toArray, .int .i64 1] [] [] rfl (by kernel_rfl) (wn rfl) rfl (litEv (by kernel_rfl)) (litArgs (by kernel_rfl)) (by exact pin_any l47 S48 c49 3 1 _ (Mem.tb ((Mem.tailN (T := (tbRes l47 S48 c49 ++ (lvRes [vbad] ++ lvRes [v5]))) 2 hm107 rfl).sub (L' := tbRes l47 S48 c49) (List.sublist_append_left _ _))) (lenT hvl47 (by decide)) (pinsT hvl47 (by decide +kernel))) ?_
 have hE_ : pinV (vrs l47) 3 1 = (sTp, 3, 0) := by rw [hvl47]; kernel_rfl
 rintro e w111 ⟨l113, S114, c115, rfl, hvl113, hT_, hN_, hbz⟩
 rw [hE_] at hvl113 ⊢
 clear hE_
 have hm112 : Mem w w111 ([.arr g7 25 ([.int .i64 v5.h.tick, .slice v5.A v5.h.counts.length v5.c, .int .i64 v5.h.depth, .slice Ab 1 v5.d]), .arr g32 44 (tbs (.slice S48 l47.length c49) 3)] ++ (tbRes l113 S114 c115 ++ (tbRes l47 S48 c49 ++ (lvRes [vbad] ++ lvRes [v5])))) := Mem.newTb (M := (tbRes l47 S48 c49 ++ (lvRes [vbad] ++ lvRes [v5]))) [.arr g7 25 ([.int .i64 v5.h.tick, .slice v5.A v5.h.counts.length v5.c, .int .i64 v5.h.depth, .slice Ab 1 v5.d]), .arr g32 44 (tbs (.slice S48 l47.length c49) 3)] hm107 hbz hT_ hN_ (hdTb (List.sublist_append_left _ _)) (mutApp (fun _ h_ => tbRes_mut h_) (mutApp (fun _ h_ => lvRes_mut h_) (fun _ h_ => lvRes_mut h_)))
 have hm118 : Mem w w111 ((.arr g7 25 ([.int .i64 v5.h.tick, .slice v5.A v5.h.counts.length v5.c, .int .i64 v5.h.depth, .slice Ab 1 v5.d])) :: (.arr g32 44 (tbs (.slice S48 l47.length c49) 3)) :: (tbRes l113 S114 c115 ++ (tbRes l47 S48 c49 ++ (lvRes [vbad] ++ lvRes [v5])))) := hm112
 clear hm112
 clear hm107
 clear hT_ hN_ hbz
 refine ⟨_, rfl, ?_⟩
 refine qP rfl ?_
 refine lk (v := .tuple #[.agg (tbs (.slice S114 l113.length c115) 3).toArray, .int .i64 0]) rfl rfl rfl ?_
 refine lk (v := .agg (tbs (.slice S114 l113.length c115) 3).toArray) rfl rfl rfl ?_
 refine lk (v := .int .i64 0) rfl rfl rfl ?_
 refine plAlloc (z := [.slice none 0 0, .int .i64 0]) Ty.ag_voxel_api_Versions hm118 (i := 5) rfl (wn rfl) rfl ?_
 intro g119 w121 hm120
 clear hm118
 try simp only [List.cons_append, List.nil_append, List.set_cons_succ, List.set_cons_zero] at hm120
 replace hm120 := Mem.insAt (M := ((.arr g7 25 ([.int .i64 v5.h.tick, .slice v5.A v5.h.counts.length v5.c, .int .i64 v5.h.depth, .slice Ab 1 v5.d])) :: (.arr g32 44 (tbs (.slice S48 l47.length c49) 3)) :: (tbRes l113 S114 c115 ++ (tbRes l47 S48 c49 ++ (lvRes [vbad] ++ lvRes [v5]))))) 2 hm120
 simp only [List.insertIdx_succ_cons, List.insertIdx_zero] at hm120
 refine qP rfl ?_
 refine plStore 2 Ty.ag_voxel_api_Versions hm120 rfl (i := 6) (cs := tbs (.slice S114 l113.length c115) 3) rfl (wn rfl) rfl (litEv (by kernel_rfl)) (litEv (by kernel_rfl)) rfl rfl (by kernel_rfl) ?_
 intro w123 hm122
 clear hm120
 try simp only [List.cons_append, List.nil_append, List.set_cons_succ, List.set_cons_zero] at hm122
 refine qNone rfl ?_
 refine lk (v := .int .i64 0) rfl rfl rfl ?_
 refine plD ?_
 refine then_normal (hK110 _ _ ?_)
 refine wp_seq_k fun K124 hK124 => ?_
 refine plStart ?_
 refine litVal (v := .agg (tbs (.slice S114 l113.length c115) 3).toArray) rfl (wn rfl) (gLoadAg (vs := tbs (.slice S114 l113.length c115) 3) (k := 0) 2 hm122 rfl (by kernel_rfl) (by kernel_rfl) (.tmp 10) Ty.ag_voxel_api_Versions rfl (litEv (by kernel_rfl))) rfl (by decide) ?_
 refine plCall (i := 1) 33 [.agg (tbs (.slice S114 l113.length c115) 3).toArray, .int .i64 1] [] [] rfl (by kernel_rfl) (wn rfl) rfl (litEv (by kernel_rfl)) (litArgs (by kernel_rfl)) (by exact collect_any l113 S114 c115 3 1 (by decide) _ (Mem.tb ((Mem.tailN (T := (tbRes l113 S114 c115 ++ (tbRes l47 S48 c49 ++ (lvRes [vbad] ++ lvRes [v5])))) 3 hm122 rfl).sub (L' := tbRes l113 S114 c115) (List.sublist_append_left _ _))) (lenT hvl113 (by decide))) ?_
 have hE_ : collV (vrs l113) 3 1 = (sTp, 3, []) := by rw [hvl113]; kernel_rfl
 rintro e w125 ⟨l127, S128, c129, A130, c131, rfl, hvl127, hrd_, hna_, hT_, hN_, hbz⟩
 rw [hE_] at hvl127 hrd_ ⊢
 clear hE_
 have hm126 : Mem w w125 ([.arr g7 25 ([.int .i64 v5.h.tick, .slice v5.A v5.h.counts.length v5.c, .int .i64 v5.h.depth, .slice Ab 1 v5.d]), .arr g32 44 (tbs (.slice S48 l47.length c49) 3), .arr g119 44 (tbs (.slice S114 l113.length c115) 3)] ++ (tbRes l127 S128 c129 ++ (tbRes l113 S114 c115 ++ (tbRes l47 S48 c49 ++ (lvRes [vbad] ++ lvRes [v5]))))) := Mem.newTb (M := (tbRes l113 S114 c115 ++ (tbRes l47 S48 c49 ++ (lvRes [vbad] ++ lvRes [v5])))) [.arr g7 25 ([.int .i64 v5.h.tick, .slice v5.A v5.h.counts.length v5.c, .int .i64 v5.h.depth, .slice Ab 1 v5.d]), .arr g32 44 (tbs (.slice S48 l47.length c49) 3), .arr g119 44 (tbs (.slice S114 l113.length c115) 3)] hm122 hbz hT_ hN_ (hdTb (List.sublist_append_left _ _)) (mutApp (fun _ h_ => tbRes_mut h_) (mutApp (fun _ h_ => tbRes_mut h_) (mutApp (fun _ h_ => lvRes_mut h_) (fun _ h_ => lvRes_mut h_))))
 have hm132 : Mem w w125 ([.arr g7 25 ([.int .i64 v5.h.tick, .slice v5.A v5.h.counts.length v5.c, .int .i64 v5.h.depth, .slice Ab 1 v5.d]), .arr g32 44 (tbs (.slice S48 l47.length c49) 3), .arr g119 44 (tbs (.slice S114 l113.length c115) 3)] ++ ((.rd A130 1 0 c131 (ics [])) :: (tbRes l127 S128 c129 ++ (tbRes l113 S114 c115 ++ (tbRes l47 S48 c49 ++ (lvRes [vbad] ++ lvRes [v5])))))) := Mem.newRdMid (M0 := (tbRes l113 S114 c115 ++ (tbRes l47 S48 c49 ++ (lvRes [vbad] ++ lvRes [v5])))) [.arr g7 25 ([.int .i64 v5.h.tick, .slice v5.A v5.h.counts.length v5.c, .int .i64 v5.h.depth, .slice Ab 1 v5.d]), .arr g32 44 (tbs (.slice S48 l47.length c49) 3), .arr g119 44 (tbs (.slice S114 l113.length c115) 3)] hm122 hm126 hrd_ hna_ (mutApp (fun _ h_ => tbRes_mut h_) (mutApp (fun _ h_ => tbRes_mut h_) (mutApp (fun _ h_ => tbRes_mut h_) (mutApp (fun _ h_ => lvRes_mut h_) (fun _ h_ => lvRes_mut h_)))))
 clear hm126
 have hm133 : Mem w w125 ((.arr g7 25 ([.int .i64 v5.h.tick, .slice v5.A v5.h.counts.length v5.c, .int .i64 v5.h.depth, .slice Ab 1 v5.d])) :: (.arr g32 44 (tbs (.slice S48 l47.length c49) 3)) :: (.arr g119 44 (tbs (.slice S114 l113.length c115) 3)) :: ((.rd A130 1 0 c131 (ics [])) :: (tbRes l127 S128 c129 ++ (tbRes l113 S114 c115 ++ (tbRes l47 S48 c49 ++ (lvRes [vbad] ++ lvRes [v5])))))) := hm132
 clear hm132
 clear hm122
 clear hT_ hN_ hbz hrd_ hna_
 refine ⟨_, rfl, ?_⟩
 refine qP rfl ?_
 refine lk (v := .tuple #[.agg (tbs (.slice S128 l127.length c129) 3).toArray, .slice A130 0 c131]) rfl rfl rfl ?_
 refine lk (v := .agg (tbs (.slice S128 l127.length c129) 3).toArray) rfl rfl rfl ?_
 refine lk (v := .slice A130 0 c131) rfl rfl rfl ?_
 refine plAlloc (z := [.slice none 0 0, .int .i64 0]) Ty.ag_voxel_api_Versions hm133 (i := 5) rfl (wn rfl) rfl ?_
 intro g134 w136 hm135
 clear hm133
 try simp only [List.cons_append, List.nil_append, List.set_cons_succ, List.set_cons_zero] at hm135
 replace hm135 := Mem.insAt (M := ((.arr g7 25 ([.int .i64 v5.h.tick, .slice v5.A v5.h.counts.length v5.c, .int .i64 v5.h.depth, .slice Ab 1 v5.d])) :: (.arr g32 44 (tbs (.slice S48 l47.length c49) 3)) :: (.arr g119 44 (tbs (.slice S114 l113.length c115) 3)) :: ((.rd A130 1 0 c131 (ics [])) :: (tbRes l127 S128 c129 ++ (tbRes l113 S114 c115 ++ (tbRes l47 S48 c49 ++ (lvRes [vbad] ++ lvRes [v5]))))))) 3 hm135
 simp only [List.insertIdx_succ_cons, List.insertIdx_zero] at hm135
 refine qP rfl ?_
 refine plStore 3 Ty.ag_voxel_api_Versions hm135 rfl (i := 6) (cs := tbs (.slice S128 l127.length c129) 3) rfl (wn rfl) rfl (litEv (by kernel_rfl)) (litEv (by kernel_rfl)) rfl rfl (by kernel_rfl) ?_
 intro w138 hm137
 clear hm135
 try simp only [List.cons_append, List.nil_append, List.set_cons_succ, List.set_cons_zero] at hm137
 refine qNone rfl ?_
 refine lk (v := .slice A130 0 c131) rfl rfl rfl ?_
 refine plD ?_
 refine then_normal (hK124 _ _ ?_)
 have hm139 : Mem w w138 ((.arr g7 25 ([.int .i64 v5.h.tick, .slice v5.A v5.h.counts.length v5.c, .int .i64 v5.h.depth, .slice Ab 1 v5.d])) :: (.arr g32 44 (tbs (.slice S48 l47.length c49) 3)) :: (.arr g134 44 (tbs (.slice S128 l127.length c129) 3)) :: ((.rd A130 1 0 c131 (ics [])) :: (tbRes l127 S128 c129 ++ (tbRes l47 S48 c49 ++ (lvRes [vbad] ++ lvRes [v5]))))) := hm137.sub (List.Sublist.cons_cons _ (List.Sublist.cons_cons _ (List.Sublist.cons _ (List.Sublist.cons_cons _ (List.Sublist.cons_cons _ (List.Sublist.append (List.Sublist.refl _) ((List.Sublist.append (List.Sublist.refl _) (List.Sublist.append (List.Sublist.refl _) (List.Sublist.refl _))).trans (List.sublist_append_right _ _))))))))
 clear hm137
 refine wp_seq_k fun K140 hK140 => ?_
 refine plStart ?_
 refine litVal (v := .agg (tbs (.slice S128 l127.length c129) 3).toArray) rfl (wn rfl) (gLoadAg (vs := tbs (.slice S128 l127.length c129) 3) (k := 0) 2 hm139 rfl (by kernel_rfl) (by kernel_rfl) (.tmp 12) Ty.ag_voxel_api_Versions rfl (litEv (by kernel_rfl))) rfl (by decide) ?_
 refine plCall (i := 1) 34 [.agg (tbs (.slice S128 l127.length c129) 3).toArray, .int .i64 1] [] [] rfl (by kernel_rfl) (wn rfl) rfl (litEv (by kernel_rfl)) (litArgs (by kernel_rfl)) (by exact unpin_any l127 S128 c129 3 1 _ (Mem.tb ((Mem.tailN (T := ((.rd A130 1 0 c131 (ics [])) :: (tbRes l127 S128 c129 ++ (tbRes l47 S48 c49 ++ (lvRes [vbad] ++ lvRes [v5]))))) 3 hm139 rfl).sub (L' := tbRes l127 S128 c129) (List.Sublist.cons _ (List.sublist_append_left _ _)))) (lenT hvl127 (by decide)) (pinsT hvl127 (by decide +kernel))) ?_
 have hE_ : unpinV (vrs l127) 3 1 = (sT2, 3, 0) := by rw [hvl127]; kernel_rfl
 rintro e w141 ⟨l143, S144, c145, rfl, hvl143, hT_, hN_, hbz⟩
 rw [hE_] at hvl143 ⊢
 clear hE_
 have hm142 : Mem w w141 ([.arr g7 25 ([.int .i64 v5.h.tick, .slice v5.A v5.h.counts.length v5.c, .int .i64 v5.h.depth, .slice Ab 1 v5.d]), .arr g32 44 (tbs (.slice S48 l47.length c49) 3), .arr g134 44 (tbs (.slice S128 l127.length c129) 3)] ++ (tbRes l143 S144 c145 ++ ((.rd A130 1 0 c131 (ics [])) :: (tbRes l127 S128 c129 ++ (tbRes l47 S48 c49 ++ (lvRes [vbad] ++ lvRes [v5])))))) := Mem.newTb (M := ((.rd A130 1 0 c131 (ics [])) :: (tbRes l127 S128 c129 ++ (tbRes l47 S48 c49 ++ (lvRes [vbad] ++ lvRes [v5]))))) [.arr g7 25 ([.int .i64 v5.h.tick, .slice v5.A v5.h.counts.length v5.c, .int .i64 v5.h.depth, .slice Ab 1 v5.d]), .arr g32 44 (tbs (.slice S48 l47.length c49) 3), .arr g134 44 (tbs (.slice S128 l127.length c129) 3)] hm139 hbz hT_ hN_ (hdTb (List.Sublist.cons _ (List.sublist_append_left _ _))) (mutCons (mutApp (fun _ h_ => tbRes_mut h_) (mutApp (fun _ h_ => tbRes_mut h_) (mutApp (fun _ h_ => lvRes_mut h_) (fun _ h_ => lvRes_mut h_)))))
 have hm148 : Mem w w141 ((.arr g7 25 ([.int .i64 v5.h.tick, .slice v5.A v5.h.counts.length v5.c, .int .i64 v5.h.depth, .slice Ab 1 v5.d])) :: (.arr g32 44 (tbs (.slice S48 l47.length c49) 3)) :: (.arr g134 44 (tbs (.slice S128 l127.length c129) 3)) :: (tbRes l143 S144 c145 ++ ((.rd A130 1 0 c131 (ics [])) :: (tbRes l127 S128 c129 ++ (tbRes l47 S48 c49 ++ (lvRes [vbad] ++ lvRes [v5])))))) := hm142
 clear hm142
 clear hm139
 clear hT_ hN_ hbz
 refine ⟨_, rfl, ?_⟩
 refine qP rfl ?_
 refine lk (v := .tuple #[.agg (tbs (.slice S144 l143.length c145) 3).toArray, .int .i64 0]) rfl rfl rfl ?_
 refine lk (v := .agg (tbs (.slice S144 l143.length c145) 3).toArray) rfl rfl rfl ?_
 refine lk (v := .int .i64 0) rfl rfl rfl ?_
 refine plAlloc (z := [.slice none 0 0, .int .i64 0]) Ty.ag_voxel_api_Versions hm148 (i := 5) rfl (wn rfl) rfl ?_
 intro g149 w151 hm150
 clear hm148
 try simp only [List.cons_append, List.nil_append, List.set_cons_succ, List.set_cons_zero] at hm150
 replace hm150 := Mem.insAt (M := ((.arr g7 25 ([.int .i64 v5.h.tick, .slice v5.A v5.h.counts.length v5.c, .int .i64 v5.h.depth, .slice Ab 1 v5.d])) :: (.arr g32 44 (tbs (.slice S48 l47.length c49) 3)) :: (.arr g134 44 (tbs (.slice S128 l127.length c129) 3)) :: (tbRes l143 S144 c145 ++ ((.rd A130 1 0 c131 (ics [])) :: (tbRes l127 S128 c129 ++ (tbRes l47 S48 c49 ++ (lvRes [vbad] ++ lvRes [v5]))))))) 3 hm150
 simp only [List.insertIdx_succ_cons, List.insertIdx_zero] at hm150
 refine qP rfl ?_
 refine plStore 3 Ty.ag_voxel_api_Versions hm150 rfl (i := 6) (cs := tbs (.slice S144 l143.length c145) 3) rfl (wn rfl) rfl (litEv (by kernel_rfl)) (litEv (by kernel_rfl)) rfl rfl (by kernel_rfl) ?_
 intro w153 hm152
 clear hm150
 try simp only [List.cons_append, List.nil_append, List.set_cons_succ, List.set_cons_zero] at hm152
 refine qNone rfl ?_
 refine lk (v := .int .i64 0) rfl rfl rfl ?_
 refine plD ?_
 refine then_normal (hK140 _ _ ?_)
 refine wpPrune [(0, .bool false), (1, .pointer (some ⟨g7, 0, none⟩)), (2, .pointer (some ⟨g32, 0, none⟩)), (3, .int .i64 1), (4, .int .i64 0), (5, .int .i64 2), (6, .int .i64 0), (9, .int .i64 22), (11, .int .i64 0), (13, .slice A130 0 c131), (14, .pointer (some ⟨g149, 0, none⟩)), (15, .int .i64 0)] ⟨litGet (by kernel_rfl), ⟨litGet (by kernel_rfl), ⟨litGet (by kernel_rfl), ⟨litGet (by kernel_rfl), ⟨litGet (by kernel_rfl), ⟨litGet (by kernel_rfl), ⟨litGet (by kernel_rfl), ⟨litGet (by kernel_rfl), ⟨litGet (by kernel_rfl), ⟨litGet (by kernel_rfl), ⟨litGet (by kernel_rfl), ⟨litGet (by kernel_rfl), trivial⟩⟩⟩⟩⟩⟩⟩⟩⟩⟩⟩⟩ (fun X154 => ?_)
 have hm155 : Mem w w153 ((.arr g7 25 ([.int .i64 v5.h.tick, .slice v5.A v5.h.counts.length v5.c, .int .i64 v5.h.depth, .slice Ab 1 v5.d])) :: (.arr g32 44 (tbs (.slice S48 l47.length c49) 3)) :: (.arr g149 44 (tbs (.slice S144 l143.length c145) 3)) :: (tbRes l143 S144 c145 ++ ((.rd A130 1 0 c131 (ics [])) :: (tbRes l47 S48 c49 ++ (lvRes [vbad] ++ lvRes [v5]))))) := hm152.sub (List.Sublist.cons_cons _ (List.Sublist.cons_cons _ (List.Sublist.cons _ (List.Sublist.cons_cons _ (List.Sublist.append (List.Sublist.refl _) (List.Sublist.cons_cons _ ((List.Sublist.append (List.Sublist.refl _) (List.Sublist.append (List.Sublist.refl _) (List.Sublist.refl _))).trans (List.sublist_append_right _ _))))))))
 clear hm152
 refine wp_seq_k fun K156 hK156 => ?_
 refine plStart ?_
 refine litVal (v := .agg (tbs (.slice S144 l143.length c145) 3).toArray) rfl (wn rfl) (gLoadAg (vs := tbs (.slice S144 l143.length c145) 3) (k := 0) 2 hm155 rfl (by kernel_rfl) (by kernel_rfl) (.tmp 14) Ty.ag_voxel_api_Versions rfl (litEv (by kernel_rfl))) rfl (by decide) ?_
 refine plCall (i := 1) 33 [.agg (tbs (.slice S144 l143.length c145) 3).toArray, .int .i64 1] [] [] rfl (by kernel_rfl) (wn rfl) rfl (litEv (by kernel_rfl)) (litArgs (by kernel_rfl)) (by exact collect_any l143 S144 c145 3 1 (by decide) _ (Mem.tb ((Mem.tailN (T := (tbRes l143 S144 c145 ++ ((.rd A130 1 0 c131 (ics [])) :: (tbRes l47 S48 c49 ++ (lvRes [vbad] ++ lvRes [v5]))))) 3 hm155 rfl).sub (L' := tbRes l143 S144 c145) (List.sublist_append_left _ _))) (lenT hvl143 (by decide))) ?_
 have hE_ : collV (vrs l143) 3 1 = (sT3, 3, [1]) := by rw [hvl143]; kernel_rfl
 rintro e w157 ⟨l159, S160, c161, A162, c163, rfl, hvl159, hrd_, hna_, hT_, hN_, hbz⟩
 rw [hE_] at hvl159 hrd_ ⊢
 clear hE_
 obtain ⟨bg_, og_, rfl, _, _⟩ := hrd_.cells (by decide)
 have hm158 : Mem w w157 ([.arr g7 25 ([.int .i64 v5.h.tick, .slice v5.A v5.h.counts.length v5.c, .int .i64 v5.h.depth, .slice Ab 1 v5.d]), .arr g32 44 (tbs (.slice S48 l47.length c49) 3), .arr g149 44 (tbs (.slice S144 l143.length c145) 3)] ++ (tbRes l159 S160 c161 ++ (tbRes l143 S144 c145 ++ ((.rd A130 1 0 c131 (ics [])) :: (tbRes l47 S48 c49 ++ (lvRes [vbad] ++ lvRes [v5])))))) := Mem.newTb (M := (tbRes l143 S144 c145 ++ ((.rd A130 1 0 c131 (ics [])) :: (tbRes l47 S48 c49 ++ (lvRes [vbad] ++ lvRes [v5]))))) [.arr g7 25 ([.int .i64 v5.h.tick, .slice v5.A v5.h.counts.length v5.c, .int .i64 v5.h.depth, .slice Ab 1 v5.d]), .arr g32 44 (tbs (.slice S48 l47.length c49) 3), .arr g149 44 (tbs (.slice S144 l143.length c145) 3)] hm155 hbz hT_ hN_ (hdTb (List.sublist_append_left _ _)) (mutApp (fun _ h_ => tbRes_mut h_) (mutCons (mutApp (fun _ h_ => tbRes_mut h_) (mutApp (fun _ h_ => lvRes_mut h_) (fun _ h_ => lvRes_mut h_)))))
 have hm164 : Mem w w157 ([.arr g7 25 ([.int .i64 v5.h.tick, .slice v5.A v5.h.counts.length v5.c, .int .i64 v5.h.depth, .slice Ab 1 v5.d]), .arr g32 44 (tbs (.slice S48 l47.length c49) 3), .arr g149 44 (tbs (.slice S144 l143.length c145) 3)] ++ ((.rd (some ⟨bg_, og_, none⟩) 1 1 c163 (ics [1])) :: (tbRes l159 S160 c161 ++ (tbRes l143 S144 c145 ++ ((.rd A130 1 0 c131 (ics [])) :: (tbRes l47 S48 c49 ++ (lvRes [vbad] ++ lvRes [v5]))))))) := Mem.newRdMid (M0 := (tbRes l143 S144 c145 ++ ((.rd A130 1 0 c131 (ics [])) :: (tbRes l47 S48 c49 ++ (lvRes [vbad] ++ lvRes [v5]))))) [.arr g7 25 ([.int .i64 v5.h.tick, .slice v5.A v5.h.counts.length v5.c, .int .i64 v5.h.depth, .slice Ab 1 v5.d]), .arr g32 44 (tbs (.slice S48 l47.length c49) 3), .arr g149 44 (tbs (.slice S144 l143.length c145) 3)] hm155 hm158 hrd_ hna_ (mutApp (fun _ h_ => tbRes_mut h_) (mutApp (fun _ h_ => tbRes_mut h_) (mutCons (mutApp (fun _ h_ => tbRes_mut h_) (mutApp (fun _ h_ => lvRes_mut h_) (fun _ h_ => lvRes_mut h_))))))
 clear hm158
 have hm165 : Mem w w157 ((.arr g7 25 ([.int .i64 v5.h.tick, .slice v5.A v5.h.counts.length v5.c, .int .i64 v5.h.depth, .slice Ab 1 v5.d])) :: (.arr g32 44 (tbs (.slice S48 l47.length c49) 3)) :: (.arr g149 44 (tbs (.slice S144 l143.length c145) 3)) :: ((.rd (some ⟨bg_, og_, none⟩) 1 1 c163 (ics [1])) :: (tbRes l159 S160 c161 ++ (tbRes l143 S144 c145 ++ ((.rd A130 1 0 c131 (ics [])) :: (tbRes l47 S48 c49 ++ (lvRes [vbad] ++ lvRes [v5]))))))) := hm164
 clear hm164
 clear hm155
 clear hT_ hN_ hbz hrd_ hna_
 refine ⟨_, rfl, ?_⟩
 refine qP rfl ?_
 refine lk (v := .tuple #[.agg (tbs (.slice S160 l159.length c161) 3).toArray, .slice (some ⟨bg_, og_, none⟩) 1 c163]) rfl rfl rfl ?_
 refine lk (v := .agg (tbs (.slice S160 l159.length c161) 3).toArray) rfl rfl rfl ?_
 refine lk (v := .slice (some ⟨bg_, og_, none⟩) 1 c163) rfl rfl rfl ?_
 refine plAlloc (z := [.slice none 0 0, .int .i64 0]) Ty.ag_voxel_api_Versions hm165 (i := 5) rfl (wn rfl) rfl ?_
 intro g166 w168 hm167
 clear hm165
 try simp only [List.cons_append, List.nil_append, List.set_cons_succ, List.set_cons_zero] at hm167
 replace hm167 := Mem.insAt (M := ((.arr g7 25 ([.int .i64 v5.h.tick, .slice v5.A v5.h.counts.length v5.c, .int .i64 v5.h.depth, .slice Ab 1 v5.d])) :: (.arr g32 44 (tbs (.slice S48 l47.length c49) 3)) :: (.arr g149 44 (tbs (.slice S144 l143.length c145) 3)) :: ((.rd (some ⟨bg_, og_, none⟩) 1 1 c163 (ics [1])) :: (tbRes l159 S160 c161 ++ (tbRes l143 S144 c145 ++ ((.rd A130 1 0 c131 (ics [])) :: (tbRes l47 S48 c49 ++ (lvRes [vbad] ++ lvRes [v5])))))))) 3 hm167
 simp only [List.insertIdx_succ_cons, List.insertIdx_zero] at hm167
 refine qP rfl ?_
 refine plStore 3 Ty.ag_voxel_api_Versions hm167 rfl (i := 6) (cs := tbs (.slice S160 l159.length c161) 3) rfl (wn rfl) rfl (litEv (by kernel_rfl)) (litEv (by kernel_rfl)) rfl rfl (by kernel_rfl) ?_
 intro w170 hm169
 clear hm167
 try simp only [List.cons_append, List.nil_append, List.set_cons_succ, List.set_cons_zero] at hm169
 refine qNone rfl ?_
 refine lk (v := .slice (some ⟨bg_, og_, none⟩) 1 c163) rfl rfl rfl ?_
 refine plD ?_
 refine then_normal (hK156 _ _ ?_)
 have hm171 : Mem w w170 ((.arr g7 25 ([.int .i64 v5.h.tick, .slice v5.A v5.h.counts.length v5.c, .int .i64 v5.h.depth, .slice Ab 1 v5.d])) :: (.arr g32 44 (tbs (.slice S48 l47.length c49) 3)) :: ((.rd (some ⟨bg_, og_, none⟩) 1 1 c163 (ics [1])) :: ((.rd A130 1 0 c131 (ics [])) :: (tbRes l47 S48 c49 ++ (lvRes [vbad] ++ lvRes [v5]))))) := hm169.sub (List.Sublist.cons_cons _ (List.Sublist.cons_cons _ (List.Sublist.cons _ (List.Sublist.cons _ (List.Sublist.cons_cons _ (((List.Sublist.cons_cons _ (List.Sublist.append (List.Sublist.refl _) (List.Sublist.append (List.Sublist.refl _) (List.Sublist.refl _)))).trans (List.sublist_append_right _ _)).trans (List.sublist_append_right _ _)))))))
 clear hm169
 refine wp_seq_k fun K172 hK172 => ?_
 refine plStart ?_
 refine plCall (i := 0) 8 [.slice none 0 0] [] [] rfl (by kernel_rfl) (wn rfl) rfl (litEv (by kernel_rfl)) (litArgs (by kernel_rfl)) (by exact LD.decode_any ([] : List UInt8) none 0 _ (Rd.nil _ _ 1) (by decide)) ?_
 have hE_ : decH ([] : List UInt8) = (hd0, 5) := by kernel_rfl
 rintro e w173 ⟨A_, c_, B_, d_, rfl, ha_, hb_, hA_, hB_, hbz⟩
 rw [hE_] at ha_ hb_ ⊢
 clear hE_
 obtain ⟨v175, hv175_, rfl, rfl, rfl, rfl, hat_⟩ : ∃ v_ : Lv, v_.h = hd0 ∧ v_.A = A_ ∧ v_.c = c_ ∧ v_.B = B_ ∧ v_.d = d_ ∧ v_.At w173 := ⟨⟨0, 0, hd0, A_, c_, B_, d_⟩, rfl, rfl, rfl, rfl, rfl, ⟨ha_, hb_⟩⟩
 rw [← hv175_] at ha_ hb_ ⊢
 have hm174 : Mem w w173 ([.arr g7 25 ([.int .i64 v5.h.tick, .slice v5.A v5.h.counts.length v5.c, .int .i64 v5.h.depth, .slice Ab 1 v5.d]), .arr g32 44 (tbs (.slice S48 l47.length c49) 3)] ++ (lvRes [v175] ++ ((.rd (some ⟨bg_, og_, none⟩) 1 1 c163 (ics [1])) :: ((.rd A130 1 0 c131 (ics [])) :: (tbRes l47 S48 c49 ++ (lvRes [vbad] ++ lvRes [v5])))))) := Mem.newLv (lx := []) (M := ((.rd (some ⟨bg_, og_, none⟩) 1 1 c163 (ics [1])) :: ((.rd A130 1 0 c131 (ics [])) :: (tbRes l47 S48 c49 ++ (lvRes [vbad] ++ lvRes [v5]))))) [.arr g7 25 ([.int .i64 v5.h.tick, .slice v5.A v5.h.counts.length v5.c, .int .i64 v5.h.depth, .slice Ab 1 v5.d]), .arr g32 44 (tbs (.slice S48 l47.length c49) 3)] hm171 hbz hat_ (Or.inr ⟨hA_, hB_⟩) hdNone (mutCons (mutCons (mutApp (fun _ h_ => tbRes_mut h_) (mutApp (fun _ h_ => lvRes_mut h_) (fun _ h_ => lvRes_mut h_)))))
 have hm176 : Mem w w173 ((.arr g7 25 ([.int .i64 v5.h.tick, .slice v5.A v5.h.counts.length v5.c, .int .i64 v5.h.depth, .slice Ab 1 v5.d])) :: (.arr g32 44 (tbs (.slice S48 l47.length c49) 3)) :: (lvRes [v175] ++ ((.rd (some ⟨bg_, og_, none⟩) 1 1 c163 (ics [1])) :: ((.rd A130 1 0 c131 (ics [])) :: (tbRes l47 S48 c49 ++ (lvRes [vbad] ++ lvRes [v5])))))) := hm174
 clear hm174
 clear hm171
 clear hat_ hA_ hB_ hbz ha_ hb_
 refine ⟨_, rfl, ?_⟩
 refine qP rfl ?_
 refine lk (v := .tuple #[.agg (hcs v175.h v175.A v175.c v175.B v175.d).toArray, .int .i64 5]) rfl rfl rfl ?_
 refine lk (v := .agg (hcs v175.h v175.A v175.c v175.B v175.d).toArray) rfl rfl rfl ?_
 refine lk (v := .int .i64 5) rfl rfl rfl ?_
 refine plAlloc (z := [.int .i64 0, .slice none 0 0, .int .i64 0, .slice none 0 0]) Ty.ag_voxel_api_Header hm176 (i := 4) rfl (wn rfl) rfl ?_
 intro g177 w179 hm178
 clear hm176
 try simp only [List.cons_append, List.nil_append, List.set_cons_succ, List.set_cons_zero] at hm178
 replace hm178 := Mem.insAt (M := ((.arr g7 25 ([.int .i64 v5.h.tick, .slice v5.A v5.h.counts.length v5.c, .int .i64 v5.h.depth, .slice Ab 1 v5.d])) :: (.arr g32 44 (tbs (.slice S48 l47.length c49) 3)) :: (lvRes [v175] ++ ((.rd (some ⟨bg_, og_, none⟩) 1 1 c163 (ics [1])) :: ((.rd A130 1 0 c131 (ics [])) :: (tbRes l47 S48 c49 ++ (lvRes [vbad] ++ lvRes [v5]))))))) 2 hm178
 simp only [List.insertIdx_succ_cons, List.insertIdx_zero] at hm178
 refine qP rfl ?_
 refine plStore 2 Ty.ag_voxel_api_Header hm178 rfl (i := 5) (cs := hcs v175.h v175.A v175.c v175.B v175.d) rfl (wn rfl) rfl (litEv (by kernel_rfl)) (litEv (by kernel_rfl)) rfl rfl (by kernel_rfl) ?_
 intro w181 hm180
 clear hm178
 try simp only [List.cons_append, List.nil_append, List.set_cons_succ, List.set_cons_zero] at hm180
 refine qNone rfl ?_
 refine lk (v := .int .i64 5) rfl rfl rfl ?_
 refine plD ?_
 refine then_normal (hK172 _ _ ?_)
 have hm182 : Mem w w181 ((.arr g7 25 ([.int .i64 v5.h.tick, .slice v5.A v5.h.counts.length v5.c, .int .i64 v5.h.depth, .slice Ab 1 v5.d])) :: (.arr g32 44 (tbs (.slice S48 l47.length c49) 3)) :: ((.rd (some ⟨bg_, og_, none⟩) 1 1 c163 (ics [1])) :: ((.rd A130 1 0 c131 (ics [])) :: (tbRes l47 S48 c49 ++ (lvRes [vbad] ++ lvRes [v5]))))) := hm180.sub (List.Sublist.cons_cons _ (List.Sublist.cons_cons _ (List.Sublist.cons _ ((List.Sublist.cons_cons _ (List.Sublist.cons_cons _ (List.Sublist.append (List.Sublist.refl _) (List.Sublist.append (List.Sublist.refl _) (List.Sublist.refl _))))).trans (List.sublist_append_right _ _)))))
 clear hm180
 refine wp_seq_k fun K183 hK183 => ?_
 refine plStart ?_
 refine plCall (i := 0) 30 [.int .i64 5] [] [] rfl (by kernel_rfl) (wn rfl) rfl (litEv (by kernel_rfl)) (litArgs (by kernel_rfl)) (header_any 5 _) ?_
 rintro e w184 ⟨v186, hv186_, rfl, hat_, hA_, hB_, hbz⟩
 have hm185 : Mem w w184 ([.arr g7 25 ([.int .i64 v5.h.tick, .slice v5.A v5.h.counts.length v5.c, .int .i64 v5.h.depth, .slice Ab 1 v5.d]), .arr g32 44 (tbs (.slice S48 l47.length c49) 3)] ++ (lvRes [v186] ++ ((.rd (some ⟨bg_, og_, none⟩) 1 1 c163 (ics [1])) :: ((.rd A130 1 0 c131 (ics [])) :: (tbRes l47 S48 c49 ++ (lvRes [vbad] ++ lvRes [v5])))))) := Mem.newLv (lx := []) (M := ((.rd (some ⟨bg_, og_, none⟩) 1 1 c163 (ics [1])) :: ((.rd A130 1 0 c131 (ics [])) :: (tbRes l47 S48 c49 ++ (lvRes [vbad] ++ lvRes [v5]))))) [.arr g7 25 ([.int .i64 v5.h.tick, .slice v5.A v5.h.counts.length v5.c, .int .i64 v5.h.depth, .slice Ab 1 v5.d]), .arr g32 44 (tbs (.slice S48 l47.length c49) 3)] hm182 hbz hat_ (Or.inr ⟨hA_, hB_⟩) hdNone (mutCons (mutCons (mutApp (fun _ h_ => tbRes_mut h_) (mutApp (fun _ h_ => lvRes_mut h_) (fun _ h_ => lvRes_mut h_)))))
 have hm187 : Mem w w184 ((.arr g7 25 ([.int .i64 v5.h.tick, .slice v5.A v5.h.counts.length v5.c, .int .i64 v5.h.depth, .slice Ab 1 v5.d])) :: (.arr g32 44 (tbs (.slice S48 l47.length c49) 3)) :: (lvRes [v186] ++ ((.rd (some ⟨bg_, og_, none⟩) 1 1 c163 (ics [1])) :: ((.rd A130 1 0 c131 (ics [])) :: (tbRes l47 S48 c49 ++ (lvRes [vbad] ++ lvRes [v5])))))) := hm185
 clear hm185
 clear hm182
 clear hat_ hA_ hB_ hbz
 refine ⟨_, rfl, ?_⟩
 refine qP rfl ?_
 refine plCall (i := 1) 12 [.agg (hcs v186.h v186.A v186.c v186.B v186.d).toArray] [] [] rfl (by kernel_rfl) (wn rfl) rfl (litEv (by kernel_rfl)) (litArgs (by kernel_rfl)) (encode_any v186.h v186.A v186.c v186.B v186.d _ ((Mem.lv ((Mem.tailN (T := (lvRes [v186] ++ ((.rd (some ⟨bg_, og_, none⟩) 1 1 c163 (ics [1])) :: ((.rd A130 1 0 c131 (ics [])) :: (tbRes l47 S48 c49 ++ (lvRes [vbad] ++ lvRes [v5])))))) 2 hm187 rfl).sub (L' := lvRes [v186]) (List.sublist_append_left _ _))) v186 List.mem_cons_self).a ((Mem.lv ((Mem.tailN (T := (lvRes [v186] ++ ((.rd (some ⟨bg_, og_, none⟩) 1 1 c163 (ics [1])) :: ((.rd A130 1 0 c131 (ics [])) :: (tbRes l47 S48 c49 ++ (lvRes [vbad] ++ lvRes [v5])))))) 2 hm187 rfl).sub (L' := lvRes [v186]) (List.sublist_append_left _ _))) v186 List.mem_cons_self).b (fit_eq hv186_ fit5)) ?_
 rintro e w188 ⟨v190, rfl, hown_, hbz⟩
 obtain ⟨A191, c192, rfl, hrd_⟩ := Rd.of_own hown_
 clear hrd_
 have hm189 := hm187.newRow hbz hown_
 clear hown_ hbz
 clear hm187
 try simp only [List.cons_append, List.nil_append, List.set_cons_succ, List.set_cons_zero] at hm189
 replace hm189 := Mem.insAt (M := ((.arr g7 25 ([.int .i64 v5.h.tick, .slice v5.A v5.h.counts.length v5.c, .int .i64 v5.h.depth, .slice Ab 1 v5.d])) :: (.arr g32 44 (tbs (.slice S48 l47.length c49) 3)) :: (lvRes [v186] ++ ((.rd (some ⟨bg_, og_, none⟩) 1 1 c163 (ics [1])) :: ((.rd A130 1 0 c131 (ics [])) :: (tbRes l47 S48 c49 ++ (lvRes [vbad] ++ lvRes [v5]))))))) 2 hm189
 simp only [List.insertIdx_succ_cons, List.insertIdx_zero] at hm189
 have hlen1 : (encH v186.h).length ≤ 1000000 := by rw [hv186_]; decide +kernel
 have hlen2 : (encH v186.h ++ [0]).length ≤ 1000000 := by rw [hv186_]; decide +kernel
 refine ⟨_, rfl, ?_⟩
 refine qP rfl ?_
 refine lk (v := .slice A191 ((encH v186.h).length) c192) rfl rfl rfl ?_
 refine plD ?_
 refine then_normal (hK183 _ _ ?_)
 refine wpPrune [(0, .bool false), (1, .pointer (some ⟨g7, 0, none⟩)), (2, .pointer (some ⟨g32, 0, none⟩)), (3, .int .i64 1), (4, .int .i64 0), (5, .int .i64 2), (6, .int .i64 0), (9, .int .i64 22), (11, .int .i64 0), (13, .slice A130 0 c131), (15, .int .i64 0), (17, .slice (some ⟨bg_, og_, none⟩) 1 c163), (19, .int .i64 5), (20, .slice A191 ((encH v186.h).length) c192)] ⟨litGet (by kernel_rfl), ⟨litGet (by kernel_rfl), ⟨litGet (by kernel_rfl), ⟨litGet (by kernel_rfl), ⟨litGet (by kernel_rfl), ⟨litGet (by kernel_rfl), ⟨litGet (by kernel_rfl), ⟨litGet (by kernel_rfl), ⟨litGet (by kernel_rfl), ⟨litGet (by kernel_rfl), ⟨litGet (by kernel_rfl), ⟨litGet (by kernel_rfl), ⟨litGet (by kernel_rfl), ⟨litGet (by kernel_rfl), trivial⟩⟩⟩⟩⟩⟩⟩⟩⟩⟩⟩⟩⟩⟩ (fun X193 => ?_)
 refine wp_seq_k fun K194 hK194 => ?_
 refine plStart ?_
 refine lk (v := .slice A191 ((encH v186.h).length) c192) rfl rfl rfl ?_
 refine plCall (i := 1) 8 [.slice A191 ((encH v186.h).length) c192] [] [] rfl (by kernel_rfl) (wn rfl) rfl (litEv (by kernel_rfl)) (litArgs (by kernel_rfl)) (by exact LD.decode_any (encH v186.h) A191 c192 _ (hm189.rdRow 2 rfl) hlen1) ?_
 have hE_ : decH (encH v186.h) = (hd3 5, 0) := by rw [hv186_]; kernel_rfl
 rintro e w195 ⟨A_, c_, B_, d_, rfl, ha_, hb_, hA_, hB_, hbz⟩
 rw [hE_] at ha_ hb_ ⊢
 clear hE_
 obtain ⟨v197, hv197_, rfl, rfl, rfl, rfl, hat_⟩ : ∃ v_ : Lv, v_.h = hd3 5 ∧ v_.A = A_ ∧ v_.c = c_ ∧ v_.B = B_ ∧ v_.d = d_ ∧ v_.At w195 := ⟨⟨0, 0, hd3 5, A_, c_, B_, d_⟩, rfl, rfl, rfl, rfl, rfl, ⟨ha_, hb_⟩⟩
 rw [← hv197_] at ha_ hb_ ⊢
 have hm196 : Mem w w195 ([.arr g7 25 ([.int .i64 v5.h.tick, .slice v5.A v5.h.counts.length v5.c, .int .i64 v5.h.depth, .slice Ab 1 v5.d]), .arr g32 44 (tbs (.slice S48 l47.length c49) 3), .row (.slice A191 ((encH v186.h).length) c192) 5 1 ((encH v186.h).length) (bcs (encH v186.h))] ++ (lvRes [v197] ++ (lvRes [v186] ++ ((.rd (some ⟨bg_, og_, none⟩) 1 1 c163 (ics [1])) :: ((.rd A130 1 0 c131 (ics [])) :: (tbRes l47 S48 c49 ++ (lvRes [vbad] ++ lvRes [v5]))))))) := Mem.newLv (lx := []) (M := (lvRes [v186] ++ ((.rd (some ⟨bg_, og_, none⟩) 1 1 c163 (ics [1])) :: ((.rd A130 1 0 c131 (ics [])) :: (tbRes l47 S48 c49 ++ (lvRes [vbad] ++ lvRes [v5])))))) [.arr g7 25 ([.int .i64 v5.h.tick, .slice v5.A v5.h.counts.length v5.c, .int .i64 v5.h.depth, .slice Ab 1 v5.d]), .arr g32 44 (tbs (.slice S48 l47.length c49) 3), .row (.slice A191 ((encH v186.h).length) c192) 5 1 ((encH v186.h).length) (bcs (encH v186.h))] hm189 hbz hat_ (Or.inr ⟨hA_, hB_⟩) hdNone (mutApp (fun _ h_ => lvRes_mut h_) (mutCons (mutCons (mutApp (fun _ h_ => tbRes_mut h_) (mutApp (fun _ h_ => lvRes_mut h_) (fun _ h_ => lvRes_mut h_))))))
 have hm198 : Mem w w195 ((.arr g7 25 ([.int .i64 v5.h.tick, .slice v5.A v5.h.counts.length v5.c, .int .i64 v5.h.depth, .slice Ab 1 v5.d])) :: (.arr g32 44 (tbs (.slice S48 l47.length c49) 3)) :: (.row (.slice A191 ((encH v186.h).length) c192) 5 1 ((encH v186.h).length) (bcs (encH v186.h))) :: (lvRes [v197] ++ (lvRes [v186] ++ ((.rd (some ⟨bg_, og_, none⟩) 1 1 c163 (ics [1])) :: ((.rd A130 1 0 c131 (ics [])) :: (tbRes l47 S48 c49 ++ (lvRes [vbad] ++ lvRes [v5]))))))) := hm196
 clear hm196
 clear hm189
 clear hat_ hA_ hB_ hbz ha_ hb_
 refine ⟨_, rfl, ?_⟩
 refine qP rfl ?_
 refine lk (v := .tuple #[.agg (hcs v197.h v197.A v197.c v197.B v197.d).toArray, .int .i64 0]) rfl rfl rfl ?_
 refine lk (v := .agg (hcs v197.h v197.A v197.c v197.B v197.d).toArray) rfl rfl rfl ?_
 refine lk (v := .int .i64 0) rfl rfl rfl ?_
 refine plAlloc (z := [.int .i64 0, .slice none 0 0, .int .i64 0, .slice none 0 0]) Ty.ag_voxel_api_Header hm198 (i := 5) rfl (wn rfl) rfl ?_
 intro g199 w201 hm200
 clear hm198
 try simp only [List.cons_append, List.nil_append, List.set_cons_succ, List.set_cons_zero] at hm200
 replace hm200 := Mem.insAt (M := ((.arr g7 25 ([.int .i64 v5.h.tick, .slice v5.A v5.h.counts.length v5.c, .int .i64 v5.h.depth, .slice Ab 1 v5.d])) :: (.arr g32 44 (tbs (.slice S48 l47.length c49) 3)) :: (.row (.slice A191 ((encH v186.h).length) c192) 5 1 ((encH v186.h).length) (bcs (encH v186.h))) :: (lvRes [v197] ++ (lvRes [v186] ++ ((.rd (some ⟨bg_, og_, none⟩) 1 1 c163 (ics [1])) :: ((.rd A130 1 0 c131 (ics [])) :: (tbRes l47 S48 c49 ++ (lvRes [vbad] ++ lvRes [v5])))))))) 3 hm200
 simp only [List.insertIdx_succ_cons, List.insertIdx_zero] at hm200
 refine qP rfl ?_
 refine plStore 3 Ty.ag_voxel_api_Header hm200 rfl (i := 6) (cs := hcs v197.h v197.A v197.c v197.B v197.d) rfl (wn rfl) rfl (litEv (by kernel_rfl)) (litEv (by kernel_rfl)) rfl rfl (by kernel_rfl) ?_
 intro w203 hm202
 clear hm200
 try simp only [List.cons_append, List.nil_append, List.set_cons_succ, List.set_cons_zero] at hm202
 refine qNone rfl ?_
 refine lk (v := .int .i64 0) rfl rfl rfl ?_
 refine plD ?_
 refine then_normal (hK194 _ _ ?_)
 refine wp_seq_k fun K204 hK204 => ?_
 refine plStart ?_
 refine plLit0 Ty.sl_L_uint8 hm202 (i := 0) rfl (wn rfl) rfl rfl ?_
 intro g205 w207 hm206
 clear hm202
 try simp only [List.cons_append, List.nil_append, List.set_cons_succ, List.set_cons_zero] at hm206
 replace hm206 := Mem.insAt (M := ((.arr g7 25 ([.int .i64 v5.h.tick, .slice v5.A v5.h.counts.length v5.c, .int .i64 v5.h.depth, .slice Ab 1 v5.d])) :: (.arr g32 44 (tbs (.slice S48 l47.length c49) 3)) :: (.row (.slice A191 ((encH v186.h).length) c192) 5 1 ((encH v186.h).length) (bcs (encH v186.h))) :: (.arr g199 25 (hcs v197.h v197.A v197.c v197.B v197.d)) :: (lvRes [v197] ++ (lvRes [v186] ++ ((.rd (some ⟨bg_, og_, none⟩) 1 1 c163 (ics [1])) :: ((.rd A130 1 0 c131 (ics [])) :: (tbRes l47 S48 c49 ++ (lvRes [vbad] ++ lvRes [v5])))))))) 4 hm206
 simp only [List.insertIdx_succ_cons, List.insertIdx_zero] at hm206
 refine qP rfl ?_
 refine lk (v := .slice A191 ((encH v186.h).length) c192) rfl rfl rfl ?_
 refine plAppR (v := .slice (some ⟨g205, 0, none⟩) 0 0) (n := 0) (xs := []) (ys := bcs (encH v186.h)) (A := A191) (m := (encH v186.h).length) (c := c192) 4 Ty.sl_L_uint8 hm206 rfl (hm206.rdRow 2 rfl) (i := 2) rfl (wn rfl) rfl (litEv (by kernel_rfl)) (litEv (by kernel_rfl)) (bcs_one _) (by omega) (by omega) ?_
 intro v212 w209 hm208
 clear hm206
 try simp only [List.cons_append, List.nil_append, List.set_cons_succ, List.set_cons_zero] at hm208
 replace hm208 := Mem.rowEq (v := v212) (e := 5) (size := 1) (n := 0 + ((encH v186.h).length)) (n' := (encH v186.h).length) (xs := ([]) ++ (bcs (encH v186.h))) (xs' := bcs (encH v186.h)) 4 hm208 rfl (Nat.zero_add _) (rfl)
 try simp only [List.cons_append, List.nil_append, List.set_cons_succ, List.set_cons_zero] at hm208
 obtain ⟨A210, c211, rfl⟩ := Mem.rowSl (v := v212) (e := 5) (size := 1) (n := (encH v186.h).length) (xs := bcs (encH v186.h)) 4 hm208 rfl
 refine qP rfl ?_
 refine plLit (cs := [.int .u8 0]) (n := 1) Ty.sl_L_uint8 hm208 (i := 3) rfl (wn rfl) rfl (by decide) (by decide) (by rw [lit_eval]; kernel_rfl) ?_
 intro g213 w215 hm214
 clear hm208
 try simp only [List.cons_append, List.nil_append, List.set_cons_succ, List.set_cons_zero] at hm214
 replace hm214 := Mem.insAt (M := ((.arr g7 25 ([.int .i64 v5.h.tick, .slice v5.A v5.h.counts.length v5.c, .int .i64 v5.h.depth, .slice Ab 1 v5.d])) :: (.arr g32 44 (tbs (.slice S48 l47.length c49) 3)) :: (.row (.slice A191 ((encH v186.h).length) c192) 5 1 ((encH v186.h).length) (bcs (encH v186.h))) :: (.arr g199 25 (hcs v197.h v197.A v197.c v197.B v197.d)) :: (.row (.slice A210 ((encH v186.h).length) c211) 5 1 ((encH v186.h).length) (bcs (encH v186.h))) :: (lvRes [v197] ++ (lvRes [v186] ++ ((.rd (some ⟨bg_, og_, none⟩) 1 1 c163 (ics [1])) :: ((.rd A130 1 0 c131 (ics [])) :: (tbRes l47 S48 c49 ++ (lvRes [vbad] ++ lvRes [v5])))))))) 5 hm214
 simp only [List.insertIdx_succ_cons, List.insertIdx_zero] at hm214
 refine qP rfl ?_
 refine plApp1 (v := .slice A210 ((encH v186.h).length) c211) (n := (encH v186.h).length) (xs := bcs (encH v186.h)) (ys := [.int .u8 0]) 4 5 Ty.sl_L_uint8 hm214 rfl rfl (i := 4) rfl (wn rfl) rfl (litEv (by kernel_rfl)) (litEv (by kernel_rfl)) (by kernel_rfl) (by kernel_rfl) (by omega) (by omega) ?_
 intro v220 w217 hm216
 clear hm214
 try simp only [List.cons_append, List.nil_append, List.set_cons_succ, List.set_cons_zero] at hm216
 replace hm216 := Mem.rowEq (v := v220) (e := 5) (size := 1) (n := ((encH v186.h).length) + 1) (n' := (encH v186.h ++ [0]).length) (xs := (bcs (encH v186.h)) ++ ([.int .u8 0])) (xs' := bcs (encH v186.h ++ [0])) 4 hm216 rfl (by rw [List.length_append]; rfl) (by unfold bcs; rw [List.map_append]; rfl)
 try simp only [List.cons_append, List.nil_append, List.set_cons_succ, List.set_cons_zero] at hm216
 obtain ⟨A218, c219, rfl⟩ := Mem.rowSl (v := v220) (e := 5) (size := 1) (n := (encH v186.h ++ [0]).length) (xs := bcs (encH v186.h ++ [0])) 4 hm216 rfl
 refine qP rfl ?_
 refine plCall (i := 5) 8 [.slice A218 ((encH v186.h ++ [0]).length) c219] [] [] rfl (by kernel_rfl) (wn rfl) rfl (litEv (by kernel_rfl)) (litArgs (by kernel_rfl)) (by exact LD.decode_any (encH v186.h ++ [0]) A218 c219 _ (hm216.rdRow 4 rfl) hlen2) ?_
 have hE_ : decH (encH v186.h ++ [0]) = (hd0, 6) := by rw [hv186_]; kernel_rfl
 rintro e w221 ⟨A_, c_, B_, d_, rfl, ha_, hb_, hA_, hB_, hbz⟩
 rw [hE_] at ha_ hb_ ⊢
 clear hE_
 obtain ⟨v223, hv223_, rfl, rfl, rfl, rfl, hat_⟩ : ∃ v_ : Lv, v_.h = hd0 ∧ v_.A = A_ ∧ v_.c = c_ ∧ v_.B = B_ ∧ v_.d = d_ ∧ v_.At w221 := ⟨⟨0, 0, hd0, A_, c_, B_, d_⟩, rfl, rfl, rfl, rfl, rfl, ⟨ha_, hb_⟩⟩
 rw [← hv223_] at ha_ hb_ ⊢
 have hm222 : Mem w w221 ([.arr g7 25 ([.int .i64 v5.h.tick, .slice v5.A v5.h.counts.length v5.c, .int .i64 v5.h.depth, .slice Ab 1 v5.d]), .arr g32 44 (tbs (.slice S48 l47.length c49) 3), .row (.slice A191 ((encH v186.h).length) c192) 5 1 ((encH v186.h).length) (bcs (encH v186.h)), .arr g199 25 (hcs v197.h v197.A v197.c v197.B v197.d), .row (.slice A218 ((encH v186.h ++ [0]).length) c219) 5 1 ((encH v186.h ++ [0]).length) (bcs (encH v186.h ++ [0])), .arr g213 5 ([.int .u8 0])] ++ (lvRes [v223] ++ (lvRes [v197] ++ (lvRes [v186] ++ ((.rd (some ⟨bg_, og_, none⟩) 1 1 c163 (ics [1])) :: ((.rd A130 1 0 c131 (ics [])) :: (tbRes l47 S48 c49 ++ (lvRes [vbad] ++ lvRes [v5])))))))) := Mem.newLv (lx := []) (M := (lvRes [v197] ++ (lvRes [v186] ++ ((.rd (some ⟨bg_, og_, none⟩) 1 1 c163 (ics [1])) :: ((.rd A130 1 0 c131 (ics [])) :: (tbRes l47 S48 c49 ++ (lvRes [vbad] ++ lvRes [v5]))))))) [.arr g7 25 ([.int .i64 v5.h.tick, .slice v5.A v5.h.counts.length v5.c, .int .i64 v5.h.depth, .slice Ab 1 v5.d]), .arr g32 44 (tbs (.slice S48 l47.length c49) 3), .row (.slice A191 ((encH v186.h).length) c192) 5 1 ((encH v186.h).length) (bcs (encH v186.h)), .arr g199 25 (hcs v197.h v197.A v197.c v197.B v197.d), .row (.slice A218 ((encH v186.h ++ [0]).length) c219) 5 1 ((encH v186.h ++ [0]).length) (bcs (encH v186.h ++ [0])), .arr g213 5 ([.int .u8 0])] hm216 hbz hat_ (Or.inr ⟨hA_, hB_⟩) hdNone (mutApp (fun _ h_ => lvRes_mut h_) (mutApp (fun _ h_ => lvRes_mut h_) (mutCons (mutCons (mutApp (fun _ h_ => tbRes_mut h_) (mutApp (fun _ h_ => lvRes_mut h_) (fun _ h_ => lvRes_mut h_)))))))
 have hm224 : Mem w w221 ((.arr g7 25 ([.int .i64 v5.h.tick, .slice v5.A v5.h.counts.length v5.c, .int .i64 v5.h.depth, .slice Ab 1 v5.d])) :: (.arr g32 44 (tbs (.slice S48 l47.length c49) 3)) :: (.row (.slice A191 ((encH v186.h).length) c192) 5 1 ((encH v186.h).length) (bcs (encH v186.h))) :: (.arr g199 25 (hcs v197.h v197.A v197.c v197.B v197.d)) :: (.row (.slice A218 ((encH v186.h ++ [0]).length) c219) 5 1 ((encH v186.h ++ [0]).length) (bcs (encH v186.h ++ [0]))) :: (.arr g213 5 ([.int .u8 0])) :: (lvRes [v223] ++ (lvRes [v197] ++ (lvRes [v186] ++ ((.rd (some ⟨bg_, og_, none⟩) 1 1 c163 (ics [1])) :: ((.rd A130 1 0 c131 (ics [])) :: (tbRes l47 S48 c49 ++ (lvRes [vbad] ++ lvRes [v5])))))))) := hm222
 clear hm222
 clear hm216
 clear hat_ hA_ hB_ hbz ha_ hb_
 refine ⟨_, rfl, ?_⟩
 refine qP rfl ?_
 refine lk (v := .tuple #[.agg (hcs v223.h v223.A v223.c v223.B v223.d).toArray, .int .i64 6]) rfl rfl rfl ?_
 refine lk (v := .agg (hcs v223.h v223.A v223.c v223.B v223.d).toArray) rfl rfl rfl ?_
 refine lk (v := .int .i64 6) rfl rfl rfl ?_
 refine plAlloc (z := [.int .i64 0, .slice none 0 0, .int .i64 0, .slice none 0 0]) Ty.ag_voxel_api_Header hm224 (i := 9) rfl (wn rfl) rfl ?_
 intro g225 w227 hm226
 clear hm224
 try simp only [List.cons_append, List.nil_append, List.set_cons_succ, List.set_cons_zero] at hm226
 replace hm226 := Mem.insAt (M := ((.arr g7 25 ([.int .i64 v5.h.tick, .slice v5.A v5.h.counts.length v5.c, .int .i64 v5.h.depth, .slice Ab 1 v5.d])) :: (.arr g32 44 (tbs (.slice S48 l47.length c49) 3)) :: (.row (.slice A191 ((encH v186.h).length) c192) 5 1 ((encH v186.h).length) (bcs (encH v186.h))) :: (.arr g199 25 (hcs v197.h v197.A v197.c v197.B v197.d)) :: (.row (.slice A218 ((encH v186.h ++ [0]).length) c219) 5 1 ((encH v186.h ++ [0]).length) (bcs (encH v186.h ++ [0]))) :: (.arr g213 5 ([.int .u8 0])) :: (lvRes [v223] ++ (lvRes [v197] ++ (lvRes [v186] ++ ((.rd (some ⟨bg_, og_, none⟩) 1 1 c163 (ics [1])) :: ((.rd A130 1 0 c131 (ics [])) :: (tbRes l47 S48 c49 ++ (lvRes [vbad] ++ lvRes [v5]))))))))) 6 hm226
 simp only [List.insertIdx_succ_cons, List.insertIdx_zero] at hm226
 refine qP rfl ?_
 refine plStore 6 Ty.ag_voxel_api_Header hm226 rfl (i := 10) (cs := hcs v223.h v223.A v223.c v223.B v223.d) rfl (wn rfl) rfl (litEv (by kernel_rfl)) (litEv (by kernel_rfl)) rfl rfl (by kernel_rfl) ?_
 intro w229 hm228
 clear hm226
 try simp only [List.cons_append, List.nil_append, List.set_cons_succ, List.set_cons_zero] at hm228
 refine qNone rfl ?_
 refine lk (v := .int .i64 6) rfl rfl rfl ?_
 refine plD ?_
 refine then_normal (hK204 _ _ ?_)
 refine wpPrune [(0, .bool false), (1, .pointer (some ⟨g7, 0, none⟩)), (2, .pointer (some ⟨g32, 0, none⟩)), (3, .int .i64 1), (4, .int .i64 0), (5, .int .i64 2), (6, .int .i64 0), (9, .int .i64 22), (11, .int .i64 0), (13, .slice A130 0 c131), (15, .int .i64 0), (17, .slice (some ⟨bg_, og_, none⟩) 1 c163), (19, .int .i64 5), (21, .pointer (some ⟨g199, 0, none⟩)), (22, .int .i64 0), (24, .int .i64 6)] ⟨litGet (by kernel_rfl), ⟨litGet (by kernel_rfl), ⟨litGet (by kernel_rfl), ⟨litGet (by kernel_rfl), ⟨litGet (by kernel_rfl), ⟨litGet (by kernel_rfl), ⟨litGet (by kernel_rfl), ⟨litGet (by kernel_rfl), ⟨litGet (by kernel_rfl), ⟨litGet (by kernel_rfl), ⟨litGet (by kernel_rfl), ⟨litGet (by kernel_rfl), ⟨litGet (by kernel_rfl), ⟨litGet (by kernel_rfl), ⟨litGet (by kernel_rfl), ⟨litGet (by kernel_rfl), trivial⟩⟩⟩⟩⟩⟩⟩⟩⟩⟩⟩⟩⟩⟩⟩⟩ (fun X230 => ?_)
 have hm231 : Mem w w229 ((.arr g7 25 ([.int .i64 v5.h.tick, .slice v5.A v5.h.counts.length v5.c, .int .i64 v5.h.depth, .slice Ab 1 v5.d])) :: (.arr g32 44 (tbs (.slice S48 l47.length c49) 3)) :: (.arr g199 25 (hcs v197.h v197.A v197.c v197.B v197.d)) :: (lvRes [v197] ++ ((.rd (some ⟨bg_, og_, none⟩) 1 1 c163 (ics [1])) :: ((.rd A130 1 0 c131 (ics [])) :: (tbRes l47 S48 c49 ++ (lvRes [vbad] ++ lvRes [v5])))))) := hm228.sub (List.Sublist.cons_cons _ (List.Sublist.cons_cons _ (List.Sublist.cons _ (List.Sublist.cons_cons _ (List.Sublist.cons _ (List.Sublist.cons _ (List.Sublist.cons _ ((List.Sublist.append (List.Sublist.refl _) ((List.Sublist.cons_cons _ (List.Sublist.cons_cons _ (List.Sublist.append (List.Sublist.refl _) (List.Sublist.append (List.Sublist.refl _) (List.Sublist.refl _))))).trans (List.sublist_append_right _ _))).trans (List.sublist_append_right _ _)))))))))
 clear hm228
 refine wp_seq_k fun K232 hK232 => ?_
 refine plStart ?_
 refine litVal (v := .agg (tbs (.slice S48 l47.length c49) 3).toArray) rfl (wn rfl) (gLoadAg (vs := tbs (.slice S48 l47.length c49) 3) (k := 0) 1 hm231 rfl (by kernel_rfl) (by kernel_rfl) (.tmp 2) Ty.ag_voxel_api_Versions rfl (litEv (by kernel_rfl))) rfl (by decide) ?_
 refine plCall (i := 1) 28 [.agg (tbs (.slice S48 l47.length c49) 3).toArray, .int .i64 3] [] [] rfl (by kernel_rfl) (wn rfl) rfl (litEv (by kernel_rfl)) (litArgs (by kernel_rfl)) (by exact find_any l47 S48 c49 3 3 _ ((Mem.tb ((Mem.tailN (T := (lvRes [v197] ++ ((.rd (some ⟨bg_, og_, none⟩) 1 1 c163 (ics [1])) :: ((.rd A130 1 0 c131 (ics [])) :: (tbRes l47 S48 c49 ++ (lvRes [vbad] ++ lvRes [v5])))))) 3 hm231 rfl).sub (L' := tbRes l47 S48 c49) ((List.Sublist.cons _ (List.Sublist.cons _ (List.sublist_append_left _ _))).trans (List.sublist_append_right _ _))))).rd (lenT hvl47 (by decide)) ((Mem.tb ((Mem.tailN (T := (lvRes [v197] ++ ((.rd (some ⟨bg_, og_, none⟩) 1 1 c163 (ics [1])) :: ((.rd A130 1 0 c131 (ics [])) :: (tbRes l47 S48 c49 ++ (lvRes [vbad] ++ lvRes [v5])))))) 3 hm231 rfl).sub (L' := tbRes l47 S48 c49) ((List.Sublist.cons _ (List.Sublist.cons _ (List.sublist_append_left _ _))).trans (List.sublist_append_right _ _))))).all (good_small (goodT hvl47 (by decide +kernel)))) ?_
 have hE_ : findHd l47 3 = (hd0, 9) := findHd_no (by rw [placeP_vrs, hvl47]; decide +kernel)
 rintro e w233 ⟨v235, hv235_, rfl, hat_, hN_, hbz⟩
 rw [hE_] at hv235_ ⊢
 clear hE_
 have hm234 : Mem w w233 ([.arr g7 25 ([.int .i64 v5.h.tick, .slice v5.A v5.h.counts.length v5.c, .int .i64 v5.h.depth, .slice Ab 1 v5.d]), .arr g32 44 (tbs (.slice S48 l47.length c49) 3), .arr g199 25 (hcs v197.h v197.A v197.c v197.B v197.d)] ++ (lvRes [v235] ++ (lvRes [v197] ++ ((.rd (some ⟨bg_, og_, none⟩) 1 1 c163 (ics [1])) :: ((.rd A130 1 0 c131 (ics [])) :: (tbRes l47 S48 c49 ++ (lvRes [vbad] ++ lvRes [v5]))))))) := Mem.newLv  (M := (lvRes [v197] ++ ((.rd (some ⟨bg_, og_, none⟩) 1 1 c163 (ics [1])) :: ((.rd A130 1 0 c131 (ics [])) :: (tbRes l47 S48 c49 ++ (lvRes [vbad] ++ lvRes [v5])))))) [.arr g7 25 ([.int .i64 v5.h.tick, .slice v5.A v5.h.counts.length v5.c, .int .i64 v5.h.depth, .slice Ab 1 v5.d]), .arr g32 44 (tbs (.slice S48 l47.length c49) 3), .arr g199 25 (hcs v197.h v197.A v197.c v197.B v197.d)] hm231 hbz hat_ hN_ (hdTb ((List.Sublist.cons _ (List.Sublist.cons _ (List.sublist_append_left _ _))).trans (List.sublist_append_right _ _))) (mutApp (fun _ h_ => lvRes_mut h_) (mutCons (mutCons (mutApp (fun _ h_ => tbRes_mut h_) (mutApp (fun _ h_ => lvRes_mut h_) (fun _ h_ => lvRes_mut h_))))))
 have hm236 : Mem w w233 ((.arr g7 25 ([.int .i64 v5.h.tick, .slice v5.A v5.h.counts.length v5.c, .int .i64 v5.h.depth, .slice Ab 1 v5.d])) :: (.arr g32 44 (tbs (.slice S48 l47.length c49) 3)) :: (.arr g199 25 (hcs v197.h v197.A v197.c v197.B v197.d)) :: (lvRes [v235] ++ (lvRes [v197] ++ ((.rd (some ⟨bg_, og_, none⟩) 1 1 c163 (ics [1])) :: ((.rd A130 1 0 c131 (ics [])) :: (tbRes l47 S48 c49 ++ (lvRes [vbad] ++ lvRes [v5]))))))) := hm234
 clear hm234
 clear hm231
 clear hat_ hN_ hbz
 refine ⟨_, rfl, ?_⟩
 refine qP rfl ?_
 refine lk (v := .tuple #[.agg (hcs v235.h v235.A v235.c v235.B v235.d).toArray, .int .i64 9]) rfl rfl rfl ?_
 refine lk (v := .agg (hcs v235.h v235.A v235.c v235.B v235.d).toArray) rfl rfl rfl ?_
 refine lk (v := .int .i64 9) rfl rfl rfl ?_
 refine plAlloc (z := [.int .i64 0, .slice none 0 0, .int .i64 0, .slice none 0 0]) Ty.ag_voxel_api_Header hm236 (i := 5) rfl (wn rfl) rfl ?_
 intro g237 w239 hm238
 clear hm236
 try simp only [List.cons_append, List.nil_append, List.set_cons_succ, List.set_cons_zero] at hm238
 replace hm238 := Mem.insAt (M := ((.arr g7 25 ([.int .i64 v5.h.tick, .slice v5.A v5.h.counts.length v5.c, .int .i64 v5.h.depth, .slice Ab 1 v5.d])) :: (.arr g32 44 (tbs (.slice S48 l47.length c49) 3)) :: (.arr g199 25 (hcs v197.h v197.A v197.c v197.B v197.d)) :: (lvRes [v235] ++ (lvRes [v197] ++ ((.rd (some ⟨bg_, og_, none⟩) 1 1 c163 (ics [1])) :: ((.rd A130 1 0 c131 (ics [])) :: (tbRes l47 S48 c49 ++ (lvRes [vbad] ++ lvRes [v5])))))))) 3 hm238
 simp only [List.insertIdx_succ_cons, List.insertIdx_zero] at hm238
 refine qP rfl ?_
 refine plStore 3 Ty.ag_voxel_api_Header hm238 rfl (i := 6) (cs := hcs v235.h v235.A v235.c v235.B v235.d) rfl (wn rfl) rfl (litEv (by kernel_rfl)) (litEv (by kernel_rfl)) rfl rfl (by kernel_rfl) ?_
 intro w241 hm240
 clear hm238
 try simp only [List.cons_append, List.nil_append, List.set_cons_succ, List.set_cons_zero] at hm240
 refine qNone rfl ?_
 refine lk (v := .int .i64 9) rfl rfl rfl ?_
 refine plD ?_
 refine then_normal (hK232 _ _ ?_)
 have hm242 : Mem w w241 ((.arr g7 25 ([.int .i64 v5.h.tick, .slice v5.A v5.h.counts.length v5.c, .int .i64 v5.h.depth, .slice Ab 1 v5.d])) :: (.arr g199 25 (hcs v197.h v197.A v197.c v197.B v197.d)) :: (lvRes [v197] ++ ((.rd (some ⟨bg_, og_, none⟩) 1 1 c163 (ics [1])) :: ((.rd A130 1 0 c131 (ics [])) :: (lvRes [vbad] ++ lvRes [v5]))))) := hm240.sub (List.Sublist.cons_cons _ (List.Sublist.cons _ (List.Sublist.cons_cons _ (List.Sublist.cons _ ((List.Sublist.append (List.Sublist.refl _) (List.Sublist.cons_cons _ (List.Sublist.cons_cons _ ((List.Sublist.append (List.Sublist.refl _) (List.Sublist.refl _)).trans (List.sublist_append_right _ _))))).trans (List.sublist_append_right _ _))))))
 clear hm240
 refine wp_seq_k fun K243 hK243 => ?_
 refine wp_seq_k fun K244 hK244 => ?_
 refine plStart ?_
 refine lk (v := .int .i64 0) rfl rfl rfl ?_
 refine lk (v := .bool false) rfl rfl rfl ?_
 refine lk (v := .bool false) rfl rfl rfl ?_
 refine litVal (v := .int .i64 0) rfl (wgY rfl rfl rfl (by decide) (by kernel_rfl)) (litRun (by kernel_rfl)) rfl (by decide) ?_
 refine litVal (v := .bool false) rfl (wgY rfl rfl rfl (by decide) (by kernel_rfl)) (litRun (by kernel_rfl)) rfl (by decide) ?_
 refine lk (v := .bool false) rfl rfl rfl ?_
 refine lk (v := .bool false) rfl rfl rfl ?_
 refine litVal (v := .int .i64 22) rfl (wgY rfl rfl rfl (by decide) (by kernel_rfl)) (litRun (by kernel_rfl)) rfl (by decide) ?_
 refine litVal (v := .bool false) rfl (wgY rfl rfl rfl (by decide) (by kernel_rfl)) (litRun (by kernel_rfl)) rfl (by decide) ?_
 refine lk (v := .bool false) rfl rfl rfl ?_
 refine lk (v := .bool false) rfl rfl rfl ?_
 refine litVal (v := .int .i64 0) rfl (wgY rfl rfl rfl (by decide) (by kernel_rfl)) (litRun (by kernel_rfl)) rfl (by decide) ?_
 refine litVal (v := .bool false) rfl (wgY rfl rfl rfl (by decide) (by kernel_rfl)) (litRun (by kernel_rfl)) rfl (by decide) ?_
 refine lk (v := .bool false) rfl rfl rfl ?_
 refine lk (v := .bool false) rfl rfl rfl ?_
 refine litVal (v := .int .i64 0) rfl (wgY rfl rfl rfl (by decide) (by kernel_rfl)) (litRun (by kernel_rfl)) rfl (by decide) ?_
 refine litVal (v := .bool false) rfl (wgY rfl rfl rfl (by decide) (by kernel_rfl)) (litRun (by kernel_rfl)) rfl (by decide) ?_
 refine lk (v := .bool false) rfl rfl rfl ?_
 refine lk (v := .bool false) rfl rfl rfl ?_
 refine litVal (v := .int .i64 5) rfl (wgY rfl rfl rfl (by decide) (by kernel_rfl)) (litRun (by kernel_rfl)) rfl (by decide) ?_
 refine litVal (v := .bool false) rfl (wgY rfl rfl rfl (by decide) (by kernel_rfl)) (litRun (by kernel_rfl)) rfl (by decide) ?_
 refine lk (v := .bool false) rfl rfl rfl ?_
 refine lk (v := .bool false) rfl rfl rfl ?_
 refine litVal (v := .int .i64 0) rfl (wgY rfl rfl rfl (by decide) (by kernel_rfl)) (litRun (by kernel_rfl)) rfl (by decide) ?_
 refine litVal (v := .bool false) rfl (wgY rfl rfl rfl (by decide) (by kernel_rfl)) (litRun (by kernel_rfl)) rfl (by decide) ?_
 refine lk (v := .bool false) rfl rfl rfl ?_
 refine lk (v := .bool false) rfl rfl rfl ?_
 refine litVal (v := .int .i64 6) rfl (wgY rfl rfl rfl (by decide) (by kernel_rfl)) (litRun (by kernel_rfl)) rfl (by decide) ?_
 refine litVal (v := .bool false) rfl (wgY rfl rfl rfl (by decide) (by kernel_rfl)) (litRun (by kernel_rfl)) rfl (by decide) ?_
 refine lk (v := .bool false) rfl rfl rfl ?_
 refine lk (v := .bool false) rfl rfl rfl ?_
 refine litVal (v := .int .i64 9) rfl (wgY rfl rfl rfl (by decide) (by kernel_rfl)) (litRun (by kernel_rfl)) rfl (by decide) ?_
 refine litVal (v := .bool false) rfl (wgY rfl rfl rfl (by decide) (by kernel_rfl)) (litRun (by kernel_rfl)) rfl (by decide) ?_
 refine lk (v := .bool false) rfl rfl rfl ?_
 refine plD ?_
 refine then_normal (hK244 _ _ ?_)
 refine wpPrune [(0, .bool false), (1, .pointer (some ⟨g7, 0, none⟩)), (3, .int .i64 1), (5, .int .i64 2), (13, .slice A130 0 c131), (17, .slice (some ⟨bg_, og_, none⟩) 1 c163), (21, .pointer (some ⟨g199, 0, none⟩)), (132, .bool false)] ⟨litGet (by kernel_rfl), ⟨litGet (by kernel_rfl), ⟨litGet (by kernel_rfl), ⟨litGet (by kernel_rfl), ⟨litGet (by kernel_rfl), ⟨litGet (by kernel_rfl), ⟨litGet (by kernel_rfl), ⟨litGet (by kernel_rfl), trivial⟩⟩⟩⟩⟩⟩⟩⟩ (fun X245 => ?_)
 refine wp_cond_false (litEv (by kernel_rfl)) ?_
 refine wp_skip ?_
 refine then_normal (hK243 _ _ ?_)
 refine wp_seq_k fun K246 hK246 => ?_
 refine plStart ?_
 refine lk (v := .int .i64 1) rfl rfl rfl ?_
 refine lk (v := .bool true) rfl rfl rfl ?_
 refine lk (v := .bool true) rfl rfl rfl ?_
 refine litVal (v := .int .i64 2) rfl (wgY rfl rfl rfl (by decide) (by kernel_rfl)) (litRun (by kernel_rfl)) rfl (by decide) ?_
 refine litVal (v := .bool true) rfl (wgY rfl rfl rfl (by decide) (by kernel_rfl)) (litRun (by kernel_rfl)) rfl (by decide) ?_
 refine lk (v := .bool true) rfl rfl rfl ?_
 refine lk (v := .bool true) rfl rfl rfl ?_
 refine litVal (v := .slice A130 0 c131) rfl (wgY rfl rfl rfl (by decide) (by kernel_rfl)) (litRun (by kernel_rfl)) rfl (by decide) ?_
 refine litVal (v := .int .i64 0) rfl (wgY rfl rfl rfl (by decide) (by kernel_rfl)) (lenSlRun (A := A130) (n := 0) (c := c131) (.tmp 140) Ty.und_L_int rfl (litEv (by kernel_rfl))) rfl (by decide) ?_
 refine litVal (v := .bool true) rfl (wgY rfl rfl rfl (by decide) (by kernel_rfl)) (litRun (by kernel_rfl)) rfl (by decide) ?_
 refine lk (v := .bool true) rfl rfl rfl ?_
 refine lk (v := .bool true) rfl rfl rfl ?_
 refine litVal (v := .slice (some ⟨bg_, og_, none⟩) 1 c163) rfl (wgY rfl rfl rfl (by decide) (by kernel_rfl)) (litRun (by kernel_rfl)) rfl (by decide) ?_
 refine litVal (v := .int .i64 1) rfl (wgY rfl rfl rfl (by decide) (by kernel_rfl)) (lenSlRun (A := some ⟨bg_, og_, none⟩) (n := 1) (c := c163) (.tmp 145) Ty.und_L_int rfl (litEv (by kernel_rfl))) rfl (by decide) ?_
 refine litVal (v := .bool true) rfl (wgY rfl rfl rfl (by decide) (by kernel_rfl)) (litRun (by kernel_rfl)) rfl (by decide) ?_
 refine lk (v := .bool true) rfl rfl rfl ?_
 refine lk (v := .bool true) rfl rfl rfl ?_
 refine litVal (v := .slice (some ⟨bg_, og_, none⟩) 1 c163) rfl (wgY rfl rfl rfl (by decide) (by kernel_rfl)) (litRun (by kernel_rfl)) rfl (by decide) ?_
 refine litVal (v := .pointer (some ⟨bg_, og_ + 0 * 1, none⟩)) rfl (wgY rfl rfl rfl (by decide) (by kernel_rfl)) (gIaSl (b := bg_) (off := og_) (n := 1) (c := c163) (kk := .i64) (K := 0) (.tmp 150) (.const (.int .i64 0)) 0 Ty.sl_L_int rfl (litEv (by kernel_rfl)) (litEv (by kernel_rfl)) (rfl) (by decide)) rfl (by decide) ?_
 refine litVal (v := .int .i64 1) rfl (wgY rfl rfl rfl (by decide) (by kernel_rfl)) (gLoadRd (v := .int .i64 1) (m := 0 * 1) (((Mem.tailN (T := (lvRes [v197] ++ ((.rd (some ⟨bg_, og_, none⟩) 1 1 c163 (ics [1])) :: ((.rd A130 1 0 c131 (ics [])) :: (lvRes [vbad] ++ lvRes [v5]))))) 2 hm242 rfl).sub (L' := [.rd (some ⟨bg_, og_, none⟩) 1 1 c163 (ics [1])]) ((List.Sublist.cons_cons _ (List.nil_sublist _)).trans (List.sublist_append_right _ _))).rd 0 rfl) rfl (rfl) (by decide) (.tmp 151) (by kernel_rfl) rfl (litEv (by kernel_rfl))) rfl (by decide) ?_
 refine litVal (v := .bool true) rfl (wgY rfl rfl rfl (by decide) (by kernel_rfl)) (litRun (by kernel_rfl)) rfl (by decide) ?_
 refine lk (v := .bool true) rfl rfl rfl ?_
 refine lk (v := .bool true) rfl rfl rfl ?_
 refine plD ?_
 refine then_normal (hK246 _ _ ?_)
 refine wpPrune [(0, .bool false), (1, .pointer (some ⟨g7, 0, none⟩)), (21, .pointer (some ⟨g199, 0, none⟩)), (27, .bool true)] ⟨litGet (by kernel_rfl), ⟨litGet (by kernel_rfl), ⟨litGet (by kernel_rfl), ⟨litGet (by kernel_rfl), trivial⟩⟩⟩⟩ (fun X247 => ?_)
 have hm248 : Mem w w241 ((.arr g7 25 ([.int .i64 v5.h.tick, .slice v5.A v5.h.counts.length v5.c, .int .i64 v5.h.depth, .slice Ab 1 v5.d])) :: (.arr g199 25 (hcs v197.h v197.A v197.c v197.B v197.d)) :: (lvRes [v197] ++ (lvRes [vbad] ++ lvRes [v5]))) := hm242.sub (List.Sublist.cons_cons _ (List.Sublist.cons_cons _ (List.Sublist.append (List.Sublist.refl _) (List.Sublist.cons _ (List.Sublist.cons _ (List.Sublist.append (List.Sublist.refl _) (List.Sublist.refl _)))))))
 clear hm242
 refine wp_seq_k fun K249 hK249 => ?_
 refine mgStartM ((.arr g7 25 ([.int .i64 v5.h.tick, .slice v5.A v5.h.counts.length v5.c, .int .i64 v5.h.depth, .slice Ab 1 v5.d])) :: (.arr g199 25 (hcs v197.h v197.A v197.c v197.B v197.d)) :: (lvRes [v197] ++ (lvRes [vbad] ++ lvRes [v5]))) hm248 (by kernel_rfl) ?_
 intro w251 hm250
 clear hm248
 refine mk_ (i := 0) (v := .bool true) rfl rfl (fun _ _ _ h => h) (hm250.sub (.cons_cons _ (.cons_cons _ (List.Sublist.refl _)))) rfl ?_
 refine mk_ (i := 1) (v := .bool true) rfl rfl (fun _ _ _ h => h) (hm250.sub (.cons_cons _ (.cons_cons _ (List.Sublist.refl _)))) rfl ?_
 refine mgCall (i := 2) 30 [.int .i64 5] [] [] (by kernel_rfl) rfl (by kernel_rfl) (wgY rfl rfl rfl (by decide) (by kernel_rfl)) rfl (litEv (by kernel_rfl)) (litArgs (by kernel_rfl)) (header_any 5 _) ?_
 rintro e w252 ⟨v254, hv254_, rfl, hat_, hA_, hB_, hbz⟩
 have hm253 : Mem w w252 ([.arr g7 25 ([.int .i64 v5.h.tick, .slice v5.A v5.h.counts.length v5.c, .int .i64 v5.h.depth, .slice Ab 1 v5.d]), .arr g199 25 (hcs v197.h v197.A v197.c v197.B v197.d)] ++ (lvRes [v254] ++ (lvRes [v197] ++ (lvRes [vbad] ++ lvRes [v5])))) := Mem.newLv (lx := []) (M := (lvRes [v197] ++ (lvRes [vbad] ++ lvRes [v5]))) [.arr g7 25 ([.int .i64 v5.h.tick, .slice v5.A v5.h.counts.length v5.c, .int .i64 v5.h.depth, .slice Ab 1 v5.d]), .arr g199 25 (hcs v197.h v197.A v197.c v197.B v197.d)] hm250 hbz hat_ (Or.inr ⟨hA_, hB_⟩) hdNone (mutApp (fun _ h_ => lvRes_mut h_) (mutApp (fun _ h_ => lvRes_mut h_) (fun _ h_ => lvRes_mut h_)))
 have hm255 : Mem w w252 ((.arr g7 25 ([.int .i64 v5.h.tick, .slice v5.A v5.h.counts.length v5.c, .int .i64 v5.h.depth, .slice Ab 1 v5.d])) :: (.arr g199 25 (hcs v197.h v197.A v197.c v197.B v197.d)) :: (lvRes [v254] ++ (lvRes [v197] ++ (lvRes [vbad] ++ lvRes [v5])))) := hm253
 clear hm253
 clear hat_ hA_ hB_ hbz
 refine ⟨_, rfl, (hm255.sub (.cons_cons _ (.cons_cons _ ((List.Sublist.refl _).trans (List.sublist_append_right _ _))))), ?_⟩
 refine mP rfl ?_
 refine mgCall (i := 3) 14 [.agg (hcs v254.h v254.A v254.c v254.B v254.d).toArray] [] [] (by kernel_rfl) rfl (by kernel_rfl) (wgY rfl rfl rfl (by decide) (by kernel_rfl)) rfl (litEv (by kernel_rfl)) (litArgs (by kernel_rfl)) (by have h_ := check_any v254.h v254.A v254.c v254.B v254.d _ ((Mem.lv ((Mem.tailN (T := (lvRes [v254] ++ (lvRes [v197] ++ (lvRes [vbad] ++ lvRes [v5])))) 2 hm255 rfl).sub (L' := lvRes [v254]) (List.sublist_append_left _ _))) v254 List.mem_cons_self).a ((Mem.lv ((Mem.tailN (T := (lvRes [v254] ++ (lvRes [v197] ++ (lvRes [vbad] ++ lvRes [v5])))) 2 hm255 rfl).sub (L' := lvRes [v254]) (List.sublist_append_left _ _))) v254 List.mem_cons_self).b (by rw [hv254_]; decide) (by rw [hv254_]; decide) (by rw [hv254_]; decide); rw [show ckH v254.h = 0 by rw [hv254_]; kernel_rfl] at h_; exact h_) ?_
 rintro e w256 ⟨rfl, hbz⟩
 have hm257 := hm255.below hbz
 clear hbz hm255
 refine ⟨_, rfl, (hm257.sub (.cons_cons _ (.cons_cons _ ((List.Sublist.refl _).trans (List.sublist_append_right _ _))))), ?_⟩
 refine mP rfl ?_
 refine mgTake (i := 4) (v := .bool true) rfl (by kernel_rfl) (wgY rfl rfl rfl (by decide) (by kernel_rfl)) (fun _ _ _ h => h) (hm257.sub (.cons_cons _ (.cons_cons _ ((List.Sublist.refl _).trans (List.sublist_append_right _ _))))) (fun w_ h_ => litRun (by kernel_rfl)) ?_
 refine mP rfl ?_
 refine mk_ (i := 5) (v := .bool true) rfl rfl (fun _ _ _ h => h) (hm257.sub (.cons_cons _ (.cons_cons _ ((List.Sublist.refl _).trans (List.sublist_append_right _ _))))) rfl ?_
 refine mk_ (i := 6) (v := .bool true) rfl rfl (fun _ _ _ h => h) (hm257.sub (.cons_cons _ (.cons_cons _ ((List.Sublist.refl _).trans (List.sublist_append_right _ _))))) rfl ?_
 refine mgTake (i := 7) (v := .agg ([.int .i64 v5.h.tick, .slice v5.A v5.h.counts.length v5.c, .int .i64 v5.h.depth, .slice Ab 1 v5.d]).toArray) rfl (by kernel_rfl) (wgY rfl rfl rfl (by decide) (by kernel_rfl)) (fun _ _ _ h => h) (hm257.sub (.cons_cons _ (.cons_cons _ ((List.Sublist.refl _).trans (List.sublist_append_right _ _))))) (fun w_ h_ => gLoadAg (vs := [.int .i64 v5.h.tick, .slice v5.A v5.h.counts.length v5.c, .int .i64 v5.h.depth, .slice Ab 1 v5.d]) (k := 0) 0 h_ rfl (by kernel_rfl) (by kernel_rfl) (.tmp 1) Ty.ag_voxel_api_Header rfl (litEv (by kernel_rfl))) ?_
 refine mP rfl ?_
 refine mgCall (i := 8) 14 [.agg ([.int .i64 v5.h.tick, .slice v5.A v5.h.counts.length v5.c, .int .i64 v5.h.depth, .slice Ab 1 v5.d]).toArray] [] [] (by kernel_rfl) rfl (by kernel_rfl) (wgY rfl rfl rfl (by decide) (by kernel_rfl)) rfl (litEv (by kernel_rfl)) (litArgs (by kernel_rfl)) (by have h_ := check_any hdBad v5.A v5.c Ab v5.d _ (by have q_ := ((Mem.lv ((Mem.tailN (T := (lvRes [v254] ++ (lvRes [v197] ++ (lvRes [vbad] ++ lvRes [v5])))) 2 hm257 rfl).sub (L' := lvRes [vbad]) (((List.sublist_append_left _ _).trans (List.sublist_append_right _ _)).trans (List.sublist_append_right _ _)))) vbad List.mem_cons_self).a; rw [hvb_] at q_; exact q_) (by have q_ := ((Mem.lv ((Mem.tailN (T := (lvRes [v254] ++ (lvRes [v197] ++ (lvRes [vbad] ++ lvRes [v5])))) 2 hm257 rfl).sub (L' := lvRes [vbad]) (((List.sublist_append_left _ _).trans (List.sublist_append_right _ _)).trans (List.sublist_append_right _ _)))) vbad List.mem_cons_self).b; rw [hvb_] at q_; exact q_) (by decide) (by decide) (by decide); have e_ : hcs hdBad v5.A v5.c Ab v5.d = [.int .i64 v5.h.tick, .slice v5.A v5.h.counts.length v5.c, .int .i64 v5.h.depth, .slice Ab 1 v5.d] := (by rw [hv5_]; first | done | rfl); rw [e_, show ckH hdBad = 1 by kernel_rfl] at h_; exact h_) ?_
 rintro e w258 ⟨rfl, hbz⟩
 have hm259 := hm257.below hbz
 clear hbz hm257
 refine ⟨_, rfl, (hm259.sub (.cons_cons _ (.cons_cons _ ((List.Sublist.refl _).trans (List.sublist_append_right _ _))))), ?_⟩
 refine mP rfl ?_
 refine mgTake (i := 9) (v := .bool true) rfl (by kernel_rfl) (wgY rfl rfl rfl (by decide) (by kernel_rfl)) (fun _ _ _ h => h) (hm259.sub (.cons_cons _ (.cons_cons _ ((List.Sublist.refl _).trans (List.sublist_append_right _ _))))) (fun w_ h_ => litRun (by kernel_rfl)) ?_
 refine mP rfl ?_
 refine mk_ (i := 10) (v := .bool true) rfl rfl (fun _ _ _ h => h) (hm259.sub (.cons_cons _ (.cons_cons _ ((List.Sublist.refl _).trans (List.sublist_append_right _ _))))) rfl ?_
 refine mk_ (i := 11) (v := .bool true) rfl rfl (fun _ _ _ h => h) (hm259.sub (.cons_cons _ (.cons_cons _ ((List.Sublist.refl _).trans (List.sublist_append_right _ _))))) rfl ?_
 refine mgTake (i := 12) (v := .agg (hcs v197.h v197.A v197.c v197.B v197.d).toArray) rfl (by kernel_rfl) (wgY rfl rfl rfl (by decide) (by kernel_rfl)) (fun _ _ _ h => h) (hm259.sub (.cons_cons _ (.cons_cons _ ((List.Sublist.refl _).trans (List.sublist_append_right _ _))))) (fun w_ h_ => gLoadAg (vs := hcs v197.h v197.A v197.c v197.B v197.d) (k := 0) 1 h_ rfl (by kernel_rfl) (by kernel_rfl) (.tmp 21) Ty.ag_voxel_api_Header rfl (litEv (by kernel_rfl))) ?_
 refine mP rfl ?_
 refine mgCall (i := 13) 30 [.int .i64 5] [] [] (by kernel_rfl) rfl (by kernel_rfl) (wgY rfl rfl rfl (by decide) (by kernel_rfl)) rfl (litEv (by kernel_rfl)) (litArgs (by kernel_rfl)) (header_any 5 _) ?_
 rintro e w260 ⟨v262, hv262_, rfl, hat_, hA_, hB_, hbz⟩
 have hm261 : Mem w w260 ([.arr g7 25 ([.int .i64 v5.h.tick, .slice v5.A v5.h.counts.length v5.c, .int .i64 v5.h.depth, .slice Ab 1 v5.d]), .arr g199 25 (hcs v197.h v197.A v197.c v197.B v197.d)] ++ (lvRes [v262] ++ (lvRes [v254] ++ (lvRes [v197] ++ (lvRes [vbad] ++ lvRes [v5]))))) := Mem.newLv (lx := []) (M := (lvRes [v254] ++ (lvRes [v197] ++ (lvRes [vbad] ++ lvRes [v5])))) [.arr g7 25 ([.int .i64 v5.h.tick, .slice v5.A v5.h.counts.length v5.c, .int .i64 v5.h.depth, .slice Ab 1 v5.d]), .arr g199 25 (hcs v197.h v197.A v197.c v197.B v197.d)] hm259 hbz hat_ (Or.inr ⟨hA_, hB_⟩) hdNone (mutApp (fun _ h_ => lvRes_mut h_) (mutApp (fun _ h_ => lvRes_mut h_) (mutApp (fun _ h_ => lvRes_mut h_) (fun _ h_ => lvRes_mut h_))))
 have hm263 : Mem w w260 ((.arr g7 25 ([.int .i64 v5.h.tick, .slice v5.A v5.h.counts.length v5.c, .int .i64 v5.h.depth, .slice Ab 1 v5.d])) :: (.arr g199 25 (hcs v197.h v197.A v197.c v197.B v197.d)) :: (lvRes [v262] ++ (lvRes [v254] ++ (lvRes [v197] ++ (lvRes [vbad] ++ lvRes [v5]))))) := hm261
 clear hm261
 clear hat_ hA_ hB_ hbz
 refine ⟨_, rfl, (hm263.sub (.cons_cons _ (.cons_cons _ (((List.Sublist.refl _).trans (List.sublist_append_right _ _)).trans (List.sublist_append_right _ _))))), ?_⟩
 refine mP rfl ?_
 refine mgCall (i := 14) 18 [.agg (hcs v197.h v197.A v197.c v197.B v197.d).toArray, .agg (hcs v262.h v262.A v262.c v262.B v262.d).toArray] [] [] (by kernel_rfl) rfl (by kernel_rfl) (wgY rfl rfl rfl (by decide) (by kernel_rfl)) rfl (litEv (by kernel_rfl)) (litArgs (by kernel_rfl)) (by have h_ := same_any v197.h v197.A v197.c v197.B v197.d v262.h v262.A v262.c v262.B v262.d _ ((Mem.lv ((Mem.tailN (T := (lvRes [v262] ++ (lvRes [v254] ++ (lvRes [v197] ++ (lvRes [vbad] ++ lvRes [v5]))))) 2 hm263 rfl).sub (L' := lvRes [v197]) (((List.sublist_append_left _ _).trans (List.sublist_append_right _ _)).trans (List.sublist_append_right _ _)))) v197 List.mem_cons_self).a ((Mem.lv ((Mem.tailN (T := (lvRes [v262] ++ (lvRes [v254] ++ (lvRes [v197] ++ (lvRes [vbad] ++ lvRes [v5]))))) 2 hm263 rfl).sub (L' := lvRes [v197]) (((List.sublist_append_left _ _).trans (List.sublist_append_right _ _)).trans (List.sublist_append_right _ _)))) v197 List.mem_cons_self).b ((Mem.lv ((Mem.tailN (T := (lvRes [v262] ++ (lvRes [v254] ++ (lvRes [v197] ++ (lvRes [vbad] ++ lvRes [v5]))))) 2 hm263 rfl).sub (L' := lvRes [v262]) (List.sublist_append_left _ _))) v262 List.mem_cons_self).a ((Mem.lv ((Mem.tailN (T := (lvRes [v262] ++ (lvRes [v254] ++ (lvRes [v197] ++ (lvRes [vbad] ++ lvRes [v5]))))) 2 hm263 rfl).sub (L' := lvRes [v262]) (List.sublist_append_left _ _))) v262 List.mem_cons_self).b (by rw [hv197_]; decide) (by rw [hv197_]; decide); rw [show decide (v197.h = v262.h) = true by rw [hv197_, hv262_]; kernel_rfl] at h_; exact h_) ?_
 rintro e w264 ⟨rfl, hbz⟩
 have hm265 := hm263.below hbz
 clear hbz hm263
 refine ⟨_, rfl, (hm265.sub (.cons_cons _ (.cons_cons _ (((List.Sublist.refl _).trans (List.sublist_append_right _ _)).trans (List.sublist_append_right _ _))))), ?_⟩
 refine mP rfl ?_
 refine mk_ (i := 15) (v := .bool true) rfl rfl (fun _ _ _ h => h) (hm265.sub (.cons_cons _ (.cons_cons _ (((List.Sublist.refl _).trans (List.sublist_append_right _ _)).trans (List.sublist_append_right _ _))))) rfl ?_
 refine mk_ (i := 16) (v := .bool true) rfl rfl (fun _ _ _ h => h) (hm265.sub (.cons_cons _ (.cons_cons _ (((List.Sublist.refl _).trans (List.sublist_append_right _ _)).trans (List.sublist_append_right _ _))))) rfl ?_
 refine mgTake (i := 17) (v := .agg (hcs v197.h v197.A v197.c v197.B v197.d).toArray) rfl (by kernel_rfl) (wgY rfl rfl rfl (by decide) (by kernel_rfl)) (fun _ _ _ h => h) (hm265.sub (.cons_cons _ (.cons_cons _ (((List.Sublist.refl _).trans (List.sublist_append_right _ _)).trans (List.sublist_append_right _ _))))) (fun w_ h_ => gLoadAg (vs := hcs v197.h v197.A v197.c v197.B v197.d) (k := 0) 1 h_ rfl (by kernel_rfl) (by kernel_rfl) (.tmp 21) Ty.ag_voxel_api_Header rfl (litEv (by kernel_rfl))) ?_
 refine mP rfl ?_
 refine mgCall (i := 18) 30 [.int .i64 6] [] [] (by kernel_rfl) rfl (by kernel_rfl) (wgY rfl rfl rfl (by decide) (by kernel_rfl)) rfl (litEv (by kernel_rfl)) (litArgs (by kernel_rfl)) (header_any 6 _) ?_
 rintro e w266 ⟨v268, hv268_, rfl, hat_, hA_, hB_, hbz⟩
 have hm267 : Mem w w266 ([.arr g7 25 ([.int .i64 v5.h.tick, .slice v5.A v5.h.counts.length v5.c, .int .i64 v5.h.depth, .slice Ab 1 v5.d]), .arr g199 25 (hcs v197.h v197.A v197.c v197.B v197.d)] ++ (lvRes [v268] ++ (lvRes [v262] ++ (lvRes [v254] ++ (lvRes [v197] ++ (lvRes [vbad] ++ lvRes [v5])))))) := Mem.newLv (lx := []) (M := (lvRes [v262] ++ (lvRes [v254] ++ (lvRes [v197] ++ (lvRes [vbad] ++ lvRes [v5]))))) [.arr g7 25 ([.int .i64 v5.h.tick, .slice v5.A v5.h.counts.length v5.c, .int .i64 v5.h.depth, .slice Ab 1 v5.d]), .arr g199 25 (hcs v197.h v197.A v197.c v197.B v197.d)] hm265 hbz hat_ (Or.inr ⟨hA_, hB_⟩) hdNone (mutApp (fun _ h_ => lvRes_mut h_) (mutApp (fun _ h_ => lvRes_mut h_) (mutApp (fun _ h_ => lvRes_mut h_) (mutApp (fun _ h_ => lvRes_mut h_) (fun _ h_ => lvRes_mut h_)))))
 have hm269 : Mem w w266 ((.arr g7 25 ([.int .i64 v5.h.tick, .slice v5.A v5.h.counts.length v5.c, .int .i64 v5.h.depth, .slice Ab 1 v5.d])) :: (.arr g199 25 (hcs v197.h v197.A v197.c v197.B v197.d)) :: (lvRes [v268] ++ (lvRes [v262] ++ (lvRes [v254] ++ (lvRes [v197] ++ (lvRes [vbad] ++ lvRes [v5])))))) := hm267
 clear hm267
 clear hat_ hA_ hB_ hbz
 refine ⟨_, rfl, (hm269.sub (.cons_cons _ (.cons_cons _ ((((List.Sublist.refl _).trans (List.sublist_append_right _ _)).trans (List.sublist_append_right _ _)).trans (List.sublist_append_right _ _))))), ?_⟩
 refine mP rfl ?_
 refine mgCall (i := 19) 18 [.agg (hcs v197.h v197.A v197.c v197.B v197.d).toArray, .agg (hcs v268.h v268.A v268.c v268.B v268.d).toArray] [] [] (by kernel_rfl) rfl (by kernel_rfl) (wgY rfl rfl rfl (by decide) (by kernel_rfl)) rfl (litEv (by kernel_rfl)) (litArgs (by kernel_rfl)) (by have h_ := same_any v197.h v197.A v197.c v197.B v197.d v268.h v268.A v268.c v268.B v268.d _ ((Mem.lv ((Mem.tailN (T := (lvRes [v268] ++ (lvRes [v262] ++ (lvRes [v254] ++ (lvRes [v197] ++ (lvRes [vbad] ++ lvRes [v5])))))) 2 hm269 rfl).sub (L' := lvRes [v197]) ((((List.sublist_append_left _ _).trans (List.sublist_append_right _ _)).trans (List.sublist_append_right _ _)).trans (List.sublist_append_right _ _)))) v197 List.mem_cons_self).a ((Mem.lv ((Mem.tailN (T := (lvRes [v268] ++ (lvRes [v262] ++ (lvRes [v254] ++ (lvRes [v197] ++ (lvRes [vbad] ++ lvRes [v5])))))) 2 hm269 rfl).sub (L' := lvRes [v197]) ((((List.sublist_append_left _ _).trans (List.sublist_append_right _ _)).trans (List.sublist_append_right _ _)).trans (List.sublist_append_right _ _)))) v197 List.mem_cons_self).b ((Mem.lv ((Mem.tailN (T := (lvRes [v268] ++ (lvRes [v262] ++ (lvRes [v254] ++ (lvRes [v197] ++ (lvRes [vbad] ++ lvRes [v5])))))) 2 hm269 rfl).sub (L' := lvRes [v268]) (List.sublist_append_left _ _))) v268 List.mem_cons_self).a ((Mem.lv ((Mem.tailN (T := (lvRes [v268] ++ (lvRes [v262] ++ (lvRes [v254] ++ (lvRes [v197] ++ (lvRes [vbad] ++ lvRes [v5])))))) 2 hm269 rfl).sub (L' := lvRes [v268]) (List.sublist_append_left _ _))) v268 List.mem_cons_self).b (by rw [hv197_]; decide) (by rw [hv197_]; decide); rw [show decide (v197.h = v268.h) = false by rw [hv197_, hv268_]; kernel_rfl] at h_; exact h_) ?_
 rintro e w270 ⟨rfl, hbz⟩
 have hm271 := hm269.below hbz
 clear hbz hm269
 refine ⟨_, rfl, (hm271.sub (.cons_cons _ (.cons_cons _ ((((List.Sublist.refl _).trans (List.sublist_append_right _ _)).trans (List.sublist_append_right _ _)).trans (List.sublist_append_right _ _))))), ?_⟩
 refine mP rfl ?_
 refine mgTake (i := 20) (v := .bool true) rfl (by kernel_rfl) (wgY rfl rfl rfl (by decide) (by kernel_rfl)) (fun _ _ _ h => h) (hm271.sub (.cons_cons _ (.cons_cons _ ((((List.Sublist.refl _).trans (List.sublist_append_right _ _)).trans (List.sublist_append_right _ _)).trans (List.sublist_append_right _ _))))) (fun w_ h_ => litRun (by kernel_rfl)) ?_
 refine mP rfl ?_
 refine mk_ (i := 21) (v := .bool true) rfl rfl (fun _ _ _ h => h) (hm271.sub (.cons_cons _ (.cons_cons _ ((((List.Sublist.refl _).trans (List.sublist_append_right _ _)).trans (List.sublist_append_right _ _)).trans (List.sublist_append_right _ _))))) rfl ?_
 refine mk_ (i := 22) (v := .bool true) rfl rfl (fun _ _ _ h => h) (hm271.sub (.cons_cons _ (.cons_cons _ ((((List.Sublist.refl _).trans (List.sublist_append_right _ _)).trans (List.sublist_append_right _ _)).trans (List.sublist_append_right _ _))))) rfl ?_
 refine mgCall (i := 23) 30 [.int .i64 6] [] [] (by kernel_rfl) rfl (by kernel_rfl) (wgY rfl rfl rfl (by decide) (by kernel_rfl)) rfl (litEv (by kernel_rfl)) (litArgs (by kernel_rfl)) (header_any 6 _) ?_
 rintro e w272 ⟨v274, hv274_, rfl, hat_, hA_, hB_, hbz⟩
 have hm273 : Mem w w272 ([.arr g7 25 ([.int .i64 v5.h.tick, .slice v5.A v5.h.counts.length v5.c, .int .i64 v5.h.depth, .slice Ab 1 v5.d]), .arr g199 25 (hcs v197.h v197.A v197.c v197.B v197.d)] ++ (lvRes [v274] ++ (lvRes [v268] ++ (lvRes [v262] ++ (lvRes [v254] ++ (lvRes [v197] ++ (lvRes [vbad] ++ lvRes [v5]))))))) := Mem.newLv (lx := []) (M := (lvRes [v268] ++ (lvRes [v262] ++ (lvRes [v254] ++ (lvRes [v197] ++ (lvRes [vbad] ++ lvRes [v5])))))) [.arr g7 25 ([.int .i64 v5.h.tick, .slice v5.A v5.h.counts.length v5.c, .int .i64 v5.h.depth, .slice Ab 1 v5.d]), .arr g199 25 (hcs v197.h v197.A v197.c v197.B v197.d)] hm271 hbz hat_ (Or.inr ⟨hA_, hB_⟩) hdNone (mutApp (fun _ h_ => lvRes_mut h_) (mutApp (fun _ h_ => lvRes_mut h_) (mutApp (fun _ h_ => lvRes_mut h_) (mutApp (fun _ h_ => lvRes_mut h_) (mutApp (fun _ h_ => lvRes_mut h_) (fun _ h_ => lvRes_mut h_))))))
 have hm275 : Mem w w272 ((.arr g7 25 ([.int .i64 v5.h.tick, .slice v5.A v5.h.counts.length v5.c, .int .i64 v5.h.depth, .slice Ab 1 v5.d])) :: (.arr g199 25 (hcs v197.h v197.A v197.c v197.B v197.d)) :: (lvRes [v274] ++ (lvRes [v268] ++ (lvRes [v262] ++ (lvRes [v254] ++ (lvRes [v197] ++ (lvRes [vbad] ++ lvRes [v5]))))))) := hm273
 clear hm273
 clear hat_ hA_ hB_ hbz
 refine ⟨_, rfl, (hm275.sub (.cons_cons _ (.cons_cons _ (((((List.Sublist.refl _).trans (List.sublist_append_right _ _)).trans (List.sublist_append_right _ _)).trans (List.sublist_append_right _ _)).trans (List.sublist_append_right _ _))))), ?_⟩
 refine mP rfl ?_
 refine mgCall (i := 24) 30 [.int .i64 5] [] [] (by kernel_rfl) rfl (by kernel_rfl) (wgY rfl rfl rfl (by decide) (by kernel_rfl)) rfl (litEv (by kernel_rfl)) (litArgs (by kernel_rfl)) (header_any 5 _) ?_
 rintro e w276 ⟨v278, hv278_, rfl, hat_, hA_, hB_, hbz⟩
 have hm277 : Mem w w276 ([.arr g7 25 ([.int .i64 v5.h.tick, .slice v5.A v5.h.counts.length v5.c, .int .i64 v5.h.depth, .slice Ab 1 v5.d]), .arr g199 25 (hcs v197.h v197.A v197.c v197.B v197.d)] ++ (lvRes [v278] ++ (lvRes [v274] ++ (lvRes [v268] ++ (lvRes [v262] ++ (lvRes [v254] ++ (lvRes [v197] ++ (lvRes [vbad] ++ lvRes [v5])))))))) := Mem.newLv (lx := []) (M := (lvRes [v274] ++ (lvRes [v268] ++ (lvRes [v262] ++ (lvRes [v254] ++ (lvRes [v197] ++ (lvRes [vbad] ++ lvRes [v5]))))))) [.arr g7 25 ([.int .i64 v5.h.tick, .slice v5.A v5.h.counts.length v5.c, .int .i64 v5.h.depth, .slice Ab 1 v5.d]), .arr g199 25 (hcs v197.h v197.A v197.c v197.B v197.d)] hm275 hbz hat_ (Or.inr ⟨hA_, hB_⟩) hdNone (mutApp (fun _ h_ => lvRes_mut h_) (mutApp (fun _ h_ => lvRes_mut h_) (mutApp (fun _ h_ => lvRes_mut h_) (mutApp (fun _ h_ => lvRes_mut h_) (mutApp (fun _ h_ => lvRes_mut h_) (mutApp (fun _ h_ => lvRes_mut h_) (fun _ h_ => lvRes_mut h_)))))))
 have hm279 : Mem w w276 ((.arr g7 25 ([.int .i64 v5.h.tick, .slice v5.A v5.h.counts.length v5.c, .int .i64 v5.h.depth, .slice Ab 1 v5.d])) :: (.arr g199 25 (hcs v197.h v197.A v197.c v197.B v197.d)) :: (lvRes [v278] ++ (lvRes [v274] ++ (lvRes [v268] ++ (lvRes [v262] ++ (lvRes [v254] ++ (lvRes [v197] ++ (lvRes [vbad] ++ lvRes [v5])))))))) := hm277
 clear hm277
 clear hat_ hA_ hB_ hbz
 refine ⟨_, rfl, (hm279.sub (.cons_cons _ (.cons_cons _ ((((((List.Sublist.refl _).trans (List.sublist_append_right _ _)).trans (List.sublist_append_right _ _)).trans (List.sublist_append_right _ _)).trans (List.sublist_append_right _ _)).trans (List.sublist_append_right _ _))))), ?_⟩
 refine mP rfl ?_
 refine mgCall (i := 25) 19 [.agg (hcs v274.h v274.A v274.c v274.B v274.d).toArray, .agg (hcs v278.h v278.A v278.c v278.B v278.d).toArray] [] [] (by kernel_rfl) rfl (by kernel_rfl) (wgY rfl rfl rfl (by decide) (by kernel_rfl)) rfl (litEv (by kernel_rfl)) (litArgs (by kernel_rfl)) (by have h_ := covers_any v274.h v274.A v274.c v274.B v274.d v278.h v278.A v278.c v278.B v278.d _ ((Mem.lv ((Mem.tailN (T := (lvRes [v278] ++ (lvRes [v274] ++ (lvRes [v268] ++ (lvRes [v262] ++ (lvRes [v254] ++ (lvRes [v197] ++ (lvRes [vbad] ++ lvRes [v5])))))))) 2 hm279 rfl).sub (L' := lvRes [v274]) ((List.sublist_append_left _ _).trans (List.sublist_append_right _ _)))) v274 List.mem_cons_self).a ((Mem.lv ((Mem.tailN (T := (lvRes [v278] ++ (lvRes [v274] ++ (lvRes [v268] ++ (lvRes [v262] ++ (lvRes [v254] ++ (lvRes [v197] ++ (lvRes [vbad] ++ lvRes [v5])))))))) 2 hm279 rfl).sub (L' := lvRes [v274]) ((List.sublist_append_left _ _).trans (List.sublist_append_right _ _)))) v274 List.mem_cons_self).b ((Mem.lv ((Mem.tailN (T := (lvRes [v278] ++ (lvRes [v274] ++ (lvRes [v268] ++ (lvRes [v262] ++ (lvRes [v254] ++ (lvRes [v197] ++ (lvRes [vbad] ++ lvRes [v5])))))))) 2 hm279 rfl).sub (L' := lvRes [v278]) (List.sublist_append_left _ _))) v278 List.mem_cons_self).a ((Mem.lv ((Mem.tailN (T := (lvRes [v278] ++ (lvRes [v274] ++ (lvRes [v268] ++ (lvRes [v262] ++ (lvRes [v254] ++ (lvRes [v197] ++ (lvRes [vbad] ++ lvRes [v5])))))))) 2 hm279 rfl).sub (L' := lvRes [v278]) (List.sublist_append_left _ _))) v278 List.mem_cons_self).b (by rw [hv274_]; decide) (by rw [hv274_]; decide) (by rw [hv274_]; rfl) (by rw [hv278_]; rfl); rw [show decide (covers v274.h v278.h) = true by rw [hv274_, hv278_]; kernel_rfl] at h_; exact h_) ?_
 rintro e w280 ⟨rfl, hbz⟩
 have hm281 := hm279.below hbz
 clear hbz hm279
 refine ⟨_, rfl, (hm281.sub (.cons_cons _ (.cons_cons _ ((((((List.Sublist.refl _).trans (List.sublist_append_right _ _)).trans (List.sublist_append_right _ _)).trans (List.sublist_append_right _ _)).trans (List.sublist_append_right _ _)).trans (List.sublist_append_right _ _))))), ?_⟩
 refine mP rfl ?_
 refine mk_ (i := 26) (v := .bool true) rfl rfl (fun _ _ _ h => h) (hm281.sub (.cons_cons _ (.cons_cons _ ((((((List.Sublist.refl _).trans (List.sublist_append_right _ _)).trans (List.sublist_append_right _ _)).trans (List.sublist_append_right _ _)).trans (List.sublist_append_right _ _)).trans (List.sublist_append_right _ _))))) rfl ?_
 refine mk_ (i := 27) (v := .bool true) rfl rfl (fun _ _ _ h => h) (hm281.sub (.cons_cons _ (.cons_cons _ ((((((List.Sublist.refl _).trans (List.sublist_append_right _ _)).trans (List.sublist_append_right _ _)).trans (List.sublist_append_right _ _)).trans (List.sublist_append_right _ _)).trans (List.sublist_append_right _ _))))) rfl ?_
 refine mgCall (i := 28) 30 [.int .i64 5] [] [] (by kernel_rfl) rfl (by kernel_rfl) (wgY rfl rfl rfl (by decide) (by kernel_rfl)) rfl (litEv (by kernel_rfl)) (litArgs (by kernel_rfl)) (header_any 5 _) ?_
 rintro e w282 ⟨v284, hv284_, rfl, hat_, hA_, hB_, hbz⟩
 have hm283 : Mem w w282 ([.arr g7 25 ([.int .i64 v5.h.tick, .slice v5.A v5.h.counts.length v5.c, .int .i64 v5.h.depth, .slice Ab 1 v5.d]), .arr g199 25 (hcs v197.h v197.A v197.c v197.B v197.d)] ++ (lvRes [v284] ++ (lvRes [v278] ++ (lvRes [v274] ++ (lvRes [v268] ++ (lvRes [v262] ++ (lvRes [v254] ++ (lvRes [v197] ++ (lvRes [vbad] ++ lvRes [v5]))))))))) := Mem.newLv (lx := []) (M := (lvRes [v278] ++ (lvRes [v274] ++ (lvRes [v268] ++ (lvRes [v262] ++ (lvRes [v254] ++ (lvRes [v197] ++ (lvRes [vbad] ++ lvRes [v5])))))))) [.arr g7 25 ([.int .i64 v5.h.tick, .slice v5.A v5.h.counts.length v5.c, .int .i64 v5.h.depth, .slice Ab 1 v5.d]), .arr g199 25 (hcs v197.h v197.A v197.c v197.B v197.d)] hm281 hbz hat_ (Or.inr ⟨hA_, hB_⟩) hdNone (mutApp (fun _ h_ => lvRes_mut h_) (mutApp (fun _ h_ => lvRes_mut h_) (mutApp (fun _ h_ => lvRes_mut h_) (mutApp (fun _ h_ => lvRes_mut h_) (mutApp (fun _ h_ => lvRes_mut h_) (mutApp (fun _ h_ => lvRes_mut h_) (mutApp (fun _ h_ => lvRes_mut h_) (fun _ h_ => lvRes_mut h_))))))))
 have hm285 : Mem w w282 ((.arr g7 25 ([.int .i64 v5.h.tick, .slice v5.A v5.h.counts.length v5.c, .int .i64 v5.h.depth, .slice Ab 1 v5.d])) :: (.arr g199 25 (hcs v197.h v197.A v197.c v197.B v197.d)) :: (lvRes [v284] ++ (lvRes [v278] ++ (lvRes [v274] ++ (lvRes [v268] ++ (lvRes [v262] ++ (lvRes [v254] ++ (lvRes [v197] ++ (lvRes [vbad] ++ lvRes [v5]))))))))) := hm283
 clear hm283
 clear hat_ hA_ hB_ hbz
 refine ⟨_, rfl, (hm285.sub (.cons_cons _ (.cons_cons _ (((((((List.Sublist.refl _).trans (List.sublist_append_right _ _)).trans (List.sublist_append_right _ _)).trans (List.sublist_append_right _ _)).trans (List.sublist_append_right _ _)).trans (List.sublist_append_right _ _)).trans (List.sublist_append_right _ _))))), ?_⟩
 refine mP rfl ?_
 refine mgCall (i := 29) 30 [.int .i64 6] [] [] (by kernel_rfl) rfl (by kernel_rfl) (wgY rfl rfl rfl (by decide) (by kernel_rfl)) rfl (litEv (by kernel_rfl)) (litArgs (by kernel_rfl)) (header_any 6 _) ?_
 rintro e w286 ⟨v288, hv288_, rfl, hat_, hA_, hB_, hbz⟩
 have hm287 : Mem w w286 ([.arr g7 25 ([.int .i64 v5.h.tick, .slice v5.A v5.h.counts.length v5.c, .int .i64 v5.h.depth, .slice Ab 1 v5.d]), .arr g199 25 (hcs v197.h v197.A v197.c v197.B v197.d)] ++ (lvRes [v288] ++ (lvRes [v284] ++ (lvRes [v278] ++ (lvRes [v274] ++ (lvRes [v268] ++ (lvRes [v262] ++ (lvRes [v254] ++ (lvRes [v197] ++ (lvRes [vbad] ++ lvRes [v5])))))))))) := Mem.newLv (lx := []) (M := (lvRes [v284] ++ (lvRes [v278] ++ (lvRes [v274] ++ (lvRes [v268] ++ (lvRes [v262] ++ (lvRes [v254] ++ (lvRes [v197] ++ (lvRes [vbad] ++ lvRes [v5]))))))))) [.arr g7 25 ([.int .i64 v5.h.tick, .slice v5.A v5.h.counts.length v5.c, .int .i64 v5.h.depth, .slice Ab 1 v5.d]), .arr g199 25 (hcs v197.h v197.A v197.c v197.B v197.d)] hm285 hbz hat_ (Or.inr ⟨hA_, hB_⟩) hdNone (mutApp (fun _ h_ => lvRes_mut h_) (mutApp (fun _ h_ => lvRes_mut h_) (mutApp (fun _ h_ => lvRes_mut h_) (mutApp (fun _ h_ => lvRes_mut h_) (mutApp (fun _ h_ => lvRes_mut h_) (mutApp (fun _ h_ => lvRes_mut h_) (mutApp (fun _ h_ => lvRes_mut h_) (mutApp (fun _ h_ => lvRes_mut h_) (fun _ h_ => lvRes_mut h_)))))))))
 have hm289 : Mem w w286 ((.arr g7 25 ([.int .i64 v5.h.tick, .slice v5.A v5.h.counts.length v5.c, .int .i64 v5.h.depth, .slice Ab 1 v5.d])) :: (.arr g199 25 (hcs v197.h v197.A v197.c v197.B v197.d)) :: (lvRes [v288] ++ (lvRes [v284] ++ (lvRes [v278] ++ (lvRes [v274] ++ (lvRes [v268] ++ (lvRes [v262] ++ (lvRes [v254] ++ (lvRes [v197] ++ (lvRes [vbad] ++ lvRes [v5])))))))))) := hm287
 clear hm287
 clear hat_ hA_ hB_ hbz
 refine ⟨_, rfl, (hm289.sub (.cons_cons _ (.cons_cons _ ((((((((List.Sublist.refl _).trans (List.sublist_append_right _ _)).trans (List.sublist_append_right _ _)).trans (List.sublist_append_right _ _)).trans (List.sublist_append_right _ _)).trans (List.sublist_append_right _ _)).trans (List.sublist_append_right _ _)).trans (List.sublist_append_right _ _))))), ?_⟩
 refine mP rfl ?_
 refine mgCall (i := 30) 19 [.agg (hcs v284.h v284.A v284.c v284.B v284.d).toArray, .agg (hcs v288.h v288.A v288.c v288.B v288.d).toArray] [] [] (by kernel_rfl) rfl (by kernel_rfl) (wgY rfl rfl rfl (by decide) (by kernel_rfl)) rfl (litEv (by kernel_rfl)) (litArgs (by kernel_rfl)) (by have h_ := covers_any v284.h v284.A v284.c v284.B v284.d v288.h v288.A v288.c v288.B v288.d _ ((Mem.lv ((Mem.tailN (T := (lvRes [v288] ++ (lvRes [v284] ++ (lvRes [v278] ++ (lvRes [v274] ++ (lvRes [v268] ++ (lvRes [v262] ++ (lvRes [v254] ++ (lvRes [v197] ++ (lvRes [vbad] ++ lvRes [v5])))))))))) 2 hm289 rfl).sub (L' := lvRes [v284]) ((List.sublist_append_left _ _).trans (List.sublist_append_right _ _)))) v284 List.mem_cons_self).a ((Mem.lv ((Mem.tailN (T := (lvRes [v288] ++ (lvRes [v284] ++ (lvRes [v278] ++ (lvRes [v274] ++ (lvRes [v268] ++ (lvRes [v262] ++ (lvRes [v254] ++ (lvRes [v197] ++ (lvRes [vbad] ++ lvRes [v5])))))))))) 2 hm289 rfl).sub (L' := lvRes [v284]) ((List.sublist_append_left _ _).trans (List.sublist_append_right _ _)))) v284 List.mem_cons_self).b ((Mem.lv ((Mem.tailN (T := (lvRes [v288] ++ (lvRes [v284] ++ (lvRes [v278] ++ (lvRes [v274] ++ (lvRes [v268] ++ (lvRes [v262] ++ (lvRes [v254] ++ (lvRes [v197] ++ (lvRes [vbad] ++ lvRes [v5])))))))))) 2 hm289 rfl).sub (L' := lvRes [v288]) (List.sublist_append_left _ _))) v288 List.mem_cons_self).a ((Mem.lv ((Mem.tailN (T := (lvRes [v288] ++ (lvRes [v284] ++ (lvRes [v278] ++ (lvRes [v274] ++ (lvRes [v268] ++ (lvRes [v262] ++ (lvRes [v254] ++ (lvRes [v197] ++ (lvRes [vbad] ++ lvRes [v5])))))))))) 2 hm289 rfl).sub (L' := lvRes [v288]) (List.sublist_append_left _ _))) v288 List.mem_cons_self).b (by rw [hv284_]; decide) (by rw [hv284_]; decide) (by rw [hv284_]; rfl) (by rw [hv288_]; rfl); rw [show decide (covers v284.h v288.h) = false by rw [hv284_, hv288_]; kernel_rfl] at h_; exact h_) ?_
 rintro e w290 ⟨rfl, hbz⟩
 have hm291 := hm289.below hbz
 clear hbz hm289
 refine ⟨_, rfl, (hm291.sub (.cons_cons _ (.cons_cons _ ((((((((List.Sublist.refl _).trans (List.sublist_append_right _ _)).trans (List.sublist_append_right _ _)).trans (List.sublist_append_right _ _)).trans (List.sublist_append_right _ _)).trans (List.sublist_append_right _ _)).trans (List.sublist_append_right _ _)).trans (List.sublist_append_right _ _))))), ?_⟩
 refine mP rfl ?_
 refine mgTake (i := 31) (v := .bool true) rfl (by kernel_rfl) (wgY rfl rfl rfl (by decide) (by kernel_rfl)) (fun _ _ _ h => h) (hm291.sub (.cons_cons _ (.cons_cons _ ((((((((List.Sublist.refl _).trans (List.sublist_append_right _ _)).trans (List.sublist_append_right _ _)).trans (List.sublist_append_right _ _)).trans (List.sublist_append_right _ _)).trans (List.sublist_append_right _ _)).trans (List.sublist_append_right _ _)).trans (List.sublist_append_right _ _))))) (fun w_ h_ => litRun (by kernel_rfl)) ?_
 refine mP rfl ?_
 refine mk_ (i := 32) (v := .bool true) rfl rfl (fun _ _ _ h => h) (hm291.sub (.cons_cons _ (.cons_cons _ ((((((((List.Sublist.refl _).trans (List.sublist_append_right _ _)).trans (List.sublist_append_right _ _)).trans (List.sublist_append_right _ _)).trans (List.sublist_append_right _ _)).trans (List.sublist_append_right _ _)).trans (List.sublist_append_right _ _)).trans (List.sublist_append_right _ _))))) rfl ?_
 refine mk_ (i := 33) (v := .bool true) rfl rfl (fun _ _ _ h => h) (hm291.sub (.cons_cons _ (.cons_cons _ ((((((((List.Sublist.refl _).trans (List.sublist_append_right _ _)).trans (List.sublist_append_right _ _)).trans (List.sublist_append_right _ _)).trans (List.sublist_append_right _ _)).trans (List.sublist_append_right _ _)).trans (List.sublist_append_right _ _)).trans (List.sublist_append_right _ _))))) rfl ?_
 refine mgTake (i := 34) (v := .agg (hcs v197.h v197.A v197.c v197.B v197.d).toArray) rfl (by kernel_rfl) (wgY rfl rfl rfl (by decide) (by kernel_rfl)) (fun _ _ _ h => h) (hm291.sub (.cons_cons _ (.cons_cons _ ((((((((List.Sublist.refl _).trans (List.sublist_append_right _ _)).trans (List.sublist_append_right _ _)).trans (List.sublist_append_right _ _)).trans (List.sublist_append_right _ _)).trans (List.sublist_append_right _ _)).trans (List.sublist_append_right _ _)).trans (List.sublist_append_right _ _))))) (fun w_ h_ => gLoadAg (vs := hcs v197.h v197.A v197.c v197.B v197.d) (k := 0) 1 h_ rfl (by kernel_rfl) (by kernel_rfl) (.tmp 21) Ty.ag_voxel_api_Header rfl (litEv (by kernel_rfl))) ?_
 refine mP rfl ?_
 refine mgCall (i := 35) 16 [.agg (hcs v197.h v197.A v197.c v197.B v197.d).toArray] [] [] (by kernel_rfl) rfl (by kernel_rfl) (wgY rfl rfl rfl (by decide) (by kernel_rfl)) rfl (litEv (by kernel_rfl)) (litArgs (by kernel_rfl)) (digestH_any v197.h v197.A v197.c v197.B v197.d _ (ht.below hm291.bel ht.size) ((Mem.lv ((Mem.tailN (T := (lvRes [v288] ++ (lvRes [v284] ++ (lvRes [v278] ++ (lvRes [v274] ++ (lvRes [v268] ++ (lvRes [v262] ++ (lvRes [v254] ++ (lvRes [v197] ++ (lvRes [vbad] ++ lvRes [v5])))))))))) 2 hm291 rfl).sub (L' := lvRes [v197]) ((((((((List.sublist_append_left _ _).trans (List.sublist_append_right _ _)).trans (List.sublist_append_right _ _)).trans (List.sublist_append_right _ _)).trans (List.sublist_append_right _ _)).trans (List.sublist_append_right _ _)).trans (List.sublist_append_right _ _)).trans (List.sublist_append_right _ _)))) v197 List.mem_cons_self).a ((Mem.lv ((Mem.tailN (T := (lvRes [v288] ++ (lvRes [v284] ++ (lvRes [v278] ++ (lvRes [v274] ++ (lvRes [v268] ++ (lvRes [v262] ++ (lvRes [v254] ++ (lvRes [v197] ++ (lvRes [vbad] ++ lvRes [v5])))))))))) 2 hm291 rfl).sub (L' := lvRes [v197]) ((((((((List.sublist_append_left _ _).trans (List.sublist_append_right _ _)).trans (List.sublist_append_right _ _)).trans (List.sublist_append_right _ _)).trans (List.sublist_append_right _ _)).trans (List.sublist_append_right _ _)).trans (List.sublist_append_right _ _)).trans (List.sublist_append_right _ _)))) v197 List.mem_cons_self).b (fit_eq hv197_ fit5)) ?_
 rintro e w292 ⟨rfl, hbz⟩
 have hm293 := hm291.below hbz
 clear hbz hm291
 refine ⟨_, rfl, (hm293.sub (.cons_cons _ (.cons_cons _ ((((((((List.Sublist.refl _).trans (List.sublist_append_right _ _)).trans (List.sublist_append_right _ _)).trans (List.sublist_append_right _ _)).trans (List.sublist_append_right _ _)).trans (List.sublist_append_right _ _)).trans (List.sublist_append_right _ _)).trans (List.sublist_append_right _ _))))), ?_⟩
 refine mP rfl ?_
 refine mgCall (i := 36) 30 [.int .i64 5] [] [] (by kernel_rfl) rfl (by kernel_rfl) (wgY rfl rfl rfl (by decide) (by kernel_rfl)) rfl (litEv (by kernel_rfl)) (litArgs (by kernel_rfl)) (header_any 5 _) ?_
 rintro e w294 ⟨v296, hv296_, rfl, hat_, hA_, hB_, hbz⟩
 have hm295 : Mem w w294 ([.arr g7 25 ([.int .i64 v5.h.tick, .slice v5.A v5.h.counts.length v5.c, .int .i64 v5.h.depth, .slice Ab 1 v5.d]), .arr g199 25 (hcs v197.h v197.A v197.c v197.B v197.d)] ++ (lvRes [v296] ++ (lvRes [v288] ++ (lvRes [v284] ++ (lvRes [v278] ++ (lvRes [v274] ++ (lvRes [v268] ++ (lvRes [v262] ++ (lvRes [v254] ++ (lvRes [v197] ++ (lvRes [vbad] ++ lvRes [v5]))))))))))) := Mem.newLv (lx := []) (M := (lvRes [v288] ++ (lvRes [v284] ++ (lvRes [v278] ++ (lvRes [v274] ++ (lvRes [v268] ++ (lvRes [v262] ++ (lvRes [v254] ++ (lvRes [v197] ++ (lvRes [vbad] ++ lvRes [v5])))))))))) [.arr g7 25 ([.int .i64 v5.h.tick, .slice v5.A v5.h.counts.length v5.c, .int .i64 v5.h.depth, .slice Ab 1 v5.d]), .arr g199 25 (hcs v197.h v197.A v197.c v197.B v197.d)] hm293 hbz hat_ (Or.inr ⟨hA_, hB_⟩) hdNone (mutApp (fun _ h_ => lvRes_mut h_) (mutApp (fun _ h_ => lvRes_mut h_) (mutApp (fun _ h_ => lvRes_mut h_) (mutApp (fun _ h_ => lvRes_mut h_) (mutApp (fun _ h_ => lvRes_mut h_) (mutApp (fun _ h_ => lvRes_mut h_) (mutApp (fun _ h_ => lvRes_mut h_) (mutApp (fun _ h_ => lvRes_mut h_) (mutApp (fun _ h_ => lvRes_mut h_) (fun _ h_ => lvRes_mut h_))))))))))
 have hm297 : Mem w w294 ((.arr g7 25 ([.int .i64 v5.h.tick, .slice v5.A v5.h.counts.length v5.c, .int .i64 v5.h.depth, .slice Ab 1 v5.d])) :: (.arr g199 25 (hcs v197.h v197.A v197.c v197.B v197.d)) :: (lvRes [v296] ++ (lvRes [v288] ++ (lvRes [v284] ++ (lvRes [v278] ++ (lvRes [v274] ++ (lvRes [v268] ++ (lvRes [v262] ++ (lvRes [v254] ++ (lvRes [v197] ++ (lvRes [vbad] ++ lvRes [v5]))))))))))) := hm295
 clear hm295
 clear hat_ hA_ hB_ hbz
 refine ⟨_, rfl, (hm297.sub (.cons_cons _ (.cons_cons _ (((((((((List.Sublist.refl _).trans (List.sublist_append_right _ _)).trans (List.sublist_append_right _ _)).trans (List.sublist_append_right _ _)).trans (List.sublist_append_right _ _)).trans (List.sublist_append_right _ _)).trans (List.sublist_append_right _ _)).trans (List.sublist_append_right _ _)).trans (List.sublist_append_right _ _))))), ?_⟩
 refine mP rfl ?_
 refine mgCall (i := 37) 17 [.agg (hcs v296.h v296.A v296.c v296.B v296.d).toArray] [] [] (by kernel_rfl) rfl (by kernel_rfl) (wgY rfl rfl rfl (by decide) (by kernel_rfl)) rfl (litEv (by kernel_rfl)) (litArgs (by kernel_rfl)) (rdigestH_any v296.h v296.A v296.c v296.B v296.d _ (htR.below hm297.bel htR.size) ((Mem.lv ((Mem.tailN (T := (lvRes [v296] ++ (lvRes [v288] ++ (lvRes [v284] ++ (lvRes [v278] ++ (lvRes [v274] ++ (lvRes [v268] ++ (lvRes [v262] ++ (lvRes [v254] ++ (lvRes [v197] ++ (lvRes [vbad] ++ lvRes [v5]))))))))))) 2 hm297 rfl).sub (L' := lvRes [v296]) (List.sublist_append_left _ _))) v296 List.mem_cons_self).a ((Mem.lv ((Mem.tailN (T := (lvRes [v296] ++ (lvRes [v288] ++ (lvRes [v284] ++ (lvRes [v278] ++ (lvRes [v274] ++ (lvRes [v268] ++ (lvRes [v262] ++ (lvRes [v254] ++ (lvRes [v197] ++ (lvRes [vbad] ++ lvRes [v5]))))))))))) 2 hm297 rfl).sub (L' := lvRes [v296]) (List.sublist_append_left _ _))) v296 List.mem_cons_self).b (fit_eq hv296_ fit5)) ?_
 rintro e w298 ⟨rfl, hbz⟩
 have hm299 := hm297.below hbz
 clear hbz hm297
 refine ⟨_, rfl, (hm299.sub (.cons_cons _ (.cons_cons _ (((((((((List.Sublist.refl _).trans (List.sublist_append_right _ _)).trans (List.sublist_append_right _ _)).trans (List.sublist_append_right _ _)).trans (List.sublist_append_right _ _)).trans (List.sublist_append_right _ _)).trans (List.sublist_append_right _ _)).trans (List.sublist_append_right _ _)).trans (List.sublist_append_right _ _))))), ?_⟩
 refine mP rfl ?_
 refine mgTake (i := 38) (v := .bool true) rfl (by kernel_rfl) (wgY rfl rfl rfl (by decide) (by kernel_rfl)) (fun _ _ _ h => h) (hm299.sub (.cons_cons _ (.cons_cons _ (((((((((List.Sublist.refl _).trans (List.sublist_append_right _ _)).trans (List.sublist_append_right _ _)).trans (List.sublist_append_right _ _)).trans (List.sublist_append_right _ _)).trans (List.sublist_append_right _ _)).trans (List.sublist_append_right _ _)).trans (List.sublist_append_right _ _)).trans (List.sublist_append_right _ _))))) (fun w_ h_ => eqDigRun (n := 16) (.tmp 190) (.tmp 192) (digH v197.h) (digH v296.h) true Tryd.underlying37 Tryd.underlying5 (by kernel_rfl) (by kernel_rfl) (ofDig_len _ _) (ofDig_len _ _) (by rw [hv197_, hv296_]; simp) rfl (litEv (by kernel_rfl)) (litEv (by kernel_rfl))) ?_
 refine mP rfl ?_
 refine mk_ (i := 39) (v := .bool true) rfl rfl (fun _ _ _ h => h) (hm299.sub (.cons_cons _ (.cons_cons _ (((((((((List.Sublist.refl _).trans (List.sublist_append_right _ _)).trans (List.sublist_append_right _ _)).trans (List.sublist_append_right _ _)).trans (List.sublist_append_right _ _)).trans (List.sublist_append_right _ _)).trans (List.sublist_append_right _ _)).trans (List.sublist_append_right _ _)).trans (List.sublist_append_right _ _))))) rfl ?_
 refine mk_ (i := 40) (v := .bool true) rfl rfl (fun _ _ _ h => h) (hm299.sub (.cons_cons _ (.cons_cons _ (((((((((List.Sublist.refl _).trans (List.sublist_append_right _ _)).trans (List.sublist_append_right _ _)).trans (List.sublist_append_right _ _)).trans (List.sublist_append_right _ _)).trans (List.sublist_append_right _ _)).trans (List.sublist_append_right _ _)).trans (List.sublist_append_right _ _)).trans (List.sublist_append_right _ _))))) rfl ?_
 refine mgDone (by kernel_rfl) ?_
 refine then_normal (hK249 _ _ ?_)
 refine wpPrune [(0, .bool true)] ⟨litGet (by kernel_rfl), trivial⟩ (fun X300 => ?_)
 have hm301 : Mem w w298 (lvRes [v5]) := hm299.sub (List.Sublist.cons _ (List.Sublist.cons _ (((((((((((List.Sublist.refl _).trans (List.sublist_append_right _ _)).trans (List.sublist_append_right _ _)).trans (List.sublist_append_right _ _)).trans (List.sublist_append_right _ _)).trans (List.sublist_append_right _ _)).trans (List.sublist_append_right _ _)).trans (List.sublist_append_right _ _)).trans (List.sublist_append_right _ _)).trans (List.sublist_append_right _ _)).trans (List.sublist_append_right _ _))))
 clear hm299
 refine wp_ret ?_
 refine bodyPost_ret (v := .bool true) (gRes1 rfl (gResTmp (t := 0) (v := .bool true) (litGet (by kernel_rfl)))) rfl ?_
 exact ⟨by rfl, hm301.bel⟩
end Go.Proofs.YtgjgjimgomhbmaaDoor
