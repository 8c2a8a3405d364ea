/-
  PG: several texts in one. No statement is proved here.
-/
import Derived.Test.YtkmhjgdpkddbnaaPF
import Derived.Test.YtkmhjgdpkddbnaaPC
import Derived.Test.YtkmhjgdpkddbnaaPB
set_option linter.unusedVariables false
set_option linter.unusedSimpArgs false
namespace Go.Proofs.Ytkmhjgdpkddbnaa
open Go.RowKit
open Go.Maps (Keyed)
/-- A function value that prices tiles. -/
structure Price (f : Tl → Int) (vf : FuncId) (first caps : List Value) (w0 : World) : Prop where
  ok : callable Try.prog vf = true
  run : ∀ t : Tl, t.Ok → ∀ w, Below w0.heap.size w0 w → Calls Try.prog vf (first ++ [Value.agg (tlc t).toArray] ++ caps).toArray w (RetV w (.int .i64 (f t)))
  bd : ∀ t : Tl, t.Ok → 0 ≤ f t ∧ f t ≤ 16777216
/-- Every price that is held is right. -/
def MemoI (f : Tl → Int) (F : Value → Option Value) : Prop := ∀ (t : Tl) (v : Value), F (.agg (tlc t).toArray) = some v → v = .int .i64 (f t)
abbrev TileT : TypeId := 38
def Memo (f : Tl → Int) (g n : Nat) (w : World) : Prop := ∃ F, MemoI f F ∧ MapV Try.prog TileT 3 g n F w
abbrev memoR (f : Tl → Int) (g n : Nat) : Res := .any g (Memo f g n)
theorem Memo.block {f : Tl → Int} {g n : Nat} {u u' : World} (h : Memo f g n u) (hg : u'.heap[g]? = u.heap[g]?) : Memo f g n u' := by
  obtain ⟨F, h1, h2⟩ := h
  exact ⟨F, h1, h2.of_block hg⟩
section
variable {w w0 : World} {L : List Res} {f : Tl → Int} {g n : Nat}
theorem memoOpen (j : Nat) (h : Mem w0 w L) (hj : L[j]? = some (memoR f g n)) : ∃ F, MemoI f F ∧ Mem w0 w (L.set j (mapR Try.prog TileT 3 g n F)) := by
  obtain ⟨⟨F, hF⟩, hm⟩ := h.anyOpen (α := {F // MemoI f F}) (J := fun F => MapV Try.prog TileT 3 g n F.1) j hj (fun ⟨F, h1, h2⟩ => ⟨⟨F, h1⟩, h2⟩) (fun _ _ _ h1 h2 => h1.of_block h2)
  exact ⟨F, hF, hm⟩
theorem memoShut (j : Nat) {F : Value → Option Value} (h : Mem w0 w L) (hj : L[j]? = some (mapR Try.prog TileT 3 g n F)) (hF : MemoI f F) (n' : Nat) (hn : n ≤ n') : Mem w0 w (L.set j (memoR f g n')) := by
  refine h.anyWeak j hj (fun h1 => ⟨F, hF, ?_⟩) (fun _ _ h1 h2 => h1.block h2)
  obtain ⟨es, clock, h2, h3, h4, h5⟩ := h1
  exact ⟨es, clock, h2, h3, Nat.le_trans h4 hn, h5⟩
theorem memoWeak (j : Nat) (h : Mem w0 w L) (hj : L[j]? = some (memoR f g n)) (n' : Nat) (hn : n ≤ n') : Mem w0 w (L.set j (memoR f g n')) := by
  refine h.anyWeak j hj (fun h1 => ?_) (fun _ _ h1 h2 => h1.block h2)
  obtain ⟨F, h0, es, clock, h2, h3, h4, h5⟩ := h1
  exact ⟨F, h0, es, clock, h2, h3, Nat.le_trans h4 hn, h5⟩
theorem MemoI.up {F : Value → Option Value} (h : MemoI f F) (t : Tl) : MemoI f (updF F (.agg (tlc t).toArray) (.int .i64 (f t))) := by
  intro u v hv
  by_cases e : u = t
  · subst e
    rw [updF_self] at hv
    exact (Option.some.inj hv).symm
  · rw [updF_other (fun e2 => e (tlc_val e2))] at hv
    exact h u v hv
theorem MemoI.none : MemoI f (fun _ => .none) := fun _ _ h => by cases h
end
theorem Mem.arrRow {w w0 : World} {L : List Res} {g n size : Nat} {t : TypeId} {cs : List Value} (j : Nat) (h : Mem w0 w L) (hj : L[j]? = some (.arr g t cs)) (hl : cs.length = n * size) (hn : n ≤ maxLen) : Mem w0 w (L.set j (.row (.slice (some ⟨g, 0, none⟩) n n) t size n cs)) := by
  refine ⟨h.bel, fun s hs => ?_, resApart_set h.apart fun k s hk hs => ?_⟩
  · rcases resMem_set_ne hs with rfl | ⟨k, _, hk⟩
    · exact own_of_arr (h.arr j hj) hl (h.arrGe j hj) hn
    · exact h.each s (List.mem_of_getElem? hk)
  · have h1 := resApart_at h.apart (Ne.symm hk) hj hs
    exact h1
/-- The fields of a planner. -/
def plc (v : Vw) (S : Value) (cost : Int) (pf : Value) (gm : Nat) : List Value := vwc v ++ [S, .int .i64 cost, pf, .map (some gm)]
theorem zero_of {P : Program} {t : TypeId} {z : Value} (h : (P.info? t).map (·.zero) = some (some z)) (w : World) : (zeroValue t).run P w = .ok z w := by
  cases hi : P.info? t with
  | none => rw [hi] at h; cases h
  | some i =>
    rw [hi] at h
    simp only [Option.map_some, Option.some.injEq] at h
    simp [zeroValue, typeInfo, hi, h]
theorem Try.zero_int (w : World) : (zeroValue 3).run Try.prog w = .ok (.int .i64 0) w := zero_of (by kernel_rfl) w
theorem Try.zero_bool (w : World) : (zeroValue 4).run Try.prog w = .ok (.bool false) w := zero_of (by kernel_rfl) w
section
variable {P : Program} {a : Act} {w w0 : World} {o : Oper} {L : List Res} {k e t : TypeId} {g n : Nat} {F : Value → Option Value}
theorem gLookN {m x : Operand} {key z : Value} (j : Nat) (hm : Mem w0 w L) (hj : L[j]? = some (mapR P k e g n F)) (K : Keyed P k) (ht : P.underlying t = some (.map k e)) (hz : ∀ w : World, (zeroValue e).run P w = .ok z w) (hk : (keyOf P k key).isSome = true) (hF : F key = none)
    (ho : o.op = .lookup t m x true) (hmv : a.eval m = .map (some g)) (hx : a.eval x = key) : (execOp a.eval o).run P w = .ok (.value (.tuple #[z, .bool false])) w := by
  have h := gLook j true hm hj K ht hz hk ho hmv hx
  rw [hF] at h
  exact h
theorem gLookS {m x : Operand} {key z v : Value} (j : Nat) (hm : Mem w0 w L) (hj : L[j]? = some (mapR P k e g n F)) (K : Keyed P k) (ht : P.underlying t = some (.map k e)) (hz : ∀ w : World, (zeroValue e).run P w = .ok z w) (hk : (keyOf P k key).isSome = true) (hF : F key = some v)
    (ho : o.op = .lookup t m x true) (hmv : a.eval m = .map (some g)) (hx : a.eval x = key) : (execOp a.eval o).run P w = .ok (.value (.tuple #[v, .bool true])) w := by
  have h := gLook j true hm hj K ht hz hk ho hmv hx
  rw [hF] at h
  exact h
end
/-- What Plan returns, in memory. -/
def plnC (S : Value) (r : Pln) : List Value := [S, .int .i64 r.cost, .int .i64 r.bound, .int .i64 r.worst]
theorem more_eq (f : Tl → Int) (t : Tl) : moreP f t = -f t + f (child t 0) + f (child t 1) + f (child t 2) + f (child t 3) + f (child t 4) + f (child t 5) + f (child t 6) + f (child t 7) := by
  have e : splitT t = [child t 0, child t 1, child t 2, child t 3, child t 4, child t 5, child t 6, child t 7] := rfl
  unfold moreP totalP
  rw [e]
  simp only [List.map_cons, List.map_nil, List.sum_cons, List.sum_nil]
  omega
theorem Price.more {f : Tl → Int} {vf : FuncId} {first caps : List Value} {w0 : World} (h : Price f vf first caps w0) {t : Tl} (ht : t.Ok) (h1 : 1 ≤ t.lv) : -16777216 ≤ moreP f t ∧ moreP f t ≤ 134217728 := by
  rw [more_eq]
  have b := h.bd t ht
  have b0 := h.bd _ (ht.child h1 0)
  have b1 := h.bd _ (ht.child h1 1)
  have b2 := h.bd _ (ht.child h1 2)
  have b3 := h.bd _ (ht.child h1 3)
  have b4 := h.bd _ (ht.child h1 4)
  have b5 := h.bd _ (ht.child h1 5)
  have b6 := h.bd _ (ht.child h1 6)
  have b7 := h.bd _ (ht.child h1 7)
  omega
theorem drop_some {l : List Tl} {k : Nat} {t : Tl} (h : l[k]? = some t) : l.drop k = t :: l.drop (k + 1) := by
  obtain ⟨hl, he⟩ := List.getElem?_eq_some_iff.1 h
  rw [← he, List.drop_eq_getElem_cons hl]
theorem nextG_yes {f : Tl → Int} {v : Vw} {cost best most r : Int} {k : Nat} {l : List Tl} {t : Tl} (h : l[k]? = some t) (hr : nextG f v cost k best most (l.drop k) = r) (h1 : 0 < t.lv) (h2 : most < err v t) (h3 : cost + moreP f t ≤ v.bud) : nextG f v cost (k + 1) k (err v t) (l.drop (k + 1)) = r := by
  rw [drop_some h, nextG, if_pos ⟨h1, h2, h3⟩] at hr
  exact hr
theorem nextG_no {f : Tl → Int} {v : Vw} {cost best most r : Int} {k : Nat} {l : List Tl} {t : Tl} (h : l[k]? = some t) (hr : nextG f v cost k best most (l.drop k) = r) (hn : ¬ (0 < t.lv ∧ most < err v t ∧ cost + moreP f t ≤ v.bud)) : nextG f v cost (k + 1) best most (l.drop (k + 1)) = r := by
  rw [drop_some h, nextG, if_neg hn] at hr
  exact hr
end Go.Proofs.Ytkmhjgdpkddbnaa
namespace Go.Proofs.Ytkmhjgdpkddbnaa
open Go.RowKit
set_option linter.unusedVariables false
set_option linter.unusedSimpArgs false
set_option maxRecDepth 100000 in
set_option maxHeartbeats 4000000 in
theorem pof_any {w0 w : World} {M : List Res} {f : Tl → Int} {vf : FuncId} {first caps : List Value} (hp : Price f vf first caps w0) (v : Vw) (S : Value) (cost : Int) (g gm n : Nat) (hn : n ≤ 1000000000) (t : Tl) (ht : t.Ok) (hm : Mem w0 w (.arr g 78 (plc v S cost (.func (.func vf) first.toArray caps.toArray) gm) :: memoR f gm n :: M)) : Calls Try.prog 46 #[.pointer (some ⟨g, 0, none⟩), .agg (tlc t).toArray] w (fun e w' => e = .returned (.int .i64 (f t)) ∧ Mem w0 w' (.arr g 78 (plc v S cost (.func (.func vf) first.toArray caps.toArray) gm) :: memoR f gm (n + 1) :: M)) := by
 obtain ⟨F, hF, hm⟩ := memoOpen 1 hm rfl
 simp only [List.set_cons_succ, List.set_cons_zero] at hm
 have hm0 := hm
 go_enter Try.func46, Try.ntmps46
 refine litStart 31 [(0, .pointer (some ⟨g, 0, none⟩)), (1, .agg (tlc t).toArray)] (by kernel_rfl) (fun X0 => ?_)
 refine wp_seq_k fun K1 hK1 => ?_
 refine plStart ?_
 refine plBox hm0 (cs := tlc t) (i := 0) rfl (wn rfl) rfl (litEv (by kernel_rfl)) ?_
 intro g2 w4 hm3
 clear hm0
 try simp only [List.cons_append, List.nil_append, List.set_cons_succ, List.set_cons_zero] at hm3
 replace hm3 := Mem.insAt (M := ((.arr g 78 (plc v S cost (.func (.func vf) first.toArray caps.toArray) gm)) :: (mapR Try.prog TileT 3 gm n F) :: M)) 2 hm3
 simp only [List.insertIdx_succ_cons, List.insertIdx_zero] at hm3
 refine qP rfl ?_
 refine lk (v := .int .i64 0) rfl rfl rfl ?_
 refine plD ?_
 refine then_normal (hK1 _ _ ?_)
 refine wp_seq_k fun K5 hK5 => ?_
 refine mgStart hm3 (by kernel_rfl) ?_
 intro w7 hm6
 clear hm3
 refine mk_ (i := 0) (v := .pointer (some ⟨g, 0, none⟩)) rfl rfl (fun _ _ _ h => h) hm6 rfl ?_
 refine mk_ (i := 1) (v := .pointer (some ⟨g, 0, none⟩)) rfl rfl (fun _ _ _ h => h) hm6 rfl ?_
 refine mk_ (i := 2) (v := .pointer (some ⟨g, 9, none⟩)) rfl rfl (fun _ _ _ h => h) hm6 rfl ?_
 refine mgTake (i := 3) (v := .map (some gm)) rfl (by kernel_rfl) (wn rfl) (fun _ _ _ h => h) hm6 (fun w_ h_ => gLoad (v := .map (some gm)) (k := 9) 0 h_ rfl (by kernel_rfl) (.tmp 10) (by kernel_rfl) rfl (litEv (by kernel_rfl))) ?_
 refine mP rfl ?_
 refine mgTake (i := 4) (v := .agg (tlc t).toArray) rfl (by kernel_rfl) (wn rfl) (fun _ _ _ h => h) hm6 (fun w_ h_ => gLoadAg (vs := tlc t) (k := 0) 2 h_ rfl (by kernel_rfl) (by kernel_rfl) (.tmp 3) Ty.ag_voxel_api_Tile rfl (litEv (by kernel_rfl))) ?_
 refine mP rfl ?_
 rcases hFk_ : F (.agg (tlc t).toArray) with _ | v_
 · refine mgTake (i := 5) (v := .tuple #[.int .i64 0, .bool false]) rfl (by kernel_rfl) (wn rfl) (fun _ _ _ h => h) hm6 (fun w_ h_ => gLookN 1 h_ rfl Try.law_tl Try.map_int Try.zero_int (Try.key_tl ht.fit64) hFk_ rfl (litEv (by kernel_rfl)) (litEv (by kernel_rfl))) ?_
   refine mP rfl ?_
   refine mk_ (i := 6) (v := .tuple #[.int .i64 0, .bool false]) rfl rfl (fun _ _ _ h => h) hm6 rfl ?_
   refine mk_ (i := 7) (v := .int .i64 0) rfl rfl (fun _ _ _ h => h) hm6 rfl ?_
   refine mk_ (i := 8) (v := .bool false) rfl rfl (fun _ _ _ h => h) hm6 rfl ?_
   refine mk_ (i := 9) (v := .int .i64 0) rfl rfl (fun _ _ _ h => h) hm6 rfl ?_
   refine mk_ (i := 10) (v := .bool false) rfl rfl (fun _ _ _ h => h) hm6 rfl ?_
   refine mgDone (by kernel_rfl) ?_
   refine then_normal (hK5 _ _ ?_)
   refine wp_seq_k fun K8 hK8 => ?_
   refine wp_seq_k fun K9 hK9 => ?_
   refine plStart ?_
   refine lk (v := .bool false) rfl rfl rfl ?_
   refine lk (v := .bool true) rfl rfl rfl ?_
   refine plD ?_
   refine then_normal (hK9 _ _ ?_)
   refine wp_cond_true (litEv (by kernel_rfl)) ?_
   refine wp_seq_k fun K10 hK10 => ?_
   refine mgStart hm6 (by kernel_rfl) ?_
   intro w12 hm11
   clear hm6
   refine mk_ (i := 0) (v := .pointer (some ⟨g, 0, none⟩)) rfl rfl (fun _ _ _ h => h) hm11 rfl ?_
   refine mk_ (i := 1) (v := .pointer (some ⟨g, 0, none⟩)) rfl rfl (fun _ _ _ h => h) hm11 rfl ?_
   refine mk_ (i := 2) (v := .pointer (some ⟨g, 8, none⟩)) rfl rfl (fun _ _ _ h => h) hm11 rfl ?_
   refine mgTake (i := 3) (v := .func (.func vf) first.toArray caps.toArray) rfl (by kernel_rfl) (wn rfl) (fun _ _ _ h => h) hm11 (fun w_ h_ => gLoad (v := .func (.func vf) first.toArray caps.toArray) (k := 8) 0 h_ rfl (by kernel_rfl) (.tmp 20) (by kernel_rfl) rfl (litEv (by kernel_rfl))) ?_
   refine mP rfl ?_
   refine mgTake (i := 4) (v := .agg (tlc t).toArray) rfl (by kernel_rfl) (wn rfl) (fun _ _ _ h => h) hm11 (fun w_ h_ => gLoadAg (vs := tlc t) (k := 0) 2 h_ rfl (by kernel_rfl) (by kernel_rfl) (.tmp 3) Ty.ag_voxel_api_Tile rfl (litEv (by kernel_rfl))) ?_
   refine mP rfl ?_
   refine mgCall (i := 5) vf [.agg (tlc t).toArray] first caps (by kernel_rfl) rfl hp.ok (wn rfl) rfl (litEv (by kernel_rfl)) (litArgs (by kernel_rfl)) (hp.run t ht _ hm11.bel) ?_
   rintro e w13 ⟨rfl, hbz⟩
   have hm14 := hm11.below hbz
   clear hbz hm11
   refine ⟨_, rfl, hm14, ?_⟩
   refine mP rfl ?_
   refine mk_ (i := 6) (v := .int .i64 (f t)) rfl rfl (fun _ _ _ h => h) hm14 rfl ?_
   refine mgDone (by kernel_rfl) ?_
   refine then_normal (hK10 _ _ ?_)
   refine wpPrune [(0, .pointer (some ⟨g, 0, none⟩)), (3, .pointer (some ⟨g2, 0, none⟩)), (4, .int .i64 0), (5, .int .i64 (f t))] ⟨litGet (by kernel_rfl), ⟨litGet (by kernel_rfl), ⟨litGet (by kernel_rfl), ⟨litGet (by kernel_rfl), trivial⟩⟩⟩⟩ (fun X15 => ?_)
   refine mgStartM ((.arr g 78 (plc v S cost (.func (.func vf) first.toArray caps.toArray) gm)) :: (.arr g2 38 (tlc t)) :: M) hm14 (by kernel_rfl) ?_
   intro w17 hm16
   clear hm14
   refine mk_ (i := 0) (v := .pointer (some ⟨g, 0, none⟩)) rfl rfl (fun _ _ _ h => h) (hm16.sub (.cons_cons _ (.cons _ (.cons_cons _ (List.Sublist.refl _))))) rfl ?_
   refine mk_ (i := 1) (v := .pointer (some ⟨g, 0, none⟩)) rfl rfl (fun _ _ _ h => h) (hm16.sub (.cons_cons _ (.cons _ (.cons_cons _ (List.Sublist.refl _))))) rfl ?_
   refine mk_ (i := 2) (v := .pointer (some ⟨g, 9, none⟩)) rfl rfl (fun _ _ _ h => h) (hm16.sub (.cons_cons _ (.cons _ (.cons_cons _ (List.Sublist.refl _))))) rfl ?_
   refine mgTake (i := 3) (v := .map (some gm)) rfl (by kernel_rfl) (wn rfl) (fun _ _ _ h => h) (hm16.sub (.cons_cons _ (.cons _ (.cons_cons _ (List.Sublist.refl _))))) (fun w_ h_ => gLoad (v := .map (some gm)) (k := 9) 0 h_ rfl (by kernel_rfl) (.tmp 26) (by kernel_rfl) rfl (litEv (by kernel_rfl))) ?_
   refine mP rfl ?_
   refine mgTake (i := 4) (v := .agg (tlc t).toArray) rfl (by kernel_rfl) (wn rfl) (fun _ _ _ h => h) (hm16.sub (.cons_cons _ (.cons _ (.cons_cons _ (List.Sublist.refl _))))) (fun w_ h_ => gLoadAg (vs := tlc t) (k := 0) 1 h_ rfl (by kernel_rfl) (by kernel_rfl) (.tmp 3) Ty.ag_voxel_api_Tile rfl (litEv (by kernel_rfl))) ?_
   refine mP rfl ?_
   refine mk_ (i := 5) (v := .int .i64 (f t)) rfl rfl (fun _ _ _ h => h) (hm16.sub (.cons_cons _ (.cons _ (.cons_cons _ (List.Sublist.refl _))))) rfl ?_
   refine mgMapUp (i := 6) 1 hm16 rfl Try.law_tl Try.map_int (by unfold maxLen; omega) (Try.key_tl ht.fit64) (rde_int (n := f t) (by have := hp.bd t ht; unfold I64; omega)) (by kernel_rfl) rfl (wn rfl) rfl (litEv (by kernel_rfl)) (litEv (by kernel_rfl)) (litEv (by kernel_rfl)) (fun w_ h_ => (h_.sub (.cons_cons _ (.cons _ (.cons_cons _ (List.Sublist.refl _)))))) ?_
   intro w19 hm18
   clear hm16
   try simp only [List.cons_append, List.nil_append, List.set_cons_succ, List.set_cons_zero] at hm18
   refine mNone rfl ?_
   refine mgDone (by kernel_rfl) ?_
   refine then_normal (hK8 _ _ ?_)
   refine wp_seq_k fun K20 hK20 => ?_
   refine plStart ?_
   refine lk (v := .int .i64 (f t)) rfl rfl rfl ?_
   refine lk (v := .int .i64 (f t)) rfl rfl rfl ?_
   refine plD ?_
   refine then_normal (hK20 _ _ ?_)
   refine wp_ret ?_
   refine bodyPost_ret (v := .int .i64 (f t)) (gRes1 rfl (gResTmp (t := 4) (v := .int .i64 (f t)) (litGet (by kernel_rfl)))) rfl ?_
   have hz21 := memoShut 1 hm18 rfl (hF.up t) (n + 1) (by omega)
   exact ⟨rfl, (hz21.sub (.cons_cons _ (.cons_cons _ (.cons _ (List.Sublist.refl _)))))⟩
 obtain rfl := hF t _ hFk_
 refine mgTake (i := 5) (v := .tuple #[.int .i64 (f t), .bool true]) rfl (by kernel_rfl) (wn rfl) (fun _ _ _ h => h) hm6 (fun w_ h_ => gLookS 1 h_ rfl Try.law_tl Try.map_int Try.zero_int (Try.key_tl ht.fit64) hFk_ rfl (litEv (by kernel_rfl)) (litEv (by kernel_rfl))) ?_
 refine mP rfl ?_
 refine mk_ (i := 6) (v := .tuple #[.int .i64 (f t), .bool true]) rfl rfl (fun _ _ _ h => h) hm6 rfl ?_
 refine mk_ (i := 7) (v := .int .i64 (f t)) rfl rfl (fun _ _ _ h => h) hm6 rfl ?_
 refine mk_ (i := 8) (v := .bool true) rfl rfl (fun _ _ _ h => h) hm6 rfl ?_
 refine mk_ (i := 9) (v := .int .i64 (f t)) rfl rfl (fun _ _ _ h => h) hm6 rfl ?_
 refine mk_ (i := 10) (v := .bool true) rfl rfl (fun _ _ _ h => h) hm6 rfl ?_
 refine mgDone (by kernel_rfl) ?_
 refine then_normal (hK5 _ _ ?_)
 refine wp_seq_k fun K22 hK22 => ?_
 refine wp_seq_k fun K23 hK23 => ?_
 refine plStart ?_
 refine lk (v := .bool true) rfl rfl rfl ?_
 refine lk (v := .bool false) rfl rfl rfl ?_
 refine plD ?_
 refine then_normal (hK23 _ _ ?_)
 refine wp_cond_false (litEv (by kernel_rfl)) ?_
 refine wp_skip ?_
 refine then_normal (hK22 _ _ ?_)
 refine wpPrune [(4, .int .i64 0), (5, .int .i64 (f t))] ⟨litGet (by kernel_rfl), ⟨litGet (by kernel_rfl), trivial⟩⟩ (fun X24 => ?_)
 refine wp_seq_k fun K25 hK25 => ?_
 refine plStart ?_
 refine lk (v := .int .i64 (f t)) rfl rfl rfl ?_
 refine lk (v := .int .i64 (f t)) rfl rfl rfl ?_
 refine plD ?_
 refine then_normal (hK25 _ _ ?_)
 refine wp_ret ?_
 refine bodyPost_ret (v := .int .i64 (f t)) (gRes1 rfl (gResTmp (t := 4) (v := .int .i64 (f t)) (litGet (by kernel_rfl)))) rfl ?_
 have hz26 := memoShut 1 hm6 rfl hF (n + 1) (by omega)
 exact ⟨rfl, (hz26.sub (.cons_cons _ (.cons_cons _ (.cons _ (List.Sublist.refl _)))))⟩
set_option maxRecDepth 100000 in
set_option maxHeartbeats 4000000 in
theorem pmore_any {w0 w : World} {M : List Res} {f : Tl → Int} {vf : FuncId} {first caps : List Value} (hp : Price f vf first caps w0) (v : Vw) (S : Value) (cost : Int) (g gm n : Nat) (hn : n ≤ 900000000) (t : Tl) (ht : t.Ok) (h1 : 1 ≤ t.lv) (hm : Mem w0 w (.arr g 78 (plc v S cost (.func (.func vf) first.toArray caps.toArray) gm) :: memoR f gm n :: M)) : Calls Try.prog 48 #[.pointer (some ⟨g, 0, none⟩), .agg (tlc t).toArray] w (fun e w' => e = .returned (.int .i64 (moreP f t)) ∧ Mem w0 w' (.arr g 78 (plc v S cost (.func (.func vf) first.toArray caps.toArray) gm) :: memoR f gm (n + 9) :: M)) := by
 have hb_ := hp.bd t ht
 have hb0_ := hp.bd _ (ht.child h1 0)
 have hb1_ := hp.bd _ (ht.child h1 1)
 have hb2_ := hp.bd _ (ht.child h1 2)
 have hb3_ := hp.bd _ (ht.child h1 3)
 have hb4_ := hp.bd _ (ht.child h1 4)
 have hb5_ := hp.bd _ (ht.child h1 5)
 have hb6_ := hp.bd _ (ht.child h1 6)
 have hb7_ := hp.bd _ (ht.child h1 7)
 have hm0 := hm
 go_enter Try.func48, Try.ntmps48
 refine litStart 26 [(0, .pointer (some ⟨g, 0, none⟩)), (1, .agg (tlc t).toArray)] (by kernel_rfl) (fun X0 => ?_)
 refine wp_seq_k fun K1 hK1 => ?_
 refine plStart ?_
 refine plBox hm0 (cs := tlc t) (i := 0) rfl (wn rfl) rfl (litEv (by kernel_rfl)) ?_
 intro g2 w4 hm3
 clear hm0
 try simp only [List.cons_append, List.nil_append, List.set_cons_succ, List.set_cons_zero] at hm3
 replace hm3 := Mem.insAt (M := ((.arr g 78 (plc v S cost (.func (.func vf) first.toArray caps.toArray) gm)) :: (memoR f gm n) :: M)) 2 hm3
 simp only [List.insertIdx_succ_cons, List.insertIdx_zero] at hm3
 refine qP rfl ?_
 refine lk (v := .int .i64 0) rfl rfl rfl ?_
 refine plD ?_
 refine then_normal (hK1 _ _ ?_)
 refine wp_seq_k fun K5 hK5 => ?_
 refine plStart ?_
 refine lk (v := .pointer (some ⟨g, 0, none⟩)) rfl rfl rfl ?_
 refine litVal (v := .agg (tlc t).toArray) rfl (wn rfl) (gLoadAg (vs := tlc t) (k := 0) 2 hm3 rfl (by kernel_rfl) (by kernel_rfl) (.tmp 3) Ty.ag_voxel_api_Tile rfl (litEv (by kernel_rfl))) rfl (by decide) ?_
 refine plCall (i := 2) 46 [.pointer (some ⟨g, 0, none⟩), .agg (tlc t).toArray] [] [] rfl (by kernel_rfl) (wn rfl) rfl (litEv (by kernel_rfl)) (litArgs (by kernel_rfl)) (pof_any hp v S cost g gm (n) (by omega) t ht hm3) ?_
 rintro e w6 ⟨rfl, hm7⟩
 clear hm3
 refine ⟨_, rfl, ?_⟩
 refine qP rfl ?_
 refine litVal (v := .int .i64 (-(f t))) rfl (wn rfl) (gNeg (.tmp 10) rfl (litEv (by kernel_rfl)) (by omega)) rfl (by decide) ?_
 refine lk (v := .int .i64 (-(f t))) rfl rfl rfl ?_
 refine plD ?_
 refine then_normal (hK5 _ _ ?_)
 refine wp_seq_k fun K8 hK8 => ?_
 refine wp_seq_k fun K9 hK9 => ?_
 refine plStart ?_
 refine litVal (v := .agg (tlc t).toArray) rfl (wn rfl) (gLoadAg (vs := tlc t) (k := 0) 2 hm7 rfl (by kernel_rfl) (by kernel_rfl) (.tmp 3) Ty.ag_voxel_api_Tile rfl (litEv (by kernel_rfl))) rfl (by decide) ?_
 refine plCall (i := 1) 63 [.agg (tlc t).toArray] [] [] rfl (by kernel_rfl) (wn rfl) rfl (litEv (by kernel_rfl)) (litArgs (by kernel_rfl)) (eight_any t ht h1 _) ?_
 rintro e w10 ⟨v12, rfl, hown_, hbz⟩
 obtain ⟨A13, c14, rfl, hrd_⟩ := Rd.of_own hown_
 clear hrd_
 replace hown_ : World.ownsRow w10 _ 38 4 _ 8 (tlsC (splitT t)) := hown_
 have hm11 := hm7.newRow hbz hown_
 clear hown_ hbz
 clear hm7
 try simp only [List.cons_append, List.nil_append, List.set_cons_succ, List.set_cons_zero] at hm11
 replace hm11 := Mem.insAt (M := ((.arr g 78 (plc v S cost (.func (.func vf) first.toArray caps.toArray) gm)) :: (memoR f gm (n + 1)) :: (.arr g2 38 (tlc t)) :: M)) 3 hm11
 simp only [List.insertIdx_succ_cons, List.insertIdx_zero] at hm11
 obtain ⟨b15, rfl⟩ := hm11.rowBlk (A := A13) (n := 8) (c := c14) 3 rfl (by decide)
 refine ⟨_, rfl, ?_⟩
 refine qP rfl ?_
 refine litVal (v := .int .i64 8) rfl (wn rfl) (lenSlRun (A := some ⟨b15, 0, none⟩) (n := 8) (c := c14) (.tmp 13) Ty.und_L_api_Tile rfl (litEv (by kernel_rfl))) rfl (by decide) ?_
 refine lk (v := .int .i64 0) rfl rfl rfl ?_
 refine plD ?_
 refine then_normal (hK9 _ _ ?_)
 refine wp_block ?_
 refine roundsStart 8 ?_
 refine wp_seq_k fun K16 hK16 => ?_
 refine plStart ?_
 refine lk (v := .bool true) rfl rfl rfl ?_
 refine plD ?_
 refine then_normal (hK16 _ _ ?_)
 refine wp_seq_k fun K17 hK17 => ?_
 refine wp_cond_true (litEv (by kernel_rfl)) ?_
 refine wp_skip ?_
 refine then_normal (hK17 _ _ ?_)
 refine wp_seq_k fun K18 hK18 => ?_
 refine wp_block ?_
 refine wp_seq_k fun K19 hK19 => ?_
 refine plStart ?_
 refine litVal (v := .pointer (some ⟨b15, 0 + 0 * 4, none⟩)) rfl (wn rfl) (gIaSl (b := b15) (off := 0) (n := 8) (c := c14) (kk := .i64) (K := 0) (.tmp 13) (.tmp 15) 0 Ty.sl_L_api_Tile rfl (litEv (by kernel_rfl)) (litEv (by kernel_rfl)) (rfl) (by decide)) rfl (by decide) ?_
 refine litVal (v := .agg (tlc (child t 0)).toArray) rfl (wn rfl) (gLoadAgRd (vs := tlc (child t 0)) (m := 0 * 4) (hm11.rdRow 3 rfl) rfl (fun i_ u_ hu_ => tlsC_get (l := splitT t) (k := 0) rfl i_ u_ hu_) (by kernel_rfl) (by decide) (.tmp 17) Ty.ag_voxel_api_Tile rfl (litEv (by kernel_rfl))) rfl (by decide) ?_
 refine plAlloc (z := [.int .i64 0, .int .i64 0, .int .i64 0, .int .i64 0]) Ty.ag_voxel_api_Tile hm11 (i := 2) rfl (wn rfl) rfl ?_
 intro g20 w22 hm21
 clear hm11
 try simp only [List.cons_append, List.nil_append, List.set_cons_succ, List.set_cons_zero] at hm21
 replace hm21 := Mem.insAt (M := ((.arr g 78 (plc v S cost (.func (.func vf) first.toArray caps.toArray) gm)) :: (memoR f gm (n + 1)) :: (.arr g2 38 (tlc t)) :: (.row (.slice (some ⟨b15, 0, none⟩) 8 c14) 38 4 8 (tlsC (splitT t))) :: M)) 4 hm21
 simp only [List.insertIdx_succ_cons, List.insertIdx_zero] at hm21
 refine qP rfl ?_
 refine plStore 4 Ty.ag_voxel_api_Tile hm21 rfl (i := 3) (cs := tlc (child t 0)) rfl (wn rfl) rfl (litEv (by kernel_rfl)) (litEv (by kernel_rfl)) rfl rfl (by kernel_rfl) ?_
 intro w24 hm23
 clear hm21
 try simp only [List.cons_append, List.nil_append, List.set_cons_succ, List.set_cons_zero] at hm23
 refine qNone rfl ?_
 refine plD ?_
 refine then_normal (hK19 _ _ ?_)
 refine plStart ?_
 refine lk (v := .int .i64 (-(f t))) rfl rfl rfl ?_
 refine lk (v := .pointer (some ⟨g, 0, none⟩)) rfl rfl rfl ?_
 refine litVal (v := .agg (tlc (child t 0)).toArray) rfl (wn rfl) (gLoadAg (vs := tlc (child t 0)) (k := 0) 4 hm23 rfl (by kernel_rfl) (by kernel_rfl) (.tmp 7) Ty.ag_voxel_api_Tile rfl (litEv (by kernel_rfl))) rfl (by decide) ?_
 refine plCall (i := 3) 46 [.pointer (some ⟨g, 0, none⟩), .agg (tlc (child t 0)).toArray] [] [] rfl (by kernel_rfl) (wn rfl) rfl (litEv (by kernel_rfl)) (litArgs (by kernel_rfl)) (pof_any hp v S cost g gm (n + 1) (by omega) (child t 0) (ht.child h1 0) hm23) ?_
 rintro e w25 ⟨rfl, hm26⟩
 clear hm23
 refine ⟨_, rfl, ?_⟩
 refine qP rfl ?_
 refine litVal (v := .int .i64 ((-(f t)) + (f (child t 0)))) rfl (wn rfl) (addRun (A := (-(f t))) (B := (f (child t 0))) (C := (-(f t)) + (f (child t 0))) (.tmp 19) (.tmp 22) rfl (litEv (by kernel_rfl)) (litEv (by kernel_rfl)) rfl (by omega)) rfl (by decide) ?_
 refine lk (v := .int .i64 ((-(f t)) + (f (child t 0)))) rfl rfl rfl ?_
 refine plD ?_
 refine inBlock_normal ?_
 refine then_normal (hK18 _ _ ?_)
 refine plStart ?_
 refine lk (v := .int .i64 1) rfl rfl rfl ?_
 refine lk (v := .int .i64 1) rfl rfl rfl ?_
 refine plD ?_
 refine then_normal (roundsNext ?_)
 have hm27 : Mem w0 w25 ((.arr g 78 (plc v S cost (.func (.func vf) first.toArray caps.toArray) gm)) :: (memoR f gm (n + 2)) :: (.row (.slice (some ⟨b15, 0, none⟩) 8 c14) 38 4 8 (tlsC (splitT t))) :: M) := (hm26.sub (.cons_cons _ (.cons_cons _ (.cons _ (.cons_cons _ (.cons _ (List.Sublist.refl _)))))))
 clear hm26
 refine wp_seq_k fun K28 hK28 => ?_
 refine plStart ?_
 refine lk (v := .bool true) rfl rfl rfl ?_
 refine plD ?_
 refine then_normal (hK28 _ _ ?_)
 refine wp_seq_k fun K29 hK29 => ?_
 refine wp_cond_true (litEv (by kernel_rfl)) ?_
 refine wp_skip ?_
 refine then_normal (hK29 _ _ ?_)
 refine wp_seq_k fun K30 hK30 => ?_
 refine wp_block ?_
 refine wp_seq_k fun K31 hK31 => ?_
 refine plStart ?_
 refine litVal (v := .pointer (some ⟨b15, 0 + 1 * 4, none⟩)) rfl (wn rfl) (gIaSl (b := b15) (off := 0) (n := 8) (c := c14) (kk := .i64) (K := 1) (.tmp 13) (.tmp 15) 1 Ty.sl_L_api_Tile rfl (litEv (by kernel_rfl)) (litEv (by kernel_rfl)) (rfl) (by decide)) rfl (by decide) ?_
 refine litVal (v := .agg (tlc (child t 1)).toArray) rfl (wn rfl) (gLoadAgRd (vs := tlc (child t 1)) (m := 1 * 4) (hm27.rdRow 2 rfl) rfl (fun i_ u_ hu_ => tlsC_get (l := splitT t) (k := 1) rfl i_ u_ hu_) (by kernel_rfl) (by decide) (.tmp 17) Ty.ag_voxel_api_Tile rfl (litEv (by kernel_rfl))) rfl (by decide) ?_
 refine plAlloc (z := [.int .i64 0, .int .i64 0, .int .i64 0, .int .i64 0]) Ty.ag_voxel_api_Tile hm27 (i := 2) rfl (wn rfl) rfl ?_
 intro g32 w34 hm33
 clear hm27
 try simp only [List.cons_append, List.nil_append, List.set_cons_succ, List.set_cons_zero] at hm33
 replace hm33 := Mem.insAt (M := ((.arr g 78 (plc v S cost (.func (.func vf) first.toArray caps.toArray) gm)) :: (memoR f gm (n + 2)) :: (.row (.slice (some ⟨b15, 0, none⟩) 8 c14) 38 4 8 (tlsC (splitT t))) :: M)) 3 hm33
 simp only [List.insertIdx_succ_cons, List.insertIdx_zero] at hm33
 refine qP rfl ?_
 refine plStore 3 Ty.ag_voxel_api_Tile hm33 rfl (i := 3) (cs := tlc (child t 1)) rfl (wn rfl) rfl (litEv (by kernel_rfl)) (litEv (by kernel_rfl)) rfl rfl (by kernel_rfl) ?_
 intro w36 hm35
 clear hm33
 try simp only [List.cons_append, List.nil_append, List.set_cons_succ, List.set_cons_zero] at hm35
 refine qNone rfl ?_
 refine plD ?_
 refine then_normal (hK31 _ _ ?_)
 refine wpPrune [(0, .pointer (some ⟨g, 0, none⟩)), (4, .int .i64 0), (5, .int .i64 ((-(f t)) + (f (child t 0)))), (7, .pointer (some ⟨g32, 0, none⟩)), (13, .slice (some ⟨b15, 0, none⟩) 8 c14), (14, .int .i64 8), (15, .int .i64 1), (16, .bool true), (17, .pointer (some ⟨b15, 0 + 1 * 4, none⟩)), (18, .agg (tlc (child t 1)).toArray), (19, .int .i64 (-(f t))), (20, .pointer (some ⟨g, 0, none⟩)), (21, .agg (tlc (child t 0)).toArray), (22, .int .i64 (f (child t 0))), (23, .int .i64 ((-(f t)) + (f (child t 0)))), (24, .int .i64 1)] ⟨litGet (by kernel_rfl), ⟨litGet (by kernel_rfl), ⟨litGet (by kernel_rfl), ⟨litGet (by kernel_rfl), ⟨litGet (by kernel_rfl), ⟨litGet (by kernel_rfl), ⟨litGet (by kernel_rfl), ⟨litGet (by kernel_rfl), ⟨litGet (by kernel_rfl), ⟨litGet (by kernel_rfl), ⟨litGet (by kernel_rfl), ⟨litGet (by kernel_rfl), ⟨litGet (by kernel_rfl), ⟨litGet (by kernel_rfl), ⟨litGet (by kernel_rfl), ⟨litGet (by kernel_rfl), trivial⟩⟩⟩⟩⟩⟩⟩⟩⟩⟩⟩⟩⟩⟩⟩⟩ (fun X37 => ?_)
 refine plStart ?_
 refine lk (v := .int .i64 ((-(f t)) + (f (child t 0)))) rfl rfl rfl ?_
 refine lk (v := .pointer (some ⟨g, 0, none⟩)) rfl rfl rfl ?_
 refine litVal (v := .agg (tlc (child t 1)).toArray) rfl (wn rfl) (gLoadAg (vs := tlc (child t 1)) (k := 0) 3 hm35 rfl (by kernel_rfl) (by kernel_rfl) (.tmp 7) Ty.ag_voxel_api_Tile rfl (litEv (by kernel_rfl))) rfl (by decide) ?_
 refine plCall (i := 3) 46 [.pointer (some ⟨g, 0, none⟩), .agg (tlc (child t 1)).toArray] [] [] rfl (by kernel_rfl) (wn rfl) rfl (litEv (by kernel_rfl)) (litArgs (by kernel_rfl)) (pof_any hp v S cost g gm (n + 2) (by omega) (child t 1) (ht.child h1 1) hm35) ?_
 rintro e w38 ⟨rfl, hm39⟩
 clear hm35
 refine ⟨_, rfl, ?_⟩
 refine qP rfl ?_
 refine litVal (v := .int .i64 (((-(f t)) + (f (child t 0))) + (f (child t 1)))) rfl (wn rfl) (addRun (A := ((-(f t)) + (f (child t 0)))) (B := (f (child t 1))) (C := ((-(f t)) + (f (child t 0))) + (f (child t 1))) (.tmp 19) (.tmp 22) rfl (litEv (by kernel_rfl)) (litEv (by kernel_rfl)) rfl (by omega)) rfl (by decide) ?_
 refine lk (v := .int .i64 (((-(f t)) + (f (child t 0))) + (f (child t 1)))) rfl rfl rfl ?_
 refine plD ?_
 refine inBlock_normal ?_
 refine then_normal (hK30 _ _ ?_)
 refine plStart ?_
 refine lk (v := .int .i64 2) rfl rfl rfl ?_
 refine lk (v := .int .i64 2) rfl rfl rfl ?_
 refine plD ?_
 refine then_normal (roundsNext ?_)
 have hm40 : Mem w0 w38 ((.arr g 78 (plc v S cost (.func (.func vf) first.toArray caps.toArray) gm)) :: (memoR f gm (n + 3)) :: (.row (.slice (some ⟨b15, 0, none⟩) 8 c14) 38 4 8 (tlsC (splitT t))) :: M) := (hm39.sub (.cons_cons _ (.cons_cons _ (.cons_cons _ (.cons _ (List.Sublist.refl _))))))
 clear hm39
 refine wp_seq_k fun K41 hK41 => ?_
 refine plStart ?_
 refine lk (v := .bool true) rfl rfl rfl ?_
 refine plD ?_
 refine then_normal (hK41 _ _ ?_)
 refine wp_seq_k fun K42 hK42 => ?_
 refine wp_cond_true (litEv (by kernel_rfl)) ?_
 refine wp_skip ?_
 refine then_normal (hK42 _ _ ?_)
 refine wp_seq_k fun K43 hK43 => ?_
 refine wp_block ?_
 refine wp_seq_k fun K44 hK44 => ?_
 refine plStart ?_
 refine litVal (v := .pointer (some ⟨b15, 0 + 2 * 4, none⟩)) rfl (wn rfl) (gIaSl (b := b15) (off := 0) (n := 8) (c := c14) (kk := .i64) (K := 2) (.tmp 13) (.tmp 15) 2 Ty.sl_L_api_Tile rfl (litEv (by kernel_rfl)) (litEv (by kernel_rfl)) (rfl) (by decide)) rfl (by decide) ?_
 refine litVal (v := .agg (tlc (child t 2)).toArray) rfl (wn rfl) (gLoadAgRd (vs := tlc (child t 2)) (m := 2 * 4) (hm40.rdRow 2 rfl) rfl (fun i_ u_ hu_ => tlsC_get (l := splitT t) (k := 2) rfl i_ u_ hu_) (by kernel_rfl) (by decide) (.tmp 17) Ty.ag_voxel_api_Tile rfl (litEv (by kernel_rfl))) rfl (by decide) ?_
 refine plAlloc (z := [.int .i64 0, .int .i64 0, .int .i64 0, .int .i64 0]) Ty.ag_voxel_api_Tile hm40 (i := 2) rfl (wn rfl) rfl ?_
 intro g45 w47 hm46
 clear hm40
 try simp only [List.cons_append, List.nil_append, List.set_cons_succ, List.set_cons_zero] at hm46
 replace hm46 := Mem.insAt (M := ((.arr g 78 (plc v S cost (.func (.func vf) first.toArray caps.toArray) gm)) :: (memoR f gm (n + 3)) :: (.row (.slice (some ⟨b15, 0, none⟩) 8 c14) 38 4 8 (tlsC (splitT t))) :: M)) 3 hm46
 simp only [List.insertIdx_succ_cons, List.insertIdx_zero] at hm46
 refine qP rfl ?_
 refine plStore 3 Ty.ag_voxel_api_Tile hm46 rfl (i := 3) (cs := tlc (child t 2)) rfl (wn rfl) rfl (litEv (by kernel_rfl)) (litEv (by kernel_rfl)) rfl rfl (by kernel_rfl) ?_
 intro w49 hm48
 clear hm46
 try simp only [List.cons_append, List.nil_append, List.set_cons_succ, List.set_cons_zero] at hm48
 refine qNone rfl ?_
 refine plD ?_
 refine then_normal (hK44 _ _ ?_)
 refine plStart ?_
 refine lk (v := .int .i64 (((-(f t)) + (f (child t 0))) + (f (child t 1)))) rfl rfl rfl ?_
 refine lk (v := .pointer (some ⟨g, 0, none⟩)) rfl rfl rfl ?_
 refine litVal (v := .agg (tlc (child t 2)).toArray) rfl (wn rfl) (gLoadAg (vs := tlc (child t 2)) (k := 0) 3 hm48 rfl (by kernel_rfl) (by kernel_rfl) (.tmp 7) Ty.ag_voxel_api_Tile rfl (litEv (by kernel_rfl))) rfl (by decide) ?_
 refine plCall (i := 3) 46 [.pointer (some ⟨g, 0, none⟩), .agg (tlc (child t 2)).toArray] [] [] rfl (by kernel_rfl) (wn rfl) rfl (litEv (by kernel_rfl)) (litArgs (by kernel_rfl)) (pof_any hp v S cost g gm (n + 3) (by omega) (child t 2) (ht.child h1 2) hm48) ?_
 rintro e w50 ⟨rfl, hm51⟩
 clear hm48
 refine ⟨_, rfl, ?_⟩
 refine qP rfl ?_
 refine litVal (v := .int .i64 ((((-(f t)) + (f (child t 0))) + (f (child t 1))) + (f (child t 2)))) rfl (wn rfl) (addRun (A := (((-(f t)) + (f (child t 0))) + (f (child t 1)))) (B := (f (child t 2))) (C := (((-(f t)) + (f (child t 0))) + (f (child t 1))) + (f (child t 2))) (.tmp 19) (.tmp 22) rfl (litEv (by kernel_rfl)) (litEv (by kernel_rfl)) rfl (by omega)) rfl (by decide) ?_
 refine lk (v := .int .i64 ((((-(f t)) + (f (child t 0))) + (f (child t 1))) + (f (child t 2)))) rfl rfl rfl ?_
 refine plD ?_
 refine inBlock_normal ?_
 refine then_normal (hK43 _ _ ?_)
 refine wpPrune [(0, .pointer (some ⟨g, 0, none⟩)), (4, .int .i64 0), (5, .int .i64 ((((-(f t)) + (f (child t 0))) + (f (child t 1))) + (f (child t 2)))), (7, .pointer (some ⟨g45, 0, none⟩)), (13, .slice (some ⟨b15, 0, none⟩) 8 c14), (14, .int .i64 8), (15, .int .i64 2), (16, .bool true), (17, .pointer (some ⟨b15, 0 + 2 * 4, none⟩)), (18, .agg (tlc (child t 2)).toArray), (19, .int .i64 (((-(f t)) + (f (child t 0))) + (f (child t 1)))), (20, .pointer (some ⟨g, 0, none⟩)), (21, .agg (tlc (child t 2)).toArray), (22, .int .i64 (f (child t 2))), (23, .int .i64 ((((-(f t)) + (f (child t 0))) + (f (child t 1))) + (f (child t 2)))), (24, .int .i64 2)] ⟨litGet (by kernel_rfl), ⟨litGet (by kernel_rfl), ⟨litGet (by kernel_rfl), ⟨litGet (by kernel_rfl), ⟨litGet (by kernel_rfl), ⟨litGet (by kernel_rfl), ⟨litGet (by kernel_rfl), ⟨litGet (by kernel_rfl), ⟨litGet (by kernel_rfl), ⟨litGet (by kernel_rfl), ⟨litGet (by kernel_rfl), ⟨litGet (by kernel_rfl), ⟨litGet (by kernel_rfl), ⟨litGet (by kernel_rfl), ⟨litGet (by kernel_rfl), ⟨litGet (by kernel_rfl), trivial⟩⟩⟩⟩⟩⟩⟩⟩⟩⟩⟩⟩⟩⟩⟩⟩ (fun X52 => ?_)
 refine plStart ?_
 refine lk (v := .int .i64 3) rfl rfl rfl ?_
 refine lk (v := .int .i64 3) rfl rfl rfl ?_
 refine plD ?_
 refine then_normal (roundsNext ?_)
 have hm53 : Mem w0 w50 ((.arr g 78 (plc v S cost (.func (.func vf) first.toArray caps.toArray) gm)) :: (memoR f gm (n + 4)) :: (.row (.slice (some ⟨b15, 0, none⟩) 8 c14) 38 4 8 (tlsC (splitT t))) :: M) := (hm51.sub (.cons_cons _ (.cons_cons _ (.cons_cons _ (.cons _ (List.Sublist.refl _))))))
 clear hm51
 refine wp_seq_k fun K54 hK54 => ?_
 refine plStart ?_
 refine lk (v := .bool true) rfl rfl rfl ?_
 refine plD ?_
 refine then_normal (hK54 _ _ ?_)
 refine wp_seq_k fun K55 hK55 => ?_
 refine wp_cond_true (litEv (by kernel_rfl)) ?_
 refine wp_skip ?_
 refine then_normal (hK55 _ _ ?_)
 refine wp_seq_k fun K56 hK56 => ?_
 refine wp_block ?_
 refine wp_seq_k fun K57 hK57 => ?_
 refine plStart ?_
 refine litVal (v := .pointer (some ⟨b15, 0 + 3 * 4, none⟩)) rfl (wn rfl) (gIaSl (b := b15) (off := 0) (n := 8) (c := c14) (kk := .i64) (K := 3) (.tmp 13) (.tmp 15) 3 Ty.sl_L_api_Tile rfl (litEv (by kernel_rfl)) (litEv (by kernel_rfl)) (rfl) (by decide)) rfl (by decide) ?_
 refine litVal (v := .agg (tlc (child t 3)).toArray) rfl (wn rfl) (gLoadAgRd (vs := tlc (child t 3)) (m := 3 * 4) (hm53.rdRow 2 rfl) rfl (fun i_ u_ hu_ => tlsC_get (l := splitT t) (k := 3) rfl i_ u_ hu_) (by kernel_rfl) (by decide) (.tmp 17) Ty.ag_voxel_api_Tile rfl (litEv (by kernel_rfl))) rfl (by decide) ?_
 refine plAlloc (z := [.int .i64 0, .int .i64 0, .int .i64 0, .int .i64 0]) Ty.ag_voxel_api_Tile hm53 (i := 2) rfl (wn rfl) rfl ?_
 intro g58 w60 hm59
 clear hm53
 try simp only [List.cons_append, List.nil_append, List.set_cons_succ, List.set_cons_zero] at hm59
 replace hm59 := Mem.insAt (M := ((.arr g 78 (plc v S cost (.func (.func vf) first.toArray caps.toArray) gm)) :: (memoR f gm (n + 4)) :: (.row (.slice (some ⟨b15, 0, none⟩) 8 c14) 38 4 8 (tlsC (splitT t))) :: M)) 3 hm59
 simp only [List.insertIdx_succ_cons, List.insertIdx_zero] at hm59
 refine qP rfl ?_
 refine plStore 3 Ty.ag_voxel_api_Tile hm59 rfl (i := 3) (cs := tlc (child t 3)) rfl (wn rfl) rfl (litEv (by kernel_rfl)) (litEv (by kernel_rfl)) rfl rfl (by kernel_rfl) ?_
 intro w62 hm61
 clear hm59
 try simp only [List.cons_append, List.nil_append, List.set_cons_succ, List.set_cons_zero] at hm61
 refine qNone rfl ?_
 refine plD ?_
 refine then_normal (hK57 _ _ ?_)
 refine plStart ?_
 refine lk (v := .int .i64 ((((-(f t)) + (f (child t 0))) + (f (child t 1))) + (f (child t 2)))) rfl rfl rfl ?_
 refine lk (v := .pointer (some ⟨g, 0, none⟩)) rfl rfl rfl ?_
 refine litVal (v := .agg (tlc (child t 3)).toArray) rfl (wn rfl) (gLoadAg (vs := tlc (child t 3)) (k := 0) 3 hm61 rfl (by kernel_rfl) (by kernel_rfl) (.tmp 7) Ty.ag_voxel_api_Tile rfl (litEv (by kernel_rfl))) rfl (by decide) ?_
 refine plCall (i := 3) 46 [.pointer (some ⟨g, 0, none⟩), .agg (tlc (child t 3)).toArray] [] [] rfl (by kernel_rfl) (wn rfl) rfl (litEv (by kernel_rfl)) (litArgs (by kernel_rfl)) (pof_any hp v S cost g gm (n + 4) (by omega) (child t 3) (ht.child h1 3) hm61) ?_
 rintro e w63 ⟨rfl, hm64⟩
 clear hm61
 refine ⟨_, rfl, ?_⟩
 refine qP rfl ?_
 refine litVal (v := .int .i64 (((((-(f t)) + (f (child t 0))) + (f (child t 1))) + (f (child t 2))) + (f (child t 3)))) rfl (wn rfl) (addRun (A := ((((-(f t)) + (f (child t 0))) + (f (child t 1))) + (f (child t 2)))) (B := (f (child t 3))) (C := ((((-(f t)) + (f (child t 0))) + (f (child t 1))) + (f (child t 2))) + (f (child t 3))) (.tmp 19) (.tmp 22) rfl (litEv (by kernel_rfl)) (litEv (by kernel_rfl)) rfl (by omega)) rfl (by decide) ?_
 refine lk (v := .int .i64 (((((-(f t)) + (f (child t 0))) + (f (child t 1))) + (f (child t 2))) + (f (child t 3)))) rfl rfl rfl ?_
 refine plD ?_
 refine inBlock_normal ?_
 refine then_normal (hK56 _ _ ?_)
 refine plStart ?_
 refine lk (v := .int .i64 4) rfl rfl rfl ?_
 refine lk (v := .int .i64 4) rfl rfl rfl ?_
 refine plD ?_
 refine then_normal (roundsNext ?_)
 have hm65 : Mem w0 w63 ((.arr g 78 (plc v S cost (.func (.func vf) first.toArray caps.toArray) gm)) :: (memoR f gm (n + 5)) :: (.row (.slice (some ⟨b15, 0, none⟩) 8 c14) 38 4 8 (tlsC (splitT t))) :: M) := (hm64.sub (.cons_cons _ (.cons_cons _ (.cons_cons _ (.cons _ (List.Sublist.refl _))))))
 clear hm64
 refine wpPrune [(0, .pointer (some ⟨g, 0, none⟩)), (4, .int .i64 0), (5, .int .i64 (((((-(f t)) + (f (child t 0))) + (f (child t 1))) + (f (child t 2))) + (f (child t 3)))), (7, .pointer (some ⟨g58, 0, none⟩)), (13, .slice (some ⟨b15, 0, none⟩) 8 c14), (14, .int .i64 8), (15, .int .i64 4), (16, .bool true), (17, .pointer (some ⟨b15, 0 + 3 * 4, none⟩)), (18, .agg (tlc (child t 3)).toArray), (19, .int .i64 ((((-(f t)) + (f (child t 0))) + (f (child t 1))) + (f (child t 2)))), (20, .pointer (some ⟨g, 0, none⟩)), (21, .agg (tlc (child t 3)).toArray), (22, .int .i64 (f (child t 3))), (23, .int .i64 (((((-(f t)) + (f (child t 0))) + (f (child t 1))) + (f (child t 2))) + (f (child t 3)))), (24, .int .i64 4)] ⟨litGet (by kernel_rfl), ⟨litGet (by kernel_rfl), ⟨litGet (by kernel_rfl), ⟨litGet (by kernel_rfl), ⟨litGet (by kernel_rfl), ⟨litGet (by kernel_rfl), ⟨litGet (by kernel_rfl), ⟨litGet (by kernel_rfl), ⟨litGet (by kernel_rfl), ⟨litGet (by kernel_rfl), ⟨litGet (by kernel_rfl), ⟨litGet (by kernel_rfl), ⟨litGet (by kernel_rfl), ⟨litGet (by kernel_rfl), ⟨litGet (by kernel_rfl), ⟨litGet (by kernel_rfl), trivial⟩⟩⟩⟩⟩⟩⟩⟩⟩⟩⟩⟩⟩⟩⟩⟩ (fun X66 => ?_)
 refine wp_seq_k fun K67 hK67 => ?_
 refine plStart ?_
 refine lk (v := .bool true) rfl rfl rfl ?_
 refine plD ?_
 refine then_normal (hK67 _ _ ?_)
 refine wp_seq_k fun K68 hK68 => ?_
 refine wp_cond_true (litEv (by kernel_rfl)) ?_
 refine wp_skip ?_
 refine then_normal (hK68 _ _ ?_)
 refine wp_seq_k fun K69 hK69 => ?_
 refine wp_block ?_
 refine wp_seq_k fun K70 hK70 => ?_
 refine plStart ?_
 refine litVal (v := .pointer (some ⟨b15, 0 + 4 * 4, none⟩)) rfl (wn rfl) (gIaSl (b := b15) (off := 0) (n := 8) (c := c14) (kk := .i64) (K := 4) (.tmp 13) (.tmp 15) 4 Ty.sl_L_api_Tile rfl (litEv (by kernel_rfl)) (litEv (by kernel_rfl)) (rfl) (by decide)) rfl (by decide) ?_
 refine litVal (v := .agg (tlc (child t 4)).toArray) rfl (wn rfl) (gLoadAgRd (vs := tlc (child t 4)) (m := 4 * 4) (hm65.rdRow 2 rfl) rfl (fun i_ u_ hu_ => tlsC_get (l := splitT t) (k := 4) rfl i_ u_ hu_) (by kernel_rfl) (by decide) (.tmp 17) Ty.ag_voxel_api_Tile rfl (litEv (by kernel_rfl))) rfl (by decide) ?_
 refine plAlloc (z := [.int .i64 0, .int .i64 0, .int .i64 0, .int .i64 0]) Ty.ag_voxel_api_Tile hm65 (i := 2) rfl (wn rfl) rfl ?_
 intro g71 w73 hm72
 clear hm65
 try simp only [List.cons_append, List.nil_append, List.set_cons_succ, List.set_cons_zero] at hm72
 replace hm72 := Mem.insAt (M := ((.arr g 78 (plc v S cost (.func (.func vf) first.toArray caps.toArray) gm)) :: (memoR f gm (n + 5)) :: (.row (.slice (some ⟨b15, 0, none⟩) 8 c14) 38 4 8 (tlsC (splitT t))) :: M)) 3 hm72
 simp only [List.insertIdx_succ_cons, List.insertIdx_zero] at hm72
 refine qP rfl ?_
 refine plStore 3 Ty.ag_voxel_api_Tile hm72 rfl (i := 3) (cs := tlc (child t 4)) rfl (wn rfl) rfl (litEv (by kernel_rfl)) (litEv (by kernel_rfl)) rfl rfl (by kernel_rfl) ?_
 intro w75 hm74
 clear hm72
 try simp only [List.cons_append, List.nil_append, List.set_cons_succ, List.set_cons_zero] at hm74
 refine qNone rfl ?_
 refine plD ?_
 refine then_normal (hK70 _ _ ?_)
 refine plStart ?_
 refine lk (v := .int .i64 (((((-(f t)) + (f (child t 0))) + (f (child t 1))) + (f (child t 2))) + (f (child t 3)))) rfl rfl rfl ?_
 refine lk (v := .pointer (some ⟨g, 0, none⟩)) rfl rfl rfl ?_
 refine litVal (v := .agg (tlc (child t 4)).toArray) rfl (wn rfl) (gLoadAg (vs := tlc (child t 4)) (k := 0) 3 hm74 rfl (by kernel_rfl) (by kernel_rfl) (.tmp 7) Ty.ag_voxel_api_Tile rfl (litEv (by kernel_rfl))) rfl (by decide) ?_
 refine plCall (i := 3) 46 [.pointer (some ⟨g, 0, none⟩), .agg (tlc (child t 4)).toArray] [] [] rfl (by kernel_rfl) (wn rfl) rfl (litEv (by kernel_rfl)) (litArgs (by kernel_rfl)) (pof_any hp v S cost g gm (n + 5) (by omega) (child t 4) (ht.child h1 4) hm74) ?_
 rintro e w76 ⟨rfl, hm77⟩
 clear hm74
 refine ⟨_, rfl, ?_⟩
 refine qP rfl ?_
 refine litVal (v := .int .i64 ((((((-(f t)) + (f (child t 0))) + (f (child t 1))) + (f (child t 2))) + (f (child t 3))) + (f (child t 4)))) rfl (wn rfl) (addRun (A := (((((-(f t)) + (f (child t 0))) + (f (child t 1))) + (f (child t 2))) + (f (child t 3)))) (B := (f (child t 4))) (C := (((((-(f t)) + (f (child t 0))) + (f (child t 1))) + (f (child t 2))) + (f (child t 3))) + (f (child t 4))) (.tmp 19) (.tmp 22) rfl (litEv (by kernel_rfl)) (litEv (by kernel_rfl)) rfl (by omega)) rfl (by decide) ?_
 refine lk (v := .int .i64 ((((((-(f t)) + (f (child t 0))) + (f (child t 1))) + (f (child t 2))) + (f (child t 3))) + (f (child t 4)))) rfl rfl rfl ?_
 refine plD ?_
 refine inBlock_normal ?_
 refine then_normal (hK69 _ _ ?_)
 refine plStart ?_
 refine lk (v := .int .i64 5) rfl rfl rfl ?_
 refine lk (v := .int .i64 5) rfl rfl rfl ?_
 refine plD ?_
 refine then_normal (roundsNext ?_)
 have hm78 : Mem w0 w76 ((.arr g 78 (plc v S cost (.func (.func vf) first.toArray caps.toArray) gm)) :: (memoR f gm (n + 6)) :: (.row (.slice (some ⟨b15, 0, none⟩) 8 c14) 38 4 8 (tlsC (splitT t))) :: M) := (hm77.sub (.cons_cons _ (.cons_cons _ (.cons_cons _ (.cons _ (List.Sublist.refl _))))))
 clear hm77
 refine wp_seq_k fun K79 hK79 => ?_
 refine plStart ?_
 refine lk (v := .bool true) rfl rfl rfl ?_
 refine plD ?_
 refine then_normal (hK79 _ _ ?_)
 refine wpPrune [(0, .pointer (some ⟨g, 0, none⟩)), (4, .int .i64 0), (5, .int .i64 ((((((-(f t)) + (f (child t 0))) + (f (child t 1))) + (f (child t 2))) + (f (child t 3))) + (f (child t 4)))), (7, .pointer (some ⟨g71, 0, none⟩)), (13, .slice (some ⟨b15, 0, none⟩) 8 c14), (14, .int .i64 8), (15, .int .i64 5), (16, .bool true), (17, .pointer (some ⟨b15, 0 + 4 * 4, none⟩)), (18, .agg (tlc (child t 4)).toArray), (19, .int .i64 (((((-(f t)) + (f (child t 0))) + (f (child t 1))) + (f (child t 2))) + (f (child t 3)))), (20, .pointer (some ⟨g, 0, none⟩)), (21, .agg (tlc (child t 4)).toArray), (22, .int .i64 (f (child t 4))), (23, .int .i64 ((((((-(f t)) + (f (child t 0))) + (f (child t 1))) + (f (child t 2))) + (f (child t 3))) + (f (child t 4)))), (24, .int .i64 5)] ⟨litGet (by kernel_rfl), ⟨litGet (by kernel_rfl), ⟨litGet (by kernel_rfl), ⟨litGet (by kernel_rfl), ⟨litGet (by kernel_rfl), ⟨litGet (by kernel_rfl), ⟨litGet (by kernel_rfl), ⟨litGet (by kernel_rfl), ⟨litGet (by kernel_rfl), ⟨litGet (by kernel_rfl), ⟨litGet (by kernel_rfl), ⟨litGet (by kernel_rfl), ⟨litGet (by kernel_rfl), ⟨litGet (by kernel_rfl), ⟨litGet (by kernel_rfl), ⟨litGet (by kernel_rfl), trivial⟩⟩⟩⟩⟩⟩⟩⟩⟩⟩⟩⟩⟩⟩⟩⟩ (fun X80 => ?_)
 refine wp_seq_k fun K81 hK81 => ?_
 refine wp_cond_true (litEv (by kernel_rfl)) ?_
 refine wp_skip ?_
 refine then_normal (hK81 _ _ ?_)
 refine wp_seq_k fun K82 hK82 => ?_
 refine wp_block ?_
 refine wp_seq_k fun K83 hK83 => ?_
 refine plStart ?_
 refine litVal (v := .pointer (some ⟨b15, 0 + 5 * 4, none⟩)) rfl (wn rfl) (gIaSl (b := b15) (off := 0) (n := 8) (c := c14) (kk := .i64) (K := 5) (.tmp 13) (.tmp 15) 5 Ty.sl_L_api_Tile rfl (litEv (by kernel_rfl)) (litEv (by kernel_rfl)) (rfl) (by decide)) rfl (by decide) ?_
 refine litVal (v := .agg (tlc (child t 5)).toArray) rfl (wn rfl) (gLoadAgRd (vs := tlc (child t 5)) (m := 5 * 4) (hm78.rdRow 2 rfl) rfl (fun i_ u_ hu_ => tlsC_get (l := splitT t) (k := 5) rfl i_ u_ hu_) (by kernel_rfl) (by decide) (.tmp 17) Ty.ag_voxel_api_Tile rfl (litEv (by kernel_rfl))) rfl (by decide) ?_
 refine plAlloc (z := [.int .i64 0, .int .i64 0, .int .i64 0, .int .i64 0]) Ty.ag_voxel_api_Tile hm78 (i := 2) rfl (wn rfl) rfl ?_
 intro g84 w86 hm85
 clear hm78
 try simp only [List.cons_append, List.nil_append, List.set_cons_succ, List.set_cons_zero] at hm85
 replace hm85 := Mem.insAt (M := ((.arr g 78 (plc v S cost (.func (.func vf) first.toArray caps.toArray) gm)) :: (memoR f gm (n + 6)) :: (.row (.slice (some ⟨b15, 0, none⟩) 8 c14) 38 4 8 (tlsC (splitT t))) :: M)) 3 hm85
 simp only [List.insertIdx_succ_cons, List.insertIdx_zero] at hm85
 refine qP rfl ?_
 refine plStore 3 Ty.ag_voxel_api_Tile hm85 rfl (i := 3) (cs := tlc (child t 5)) rfl (wn rfl) rfl (litEv (by kernel_rfl)) (litEv (by kernel_rfl)) rfl rfl (by kernel_rfl) ?_
 intro w88 hm87
 clear hm85
 try simp only [List.cons_append, List.nil_append, List.set_cons_succ, List.set_cons_zero] at hm87
 refine qNone rfl ?_
 refine plD ?_
 refine then_normal (hK83 _ _ ?_)
 refine plStart ?_
 refine lk (v := .int .i64 ((((((-(f t)) + (f (child t 0))) + (f (child t 1))) + (f (child t 2))) + (f (child t 3))) + (f (child t 4)))) rfl rfl rfl ?_
 refine lk (v := .pointer (some ⟨g, 0, none⟩)) rfl rfl rfl ?_
 refine litVal (v := .agg (tlc (child t 5)).toArray) rfl (wn rfl) (gLoadAg (vs := tlc (child t 5)) (k := 0) 3 hm87 rfl (by kernel_rfl) (by kernel_rfl) (.tmp 7) Ty.ag_voxel_api_Tile rfl (litEv (by kernel_rfl))) rfl (by decide) ?_
 refine plCall (i := 3) 46 [.pointer (some ⟨g, 0, none⟩), .agg (tlc (child t 5)).toArray] [] [] rfl (by kernel_rfl) (wn rfl) rfl (litEv (by kernel_rfl)) (litArgs (by kernel_rfl)) (pof_any hp v S cost g gm (n + 6) (by omega) (child t 5) (ht.child h1 5) hm87) ?_
 rintro e w89 ⟨rfl, hm90⟩
 clear hm87
 refine ⟨_, rfl, ?_⟩
 refine qP rfl ?_
 refine litVal (v := .int .i64 (((((((-(f t)) + (f (child t 0))) + (f (child t 1))) + (f (child t 2))) + (f (child t 3))) + (f (child t 4))) + (f (child t 5)))) rfl (wn rfl) (addRun (A := ((((((-(f t)) + (f (child t 0))) + (f (child t 1))) + (f (child t 2))) + (f (child t 3))) + (f (child t 4)))) (B := (f (child t 5))) (C := ((((((-(f t)) + (f (child t 0))) + (f (child t 1))) + (f (child t 2))) + (f (child t 3))) + (f (child t 4))) + (f (child t 5))) (.tmp 19) (.tmp 22) rfl (litEv (by kernel_rfl)) (litEv (by kernel_rfl)) rfl (by omega)) rfl (by decide) ?_
 refine lk (v := .int .i64 (((((((-(f t)) + (f (child t 0))) + (f (child t 1))) + (f (child t 2))) + (f (child t 3))) + (f (child t 4))) + (f (child t 5)))) rfl rfl rfl ?_
 refine plD ?_
 refine inBlock_normal ?_
 refine then_normal (hK82 _ _ ?_)
 refine plStart ?_
 refine lk (v := .int .i64 6) rfl rfl rfl ?_
 refine lk (v := .int .i64 6) rfl rfl rfl ?_
 refine plD ?_
 refine then_normal (roundsNext ?_)
 have hm91 : Mem w0 w89 ((.arr g 78 (plc v S cost (.func (.func vf) first.toArray caps.toArray) gm)) :: (memoR f gm (n + 7)) :: (.row (.slice (some ⟨b15, 0, none⟩) 8 c14) 38 4 8 (tlsC (splitT t))) :: M) := (hm90.sub (.cons_cons _ (.cons_cons _ (.cons_cons _ (.cons _ (List.Sublist.refl _))))))
 clear hm90
 refine wp_seq_k fun K92 hK92 => ?_
 refine plStart ?_
 refine lk (v := .bool true) rfl rfl rfl ?_
 refine plD ?_
 refine then_normal (hK92 _ _ ?_)
 refine wp_seq_k fun K93 hK93 => ?_
 refine wp_cond_true (litEv (by kernel_rfl)) ?_
 refine wp_skip ?_
 refine then_normal (hK93 _ _ ?_)
 refine wp_seq_k fun K94 hK94 => ?_
 refine wp_block ?_
 refine wp_seq_k fun K95 hK95 => ?_
 refine plStart ?_
 refine litVal (v := .pointer (some ⟨b15, 0 + 6 * 4, none⟩)) rfl (wn rfl) (gIaSl (b := b15) (off := 0) (n := 8) (c := c14) (kk := .i64) (K := 6) (.tmp 13) (.tmp 15) 6 Ty.sl_L_api_Tile rfl (litEv (by kernel_rfl)) (litEv (by kernel_rfl)) (rfl) (by decide)) rfl (by decide) ?_
 refine litVal (v := .agg (tlc (child t 6)).toArray) rfl (wn rfl) (gLoadAgRd (vs := tlc (child t 6)) (m := 6 * 4) (hm91.rdRow 2 rfl) rfl (fun i_ u_ hu_ => tlsC_get (l := splitT t) (k := 6) rfl i_ u_ hu_) (by kernel_rfl) (by decide) (.tmp 17) Ty.ag_voxel_api_Tile rfl (litEv (by kernel_rfl))) rfl (by decide) ?_
 refine plAlloc (z := [.int .i64 0, .int .i64 0, .int .i64 0, .int .i64 0]) Ty.ag_voxel_api_Tile hm91 (i := 2) rfl (wn rfl) rfl ?_
 intro g96 w98 hm97
 clear hm91
 try simp only [List.cons_append, List.nil_append, List.set_cons_succ, List.set_cons_zero] at hm97
 replace hm97 := Mem.insAt (M := ((.arr g 78 (plc v S cost (.func (.func vf) first.toArray caps.toArray) gm)) :: (memoR f gm (n + 7)) :: (.row (.slice (some ⟨b15, 0, none⟩) 8 c14) 38 4 8 (tlsC (splitT t))) :: M)) 3 hm97
 simp only [List.insertIdx_succ_cons, List.insertIdx_zero] at hm97
 refine qP rfl ?_
 refine plStore 3 Ty.ag_voxel_api_Tile hm97 rfl (i := 3) (cs := tlc (child t 6)) rfl (wn rfl) rfl (litEv (by kernel_rfl)) (litEv (by kernel_rfl)) rfl rfl (by kernel_rfl) ?_
 intro w100 hm99
 clear hm97
 try simp only [List.cons_append, List.nil_append, List.set_cons_succ, List.set_cons_zero] at hm99
 refine qNone rfl ?_
 refine plD ?_
 refine then_normal (hK95 _ _ ?_)
 refine wpPrune [(0, .pointer (some ⟨g, 0, none⟩)), (4, .int .i64 0), (5, .int .i64 (((((((-(f t)) + (f (child t 0))) + (f (child t 1))) + (f (child t 2))) + (f (child t 3))) + (f (child t 4))) + (f (child t 5)))), (7, .pointer (some ⟨g96, 0, none⟩)), (13, .slice (some ⟨b15, 0, none⟩) 8 c14), (14, .int .i64 8), (15, .int .i64 6), (16, .bool true), (17, .pointer (some ⟨b15, 0 + 6 * 4, none⟩)), (18, .agg (tlc (child t 6)).toArray), (19, .int .i64 ((((((-(f t)) + (f (child t 0))) + (f (child t 1))) + (f (child t 2))) + (f (child t 3))) + (f (child t 4)))), (20, .pointer (some ⟨g, 0, none⟩)), (21, .agg (tlc (child t 5)).toArray), (22, .int .i64 (f (child t 5))), (23, .int .i64 (((((((-(f t)) + (f (child t 0))) + (f (child t 1))) + (f (child t 2))) + (f (child t 3))) + (f (child t 4))) + (f (child t 5)))), (24, .int .i64 6)] ⟨litGet (by kernel_rfl), ⟨litGet (by kernel_rfl), ⟨litGet (by kernel_rfl), ⟨litGet (by kernel_rfl), ⟨litGet (by kernel_rfl), ⟨litGet (by kernel_rfl), ⟨litGet (by kernel_rfl), ⟨litGet (by kernel_rfl), ⟨litGet (by kernel_rfl), ⟨litGet (by kernel_rfl), ⟨litGet (by kernel_rfl), ⟨litGet (by kernel_rfl), ⟨litGet (by kernel_rfl), ⟨litGet (by kernel_rfl), ⟨litGet (by kernel_rfl), ⟨litGet (by kernel_rfl), trivial⟩⟩⟩⟩⟩⟩⟩⟩⟩⟩⟩⟩⟩⟩⟩⟩ (fun X101 => ?_)
 refine plStart ?_
 refine lk (v := .int .i64 (((((((-(f t)) + (f (child t 0))) + (f (child t 1))) + (f (child t 2))) + (f (child t 3))) + (f (child t 4))) + (f (child t 5)))) rfl rfl rfl ?_
 refine lk (v := .pointer (some ⟨g, 0, none⟩)) rfl rfl rfl ?_
 refine litVal (v := .agg (tlc (child t 6)).toArray) rfl (wn rfl) (gLoadAg (vs := tlc (child t 6)) (k := 0) 3 hm99 rfl (by kernel_rfl) (by kernel_rfl) (.tmp 7) Ty.ag_voxel_api_Tile rfl (litEv (by kernel_rfl))) rfl (by decide) ?_
 refine plCall (i := 3) 46 [.pointer (some ⟨g, 0, none⟩), .agg (tlc (child t 6)).toArray] [] [] rfl (by kernel_rfl) (wn rfl) rfl (litEv (by kernel_rfl)) (litArgs (by kernel_rfl)) (pof_any hp v S cost g gm (n + 7) (by omega) (child t 6) (ht.child h1 6) hm99) ?_
 rintro e w102 ⟨rfl, hm103⟩
 clear hm99
 refine ⟨_, rfl, ?_⟩
 refine qP rfl ?_
 refine litVal (v := .int .i64 ((((((((-(f t)) + (f (child t 0))) + (f (child t 1))) + (f (child t 2))) + (f (child t 3))) + (f (child t 4))) + (f (child t 5))) + (f (child t 6)))) rfl (wn rfl) (addRun (A := (((((((-(f t)) + (f (child t 0))) + (f (child t 1))) + (f (child t 2))) + (f (child t 3))) + (f (child t 4))) + (f (child t 5)))) (B := (f (child t 6))) (C := (((((((-(f t)) + (f (child t 0))) + (f (child t 1))) + (f (child t 2))) + (f (child t 3))) + (f (child t 4))) + (f (child t 5))) + (f (child t 6))) (.tmp 19) (.tmp 22) rfl (litEv (by kernel_rfl)) (litEv (by kernel_rfl)) rfl (by omega)) rfl (by decide) ?_
 refine lk (v := .int .i64 ((((((((-(f t)) + (f (child t 0))) + (f (child t 1))) + (f (child t 2))) + (f (child t 3))) + (f (child t 4))) + (f (child t 5))) + (f (child t 6)))) rfl rfl rfl ?_
 refine plD ?_
 refine inBlock_normal ?_
 refine then_normal (hK94 _ _ ?_)
 refine plStart ?_
 refine lk (v := .int .i64 7) rfl rfl rfl ?_
 refine lk (v := .int .i64 7) rfl rfl rfl ?_
 refine plD ?_
 refine then_normal (roundsNext ?_)
 have hm104 : Mem w0 w102 ((.arr g 78 (plc v S cost (.func (.func vf) first.toArray caps.toArray) gm)) :: (memoR f gm (n + 8)) :: (.row (.slice (some ⟨b15, 0, none⟩) 8 c14) 38 4 8 (tlsC (splitT t))) :: M) := (hm103.sub (.cons_cons _ (.cons_cons _ (.cons_cons _ (.cons _ (List.Sublist.refl _))))))
 clear hm103
 refine wp_seq_k fun K105 hK105 => ?_
 refine plStart ?_
 refine lk (v := .bool true) rfl rfl rfl ?_
 refine plD ?_
 refine then_normal (hK105 _ _ ?_)
 refine wp_seq_k fun K106 hK106 => ?_
 refine wp_cond_true (litEv (by kernel_rfl)) ?_
 refine wp_skip ?_
 refine then_normal (hK106 _ _ ?_)
 refine wp_seq_k fun K107 hK107 => ?_
 refine wp_block ?_
 refine wp_seq_k fun K108 hK108 => ?_
 refine plStart ?_
 refine litVal (v := .pointer (some ⟨b15, 0 + 7 * 4, none⟩)) rfl (wn rfl) (gIaSl (b := b15) (off := 0) (n := 8) (c := c14) (kk := .i64) (K := 7) (.tmp 13) (.tmp 15) 7 Ty.sl_L_api_Tile rfl (litEv (by kernel_rfl)) (litEv (by kernel_rfl)) (rfl) (by decide)) rfl (by decide) ?_
 refine litVal (v := .agg (tlc (child t 7)).toArray) rfl (wn rfl) (gLoadAgRd (vs := tlc (child t 7)) (m := 7 * 4) (hm104.rdRow 2 rfl) rfl (fun i_ u_ hu_ => tlsC_get (l := splitT t) (k := 7) rfl i_ u_ hu_) (by kernel_rfl) (by decide) (.tmp 17) Ty.ag_voxel_api_Tile rfl (litEv (by kernel_rfl))) rfl (by decide) ?_
 refine plAlloc (z := [.int .i64 0, .int .i64 0, .int .i64 0, .int .i64 0]) Ty.ag_voxel_api_Tile hm104 (i := 2) rfl (wn rfl) rfl ?_
 intro g109 w111 hm110
 clear hm104
 try simp only [List.cons_append, List.nil_append, List.set_cons_succ, List.set_cons_zero] at hm110
 replace hm110 := Mem.insAt (M := ((.arr g 78 (plc v S cost (.func (.func vf) first.toArray caps.toArray) gm)) :: (memoR f gm (n + 8)) :: (.row (.slice (some ⟨b15, 0, none⟩) 8 c14) 38 4 8 (tlsC (splitT t))) :: M)) 3 hm110
 simp only [List.insertIdx_succ_cons, List.insertIdx_zero] at hm110
 refine qP rfl ?_
 refine plStore 3 Ty.ag_voxel_api_Tile hm110 rfl (i := 3) (cs := tlc (child t 7)) rfl (wn rfl) rfl (litEv (by kernel_rfl)) (litEv (by kernel_rfl)) rfl rfl (by kernel_rfl) ?_
 intro w113 hm112
 clear hm110
 try simp only [List.cons_append, List.nil_append, List.set_cons_succ, List.set_cons_zero] at hm112
 refine qNone rfl ?_
 refine plD ?_
 refine then_normal (hK108 _ _ ?_)
 refine plStart ?_
 refine lk (v := .int .i64 ((((((((-(f t)) + (f (child t 0))) + (f (child t 1))) + (f (child t 2))) + (f (child t 3))) + (f (child t 4))) + (f (child t 5))) + (f (child t 6)))) rfl rfl rfl ?_
 refine lk (v := .pointer (some ⟨g, 0, none⟩)) rfl rfl rfl ?_
 refine litVal (v := .agg (tlc (child t 7)).toArray) rfl (wn rfl) (gLoadAg (vs := tlc (child t 7)) (k := 0) 3 hm112 rfl (by kernel_rfl) (by kernel_rfl) (.tmp 7) Ty.ag_voxel_api_Tile rfl (litEv (by kernel_rfl))) rfl (by decide) ?_
 refine plCall (i := 3) 46 [.pointer (some ⟨g, 0, none⟩), .agg (tlc (child t 7)).toArray] [] [] rfl (by kernel_rfl) (wn rfl) rfl (litEv (by kernel_rfl)) (litArgs (by kernel_rfl)) (pof_any hp v S cost g gm (n + 8) (by omega) (child t 7) (ht.child h1 7) hm112) ?_
 rintro e w114 ⟨rfl, hm115⟩
 clear hm112
 refine ⟨_, rfl, ?_⟩
 refine qP rfl ?_
 refine litVal (v := .int .i64 (((((((((-(f t)) + (f (child t 0))) + (f (child t 1))) + (f (child t 2))) + (f (child t 3))) + (f (child t 4))) + (f (child t 5))) + (f (child t 6))) + (f (child t 7)))) rfl (wn rfl) (addRun (A := ((((((((-(f t)) + (f (child t 0))) + (f (child t 1))) + (f (child t 2))) + (f (child t 3))) + (f (child t 4))) + (f (child t 5))) + (f (child t 6)))) (B := (f (child t 7))) (C := ((((((((-(f t)) + (f (child t 0))) + (f (child t 1))) + (f (child t 2))) + (f (child t 3))) + (f (child t 4))) + (f (child t 5))) + (f (child t 6))) + (f (child t 7))) (.tmp 19) (.tmp 22) rfl (litEv (by kernel_rfl)) (litEv (by kernel_rfl)) rfl (by omega)) rfl (by decide) ?_
 refine lk (v := .int .i64 (((((((((-(f t)) + (f (child t 0))) + (f (child t 1))) + (f (child t 2))) + (f (child t 3))) + (f (child t 4))) + (f (child t 5))) + (f (child t 6))) + (f (child t 7)))) rfl rfl rfl ?_
 refine plD ?_
 refine inBlock_normal ?_
 refine then_normal (hK107 _ _ ?_)
 refine wpPrune [(0, .pointer (some ⟨g, 0, none⟩)), (4, .int .i64 0), (5, .int .i64 (((((((((-(f t)) + (f (child t 0))) + (f (child t 1))) + (f (child t 2))) + (f (child t 3))) + (f (child t 4))) + (f (child t 5))) + (f (child t 6))) + (f (child t 7)))), (7, .pointer (some ⟨g109, 0, none⟩)), (13, .slice (some ⟨b15, 0, none⟩) 8 c14), (14, .int .i64 8), (15, .int .i64 7), (16, .bool true), (17, .pointer (some ⟨b15, 0 + 7 * 4, none⟩)), (18, .agg (tlc (child t 7)).toArray), (19, .int .i64 ((((((((-(f t)) + (f (child t 0))) + (f (child t 1))) + (f (child t 2))) + (f (child t 3))) + (f (child t 4))) + (f (child t 5))) + (f (child t 6)))), (20, .pointer (some ⟨g, 0, none⟩)), (21, .agg (tlc (child t 7)).toArray), (22, .int .i64 (f (child t 7))), (23, .int .i64 (((((((((-(f t)) + (f (child t 0))) + (f (child t 1))) + (f (child t 2))) + (f (child t 3))) + (f (child t 4))) + (f (child t 5))) + (f (child t 6))) + (f (child t 7)))), (24, .int .i64 7)] ⟨litGet (by kernel_rfl), ⟨litGet (by kernel_rfl), ⟨litGet (by kernel_rfl), ⟨litGet (by kernel_rfl), ⟨litGet (by kernel_rfl), ⟨litGet (by kernel_rfl), ⟨litGet (by kernel_rfl), ⟨litGet (by kernel_rfl), ⟨litGet (by kernel_rfl), ⟨litGet (by kernel_rfl), ⟨litGet (by kernel_rfl), ⟨litGet (by kernel_rfl), ⟨litGet (by kernel_rfl), ⟨litGet (by kernel_rfl), ⟨litGet (by kernel_rfl), ⟨litGet (by kernel_rfl), trivial⟩⟩⟩⟩⟩⟩⟩⟩⟩⟩⟩⟩⟩⟩⟩⟩ (fun X116 => ?_)
 refine plStart ?_
 refine lk (v := .int .i64 8) rfl rfl rfl ?_
 refine lk (v := .int .i64 8) rfl rfl rfl ?_
 refine plD ?_
 refine then_normal (roundsNext ?_)
 have hm117 : Mem w0 w114 ((.arr g 78 (plc v S cost (.func (.func vf) first.toArray caps.toArray) gm)) :: (memoR f gm (n + 9)) :: (.row (.slice (some ⟨b15, 0, none⟩) 8 c14) 38 4 8 (tlsC (splitT t))) :: M) := (hm115.sub (.cons_cons _ (.cons_cons _ (.cons_cons _ (.cons _ (List.Sublist.refl _))))))
 clear hm115
 refine wp_seq_k fun K118 hK118 => ?_
 refine plStart ?_
 refine lk (v := .bool false) rfl rfl rfl ?_
 refine plD ?_
 refine then_normal (hK118 _ _ ?_)
 refine wp_seq_k fun K119 hK119 => ?_
 refine wp_cond_false (litEv (by kernel_rfl)) ?_
 refine wp_exit ?_
 refine then_exit ?_
 refine then_exit ?_
 refine inBlock_exit ?_
 refine then_normal (hK8 _ _ ?_)
 refine wpPrune [(4, .int .i64 0), (5, .int .i64 (((((((((-(f t)) + (f (child t 0))) + (f (child t 1))) + (f (child t 2))) + (f (child t 3))) + (f (child t 4))) + (f (child t 5))) + (f (child t 6))) + (f (child t 7))))] ⟨litGet (by kernel_rfl), ⟨litGet (by kernel_rfl), trivial⟩⟩ (fun X120 => ?_)
 refine wp_seq_k fun K121 hK121 => ?_
 refine plStart ?_
 refine lk (v := .int .i64 (((((((((-(f t)) + (f (child t 0))) + (f (child t 1))) + (f (child t 2))) + (f (child t 3))) + (f (child t 4))) + (f (child t 5))) + (f (child t 6))) + (f (child t 7)))) rfl rfl rfl ?_
 refine lk (v := .int .i64 (((((((((-(f t)) + (f (child t 0))) + (f (child t 1))) + (f (child t 2))) + (f (child t 3))) + (f (child t 4))) + (f (child t 5))) + (f (child t 6))) + (f (child t 7)))) rfl rfl rfl ?_
 refine plD ?_
 refine then_normal (hK121 _ _ ?_)
 refine wp_ret ?_
 refine bodyPost_ret (v := .int .i64 (((((((((-(f t)) + (f (child t 0))) + (f (child t 1))) + (f (child t 2))) + (f (child t 3))) + (f (child t 4))) + (f (child t 5))) + (f (child t 6))) + (f (child t 7)))) (gRes1 rfl (gResTmp (t := 4) (v := .int .i64 (((((((((-(f t)) + (f (child t 0))) + (f (child t 1))) + (f (child t 2))) + (f (child t 3))) + (f (child t 4))) + (f (child t 5))) + (f (child t 6))) + (f (child t 7)))) (litGet (by kernel_rfl)))) rfl ?_
 exact ⟨congrArg (fun n_ => Ending.returned (.int .i64 n_)) (by rw [more_eq]), (hm117.sub (.cons_cons _ (.cons_cons _ (.cons _ (List.Sublist.refl _)))))⟩
set_option maxRecDepth 100000 in
set_option maxHeartbeats 4000000 in
theorem pnext_any {w0 w : World} {M : List Res} {f : Tl → Int} {vf : FuncId} {first caps : List Value} (hp : Price f vf first caps w0) (v : Vw) (hv : ckV v = 0) (l : List Tl) (b c : Nat) (cost : Int) (g gm n : Nat) (hn : n ≤ 800000000) (hc : 0 ≤ cost ∧ cost ≤ 2199023255552) (hl : l.length ≤ 4096) (hall : ∀ t ∈ l, t.Ok) (hm : Mem w0 w (.arr g 78 (plc v (.slice (some ⟨b, 0, none⟩) l.length c) cost (.func (.func vf) first.toArray caps.toArray) gm) :: memoR f gm n :: .row (.slice (some ⟨b, 0, none⟩) l.length c) 38 4 l.length (tlsC l) :: M)) : Calls Try.prog 47 #[.pointer (some ⟨g, 0, none⟩)] w (fun e w' => e = .returned (.int .i64 (nextP f v cost l)) ∧ Mem w0 w' (.arr g 78 (plc v (.slice (some ⟨b, 0, none⟩) l.length c) cost (.func (.func vf) first.toArray caps.toArray) gm) :: memoR f gm (n + 9 * l.length) :: .row (.slice (some ⟨b, 0, none⟩) l.length c) 38 4 l.length (tlsC l) :: M)) := by
 have hck_ := ckV_ok hv
 have hm0 := hm
 go_enter Try.func47, Try.ntmps47
 refine litStart 65 [(0, .pointer (some ⟨g, 0, none⟩))] (by kernel_rfl) (fun X0 => ?_)
 refine wp_seq_k fun K1 hK1 => ?_
 refine plStart ?_
 refine lk (v := .int .i64 0) rfl rfl rfl ?_
 refine plD ?_
 refine then_normal (hK1 _ _ ?_)
 refine wp_seq_k fun K2 hK2 => ?_
 refine mgStart hm0 (by kernel_rfl) ?_
 intro w4 hm3
 clear hm0
 refine mk_ (i := 0) (v := .pointer (some ⟨g, 0, none⟩)) rfl rfl (fun _ _ _ h => h) hm3 rfl ?_
 refine mk_ (i := 1) (v := .pointer (some ⟨g, 0, none⟩)) rfl rfl (fun _ _ _ h => h) hm3 rfl ?_
 refine mk_ (i := 2) (v := .pointer (some ⟨g, 0, none⟩)) rfl rfl (fun _ _ _ h => h) hm3 rfl ?_
 refine mk_ (i := 3) (v := .pointer (some ⟨g, 4, none⟩)) rfl rfl (fun _ _ _ h => h) hm3 rfl ?_
 refine mgTake (i := 4) (v := .int .i64 v.tol) rfl (by kernel_rfl) (wn rfl) (fun _ _ _ h => h) hm3 (fun w_ h_ => gLoad (v := .int .i64 v.tol) (k := 4) 0 h_ rfl (by kernel_rfl) (.tmp 11) (by kernel_rfl) rfl (litEv (by kernel_rfl))) ?_
 refine mP rfl ?_
 refine mk_ (i := 5) (v := .int .i64 (-1)) rfl rfl (fun _ _ _ h => h) hm3 rfl ?_
 refine mk_ (i := 6) (v := .int .i64 v.tol) rfl rfl (fun _ _ _ h => h) hm3 rfl ?_
 refine mgDone (by kernel_rfl) ?_
 refine then_normal (hK2 _ _ ?_)
 refine wp_seq_k fun K5 hK5 => ?_
 refine wp_seq_k fun K6 hK6 => ?_
 refine plStart ?_
 refine lk (v := .pointer (some ⟨g, 0, none⟩)) rfl rfl rfl ?_
 refine lk (v := .pointer (some ⟨g, 0, none⟩)) rfl rfl rfl ?_
 refine lk (v := .pointer (some ⟨g, 6, none⟩)) rfl rfl rfl ?_
 refine litVal (v := .slice (some ⟨b, 0, none⟩) l.length c) rfl (wn rfl) (gLoad (v := .slice (some ⟨b, 0, none⟩) l.length c) (k := 6) 0 hm3 rfl (by kernel_rfl) (.tmp 15) (by kernel_rfl) rfl (litEv (by kernel_rfl))) rfl (by decide) ?_
 refine litVal (v := .int .i64 (l.length : Int)) rfl (wn rfl) (lenSlRun (A := some ⟨b, 0, none⟩) (n := l.length) (c := c) (.tmp 16) Ty.und_L_api_Tile rfl (litEv (by kernel_rfl))) rfl (by decide) ?_
 refine litVal (v := .int .i64 ((l.length : Int) + 7)) rfl (wn rfl) (addRun (A := (l.length : Int)) (B := 7) (C := (l.length : Int) + 7) (.tmp 17) (.const (.int .i64 7)) rfl (litEv (by kernel_rfl)) (litEv (by kernel_rfl)) rfl (by omega)) rfl (by decide) ?_
 by_cases h7 : 4096 < ((l.length : Int) + 7)
 · refine litVal (v := .bool true) rfl (wn rfl) (boolTo (decide_eq_true h7) (gtrRun (A := ((l.length : Int) + 7)) (B := 4096) (.tmp 18) (.const (.int .i64 4096)) rfl (litEv (by kernel_rfl)) (litEv (by kernel_rfl)))) rfl (by decide) ?_
   refine plD ?_
   refine then_normal (hK6 _ _ ?_)
   refine wp_cond_true (litEv (by kernel_rfl)) ?_
   refine wp_seq_k fun K8 hK8 => ?_
   refine plStart ?_
   refine lk (v := .int .i64 (-1)) rfl rfl rfl ?_
   refine lk (v := .int .i64 (-1)) rfl rfl rfl ?_
   refine plD ?_
   refine then_normal (hK8 _ _ ?_)
   refine wpPrune [(0, .pointer (some ⟨g, 0, none⟩)), (2, .int .i64 (-1)), (3, .int .i64 (-1)), (4, .int .i64 v.tol)] ⟨litGet (by kernel_rfl), ⟨litGet (by kernel_rfl), ⟨litGet (by kernel_rfl), ⟨litGet (by kernel_rfl), trivial⟩⟩⟩⟩ (fun X9 => ?_)
   refine wp_ret ?_
   refine then_ret ?_
   refine bodyPost_ret (v := .int .i64 (-1)) (gRes1 rfl (gResTmp (t := 2) (v := .int .i64 (-1)) (litGet (by kernel_rfl)))) rfl ?_
   have hz10 := memoWeak 1 hm3 rfl (n + 9 * l.length) (by omega)
   exact ⟨congrArg (fun n_ => Ending.returned (.int .i64 n_)) (by unfold nextP; rw [if_pos (by omega)]), (hz10.sub (.cons_cons _ (.cons_cons _ (.cons_cons _ (List.Sublist.refl _)))))⟩
 refine litVal (v := .bool false) rfl (wn rfl) (boolTo (decide_eq_false h7) (gtrRun (A := ((l.length : Int) + 7)) (B := 4096) (.tmp 18) (.const (.int .i64 4096)) rfl (litEv (by kernel_rfl)) (litEv (by kernel_rfl)))) rfl (by decide) ?_
 refine plD ?_
 refine then_normal (hK6 _ _ ?_)
 refine wp_cond_false (litEv (by kernel_rfl)) ?_
 refine wp_skip ?_
 refine then_normal (hK5 _ _ ?_)
 refine wp_seq_k fun K11 hK11 => ?_
 refine wp_seq_k fun K12 hK12 => ?_
 refine plStart ?_
 refine lk (v := .pointer (some ⟨g, 0, none⟩)) rfl rfl rfl ?_
 refine lk (v := .pointer (some ⟨g, 0, none⟩)) rfl rfl rfl ?_
 refine lk (v := .pointer (some ⟨g, 6, none⟩)) rfl rfl rfl ?_
 refine litVal (v := .slice (some ⟨b, 0, none⟩) l.length c) rfl (wn rfl) (gLoad (v := .slice (some ⟨b, 0, none⟩) l.length c) (k := 6) 0 hm3 rfl (by kernel_rfl) (.tmp 23) (by kernel_rfl) rfl (litEv (by kernel_rfl))) rfl (by decide) ?_
 refine litVal (v := .int .i64 (l.length : Int)) rfl (wn rfl) (lenSlRun (A := some ⟨b, 0, none⟩) (n := l.length) (c := c) (.tmp 24) Ty.und_L_api_Tile rfl (litEv (by kernel_rfl))) rfl (by decide) ?_
 refine lk (v := .int .i64 0) rfl rfl rfl ?_
 refine plD ?_
 refine then_normal (hK12 _ _ ?_)
 refine wpPrune [(0, .pointer (some ⟨g, 0, none⟩)), (2, .int .i64 0), (3, .int .i64 (-1)), (4, .int .i64 v.tol), (24, .slice (some ⟨b, 0, none⟩) l.length c), (25, .int .i64 (l.length : Int)), (26, .int .i64 0)] ⟨litGet (by kernel_rfl), ⟨litGet (by kernel_rfl), ⟨litGet (by kernel_rfl), ⟨litGet (by kernel_rfl), ⟨litGet (by kernel_rfl), ⟨litGet (by kernel_rfl), ⟨litGet (by kernel_rfl), trivial⟩⟩⟩⟩⟩⟩⟩ (fun X13 => ?_)
 refine wp_block ?_
 refine gwLoop (fun n_ a_ w_ => ∃ (k : Nat) (best most : Int), n_ = l.length - k ∧ (k ≤ l.length) ∧ (nextG f v cost k best most (l.drop k) = nextG f v cost 0 (-1) v.tol l) ∧ Fr a_ 65 [(0, .pointer (some ⟨g, 0, none⟩)), (2, .int .i64 0), (3, .int .i64 best), (4, .int .i64 most), (24, .slice (some ⟨b, 0, none⟩) l.length c), (25, .int .i64 (l.length : Int)), (26, .int .i64 (k : Int))] ∧ Mem w0 w_ ((.arr g 78 (plc v (.slice (some ⟨b, 0, none⟩) l.length c) cost (.func (.func vf) first.toArray caps.toArray) gm)) :: (memoR f gm (n + 9 * k)) :: (.row (.slice (some ⟨b, 0, none⟩) l.length c) 38 4 l.length (tlsC l)) :: M)) (l.length - 0) ⟨0, (-1), v.tol, rfl, (Nat.zero_le _), rfl, ⟨litSize, rfl, ⟨litGet (by kernel_rfl), ⟨litGet (by kernel_rfl), ⟨litGet (by kernel_rfl), ⟨litGet (by kernel_rfl), ⟨litGet (by kernel_rfl), ⟨litGet (by kernel_rfl), ⟨litGet (by kernel_rfl), trivial⟩⟩⟩⟩⟩⟩⟩⟩, (memoWeak 1 hm3 rfl (n + 9 * 0) (by omega))⟩ ?_
 clear hm3
 intro n_ a16 w14 hI_
 obtain ⟨k, best, most, rfl, hkl, hinv, hF_, hm15⟩ := hI_
 obtain ⟨X17, rfl⟩ := frLit hF_
 clear hF_
 refine wp_seq_k fun K18 hK18 => ?_
 refine plStart ?_
 by_cases h19 : (k : Int) < (l.length : Int)
 · obtain ⟨t, hkt⟩ : ∃ t, l[k]? = some t := ⟨_, List.getElem?_eq_getElem (by omega)⟩
   have htok : t.Ok := hall t (List.mem_of_getElem? hkt)
   refine litVal (v := .bool true) rfl (wn rfl) (boolTo (decide_eq_true h19) (lssRun (A := (k : Int)) (B := (l.length : Int)) (.tmp 26) (.tmp 25) rfl (litEv (by kernel_rfl)) (litEv (by kernel_rfl)))) rfl (by decide) ?_
   refine plD ?_
   refine then_normal (hK18 _ _ ?_)
   refine wp_seq_k fun K20 hK20 => ?_
   refine wp_cond_true (litEv (by kernel_rfl)) ?_
   refine wp_skip ?_
   refine then_normal (hK20 _ _ ?_)
   refine wp_seq_k fun K21 hK21 => ?_
   refine wp_block ?_
   refine wp_seq_k fun K22 hK22 => ?_
   refine plStart ?_
   refine lk (v := .int .i64 (k : Int)) rfl rfl rfl ?_
   refine litVal (v := .pointer (some ⟨b, 0 + k * 4, none⟩)) rfl (wn rfl) (gIaSl (b := b) (off := 0) (n := l.length) (c := c) (kk := .i64) (K := (k : Int)) (.tmp 24) (.tmp 26) k Ty.sl_L_api_Tile rfl (litEv (by kernel_rfl)) (litEv (by kernel_rfl)) (rfl) (by omega)) rfl (by decide) ?_
   refine litVal (v := .agg (tlc t).toArray) rfl (wn rfl) (gLoadAgRd (vs := tlc t) (m := k * 4) (hm15.rdRow 2 rfl) rfl (fun i_ u_ hu_ => tlsC_get hkt i_ u_ hu_) (by kernel_rfl) (by omega) (.tmp 29) Ty.ag_voxel_api_Tile rfl (litEv (by kernel_rfl))) rfl (by decide) ?_
   refine plAlloc (z := [.int .i64 0, .int .i64 0, .int .i64 0, .int .i64 0]) Ty.ag_voxel_api_Tile hm15 (i := 3) rfl (wn rfl) rfl ?_
   intro g23 w25 hm24
   clear hm15
   try simp only [List.cons_append, List.nil_append, List.set_cons_succ, List.set_cons_zero] at hm24
   replace hm24 := Mem.insAt (M := ((.arr g 78 (plc v (.slice (some ⟨b, 0, none⟩) l.length c) cost (.func (.func vf) first.toArray caps.toArray) gm)) :: (memoR f gm (n + 9 * k)) :: (.row (.slice (some ⟨b, 0, none⟩) l.length c) 38 4 l.length (tlsC l)) :: M)) 3 hm24
   simp only [List.insertIdx_succ_cons, List.insertIdx_zero] at hm24
   refine qP rfl ?_
   refine lk (v := .int .i64 (k : Int)) rfl rfl rfl ?_
   refine plStore 3 Ty.ag_voxel_api_Tile hm24 rfl (i := 5) (cs := tlc t) rfl (wn rfl) rfl (litEv (by kernel_rfl)) (litEv (by kernel_rfl)) rfl rfl (by kernel_rfl) ?_
   intro w27 hm26
   clear hm24
   try simp only [List.cons_append, List.nil_append, List.set_cons_succ, List.set_cons_zero] at hm26
   refine qNone rfl ?_
   refine plD ?_
   refine then_normal (hK22 _ _ ?_)
   refine wp_seq_k fun K28 hK28 => ?_
   refine mgStart hm26 (by kernel_rfl) ?_
   intro w30 hm29
   clear hm26
   refine mk_ (i := 0) (v := .pointer (some ⟨g, 0, none⟩)) rfl rfl (fun _ _ _ h => h) hm29 rfl ?_
   refine mk_ (i := 1) (v := .pointer (some ⟨g, 0, none⟩)) rfl rfl (fun _ _ _ h => h) hm29 rfl ?_
   refine mk_ (i := 2) (v := .pointer (some ⟨g, 0, none⟩)) rfl rfl (fun _ _ _ h => h) hm29 rfl ?_
   refine mgTake (i := 3) (v := .agg (vwc v).toArray) rfl (by kernel_rfl) (wn rfl) (fun _ _ _ h => h) hm29 (fun w_ h_ => gLoadAg (vs := vwc v) (k := 0) 0 h_ rfl (by kernel_rfl) (by kernel_rfl) (.tmp 33) Ty.ag_voxel_api_Viewer rfl (litEv (by kernel_rfl))) ?_
   refine mP rfl ?_
   refine mgTake (i := 4) (v := .agg (tlc t).toArray) rfl (by kernel_rfl) (wn rfl) (fun _ _ _ h => h) hm29 (fun w_ h_ => gLoadAg (vs := tlc t) (k := 0) 3 h_ rfl (by kernel_rfl) (by kernel_rfl) (.tmp 6) Ty.ag_voxel_api_Tile rfl (litEv (by kernel_rfl))) ?_
   refine mP rfl ?_
   refine mgCall (i := 5) 14 [.agg (vwc v).toArray, .agg (tlc t).toArray] [] [] (by kernel_rfl) rfl (by kernel_rfl) (wn rfl) rfl (litEv (by kernel_rfl)) (litArgs (by kernel_rfl)) (err_any v t hv htok _) ?_
   rintro e w31 ⟨rfl, hbz⟩
   have hm32 := hm29.below hbz
   clear hbz hm29
   refine ⟨_, rfl, hm32, ?_⟩
   refine mP rfl ?_
   refine mk_ (i := 6) (v := .int .i64 (err v t)) rfl rfl (fun _ _ _ h => h) hm32 rfl ?_
   refine mgDone (by kernel_rfl) ?_
   refine then_normal (hK28 _ _ ?_)
   refine wp_seq_k fun K33 hK33 => ?_
   refine mgStartM ((.arr g 78 (plc v (.slice (some ⟨b, 0, none⟩) l.length c) cost (.func (.func vf) first.toArray caps.toArray) gm)) :: (.row (.slice (some ⟨b, 0, none⟩) l.length c) 38 4 l.length (tlsC l)) :: (.arr g23 38 (tlc t)) :: M) hm32 (by kernel_rfl) ?_
   intro w35 hm34
   clear hm32
   refine mk_ (i := 0) (v := .pointer (some ⟨g23, 0, none⟩)) rfl rfl (fun _ _ _ h => h) (hm34.sub (.cons_cons _ (.cons _ (.cons_cons _ (.cons_cons _ (List.Sublist.refl _)))))) rfl ?_
   refine mgTake (i := 1) (v := .int .i64 t.lv) rfl (by kernel_rfl) (wn rfl) (fun _ _ _ h => h) (hm34.sub (.cons_cons _ (.cons _ (.cons_cons _ (.cons_cons _ (List.Sublist.refl _)))))) (fun w_ h_ => gLoad (v := .int .i64 t.lv) (k := 0) 2 h_ rfl (by kernel_rfl) (.tmp 37) (by kernel_rfl) rfl (litEv (by kernel_rfl))) ?_
   refine mP rfl ?_
   by_cases h36 : 0 < t.lv
   · refine mgTake (i := 2) (v := .bool true) rfl (by kernel_rfl) (wn rfl) (fun _ _ _ h => h) (hm34.sub (.cons_cons _ (.cons _ (.cons_cons _ (.cons_cons _ (List.Sublist.refl _)))))) (fun w_ h_ => boolTo (decide_eq_true h36) (gtrRun (A := t.lv) (B := 0) (.tmp 38) (.const (.int .i64 0)) rfl (litEv (by kernel_rfl)) (litEv (by kernel_rfl)))) ?_
     refine mP rfl ?_
     refine mk_ (i := 3) (v := .bool true) rfl rfl (fun _ _ _ h => h) (hm34.sub (.cons_cons _ (.cons _ (.cons_cons _ (.cons_cons _ (List.Sublist.refl _)))))) rfl ?_
     refine mgTake (i := 4) (v := .int .i64 (err v t)) rfl (by kernel_rfl) (wgY rfl rfl rfl (by decide) (by kernel_rfl)) (fun _ _ _ h => h) (hm34.sub (.cons_cons _ (.cons _ (.cons_cons _ (.cons_cons _ (List.Sublist.refl _)))))) (fun w_ h_ => litRun (by kernel_rfl)) ?_
     refine mP rfl ?_
     refine mgTake (i := 5) (v := .int .i64 most) rfl (by kernel_rfl) (wgY rfl rfl rfl (by decide) (by kernel_rfl)) (fun _ _ _ h => h) (hm34.sub (.cons_cons _ (.cons _ (.cons_cons _ (.cons_cons _ (List.Sublist.refl _)))))) (fun w_ h_ => litRun (by kernel_rfl)) ?_
     refine mP rfl ?_
     by_cases h37 : most < (err v t)
     · refine mgTake (i := 6) (v := .bool true) rfl (by kernel_rfl) (wgY rfl rfl rfl (by decide) (by kernel_rfl)) (fun _ _ _ h => h) (hm34.sub (.cons_cons _ (.cons _ (.cons_cons _ (.cons_cons _ (List.Sublist.refl _)))))) (fun w_ h_ => boolTo (decide_eq_true h37) (gtrRun (A := (err v t)) (B := most) (.tmp 41) (.tmp 42) rfl (litEv (by kernel_rfl)) (litEv (by kernel_rfl)))) ?_
       refine mP rfl ?_
       refine mk_ (i := 7) (v := .bool true) rfl rfl (fun _ _ _ h => h) (hm34.sub (.cons_cons _ (.cons _ (.cons_cons _ (.cons_cons _ (List.Sublist.refl _)))))) rfl ?_
       refine mk_ (i := 8) (v := .bool true) rfl rfl (fun _ _ _ h => h) (hm34.sub (.cons_cons _ (.cons _ (.cons_cons _ (.cons_cons _ (List.Sublist.refl _)))))) rfl ?_
       refine mgTake (i := 9) (v := .pointer (some ⟨g, 0, none⟩)) rfl (by kernel_rfl) (wgY rfl rfl rfl (by decide) (by kernel_rfl)) (fun _ _ _ h => h) (hm34.sub (.cons_cons _ (.cons _ (.cons_cons _ (.cons_cons _ (List.Sublist.refl _)))))) (fun w_ h_ => litRun (by kernel_rfl)) ?_
       refine mP rfl ?_
       refine mgTake (i := 10) (v := .pointer (some ⟨g, 0, none⟩)) rfl (by kernel_rfl) (wgY rfl rfl rfl (by decide) (by kernel_rfl)) (fun _ _ _ h => h) (hm34.sub (.cons_cons _ (.cons _ (.cons_cons _ (.cons_cons _ (List.Sublist.refl _)))))) (fun w_ h_ => litRun (by kernel_rfl)) ?_
       refine mP rfl ?_
       refine mgTake (i := 11) (v := .pointer (some ⟨g, 7, none⟩)) rfl (by kernel_rfl) (wgY rfl rfl rfl (by decide) (by kernel_rfl)) (fun _ _ _ h => h) (hm34.sub (.cons_cons _ (.cons _ (.cons_cons _ (.cons_cons _ (List.Sublist.refl _)))))) (fun w_ h_ => litRun (by kernel_rfl)) ?_
       refine mP rfl ?_
       refine mgTake (i := 12) (v := .int .i64 cost) rfl (by kernel_rfl) (wgY rfl rfl rfl (by decide) (by kernel_rfl)) (fun _ _ _ h => h) (hm34.sub (.cons_cons _ (.cons _ (.cons_cons _ (.cons_cons _ (List.Sublist.refl _)))))) (fun w_ h_ => gLoad (v := .int .i64 cost) (k := 7) 0 h_ rfl (by kernel_rfl) (.tmp 48) (by kernel_rfl) rfl (litEv (by kernel_rfl))) ?_
       refine mP rfl ?_
       refine mgTake (i := 13) (v := .pointer (some ⟨g, 0, none⟩)) rfl (by kernel_rfl) (wgY rfl rfl rfl (by decide) (by kernel_rfl)) (fun _ _ _ h => h) (hm34.sub (.cons_cons _ (.cons _ (.cons_cons _ (.cons_cons _ (List.Sublist.refl _)))))) (fun w_ h_ => litRun (by kernel_rfl)) ?_
       refine mP rfl ?_
       refine mgTake (i := 14) (v := .agg (tlc t).toArray) rfl (by kernel_rfl) (wgY rfl rfl rfl (by decide) (by kernel_rfl)) (fun _ _ _ h => h) (hm34.sub (.cons_cons _ (.cons _ (.cons_cons _ (.cons_cons _ (List.Sublist.refl _)))))) (fun w_ h_ => gLoadAg (vs := tlc t) (k := 0) 2 h_ rfl (by kernel_rfl) (by kernel_rfl) (.tmp 6) Ty.ag_voxel_api_Tile rfl (litEv (by kernel_rfl))) ?_
       refine mP rfl ?_
       refine mgTake (i := 17) (v := .pointer (some ⟨g, 0, none⟩)) rfl (by kernel_rfl) (wgY rfl rfl rfl (by decide) (by kernel_rfl)) (fun _ _ _ h => h) (hm34.sub (.cons_cons _ (.cons _ (.cons_cons _ (.cons_cons _ (List.Sublist.refl _)))))) (fun w_ h_ => litRun (by kernel_rfl)) ?_
       refine mP rfl ?_
       refine mgTake (i := 18) (v := .pointer (some ⟨g, 0, none⟩)) rfl (by kernel_rfl) (wgY rfl rfl rfl (by decide) (by kernel_rfl)) (fun _ _ _ h => h) (hm34.sub (.cons_cons _ (.cons _ (.cons_cons _ (.cons_cons _ (List.Sublist.refl _)))))) (fun w_ h_ => litRun (by kernel_rfl)) ?_
       refine mP rfl ?_
       refine mgTake (i := 19) (v := .pointer (some ⟨g, 0, none⟩)) rfl (by kernel_rfl) (wgY rfl rfl rfl (by decide) (by kernel_rfl)) (fun _ _ _ h => h) (hm34.sub (.cons_cons _ (.cons _ (.cons_cons _ (.cons_cons _ (List.Sublist.refl _)))))) (fun w_ h_ => litRun (by kernel_rfl)) ?_
       refine mP rfl ?_
       refine mgTake (i := 20) (v := .pointer (some ⟨g, 5, none⟩)) rfl (by kernel_rfl) (wgY rfl rfl rfl (by decide) (by kernel_rfl)) (fun _ _ _ h => h) (hm34.sub (.cons_cons _ (.cons _ (.cons_cons _ (.cons_cons _ (List.Sublist.refl _)))))) (fun w_ h_ => litRun (by kernel_rfl)) ?_
       refine mP rfl ?_
       refine mgTake (i := 21) (v := .int .i64 v.bud) rfl (by kernel_rfl) (wgY rfl rfl rfl (by decide) (by kernel_rfl)) (fun _ _ _ h => h) (hm34.sub (.cons_cons _ (.cons _ (.cons_cons _ (.cons_cons _ (List.Sublist.refl _)))))) (fun w_ h_ => gLoad (v := .int .i64 v.bud) (k := 5) 0 h_ rfl (by kernel_rfl) (.tmp 57) (by kernel_rfl) rfl (litEv (by kernel_rfl))) ?_
       refine mP rfl ?_
       refine mgCall (i := 15) 48 [.pointer (some ⟨g, 0, none⟩), .agg (tlc t).toArray] [] [] (by kernel_rfl) rfl (by kernel_rfl) (wgY rfl rfl rfl (by decide) (by kernel_rfl)) rfl (litEv (by kernel_rfl)) (litArgs (by kernel_rfl)) (pmore_any hp v (.slice (some ⟨b, 0, none⟩) l.length c) cost g gm (n + 9 * k) (by omega) t htok (by omega) hm34) ?_
       rintro e w38 ⟨rfl, hm39⟩
       have hmb_ := hp.more htok (by omega)
       refine ⟨_, rfl, (hm39.sub (.cons_cons _ (.cons _ (.cons_cons _ (.cons_cons _ (List.Sublist.refl _)))))), ?_⟩
       refine mP rfl ?_
       refine mgTake (i := 16) (v := .int .i64 (cost + (moreP f t))) rfl (by kernel_rfl) (wgY rfl rfl rfl (by decide) (by kernel_rfl)) (fun _ _ _ h => h) (hm39.sub (.cons_cons _ (.cons _ (.cons_cons _ (.cons_cons _ (List.Sublist.refl _)))))) (fun w_ h_ => addRun (A := cost) (B := (moreP f t)) (C := cost + (moreP f t)) (.tmp 49) (.tmp 52) rfl (litEv (by kernel_rfl)) (litEv (by kernel_rfl)) rfl (by omega)) ?_
       refine mP rfl ?_
       by_cases h40 : (cost + (moreP f t)) ≤ v.bud
       · refine mgTake (i := 22) (v := .bool true) rfl (by kernel_rfl) (wgY rfl rfl rfl (by decide) (by kernel_rfl)) (fun _ _ _ h => h) (hm39.sub (.cons_cons _ (.cons _ (.cons_cons _ (.cons_cons _ (List.Sublist.refl _)))))) (fun w_ h_ => boolTo (decide_eq_true h40) (leqRun (A := (cost + (moreP f t))) (B := v.bud) (.tmp 53) (.tmp 58) rfl (litEv (by kernel_rfl)) (litEv (by kernel_rfl)))) ?_
         refine mP rfl ?_
         refine mk_ (i := 23) (v := .bool true) rfl rfl (fun _ _ _ h => h) (hm39.sub (.cons_cons _ (.cons _ (.cons_cons _ (.cons_cons _ (List.Sublist.refl _)))))) rfl ?_
         refine mgDone (by kernel_rfl) ?_
         refine then_normal (hK33 _ _ ?_)
         refine wp_cond_true (litEv (by kernel_rfl)) ?_
         refine plStart ?_
         refine lk (v := .int .i64 (k : Int)) rfl rfl rfl ?_
         refine lk (v := .int .i64 (err v t)) rfl rfl rfl ?_
         refine lk (v := .int .i64 (k : Int)) rfl rfl rfl ?_
         refine lk (v := .int .i64 (err v t)) rfl rfl rfl ?_
         refine plD ?_
         refine inBlock_normal ?_
         refine then_normal (hK21 _ _ ?_)
         refine plStart ?_
         refine litVal (v := .int .i64 ((k : Int) + 1)) rfl (wn rfl) (addRun (A := (k : Int)) (B := 1) (C := (k : Int) + 1) (.tmp 26) (.const (.int .i64 1)) rfl (litEv (by kernel_rfl)) (litEv (by kernel_rfl)) rfl (by omega)) rfl (by decide) ?_
         refine lk (v := .int .i64 ((k : Int) + 1)) rfl rfl rfl ?_
         refine plD ?_
         refine then_normal ?_
         exact ⟨_, by omega, (k + 1), _, _, rfl, (by omega), (nextG_yes hkt hinv h36 h37 h40), ⟨litSize, rfl, ⟨litGet (by kernel_rfl), ⟨litGet (by kernel_rfl), ⟨litGet (by kernel_rfl), ⟨litGet (by kernel_rfl), ⟨litGet (by kernel_rfl), ⟨litGet (by kernel_rfl), ⟨litGet (by kernel_rfl), trivial⟩⟩⟩⟩⟩⟩⟩⟩, ((memoWeak 1 hm39 rfl (n + 9 * (k + 1)) (by omega)).sub (.cons_cons _ (.cons_cons _ (.cons_cons _ (.cons _ (List.Sublist.refl _))))))⟩
       refine mgTake (i := 22) (v := .bool false) rfl (by kernel_rfl) (wgY rfl rfl rfl (by decide) (by kernel_rfl)) (fun _ _ _ h => h) (hm39.sub (.cons_cons _ (.cons _ (.cons_cons _ (.cons_cons _ (List.Sublist.refl _)))))) (fun w_ h_ => boolTo (decide_eq_false h40) (leqRun (A := (cost + (moreP f t))) (B := v.bud) (.tmp 53) (.tmp 58) rfl (litEv (by kernel_rfl)) (litEv (by kernel_rfl)))) ?_
       refine mP rfl ?_
       refine mk_ (i := 23) (v := .bool false) rfl rfl (fun _ _ _ h => h) (hm39.sub (.cons_cons _ (.cons _ (.cons_cons _ (.cons_cons _ (List.Sublist.refl _)))))) rfl ?_
       refine mgDone (by kernel_rfl) ?_
       refine then_normal (hK33 _ _ ?_)
       refine wp_cond_false (litEv (by kernel_rfl)) ?_
       refine wp_skip ?_
       refine inBlock_normal ?_
       refine then_normal (hK21 _ _ ?_)
       refine plStart ?_
       refine litVal (v := .int .i64 ((k : Int) + 1)) rfl (wn rfl) (addRun (A := (k : Int)) (B := 1) (C := (k : Int) + 1) (.tmp 26) (.const (.int .i64 1)) rfl (litEv (by kernel_rfl)) (litEv (by kernel_rfl)) rfl (by omega)) rfl (by decide) ?_
       refine lk (v := .int .i64 ((k : Int) + 1)) rfl rfl rfl ?_
       refine plD ?_
       refine then_normal ?_
       exact ⟨_, by omega, (k + 1), best, most, rfl, (by omega), (nextG_no hkt hinv (fun h_ => h40 h_.2.2)), ⟨litSize, rfl, ⟨litGet (by kernel_rfl), ⟨litGet (by kernel_rfl), ⟨litGet (by kernel_rfl), ⟨litGet (by kernel_rfl), ⟨litGet (by kernel_rfl), ⟨litGet (by kernel_rfl), ⟨litGet (by kernel_rfl), trivial⟩⟩⟩⟩⟩⟩⟩⟩, ((memoWeak 1 hm39 rfl (n + 9 * (k + 1)) (by omega)).sub (.cons_cons _ (.cons_cons _ (.cons_cons _ (.cons _ (List.Sublist.refl _))))))⟩
     refine mgTake (i := 6) (v := .bool false) rfl (by kernel_rfl) (wgY rfl rfl rfl (by decide) (by kernel_rfl)) (fun _ _ _ h => h) (hm34.sub (.cons_cons _ (.cons _ (.cons_cons _ (.cons_cons _ (List.Sublist.refl _)))))) (fun w_ h_ => boolTo (decide_eq_false h37) (gtrRun (A := (err v t)) (B := most) (.tmp 41) (.tmp 42) rfl (litEv (by kernel_rfl)) (litEv (by kernel_rfl)))) ?_
     refine mP rfl ?_
     refine mk_ (i := 7) (v := .bool false) rfl rfl (fun _ _ _ h => h) (hm34.sub (.cons_cons _ (.cons _ (.cons_cons _ (.cons_cons _ (List.Sublist.refl _)))))) rfl ?_
     refine mk_ (i := 8) (v := .bool false) rfl rfl (fun _ _ _ h => h) (hm34.sub (.cons_cons _ (.cons _ (.cons_cons _ (.cons_cons _ (List.Sublist.refl _)))))) rfl ?_
     refine mgSkip (i := 9) rfl (by kernel_rfl) (wgN rfl rfl rfl (by decide) (by kernel_rfl)) (fun _ _ _ h => h) (hm34.sub (.cons_cons _ (.cons _ (.cons_cons _ (.cons_cons _ (List.Sublist.refl _)))))) ?_
     refine mP rfl ?_
     refine mgSkip (i := 10) rfl (by kernel_rfl) (wgN rfl rfl rfl (by decide) (by kernel_rfl)) (fun _ _ _ h => h) (hm34.sub (.cons_cons _ (.cons _ (.cons_cons _ (.cons_cons _ (List.Sublist.refl _)))))) ?_
     refine mP rfl ?_
     refine mgSkip (i := 11) rfl (by kernel_rfl) (wgN rfl rfl rfl (by decide) (by kernel_rfl)) (fun _ _ _ h => h) (hm34.sub (.cons_cons _ (.cons _ (.cons_cons _ (.cons_cons _ (List.Sublist.refl _)))))) ?_
     refine mP rfl ?_
     refine mgSkip (i := 12) rfl (by kernel_rfl) (wgN rfl rfl rfl (by decide) (by kernel_rfl)) (fun _ _ _ h => h) (hm34.sub (.cons_cons _ (.cons _ (.cons_cons _ (.cons_cons _ (List.Sublist.refl _)))))) ?_
     refine mP rfl ?_
     refine mgSkip (i := 13) rfl (by kernel_rfl) (wgN rfl rfl rfl (by decide) (by kernel_rfl)) (fun _ _ _ h => h) (hm34.sub (.cons_cons _ (.cons _ (.cons_cons _ (.cons_cons _ (List.Sublist.refl _)))))) ?_
     refine mP rfl ?_
     refine mgSkip (i := 14) rfl (by kernel_rfl) (wgN rfl rfl rfl (by decide) (by kernel_rfl)) (fun _ _ _ h => h) (hm34.sub (.cons_cons _ (.cons _ (.cons_cons _ (.cons_cons _ (List.Sublist.refl _)))))) ?_
     refine mP rfl ?_
     refine mgSkip (i := 15) rfl (by kernel_rfl) (wgN rfl rfl rfl (by decide) (by kernel_rfl)) (fun _ _ _ h => h) (hm34.sub (.cons_cons _ (.cons _ (.cons_cons _ (.cons_cons _ (List.Sublist.refl _)))))) ?_
     refine mP rfl ?_
     refine mgSkip (i := 16) rfl (by kernel_rfl) (wgN rfl rfl rfl (by decide) (by kernel_rfl)) (fun _ _ _ h => h) (hm34.sub (.cons_cons _ (.cons _ (.cons_cons _ (.cons_cons _ (List.Sublist.refl _)))))) ?_
     refine mP rfl ?_
     refine mgSkip (i := 17) rfl (by kernel_rfl) (wgN rfl rfl rfl (by decide) (by kernel_rfl)) (fun _ _ _ h => h) (hm34.sub (.cons_cons _ (.cons _ (.cons_cons _ (.cons_cons _ (List.Sublist.refl _)))))) ?_
     refine mP rfl ?_
     refine mgSkip (i := 18) rfl (by kernel_rfl) (wgN rfl rfl rfl (by decide) (by kernel_rfl)) (fun _ _ _ h => h) (hm34.sub (.cons_cons _ (.cons _ (.cons_cons _ (.cons_cons _ (List.Sublist.refl _)))))) ?_
     refine mP rfl ?_
     refine mgSkip (i := 19) rfl (by kernel_rfl) (wgN rfl rfl rfl (by decide) (by kernel_rfl)) (fun _ _ _ h => h) (hm34.sub (.cons_cons _ (.cons _ (.cons_cons _ (.cons_cons _ (List.Sublist.refl _)))))) ?_
     refine mP rfl ?_
     refine mgSkip (i := 20) rfl (by kernel_rfl) (wgN rfl rfl rfl (by decide) (by kernel_rfl)) (fun _ _ _ h => h) (hm34.sub (.cons_cons _ (.cons _ (.cons_cons _ (.cons_cons _ (List.Sublist.refl _)))))) ?_
     refine mP rfl ?_
     refine mgSkip (i := 21) rfl (by kernel_rfl) (wgN rfl rfl rfl (by decide) (by kernel_rfl)) (fun _ _ _ h => h) (hm34.sub (.cons_cons _ (.cons _ (.cons_cons _ (.cons_cons _ (List.Sublist.refl _)))))) ?_
     refine mP rfl ?_
     refine mgSkip (i := 22) rfl (by kernel_rfl) (wgN rfl rfl rfl (by decide) (by kernel_rfl)) (fun _ _ _ h => h) (hm34.sub (.cons_cons _ (.cons _ (.cons_cons _ (.cons_cons _ (List.Sublist.refl _)))))) ?_
     refine mP rfl ?_
     refine mk_ (i := 23) (v := .bool false) rfl rfl (fun _ _ _ h => h) (hm34.sub (.cons_cons _ (.cons _ (.cons_cons _ (.cons_cons _ (List.Sublist.refl _)))))) rfl ?_
     refine mgDone (by kernel_rfl) ?_
     refine then_normal (hK33 _ _ ?_)
     refine wpPrune [(0, .pointer (some ⟨g, 0, none⟩)), (2, .int .i64 0), (3, .int .i64 best), (4, .int .i64 most), (5, .int .i64 (k : Int)), (6, .pointer (some ⟨g23, 0, none⟩)), (7, .int .i64 (err v t)), (24, .slice (some ⟨b, 0, none⟩) l.length c), (25, .int .i64 (l.length : Int)), (26, .int .i64 (k : Int)), (27, .bool true), (28, .int .i64 (k : Int)), (29, .pointer (some ⟨b, 0 + k * 4, none⟩)), (30, .agg (tlc t).toArray), (31, .pointer (some ⟨g, 0, none⟩)), (32, .pointer (some ⟨g, 0, none⟩)), (33, .pointer (some ⟨g, 0, none⟩)), (34, .agg (vwc v).toArray), (35, .agg (tlc t).toArray), (36, .int .i64 (err v t)), (37, .pointer (some ⟨g23, 0, none⟩)), (38, .int .i64 t.lv), (39, .bool true), (40, .bool true), (41, .int .i64 (err v t)), (42, .int .i64 most), (43, .bool false), (44, .bool false), (45, .bool false), (60, .bool false)] ⟨litGet (by kernel_rfl), ⟨litGet (by kernel_rfl), ⟨litGet (by kernel_rfl), ⟨litGet (by kernel_rfl), ⟨litGet (by kernel_rfl), ⟨litGet (by kernel_rfl), ⟨litGet (by kernel_rfl), ⟨litGet (by kernel_rfl), ⟨litGet (by kernel_rfl), ⟨litGet (by kernel_rfl), ⟨litGet (by kernel_rfl), ⟨litGet (by kernel_rfl), ⟨litGet (by kernel_rfl), ⟨litGet (by kernel_rfl), ⟨litGet (by kernel_rfl), ⟨litGet (by kernel_rfl), ⟨litGet (by kernel_rfl), ⟨litGet (by kernel_rfl), ⟨litGet (by kernel_rfl), ⟨litGet (by kernel_rfl), ⟨litGet (by kernel_rfl), ⟨litGet (by kernel_rfl), ⟨litGet (by kernel_rfl), ⟨litGet (by kernel_rfl), ⟨litGet (by kernel_rfl), ⟨litGet (by kernel_rfl), ⟨litGet (by kernel_rfl), ⟨litGet (by kernel_rfl), ⟨litGet (by kernel_rfl), ⟨litGet (by kernel_rfl), trivial⟩⟩⟩⟩⟩⟩⟩⟩⟩⟩⟩⟩⟩⟩⟩⟩⟩⟩⟩⟩⟩⟩⟩⟩⟩⟩⟩⟩⟩⟩ (fun X41 => ?_)
     refine wp_cond_false (litEv (by kernel_rfl)) ?_
     refine wp_skip ?_
     refine inBlock_normal ?_
     refine then_normal (hK21 _ _ ?_)
     refine plStart ?_
     refine litVal (v := .int .i64 ((k : Int) + 1)) rfl (wn rfl) (addRun (A := (k : Int)) (B := 1) (C := (k : Int) + 1) (.tmp 26) (.const (.int .i64 1)) rfl (litEv (by kernel_rfl)) (litEv (by kernel_rfl)) rfl (by omega)) rfl (by decide) ?_
     refine lk (v := .int .i64 ((k : Int) + 1)) rfl rfl rfl ?_
     refine plD ?_
     refine then_normal ?_
     exact ⟨_, by omega, (k + 1), best, most, rfl, (by omega), (nextG_no hkt hinv (fun h_ => h37 h_.2.1)), ⟨litSize, rfl, ⟨litGet (by kernel_rfl), ⟨litGet (by kernel_rfl), ⟨litGet (by kernel_rfl), ⟨litGet (by kernel_rfl), ⟨litGet (by kernel_rfl), ⟨litGet (by kernel_rfl), ⟨litGet (by kernel_rfl), trivial⟩⟩⟩⟩⟩⟩⟩⟩, ((memoWeak 1 hm34 rfl (n + 9 * (k + 1)) (by omega)).sub (.cons_cons _ (.cons_cons _ (.cons_cons _ (.cons _ (List.Sublist.refl _))))))⟩
   refine mgTake (i := 2) (v := .bool false) rfl (by kernel_rfl) (wn rfl) (fun _ _ _ h => h) (hm34.sub (.cons_cons _ (.cons _ (.cons_cons _ (.cons_cons _ (List.Sublist.refl _)))))) (fun w_ h_ => boolTo (decide_eq_false h36) (gtrRun (A := t.lv) (B := 0) (.tmp 38) (.const (.int .i64 0)) rfl (litEv (by kernel_rfl)) (litEv (by kernel_rfl)))) ?_
   refine mP rfl ?_
   refine mk_ (i := 3) (v := .bool false) rfl rfl (fun _ _ _ h => h) (hm34.sub (.cons_cons _ (.cons _ (.cons_cons _ (.cons_cons _ (List.Sublist.refl _)))))) rfl ?_
   refine mgSkip (i := 4) rfl (by kernel_rfl) (wgN rfl rfl rfl (by decide) (by kernel_rfl)) (fun _ _ _ h => h) (hm34.sub (.cons_cons _ (.cons _ (.cons_cons _ (.cons_cons _ (List.Sublist.refl _)))))) ?_
   refine mP rfl ?_
   refine mgSkip (i := 5) rfl (by kernel_rfl) (wgN rfl rfl rfl (by decide) (by kernel_rfl)) (fun _ _ _ h => h) (hm34.sub (.cons_cons _ (.cons _ (.cons_cons _ (.cons_cons _ (List.Sublist.refl _)))))) ?_
   refine mP rfl ?_
   refine mgSkip (i := 6) rfl (by kernel_rfl) (wgN rfl rfl rfl (by decide) (by kernel_rfl)) (fun _ _ _ h => h) (hm34.sub (.cons_cons _ (.cons _ (.cons_cons _ (.cons_cons _ (List.Sublist.refl _)))))) ?_
   refine mP rfl ?_
   refine mk_ (i := 7) (v := .bool false) rfl rfl (fun _ _ _ h => h) (hm34.sub (.cons_cons _ (.cons _ (.cons_cons _ (.cons_cons _ (List.Sublist.refl _)))))) rfl ?_
   refine mk_ (i := 8) (v := .bool false) rfl rfl (fun _ _ _ h => h) (hm34.sub (.cons_cons _ (.cons _ (.cons_cons _ (.cons_cons _ (List.Sublist.refl _)))))) rfl ?_
   refine mgSkip (i := 9) rfl (by kernel_rfl) (wgN rfl rfl rfl (by decide) (by kernel_rfl)) (fun _ _ _ h => h) (hm34.sub (.cons_cons _ (.cons _ (.cons_cons _ (.cons_cons _ (List.Sublist.refl _)))))) ?_
   refine mP rfl ?_
   refine mgSkip (i := 10) rfl (by kernel_rfl) (wgN rfl rfl rfl (by decide) (by kernel_rfl)) (fun _ _ _ h => h) (hm34.sub (.cons_cons _ (.cons _ (.cons_cons _ (.cons_cons _ (List.Sublist.refl _)))))) ?_
   refine mP rfl ?_
   refine mgSkip (i := 11) rfl (by kernel_rfl) (wgN rfl rfl rfl (by decide) (by kernel_rfl)) (fun _ _ _ h => h) (hm34.sub (.cons_cons _ (.cons _ (.cons_cons _ (.cons_cons _ (List.Sublist.refl _)))))) ?_
   refine mP rfl ?_
   refine mgSkip (i := 12) rfl (by kernel_rfl) (wgN rfl rfl rfl (by decide) (by kernel_rfl)) (fun _ _ _ h => h) (hm34.sub (.cons_cons _ (.cons _ (.cons_cons _ (.cons_cons _ (List.Sublist.refl _)))))) ?_
   refine mP rfl ?_
   refine mgSkip (i := 13) rfl (by kernel_rfl) (wgN rfl rfl rfl (by decide) (by kernel_rfl)) (fun _ _ _ h => h) (hm34.sub (.cons_cons _ (.cons _ (.cons_cons _ (.cons_cons _ (List.Sublist.refl _)))))) ?_
   refine mP rfl ?_
   refine mgSkip (i := 14) rfl (by kernel_rfl) (wgN rfl rfl rfl (by decide) (by kernel_rfl)) (fun _ _ _ h => h) (hm34.sub (.cons_cons _ (.cons _ (.cons_cons _ (.cons_cons _ (List.Sublist.refl _)))))) ?_
   refine mP rfl ?_
   refine mgSkip (i := 15) rfl (by kernel_rfl) (wgN rfl rfl rfl (by decide) (by kernel_rfl)) (fun _ _ _ h => h) (hm34.sub (.cons_cons _ (.cons _ (.cons_cons _ (.cons_cons _ (List.Sublist.refl _)))))) ?_
   refine mP rfl ?_
   refine mgSkip (i := 16) rfl (by kernel_rfl) (wgN rfl rfl rfl (by decide) (by kernel_rfl)) (fun _ _ _ h => h) (hm34.sub (.cons_cons _ (.cons _ (.cons_cons _ (.cons_cons _ (List.Sublist.refl _)))))) ?_
   refine mP rfl ?_
   refine mgSkip (i := 17) rfl (by kernel_rfl) (wgN rfl rfl rfl (by decide) (by kernel_rfl)) (fun _ _ _ h => h) (hm34.sub (.cons_cons _ (.cons _ (.cons_cons _ (.cons_cons _ (List.Sublist.refl _)))))) ?_
   refine mP rfl ?_
   refine mgSkip (i := 18) rfl (by kernel_rfl) (wgN rfl rfl rfl (by decide) (by kernel_rfl)) (fun _ _ _ h => h) (hm34.sub (.cons_cons _ (.cons _ (.cons_cons _ (.cons_cons _ (List.Sublist.refl _)))))) ?_
   refine mP rfl ?_
   refine mgSkip (i := 19) rfl (by kernel_rfl) (wgN rfl rfl rfl (by decide) (by kernel_rfl)) (fun _ _ _ h => h) (hm34.sub (.cons_cons _ (.cons _ (.cons_cons _ (.cons_cons _ (List.Sublist.refl _)))))) ?_
   refine mP rfl ?_
   refine mgSkip (i := 20) rfl (by kernel_rfl) (wgN rfl rfl rfl (by decide) (by kernel_rfl)) (fun _ _ _ h => h) (hm34.sub (.cons_cons _ (.cons _ (.cons_cons _ (.cons_cons _ (List.Sublist.refl _)))))) ?_
   refine mP rfl ?_
   refine mgSkip (i := 21) rfl (by kernel_rfl) (wgN rfl rfl rfl (by decide) (by kernel_rfl)) (fun _ _ _ h => h) (hm34.sub (.cons_cons _ (.cons _ (.cons_cons _ (.cons_cons _ (List.Sublist.refl _)))))) ?_
   refine mP rfl ?_
   refine mgSkip (i := 22) rfl (by kernel_rfl) (wgN rfl rfl rfl (by decide) (by kernel_rfl)) (fun _ _ _ h => h) (hm34.sub (.cons_cons _ (.cons _ (.cons_cons _ (.cons_cons _ (List.Sublist.refl _)))))) ?_
   refine mP rfl ?_
   refine mk_ (i := 23) (v := .bool false) rfl rfl (fun _ _ _ h => h) (hm34.sub (.cons_cons _ (.cons _ (.cons_cons _ (.cons_cons _ (List.Sublist.refl _)))))) rfl ?_
   refine mgDone (by kernel_rfl) ?_
   refine then_normal (hK33 _ _ ?_)
   refine wpPrune [(0, .pointer (some ⟨g, 0, none⟩)), (2, .int .i64 0), (3, .int .i64 best), (4, .int .i64 most), (5, .int .i64 (k : Int)), (6, .pointer (some ⟨g23, 0, none⟩)), (7, .int .i64 (err v t)), (24, .slice (some ⟨b, 0, none⟩) l.length c), (25, .int .i64 (l.length : Int)), (26, .int .i64 (k : Int)), (27, .bool true), (28, .int .i64 (k : Int)), (29, .pointer (some ⟨b, 0 + k * 4, none⟩)), (30, .agg (tlc t).toArray), (31, .pointer (some ⟨g, 0, none⟩)), (32, .pointer (some ⟨g, 0, none⟩)), (33, .pointer (some ⟨g, 0, none⟩)), (34, .agg (vwc v).toArray), (35, .agg (tlc t).toArray), (36, .int .i64 (err v t)), (37, .pointer (some ⟨g23, 0, none⟩)), (38, .int .i64 t.lv), (39, .bool false), (40, .bool false), (44, .bool false), (45, .bool false), (60, .bool false)] ⟨litGet (by kernel_rfl), ⟨litGet (by kernel_rfl), ⟨litGet (by kernel_rfl), ⟨litGet (by kernel_rfl), ⟨litGet (by kernel_rfl), ⟨litGet (by kernel_rfl), ⟨litGet (by kernel_rfl), ⟨litGet (by kernel_rfl), ⟨litGet (by kernel_rfl), ⟨litGet (by kernel_rfl), ⟨litGet (by kernel_rfl), ⟨litGet (by kernel_rfl), ⟨litGet (by kernel_rfl), ⟨litGet (by kernel_rfl), ⟨litGet (by kernel_rfl), ⟨litGet (by kernel_rfl), ⟨litGet (by kernel_rfl), ⟨litGet (by kernel_rfl), ⟨litGet (by kernel_rfl), ⟨litGet (by kernel_rfl), ⟨litGet (by kernel_rfl), ⟨litGet (by kernel_rfl), ⟨litGet (by kernel_rfl), ⟨litGet (by kernel_rfl), ⟨litGet (by kernel_rfl), ⟨litGet (by kernel_rfl), ⟨litGet (by kernel_rfl), trivial⟩⟩⟩⟩⟩⟩⟩⟩⟩⟩⟩⟩⟩⟩⟩⟩⟩⟩⟩⟩⟩⟩⟩⟩⟩⟩⟩ (fun X42 => ?_)
   refine wp_cond_false (litEv (by kernel_rfl)) ?_
   refine wp_skip ?_
   refine inBlock_normal ?_
   refine then_normal (hK21 _ _ ?_)
   refine plStart ?_
   refine litVal (v := .int .i64 ((k : Int) + 1)) rfl (wn rfl) (addRun (A := (k : Int)) (B := 1) (C := (k : Int) + 1) (.tmp 26) (.const (.int .i64 1)) rfl (litEv (by kernel_rfl)) (litEv (by kernel_rfl)) rfl (by omega)) rfl (by decide) ?_
   refine lk (v := .int .i64 ((k : Int) + 1)) rfl rfl rfl ?_
   refine plD ?_
   refine then_normal ?_
   exact ⟨_, by omega, (k + 1), best, most, rfl, (by omega), (nextG_no hkt hinv (fun h_ => h36 h_.1)), ⟨litSize, rfl, ⟨litGet (by kernel_rfl), ⟨litGet (by kernel_rfl), ⟨litGet (by kernel_rfl), ⟨litGet (by kernel_rfl), ⟨litGet (by kernel_rfl), ⟨litGet (by kernel_rfl), ⟨litGet (by kernel_rfl), trivial⟩⟩⟩⟩⟩⟩⟩⟩, ((memoWeak 1 hm34 rfl (n + 9 * (k + 1)) (by omega)).sub (.cons_cons _ (.cons_cons _ (.cons_cons _ (.cons _ (List.Sublist.refl _))))))⟩
 refine litVal (v := .bool false) rfl (wn rfl) (boolTo (decide_eq_false h19) (lssRun (A := (k : Int)) (B := (l.length : Int)) (.tmp 26) (.tmp 25) rfl (litEv (by kernel_rfl)) (litEv (by kernel_rfl)))) rfl (by decide) ?_
 refine plD ?_
 refine then_normal (hK18 _ _ ?_)
 refine wp_seq_k fun K43 hK43 => ?_
 refine wp_cond_false (litEv (by kernel_rfl)) ?_
 refine wp_exit ?_
 refine then_exit ?_
 refine then_exit ?_
 refine inBlock_exit ?_
 refine then_normal (hK11 _ _ ?_)
 refine wp_seq_k fun K44 hK44 => ?_
 refine plStart ?_
 refine lk (v := .int .i64 best) rfl rfl rfl ?_
 refine lk (v := .int .i64 best) rfl rfl rfl ?_
 refine plD ?_
 refine then_normal (hK44 _ _ ?_)
 refine wp_ret ?_
 refine bodyPost_ret (v := .int .i64 best) (gRes1 rfl (gResTmp (t := 2) (v := .int .i64 best) (litGet (by kernel_rfl)))) rfl ?_
 have hz45 := memoWeak 1 hm15 rfl (n + 9 * l.length) (by omega)
 exact ⟨congrArg (fun n_ => Ending.returned (.int .i64 n_)) (by unfold nextP; rw [if_neg (by omega), ← hinv, List.drop_of_length_le (by omega)]; rfl), (hz45.sub (.cons_cons _ (.cons_cons _ (.cons_cons _ (List.Sublist.refl _)))))⟩
end Go.Proofs.Ytkmhjgdpkddbnaa
namespace Go.Proofs.Ytkmhjgdpkddbnaa
open Go.RowKit
set_option linter.unusedVariables false
set_option linter.unusedSimpArgs false
set_option maxRecDepth 100000 in
set_option maxHeartbeats 4000000 in
theorem plan_any {f : Tl → Int} {vf : FuncId} {first caps : List Value} (depth : Int) (v : Vw) (w : World) (hp : Price f vf first caps w) : Calls Try.prog 23 #[.int .i64 depth, .agg (vwc v).toArray, .func (.func vf) first.toArray caps.toArray] w (fun e w' => ∃ S, e = .returned (.tuple #[.agg (plnC S (planR f depth v)).toArray, .int .i64 (planE f depth v)]) ∧ w'.ownsRow w.heap.size 38 4 S (planR f depth v).tiles.length (tlsC (planR f depth v).tiles) ∧ Below w.heap.size w w') := by
 have hm0 := Mem.nil w
 go_enter Try.func23, Try.ntmps23
 refine litStart 117 [(0, .int .i64 depth), (1, .agg (vwc v).toArray), (2, .func (.func vf) first.toArray caps.toArray)] (by kernel_rfl) (fun X0 => ?_)
 refine wp_seq_k fun K1 hK1 => ?_
 refine plStart ?_
 refine plBox hm0 (cs := vwc v) (i := 0) rfl (wn rfl) rfl (litEv (by kernel_rfl)) ?_
 intro g2 w4 hm3
 clear hm0
 try simp only [List.cons_append, List.nil_append, List.set_cons_succ, List.set_cons_zero] at hm3
 refine qP rfl ?_
 refine plAlloc (z := [.slice none 0 0, .int .i64 0, .int .i64 0, .int .i64 0]) Ty.ag_voxel_api_Planned hm3 (i := 1) rfl (wn rfl) rfl ?_
 intro g5 w7 hm6
 clear hm3
 try simp only [List.cons_append, List.nil_append, List.set_cons_succ, List.set_cons_zero] at hm6
 refine qP rfl ?_
 refine lk (v := .int .i64 0) rfl rfl rfl ?_
 refine plD ?_
 refine then_normal (hK1 _ _ ?_)
 refine wp_seq_k fun K8 hK8 => ?_
 refine wp_seq_k fun K9 hK9 => ?_
 refine plStart ?_
 refine lk (v := .int .i64 depth) rfl rfl rfl ?_
 refine plCall (i := 1) 32 [.int .i64 depth, .int .i64 2, .int .i64 14] [] [] rfl (by kernel_rfl) (wn rfl) rfl (litEv (by kernel_rfl)) (litArgs (by kernel_rfl)) (within_any depth 2 14 _) ?_
 rintro e w10 ⟨rfl, hbz⟩
 have hm11 := hm6.below hbz
 clear hbz hm6
 refine ⟨_, rfl, ?_⟩
 refine qP rfl ?_
 rcases bool_or (decide (2 ≤ depth ∧ depth ≤ 14)) with h12 | h12
 · rw [h12]
   have hd_ := of_decide_eq_false h12
   refine lk (v := .bool true) rfl rfl rfl ?_
   refine plD ?_
   refine then_normal (hK9 _ _ ?_)
   refine wp_cond_true (litEv (by kernel_rfl)) ?_
   refine wp_seq_k fun K13 hK13 => ?_
   refine plStart ?_
   refine lk (v := .agg ([.slice none 0 0, .int .i64 0, .int .i64 0, .int .i64 0]).toArray) rfl rfl rfl ?_
   refine plStore 1 Ty.ag_voxel_api_Planned hm11 rfl (i := 1) (cs := [.slice none 0 0, .int .i64 0, .int .i64 0, .int .i64 0]) rfl (wn rfl) rfl (litEv (by kernel_rfl)) (litEv (by kernel_rfl)) rfl rfl (by kernel_rfl) ?_
   intro w15 hm14
   clear hm11
   try simp only [List.cons_append, List.nil_append, List.set_cons_succ, List.set_cons_zero] at hm14
   refine qNone rfl ?_
   refine lk (v := .int .i64 13) rfl rfl rfl ?_
   refine plD ?_
   refine then_normal (hK13 _ _ ?_)
   refine wp_ret ?_
   refine then_ret ?_
   refine bodyPost_ret (v := .tuple #[.agg ([.slice none 0 0, .int .i64 0, .int .i64 0, .int .i64 0]).toArray, .int .i64 13]) (gRes2 rfl (gResAg (cs := [.slice none 0 0, .int .i64 0, .int .i64 0, .int .i64 0]) 1 hm14 rfl Ty.ag_voxel_api_Planned rfl (litGet (by kernel_rfl))) (gResTmp (t := 7) (v := .int .i64 13) (litGet (by kernel_rfl)))) rfl ?_
   have hE_ : planE f depth v = 13 := planE_13 hd_
   have hR_ := planR_no (f := f) (depth := depth) (v := v) (by rw [hE_]; decide)
   refine ⟨.slice none 0 0, ?_, ?_, hm14.bel⟩
   · rw [hR_, hE_]
     rfl
   · rw [hR_]
     exact Mem.row (Mem.nilRow hm14 38 4) 2 rfl
 rw [h12]
 have hd_ := of_decide_eq_true h12
 refine lk (v := .bool false) rfl rfl rfl ?_
 refine plD ?_
 refine then_normal (hK9 _ _ ?_)
 refine wp_cond_false (litEv (by kernel_rfl)) ?_
 refine wp_skip ?_
 refine then_normal (hK8 _ _ ?_)
 refine wp_seq_k fun K16 hK16 => ?_
 refine wp_seq_k fun K17 hK17 => ?_
 refine plStart ?_
 refine litVal (v := .agg (vwc v).toArray) rfl (wn rfl) (gLoadAg (vs := vwc v) (k := 0) 0 hm11 rfl (by kernel_rfl) (by kernel_rfl) (.tmp 4) Ty.ag_voxel_api_Viewer rfl (litEv (by kernel_rfl))) rfl (by decide) ?_
 refine plCall (i := 1) 12 [.agg (vwc v).toArray] [] [] rfl (by kernel_rfl) (wn rfl) rfl (litEv (by kernel_rfl)) (litArgs (by kernel_rfl)) (check_any v _) ?_
 rintro e w18 ⟨rfl, hbz⟩
 have hm19 := hm11.below hbz
 clear hbz hm11
 refine ⟨_, rfl, ?_⟩
 refine qP rfl ?_
 refine lk (v := .int .i64 (ckV v)) rfl rfl rfl ?_
 refine plD ?_
 refine then_normal (hK17 _ _ ?_)
 refine wp_seq_k fun K20 hK20 => ?_
 refine plStart ?_
 refine lk (v := .int .i64 (ckV v)) rfl rfl rfl ?_
 by_cases h21 : (ckV v) = 0
 · have hv_ : ckV v = 0 := h21
   refine litVal (v := .bool false) rfl (wn rfl) (boolTo (by rw [decide_eq_true h21]; rfl) (neqRun (A := (ckV v)) (B := 0) (.tmp 21) (.const (.int .i64 0)) rfl (litEv (by kernel_rfl)) (litEv (by kernel_rfl)))) rfl (by decide) ?_
   refine plD ?_
   refine then_normal (hK20 _ _ ?_)
   refine wp_cond_false (litEv (by kernel_rfl)) ?_
   refine wp_skip ?_
   refine then_normal (hK16 _ _ ?_)
   refine wp_seq_k fun K22 hK22 => ?_
   refine plStart ?_
   refine lk (v := .int .i64 depth) rfl rfl rfl ?_
   refine litVal (v := .int .i64 (depth - 2)) rfl (wn rfl) (subRun (A := depth) (B := 2) (C := depth - 2) (.tmp 25) (.const (.int .i64 2)) rfl (litEv (by kernel_rfl)) (litEv (by kernel_rfl)) rfl (by omega)) rfl (by decide) ?_
   refine lk (v := .agg (tlc (wholeT depth)).toArray) rfl rfl rfl ?_
   refine plAlloc (z := [.int .i64 0, .int .i64 0, .int .i64 0, .int .i64 0]) Ty.ag_voxel_api_Tile hm19 (i := 3) rfl (wn rfl) rfl ?_
   intro g23 w25 hm24
   clear hm19
   try simp only [List.cons_append, List.nil_append, List.set_cons_succ, List.set_cons_zero] at hm24
   refine qP rfl ?_
   refine plStore 2 Ty.ag_voxel_api_Tile hm24 rfl (i := 4) (cs := tlc (wholeT depth)) rfl (wn rfl) rfl (litEv (by kernel_rfl)) (litEv (by kernel_rfl)) rfl rfl (by kernel_rfl) ?_
   intro w27 hm26
   clear hm24
   try simp only [List.cons_append, List.nil_append, List.set_cons_succ, List.set_cons_zero] at hm26
   refine qNone rfl ?_
   refine plD ?_
   refine then_normal (hK22 _ _ ?_)
   refine wpPrune [(2, .func (.func vf) first.toArray caps.toArray), (4, .pointer (some ⟨g2, 0, none⟩)), (6, .pointer (some ⟨g5, 0, none⟩)), (7, .int .i64 0), (9, .pointer (some ⟨g23, 0, none⟩))] ⟨litGet (by kernel_rfl), ⟨litGet (by kernel_rfl), ⟨litGet (by kernel_rfl), ⟨litGet (by kernel_rfl), ⟨litGet (by kernel_rfl), trivial⟩⟩⟩⟩⟩ (fun X28 => ?_)
   refine wp_seq_k fun K29 hK29 => ?_
   refine plStart ?_
   refine litVal (v := .agg (vwc v).toArray) rfl (wn rfl) (gLoadAg (vs := vwc v) (k := 0) 0 hm26 rfl (by kernel_rfl) (by kernel_rfl) (.tmp 4) Ty.ag_voxel_api_Viewer rfl (litEv (by kernel_rfl))) rfl (by decide) ?_
   refine litVal (v := .agg (tlc (wholeT depth)).toArray) rfl (wn rfl) (gLoadAg (vs := tlc (wholeT depth)) (k := 0) 2 hm26 rfl (by kernel_rfl) (by kernel_rfl) (.tmp 9) Ty.ag_voxel_api_Tile rfl (litEv (by kernel_rfl))) rfl (by decide) ?_
   refine plLit (cs := [.int .i64 (depth - 2), .int .i64 0, .int .i64 0, .int .i64 0]) (n := 1) Ty.sl_L_api_Tile hm26 (i := 2) rfl (wn rfl) rfl (by decide) (by decide) (by rw [lit_eval]; kernel_rfl) ?_
   intro g30 w32 hm31
   clear hm26
   try simp only [List.cons_append, List.nil_append, List.set_cons_succ, List.set_cons_zero] at hm31
   refine qP rfl ?_
   refine lk (v := .func (.func vf) first.toArray caps.toArray) rfl rfl rfl ?_
   refine plMakeMap TileT 3 hm31 (i := 4) rfl (wn rfl) rfl ?_
   intro gm33 w34 hm35
   clear hm31
   try simp only [List.cons_append, List.nil_append, List.set_cons_succ, List.set_cons_zero] at hm35
   have hm36 := memoShut (f := f) 4 hm35 rfl MemoI.none 0 (Nat.le_refl 0)
   clear hm35
   try simp only [List.cons_append, List.nil_append, List.set_cons_succ, List.set_cons_zero] at hm36
   refine qP rfl ?_
   refine lk (v := .agg ([.int .i64 v.p.x, .int .i64 v.p.y, .int .i64 v.p.z, .int .i64 v.sc, .int .i64 v.tol, .int .i64 v.bud, .slice (some ⟨g30, 0, none⟩) 1 1, .int .i64 0, .func (.func vf) first.toArray caps.toArray, .map (some gm33)]).toArray) rfl rfl rfl ?_
   refine plBox hm36 (cs := [.int .i64 v.p.x, .int .i64 v.p.y, .int .i64 v.p.z, .int .i64 v.sc, .int .i64 v.tol, .int .i64 v.bud, .slice (some ⟨g30, 0, none⟩) 1 1, .int .i64 0, .func (.func vf) first.toArray caps.toArray, .map (some gm33)]) (i := 6) rfl (wn rfl) rfl (litEv (by kernel_rfl)) ?_
   intro g37 w39 hm38
   clear hm36
   try simp only [List.cons_append, List.nil_append, List.set_cons_succ, List.set_cons_zero] at hm38
   refine qP rfl ?_
   refine lk (v := .pointer (some ⟨g37, 0, none⟩)) rfl rfl rfl ?_
   refine plD ?_
   refine then_normal (hK29 _ _ ?_)
   refine wp_seq_k fun K40 hK40 => ?_
   refine wp_seq_k fun K41 hK41 => ?_
   refine plStart ?_
   have hm42 := Mem.arrRow (n := 1) (size := 4) 3 hm38 rfl rfl (by unfold maxLen; omega)
   clear hm38
   try simp only [List.cons_append, List.nil_append, List.set_cons_succ, List.set_cons_zero] at hm42
   have hm43 : Mem w w39 [.arr g2 25 (vwc v), .arr g5 31 ([.slice none 0 0, .int .i64 0, .int .i64 0, .int .i64 0]), .arr g23 38 (tlc (wholeT depth)), .row (.slice (some ⟨g30, 0, none⟩) ([wholeT depth].length) 1) 38 4 ([wholeT depth].length) (tlsC [wholeT depth]), memoR f gm33 0, .arr g37 78 (plc v (.slice (some ⟨g30, 0, none⟩) ([wholeT depth].length) 1) 0 (.func (.func vf) first.toArray caps.toArray) gm33)] := hm42
   clear hm42
   have hm44 : Mem w w39 [.row (.slice (some ⟨g30, 0, none⟩) ([wholeT depth].length) 1) 38 4 ([wholeT depth].length) (tlsC [wholeT depth]), .arr g2 25 (vwc v), .arr g5 31 ([.slice none 0 0, .int .i64 0, .int .i64 0, .int .i64 0]), .arr g23 38 (tlc (wholeT depth)), memoR f gm33 0, .arr g37 78 (plc v (.slice (some ⟨g30, 0, none⟩) ([wholeT depth].length) 1) 0 (.func (.func vf) first.toArray caps.toArray) gm33)] := Mem.front 3 hm43 rfl
   clear hm43
   have hm45 : Mem w w39 [memoR f gm33 0, .row (.slice (some ⟨g30, 0, none⟩) ([wholeT depth].length) 1) 38 4 ([wholeT depth].length) (tlsC [wholeT depth]), .arr g2 25 (vwc v), .arr g5 31 ([.slice none 0 0, .int .i64 0, .int .i64 0, .int .i64 0]), .arr g23 38 (tlc (wholeT depth)), .arr g37 78 (plc v (.slice (some ⟨g30, 0, none⟩) ([wholeT depth].length) 1) 0 (.func (.func vf) first.toArray caps.toArray) gm33)] := Mem.front 4 hm44 rfl
   clear hm44
   have hm46 : Mem w w39 [.arr g37 78 (plc v (.slice (some ⟨g30, 0, none⟩) ([wholeT depth].length) 1) 0 (.func (.func vf) first.toArray caps.toArray) gm33), memoR f gm33 0, .row (.slice (some ⟨g30, 0, none⟩) ([wholeT depth].length) 1) 38 4 ([wholeT depth].length) (tlsC [wholeT depth]), .arr g2 25 (vwc v), .arr g5 31 ([.slice none 0 0, .int .i64 0, .int .i64 0, .int .i64 0]), .arr g23 38 (tlc (wholeT depth))] := Mem.front 5 hm45 rfl
   clear hm45
   refine lk (v := .pointer (some ⟨g37, 0, none⟩)) rfl rfl rfl ?_
   refine lk (v := .pointer (some ⟨g37, 0, none⟩)) rfl rfl rfl ?_
   refine litVal (v := .agg (tlc (wholeT depth)).toArray) rfl (wn rfl) (gLoadAg (vs := tlc (wholeT depth)) (k := 0) 5 hm46 rfl (by kernel_rfl) (by kernel_rfl) (.tmp 9) Ty.ag_voxel_api_Tile rfl (litEv (by kernel_rfl))) rfl (by decide) ?_
   refine plCall (i := 3) 46 [.pointer (some ⟨g37, 0, none⟩), .agg (tlc (wholeT depth)).toArray] [] [] rfl (by kernel_rfl) (wn rfl) rfl (litEv (by kernel_rfl)) (litArgs (by kernel_rfl)) (pof_any hp v (.slice (some ⟨g30, 0, none⟩) ([wholeT depth].length) 1) 0 g37 gm33 (0) (by omega) (wholeT depth) (wholeT_ok hd_) hm46) ?_
   rintro e w47 ⟨rfl, hm48⟩
   clear hm46
   refine ⟨_, rfl, ?_⟩
   refine qP rfl ?_
   refine lk (v := .pointer (some ⟨g37, 0, none⟩)) rfl rfl rfl ?_
   refine lk (v := .pointer (some ⟨g37, 7, none⟩)) rfl rfl rfl ?_
   refine plStore1 (v := .int .i64 (f (wholeT depth))) (k := 7) 0 (by kernel_rfl) hm48 rfl (i := 6) rfl (wn rfl) rfl (litEv (by kernel_rfl)) (litEv (by kernel_rfl)) rfl rfl rfl ?_
   intro w50 hm49
   clear hm48
   try simp only [List.cons_append, List.nil_append, List.set_cons_succ, List.set_cons_zero] at hm49
   refine qNone rfl ?_
   refine plD ?_
   refine then_normal (hK41 _ _ ?_)
   refine wpPrune [(4, .pointer (some ⟨g2, 0, none⟩)), (6, .pointer (some ⟨g5, 0, none⟩)), (7, .int .i64 0), (10, .pointer (some ⟨g37, 0, none⟩))] ⟨litGet (by kernel_rfl), ⟨litGet (by kernel_rfl), ⟨litGet (by kernel_rfl), ⟨litGet (by kernel_rfl), trivial⟩⟩⟩⟩ (fun X51 => ?_)
   refine wp_seq_k fun K52 hK52 => ?_
   refine mgStart hm49 (by kernel_rfl) ?_
   intro w54 hm53
   clear hm49
   have hm55 : Mem w w54 [.arr g37 78 (plc v (.slice (some ⟨g30, 0, none⟩) ([wholeT depth].length) 1) (f (wholeT depth)) (.func (.func vf) first.toArray caps.toArray) gm33), memoR f gm33 (0 + 1), .row (.slice (some ⟨g30, 0, none⟩) ([wholeT depth].length) 1) 38 4 ([wholeT depth].length) (tlsC [wholeT depth]), .arr g2 25 (vwc v), .arr g5 31 ([.slice none 0 0, .int .i64 0, .int .i64 0, .int .i64 0]), .arr g23 38 (tlc (wholeT depth))] := hm53
   clear hm53
   refine mk_ (i := 0) (v := .pointer (some ⟨g37, 0, none⟩)) rfl rfl (fun _ _ _ h => h) hm55 rfl ?_
   refine mk_ (i := 1) (v := .pointer (some ⟨g37, 0, none⟩)) rfl rfl (fun _ _ _ h => h) hm55 rfl ?_
   refine mk_ (i := 2) (v := .pointer (some ⟨g37, 7, none⟩)) rfl rfl (fun _ _ _ h => h) hm55 rfl ?_
   refine mgTake (i := 3) (v := .int .i64 (f (wholeT depth))) rfl (by kernel_rfl) (wn rfl) (fun _ _ _ h => h) hm55 (fun w_ h_ => gLoad (v := .int .i64 (f (wholeT depth))) (k := 7) 0 h_ rfl (by kernel_rfl) (.tmp 43) (by kernel_rfl) rfl (litEv (by kernel_rfl))) ?_
   refine mP rfl ?_
   refine mk_ (i := 4) (v := .pointer (some ⟨g2, 5, none⟩)) rfl rfl (fun _ _ _ h => h) hm55 rfl ?_
   refine mgTake (i := 5) (v := .int .i64 v.bud) rfl (by kernel_rfl) (wn rfl) (fun _ _ _ h => h) hm55 (fun w_ h_ => gLoad (v := .int .i64 v.bud) (k := 5) 3 h_ rfl (by kernel_rfl) (.tmp 45) (by kernel_rfl) rfl (litEv (by kernel_rfl))) ?_
   refine mP rfl ?_
   by_cases h56 : v.bud < (f (wholeT depth))
   · have hbud_ := h56
     refine mgTake (i := 6) (v := .bool true) rfl (by kernel_rfl) (wn rfl) (fun _ _ _ h => h) hm55 (fun w_ h_ => boolTo (decide_eq_true h56) (gtrRun (A := (f (wholeT depth))) (B := v.bud) (.tmp 44) (.tmp 46) rfl (litEv (by kernel_rfl)) (litEv (by kernel_rfl)))) ?_
     refine mP rfl ?_
     refine mgDone (by kernel_rfl) ?_
     refine then_normal (hK52 _ _ ?_)
     refine wp_cond_true (litEv (by kernel_rfl)) ?_
     refine wp_seq_k fun K57 hK57 => ?_
     refine plStart ?_
     refine lk (v := .agg ([.slice none 0 0, .int .i64 0, .int .i64 0, .int .i64 0]).toArray) rfl rfl rfl ?_
     refine plStore 4 Ty.ag_voxel_api_Planned hm55 rfl (i := 1) (cs := [.slice none 0 0, .int .i64 0, .int .i64 0, .int .i64 0]) rfl (wn rfl) rfl (litEv (by kernel_rfl)) (litEv (by kernel_rfl)) rfl rfl (by kernel_rfl) ?_
     intro w59 hm58
     clear hm55
     try simp only [List.cons_append, List.nil_append, List.set_cons_succ, List.set_cons_zero] at hm58
     refine qNone rfl ?_
     refine lk (v := .int .i64 17) rfl rfl rfl ?_
     refine plD ?_
     refine then_normal (hK57 _ _ ?_)
     refine wp_ret ?_
     refine then_ret ?_
     refine bodyPost_ret (v := .tuple #[.agg ([.slice none 0 0, .int .i64 0, .int .i64 0, .int .i64 0]).toArray, .int .i64 17]) (gRes2 rfl (gResAg (cs := [.slice none 0 0, .int .i64 0, .int .i64 0, .int .i64 0]) 4 hm58 rfl Ty.ag_voxel_api_Planned rfl (litGet (by kernel_rfl))) (gResTmp (t := 7) (v := .int .i64 17) (litGet (by kernel_rfl)))) rfl ?_
     have hE_ : planE f depth v = 17 := planE_17 hd_ hv_ hbud_
     have hR_ := planR_no (f := f) (depth := depth) (v := v) (by rw [hE_]; decide)
     refine ⟨.slice none 0 0, ?_, ?_, hm58.bel⟩
     · rw [hR_, hE_]
       rfl
     · rw [hR_]
       exact Mem.row (Mem.nilRow hm58 38 4) 6 rfl
   have hbud_ := h56
   refine mgTake (i := 6) (v := .bool false) rfl (by kernel_rfl) (wn rfl) (fun _ _ _ h => h) hm55 (fun w_ h_ => boolTo (decide_eq_false h56) (gtrRun (A := (f (wholeT depth))) (B := v.bud) (.tmp 44) (.tmp 46) rfl (litEv (by kernel_rfl)) (litEv (by kernel_rfl)))) ?_
   refine mP rfl ?_
   refine mgDone (by kernel_rfl) ?_
   refine then_normal (hK52 _ _ ?_)
   refine wp_cond_false (litEv (by kernel_rfl)) ?_
   refine wp_skip ?_
   refine then_normal (hK40 _ _ ?_)
   refine wp_seq_k fun K60 hK60 => ?_
   refine wp_seq_k fun K61 hK61 => ?_
   refine plStart ?_
   refine lk (v := .pointer (some ⟨g37, 0, none⟩)) rfl rfl rfl ?_
   refine plCall (i := 1) 47 [.pointer (some ⟨g37, 0, none⟩)] [] [] rfl (by kernel_rfl) (wn rfl) rfl (litEv (by kernel_rfl)) (litArgs (by kernel_rfl)) (pnext_any hp v hv_ ([wholeT depth]) g30 1 (f (wholeT depth)) g37 gm33 (0 + 1) (by omega) (by have h_ := (RoundOk.start hd_ (f := f) (v := v)).bd hp.bd; omega) (RoundOk.start hd_ (f := f) (v := v)).le (RoundOk.start hd_ (f := f) (v := v)).all hm55) ?_
   rintro e w62 ⟨rfl, hm63⟩
   clear hm55
   refine ⟨_, rfl, ?_⟩
   refine qP rfl ?_
   refine lk (v := .int .i64 (nextP f v (f (wholeT depth)) ([wholeT depth]))) rfl rfl rfl ?_
   refine plD ?_
   refine then_normal (hK61 _ _ ?_)
   refine wp_block ?_
   refine gwLoop (fun n_ a_ w_ => ∃ (l : List Tl) (cost : Int) (b c n fu : Nat), n_ = 0 + fu ∧ (RoundOk f v depth l cost fu) ∧ (n + 40000 * fu ≤ 24001000) ∧ Fr a_ 117 [(4, .pointer (some ⟨g2, 0, none⟩)), (6, .pointer (some ⟨g5, 0, none⟩)), (7, .int .i64 0), (10, .pointer (some ⟨g37, 0, none⟩)), (11, .int .i64 (nextP f v cost l))] ∧ Mem w w_ [.arr g37 78 (plc v (.slice (some ⟨b, 0, none⟩) l.length c) cost (.func (.func vf) first.toArray caps.toArray) gm33), memoR f gm33 n, .row (.slice (some ⟨b, 0, none⟩) l.length c) 38 4 l.length (tlsC l), .arr g2 25 (vwc v), .arr g5 31 ([.slice none 0 0, .int .i64 0, .int .i64 0, .int .i64 0])]) (0 + 600) ⟨[wholeT depth], (f (wholeT depth)), g30, 1, 0 + 1 + 9 * ([wholeT depth]).length, 600, rfl, (RoundOk.start hd_), (by simp), ⟨litSize, rfl, ⟨litGet (by kernel_rfl), ⟨litGet (by kernel_rfl), ⟨litGet (by kernel_rfl), ⟨litGet (by kernel_rfl), ⟨litGet (by kernel_rfl), trivial⟩⟩⟩⟩⟩⟩, (hm63.sub (.cons_cons _ (.cons_cons _ (.cons_cons _ (.cons_cons _ (.cons_cons _ (.cons _ .slnil)))))))⟩ ?_
   clear hm63
   intro n_ a66 w64 hI_
   obtain ⟨l, cost, b, c, n, fu, rfl, hok, hnn, hF_, hm65⟩ := hI_
   obtain ⟨X67, rfl⟩ := frLit hF_
   clear hF_
   refine wp_seq_k fun K68 hK68 => ?_
   refine wp_seq_k fun K69 hK69 => ?_
   refine plStart ?_
   refine lk (v := .int .i64 (nextP f v cost l)) rfl rfl rfl ?_
   by_cases h70 : 0 ≤ (nextP f v cost l)
   · obtain ⟨k, t, hk, hkt, h1, hlen, _, _⟩ := nextP_ok h70
     have htok : t.Ok := hok.all t (List.mem_of_getElem? hkt)
     have hkl : k < l.length := (List.getElem?_eq_some_iff.1 hkt).1
     have hok2 := hok.next hk hkt h1 hlen
     have hfu_ := hok.fuel
     have hcb_ := hok.bd hp.bd
     have hsl_ := splitAt_len hkt
     rw [hk]
     refine litVal (v := .bool true) rfl (wn rfl) (boolTo (decide_eq_true (show (0:Int) ≤ (k : Int) by omega)) (gGeq (A := (k : Int)) (B := 0) (.tmp 51) (.const (.int .i64 0)) rfl (litEv (by kernel_rfl)) (litEv (by kernel_rfl)))) rfl (by decide) ?_
     refine plD ?_
     refine then_normal (hK69 _ _ ?_)
     refine wp_cond_true (litEv (by kernel_rfl)) ?_
     refine wp_skip ?_
     refine then_normal (hK68 _ _ ?_)
     refine wp_seq_k fun K71 hK71 => ?_
     refine wp_block ?_
     refine wp_seq_k fun K72 hK72 => ?_
     refine glStart 16 [.arr g37 78 (plc v (.slice (some ⟨b, 0, none⟩) l.length c) cost (.func (.func vf) first.toArray caps.toArray) gm33), .row (.slice (some ⟨b, 0, none⟩) l.length c) 38 4 l.length (tlsC l), .arr g2 25 (vwc v)] hm65 (by kernel_rfl) ?_
     intro w74 hm73
     clear hm65
     refine glk (i := 0) (v := .pointer (some ⟨g37, 0, none⟩)) rfl rfl (fun _ _ _ h => h) (hm73.sub (.cons_cons _ (.cons _ (.cons_cons _ (.cons_cons _ (.cons _ .slnil)))))) rfl ?_
     refine glk (i := 1) (v := .pointer (some ⟨g37, 0, none⟩)) rfl rfl (fun _ _ _ h => h) (hm73.sub (.cons_cons _ (.cons _ (.cons_cons _ (.cons_cons _ (.cons _ .slnil)))))) rfl ?_
     refine glk (i := 2) (v := .pointer (some ⟨g37, 7, none⟩)) rfl rfl (fun _ _ _ h => h) (hm73.sub (.cons_cons _ (.cons _ (.cons_cons _ (.cons_cons _ (.cons _ .slnil)))))) rfl ?_
     refine glTake (i := 3) (v := .int .i64 cost) rfl (by kernel_rfl) (wn rfl) (fun _ _ _ h => h) (hm73.sub (.cons_cons _ (.cons _ (.cons_cons _ (.cons_cons _ (.cons _ .slnil)))))) (fun w_ h_ => gLoad (v := .int .i64 cost) (k := 7) 0 h_ rfl (by kernel_rfl) (.tmp 57) (by kernel_rfl) rfl (litEv (by kernel_rfl))) ?_
     refine glP rfl ?_
     refine glk (i := 4) (v := .pointer (some ⟨g37, 0, none⟩)) rfl rfl (fun _ _ _ h => h) (hm73.sub (.cons_cons _ (.cons _ (.cons_cons _ (.cons_cons _ (.cons _ .slnil)))))) rfl ?_
     refine glk (i := 5) (v := .pointer (some ⟨g37, 0, none⟩)) rfl rfl (fun _ _ _ h => h) (hm73.sub (.cons_cons _ (.cons _ (.cons_cons _ (.cons_cons _ (.cons _ .slnil)))))) rfl ?_
     refine glk (i := 6) (v := .pointer (some ⟨g37, 0, none⟩)) rfl rfl (fun _ _ _ h => h) (hm73.sub (.cons_cons _ (.cons _ (.cons_cons _ (.cons_cons _ (.cons _ .slnil)))))) rfl ?_
     refine glk (i := 7) (v := .pointer (some ⟨g37, 6, none⟩)) rfl rfl (fun _ _ _ h => h) (hm73.sub (.cons_cons _ (.cons _ (.cons_cons _ (.cons_cons _ (.cons _ .slnil)))))) rfl ?_
     refine glTake (i := 8) (v := .slice (some ⟨b, 0, none⟩) l.length c) rfl (by kernel_rfl) (wn rfl) (fun _ _ _ h => h) (hm73.sub (.cons_cons _ (.cons _ (.cons_cons _ (.cons_cons _ (.cons _ .slnil)))))) (fun w_ h_ => gLoad (v := .slice (some ⟨b, 0, none⟩) l.length c) (k := 6) 0 h_ rfl (by kernel_rfl) (.tmp 62) (by kernel_rfl) rfl (litEv (by kernel_rfl))) ?_
     refine glP rfl ?_
     refine glk (i := 9) (v := .int .i64 (k : Int)) rfl rfl (fun _ _ _ h => h) (hm73.sub (.cons_cons _ (.cons _ (.cons_cons _ (.cons_cons _ (.cons _ .slnil)))))) rfl ?_
     refine glTake (i := 10) (v := .pointer (some ⟨b, 0 + k * 4, none⟩)) rfl (by kernel_rfl) (wn rfl) (fun _ _ _ h => h) (hm73.sub (.cons_cons _ (.cons _ (.cons_cons _ (.cons_cons _ (.cons _ .slnil)))))) (fun w_ h_ => gIaSl (b := b) (off := 0) (n := l.length) (c := c) (kk := .i64) (K := (k : Int)) (.tmp 63) (.tmp 64) k Ty.sl_L_api_Tile rfl (litEv (by kernel_rfl)) (litEv (by kernel_rfl)) (rfl) (by omega)) ?_
     refine glP rfl ?_
     refine glTake (i := 11) (v := .agg (tlc t).toArray) rfl (by kernel_rfl) (wn rfl) (fun _ _ _ h => h) (hm73.sub (.cons_cons _ (.cons _ (.cons_cons _ (.cons_cons _ (.cons _ .slnil)))))) (fun w_ h_ => gLoadAgRd (vs := tlc t) (m := k * 4) (h_.rdRow 1 rfl) rfl (fun i_ u_ hu_ => tlsC_get hkt i_ u_ hu_) (by kernel_rfl) (by omega) (.tmp 65) Ty.ag_voxel_api_Tile rfl (litEv (by kernel_rfl))) ?_
     refine glP rfl ?_
     refine glCall (i := 12) 48 [.pointer (some ⟨g37, 0, none⟩), .agg (tlc t).toArray] [] [] (by kernel_rfl) rfl (by kernel_rfl) (wn rfl) rfl (litEv (by kernel_rfl)) (litArgs (by kernel_rfl)) (pmore_any hp v (.slice (some ⟨b, 0, none⟩) l.length c) cost g37 gm33 (n) (by omega) t htok h1 hm73) ?_
     rintro e w75 ⟨rfl, hm76⟩
     have hmb_ := hp.more htok h1
     refine ⟨_, rfl, (hm76.sub (.cons_cons _ (.cons _ (.cons_cons _ (.cons_cons _ (.cons _ .slnil)))))), ?_⟩
     refine glP rfl ?_
     refine glTake (i := 13) (v := .int .i64 (cost + (moreP f t))) rfl (by kernel_rfl) (wn rfl) (fun _ _ _ h => h) (hm76.sub (.cons_cons _ (.cons _ (.cons_cons _ (.cons_cons _ (.cons _ .slnil)))))) (fun w_ h_ => addRun (A := cost) (B := (moreP f t)) (C := cost + (moreP f t)) (.tmp 58) (.tmp 67) rfl (litEv (by kernel_rfl)) (litEv (by kernel_rfl)) rfl (by omega)) ?_
     refine glP rfl ?_
     refine glk (i := 14) (v := .pointer (some ⟨g37, 0, none⟩)) rfl rfl (fun _ _ _ h => h) (hm76.sub (.cons_cons _ (.cons _ (.cons_cons _ (.cons_cons _ (.cons _ .slnil)))))) rfl ?_
     refine glk (i := 15) (v := .pointer (some ⟨g37, 7, none⟩)) rfl rfl (fun _ _ _ h => h) (hm76.sub (.cons_cons _ (.cons _ (.cons_cons _ (.cons_cons _ (.cons _ .slnil)))))) rfl ?_
     refine glStore1 (v := .int .i64 (cost + (moreP f t))) (k := 7) 0 (by kernel_rfl) hm76 rfl (by kernel_rfl) (i := 16) rfl (by kernel_rfl) (wn rfl) rfl (litEv (by kernel_rfl)) (litEv (by kernel_rfl)) rfl rfl rfl ?_
     intro w78 hm77
     clear hm76
     try simp only [List.cons_append, List.nil_append, List.set_cons_succ, List.set_cons_zero] at hm77
     refine glNone rfl ?_
     refine glDone (by kernel_rfl) ?_
     refine then_normal (hK72 _ _ ?_)
     refine plStart ?_
     have hm79 : Mem w w78 [.arr g37 78 (plc v (.slice (some ⟨b, 0, none⟩) l.length c) (cost + moreP f t) (.func (.func vf) first.toArray caps.toArray) gm33), memoR f gm33 (n + 9), .row (.slice (some ⟨b, 0, none⟩) l.length c) 38 4 l.length (tlsC l), .arr g2 25 (vwc v), .arr g5 31 ([.slice none 0 0, .int .i64 0, .int .i64 0, .int .i64 0])] := hm77
     clear hm77
     refine lk (v := .pointer (some ⟨g37, 0, none⟩)) rfl rfl rfl ?_
     refine lk (v := .pointer (some ⟨g37, 0, none⟩)) rfl rfl rfl ?_
     refine lk (v := .pointer (some ⟨g37, 0, none⟩)) rfl rfl rfl ?_
     refine lk (v := .pointer (some ⟨g37, 6, none⟩)) rfl rfl rfl ?_
     refine litVal (v := .slice (some ⟨b, 0, none⟩) l.length c) rfl (wn rfl) (gLoad (v := .slice (some ⟨b, 0, none⟩) l.length c) (k := 6) 0 hm79 rfl (by kernel_rfl) (.tmp 75) (by kernel_rfl) rfl (litEv (by kernel_rfl))) rfl (by decide) ?_
     refine lk (v := .int .i64 (k : Int)) rfl rfl rfl ?_
     refine plCall (i := 6) 49 [.slice (some ⟨b, 0, none⟩) l.length c, .int .i64 (k : Int)] [] [] rfl (by kernel_rfl) (wn rfl) rfl (litEv (by kernel_rfl)) (litArgs (by kernel_rfl)) (split_any l k t _ _ _ (hm79.rdRow 2 rfl) hkt htok h1 hlen) ?_
     rintro e w80 ⟨v82, rfl, hown_, hbz⟩
     obtain ⟨A83, c84, rfl, hrd_⟩ := Rd.of_own hown_
     clear hrd_
     replace hown_ : World.ownsRow w80 _ 38 4 _ ((splitAt l k).length) (tlsC (splitAt l k)) := hown_
     have hm81 := hm79.newRow hbz hown_
     clear hown_ hbz
     clear hm79
     try simp only [List.cons_append, List.nil_append, List.set_cons_succ, List.set_cons_zero] at hm81
     obtain ⟨b85, rfl⟩ := hm81.rowBlk (A := A83) (n := (splitAt l k).length) (c := c84) 5 rfl (by rw [splitAt_len hkt]; omega)
     refine ⟨_, rfl, ?_⟩
     refine qP rfl ?_
     refine lk (v := .tuple #[.slice (some ⟨b85, 0, none⟩) ((splitAt l k).length) c84, .int .i64 0]) rfl rfl rfl ?_
     refine lk (v := .slice (some ⟨b85, 0, none⟩) ((splitAt l k).length) c84) rfl rfl rfl ?_
     refine lk (v := .int .i64 0) rfl rfl rfl ?_
     refine lk (v := .pointer (some ⟨g37, 0, none⟩)) rfl rfl rfl ?_
     refine lk (v := .pointer (some ⟨g37, 6, none⟩)) rfl rfl rfl ?_
     refine plStore1 (v := .slice (some ⟨b85, 0, none⟩) ((splitAt l k).length) c84) (k := 6) 0 (by kernel_rfl) hm81 rfl (i := 12) rfl (wn rfl) rfl (litEv (by kernel_rfl)) (litEv (by kernel_rfl)) rfl rfl rfl ?_
     intro w87 hm86
     clear hm81
     try simp only [List.cons_append, List.nil_append, List.set_cons_succ, List.set_cons_zero] at hm86
     refine qNone rfl ?_
     refine plD ?_
     refine inBlock_normal ?_
     refine then_normal (hK71 _ _ ?_)
     refine plStart ?_
     have hm88 : Mem w w87 [.arr g37 78 (plc v (.slice (some ⟨b85, 0, none⟩) ((splitAt l k).length) c84) (cost + moreP f t) (.func (.func vf) first.toArray caps.toArray) gm33), memoR f gm33 (n + 9), .row (.slice (some ⟨b, 0, none⟩) l.length c) 38 4 l.length (tlsC l), .arr g2 25 (vwc v), .arr g5 31 ([.slice none 0 0, .int .i64 0, .int .i64 0, .int .i64 0]), .row (.slice (some ⟨b85, 0, none⟩) ((splitAt l k).length) c84) 38 4 ((splitAt l k).length) (tlsC (splitAt l k))] := hm86
     clear hm86
     refine lk (v := .pointer (some ⟨g37, 0, none⟩)) rfl rfl rfl ?_
     have hm89 : Mem w w87 [.row (.slice (some ⟨b85, 0, none⟩) ((splitAt l k).length) c84) 38 4 ((splitAt l k).length) (tlsC (splitAt l k)), .arr g37 78 (plc v (.slice (some ⟨b85, 0, none⟩) ((splitAt l k).length) c84) (cost + moreP f t) (.func (.func vf) first.toArray caps.toArray) gm33), memoR f gm33 (n + 9), .row (.slice (some ⟨b, 0, none⟩) l.length c) 38 4 l.length (tlsC l), .arr g2 25 (vwc v), .arr g5 31 ([.slice none 0 0, .int .i64 0, .int .i64 0, .int .i64 0])] := Mem.front 5 hm88 rfl
     clear hm88
     have hm90 : Mem w w87 [memoR f gm33 (n + 9), .row (.slice (some ⟨b85, 0, none⟩) ((splitAt l k).length) c84) 38 4 ((splitAt l k).length) (tlsC (splitAt l k)), .arr g37 78 (plc v (.slice (some ⟨b85, 0, none⟩) ((splitAt l k).length) c84) (cost + moreP f t) (.func (.func vf) first.toArray caps.toArray) gm33), .row (.slice (some ⟨b, 0, none⟩) l.length c) 38 4 l.length (tlsC l), .arr g2 25 (vwc v), .arr g5 31 ([.slice none 0 0, .int .i64 0, .int .i64 0, .int .i64 0])] := Mem.front 2 hm89 rfl
     clear hm89
     have hm91 : Mem w w87 [.arr g37 78 (plc v (.slice (some ⟨b85, 0, none⟩) ((splitAt l k).length) c84) (cost + moreP f t) (.func (.func vf) first.toArray caps.toArray) gm33), memoR f gm33 (n + 9), .row (.slice (some ⟨b85, 0, none⟩) ((splitAt l k).length) c84) 38 4 ((splitAt l k).length) (tlsC (splitAt l k)), .row (.slice (some ⟨b, 0, none⟩) l.length c) 38 4 l.length (tlsC l), .arr g2 25 (vwc v), .arr g5 31 ([.slice none 0 0, .int .i64 0, .int .i64 0, .int .i64 0])] := Mem.front 2 hm90 rfl
     clear hm90
     refine plCall (i := 1) 47 [.pointer (some ⟨g37, 0, none⟩)] [] [] rfl (by kernel_rfl) (wn rfl) rfl (litEv (by kernel_rfl)) (litArgs (by kernel_rfl)) (pnext_any hp v hv_ (splitAt l k) b85 c84 (cost + moreP f t) g37 gm33 (n + 9) (by omega) (by have h_ := hok2.bd hp.bd; omega) hok2.le hok2.all hm91) ?_
     rintro e w92 ⟨rfl, hm93⟩
     clear hm91
     refine ⟨_, rfl, ?_⟩
     refine qP rfl ?_
     refine lk (v := .int .i64 (nextP f v (cost + moreP f t) (splitAt l k))) rfl rfl rfl ?_
     refine plD ?_
     refine then_normal ?_
     exact ⟨_, by have h_ := hok.fuel; omega, (splitAt l k), (cost + moreP f t), b85, c84, _, (fu - 1), rfl, hok2, (by omega), ⟨litSize, rfl, ⟨litGet (by kernel_rfl), ⟨litGet (by kernel_rfl), ⟨litGet (by kernel_rfl), ⟨litGet (by kernel_rfl), ⟨litGet (by kernel_rfl), trivial⟩⟩⟩⟩⟩⟩, (hm93.sub (.cons_cons _ (.cons_cons _ (.cons_cons _ (.cons _ (.cons_cons _ (.cons_cons _ .slnil)))))))⟩
   have hle_ := hok.le
   have hG_ := planG_stop (n := fu) h70
   rw [hok.go] at hG_
   refine litVal (v := .bool false) rfl (wn rfl) (boolTo (decide_eq_false h70) (gGeq (A := (nextP f v cost l)) (B := 0) (.tmp 51) (.const (.int .i64 0)) rfl (litEv (by kernel_rfl)) (litEv (by kernel_rfl)))) rfl (by decide) ?_
   refine plD ?_
   refine then_normal (hK69 _ _ ?_)
   refine wp_cond_false (litEv (by kernel_rfl)) ?_
   refine wp_exit ?_
   refine then_exit ?_
   refine then_exit ?_
   refine inBlock_exit ?_
   refine then_normal (hK60 _ _ ?_)
   refine wp_seq_k fun K94 hK94 => ?_
   refine aoStart (aoV [fun _ => .pointer (some ⟨g37, 0, none⟩), fun _ => .pointer (some ⟨g37, 0, none⟩), fun _ => .pointer (some ⟨g37, 6, none⟩), fun _ => .slice (some ⟨b, 0, none⟩) l.length c, fun _ => .pointer (some ⟨g37, 0, none⟩), fun _ => .pointer (some ⟨g37, 0, none⟩), fun _ => .pointer (some ⟨g37, 7, none⟩), fun _ => .int .i64 cost, fun _ => .agg ([.slice (some ⟨b, 0, none⟩) l.length c, .int .i64 cost, .int .i64 0, .int .i64 0]).toArray, fun γ_ => .pointer (some ⟨γ_, 0, none⟩), fun _ => undef]) (aoA [0, 1, 2, 3, 4, 5, 6, 7, 8, 9, 10]) (fun b_ g_ => ((.arr g37 78 (plc v (.slice (some ⟨b, 0, none⟩) l.length c) cost (.func (.func vf) first.toArray caps.toArray) gm33)) :: (memoR f gm33 n) :: (.row (.slice (some ⟨b, 0, none⟩) l.length c) 38 4 l.length (tlsC l)) :: (.arr g2 25 (vwc v)) :: (.arr g5 31 ([.slice none 0 0, .int .i64 0, .int .i64 0, .int .i64 0])) :: (bsel (b_ 9) (.arr (g_ 9) 31 (bsel (b_ 10) [.slice (some ⟨b, 0, none⟩) l.length c, .int .i64 cost, .int .i64 0, .int .i64 0] [.slice none 0 0, .int .i64 0, .int .i64 0, .int .i64 0])) .free) :: [])) hm65 (by kernel_rfl) (by kernel_rfl) (fun w_ h_ => h_.pushFree) (fun b_ g_ h_ => by show (fun (x9_ x10_ : Bool) => (((.arr g37 78 (plc v (.slice (some ⟨b, 0, none⟩) l.length c) cost (.func (.func vf) first.toArray caps.toArray) gm33)) :: (memoR f gm33 n) :: (.row (.slice (some ⟨b, 0, none⟩) l.length c) 38 4 l.length (tlsC l)) :: (.arr g2 25 (vwc v)) :: (.arr g5 31 ([.slice none 0 0, .int .i64 0, .int .i64 0, .int .i64 0])) :: (bsel x9_ (.arr (g_ 9) 31 (bsel x10_ [.slice (some ⟨b, 0, none⟩) l.length c, .int .i64 cost, .int .i64 0, .int .i64 0] [.slice none 0 0, .int .i64 0, .int .i64 0, .int .i64 0])) .free) :: []) : List Res)) (b_ 9) (b_ 10) = _; rw [h_ 9 (by decide), h_ 10 (by decide)]) ?_ ?_
   · refine aoNext rfl (aoVal (fun g_ => [(10, .pointer (some ⟨g37, 0, none⟩))]) (fun g_ a_ h_k => ⟨(h_k.out 10 (by kernel_rfl)).trans (litGet (by kernel_rfl)), trivial⟩) (fun g_ X_ => (wn rfl)) (fun b_ g_ => by kernel_rfl) (fun b_ g_ X_ w_ h_b h_ => valTo (b := .pointer (some ⟨g37, 0, none⟩)) (by kernel_rfl) (litRun (by kernel_rfl)))) ?_
     refine aoNext rfl (aoVal (fun g_ => [(83, .pointer (some ⟨g37, 0, none⟩))]) (fun g_ a_ h_k => ⟨(h_k.inn 0 _ _ (by kernel_rfl) rfl rfl).trans (by kernel_rfl), trivial⟩) (fun g_ X_ => (wn rfl)) (fun b_ g_ => by kernel_rfl) (fun b_ g_ X_ w_ h_b h_ => valTo (b := .pointer (some ⟨g37, 0, none⟩)) (by kernel_rfl) (litRun (by kernel_rfl)))) ?_
     refine aoNext rfl (aoVal (fun g_ => [(84, .pointer (some ⟨g37, 0, none⟩))]) (fun g_ a_ h_k => ⟨(h_k.inn 1 _ _ (by kernel_rfl) rfl rfl).trans (by kernel_rfl), trivial⟩) (fun g_ X_ => (wn rfl)) (fun b_ g_ => by kernel_rfl) (fun b_ g_ X_ w_ h_b h_ => valTo (b := .pointer (some ⟨g37, 6, none⟩)) (by kernel_rfl) (litRun (by kernel_rfl)))) ?_
     refine aoNext rfl (aoVal (fun g_ => [(85, .pointer (some ⟨g37, 6, none⟩))]) (fun g_ a_ h_k => ⟨(h_k.inn 2 _ _ (by kernel_rfl) rfl rfl).trans (by kernel_rfl), trivial⟩) (fun g_ X_ => (wn rfl)) (fun b_ g_ => by kernel_rfl) (fun b_ g_ X_ w_ h_b h_ => valTo (b := .slice (some ⟨b, 0, none⟩) l.length c) (by kernel_rfl) (gLoad (v := .slice (some ⟨b, 0, none⟩) l.length c) (k := 6) 0 h_ rfl (by kernel_rfl) (.tmp 85) (by kernel_rfl) rfl (litEv (by kernel_rfl))))) ?_
     refine aoNext rfl (aoVal (fun g_ => [(10, .pointer (some ⟨g37, 0, none⟩))]) (fun g_ a_ h_k => ⟨(h_k.out 10 (by kernel_rfl)).trans (litGet (by kernel_rfl)), trivial⟩) (fun g_ X_ => (wn rfl)) (fun b_ g_ => by kernel_rfl) (fun b_ g_ X_ w_ h_b h_ => valTo (b := .pointer (some ⟨g37, 0, none⟩)) (by kernel_rfl) (litRun (by kernel_rfl)))) ?_
     refine aoNext rfl (aoVal (fun g_ => [(87, .pointer (some ⟨g37, 0, none⟩))]) (fun g_ a_ h_k => ⟨(h_k.inn 4 _ _ (by kernel_rfl) rfl rfl).trans (by kernel_rfl), trivial⟩) (fun g_ X_ => (wn rfl)) (fun b_ g_ => by kernel_rfl) (fun b_ g_ X_ w_ h_b h_ => valTo (b := .pointer (some ⟨g37, 0, none⟩)) (by kernel_rfl) (litRun (by kernel_rfl)))) ?_
     refine aoNext rfl (aoVal (fun g_ => [(88, .pointer (some ⟨g37, 0, none⟩))]) (fun g_ a_ h_k => ⟨(h_k.inn 5 _ _ (by kernel_rfl) rfl rfl).trans (by kernel_rfl), trivial⟩) (fun g_ X_ => (wn rfl)) (fun b_ g_ => by kernel_rfl) (fun b_ g_ X_ w_ h_b h_ => valTo (b := .pointer (some ⟨g37, 7, none⟩)) (by kernel_rfl) (litRun (by kernel_rfl)))) ?_
     refine aoNext rfl (aoVal (fun g_ => [(89, .pointer (some ⟨g37, 7, none⟩))]) (fun g_ a_ h_k => ⟨(h_k.inn 6 _ _ (by kernel_rfl) rfl rfl).trans (by kernel_rfl), trivial⟩) (fun g_ X_ => (wn rfl)) (fun b_ g_ => by kernel_rfl) (fun b_ g_ X_ w_ h_b h_ => valTo (b := .int .i64 cost) (by kernel_rfl) (gLoad (v := .int .i64 cost) (k := 7) 0 h_ rfl (by kernel_rfl) (.tmp 89) (by kernel_rfl) rfl (litEv (by kernel_rfl))))) ?_
     refine aoNext rfl (aoVal (fun g_ => [(86, .slice (some ⟨b, 0, none⟩) l.length c), (90, .int .i64 cost)]) (fun g_ a_ h_k => ⟨(h_k.inn 3 _ _ (by kernel_rfl) rfl rfl).trans (by kernel_rfl), (h_k.inn 7 _ _ (by kernel_rfl) rfl rfl).trans (by kernel_rfl), trivial⟩) (fun g_ X_ => (wn rfl)) (fun b_ g_ => by kernel_rfl) (fun b_ g_ X_ w_ h_b h_ => valTo (b := .agg ([.slice (some ⟨b, 0, none⟩) l.length c, .int .i64 cost, .int .i64 0, .int .i64 0]).toArray) (by kernel_rfl) (litRun (by kernel_rfl)))) ?_
     refine aoNext rfl (aoNewAg (z := [.slice none 0 0, .int .i64 0, .int .i64 0, .int .i64 0]) 5 Ty.ag_voxel_api_Planned rfl rfl (fun _ _ _ => ⟨_, rfl⟩) (fun b_ g_ γ_ h_b => Eq.trans (by kernel_rfl) (congrArg (fun x_ => List.set _ 5 (Res.arr γ_ 31 x_)) (bselF (α := List Value) (h_b.post 10 (by kernel_rfl)) [.slice (some ⟨b, 0, none⟩) l.length c, .int .i64 cost, .int .i64 0, .int .i64 0] [.slice none 0 0, .int .i64 0, .int .i64 0, .int .i64 0]))) (fun _ => by kernel_rfl) (by kernel_rfl)) ?_
     refine aoNext rfl (aoStore (gb := fun g_ => (g_ 9)) (k := 0) (cur := fun g_ => [.slice none 0 0, .int .i64 0, .int .i64 0, .int .i64 0]) (vs := fun g_ => [.slice (some ⟨b, 0, none⟩) l.length c, .int .i64 cost, .int .i64 0, .int .i64 0]) 5 (fun g_ => [(12, .pointer (some ⟨(g_ 9), 0, none⟩)), (91, .agg ([.slice (some ⟨b, 0, none⟩) l.length c, .int .i64 cost, .int .i64 0, .int .i64 0]).toArray)]) (fun g_ a_ h_k => ⟨(h_k.inn 9 _ _ (by kernel_rfl) rfl rfl).trans (by kernel_rfl), (h_k.inn 8 _ _ (by kernel_rfl) rfl rfl).trans (by kernel_rfl), trivial⟩) Ty.ag_voxel_api_Planned (fun b_ g_ h_b => by show some (bsel (b_ 9) (Res.arr (g_ 9) 31 (bsel (b_ 10) [.slice (some ⟨b, 0, none⟩) l.length c, .int .i64 cost, .int .i64 0, .int .i64 0] [.slice none 0 0, .int .i64 0, .int .i64 0, .int .i64 0])) Res.free) = some (Res.arr (g_ 9) 31 ([.slice none 0 0, .int .i64 0, .int .i64 0, .int .i64 0])); rw [bselT (h_b.pre 9 (by kernel_rfl)), bselF h_b.no]) (fun g_ X_ => (wn rfl)) rfl (fun g_ X_ => litEv (by kernel_rfl)) (fun g_ X_ => litEv (by kernel_rfl)) (fun _ => by kernel_rfl) (fun _ => by kernel_rfl) (fun _ => by kernel_rfl) (fun b_ g_ h_b => Eq.trans (b := List.set (((.arr g37 78 (plc v (.slice (some ⟨b, 0, none⟩) l.length c) cost (.func (.func vf) first.toArray caps.toArray) gm33)) :: (memoR f gm33 n) :: (.row (.slice (some ⟨b, 0, none⟩) l.length c) 38 4 l.length (tlsC l)) :: (.arr g2 25 (vwc v)) :: (.arr g5 31 ([.slice none 0 0, .int .i64 0, .int .i64 0, .int .i64 0])) :: (bsel (b_ 9) (.arr (g_ 9) 31 (bsel (b_ 10) [.slice (some ⟨b, 0, none⟩) l.length c, .int .i64 cost, .int .i64 0, .int .i64 0] [.slice none 0 0, .int .i64 0, .int .i64 0, .int .i64 0])) .free) :: [])) 5 (bsel (b_ 9) (Res.arr (g_ 9) 31 ([.slice (some ⟨b, 0, none⟩) l.length c, .int .i64 cost, .int .i64 0, .int .i64 0])) Res.free)) (by kernel_rfl) (congrArg (fun x_ => List.set _ 5 x_) (bselT (h_b.pre 9 (by kernel_rfl)) _ _))) rfl) ?_
     exact aoDone (by decide)
   intro g_ a_ w96 hF_ hm95
   obtain ⟨X97, rfl⟩ := frLit (⟨hF_.size, hF_.defers, ⟨(hF_.out 4 (by kernel_rfl)).trans (litGet (by kernel_rfl)), (hF_.out 6 (by kernel_rfl)).trans (litGet (by kernel_rfl)), (hF_.out 7 (by kernel_rfl)).trans (litGet (by kernel_rfl)), (hF_.out 10 (by kernel_rfl)).trans (litGet (by kernel_rfl)), (hF_.inn 9 _ _ rfl rfl).trans (by kernel_rfl), (hF_.inn 0 _ _ rfl rfl).trans (by kernel_rfl), (hF_.inn 1 _ _ rfl rfl).trans (by kernel_rfl), (hF_.inn 2 _ _ rfl rfl).trans (by kernel_rfl), (hF_.inn 3 _ _ rfl rfl).trans (by kernel_rfl), (hF_.inn 4 _ _ rfl rfl).trans (by kernel_rfl), (hF_.inn 5 _ _ rfl rfl).trans (by kernel_rfl), (hF_.inn 6 _ _ rfl rfl).trans (by kernel_rfl), (hF_.inn 7 _ _ rfl rfl).trans (by kernel_rfl), (hF_.inn 8 _ _ rfl rfl).trans (by kernel_rfl), trivial⟩⟩ : Fr _ 117 [(4, .pointer (some ⟨g2, 0, none⟩)), (6, .pointer (some ⟨g5, 0, none⟩)), (7, .int .i64 0), (10, .pointer (some ⟨g37, 0, none⟩)), (12, .pointer (some ⟨(g_ 9), 0, none⟩)), (83, .pointer (some ⟨g37, 0, none⟩)), (84, .pointer (some ⟨g37, 0, none⟩)), (85, .pointer (some ⟨g37, 6, none⟩)), (86, .slice (some ⟨b, 0, none⟩) l.length c), (87, .pointer (some ⟨g37, 0, none⟩)), (88, .pointer (some ⟨g37, 0, none⟩)), (89, .pointer (some ⟨g37, 7, none⟩)), (90, .int .i64 cost), (91, .agg ([.slice (some ⟨b, 0, none⟩) l.length c, .int .i64 cost, .int .i64 0, .int .i64 0]).toArray)])
   clear hF_
   have hm98 : Mem w w96 [.arr g37 78 (plc v (.slice (some ⟨b, 0, none⟩) l.length c) cost (.func (.func vf) first.toArray caps.toArray) gm33), memoR f gm33 n, .row (.slice (some ⟨b, 0, none⟩) l.length c) 38 4 l.length (tlsC l), .arr g2 25 (vwc v), .arr g5 31 ([.slice none 0 0, .int .i64 0, .int .i64 0, .int .i64 0]), .arr (g_ 9) 31 ([.slice (some ⟨b, 0, none⟩) l.length c, .int .i64 cost, .int .i64 0, .int .i64 0])] := hm95
   clear hm95 hm65
   generalize g_ 9 = g99 at hm98 ⊢
   clear g_
   refine then_normal (hK94 _ _ ?_)
   refine wp_seq_k fun K100 hK100 => ?_
   refine wp_seq_k fun K101 hK101 => ?_
   refine plStart ?_
   refine lk (v := .pointer (some ⟨g37, 0, none⟩)) rfl rfl rfl ?_
   refine lk (v := .pointer (some ⟨g37, 0, none⟩)) rfl rfl rfl ?_
   refine lk (v := .pointer (some ⟨g37, 6, none⟩)) rfl rfl rfl ?_
   refine litVal (v := .slice (some ⟨b, 0, none⟩) l.length c) rfl (wn rfl) (gLoad (v := .slice (some ⟨b, 0, none⟩) l.length c) (k := 6) 0 hm98 rfl (by kernel_rfl) (.tmp 94) (by kernel_rfl) rfl (litEv (by kernel_rfl))) rfl (by decide) ?_
   refine litVal (v := .int .i64 (l.length : Int)) rfl (wn rfl) (lenSlRun (A := some ⟨b, 0, none⟩) (n := l.length) (c := c) (.tmp 95) Ty.und_L_api_Tile rfl (litEv (by kernel_rfl))) rfl (by decide) ?_
   refine lk (v := .int .i64 0) rfl rfl rfl ?_
   refine plD ?_
   refine then_normal (hK101 _ _ ?_)
   refine wpPrune [(4, .pointer (some ⟨g2, 0, none⟩)), (6, .pointer (some ⟨g5, 0, none⟩)), (7, .int .i64 0), (12, .pointer (some ⟨g99, 0, none⟩)), (95, .slice (some ⟨b, 0, none⟩) l.length c), (96, .int .i64 (l.length : Int)), (97, .int .i64 0)] ⟨litGet (by kernel_rfl), ⟨litGet (by kernel_rfl), ⟨litGet (by kernel_rfl), ⟨litGet (by kernel_rfl), ⟨litGet (by kernel_rfl), ⟨litGet (by kernel_rfl), ⟨litGet (by kernel_rfl), trivial⟩⟩⟩⟩⟩⟩⟩ (fun X102 => ?_)
   refine wp_block ?_
   refine gwLoop (fun n_ a_ w_ => ∃ (j : Nat) (bnd wst : Int), n_ = l.length - j ∧ (j ≤ l.length) ∧ ((l.drop j).foldl boundF bnd = boundP l) ∧ ((l.drop j).foldl (worstF v) wst = worstP v l) ∧ Fr a_ 117 [(4, .pointer (some ⟨g2, 0, none⟩)), (6, .pointer (some ⟨g5, 0, none⟩)), (7, .int .i64 0), (12, .pointer (some ⟨g99, 0, none⟩)), (95, .slice (some ⟨b, 0, none⟩) l.length c), (96, .int .i64 (l.length : Int)), (97, .int .i64 (j : Int))] ∧ Mem w w_ [.arr g37 78 (plc v (.slice (some ⟨b, 0, none⟩) l.length c) cost (.func (.func vf) first.toArray caps.toArray) gm33), memoR f gm33 n, .row (.slice (some ⟨b, 0, none⟩) l.length c) 38 4 l.length (tlsC l), .arr g2 25 (vwc v), .arr g5 31 ([.slice none 0 0, .int .i64 0, .int .i64 0, .int .i64 0]), .arr g99 31 ([.slice (some ⟨b, 0, none⟩) l.length c, .int .i64 cost, .int .i64 bnd, .int .i64 wst])]) (l.length - 0) ⟨0, 0, 0, rfl, (Nat.zero_le _), rfl, rfl, ⟨litSize, rfl, ⟨litGet (by kernel_rfl), ⟨litGet (by kernel_rfl), ⟨litGet (by kernel_rfl), ⟨litGet (by kernel_rfl), ⟨litGet (by kernel_rfl), ⟨litGet (by kernel_rfl), ⟨litGet (by kernel_rfl), trivial⟩⟩⟩⟩⟩⟩⟩⟩, hm98⟩ ?_
   clear hm98
   intro n_ a105 w103 hI_
   obtain ⟨j, bnd, wst, rfl, hjl, hb1, hb2, hF_, hm104⟩ := hI_
   obtain ⟨X106, rfl⟩ := frLit hF_
   clear hF_
   refine wp_seq_k fun K107 hK107 => ?_
   refine plStart ?_
   by_cases h108 : (j : Int) < (l.length : Int)
   · obtain ⟨t, hkt⟩ : ∃ t, l[j]? = some t := ⟨_, List.getElem?_eq_getElem (by omega)⟩
     have htok : t.Ok := hok.all t (List.mem_of_getElem? hkt)
     have hp2_ := pow12 htok.lv
     have hlv_ := htok.lv
     refine litVal (v := .bool true) rfl (wn rfl) (boolTo (decide_eq_true h108) (lssRun (A := (j : Int)) (B := (l.length : Int)) (.tmp 97) (.tmp 96) rfl (litEv (by kernel_rfl)) (litEv (by kernel_rfl)))) rfl (by decide) ?_
     refine plD ?_
     refine then_normal (hK107 _ _ ?_)
     refine wp_seq_k fun K109 hK109 => ?_
     refine wp_cond_true (litEv (by kernel_rfl)) ?_
     refine wp_skip ?_
     refine then_normal (hK109 _ _ ?_)
     refine wp_seq_k fun K110 hK110 => ?_
     refine wp_block ?_
     refine wp_seq_k fun K111 hK111 => ?_
     refine plStart ?_
     refine litVal (v := .pointer (some ⟨b, 0 + j * 4, none⟩)) rfl (wn rfl) (gIaSl (b := b) (off := 0) (n := l.length) (c := c) (kk := .i64) (K := (j : Int)) (.tmp 95) (.tmp 97) j Ty.sl_L_api_Tile rfl (litEv (by kernel_rfl)) (litEv (by kernel_rfl)) (rfl) (by omega)) rfl (by decide) ?_
     refine litVal (v := .agg (tlc t).toArray) rfl (wn rfl) (gLoadAgRd (vs := tlc t) (m := j * 4) (hm104.rdRow 2 rfl) rfl (fun i_ u_ hu_ => tlsC_get hkt i_ u_ hu_) (by kernel_rfl) (by omega) (.tmp 99) Ty.ag_voxel_api_Tile rfl (litEv (by kernel_rfl))) rfl (by decide) ?_
     refine plAlloc (z := [.int .i64 0, .int .i64 0, .int .i64 0, .int .i64 0]) Ty.ag_voxel_api_Tile hm104 (i := 2) rfl (wn rfl) rfl ?_
     intro g112 w114 hm113
     clear hm104
     try simp only [List.cons_append, List.nil_append, List.set_cons_succ, List.set_cons_zero] at hm113
     refine qP rfl ?_
     refine plStore 6 Ty.ag_voxel_api_Tile hm113 rfl (i := 3) (cs := tlc t) rfl (wn rfl) rfl (litEv (by kernel_rfl)) (litEv (by kernel_rfl)) rfl rfl (by kernel_rfl) ?_
     intro w116 hm115
     clear hm113
     try simp only [List.cons_append, List.nil_append, List.set_cons_succ, List.set_cons_zero] at hm115
     refine qNone rfl ?_
     refine plD ?_
     refine then_normal (hK111 _ _ ?_)
     refine aoStart (aoV [fun _ => .pointer (some ⟨g99, 2, none⟩), fun _ => .int .i64 bnd, fun _ => .pointer (some ⟨g112, 0, none⟩), fun _ => .int .i64 t.lv, fun _ => .int .i64 (2 ^ t.lv.toNat), fun _ => .int .i64 (max bnd (2 ^ t.lv.toNat)), fun _ => .pointer (some ⟨g99, 3, none⟩), fun _ => .int .i64 wst, fun _ => .agg (vwc v).toArray, fun _ => .agg (tlc t).toArray, fun _ => .int .i64 (err v t), fun _ => .int .i64 (max wst (err v t)), fun _ => .pointer (some ⟨g99, 2, none⟩), fun _ => undef, fun _ => .pointer (some ⟨g99, 3, none⟩), fun _ => undef]) (aoA [0, 1, 2, 3, 4, 5, 6, 7, 8, 9, 10, 11, 12, 13, 14, 15]) (fun b_ g_ => ((.arr g37 78 (plc v (.slice (some ⟨b, 0, none⟩) l.length c) cost (.func (.func vf) first.toArray caps.toArray) gm33)) :: (memoR f gm33 n) :: (.row (.slice (some ⟨b, 0, none⟩) l.length c) 38 4 l.length (tlsC l)) :: (.arr g2 25 (vwc v)) :: (.arr g5 31 ([.slice none 0 0, .int .i64 0, .int .i64 0, .int .i64 0])) :: (.arr g99 31 (bsel (b_ 15) [.slice (some ⟨b, 0, none⟩) l.length c, .int .i64 cost, .int .i64 (max bnd (2 ^ t.lv.toNat)), .int .i64 (max wst (err v t))] (bsel (b_ 13) [.slice (some ⟨b, 0, none⟩) l.length c, .int .i64 cost, .int .i64 (max bnd (2 ^ t.lv.toNat)), .int .i64 wst] [.slice (some ⟨b, 0, none⟩) l.length c, .int .i64 cost, .int .i64 bnd, .int .i64 wst]))) :: (.arr g112 38 (tlc t)) :: [])) hm115 (by kernel_rfl) (by kernel_rfl) (fun w_ h_ => h_) (fun b_ g_ h_ => by show (fun (x13_ x15_ : Bool) => (((.arr g37 78 (plc v (.slice (some ⟨b, 0, none⟩) l.length c) cost (.func (.func vf) first.toArray caps.toArray) gm33)) :: (memoR f gm33 n) :: (.row (.slice (some ⟨b, 0, none⟩) l.length c) 38 4 l.length (tlsC l)) :: (.arr g2 25 (vwc v)) :: (.arr g5 31 ([.slice none 0 0, .int .i64 0, .int .i64 0, .int .i64 0])) :: (.arr g99 31 (bsel x15_ [.slice (some ⟨b, 0, none⟩) l.length c, .int .i64 cost, .int .i64 (max bnd (2 ^ t.lv.toNat)), .int .i64 (max wst (err v t))] (bsel x13_ [.slice (some ⟨b, 0, none⟩) l.length c, .int .i64 cost, .int .i64 (max bnd (2 ^ t.lv.toNat)), .int .i64 wst] [.slice (some ⟨b, 0, none⟩) l.length c, .int .i64 cost, .int .i64 bnd, .int .i64 wst]))) :: (.arr g112 38 (tlc t)) :: []) : List Res)) (b_ 13) (b_ 15) = _; rw [h_ 13 (by decide), h_ 15 (by decide)]) ?_ ?_
     · refine aoNext rfl (aoVal (fun g_ => [(12, .pointer (some ⟨g99, 0, none⟩))]) (fun g_ a_ h_k => ⟨(h_k.out 12 (by kernel_rfl)).trans (litGet (by kernel_rfl)), trivial⟩) (fun g_ X_ => (wn rfl)) (fun b_ g_ => by kernel_rfl) (fun b_ g_ X_ w_ h_b h_ => valTo (b := .pointer (some ⟨g99, 2, none⟩)) (by kernel_rfl) (litRun (by kernel_rfl)))) ?_
       refine aoNext rfl (aoVal (fun g_ => [(101, .pointer (some ⟨g99, 2, none⟩))]) (fun g_ a_ h_k => ⟨(h_k.inn 0 _ _ (by kernel_rfl) rfl rfl).trans (by kernel_rfl), trivial⟩) (fun g_ X_ => (wn rfl)) (fun b_ g_ => by kernel_rfl) (fun b_ g_ X_ w_ h_b h_ => valTo (b := .int .i64 bnd) (by kernel_rfl) ((fun (h_ : Mem _ w_ ((.arr g37 78 (plc v (.slice (some ⟨b, 0, none⟩) l.length c) cost (.func (.func vf) first.toArray caps.toArray) gm33)) :: (memoR f gm33 n) :: (.row (.slice (some ⟨b, 0, none⟩) l.length c) 38 4 l.length (tlsC l)) :: (.arr g2 25 (vwc v)) :: (.arr g5 31 ([.slice none 0 0, .int .i64 0, .int .i64 0, .int .i64 0])) :: (.arr g99 31 ([.slice (some ⟨b, 0, none⟩) l.length c, .int .i64 cost, .int .i64 bnd, .int .i64 wst])) :: (.arr g112 38 (tlc t)) :: [])) => gLoad (v := .int .i64 bnd) (k := 2) 5 h_ rfl (by kernel_rfl) (.tmp 101) (by kernel_rfl) rfl (litEv (by kernel_rfl))) (by have h2_ : Mem w w_ ((.arr g37 78 (plc v (.slice (some ⟨b, 0, none⟩) l.length c) cost (.func (.func vf) first.toArray caps.toArray) gm33)) :: (memoR f gm33 n) :: (.row (.slice (some ⟨b, 0, none⟩) l.length c) 38 4 l.length (tlsC l)) :: (.arr g2 25 (vwc v)) :: (.arr g5 31 ([.slice none 0 0, .int .i64 0, .int .i64 0, .int .i64 0])) :: (.arr g99 31 (bsel (b_ 15) [.slice (some ⟨b, 0, none⟩) l.length c, .int .i64 cost, .int .i64 (max bnd (2 ^ t.lv.toNat)), .int .i64 (max wst (err v t))] (bsel (b_ 13) [.slice (some ⟨b, 0, none⟩) l.length c, .int .i64 cost, .int .i64 (max bnd (2 ^ t.lv.toNat)), .int .i64 wst] [.slice (some ⟨b, 0, none⟩) l.length c, .int .i64 cost, .int .i64 bnd, .int .i64 wst]))) :: (.arr g112 38 (tlc t)) :: []) := h_; rw [bselF (h_b.post 15 (by kernel_rfl)), bselF (h_b.post 13 (by kernel_rfl))] at h2_; exact h2_)))) ?_
       refine aoNext rfl (aoVal (fun g_ => [(14, .pointer (some ⟨g112, 0, none⟩))]) (fun g_ a_ h_k => ⟨(h_k.out 14 (by kernel_rfl)).trans (litGet (by kernel_rfl)), trivial⟩) (fun g_ X_ => (wn rfl)) (fun b_ g_ => by kernel_rfl) (fun b_ g_ X_ w_ h_b h_ => valTo (b := .pointer (some ⟨g112, 0, none⟩)) (by kernel_rfl) (litRun (by kernel_rfl)))) ?_
       refine aoNext rfl (aoVal (fun g_ => [(103, .pointer (some ⟨g112, 0, none⟩))]) (fun g_ a_ h_k => ⟨(h_k.inn 2 _ _ (by kernel_rfl) rfl rfl).trans (by kernel_rfl), trivial⟩) (fun g_ X_ => (wn rfl)) (fun b_ g_ => by kernel_rfl) (fun b_ g_ X_ w_ h_b h_ => valTo (b := .int .i64 t.lv) (by kernel_rfl) ((fun (h_ : Mem _ w_ ((.arr g37 78 (plc v (.slice (some ⟨b, 0, none⟩) l.length c) cost (.func (.func vf) first.toArray caps.toArray) gm33)) :: (memoR f gm33 n) :: (.row (.slice (some ⟨b, 0, none⟩) l.length c) 38 4 l.length (tlsC l)) :: (.arr g2 25 (vwc v)) :: (.arr g5 31 ([.slice none 0 0, .int .i64 0, .int .i64 0, .int .i64 0])) :: (.arr g99 31 ([.slice (some ⟨b, 0, none⟩) l.length c, .int .i64 cost, .int .i64 bnd, .int .i64 wst])) :: (.arr g112 38 (tlc t)) :: [])) => gLoad (v := .int .i64 t.lv) (k := 0) 6 h_ rfl (by kernel_rfl) (.tmp 103) (by kernel_rfl) rfl (litEv (by kernel_rfl))) (by have h2_ : Mem w w_ ((.arr g37 78 (plc v (.slice (some ⟨b, 0, none⟩) l.length c) cost (.func (.func vf) first.toArray caps.toArray) gm33)) :: (memoR f gm33 n) :: (.row (.slice (some ⟨b, 0, none⟩) l.length c) 38 4 l.length (tlsC l)) :: (.arr g2 25 (vwc v)) :: (.arr g5 31 ([.slice none 0 0, .int .i64 0, .int .i64 0, .int .i64 0])) :: (.arr g99 31 (bsel (b_ 15) [.slice (some ⟨b, 0, none⟩) l.length c, .int .i64 cost, .int .i64 (max bnd (2 ^ t.lv.toNat)), .int .i64 (max wst (err v t))] (bsel (b_ 13) [.slice (some ⟨b, 0, none⟩) l.length c, .int .i64 cost, .int .i64 (max bnd (2 ^ t.lv.toNat)), .int .i64 wst] [.slice (some ⟨b, 0, none⟩) l.length c, .int .i64 cost, .int .i64 bnd, .int .i64 wst]))) :: (.arr g112 38 (tlc t)) :: []) := h_; rw [bselF (h_b.post 15 (by kernel_rfl)), bselF (h_b.post 13 (by kernel_rfl))] at h2_; exact h2_)))) ?_
       refine aoNext rfl (aoVal (fun g_ => [(104, .int .i64 t.lv)]) (fun g_ a_ h_k => ⟨(h_k.inn 3 _ _ (by kernel_rfl) rfl rfl).trans (by kernel_rfl), trivial⟩) (fun g_ X_ => (wn rfl)) (fun b_ g_ => by kernel_rfl) (fun b_ g_ X_ w_ h_b h_ => valTo (b := .int .i64 (2 ^ t.lv.toNat)) (by kernel_rfl) (gShl (A := 1) (N := t.lv) (C := 2 ^ t.lv.toNat) (.const (.int .i64 1)) (.tmp 104) rfl (litEv (by kernel_rfl)) (litEv (by kernel_rfl)) (Int.one_mul _) (by omega) (by omega) (by omega)))) ?_
       refine aoNext rfl (aoVal (fun g_ => [(102, .int .i64 bnd), (105, .int .i64 (2 ^ t.lv.toNat))]) (fun g_ a_ h_k => ⟨(h_k.inn 1 _ _ (by kernel_rfl) rfl rfl).trans (by kernel_rfl), (h_k.inn 4 _ _ (by kernel_rfl) rfl rfl).trans (by kernel_rfl), trivial⟩) (fun g_ X_ => (wn rfl)) (fun b_ g_ => by kernel_rfl) (fun b_ g_ X_ w_ h_b h_ => valTo (b := .int .i64 (max bnd (2 ^ t.lv.toNat))) (by kernel_rfl) (gMax (.tmp 102) (.tmp 105) rfl (litEv (by kernel_rfl)) (litEv (by kernel_rfl))))) ?_
       refine aoNext rfl (aoVal (fun g_ => [(12, .pointer (some ⟨g99, 0, none⟩))]) (fun g_ a_ h_k => ⟨(h_k.out 12 (by kernel_rfl)).trans (litGet (by kernel_rfl)), trivial⟩) (fun g_ X_ => (wn rfl)) (fun b_ g_ => by kernel_rfl) (fun b_ g_ X_ w_ h_b h_ => valTo (b := .pointer (some ⟨g99, 3, none⟩)) (by kernel_rfl) (litRun (by kernel_rfl)))) ?_
       refine aoNext rfl (aoVal (fun g_ => [(107, .pointer (some ⟨g99, 3, none⟩))]) (fun g_ a_ h_k => ⟨(h_k.inn 6 _ _ (by kernel_rfl) rfl rfl).trans (by kernel_rfl), trivial⟩) (fun g_ X_ => (wn rfl)) (fun b_ g_ => by kernel_rfl) (fun b_ g_ X_ w_ h_b h_ => valTo (b := .int .i64 wst) (by kernel_rfl) ((fun (h_ : Mem _ w_ ((.arr g37 78 (plc v (.slice (some ⟨b, 0, none⟩) l.length c) cost (.func (.func vf) first.toArray caps.toArray) gm33)) :: (memoR f gm33 n) :: (.row (.slice (some ⟨b, 0, none⟩) l.length c) 38 4 l.length (tlsC l)) :: (.arr g2 25 (vwc v)) :: (.arr g5 31 ([.slice none 0 0, .int .i64 0, .int .i64 0, .int .i64 0])) :: (.arr g99 31 ([.slice (some ⟨b, 0, none⟩) l.length c, .int .i64 cost, .int .i64 bnd, .int .i64 wst])) :: (.arr g112 38 (tlc t)) :: [])) => gLoad (v := .int .i64 wst) (k := 3) 5 h_ rfl (by kernel_rfl) (.tmp 107) (by kernel_rfl) rfl (litEv (by kernel_rfl))) (by have h2_ : Mem w w_ ((.arr g37 78 (plc v (.slice (some ⟨b, 0, none⟩) l.length c) cost (.func (.func vf) first.toArray caps.toArray) gm33)) :: (memoR f gm33 n) :: (.row (.slice (some ⟨b, 0, none⟩) l.length c) 38 4 l.length (tlsC l)) :: (.arr g2 25 (vwc v)) :: (.arr g5 31 ([.slice none 0 0, .int .i64 0, .int .i64 0, .int .i64 0])) :: (.arr g99 31 (bsel (b_ 15) [.slice (some ⟨b, 0, none⟩) l.length c, .int .i64 cost, .int .i64 (max bnd (2 ^ t.lv.toNat)), .int .i64 (max wst (err v t))] (bsel (b_ 13) [.slice (some ⟨b, 0, none⟩) l.length c, .int .i64 cost, .int .i64 (max bnd (2 ^ t.lv.toNat)), .int .i64 wst] [.slice (some ⟨b, 0, none⟩) l.length c, .int .i64 cost, .int .i64 bnd, .int .i64 wst]))) :: (.arr g112 38 (tlc t)) :: []) := h_; rw [bselF (h_b.post 15 (by kernel_rfl)), bselF (h_b.post 13 (by kernel_rfl))] at h2_; exact h2_)))) ?_
       refine aoNext rfl (aoVal (fun g_ => [(4, .pointer (some ⟨g2, 0, none⟩))]) (fun g_ a_ h_k => ⟨(h_k.out 4 (by kernel_rfl)).trans (litGet (by kernel_rfl)), trivial⟩) (fun g_ X_ => (wn rfl)) (fun b_ g_ => by kernel_rfl) (fun b_ g_ X_ w_ h_b h_ => valTo (b := .agg (vwc v).toArray) (by kernel_rfl) (gLoadAg (vs := vwc v) (k := 0) 3 h_ rfl (by kernel_rfl) (by kernel_rfl) (.tmp 4) Ty.ag_voxel_api_Viewer rfl (litEv (by kernel_rfl))))) ?_
       refine aoNext rfl (aoVal (fun g_ => [(14, .pointer (some ⟨g112, 0, none⟩))]) (fun g_ a_ h_k => ⟨(h_k.out 14 (by kernel_rfl)).trans (litGet (by kernel_rfl)), trivial⟩) (fun g_ X_ => (wn rfl)) (fun b_ g_ => by kernel_rfl) (fun b_ g_ X_ w_ h_b h_ => valTo (b := .agg (tlc t).toArray) (by kernel_rfl) (gLoadAg (vs := tlc t) (k := 0) 6 h_ rfl (by kernel_rfl) (by kernel_rfl) (.tmp 14) Ty.ag_voxel_api_Tile rfl (litEv (by kernel_rfl))))) ?_
       refine aoNext rfl (aoCall (fun g_ => [(109, .agg (vwc v).toArray), (110, .agg (tlc t).toArray)]) (fun g_ a_ h_k => ⟨(h_k.inn 8 _ _ (by kernel_rfl) rfl rfl).trans (by kernel_rfl), (h_k.inn 9 _ _ (by kernel_rfl) rfl rfl).trans (by kernel_rfl), trivial⟩) 14 (fun g_ => [.agg (vwc v).toArray, .agg (tlc t).toArray]) [] [] (by kernel_rfl) (fun g_ X_ => (wn rfl)) (fun b_ g_ => by kernel_rfl) rfl (fun g_ X_ => litEv (by kernel_rfl)) (fun g_ X_ => litArgs (by kernel_rfl)) (fun b_ g_ w_ h_b h_ => (err_any v t hv_ htok _).mono (fun _ _ h_r => ⟨h_r.1.trans (by kernel_rfl), h_r.2⟩))) ?_
       refine aoNext rfl (aoVal (fun g_ => [(108, .int .i64 wst), (111, .int .i64 (err v t))]) (fun g_ a_ h_k => ⟨(h_k.inn 7 _ _ (by kernel_rfl) rfl rfl).trans (by kernel_rfl), (h_k.inn 10 _ _ (by kernel_rfl) rfl rfl).trans (by kernel_rfl), trivial⟩) (fun g_ X_ => (wn rfl)) (fun b_ g_ => by kernel_rfl) (fun b_ g_ X_ w_ h_b h_ => valTo (b := .int .i64 (max wst (err v t))) (by kernel_rfl) (gMax (.tmp 108) (.tmp 111) rfl (litEv (by kernel_rfl)) (litEv (by kernel_rfl))))) ?_
       refine aoNext rfl (aoVal (fun g_ => [(12, .pointer (some ⟨g99, 0, none⟩))]) (fun g_ a_ h_k => ⟨(h_k.out 12 (by kernel_rfl)).trans (litGet (by kernel_rfl)), trivial⟩) (fun g_ X_ => (wn rfl)) (fun b_ g_ => by kernel_rfl) (fun b_ g_ X_ w_ h_b h_ => valTo (b := .pointer (some ⟨g99, 2, none⟩)) (by kernel_rfl) (litRun (by kernel_rfl)))) ?_
       refine aoNext rfl (aoStore1 (gb := fun g_ => g99) (k := 2) (cur := fun g_ => [.slice (some ⟨b, 0, none⟩) l.length c, .int .i64 cost, .int .i64 bnd, .int .i64 wst]) (v := fun g_ => .int .i64 (max bnd (2 ^ t.lv.toNat))) (v0 := fun g_ => .int .i64 bnd) 5 (fun g_ => [(106, .int .i64 (max bnd (2 ^ t.lv.toNat))), (113, .pointer (some ⟨g99, 2, none⟩))]) (fun g_ a_ h_k => ⟨(h_k.inn 5 _ _ (by kernel_rfl) rfl rfl).trans (by kernel_rfl), (h_k.inn 12 _ _ (by kernel_rfl) rfl rfl).trans (by kernel_rfl), trivial⟩) (by kernel_rfl) (fun b_ g_ h_b => by show some (Res.arr g99 31 (bsel (b_ 15) [.slice (some ⟨b, 0, none⟩) l.length c, .int .i64 cost, .int .i64 (max bnd (2 ^ t.lv.toNat)), .int .i64 (max wst (err v t))] (bsel (b_ 13) [.slice (some ⟨b, 0, none⟩) l.length c, .int .i64 cost, .int .i64 (max bnd (2 ^ t.lv.toNat)), .int .i64 wst] [.slice (some ⟨b, 0, none⟩) l.length c, .int .i64 cost, .int .i64 bnd, .int .i64 wst]))) = some (Res.arr g99 31 ([.slice (some ⟨b, 0, none⟩) l.length c, .int .i64 cost, .int .i64 bnd, .int .i64 wst])); rw [bselF (h_b.post 15 (by kernel_rfl)), bselF h_b.no]) (fun g_ X_ => (wn rfl)) rfl (fun g_ X_ => litEv (by kernel_rfl)) (fun g_ X_ => litEv (by kernel_rfl)) (fun _ => rfl) (fun _ => rfl) (fun _ => rfl) (fun b_ g_ h_b => Eq.trans (by kernel_rfl) (congrArg (fun x_ => List.set _ 5 (Res.arr g99 31 x_)) (bselF (α := List Value) (h_b.post 15 (by kernel_rfl)) [.slice (some ⟨b, 0, none⟩) l.length c, .int .i64 cost, .int .i64 (max bnd (2 ^ t.lv.toNat)), .int .i64 (max wst (err v t))] [.slice (some ⟨b, 0, none⟩) l.length c, .int .i64 cost, .int .i64 (max bnd (2 ^ t.lv.toNat)), .int .i64 wst]))) rfl) ?_
       refine aoNext rfl (aoVal (fun g_ => [(12, .pointer (some ⟨g99, 0, none⟩))]) (fun g_ a_ h_k => ⟨(h_k.out 12 (by kernel_rfl)).trans (litGet (by kernel_rfl)), trivial⟩) (fun g_ X_ => (wn rfl)) (fun b_ g_ => by kernel_rfl) (fun b_ g_ X_ w_ h_b h_ => valTo (b := .pointer (some ⟨g99, 3, none⟩)) (by kernel_rfl) (litRun (by kernel_rfl)))) ?_
       refine aoNext rfl (aoStore1 (gb := fun g_ => g99) (k := 3) (cur := fun g_ => [.slice (some ⟨b, 0, none⟩) l.length c, .int .i64 cost, .int .i64 (max bnd (2 ^ t.lv.toNat)), .int .i64 wst]) (v := fun g_ => .int .i64 (max wst (err v t))) (v0 := fun g_ => .int .i64 wst) 5 (fun g_ => [(112, .int .i64 (max wst (err v t))), (114, .pointer (some ⟨g99, 3, none⟩))]) (fun g_ a_ h_k => ⟨(h_k.inn 11 _ _ (by kernel_rfl) rfl rfl).trans (by kernel_rfl), (h_k.inn 14 _ _ (by kernel_rfl) rfl rfl).trans (by kernel_rfl), trivial⟩) (by kernel_rfl) (fun b_ g_ h_b => by show some (Res.arr g99 31 (bsel (b_ 15) [.slice (some ⟨b, 0, none⟩) l.length c, .int .i64 cost, .int .i64 (max bnd (2 ^ t.lv.toNat)), .int .i64 (max wst (err v t))] (bsel (b_ 13) [.slice (some ⟨b, 0, none⟩) l.length c, .int .i64 cost, .int .i64 (max bnd (2 ^ t.lv.toNat)), .int .i64 wst] [.slice (some ⟨b, 0, none⟩) l.length c, .int .i64 cost, .int .i64 bnd, .int .i64 wst]))) = some (Res.arr g99 31 ([.slice (some ⟨b, 0, none⟩) l.length c, .int .i64 cost, .int .i64 (max bnd (2 ^ t.lv.toNat)), .int .i64 wst])); rw [bselF h_b.no, bselT (h_b.pre 13 (by kernel_rfl))]) (fun g_ X_ => (wn rfl)) rfl (fun g_ X_ => litEv (by kernel_rfl)) (fun g_ X_ => litEv (by kernel_rfl)) (fun _ => rfl) (fun _ => rfl) (fun _ => rfl) (fun b_ g_ h_b => by kernel_rfl) rfl) ?_
       exact aoDone (by decide)
     intro g_ a_ w118 hF_ hm117
     obtain ⟨X119, rfl⟩ := frLit (⟨hF_.size, hF_.defers, ⟨(hF_.out 4 (by kernel_rfl)).trans (litGet (by kernel_rfl)), (hF_.out 6 (by kernel_rfl)).trans (litGet (by kernel_rfl)), (hF_.out 7 (by kernel_rfl)).trans (litGet (by kernel_rfl)), (hF_.out 12 (by kernel_rfl)).trans (litGet (by kernel_rfl)), (hF_.out 14 (by kernel_rfl)).trans (litGet (by kernel_rfl)), (hF_.out 95 (by kernel_rfl)).trans (litGet (by kernel_rfl)), (hF_.out 96 (by kernel_rfl)).trans (litGet (by kernel_rfl)), (hF_.out 97 (by kernel_rfl)).trans (litGet (by kernel_rfl)), (hF_.out 98 (by kernel_rfl)).trans (litGet (by kernel_rfl)), (hF_.out 99 (by kernel_rfl)).trans (litGet (by kernel_rfl)), (hF_.out 100 (by kernel_rfl)).trans (litGet (by kernel_rfl)), (hF_.inn 0 _ _ rfl rfl).trans (by kernel_rfl), (hF_.inn 1 _ _ rfl rfl).trans (by kernel_rfl), (hF_.inn 2 _ _ rfl rfl).trans (by kernel_rfl), (hF_.inn 3 _ _ rfl rfl).trans (by kernel_rfl), (hF_.inn 4 _ _ rfl rfl).trans (by kernel_rfl), (hF_.inn 5 _ _ rfl rfl).trans (by kernel_rfl), (hF_.inn 6 _ _ rfl rfl).trans (by kernel_rfl), (hF_.inn 7 _ _ rfl rfl).trans (by kernel_rfl), (hF_.inn 8 _ _ rfl rfl).trans (by kernel_rfl), (hF_.inn 9 _ _ rfl rfl).trans (by kernel_rfl), (hF_.inn 10 _ _ rfl rfl).trans (by kernel_rfl), (hF_.inn 11 _ _ rfl rfl).trans (by kernel_rfl), (hF_.inn 12 _ _ rfl rfl).trans (by kernel_rfl), (hF_.inn 14 _ _ rfl rfl).trans (by kernel_rfl), trivial⟩⟩ : Fr _ 117 [(4, .pointer (some ⟨g2, 0, none⟩)), (6, .pointer (some ⟨g5, 0, none⟩)), (7, .int .i64 0), (12, .pointer (some ⟨g99, 0, none⟩)), (14, .pointer (some ⟨g112, 0, none⟩)), (95, .slice (some ⟨b, 0, none⟩) l.length c), (96, .int .i64 (l.length : Int)), (97, .int .i64 (j : Int)), (98, .bool true), (99, .pointer (some ⟨b, 0 + j * 4, none⟩)), (100, .agg (tlc t).toArray), (101, .pointer (some ⟨g99, 2, none⟩)), (102, .int .i64 bnd), (103, .pointer (some ⟨g112, 0, none⟩)), (104, .int .i64 t.lv), (105, .int .i64 (2 ^ t.lv.toNat)), (106, .int .i64 (max bnd (2 ^ t.lv.toNat))), (107, .pointer (some ⟨g99, 3, none⟩)), (108, .int .i64 wst), (109, .agg (vwc v).toArray), (110, .agg (tlc t).toArray), (111, .int .i64 (err v t)), (112, .int .i64 (max wst (err v t))), (113, .pointer (some ⟨g99, 2, none⟩)), (114, .pointer (some ⟨g99, 3, none⟩))])
     clear hF_
     have hm120 : Mem w w118 [.arr g37 78 (plc v (.slice (some ⟨b, 0, none⟩) l.length c) cost (.func (.func vf) first.toArray caps.toArray) gm33), memoR f gm33 n, .row (.slice (some ⟨b, 0, none⟩) l.length c) 38 4 l.length (tlsC l), .arr g2 25 (vwc v), .arr g5 31 ([.slice none 0 0, .int .i64 0, .int .i64 0, .int .i64 0]), .arr g99 31 ([.slice (some ⟨b, 0, none⟩) l.length c, .int .i64 cost, .int .i64 (max bnd (2 ^ t.lv.toNat)), .int .i64 (max wst (err v t))]), .arr g112 38 (tlc t)] := hm117
     clear hm117 hm115
     refine inBlock_normal ?_
     refine then_normal (hK110 _ _ ?_)
     refine plStart ?_
     refine litVal (v := .int .i64 ((j : Int) + 1)) rfl (wn rfl) (addRun (A := (j : Int)) (B := 1) (C := (j : Int) + 1) (.tmp 97) (.const (.int .i64 1)) rfl (litEv (by kernel_rfl)) (litEv (by kernel_rfl)) rfl (by omega)) rfl (by decide) ?_
     refine lk (v := .int .i64 ((j : Int) + 1)) rfl rfl rfl ?_
     refine plD ?_
     refine then_normal ?_
     exact ⟨_, by omega, (j + 1), _, _, rfl, (by omega), (fold_next hkt hb1), (fold_next hkt hb2), ⟨litSize, rfl, ⟨litGet (by kernel_rfl), ⟨litGet (by kernel_rfl), ⟨litGet (by kernel_rfl), ⟨litGet (by kernel_rfl), ⟨litGet (by kernel_rfl), ⟨litGet (by kernel_rfl), ⟨litGet (by kernel_rfl), trivial⟩⟩⟩⟩⟩⟩⟩⟩, (hm120.sub (.cons_cons _ (.cons_cons _ (.cons_cons _ (.cons_cons _ (.cons_cons _ (.cons_cons _ (.cons _ .slnil))))))))⟩
   refine litVal (v := .bool false) rfl (wn rfl) (boolTo (decide_eq_false h108) (lssRun (A := (j : Int)) (B := (l.length : Int)) (.tmp 97) (.tmp 96) rfl (litEv (by kernel_rfl)) (litEv (by kernel_rfl)))) rfl (by decide) ?_
   refine plD ?_
   refine then_normal (hK107 _ _ ?_)
   refine wp_seq_k fun K121 hK121 => ?_
   refine wp_cond_false (litEv (by kernel_rfl)) ?_
   refine wp_exit ?_
   refine then_exit ?_
   refine then_exit ?_
   refine inBlock_exit ?_
   refine then_normal (hK100 _ _ ?_)
   refine wp_seq_k fun K122 hK122 => ?_
   refine plStart ?_
   refine litVal (v := .agg ([.slice (some ⟨b, 0, none⟩) l.length c, .int .i64 cost, .int .i64 bnd, .int .i64 wst]).toArray) rfl (wn rfl) (gLoadAg (vs := [.slice (some ⟨b, 0, none⟩) l.length c, .int .i64 cost, .int .i64 bnd, .int .i64 wst]) (k := 0) 5 hm104 rfl (by kernel_rfl) (by kernel_rfl) (.tmp 12) Ty.ag_voxel_api_Planned rfl (litEv (by kernel_rfl))) rfl (by decide) ?_
   refine plStore 4 Ty.ag_voxel_api_Planned hm104 rfl (i := 1) (cs := [.slice (some ⟨b, 0, none⟩) l.length c, .int .i64 cost, .int .i64 bnd, .int .i64 wst]) rfl (wn rfl) rfl (litEv (by kernel_rfl)) (litEv (by kernel_rfl)) rfl rfl (by kernel_rfl) ?_
   intro w124 hm123
   clear hm104
   try simp only [List.cons_append, List.nil_append, List.set_cons_succ, List.set_cons_zero] at hm123
   refine qNone rfl ?_
   refine lk (v := .int .i64 0) rfl rfl rfl ?_
   refine plD ?_
   refine then_normal (hK122 _ _ ?_)
   refine wp_ret ?_
   refine bodyPost_ret (v := .tuple #[.agg ([.slice (some ⟨b, 0, none⟩) l.length c, .int .i64 cost, .int .i64 bnd, .int .i64 wst]).toArray, .int .i64 0]) (gRes2 rfl (gResAg (cs := [.slice (some ⟨b, 0, none⟩) l.length c, .int .i64 cost, .int .i64 bnd, .int .i64 wst]) 4 hm123 rfl Ty.ag_voxel_api_Planned rfl (litGet (by kernel_rfl))) (gResTmp (t := 7) (v := .int .i64 0) (litGet (by kernel_rfl)))) rfl ?_
   have hE_ : planE f depth v = 0 := planE_0 hd_ hv_ hbud_
   have hR_ := planR_eq hE_ hG_
   rw [List.drop_of_length_le (by omega)] at hb1 hb2
   refine ⟨.slice (some ⟨b, 0, none⟩) l.length c, ?_, ?_, hm123.bel⟩
   · rw [hR_, hE_]
     unfold plnC
     rw [← hb1, ← hb2]
     rfl
   · rw [hR_]
     exact hm123.row 2 rfl
 have hnv_ : ¬ ckV v = 0 := h21
 refine litVal (v := .bool true) rfl (wn rfl) (boolTo (by rw [decide_eq_false h21]; rfl) (neqRun (A := (ckV v)) (B := 0) (.tmp 21) (.const (.int .i64 0)) rfl (litEv (by kernel_rfl)) (litEv (by kernel_rfl)))) rfl (by decide) ?_
 refine plD ?_
 refine then_normal (hK20 _ _ ?_)
 refine wp_cond_true (litEv (by kernel_rfl)) ?_
 refine wp_seq_k fun K125 hK125 => ?_
 refine plStart ?_
 refine lk (v := .agg ([.slice none 0 0, .int .i64 0, .int .i64 0, .int .i64 0]).toArray) rfl rfl rfl ?_
 refine lk (v := .int .i64 (ckV v)) rfl rfl rfl ?_
 refine plStore 1 Ty.ag_voxel_api_Planned hm19 rfl (i := 2) (cs := [.slice none 0 0, .int .i64 0, .int .i64 0, .int .i64 0]) rfl (wn rfl) rfl (litEv (by kernel_rfl)) (litEv (by kernel_rfl)) rfl rfl (by kernel_rfl) ?_
 intro w127 hm126
 clear hm19
 try simp only [List.cons_append, List.nil_append, List.set_cons_succ, List.set_cons_zero] at hm126
 refine qNone rfl ?_
 refine lk (v := .int .i64 (ckV v)) rfl rfl rfl ?_
 refine plD ?_
 refine then_normal (hK125 _ _ ?_)
 refine wp_ret ?_
 refine then_ret ?_
 refine bodyPost_ret (v := .tuple #[.agg ([.slice none 0 0, .int .i64 0, .int .i64 0, .int .i64 0]).toArray, .int .i64 (ckV v)]) (gRes2 rfl (gResAg (cs := [.slice none 0 0, .int .i64 0, .int .i64 0, .int .i64 0]) 1 hm126 rfl Ty.ag_voxel_api_Planned rfl (litGet (by kernel_rfl))) (gResTmp (t := 7) (v := .int .i64 (ckV v)) (litGet (by kernel_rfl)))) rfl ?_
 have hE_ : planE f depth v = 1 := planE_1 hd_ hnv_
 have hR_ := planR_no (f := f) (depth := depth) (v := v) (by rw [hE_]; decide)
 refine ⟨.slice none 0 0, ?_, ?_, hm126.bel⟩
 · rw [hR_, hE_]
   rw [ckV_01 hnv_]
   rfl
 · rw [hR_]
   exact Mem.row (Mem.nilRow hm126 38 4) 2 rfl
end Go.Proofs.Ytkmhjgdpkddbnaa
