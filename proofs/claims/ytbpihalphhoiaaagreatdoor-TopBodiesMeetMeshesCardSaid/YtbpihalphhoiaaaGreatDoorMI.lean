/-
 MI: several texts in one. No statement is proved here.
-/
import Derived.Test.YtbpihalphhoiaaaGreatDoorMZ
import Derived.Test.YtbpihalphhoiaaaGreatDoorMH
set_option maxRecDepth 100000
set_option maxHeartbeats 4000000
set_option linter.unusedVariables false
set_option linter.unusedSimpArgs false
namespace Go.Proofs.YtbpihalphhoiaaaGreatDoor
open Go.RowKit
theorem mul64_any (w : World) : Calls Tryz.prog 136 #[.int .u64 1, .int .u64 6] w (RetV w (.tuple #[.int .u64 0, .int .u64 6])) := by
 have hm0 := Mem.nil w
 go_enter Tryz.func136, Tryz.ntmps136
 refine litStart 51 [(0, .int .u64 1), (1, .int .u64 6)] kr_ (fun X0 => ?_)
 refine sp_ fun _ hK1 => ?_
 refine lk_ (.int .u64 0) ?_
 refine lk_ (.int .u64 0) ?_
 refine pt_ hK1 ?_
 refine sp_ fun _ hK2 => ?_
 refine lk_ (.int .u64 1) ?_
 refine lk_ (.int .u64 1) ?_
 refine lk_ (.int .u64 1) ?_
 refine pt_ hK2 ?_
 refine sp_ fun _ hK3 => ?_
 refine lk_ (.int .u64 1) ?_
 refine lk_ (.int .u64 0) ?_
 refine lk_ (.int .u64 0) ?_
 refine pt_ hK3 ?_
 refine sp_ fun _ hK4 => ?_
 refine lk_ (.int .u64 6) ?_
 refine lk_ (.int .u64 6) ?_
 refine lk_ (.int .u64 6) ?_
 refine pt_ hK4 ?_
 refine sp_ fun _ hK5 => ?_
 refine lk_ (.int .u64 6) ?_
 refine lk_ (.int .u64 0) ?_
 refine lk_ (.int .u64 0) ?_
 refine pt_ hK5 ?_
 refine sp_ fun _ hK6 => ?_
 refine lk_ (.int .u64 1) ?_
 refine lk_ (.int .u64 6) ?_
 refine lk_ (.int .u64 6) ?_
 refine lk_ (.int .u64 6) ?_
 refine pt_ hK6 ?_
 refine sp_ fun _ hK7 => ?_
 refine lk_ (.int .u64 0) ?_
 refine lk_ (.int .u64 6) ?_
 refine lk_ (.int .u64 0) ?_
 refine lk_ (.int .u64 6) ?_
 refine lk_ (.int .u64 0) ?_
 refine lk_ (.int .u64 0) ?_
 refine lk_ (.int .u64 0) ?_
 refine pt_ hK7 ?_
 refine wpPrune [(0, .int .u64 1), (1, .int .u64 6), (4, .int .u64 0), (5, .int .u64 0), (6, .int .u64 1), (7, .int .u64 0), (9, .int .u64 0), (11, .int .u64 0)] fo_ (fun X8 => ?_)
 refine sp_ fun _ hK9 => ?_
 refine lk_ (.int .u64 0) ?_
 refine lk_ (.int .u64 0) ?_
 refine lk_ (.int .u64 0) ?_
 refine pt_ hK9 ?_
 refine sp_ fun _ hK10 => ?_
 refine lk_ (.int .u64 0) ?_
 refine lk_ (.int .u64 0) ?_
 refine lk_ (.int .u64 0) ?_
 refine pt_ hK10 ?_
 refine sp_ fun _ hK11 => ?_
 refine lk_ (.int .u64 0) ?_
 refine lk_ (.int .u64 1) ?_
 refine lk_ (.int .u64 0) ?_
 refine lk_ (.int .u64 0) ?_
 refine lk_ (.int .u64 0) ?_
 refine lk_ (.int .u64 0) ?_
 refine pt_ hK11 ?_
 refine sp_ fun _ hK12 => ?_
 refine lk_ (.int .u64 0) ?_
 refine lk_ (.int .u64 0) ?_
 refine lk_ (.int .u64 0) ?_
 refine lk_ (.int .u64 0) ?_
 refine lk_ (.int .u64 0) ?_
 refine lk_ (.int .u64 0) ?_
 refine lk_ (.int .u64 0) ?_
 refine lk_ (.int .u64 0) ?_
 refine lk_ (.int .u64 0) ?_
 refine pt_ hK12 ?_
 refine wpPrune [(0, .int .u64 1), (1, .int .u64 6), (4, .int .u64 0), (5, .int .u64 0)] fo_ (fun X13 => ?_)
 refine sp_ fun _ hK14 => ?_
 refine lk_ (.int .u64 1) ?_
 refine lk_ (.int .u64 6) ?_
 refine lk_ (.int .u64 6) ?_
 refine lk_ (.int .u64 6) ?_
 refine pt_ hK14 ?_
 refine wp_ret ?_
 refine bodyPost_ret (v := .tuple #[.int .u64 0, .int .u64 6]) (gRes2 rfl (gResTmp (t := 4) (v := .int .u64 0) (lg_)) (gResTmp (t := 5) (v := .int .u64 6) (lg_))) rfl ?_
 exact ⟨by rfl, hm0.bel⟩
theorem mul_any (w : World) : Calls Tryz.prog 122 #[.int .u64 1, .int .u64 6] w (RetV w (.tuple #[.int .u64 0, .int .u64 6])) := by
 have hm0 := Mem.nil w
 go_enter Tryz.func122, Tryz.ntmps122
 refine litStart 30 [(0, .int .u64 1), (1, .int .u64 6)] kr_ (fun X0 => ?_)
 refine sp_ fun _ hK1 => ?_
 refine lk_ (.int .u64 0) ?_
 refine lk_ (.int .u64 0) ?_
 refine pt_ hK1 ?_
 refine sk_ fun _ hK2 => ?_
 refine wp_cond_false le_ ?_
 refine wp_skip ?_
 refine tn_ hK2 ?_
 refine sp_ fun _ hK3 => ?_
 refine lk_ (.int .u64 1) ?_
 refine lk_ (.int .u64 6) ?_
 refine plCall (i := 2) 136 [.int .u64 1, .int .u64 6] [] [] rfl kr_ (wn rfl) rfl le_ (litArgs kr_) (mul64_any _) ?_
 rintro e w4 ⟨rfl, hbz⟩
 have hm5 := hm0.below hbz
 clear hbz hm0
 refine ⟨_, rfl, ?_⟩
 refine qP rfl ?_
 refine lk_ (.tuple #[.int .u64 0, .int .u64 6]) ?_
 refine lk_ (.int .u64 0) ?_
 refine lk_ (.int .u64 6) ?_
 refine lk_ (.int .u64 0) ?_
 refine lk_ (.int .u64 6) ?_
 refine pt_ hK3 ?_
 refine sp_ fun _ hK6 => ?_
 refine lk_ (.int .u64 0) ?_
 refine lk_ (.int .u64 6) ?_
 refine lk_ (.int .u64 0) ?_
 refine lk_ (.int .u64 6) ?_
 refine pt_ hK6 ?_
 refine wpPrune [(4, .int .u64 0), (5, .int .u64 6)] fo_ (fun X7 => ?_)
 refine wp_ret ?_
 refine bodyPost_ret (v := .tuple #[.int .u64 0, .int .u64 6]) (gRes2 rfl (gResTmp (t := 4) (v := .int .u64 0) (lg_)) (gResTmp (t := 5) (v := .int .u64 6) (lg_))) rfl ?_
 exact ⟨by rfl, hm5.bel⟩
theorem plMakeArr {P : Program} {ops : Array Oper} {Q : Exit → Act → World → Prop} {a : Act} {w w0 : World} {o : Oper} {L : List Res} {i : Nat} {x y : Operand} {t e : TypeId} {m : Nat} {cs : List Value} (hm : Mem w0 w L) (hi : ops.toList[i]? = some o) (hw : Region.wanted o (yielded ops a.tmps) = true) (ho : o.op = .makeSlice t x y) (hx : a.eval x = .int .i64 (m : Int)) (hy : a.eval y = .int .i64 (m : Int))
 (hmk : ∀ w : World, (Instr.makeSlice t (.int .i64 (m : Int)) (.int .i64 (m : Int))).run P w = .ok (.slice (some ⟨w.heap.size, 0, none⟩) m m) (w.alloc (.cells cs.toArray e)))
 (h : ∀ g w', Mem w0 w' (L ++ [.arr g e cs]) → PL P ops Q (i + 1) (a.put o.dst (.slice (some ⟨g, 0, none⟩) m m)) w') : PL P ops Q i a w :=
 plOf hi (mkRunT (m := m) (n := m) hw ho hx hy hmk fun w' hA hB => (h _ w' (hm.new hB hA)).out)
theorem repeat_any (A : Option Addr) (c : Nat) (w : World) (hr : Rd w w.heap.size 1 A 1 c [.int .i64 (-1)]) : Calls Tryz.prog 93 #[.slice A 1 c, .int .i64 6] w (fun e w' => ∃ v, e = .returned v ∧ w'.ownsRow w.heap.size 3 1 v 6 (ics [-1, -1, -1, -1, -1, -1]) ∧ Below w.heap.size w w') := by
 have hm0 := Mem.nil w
 go_enter Tryz.func93, Tryz.ntmps93
 refine litStart 48 [(0, .slice A 1 c), (1, .int .i64 6)] kr_ (fun X0 => ?_)
 refine sp_ fun _ hK1 => ?_
 refine lk_ (.slice none 0 0) ?_
 refine pt_ hK1 ?_
 refine sk_ fun _ hK2 => ?_
 refine sp_ fun _ hK3 => ?_
 refine li_ 6 ?_
 refine lF_ ?_
 refine pt_ hK3 ?_
 refine wp_cond_false le_ ?_
 refine wp_skip ?_
 refine tn_ hK2 ?_
 refine sp_ fun _ hK4 => ?_
 refine lk_ (.slice A 1 c) ?_
 refine lv_ rfl (.int .i64 1) (ln_ A 1 c Ty.und_L_int) ?_
 refine lk_ (.int .u64 1) ?_
 refine li_ 6 ?_
 refine lk_ (.int .u64 6) ?_
 refine plCall (i := 5) 122 [.int .u64 1, .int .u64 6] [] [] rfl kr_ (wn rfl) rfl le_ (litArgs kr_) (mul_any _) ?_
 rintro e w5 ⟨rfl, hbz⟩
 have hm6 := hm0.below hbz
 clear hbz hm0
 refine ⟨_, rfl, ?_⟩
 refine qP rfl ?_
 refine lk_ (.tuple #[.int .u64 0, .int .u64 6]) ?_
 refine lk_ (.int .u64 0) ?_
 refine lk_ (.int .u64 6) ?_
 refine lk_ (.int .u64 0) ?_
 refine lk_ (.int .u64 6) ?_
 refine pt_ hK4 ?_
 refine sk_ fun _ hK7 => ?_
 refine sp_ fun _ hK8 => ?_
 refine lk_ (.int .u64 0) ?_
 refine lF_ ?_
 refine lF_ ?_
 refine lw_ rfl (.int .u64 6) (litRun kr_) ?_
 refine lw_ rfl (.bool false) (litRun kr_) ?_
 refine lF_ ?_
 refine pt_ hK8 ?_
 refine wpPrune [(0, .slice A 1 c), (4, .slice none 0 0), (6, .int .u64 6), (26, .bool false)] fo_ (fun X9 => ?_)
 refine wp_cond_false le_ ?_
 refine wp_skip ?_
 refine tn_ hK7 ?_
 refine sp_ fun _ hK10 => ?_
 refine lk_ (.int .u64 6) ?_
 refine li_ 6 ?_
 refine plMakeArr (m := 6) (cs := [.int .i64 0, .int .i64 0, .int .i64 0, .int .i64 0, .int .i64 0, .int .i64 0]) (e := 3) hm6 (i := 2) rfl (wn rfl) rfl le_ le_ (fun w_ => by kernel_rfl) ?_
 intro g11 w12 hm13
 clear hm6
 try simp only [lc_] at hm13
 refine qP rfl ?_
 refine lk_ (.slice (some ⟨g11, 0, none⟩) 6 6) ?_
 refine pt_ hK10 ?_
 refine sp_ fun _ hK14 => ?_
 refine lk_ (.slice (some ⟨g11, 0, none⟩) 6 6) ?_
 refine lk_ (.slice A 1 c) ?_
 refine plCopyRd (off := 0) (sLen := 1) (dLen := 6) (dCap := 6) (sCap := c) (elem := 3) (cs := [.int .i64 (-1)]) 0 hm13 rfl ((Rd.below hr hm13.bel).more hm13.bel.size) (by decide) (by decide) (i := 2) rfl rfl rfl kr_ kr_ le_ le_ kr_ kr_ ?_
 intro w15 hm16
 clear hm13
 try simp only [lc_] at hm16
 have hm17 : Mem w w15 [.arr g11 3 ([.int .i64 (-1), .int .i64 0, .int .i64 0, .int .i64 0, .int .i64 0, .int .i64 0])] := hm16
 clear hm16
 show PL _ _ _ _ (Act.put _ _ (.int .i64 1)) _
 refine qP rfl ?_
 refine li_ 1 ?_
 refine pt_ hK14 ?_
 refine sk_ fun _ hK18 => ?_
 refine wp_block ?_
 refine roundsStart 5 ?_
 refine sk_ fun _ hK19 => ?_
 refine sp_ fun _ hK20 => ?_
 refine li_ 1 ?_
 refine lk_ (.slice (some ⟨g11, 0, none⟩) 6 6) ?_
 refine lv_ rfl (.int .i64 6) (ln_ (some ⟨g11, 0, none⟩) 6 6 Ty.und_L_int) ?_
 refine lT_ ?_
 refine pt_ hK20 ?_
 refine wp_cond_true le_ ?_
 refine wp_skip ?_
 refine tn_ hK19 ?_
 refine wp_block ?_
 refine mgStartM [] hm17 kr_ ?_
 intro w22 hm21
 clear hm17
 have hk23 := (hm21.sub (.cons _ .slnil))
 refine mk_ (i := 0) (v := .int .i64 1) rfl rfl (fun _ _ _ h => h) hk23 rfl ?_
 refine mk_ (i := 1) (v := .slice (some ⟨g11, 0, none⟩) 6 6) rfl rfl (fun _ _ _ h => h) hk23 rfl ?_
 refine mk_ (i := 2) (v := .int .i64 1) rfl rfl (fun _ _ _ h => h) hk23 rfl ?_
 refine mt_ 3 rfl (.slice (some ⟨g11, 1, none⟩) 5 5) hk23 (fun w_ h_ => litRun kr_) ?_
 refine mk_ (i := 4) (v := .slice (some ⟨g11, 0, none⟩) 6 6) rfl rfl (fun _ _ _ h => h) hk23 rfl ?_
 refine mk_ (i := 5) (v := .int .i64 1) rfl rfl (fun _ _ _ h => h) hk23 rfl ?_
 refine mt_ 6 rfl (.slice (some ⟨g11, 0, none⟩) 1 6) hk23 (fun w_ h_ => litRun kr_) ?_
 refine mgCopySelf (off := 1) (dLen := 5) (dCap := 5) (sCap := 6) (elem := 3) (m := 1) 0 hm21 rfl (by decide) 1 (by decide) (i := 7) kr_ rfl rfl rfl kr_ kr_ le_ le_ kr_ kr_ (fun w_ h_ => (h_.sub (.cons _ .slnil))) ?_
 intro w24 hm25
 clear hm21
 try simp only [lc_] at hm25
 have hm26 : Mem w w24 [.arr g11 3 ([.int .i64 (-1), .int .i64 (-1), .int .i64 0, .int .i64 0, .int .i64 0, .int .i64 0])] := hm25
 clear hm25
 show MG _ _ _ _ _ _ _ (Act.put _ _ (.int .i64 1)) _
 refine mP rfl ?_
 have hk27 := (hm26.sub (.cons _ .slnil))
 refine mk_ (i := 8) (v := .int .i64 2) rfl rfl (fun _ _ _ h => h) hk27 rfl ?_
 refine mk_ (i := 9) (v := .int .i64 2) rfl rfl (fun _ _ _ h => h) hk27 rfl ?_
 refine mgDone kr_ ?_
 refine inBlock_normal ?_
 refine then_normal (roundsNext ?_)
 refine sk_ fun _ hK28 => ?_
 refine sp_ fun _ hK29 => ?_
 refine li_ 2 ?_
 refine lk_ (.slice (some ⟨g11, 0, none⟩) 6 6) ?_
 refine lv_ rfl (.int .i64 6) (ln_ (some ⟨g11, 0, none⟩) 6 6 Ty.und_L_int) ?_
 refine lT_ ?_
 refine pt_ hK29 ?_
 refine wpPrune [(4, .slice none 0 0), (7, .slice (some ⟨g11, 0, none⟩) 6 6), (8, .int .i64 2), (34, .int .i64 2), (35, .slice (some ⟨g11, 0, none⟩) 6 6), (36, .int .i64 6), (37, .bool true), (38, .int .i64 1), (39, .slice (some ⟨g11, 0, none⟩) 6 6), (40, .int .i64 1), (41, .slice (some ⟨g11, 1, none⟩) 5 5), (42, .slice (some ⟨g11, 0, none⟩) 6 6), (43, .int .i64 1), (44, .slice (some ⟨g11, 0, none⟩) 1 6), (45, .int .i64 1), (46, .int .i64 2)] fo_ (fun X30 => ?_)
 refine wp_cond_true le_ ?_
 refine wp_skip ?_
 refine tn_ hK28 ?_
 refine wp_block ?_
 refine mgStartM [] hm26 kr_ ?_
 intro w32 hm31
 clear hm26
 have hk33 := (hm31.sub (.cons _ .slnil))
 refine mk_ (i := 0) (v := .int .i64 2) rfl rfl (fun _ _ _ h => h) hk33 rfl ?_
 refine mk_ (i := 1) (v := .slice (some ⟨g11, 0, none⟩) 6 6) rfl rfl (fun _ _ _ h => h) hk33 rfl ?_
 refine mk_ (i := 2) (v := .int .i64 2) rfl rfl (fun _ _ _ h => h) hk33 rfl ?_
 refine mt_ 3 rfl (.slice (some ⟨g11, 2, none⟩) 4 4) hk33 (fun w_ h_ => litRun kr_) ?_
 refine mk_ (i := 4) (v := .slice (some ⟨g11, 0, none⟩) 6 6) rfl rfl (fun _ _ _ h => h) hk33 rfl ?_
 refine mk_ (i := 5) (v := .int .i64 2) rfl rfl (fun _ _ _ h => h) hk33 rfl ?_
 refine mt_ 6 rfl (.slice (some ⟨g11, 0, none⟩) 2 6) hk33 (fun w_ h_ => litRun kr_) ?_
 refine mgCopySelf (off := 2) (dLen := 4) (dCap := 4) (sCap := 6) (elem := 3) (m := 2) 0 hm31 rfl (by decide) 2 (by decide) (i := 7) kr_ rfl rfl rfl kr_ kr_ le_ le_ kr_ kr_ (fun w_ h_ => (h_.sub (.cons _ .slnil))) ?_
 intro w34 hm35
 clear hm31
 try simp only [lc_] at hm35
 have hm36 : Mem w w34 [.arr g11 3 ([.int .i64 (-1), .int .i64 (-1), .int .i64 (-1), .int .i64 (-1), .int .i64 0, .int .i64 0])] := hm35
 clear hm35
 show MG _ _ _ _ _ _ _ (Act.put _ _ (.int .i64 2)) _
 refine mP rfl ?_
 have hk37 := (hm36.sub (.cons _ .slnil))
 refine mk_ (i := 8) (v := .int .i64 4) rfl rfl (fun _ _ _ h => h) hk37 rfl ?_
 refine mk_ (i := 9) (v := .int .i64 4) rfl rfl (fun _ _ _ h => h) hk37 rfl ?_
 refine mgDone kr_ ?_
 refine inBlock_normal ?_
 refine then_normal (roundsNext ?_)
 refine sk_ fun _ hK38 => ?_
 refine sp_ fun _ hK39 => ?_
 refine li_ 4 ?_
 refine lk_ (.slice (some ⟨g11, 0, none⟩) 6 6) ?_
 refine lv_ rfl (.int .i64 6) (ln_ (some ⟨g11, 0, none⟩) 6 6 Ty.und_L_int) ?_
 refine lT_ ?_
 refine pt_ hK39 ?_
 refine wpPrune [(4, .slice none 0 0), (7, .slice (some ⟨g11, 0, none⟩) 6 6), (8, .int .i64 4), (34, .int .i64 4), (35, .slice (some ⟨g11, 0, none⟩) 6 6), (36, .int .i64 6), (37, .bool true), (38, .int .i64 2), (39, .slice (some ⟨g11, 0, none⟩) 6 6), (40, .int .i64 2), (41, .slice (some ⟨g11, 2, none⟩) 4 4), (42, .slice (some ⟨g11, 0, none⟩) 6 6), (43, .int .i64 2), (44, .slice (some ⟨g11, 0, none⟩) 2 6), (45, .int .i64 2), (46, .int .i64 4)] fo_ (fun X40 => ?_)
 refine wp_cond_true le_ ?_
 refine wp_skip ?_
 refine tn_ hK38 ?_
 refine wp_block ?_
 refine mgStartM [] hm36 kr_ ?_
 intro w42 hm41
 clear hm36
 have hk43 := (hm41.sub (.cons _ .slnil))
 refine mk_ (i := 0) (v := .int .i64 4) rfl rfl (fun _ _ _ h => h) hk43 rfl ?_
 refine mk_ (i := 1) (v := .slice (some ⟨g11, 0, none⟩) 6 6) rfl rfl (fun _ _ _ h => h) hk43 rfl ?_
 refine mk_ (i := 2) (v := .int .i64 4) rfl rfl (fun _ _ _ h => h) hk43 rfl ?_
 refine mt_ 3 rfl (.slice (some ⟨g11, 4, none⟩) 2 2) hk43 (fun w_ h_ => litRun kr_) ?_
 refine mk_ (i := 4) (v := .slice (some ⟨g11, 0, none⟩) 6 6) rfl rfl (fun _ _ _ h => h) hk43 rfl ?_
 refine mk_ (i := 5) (v := .int .i64 4) rfl rfl (fun _ _ _ h => h) hk43 rfl ?_
 refine mt_ 6 rfl (.slice (some ⟨g11, 0, none⟩) 4 6) hk43 (fun w_ h_ => litRun kr_) ?_
 refine mgCopySelf (off := 4) (dLen := 2) (dCap := 2) (sCap := 6) (elem := 3) (m := 4) 0 hm41 rfl (by decide) 2 (by decide) (i := 7) kr_ rfl rfl rfl kr_ kr_ le_ le_ kr_ kr_ (fun w_ h_ => (h_.sub (.cons _ .slnil))) ?_
 intro w44 hm45
 clear hm41
 try simp only [lc_] at hm45
 have hm46 : Mem w w44 [.arr g11 3 ([.int .i64 (-1), .int .i64 (-1), .int .i64 (-1), .int .i64 (-1), .int .i64 (-1), .int .i64 (-1)])] := hm45
 clear hm45
 show MG _ _ _ _ _ _ _ (Act.put _ _ (.int .i64 2)) _
 refine mP rfl ?_
 have hk47 := (hm46.sub (.cons _ .slnil))
 refine mk_ (i := 8) (v := .int .i64 6) rfl rfl (fun _ _ _ h => h) hk47 rfl ?_
 refine mk_ (i := 9) (v := .int .i64 6) rfl rfl (fun _ _ _ h => h) hk47 rfl ?_
 refine mgDone kr_ ?_
 refine inBlock_normal ?_
 refine then_normal (roundsNext ?_)
 refine sk_ fun _ hK48 => ?_
 refine sp_ fun _ hK49 => ?_
 refine li_ 6 ?_
 refine lk_ (.slice (some ⟨g11, 0, none⟩) 6 6) ?_
 refine lv_ rfl (.int .i64 6) (ln_ (some ⟨g11, 0, none⟩) 6 6 Ty.und_L_int) ?_
 refine lF_ ?_
 refine pt_ hK49 ?_
 refine wpPrune [(4, .slice none 0 0), (7, .slice (some ⟨g11, 0, none⟩) 6 6), (8, .int .i64 6), (34, .int .i64 6), (35, .slice (some ⟨g11, 0, none⟩) 6 6), (36, .int .i64 6), (37, .bool false), (38, .int .i64 4), (39, .slice (some ⟨g11, 0, none⟩) 6 6), (40, .int .i64 4), (41, .slice (some ⟨g11, 4, none⟩) 2 2), (42, .slice (some ⟨g11, 0, none⟩) 6 6), (43, .int .i64 4), (44, .slice (some ⟨g11, 0, none⟩) 4 6), (45, .int .i64 2), (46, .int .i64 6)] fo_ (fun X50 => ?_)
 refine wp_cond_false le_ ?_
 refine wp_exit ?_
 refine then_exit ?_
 refine then_exit ?_
 refine inBlock_exit ?_
 refine tn_ hK18 ?_
 refine wpPrune [(4, .slice none 0 0), (7, .slice (some ⟨g11, 0, none⟩) 6 6)] fo_ (fun X51 => ?_)
 refine sp_ fun _ hK52 => ?_
 refine lk_ (.slice (some ⟨g11, 0, none⟩) 6 6) ?_
 refine lk_ (.slice (some ⟨g11, 0, none⟩) 6 6) ?_
 refine pt_ hK52 ?_
 refine wp_ret ?_
 refine br_ 4 (.slice (some ⟨g11, 0, none⟩) 6 6) ?_
 exact ⟨_, rfl, own_of_arr (hm46.arr 0 rfl) rfl (hm46.arrGe 0 rfl) (by decide), hm46.bel⟩
theorem zero_get {k : Nat} (h : k < 6) : (ics [0, 0, 0, 0, 0, 0])[k * 1]? = some (.int .i64 0) := by
 have h2 : ∀ k < 6, ([0, 0, 0, 0, 0, 0] : List Int)[k]? = some 0 := by decide
 exact icsGet (h2 k h)
theorem max_any (A : Option Addr) (c : Nat) (w : World) (hr : Rd w w.heap.size 1 A 6 c (ics [0, 0, 0, 0, 0, 0])) : Calls Tryz.prog 61 #[.slice A 6 c] w (RetV w (.int .i64 0)) := by
 obtain ⟨bz_, oz_, rfl, _, _⟩ := hr.cells (by omega)
 have hm0 := Mem.nil w
 go_enter Tryz.func61, Tryz.ntmps61
 refine litStart 25 [(0, .slice (some ⟨bz_, oz_, none⟩) 6 c)] kr_ (fun X0 => ?_)
 refine sp_ fun _ hK1 => ?_
 refine li_ 0 ?_
 refine pt_ hK1 ?_
 refine sk_ fun _ hK2 => ?_
 refine sp_ fun _ hK3 => ?_
 refine lk_ (.slice (some ⟨bz_, oz_, none⟩) 6 c) ?_
 refine lv_ rfl (.int .i64 6) (ln_ (some ⟨bz_, oz_, none⟩) 6 c Ty.und_L_int) ?_
 refine lF_ ?_
 refine pt_ hK3 ?_
 refine wp_cond_false le_ ?_
 refine wp_skip ?_
 refine tn_ hK2 ?_
 refine sp_ fun _ hK4 => ?_
 refine lk_ (.slice (some ⟨bz_, oz_, none⟩) 6 c) ?_
 refine lv_ rfl (.pointer (some ⟨bz_, oz_ + 0 * 1, none⟩)) (gIaSl (b := bz_) (off := oz_) (n := 6) (c := c) (kk := .i64) (K := 0) (.tmp 9) (.const (.int .i64 0)) 0 Ty.sl_L_int rfl le_ le_ (rfl) ((by omega))) ?_
 refine lv_ rfl (.int .i64 0) (lr_ (m := 0 * 1) ((Rd.below hr hm0.bel).more hm0.bel.size) (zero_get (show 0 < 6 by omega)) (by decide)) ?_
 refine li_ 0 ?_
 refine pt_ hK4 ?_
 refine sk_ fun _ hK5 => ?_
 refine sp_ fun _ hK6 => ?_
 refine li_ 1 ?_
 refine pt_ hK6 ?_
 refine wp_block ?_
 refine gwLoop (fun n_ a_ w_ => ∃ (k : Nat), n_ = 6 - k ∧ (1 ≤ k ∧ k ≤ 6) ∧ Fr a_ 25 [(0, .slice (some ⟨bz_, oz_, none⟩) 6 c), (2, .int .i64 0), (3, .int .i64 0), (4, .int .i64 (k : Int))] ∧ Mem w w_ []) (6 - 1) ⟨1, rfl, (by omega), ⟨litSize, rfl, fo_⟩, hm0⟩ ?_
 clear hm0
 intro n_ a9 w7 hI_
 obtain ⟨k, rfl, hk, hF_, hm8⟩ := hI_
 obtain ⟨X10, rfl⟩ := frLit hF_
 clear hF_
 refine sk_ fun _ hK11 => ?_
 refine sp_ fun _ hK12 => ?_
 refine li_ k ?_
 refine lk_ (.slice (some ⟨bz_, oz_, none⟩) 6 c) ?_
 refine lv_ rfl (.int .i64 6) (ln_ (some ⟨bz_, oz_, none⟩) 6 c Ty.und_L_int) ?_
 by_cases h13 : (k : Int) < 6
 ·refine lv_ rfl _ (lsT_ h13) ?_
  refine pt_ hK12 ?_
  refine wp_cond_true le_ ?_
  refine wp_skip ?_
  refine tn_ hK11 ?_
  refine sk_ fun _ hK14 => ?_
  refine wp_block ?_
  refine plStart ?_
  refine li_ 0 ?_
  refine lk_ (.slice (some ⟨bz_, oz_, none⟩) 6 c) ?_
  refine li_ k ?_
  refine lv_ rfl (.pointer (some ⟨bz_, oz_ + k * 1, none⟩)) (ia_ c k Ty.sl_L_int rfl (show k < 6 by omega)) ?_
  refine lv_ rfl (.int .i64 0) (lr_ (m := k * 1) ((Rd.below hr hm8.bel).more hm8.bel.size) (zero_get (show k < 6 by omega)) (by decide)) ?_
  refine li_ 0 ?_
  refine li_ 0 ?_
  refine plD ?_
  refine inBlock_normal ?_
  refine tn_ hK14 ?_
  refine plStart ?_
  refine li_ k ?_
  refine lv_ rfl _ (ad_ (k : Int) 1) ?_
  refine li_ ((k : Int) + 1) ?_
  refine plD ?_
  refine then_normal ?_
  exact ⟨_, by omega, (k + 1), rfl, (by omega), ⟨litSize, rfl, fo_⟩, hm8⟩
 refine lv_ rfl _ (lsF_ h13) ?_
 refine pt_ hK12 ?_
 refine wp_cond_false le_ ?_
 refine wp_exit ?_
 refine then_exit ?_
 refine then_exit ?_
 refine inBlock_exit ?_
 refine tn_ hK5 ?_
 refine sp_ fun _ hK15 => ?_
 refine li_ 0 ?_
 refine li_ 0 ?_
 refine pt_ hK15 ?_
 refine wp_ret ?_
 refine br_ 2 (.int .i64 0) ?_
 exact ⟨by rfl, hm8.bel⟩
theorem backward_any {w0 w : World} {M : List Res} (hv : Value) (hx : hv.cells = #[hv]) (hm : Mem w0 w M) : Calls Tryz.prog 92 #[hv] w (fun e w' => ∃ g, e = .returned (.func (.func 121) #[] #[.pointer (some ⟨g, 0, none⟩)]) ∧ Mem w0 w' (.arr g 39 [hv] :: M)) := by
 have hm0 := hm
 go_enter Tryz.func92, Tryz.ntmps92
 refine litStart 4 [(0, hv)] kr_ (fun X0 => ?_)
 refine sp_ fun _ hK1 => ?_
 refine plBox1 (v := hv) hm0 (i := 0) rfl (wn rfl) rfl le_ hx ?_
 intro g2 w4 hm3
 clear hm0
 try simp only [lc_] at hm3
 replace hm3 := hm3.i0
 refine qP rfl ?_
 refine lk_ (Value.nilFunc) ?_
 refine pt_ hK1 ?_
 refine sp_ fun _ hK5 => ?_
 refine lk_ (.func (.func 121) #[] #[.pointer (some ⟨g2, 0, none⟩)]) ?_
 refine lk_ (.func (.func 121) #[] #[.pointer (some ⟨g2, 0, none⟩)]) ?_
 refine pt_ hK5 ?_
 refine wp_ret ?_
 refine br_ 2 (.func (.func 121) #[] #[.pointer (some ⟨g2, 0, none⟩)]) ?_
 exact ⟨_, rfl, hm3⟩
def bwV : List (List Value) := (List.range 24).map fun (i : Nat) => [.int .i64 (23 - (i : Int)), .agg (hfc (hB (23 - i))).toArray]
theorem bw_len : bwV.length = 24 := by simp [bwV]
theorem bw_get {i : Nat} (h : i < 24) : bwV[i]? = some [.int .i64 (23 - (i : Int)), .agg (hfc (hB (23 - i))).toArray] := by unfold bwV; rw [List.getElem?_map, List.getElem?_range h]; rfl
theorem backward_word (g bh_ oh_ hc : Nat) : ItWord Tryz.prog 121 [.pointer (some ⟨g, 0, none⟩)] bwV ([.arr g 39 ([.slice (some ⟨bh_, oh_, none⟩) 24 hc]), .rd (some ⟨bh_, oh_, none⟩) 6 24 hc (hfsC bH)]) := by
 intro w0 w lp J Jx V M hJ hm hY
 have hm0 : Mem w0 w ((.arr g 39 ([.slice (some ⟨bh_, oh_, none⟩) 24 hc])) :: (.rd (some ⟨bh_, oh_, none⟩) 6 24 hc (hfsC bH)) :: (V ++ M)) := hm.permL (permY [.arr g 39 ([.slice (some ⟨bh_, oh_, none⟩) 24 hc]), .rd (some ⟨bh_, oh_, none⟩) 6 24 hc (hfsC bH)] V M).symm
 clear hm
 go_enter Tryz.func121, Tryz.ntmps121
 refine litStart 19 [(0, .func (.yield lp) #[] #[]), (1, .pointer (some ⟨g, 0, none⟩))] kr_ (fun X0 => ?_)
 refine sp_ fun _ hK1 => ?_
 refine lv_ rfl (.slice (some ⟨bh_, oh_, none⟩) 24 hc) (ld_ 0 0 hm0) ?_
 refine lv_ rfl (.int .i64 24) (ln_ (some ⟨bh_, oh_, none⟩) 24 hc Ty.und_L_api_Half) ?_
 refine li_ 23 ?_
 refine li_ 23 ?_
 refine pt_ hK1 ?_
 refine wp_block ?_
 refine gwLoop (fun n_ a_ w_ => ∃ (i : Nat) (V : List Res), n_ = 24 - i ∧ (i ≤ 24) ∧ (J i V) ∧ Fr a_ 19 [(0, .func (.yield lp) #[] #[]), (1, .pointer (some ⟨g, 0, none⟩)), (3, .int .i64 (23 - (i : Int)))] ∧ Mem w0 w_ ((.arr g 39 ([.slice (some ⟨bh_, oh_, none⟩) 24 hc])) :: (.rd (some ⟨bh_, oh_, none⟩) 6 24 hc (hfsC bH)) :: (V ++ M))) (24 - 0) ⟨0, V, rfl, (Nat.zero_le _), hJ, ⟨litSize, rfl, fo_⟩, hm0⟩ ?_
 clear hm0
 intro n_ a4 w2 hI_
 obtain ⟨i, V, rfl, hi, hJ, hF_, hm3⟩ := hI_
 obtain ⟨X5, rfl⟩ := frLit hF_
 clear hF_
 refine sk_ fun _ hK6 => ?_
 refine sp_ fun _ hK7 => ?_
 refine li_ (23 - (i : Int)) ?_
 by_cases h8 : 0 ≤ (23 - (i : Int))
 ·have hi2_ : i < 24 := by omega
  refine lv_ rfl _ (geT_ h8) ?_
  refine pt_ hK7 ?_
  refine wp_cond_true le_ ?_
  refine wp_skip ?_
  refine tn_ hK6 ?_
  refine sk_ fun _ hK9 => ?_
  refine wp_block ?_
  refine sk_ fun _ hK10 => ?_
  refine ofWr (LD.plrStart ?_)
  refine lkR0 (v := .func (.yield lp) #[] #[]) rfl rfl rfl ?_
  refine lkR0 (v := .int .i64 (23 - (i : Int))) rfl rfl rfl ?_
  refine litValR0 (v := .slice (some ⟨bh_, oh_, none⟩) 24 hc) rfl (wn rfl) (gLoad (v := .slice (some ⟨bh_, oh_, none⟩) 24 hc) (k := 0) 0 hm3 rfl kr_ (.tmp 1) kr_ rfl le_) rfl (by decide) ?_
  refine lkR0 (v := .int .i64 (23 - (i : Int))) rfl rfl rfl ?_
  refine litValR0 (v := .pointer (some ⟨bh_, oh_ + (23 - i) * 6, none⟩)) rfl (wn rfl) (gIaSl (b := bh_) (off := oh_) (n := 24) (c := hc) (kk := .i64) (K := (23 - (i : Int))) (.tmp 13) (.tmp 14) (23 - i) Ty.sl_L_api_Half rfl le_ le_ ((by omega)) ((show 23 - i < 24 by omega))) rfl (by decide) ?_
  refine litValR0 (v := .agg (hfc (hB (23 - i))).toArray) rfl (wn rfl) (gLoadAgRd (vs := hfc (hB (23 - i))) (m := (23 - i) * 6) (hm3.rd 1 rfl) rfl (bH_cell (show (23 - i) < 24 by omega)) kr_ (by decide) (.tmp 15) Ty.ag_voxel_api_Half rfl le_) rfl (by decide) ?_
  refine plrYield0 lp [.int .i64 (23 - (i : Int)), .agg (hfc (hB (23 - i))).toArray] rfl rfl rfl le_ (litArgs kr_) (hY i [.int .i64 (23 - (i : Int)), .agg (hfc (hB (23 - i))).toArray] _ V ([.arr g 39 ([.slice (some ⟨bh_, oh_, none⟩) 24 hc]), .rd (some ⟨bh_, oh_, none⟩) 6 24 hc (hfsC bH)] ++ M) (bw_get hi2_) hJ (hm3.permL (permY [.arr g 39 ([.slice (some ⟨bh_, oh_, none⟩) 24 hc]), .rd (some ⟨bh_, oh_, none⟩) 6 24 hc (hfsC bH)] V M))) rfl (by decide) ?_
  rintro e w13 ⟨t11, V12, rfl, hq_, hT15, hF16⟩
  have hm14 : Mem w0 w13 ((.arr g 39 ([.slice (some ⟨bh_, oh_, none⟩) 24 hc])) :: (.rd (some ⟨bh_, oh_, none⟩) 6 24 hc (hfsC bH)) :: (V12 ++ M)) := hq_.permL (permY [.arr g 39 ([.slice (some ⟨bh_, oh_, none⟩) 24 hc]), .rd (some ⟨bh_, oh_, none⟩) 6 24 hc (hfsC bH)] V12 M).symm
  clear hq_ hm3
  refine ⟨_, rfl, ?_⟩
  rcases bool_or t11 with hb_ | hb_ <;> subst hb_
  ·have hX17 := hF16 rfl
   refine lkR0 (v := .bool true) rfl rfl rfl ?_
   refine LD.plrD ?_
   refine tn_ hK10 ?_
   refine wp_cond_true le_ ?_
   refine wp_ret ?_
   refine inBlock_ret ?_
   refine then_ret ?_
   refine then_ret ?_
   refine inBlock_ret ?_
   refine bodyPost_ret (v := .tuple #[]) (gRes0 rfl) rfl ?_
   exact ⟨⟨_, rfl⟩, V12, hm14.permL (permY [.arr g 39 ([.slice (some ⟨bh_, oh_, none⟩) 24 hc]), .rd (some ⟨bh_, oh_, none⟩) 6 24 hc (hfsC bH)] V12 M), Or.inr hX17⟩
  have hJ18 := hT15 rfl
  refine lkR0 (v := .bool false) rfl rfl rfl ?_
  refine LD.plrD ?_
  refine tn_ hK10 ?_
  refine wp_cond_false le_ ?_
  refine wp_skip ?_
  refine inBlock_normal ?_
  refine tn_ hK9 ?_
  refine plStart ?_
  refine li_ (23 - (i : Int)) ?_
  refine lv_ rfl _ (sb_ (23 - (i : Int)) 1) ?_
  refine li_ ((23 - (i : Int)) - 1) ?_
  refine plD ?_
  refine then_normal ?_
  rw [show (23 - (i : Int)) - 1 = 23 - ((i + 1 : Nat) : Int) by omega]
  exact ⟨_, by omega, (i + 1), V12, rfl, (by omega), hJ18, ⟨litSize, rfl, fo_⟩, hm14⟩
 have hie_ : i = 24 := by omega
 refine lv_ rfl _ (geF_ h8) ?_
 refine pt_ hK7 ?_
 refine wp_cond_false le_ ?_
 refine wp_exit ?_
 refine then_exit ?_
 refine then_exit ?_
 refine inBlock_exit ?_
 refine bodyPost_end (v := .tuple #[]) (gRes0 rfl) rfl ?_
 exact ⟨⟨_, rfl⟩, V, hm3.permL (permY [.arr g 39 ([.slice (some ⟨bh_, oh_, none⟩) 24 hc]), .rd (some ⟨bh_, oh_, none⟩) 6 24 hc (hfsC bH)] V M), Or.inl (by rw [bw_len, ← hie_]; exact hJ)⟩
end Go.Proofs.YtbpihalphhoiaaaGreatDoor
namespace Go.Proofs.YtbpihalphhoiaaaGreatDoor
open Go.RowKit
open Go.RowKit
def adjB (f j : Nat) : Nat := fcB (twB (kB (4 * f) j))
def dfsB : Nat → List Int → Nat → List Int
 | 0, O, _ => O
 | k + 1, O, f => (List.range 4).foldl (fun O j => if O.getD (adjB f j) 0 < 0 then dfsB k O (adjB f j) else O) (O.set f 0)
def dfsI (k : Nat) (O : List Int) (f i : Nat) : List Int := (List.range i).foldl (fun O j => if O.getD (adjB f j) 0 < 0 then dfsB k O (adjB f j) else O) (O.set f 0)
theorem dfsI_succ (k : Nat) (O : List Int) (f i : Nat) : dfsI k O f (i + 1) = if (dfsI k O f i).getD (adjB f i) 0 < 0 then dfsB k (dfsI k O f i) (adjB f i) else dfsI k O f i := by
 unfold dfsI
 rw [List.range_succ, List.foldl_append]; rfl
theorem dfsI_yes {k : Nat} {O : List Int} {f i : Nat} (h : (dfsI k O f i).getD (fcB (twB (kB (4 * f) i))) 0 < 0) : dfsI k O f (i + 1) = dfsB k (dfsI k O f i) (fcB (twB (kB (4 * f) i))) := by
 rw [dfsI_succ]; exact if_pos h
theorem dfsI_no {k : Nat} {O : List Int} {f i : Nat} (h : ¬ (dfsI k O f i).getD (fcB (twB (kB (4 * f) i))) 0 < 0) : dfsI k O f (i + 1) = dfsI k O f i := by
 rw [dfsI_succ]; exact if_neg h
def negN (O : List Int) : Nat := (O.filter fun x => decide (x < 0)).length
theorem negN_set : ∀ (O : List Int) (f : Nat), negN (O.set f 0) ≤ negN O ∧ (f < O.length → O.getD f 0 < 0 → negN (O.set f 0) + 1 ≤ negN O)
 | [], f => by simp [negN]
 | x :: O, 0 => by
  unfold negN
  simp only [List.set_cons_zero, List.filter_cons, List.length_cons, List.getD_cons_zero]
  constructor
  ·by_cases h : x < 0 <;> simp [h]
  ·intro _ h; simp [h]
 | x :: O, f + 1 => by
  have ih := negN_set O f
  unfold negN at *
  simp only [List.set_cons_succ, List.filter_cons, List.length_cons, List.getD_cons_succ]
  constructor
  ·by_cases h : x < 0 <;> simp [h, ih.1]
  ·intro h1 h2
   have := ih.2 (by omega) h2
   by_cases h : x < 0 <;> simp [h] <;> omega
theorem dfs_small : ∀ (k : Nat), (∀ O f, (dfsB k O f).length = O.length ∧ negN (dfsB k O f) ≤ negN O) ∧ ∀ O f i, (dfsI k O f i).length = O.length ∧ negN (dfsI k O f i) ≤ negN (O.set f 0)
 | k => by
  have hB : ∀ O f, (dfsB k O f).length = O.length ∧ negN (dfsB k O f) ≤ negN O := by
   cases k with
   | zero => exact fun O f => ⟨rfl, Nat.le_refl _⟩
   | succ k =>
    intro O f
    have h := (dfs_small k).2 O f 4
    exact ⟨h.1, Nat.le_trans h.2 (negN_set O f).1⟩
  refine ⟨hB, fun O f i => ?_⟩
  induction i with
  | zero => exact ⟨by simp [dfsI], Nat.le_refl _⟩
  | succ i ih =>
   rw [dfsI_succ]
   split
   ·have h2 := hB (dfsI k O f i) (adjB f i)
    exact ⟨h2.1.trans ih.1, Nat.le_trans h2.2 ih.2⟩
   ·exact ih
def negL : List Int := [-1, -1, -1, -1, -1, -1]
theorem dfs_all : dfsB 6 negL 0 = [0, 0, 0, 0, 0, 0] := by decide +kernel
def fstI (i : Nat) : List Int := (List.range i).foldl (fun L j => L.set (fcB (23 - j)) (23 - (j : Int))) [0, 0, 0, 0, 0, 0]
theorem fst_step (i : Nat) : (fstI i).set (fcB (23 - i)) (23 - (i : Int)) = fstI (i + 1) := by unfold fstI; rw [List.range_succ, List.foldl_append]; rfl
theorem fst_len : ∀ i, (fstI i).length = 6
 | 0 => rfl
 | i + 1 => by rw [← fst_step, List.length_set]; exact fst_len i
theorem fst_all : fstI 24 = [0, 4, 8, 12, 16, 20] := by decide +kernel
theorem fst_get {f : Nat} (h : f < 6) : (ics (fstI 24))[f * 1]? = some (.int .i64 ((4 * f : Nat) : Int)) := by
 have h2 : ∀ f < 6, (fstI 24)[f]? = some ((4 * f : Nat) : Int) := by rw [fst_all]; decide
 exact icsGet (h2 f h)
theorem adj_ok : ∀ f < 6, 4 * f < 24 ∧ ∀ i < 4, kB (4 * f) i < 24 ∧ twB (kB (4 * f) i) < 24 ∧ fcB (twB (kB (4 * f) i)) < 6 := by decide +kernel
theorem bw_one {i : Nat} {x : List Value} (h : bwV[i]? = some x) : i < 24 ∧ x = [.int .i64 (23 - (i : Int)), .agg (hfc (hB (23 - i))).toArray] := by
 have hi : i < 24 := by rw [← bw_len]; exact (List.getElem?_eq_some_iff.1 h).1
 exact ⟨hi, Option.some.inj (h.symm.trans (bw_get hi))⟩
theorem bw_len2 : ∀ x ∈ bwV, x.length = 2 := by
 intro x hx
 obtain ⟨i, hi⟩ := List.getElem?_of_mem hx
 rw [(bw_one hi).2]; rfl
def KNB (qA : Option Addr) (qc bh_ oh_ hc bo_ co bf_ cf g1 g3 g6 g7 g8 : Nat) (O : List Int) : List Res := [.arr g7 3 ([.int .i64 0]), .arr g6 26 ([.slice (some ⟨bo_, 0, none⟩) 6 co]), .arr g1 41 ([.slice qA 6 qc, .slice (some ⟨bh_, oh_, none⟩) 24 hc]), .arr g3 26 ([.slice (some ⟨bf_, 0, none⟩) 6 cf]), .arr g8 165 ([.func (.func 94) #[] #[.pointer (some ⟨g7, 0, none⟩), .pointer (some ⟨g6, 0, none⟩), .pointer (some ⟨g1, 0, none⟩), .pointer (some ⟨g3, 0, none⟩), .pointer (some ⟨g8, 0, none⟩)]]), .row (.slice (some ⟨bo_, 0, none⟩) 6 co) 3 1 6 (ics O), .row (.slice (some ⟨bf_, 0, none⟩) 6 cf) 3 1 6 (ics (fstI 24)), .rd (some ⟨bh_, oh_, none⟩) 6 24 hc (hfsC bH)]
def Spread (qA : Option Addr) (qc bh_ oh_ hc bo_ co bf_ cf g1 g3 g6 g7 g8 : Nat) (k : Nat) : Prop :=
 ∀ (w0 w : World) (M : List Res) (O : List Int) (f : Nat), O.length = 6 → f < 6 → O.getD f 0 < 0 → negN O ≤ k → Mem w0 w (KNB qA qc bh_ oh_ hc bo_ co bf_ cf g1 g3 g6 g7 g8 O ++ M) →
  Calls Tryz.prog 94 #[.int .i64 (f : Int), .pointer (some ⟨g7, 0, none⟩), .pointer (some ⟨g6, 0, none⟩), .pointer (some ⟨g1, 0, none⟩), .pointer (some ⟨g3, 0, none⟩), .pointer (some ⟨g8, 0, none⟩)] w fun e w' => (∃ v, e = .returned v) ∧ Mem w0 w' (KNB qA qc bh_ oh_ hc bo_ co bf_ cf g1 g3 g6 g7 g8 (dfsB k O f) ++ M)
namespace LD
theorem spread_step {qA : Option Addr} {qc bh_ oh_ hc bo_ co bf_ cf g1 g3 g6 g7 g8 k : Nat} (ih : Spread qA qc bh_ oh_ hc bo_ co bf_ cf g1 g3 g6 g7 g8 k) : Spread qA qc bh_ oh_ hc bo_ co bf_ cf g1 g3 g6 g7 g8 (k + 1) := by
 intro w0 w M O f hol_ hof_ hneg_ hk_ hm
 have hns_ := (negN_set O f).2 (by omega) hneg_
 have hadj_ := adj_ok f hof_
 have hm0 := hm
 refine callsOfMarks Tryz.func94 rfl ?_
 refine litStart (ds := (([] : List Nat).map mark)) 39 [(0, .int .i64 (f : Int)), (1, .pointer (some ⟨g7, 0, none⟩)), (2, .pointer (some ⟨g6, 0, none⟩)), (3, .pointer (some ⟨g1, 0, none⟩)), (4, .pointer (some ⟨g3, 0, none⟩)), (5, .pointer (some ⟨g8, 0, none⟩))] kr_ (fun X0 => ?_)
 refine sp_ fun _ hK1 => ?_
 refine lv_ rfl (.slice (some ⟨bo_, 0, none⟩) 6 co) (ld_ 0 1 hm0) ?_
 refine lk (v := .int .i64 (f : Int)) rfl rfl rfl ?_
 refine lv_ rfl (.int .i64 0) (ld_ 0 0 hm0) ?_
 refine lv_ rfl (.pointer (some ⟨bo_, 0 + f * 1, none⟩)) (ia_ co f Ty.sl_L_int rfl (show f < 6 by omega)) ?_
 refine plStoreRow (v := .int .i64 0) (v0 := .int .i64 (O.getD f 0)) (k := 0 + f * 1) (xs := ics O) 5 kr_ hm0 rfl (i := 4) rfl (wn rfl) rfl (litEv kr_) (litEv kr_) (icsZ (by rw [hol_]; omega)) (by omega) rfl rfl ?_
 intro w2 hm3
 clear hm0
 try simp only [lc_] at hm3
 replace hm3 := Mem.rowEq (v := .slice (some ⟨bo_, 0, none⟩) 6 co) (e := 3) (size := 1) (n := 6) (n' := 6) (xs := (ics O).set (0 + f * 1) (.int .i64 0)) (xs' := ics (O.set f 0)) 5 hm3 rfl rfl (icsZs rfl)
 try simp only [lc_] at hm3
 refine qNone rfl ?_
 refine pt_ hK1 ?_
 refine sk_ fun _ hK4 => ?_
 refine wpNoPanic ?_
 refine mgStart hm3 kr_ ?_
 intro w6 hm5
 clear hm3
 refine mt_ 0 rfl (.agg ([.slice qA 6 qc, .slice (some ⟨bh_, oh_, none⟩) 24 hc]).toArray) hm5 (fun w_ h_ => la_ 0 2 h_ Ty.ag_voxel_api_Mesh) ?_
 refine mt_ 1 rfl (.slice (some ⟨bf_, 0, none⟩) 6 cf) hm5 (fun w_ h_ => ld_ 0 3 h_) ?_
 refine mk_ (i := 2) (v := .int .i64 (f : Int)) rfl rfl (fun _ _ _ h => h) hm5 rfl ?_
 refine mt_ 3 rfl (.pointer (some ⟨bf_, 0 + f * 1, none⟩)) hm5 (fun w_ h_ => ia_ cf f Ty.sl_L_int rfl (show f < 6 by omega)) ?_
 refine mt_ 4 rfl (.int .i64 ((4 * f : Nat) : Int)) hm5 (fun w_ h_ => lr_ (m := f * 1) (h_.rdRow 6 rfl) (fst_get (show f < 6 by omega)) (by decide)) ?_
 refine mgCall (i := 5) 65 [.agg ([.slice qA 6 qc, .slice (some ⟨bh_, oh_, none⟩) 24 hc]).toArray, .int .i64 ((4 * f : Nat) : Int)] [] [] kr_ rfl kr_ (wn rfl) rfl (litEv kr_) (litArgs kr_) (by exact cycle_any (M := ((.arr g7 3 ([.int .i64 0])) :: (.arr g6 26 ([.slice (some ⟨bo_, 0, none⟩) 6 co])) :: (.arr g1 41 ([.slice qA 6 qc, .slice (some ⟨bh_, oh_, none⟩) 24 hc])) :: (.arr g3 26 ([.slice (some ⟨bf_, 0, none⟩) 6 cf])) :: (.arr g8 165 ([.func (.func 94) #[] #[.pointer (some ⟨g7, 0, none⟩), .pointer (some ⟨g6, 0, none⟩), .pointer (some ⟨g1, 0, none⟩), .pointer (some ⟨g3, 0, none⟩), .pointer (some ⟨g8, 0, none⟩)]])) :: (.row (.slice (some ⟨bo_, 0, none⟩) 6 co) 3 1 6 (ics (O.set f 0))) :: (.row (.slice (some ⟨bf_, 0, none⟩) 6 cf) 3 1 6 (ics (fstI 24))) :: (.rd (some ⟨bh_, oh_, none⟩) 6 24 hc (hfsC bH)) :: M)) (.slice qA 6 qc) (.slice (some ⟨bh_, oh_, none⟩) 24 hc) (4 * f) hm5) ?_
 rintro e w7 ⟨g9, g10, rfl, hm8⟩
 clear hm5
 have hm11 := Mem.dupRd 9 hm8 rfl
 clear hm8
 refine ⟨_, rfl, (hm11.sub (.cons _ (.cons _ (.cons _ (.cons_cons _ (.cons_cons _ (.cons_cons _ (.cons_cons _ (.cons_cons _ (.cons_cons _ (.cons_cons _ (.cons_cons _ (List.Sublist.refl _))))))))))))), ?_⟩
 refine mP rfl ?_
 refine mgDone kr_ ?_
 refine noPN ?_
 refine tn_ hK4 ?_
 refine wp_block ?_
 have hm12 : Mem w0 w7 ((.rd (some ⟨bh_, oh_, none⟩) 6 24 hc (hfsC bH)) :: (.arr g9 41 ([.slice qA 6 qc, .slice (some ⟨bh_, oh_, none⟩) 24 hc])) :: (.arr g10 3 ([.int .i64 ((4 * f : Nat) : Int)])) :: (.arr g7 3 ([.int .i64 0])) :: (.arr g6 26 ([.slice (some ⟨bo_, 0, none⟩) 6 co])) :: (.arr g1 41 ([.slice qA 6 qc, .slice (some ⟨bh_, oh_, none⟩) 24 hc])) :: (.arr g3 26 ([.slice (some ⟨bf_, 0, none⟩) 6 cf])) :: (.arr g8 165 ([.func (.func 94) #[] #[.pointer (some ⟨g7, 0, none⟩), .pointer (some ⟨g6, 0, none⟩), .pointer (some ⟨g1, 0, none⟩), .pointer (some ⟨g3, 0, none⟩), .pointer (some ⟨g8, 0, none⟩)]])) :: (.row (.slice (some ⟨bo_, 0, none⟩) 6 co) 3 1 6 (ics (O.set f 0))) :: (.row (.slice (some ⟨bf_, 0, none⟩) 6 cf) 3 1 6 (ics (fstI 24))) :: (.rd (some ⟨bh_, oh_, none⟩) 6 24 hc (hfsC bH)) :: M) := Mem.front 0 hm11 rfl
 clear hm11
 have hm13 := hm12.f2
 clear hm12
 have hm14 := hm13.f2
 clear hm13
 have hm15 := hm14.f2
 clear hm14
 have hm16 := hm15.f9
 clear hm15
 have hm17 := hm16.f9
 clear hm16
 have hm18 := hm17.f9
 clear hm17
 have hm19 := hm18.f9
 clear hm18
 have hm20 := hm19.f9
 clear hm19
 have hm21 := hm20.f9
 clear hm20
 have hm22 := hm21.f9
 clear hm21
 refine gwRange (gf := 95) (lb := [.pointer (some ⟨g10, 0, none⟩), .pointer (some ⟨g9, 0, none⟩)]) (cycV (4 * f)) ([.arr g9 41 ([.slice qA 6 qc, .slice (some ⟨bh_, oh_, none⟩) 24 hc]), .arr g10 3 ([.int .i64 ((4 * f : Nat) : Int)]), .rd (some ⟨bh_, oh_, none⟩) 6 24 hc (hfsC bH)]) (litEv kr_) kr_ (cycle_word g9 g10 qA qc bh_ oh_ hc (4 * f) hadj_.1) (cycV_len1 _) (fun i_ V_ => (True) ∧ V_ = [.arr g7 3 ([.int .i64 0]), .arr g6 26 ([.slice (some ⟨bo_, 0, none⟩) 6 co]), .arr g1 41 ([.slice qA 6 qc, .slice (some ⟨bh_, oh_, none⟩) 24 hc]), .arr g3 26 ([.slice (some ⟨bf_, 0, none⟩) 6 cf]), .arr g8 165 ([.func (.func 94) #[] #[.pointer (some ⟨g7, 0, none⟩), .pointer (some ⟨g6, 0, none⟩), .pointer (some ⟨g1, 0, none⟩), .pointer (some ⟨g3, 0, none⟩), .pointer (some ⟨g8, 0, none⟩)]]), .row (.slice (some ⟨bo_, 0, none⟩) 6 co) 3 1 6 (ics (dfsI k O f i_)), .row (.slice (some ⟨bf_, 0, none⟩) 6 cf) 3 1 6 (ics (fstI 24)), .rd (some ⟨bh_, oh_, none⟩) 6 24 hc (hfsC bH)]) (fun _ _ => False) ([.arr g7 3 ([.int .i64 0]), .arr g6 26 ([.slice (some ⟨bo_, 0, none⟩) 6 co]), .arr g1 41 ([.slice qA 6 qc, .slice (some ⟨bh_, oh_, none⟩) 24 hc]), .arr g3 26 ([.slice (some ⟨bf_, 0, none⟩) 6 cf]), .arr g8 165 ([.func (.func 94) #[] #[.pointer (some ⟨g7, 0, none⟩), .pointer (some ⟨g6, 0, none⟩), .pointer (some ⟨g1, 0, none⟩), .pointer (some ⟨g3, 0, none⟩), .pointer (some ⟨g8, 0, none⟩)]]), .row (.slice (some ⟨bo_, 0, none⟩) 6 co) 3 1 6 (ics (O.set f 0)), .row (.slice (some ⟨bf_, 0, none⟩) 6 cf) 3 1 6 (ics (fstI 24)), .rd (some ⟨bh_, oh_, none⟩) 6 24 hc (hfsC bH)]) M ⟨trivial, rfl⟩ hm22 ?_ ?_ (fun _ _ _ _ h => h.elim)
 ·clear hm22
  intro lp23 i24 x25 w26 V27 N28 hx29 hJ_ hm30
  obtain ⟨ht_, rfl⟩ := hJ_
  try simp only [lc_] at hm30
  obtain ⟨hi4_, rfl⟩ := cycV_one hx29
  clear hx29
  have hadj2_ := hadj_.2 i24 hi4_
  refine rgFrame1 ?_
  refine plStartR kr_ (fun _ _ h => h) ?_
  refine lk (v := .int .i64 (kB (4 * f) i24 : Int)) rfl rfl rfl ?_
  refine plD ?_
  refine ⟨[.arr g7 3 ([.int .i64 0]), .arr g6 26 ([.slice (some ⟨bo_, 0, none⟩) 6 co]), .arr g1 41 ([.slice qA 6 qc, .slice (some ⟨bh_, oh_, none⟩) 24 hc]), .arr g3 26 ([.slice (some ⟨bf_, 0, none⟩) 6 cf]), .arr g8 165 ([.func (.func 94) #[] #[.pointer (some ⟨g7, 0, none⟩), .pointer (some ⟨g6, 0, none⟩), .pointer (some ⟨g1, 0, none⟩), .pointer (some ⟨g3, 0, none⟩), .pointer (some ⟨g8, 0, none⟩)]]), .row (.slice (some ⟨bo_, 0, none⟩) 6 co) 3 1 6 (ics (dfsI k O f i24)), .row (.slice (some ⟨bf_, 0, none⟩) 6 cf) 3 1 6 (ics (fstI 24)), .rd (some ⟨bh_, oh_, none⟩) 6 24 hc (hfsC bH)], hm30, ?_⟩
  clear hm30
  intro w31 N32 hm33
  try simp only [lc_] at hm33
  refine wpPruneR [(2, .pointer (some ⟨g6, 0, none⟩)), (3, .pointer (some ⟨g1, 0, none⟩)), (5, .pointer (some ⟨g8, 0, none⟩)), (7, .int .i64 (kB (4 * f) i24 : Int))] fo_ (fun X34 => ?_)
  refine wpIn_block ?_
  refine wpIn_seq_k fun K35 hK35 => ?_
  refine mgStartR kr_ (fun _ _ h => h) hm33 kr_ ?_
  intro w37 hm36
  clear hm33
  refine mk_ (i := 0) (v := .pointer (some ⟨g1, 1, none⟩)) rfl rfl (fun _ _ _ h => h) hm36 rfl ?_
  refine mt_ 1 rfl (.slice (some ⟨bh_, oh_, none⟩) 24 hc) hm36 (fun w_ h_ => ld_ 1 2 h_) ?_
  refine mk_ (i := 2) (v := .pointer (some ⟨g1, 1, none⟩)) rfl rfl (fun _ _ _ h => h) hm36 rfl ?_
  refine mt_ 3 rfl (.slice (some ⟨bh_, oh_, none⟩) 24 hc) hm36 (fun w_ h_ => ld_ 1 2 h_) ?_
  refine mk_ (i := 4) (v := .int .i64 (kB (4 * f) i24 : Int)) rfl rfl (fun _ _ _ h => h) hm36 rfl ?_
  refine mt_ 5 rfl (.pointer (some ⟨bh_, oh_ + (kB (4 * f) i24) * 6, none⟩)) hm36 (fun w_ h_ => ia_ hc (kB (4 * f) i24) Ty.sl_L_api_Half rfl (show kB (4 * f) i24 < 24 by omega)) ?_
  refine mk_ (i := 6) (v := .pointer (some ⟨bh_, oh_ + (kB (4 * f) i24) * 6 + 4, none⟩)) rfl rfl (fun _ _ _ h => h) hm36 rfl ?_
  refine mt_ 7 rfl (.int .i64 (twB (kB (4 * f) i24) : Int)) hm36 (fun w_ h_ => lr_ (m := (kB (4 * f) i24) * 6 + 4) (h_.rd 7 rfl) (bH_tw (show kB (4 * f) i24 < 24 by omega)) (by decide)) ?_
  refine mt_ 8 rfl (.pointer (some ⟨bh_, oh_ + (twB (kB (4 * f) i24)) * 6, none⟩)) hm36 (fun w_ h_ => ia_ hc (twB (kB (4 * f) i24)) Ty.sl_L_api_Half rfl (show twB (kB (4 * f) i24) < 24 by omega)) ?_
  refine mk_ (i := 9) (v := .pointer (some ⟨bh_, oh_ + (twB (kB (4 * f) i24)) * 6 + 5, none⟩)) rfl rfl (fun _ _ _ h => h) hm36 rfl ?_
  refine mt_ 10 rfl (.int .i64 (fcB (twB (kB (4 * f) i24)) : Int)) hm36 (fun w_ h_ => lr_ (m := (twB (kB (4 * f) i24)) * 6 + 5) (h_.rd 7 rfl) (bH_fc (show twB (kB (4 * f) i24) < 24 by omega)) (by decide)) ?_
  refine mk_ (i := 11) (v := .int .i64 (fcB (twB (kB (4 * f) i24)) : Int)) rfl rfl (fun _ _ _ h => h) hm36 rfl ?_
  refine mgDone kr_ ?_
  refine tn_ hK35 ?_
  refine wpPruneR [(2, .pointer (some ⟨g6, 0, none⟩)), (5, .pointer (some ⟨g8, 0, none⟩)), (8, .int .i64 (fcB (twB (kB (4 * f) i24)) : Int))] fo_ (fun X38 => ?_)
  refine wpIn_seq_k fun K39 hK39 => ?_
  refine plStartR kr_ (fun _ _ h => h) ?_
  refine lv_ rfl (.slice (some ⟨bo_, 0, none⟩) 6 co) (ld_ 0 1 hm36) ?_
  refine lk (v := .int .i64 (fcB (twB (kB (4 * f) i24)) : Int)) rfl rfl rfl ?_
  refine lv_ rfl (.pointer (some ⟨bo_, 0 + (fcB (twB (kB (4 * f) i24))) * 1, none⟩)) (ia_ co (fcB (twB (kB (4 * f) i24))) Ty.sl_L_int rfl (show fcB (twB (kB (4 * f) i24)) < 6 by omega)) ?_
  refine lv_ rfl (.int .i64 ((dfsI k O f i24).getD (fcB (twB (kB (4 * f) i24))) 0)) (lr_ (m := (fcB (twB (kB (4 * f) i24))) * 1) (hm36.rdRow 5 rfl) (icsGet (getD_of 0 (by rw [((dfs_small k).2 O f _).1, hol_]; omega))) (by decide)) ?_
  by_cases h40 : ((dfsI k O f i24).getD (fcB (twB (kB (4 * f) i24))) 0) < 0
  ·refine lv_ rfl _ (lsT_ h40) ?_
   refine pt_ hK39 ?_
   refine wpIn_cond_true (litEv kr_) ?_
   refine plStartR kr_ (fun _ _ h => h) ?_
   refine lv_ rfl (.func (.func 94) #[] #[.pointer (some ⟨g7, 0, none⟩), .pointer (some ⟨g6, 0, none⟩), .pointer (some ⟨g1, 0, none⟩), .pointer (some ⟨g3, 0, none⟩), .pointer (some ⟨g8, 0, none⟩)]) (ld_ 0 4 hm36) ?_
   refine lk (v := .int .i64 (fcB (twB (kB (4 * f) i24)) : Int)) rfl rfl rfl ?_
   refine plCall (i := 2) 94 [.int .i64 (fcB (twB (kB (4 * f) i24)) : Int)] [] [.pointer (some ⟨g7, 0, none⟩), .pointer (some ⟨g6, 0, none⟩), .pointer (some ⟨g1, 0, none⟩), .pointer (some ⟨g3, 0, none⟩), .pointer (some ⟨g8, 0, none⟩)] rfl kr_ (wn rfl) rfl (litEv kr_) (litArgs kr_) (ih _ _ N32 (dfsI k O f i24) (fcB (twB (kB (4 * f) i24))) (((dfs_small k).2 O f i24).1.trans hol_) (show (fcB (twB (kB (4 * f) i24))) < 6 by omega) h40 (by have h_ := ((dfs_small k).2 O f i24).2; omega) hm36) ?_
   rintro e w41 ⟨⟨v43, rfl⟩, hm42⟩
   clear hm36
   have hm44 : Mem w0 w41 ((.arr g7 3 ([.int .i64 0])) :: (.arr g6 26 ([.slice (some ⟨bo_, 0, none⟩) 6 co])) :: (.arr g1 41 ([.slice qA 6 qc, .slice (some ⟨bh_, oh_, none⟩) 24 hc])) :: (.arr g3 26 ([.slice (some ⟨bf_, 0, none⟩) 6 cf])) :: (.arr g8 165 ([.func (.func 94) #[] #[.pointer (some ⟨g7, 0, none⟩), .pointer (some ⟨g6, 0, none⟩), .pointer (some ⟨g1, 0, none⟩), .pointer (some ⟨g3, 0, none⟩), .pointer (some ⟨g8, 0, none⟩)]])) :: (.row (.slice (some ⟨bo_, 0, none⟩) 6 co) 3 1 6 (ics (dfsB k (dfsI k O f i24) (fcB (twB (kB (4 * f) i24)))))) :: (.row (.slice (some ⟨bf_, 0, none⟩) 6 cf) 3 1 6 (ics (fstI 24))) :: (.rd (some ⟨bh_, oh_, none⟩) 6 24 hc (hfsC bH)) :: N32) := hm42
   clear hm42
   refine ⟨_, rfl, ?_⟩
   refine qP rfl ?_
   refine plD ?_
   refine inBlock_normal ?_
   rw [← dfsI_yes h40] at hm44
   exact ⟨_, ⟨trivial, rfl⟩, hm44⟩
  refine lv_ rfl _ (lsF_ h40) ?_
  refine pt_ hK39 ?_
  refine wpIn_cond_false (litEv kr_) ?_
  refine wpIn_skip ?_
  refine inBlock_normal ?_
  rw [← dfsI_no h40] at hm36
  exact ⟨_, ⟨trivial, rfl⟩, hm36⟩
 clear hm22
 intro D45 w46 V47 hJ_ hm48
 obtain ⟨ht_, rfl⟩ := hJ_
 refine rgDone ?_
 have hm49 : Mem w0 w46 ((.arr g7 3 ([.int .i64 0])) :: (.arr g6 26 ([.slice (some ⟨bo_, 0, none⟩) 6 co])) :: (.arr g1 41 ([.slice qA 6 qc, .slice (some ⟨bh_, oh_, none⟩) 24 hc])) :: (.arr g3 26 ([.slice (some ⟨bf_, 0, none⟩) 6 cf])) :: (.arr g8 165 ([.func (.func 94) #[] #[.pointer (some ⟨g7, 0, none⟩), .pointer (some ⟨g6, 0, none⟩), .pointer (some ⟨g1, 0, none⟩), .pointer (some ⟨g3, 0, none⟩), .pointer (some ⟨g8, 0, none⟩)]])) :: (.row (.slice (some ⟨bo_, 0, none⟩) 6 co) 3 1 6 (ics (dfsI k O f 4))) :: (.row (.slice (some ⟨bf_, 0, none⟩) 6 cf) 3 1 6 (ics (fstI 24))) :: (.rd (some ⟨bh_, oh_, none⟩) 6 24 hc (hfsC bH)) :: (.arr g9 41 ([.slice qA 6 qc, .slice (some ⟨bh_, oh_, none⟩) 24 hc])) :: (.arr g10 3 ([.int .i64 ((4 * f : Nat) : Int)])) :: (.rd (some ⟨bh_, oh_, none⟩) 6 24 hc (hfsC bH)) :: (defR D45) :: M) := hm48
 clear hm48
 refine inBlock_normal ?_
 have hm50 := hm49.f10
 clear hm49
 have hm51 := hm50.f10
 clear hm50
 have hm52 := hm51.f10
 clear hm51
 have hm53 := hm52.f10
 clear hm52
 have hm54 := hm53.f10
 clear hm53
 have hm55 := hm54.f10
 clear hm54
 have hm56 := hm55.f10
 clear hm55
 have hm57 := hm56.f10
 clear hm56
 have hm58 := hm57.f10
 clear hm57
 have hm59 := hm58.f10
 clear hm58
 have hm60 := hm59.f10
 clear hm59
 have hm61 := hm60.f11
 clear hm60
 refine bodyPostM_end (leaveMarks (M := ((.arr g7 3 ([.int .i64 0])) :: (.arr g6 26 ([.slice (some ⟨bo_, 0, none⟩) 6 co])) :: (.arr g1 41 ([.slice qA 6 qc, .slice (some ⟨bh_, oh_, none⟩) 24 hc])) :: (.arr g3 26 ([.slice (some ⟨bf_, 0, none⟩) 6 cf])) :: (.arr g8 165 ([.func (.func 94) #[] #[.pointer (some ⟨g7, 0, none⟩), .pointer (some ⟨g6, 0, none⟩), .pointer (some ⟨g1, 0, none⟩), .pointer (some ⟨g3, 0, none⟩), .pointer (some ⟨g8, 0, none⟩)]])) :: (.row (.slice (some ⟨bo_, 0, none⟩) 6 co) 3 1 6 (ics (dfsI k O f 4))) :: (.row (.slice (some ⟨bf_, 0, none⟩) 6 cf) 3 1 6 (ics (fstI 24))) :: (.rd (some ⟨bh_, oh_, none⟩) 6 24 hc (hfsC bH)) :: (.arr g9 41 ([.slice qA 6 qc, .slice (some ⟨bh_, oh_, none⟩) 24 hc])) :: (.arr g10 3 ([.int .i64 ((4 * f : Nat) : Int)])) :: (.rd (some ⟨bh_, oh_, none⟩) 6 24 hc (hfsC bH)) :: M)) ([D45] : List Nat) _ hm61 ?_)
 clear hm61
 intro w62 hm63
 refine ⟨.tuple #[], gRes0 rfl , ?_⟩
 exact ⟨⟨_, rfl⟩, (hm63.sub (.cons_cons _ (.cons_cons _ (.cons_cons _ (.cons_cons _ (.cons_cons _ (.cons_cons _ (.cons_cons _ (.cons_cons _ (.cons _ (.cons _ (.cons _ (List.Sublist.refl _)))))))))))))⟩
theorem spread_all {qA : Option Addr} {qc bh_ oh_ hc bo_ co bf_ cf g1 g3 g6 g7 g8 : Nat} : ∀ k, Spread qA qc bh_ oh_ hc bo_ co bf_ cf g1 g3 g6 g7 g8 k
 | 0 => fun w0 w M O f h1 h2 h3 h4 _ => by
  have := (negN_set O f).2 (by omega) h3
  omega
 | k + 1 => spread_step (spread_all k)
theorem components_any (qA A : Option Addr) (qc hc : Nat) (w : World) (hh : Rd w w.heap.size 6 A 24 hc (hfsC bH)) : Calls Tryz.prog 60 #[.agg ([.slice qA 6 qc, .slice A 24 hc]).toArray] w (fun e w' => ∃ v, e = .returned v ∧ w'.ownsRow w.heap.size 3 1 v 6 (ics [0, 0, 0, 0, 0, 0]) ∧ Below w.heap.size w w') := by
 obtain ⟨bh_, oh_, rfl, _, _⟩ := hh.cells (by omega)
 have hm0 := Mem.rd1 hh
 refine callsOfMarks Tryz.func60 rfl ?_
 refine litStart (ds := (([] : List Nat).map mark)) 47 [(0, .agg ([.slice qA 6 qc, .slice (some ⟨bh_, oh_, none⟩) 24 hc]).toArray)] kr_ (fun X0 => ?_)
 refine sp_ fun _ hK1 => ?_
 refine plBox hm0 (cs := [.slice qA 6 qc, .slice (some ⟨bh_, oh_, none⟩) 24 hc]) (i := 0) rfl (wn rfl) rfl (litEv kr_) ?_
 intro g2 w4 hm3
 clear hm0
 try simp only [lc_] at hm3
 refine qP rfl ?_
 refine lk (v := .slice none 0 0) rfl rfl rfl ?_
 refine pt_ hK1 ?_
 refine sp_ fun _ hK5 => ?_
 refine lk (v := .pointer (some ⟨g2, 0, none⟩)) rfl rfl rfl ?_
 refine lv_ rfl (.slice qA 6 qc) (ld_ 0 1 hm3) ?_
 refine lv_ rfl (.int .i64 6) (ln_ qA 6 qc Ty.und_L_api_Quad) ?_
 refine plMakeRow (m := 6) (cs := ics (fstI 0)) (e := 3) hm3 (i := 3) rfl (wn rfl) rfl (litEv kr_) (litEv kr_) (fun w_ => by kernel_rfl) kr_ (by decide) ?_
 intro g6 w7 hm8
 clear hm3
 try simp only [lc_] at hm8
 refine qP rfl ?_
 refine plAlloc1 (v := .slice none 0 0) kr_ hm8 (i := 4) rfl (wn rfl) rfl ?_
 intro g9 w11 hm10
 clear hm8
 try simp only [lc_] at hm10
 refine qP rfl ?_
 refine plStore1 (v := .slice (some ⟨g6, 0, none⟩) 6 6) (k := 0) 3 kr_ hm10 rfl (i := 5) rfl (wn rfl) rfl (litEv kr_) (litEv kr_) rfl rfl rfl ?_
 intro w13 hm12
 clear hm10
 try simp only [lc_] at hm12
 refine qNone rfl ?_
 refine pt_ hK5 ?_
 refine sk_ fun _ hK14 => ?_
 refine sp_ fun _ hK15 => ?_
 refine lk (v := .pointer (some ⟨g2, 1, none⟩)) rfl rfl rfl ?_
 refine lv_ rfl (.slice (some ⟨bh_, oh_, none⟩) 24 hc) (ld_ 1 1 hm12) ?_
 refine plCall (i := 2) 92 [.slice (some ⟨bh_, oh_, none⟩) 24 hc] [] [] rfl kr_ (wn rfl) rfl (litEv kr_) (litArgs kr_) (backward_any (M := ((.rd (some ⟨bh_, oh_, none⟩) 6 24 hc (hfsC bH)) :: (.arr g2 41 ([.slice qA 6 qc, .slice (some ⟨bh_, oh_, none⟩) 24 hc])) :: (.row (.slice (some ⟨g6, 0, none⟩) 6 6) 3 1 6 (ics (fstI 0))) :: (.arr g9 26 ([.slice (some ⟨g6, 0, none⟩) 6 6])) :: (([] : List Nat).map defR))) (.slice (some ⟨bh_, oh_, none⟩) 24 hc) rfl hm12) ?_
 rintro e w16 ⟨g18, rfl, hm17⟩
 clear hm12
 have hm19 := Mem.dupRd 1 hm17 rfl
 clear hm17
 refine ⟨_, rfl, ?_⟩
 refine qP rfl ?_
 refine pt_ hK15 ?_
 refine wp_block ?_
 have hm20 : Mem w w16 ((.rd (some ⟨bh_, oh_, none⟩) 6 24 hc (hfsC bH)) :: (.arr g18 39 ([.slice (some ⟨bh_, oh_, none⟩) 24 hc])) :: (.rd (some ⟨bh_, oh_, none⟩) 6 24 hc (hfsC bH)) :: (.arr g2 41 ([.slice qA 6 qc, .slice (some ⟨bh_, oh_, none⟩) 24 hc])) :: (.row (.slice (some ⟨g6, 0, none⟩) 6 6) 3 1 6 (ics (fstI 0))) :: (.arr g9 26 ([.slice (some ⟨g6, 0, none⟩) 6 6])) :: (([] : List Nat).map defR)) := Mem.front 0 hm19 rfl
 clear hm19
 have hm21 := hm20.f1
 clear hm20
 have hm22 := hm21.f5
 clear hm21
 have hm23 := hm22.f5
 clear hm22
 have hm24 := hm23.f5
 clear hm23
 have hm25 := hm24.f4
 clear hm24
 refine gwRange (gf := 121) (lb := [.pointer (some ⟨g18, 0, none⟩)]) bwV ([.arr g18 39 ([.slice (some ⟨bh_, oh_, none⟩) 24 hc]), .rd (some ⟨bh_, oh_, none⟩) 6 24 hc (hfsC bH)]) (litEv kr_) kr_ (backward_word g18 bh_ oh_ hc) (bw_len2) (fun i_ V_ => (True) ∧ V_ = [.rd (some ⟨bh_, oh_, none⟩) 6 24 hc (hfsC bH), .arr g2 41 ([.slice qA 6 qc, .slice (some ⟨bh_, oh_, none⟩) 24 hc]), .row (.slice (some ⟨g6, 0, none⟩) 6 6) 3 1 6 (ics (fstI i_)), .arr g9 26 ([.slice (some ⟨g6, 0, none⟩) 6 6])]) (fun _ _ => False) ([.rd (some ⟨bh_, oh_, none⟩) 6 24 hc (hfsC bH), .arr g2 41 ([.slice qA 6 qc, .slice (some ⟨bh_, oh_, none⟩) 24 hc]), .row (.slice (some ⟨g6, 0, none⟩) 6 6) 3 1 6 (ics (fstI 0)), .arr g9 26 ([.slice (some ⟨g6, 0, none⟩) 6 6])]) (([] : List Nat).map defR) ⟨trivial, rfl⟩ hm25 ?_ ?_ (fun _ _ _ _ h => h.elim)
 ·clear hm25
  intro lp26 i27 x28 w29 V30 N31 hx32 hJ_ hm33
  obtain ⟨ht_, rfl⟩ := hJ_
  try simp only [lc_] at hm33
  obtain ⟨hi24_, rfl⟩ := bw_one hx32
  clear hx32
  have hhb_ := hB_ok (23 - i27) (by omega)
  refine rgFrame2 ?_
  refine wpIn_seq_k fun K34 hK34 => ?_
  refine plStartR kr_ (fun _ _ h => h) ?_
  refine lk (v := .int .i64 (23 - (i27 : Int))) rfl rfl rfl ?_
  refine pt_ hK34 ?_
  refine plStartR kr_ (fun _ _ h => h) ?_
  refine plAlloc (z := [.int .i64 0, .int .i64 0, .int .i64 0, .int .i64 0, .int .i64 0, .int .i64 0]) Ty.ag_voxel_api_Half hm33 (i := 0) rfl (wn rfl) rfl ?_
  intro g35 w37 hm36
  clear hm33
  try simp only [lc_] at hm36
  replace hm36 := hm36.i4
  refine qP rfl ?_
  refine plStore 4 Ty.ag_voxel_api_Half hm36 rfl (i := 1) (cs := hfc (hB (23 - i27))) rfl (wn rfl) rfl (litEv kr_) (litEv kr_) rfl rfl kr_ ?_
  intro w39 hm38
  clear hm36
  try simp only [lc_] at hm38
  refine qNone rfl ?_
  refine plD ?_
  refine ⟨[.rd (some ⟨bh_, oh_, none⟩) 6 24 hc (hfsC bH), .arr g2 41 ([.slice qA 6 qc, .slice (some ⟨bh_, oh_, none⟩) 24 hc]), .row (.slice (some ⟨g6, 0, none⟩) 6 6) 3 1 6 (ics (fstI i27)), .arr g9 26 ([.slice (some ⟨g6, 0, none⟩) 6 6]), .arr g35 94 (hfc (hB (23 - i27)))], hm38, ?_⟩
  clear hm38
  intro w40 N41 hm42
  try simp only [lc_] at hm42
  refine wpIn_block ?_
  refine plStartR kr_ (fun _ _ h => h) ?_
  refine lv_ rfl (.slice (some ⟨g6, 0, none⟩) 6 6) (ld_ 0 3 hm42) ?_
  refine lk (v := .pointer (some ⟨g35, 5, none⟩)) rfl rfl rfl ?_
  refine lv_ rfl (.int .i64 ((hB (23 - i27)).fc)) (ld_ 5 4 hm42) ?_
  refine lk (v := .int .i64 (23 - (i27 : Int))) rfl rfl rfl ?_
  refine lv_ rfl (.pointer (some ⟨g6, 0 + (fcB (23 - i27)) * 1, none⟩)) (ia_ 6 (fcB (23 - i27)) Ty.sl_L_int hhb_.2.2.1 hhb_.2.2.2.2.2.1) ?_
  refine plStoreRow (v := .int .i64 (23 - (i27 : Int))) (v0 := .int .i64 ((fstI i27).getD (fcB (23 - i27)) 0)) (k := 0 + (fcB (23 - i27)) * 1) (xs := ics (fstI i27)) 2 kr_ hm42 rfl (i := 5) rfl (wn rfl) rfl (litEv kr_) (litEv kr_) (icsZ (by rw [fst_len]; exact hhb_.2.2.2.2.2.1)) (by have h_ := hhb_.2.2.2.2.2.1; omega) rfl rfl ?_
  intro w43 hm44
  clear hm42
  try simp only [lc_] at hm44
  replace hm44 := Mem.rowEq (v := .slice (some ⟨g6, 0, none⟩) 6 6) (e := 3) (size := 1) (n := 6) (n' := 6) (xs := (ics (fstI i27)).set (0 + (fcB (23 - i27)) * 1) (.int .i64 (23 - (i27 : Int)))) (xs' := ics (fstI (i27 + 1))) 2 hm44 rfl rfl (icsZs (fst_step i27))
  try simp only [lc_] at hm44
  refine qNone rfl ?_
  refine plD ?_
  refine inBlock_normal ?_
  exact ⟨_, ⟨trivial, rfl⟩, (hm44.sub (.cons_cons _ (.cons_cons _ (.cons_cons _ (.cons_cons _ (.cons _ (List.Sublist.refl _)))))))⟩
 clear hm25
 intro D45 w46 V47 hJ_ hm48
 obtain ⟨ht_, rfl⟩ := hJ_
 refine rgDone ?_
 have hm49 : Mem w w46 ((.rd (some ⟨bh_, oh_, none⟩) 6 24 hc (hfsC bH)) :: (.arr g2 41 ([.slice qA 6 qc, .slice (some ⟨bh_, oh_, none⟩) 24 hc])) :: (.row (.slice (some ⟨g6, 0, none⟩) 6 6) 3 1 6 (ics (fstI 24))) :: (.arr g9 26 ([.slice (some ⟨g6, 0, none⟩) 6 6])) :: (.arr g18 39 ([.slice (some ⟨bh_, oh_, none⟩) 24 hc])) :: (.rd (some ⟨bh_, oh_, none⟩) 6 24 hc (hfsC bH)) :: (((D45 :: []) : List Nat).map defR)) := hm48
 clear hm48
 refine inBlock_normal ?_
 refine tn_ hK14 ?_
 refine sp_ fun _ hK50 => ?_
 refine plLit (cs := [.int .i64 (-1)]) (n := 1) Ty.sl_L_int hm49 (i := 0) rfl (wn rfl) rfl (by decide) (by decide) (by rw [lit_eval]; kernel_rfl) ?_
 intro g51 w53 hm52
 clear hm49
 try simp only [lc_] at hm52
 replace hm52 := hm52.i6
 refine qP rfl ?_
 refine lk (v := .pointer (some ⟨g2, 0, none⟩)) rfl rfl rfl ?_
 refine lv_ rfl (.slice qA 6 qc) (ld_ 0 1 hm52) ?_
 refine lv_ rfl (.int .i64 6) (ln_ qA 6 qc Ty.und_L_api_Quad) ?_
 refine plCall (i := 4) 93 [.slice (some ⟨g51, 0, none⟩) 1 1, .int .i64 6] [] [] rfl kr_ (wn rfl) rfl (litEv kr_) (litArgs kr_) (repeat_any _ _ _ (Rd.of_arr (t := 3) (cs := [.int .i64 (-1)]) (hm52.arr 6 kr_) kr_ (of_decide_eq_true kr_))) ?_
 rintro e w54 ⟨v_, rfl, hown_, hbz⟩
 obtain ⟨oA, co, rfl, hrd_⟩ := Rd.of_own hown_
 clear hrd_
 replace hown_ : World.ownsRow w54 _ 3 1 _ 6 (ics negL) := hown_
 have hm55 := hm52.newRow hbz hown_
 clear hown_ hbz hm52
 try simp only [lc_] at hm55
 replace hm55 := hm55.i7
 obtain ⟨b56, rfl⟩ := hm55.rowBlk (A := oA) (n := 6) (c := co) 7 rfl (by decide)
 refine ⟨_, rfl, ?_⟩
 refine qP rfl ?_
 refine plAlloc1 (v := .slice none 0 0) kr_ hm55 (i := 5) rfl (wn rfl) rfl ?_
 intro g57 w59 hm58
 clear hm55
 try simp only [lc_] at hm58
 replace hm58 := hm58.i8
 refine qP rfl ?_
 refine plStore1 (v := .slice (some ⟨b56, 0, none⟩) 6 co) (k := 0) 8 kr_ hm58 rfl (i := 6) rfl (wn rfl) rfl (litEv kr_) (litEv kr_) rfl rfl rfl ?_
 intro w61 hm60
 clear hm58
 try simp only [lc_] at hm60
 refine qNone rfl ?_
 refine pt_ hK50 ?_
 refine wpPrune [(1, .pointer (some ⟨g2, 0, none⟩)), (2, .slice none 0 0), (3, .pointer (some ⟨g9, 0, none⟩)), (6, .pointer (some ⟨g57, 0, none⟩))] fo_ (fun X62 => ?_)
 refine sp_ fun _ hK63 => ?_
 refine plAlloc1 (v := .int .i64 0) kr_ hm60 (i := 0) rfl (wn rfl) rfl ?_
 intro g64 w66 hm65
 clear hm60
 try simp only [lc_] at hm65
 replace hm65 := hm65.i9
 refine qP rfl ?_
 refine plStore1 (v := .int .i64 0) (k := 0) 9 kr_ hm65 rfl (i := 1) rfl (wn rfl) rfl (litEv kr_) (litEv kr_) rfl rfl rfl ?_
 intro w68 hm67
 clear hm65
 try simp only [lc_] at hm67
 refine qNone rfl ?_
 refine pt_ hK63 ?_
 refine sp_ fun _ hK69 => ?_
 refine plAlloc1 (v := .nilFunc) kr_ hm67 (i := 0) rfl (wn rfl) rfl ?_
 intro g70 w72 hm71
 clear hm67
 try simp only [lc_] at hm71
 replace hm71 := hm71.i10
 refine qP rfl ?_
 refine pt_ hK69 ?_
 refine sp_ fun _ hK73 => ?_
 refine lk (v := .func (.func 94) #[] #[.pointer (some ⟨g64, 0, none⟩), .pointer (some ⟨g57, 0, none⟩), .pointer (some ⟨g2, 0, none⟩), .pointer (some ⟨g9, 0, none⟩), .pointer (some ⟨g70, 0, none⟩)]) rfl rfl rfl ?_
 refine plStore1 (v := .func (.func 94) #[] #[.pointer (some ⟨g64, 0, none⟩), .pointer (some ⟨g57, 0, none⟩), .pointer (some ⟨g2, 0, none⟩), .pointer (some ⟨g9, 0, none⟩), .pointer (some ⟨g70, 0, none⟩)]) (k := 0) 10 kr_ hm71 rfl (i := 1) rfl (wn rfl) rfl (litEv kr_) (litEv kr_) rfl rfl rfl ?_
 intro w75 hm74
 clear hm71
 try simp only [lc_] at hm74
 refine qNone rfl ?_
 refine pt_ hK73 ?_
 refine sk_ fun _ hK76 => ?_
 refine sp_ fun _ hK77 => ?_
 refine lv_ rfl (.slice (some ⟨b56, 0, none⟩) 6 co) (ld_ 0 8 hm74) ?_
 refine lv_ rfl (.int .i64 6) (ln_ (some ⟨b56, 0, none⟩) 6 co Ty.und_L_int) ?_
 refine lk (v := .int .i64 0) rfl rfl rfl ?_
 refine pt_ hK77 ?_
 refine wp_block ?_
 refine roundsStart 7 ?_
 refine sp_ fun _ hK78 => ?_
 refine lk (v := .bool true) rfl rfl rfl ?_
 refine pt_ hK78 ?_
 refine sk_ fun _ hK79 => ?_
 refine wp_cond_true (litEv kr_) ?_
 refine wp_skip ?_
 refine tn_ hK79 ?_
 refine sk_ fun _ hK80 => ?_
 refine wp_block ?_
 refine sp_ fun _ hK81 => ?_
 refine lk (v := .int .i64 0) rfl rfl rfl ?_
 refine lk (v := .int .i64 0) rfl rfl rfl ?_
 refine pt_ hK81 ?_
 refine sp_ fun _ hK82 => ?_
 refine lv_ rfl (.slice (some ⟨b56, 0, none⟩) 6 co) (ld_ 0 8 hm74) ?_
 refine lk (v := .int .i64 0) rfl rfl rfl ?_
 refine lv_ rfl (.pointer (some ⟨b56, 0 + 0 * 1, none⟩)) (gIaSl (b := b56) (off := 0) (n := 6) (c := co) (kk := .i64) (K := 0) (.tmp 35) (.tmp 36) 0 Ty.sl_L_int rfl (litEv kr_) (litEv kr_) (rfl) ((by decide))) ?_
 refine lv_ rfl (.int .i64 (-1)) (lr_ (m := 0 * 1) (hm74.rdRow 7 rfl) (icsGet (by decide)) (by decide)) ?_
 refine lk (v := .bool true) rfl rfl rfl ?_
 refine pt_ hK82 ?_
 refine wp_cond_true (litEv kr_) ?_
 refine sp_ fun _ hK83 => ?_
 refine lv_ rfl (.func (.func 94) #[] #[.pointer (some ⟨g64, 0, none⟩), .pointer (some ⟨g57, 0, none⟩), .pointer (some ⟨g2, 0, none⟩), .pointer (some ⟨g9, 0, none⟩), .pointer (some ⟨g70, 0, none⟩)]) (ld_ 0 10 hm74) ?_
 refine lk (v := .int .i64 0) rfl rfl rfl ?_
 have hm84 : Mem w w75 ((.rd (some ⟨bh_, oh_, none⟩) 6 24 hc (hfsC bH)) :: (.arr g2 41 ([.slice qA 6 qc, .slice (some ⟨bh_, oh_, none⟩) 24 hc])) :: (.row (.slice (some ⟨g6, 0, none⟩) 6 6) 3 1 6 (ics (fstI 24))) :: (.arr g9 26 ([.slice (some ⟨g6, 0, none⟩) 6 6])) :: (.arr g18 39 ([.slice (some ⟨bh_, oh_, none⟩) 24 hc])) :: (.rd (some ⟨bh_, oh_, none⟩) 6 24 hc (hfsC bH)) :: (.arr g51 3 ([.int .i64 (-1)])) :: (.row (.slice (some ⟨b56, 0, none⟩) 6 co) 3 1 6 (ics negL)) :: (.arr g57 26 ([.slice (some ⟨b56, 0, none⟩) 6 co])) :: (.arr g64 3 ([.int .i64 0])) :: (.arr g70 165 ([.func (.func 94) #[] #[.pointer (some ⟨g64, 0, none⟩), .pointer (some ⟨g57, 0, none⟩), .pointer (some ⟨g2, 0, none⟩), .pointer (some ⟨g9, 0, none⟩), .pointer (some ⟨g70, 0, none⟩)]])) :: (((D45 :: []) : List Nat).map defR)) := Mem.front 0 hm74 rfl
 clear hm74
 have hm85 := hm84.f2
 clear hm84
 have hm86 := hm85.f7
 clear hm85
 have hm87 := hm86.f10
 clear hm86
 have hm88 := hm87.f5
 clear hm87
 have hm89 := hm88.f5
 clear hm88
 have hm90 := hm89.f9
 clear hm89
 have hm91 := hm90.f10
 clear hm90
 refine plCall (i := 2) 94 [.int .i64 0] [] [.pointer (some ⟨g64, 0, none⟩), .pointer (some ⟨g57, 0, none⟩), .pointer (some ⟨g2, 0, none⟩), .pointer (some ⟨g9, 0, none⟩), .pointer (some ⟨g70, 0, none⟩)] rfl kr_ (wn rfl) rfl (litEv kr_) (litArgs kr_) (spread_all (qA := qA) (qc := qc) (bh_ := bh_) (oh_ := oh_) (hc := hc) (bo_ := b56) (co := co) (bf_ := g6) (cf := 6) (g1 := g2) (g3 := g9) (g6 := g57) (g7 := g64) (g8 := g70) 6 _ _ ((.arr g18 39 ([.slice (some ⟨bh_, oh_, none⟩) 24 hc])) :: (.rd (some ⟨bh_, oh_, none⟩) 6 24 hc (hfsC bH)) :: (.arr g51 3 ([.int .i64 (-1)])) :: (((D45 :: []) : List Nat).map defR)) negL 0 rfl (by decide) (by decide) (by decide) hm91) ?_
 rintro e w92 ⟨⟨v94, rfl⟩, hm93⟩
 clear hm91
 rw [dfs_all] at hm93
 have hm95 : Mem w w92 ((.arr g64 3 ([.int .i64 0])) :: (.arr g57 26 ([.slice (some ⟨b56, 0, none⟩) 6 co])) :: (.arr g2 41 ([.slice qA 6 qc, .slice (some ⟨bh_, oh_, none⟩) 24 hc])) :: (.arr g9 26 ([.slice (some ⟨g6, 0, none⟩) 6 6])) :: (.arr g70 165 ([.func (.func 94) #[] #[.pointer (some ⟨g64, 0, none⟩), .pointer (some ⟨g57, 0, none⟩), .pointer (some ⟨g2, 0, none⟩), .pointer (some ⟨g9, 0, none⟩), .pointer (some ⟨g70, 0, none⟩)]])) :: (.row (.slice (some ⟨b56, 0, none⟩) 6 co) 3 1 6 (ics [0, 0, 0, 0, 0, 0])) :: (.row (.slice (some ⟨g6, 0, none⟩) 6 6) 3 1 6 (ics (fstI 24))) :: (.rd (some ⟨bh_, oh_, none⟩) 6 24 hc (hfsC bH)) :: (.arr g18 39 ([.slice (some ⟨bh_, oh_, none⟩) 24 hc])) :: (.rd (some ⟨bh_, oh_, none⟩) 6 24 hc (hfsC bH)) :: (.arr g51 3 ([.int .i64 (-1)])) :: (((D45 :: []) : List Nat).map defR)) := hm93
 clear hm93
 refine ⟨_, rfl, ?_⟩
 refine qP rfl ?_
 refine pt_ hK83 ?_
 refine plStart ?_
 refine lv_ rfl (.int .i64 0) (ld_ 0 0 hm95) ?_
 refine lk (v := .int .i64 1) rfl rfl rfl ?_
 refine plStore1 (v := .int .i64 1) (k := 0) 0 kr_ hm95 rfl (i := 2) rfl (wn rfl) rfl (litEv kr_) (litEv kr_) rfl rfl rfl ?_
 intro w97 hm96
 clear hm95
 try simp only [lc_] at hm96
 refine qNone rfl ?_
 refine plD ?_
 refine inBlock_normal ?_
 refine tn_ hK80 ?_
 refine plStart ?_
 refine lk (v := .int .i64 1) rfl rfl rfl ?_
 refine lk (v := .int .i64 1) rfl rfl rfl ?_
 refine plD ?_
 refine then_normal (roundsNext ?_)
 refine sp_ fun _ hK98 => ?_
 refine lk (v := .bool true) rfl rfl rfl ?_
 refine pt_ hK98 ?_
 refine sk_ fun _ hK99 => ?_
 refine wp_cond_true (litEv kr_) ?_
 refine wp_skip ?_
 refine tn_ hK99 ?_
 refine sk_ fun _ hK100 => ?_
 refine wp_block ?_
 refine sp_ fun _ hK101 => ?_
 refine lk (v := .int .i64 1) rfl rfl rfl ?_
 refine lk (v := .int .i64 1) rfl rfl rfl ?_
 refine pt_ hK101 ?_
 refine sp_ fun _ hK102 => ?_
 refine lv_ rfl (.slice (some ⟨b56, 0, none⟩) 6 co) (ld_ 0 1 hm96) ?_
 refine lk (v := .int .i64 1) rfl rfl rfl ?_
 refine lv_ rfl (.pointer (some ⟨b56, 0 + 1 * 1, none⟩)) (gIaSl (b := b56) (off := 0) (n := 6) (c := co) (kk := .i64) (K := 1) (.tmp 35) (.tmp 36) 1 Ty.sl_L_int rfl (litEv kr_) (litEv kr_) (rfl) ((by decide))) ?_
 refine lv_ rfl (.int .i64 0) (lr_ (m := 1 * 1) (hm96.rdRow 5 rfl) (zero_get (by decide)) (by decide)) ?_
 refine lk (v := .bool false) rfl rfl rfl ?_
 refine pt_ hK102 ?_
 refine wpPrune [(2, .slice none 0 0), (6, .pointer (some ⟨g57, 0, none⟩)), (7, .pointer (some ⟨g64, 0, none⟩)), (8, .pointer (some ⟨g70, 0, none⟩)), (9, .int .i64 1), (31, .int .i64 6), (32, .int .i64 1), (33, .bool true), (34, .int .i64 1), (35, .slice (some ⟨b56, 0, none⟩) 6 co), (36, .int .i64 1), (37, .pointer (some ⟨b56, 0 + 1 * 1, none⟩)), (38, .int .i64 0), (39, .bool false), (40, .func (.func 94) #[] #[.pointer (some ⟨g64, 0, none⟩), .pointer (some ⟨g57, 0, none⟩), .pointer (some ⟨g2, 0, none⟩), .pointer (some ⟨g9, 0, none⟩), .pointer (some ⟨g70, 0, none⟩)]), (41, .int .i64 0), (43, .int .i64 0), (44, .int .i64 1), (45, .int .i64 1)] fo_ (fun X103 => ?_)
 refine wp_cond_false (litEv kr_) ?_
 refine wp_skip ?_
 refine inBlock_normal ?_
 refine tn_ hK100 ?_
 refine plStart ?_
 refine lk (v := .int .i64 2) rfl rfl rfl ?_
 refine lk (v := .int .i64 2) rfl rfl rfl ?_
 refine plD ?_
 refine then_normal (roundsNext ?_)
 refine sp_ fun _ hK104 => ?_
 refine lk (v := .bool true) rfl rfl rfl ?_
 refine pt_ hK104 ?_
 refine sk_ fun _ hK105 => ?_
 refine wp_cond_true (litEv kr_) ?_
 refine wp_skip ?_
 refine tn_ hK105 ?_
 refine sk_ fun _ hK106 => ?_
 refine wp_block ?_
 refine sp_ fun _ hK107 => ?_
 refine lk (v := .int .i64 2) rfl rfl rfl ?_
 refine lk (v := .int .i64 2) rfl rfl rfl ?_
 refine pt_ hK107 ?_
 refine sp_ fun _ hK108 => ?_
 refine lv_ rfl (.slice (some ⟨b56, 0, none⟩) 6 co) (ld_ 0 1 hm96) ?_
 refine lk (v := .int .i64 2) rfl rfl rfl ?_
 refine lv_ rfl (.pointer (some ⟨b56, 0 + 2 * 1, none⟩)) (gIaSl (b := b56) (off := 0) (n := 6) (c := co) (kk := .i64) (K := 2) (.tmp 35) (.tmp 36) 2 Ty.sl_L_int rfl (litEv kr_) (litEv kr_) (rfl) ((by decide))) ?_
 refine lv_ rfl (.int .i64 0) (lr_ (m := 2 * 1) (hm96.rdRow 5 rfl) (zero_get (by decide)) (by decide)) ?_
 refine lk (v := .bool false) rfl rfl rfl ?_
 refine pt_ hK108 ?_
 refine wp_cond_false (litEv kr_) ?_
 refine wp_skip ?_
 refine inBlock_normal ?_
 refine tn_ hK106 ?_
 refine plStart ?_
 refine lk (v := .int .i64 3) rfl rfl rfl ?_
 refine lk (v := .int .i64 3) rfl rfl rfl ?_
 refine plD ?_
 refine then_normal (roundsNext ?_)
 refine sp_ fun _ hK109 => ?_
 refine lk (v := .bool true) rfl rfl rfl ?_
 refine pt_ hK109 ?_
 refine wpPrune [(2, .slice none 0 0), (6, .pointer (some ⟨g57, 0, none⟩)), (7, .pointer (some ⟨g64, 0, none⟩)), (8, .pointer (some ⟨g70, 0, none⟩)), (9, .int .i64 2), (31, .int .i64 6), (32, .int .i64 3), (33, .bool true), (34, .int .i64 2), (35, .slice (some ⟨b56, 0, none⟩) 6 co), (36, .int .i64 2), (37, .pointer (some ⟨b56, 0 + 2 * 1, none⟩)), (38, .int .i64 0), (39, .bool false), (40, .func (.func 94) #[] #[.pointer (some ⟨g64, 0, none⟩), .pointer (some ⟨g57, 0, none⟩), .pointer (some ⟨g2, 0, none⟩), .pointer (some ⟨g9, 0, none⟩), .pointer (some ⟨g70, 0, none⟩)]), (41, .int .i64 0), (43, .int .i64 0), (44, .int .i64 1), (45, .int .i64 3)] fo_ (fun X110 => ?_)
 refine sk_ fun _ hK111 => ?_
 refine wp_cond_true (litEv kr_) ?_
 refine wp_skip ?_
 refine tn_ hK111 ?_
 refine sk_ fun _ hK112 => ?_
 refine wp_block ?_
 refine sp_ fun _ hK113 => ?_
 refine lk (v := .int .i64 3) rfl rfl rfl ?_
 refine lk (v := .int .i64 3) rfl rfl rfl ?_
 refine pt_ hK113 ?_
 refine sp_ fun _ hK114 => ?_
 refine lv_ rfl (.slice (some ⟨b56, 0, none⟩) 6 co) (ld_ 0 1 hm96) ?_
 refine lk (v := .int .i64 3) rfl rfl rfl ?_
 refine lv_ rfl (.pointer (some ⟨b56, 0 + 3 * 1, none⟩)) (gIaSl (b := b56) (off := 0) (n := 6) (c := co) (kk := .i64) (K := 3) (.tmp 35) (.tmp 36) 3 Ty.sl_L_int rfl (litEv kr_) (litEv kr_) (rfl) ((by decide))) ?_
 refine lv_ rfl (.int .i64 0) (lr_ (m := 3 * 1) (hm96.rdRow 5 rfl) (zero_get (by decide)) (by decide)) ?_
 refine lk (v := .bool false) rfl rfl rfl ?_
 refine pt_ hK114 ?_
 refine wp_cond_false (litEv kr_) ?_
 refine wp_skip ?_
 refine inBlock_normal ?_
 refine tn_ hK112 ?_
 refine plStart ?_
 refine lk (v := .int .i64 4) rfl rfl rfl ?_
 refine lk (v := .int .i64 4) rfl rfl rfl ?_
 refine plD ?_
 refine then_normal (roundsNext ?_)
 refine sp_ fun _ hK115 => ?_
 refine lk (v := .bool true) rfl rfl rfl ?_
 refine pt_ hK115 ?_
 refine sk_ fun _ hK116 => ?_
 refine wp_cond_true (litEv kr_) ?_
 refine wp_skip ?_
 refine tn_ hK116 ?_
 refine sk_ fun _ hK117 => ?_
 refine wp_block ?_
 refine sp_ fun _ hK118 => ?_
 refine lk (v := .int .i64 4) rfl rfl rfl ?_
 refine lk (v := .int .i64 4) rfl rfl rfl ?_
 refine pt_ hK118 ?_
 refine sp_ fun _ hK119 => ?_
 refine lv_ rfl (.slice (some ⟨b56, 0, none⟩) 6 co) (ld_ 0 1 hm96) ?_
 refine lk (v := .int .i64 4) rfl rfl rfl ?_
 refine lv_ rfl (.pointer (some ⟨b56, 0 + 4 * 1, none⟩)) (gIaSl (b := b56) (off := 0) (n := 6) (c := co) (kk := .i64) (K := 4) (.tmp 35) (.tmp 36) 4 Ty.sl_L_int rfl (litEv kr_) (litEv kr_) (rfl) ((by decide))) ?_
 refine lv_ rfl (.int .i64 0) (lr_ (m := 4 * 1) (hm96.rdRow 5 rfl) (zero_get (by decide)) (by decide)) ?_
 refine lk (v := .bool false) rfl rfl rfl ?_
 refine pt_ hK119 ?_
 refine wpPrune [(2, .slice none 0 0), (6, .pointer (some ⟨g57, 0, none⟩)), (7, .pointer (some ⟨g64, 0, none⟩)), (8, .pointer (some ⟨g70, 0, none⟩)), (9, .int .i64 4), (31, .int .i64 6), (32, .int .i64 4), (33, .bool true), (34, .int .i64 4), (35, .slice (some ⟨b56, 0, none⟩) 6 co), (36, .int .i64 4), (37, .pointer (some ⟨b56, 0 + 4 * 1, none⟩)), (38, .int .i64 0), (39, .bool false), (40, .func (.func 94) #[] #[.pointer (some ⟨g64, 0, none⟩), .pointer (some ⟨g57, 0, none⟩), .pointer (some ⟨g2, 0, none⟩), .pointer (some ⟨g9, 0, none⟩), .pointer (some ⟨g70, 0, none⟩)]), (41, .int .i64 0), (43, .int .i64 0), (44, .int .i64 1), (45, .int .i64 4)] fo_ (fun X120 => ?_)
 refine wp_cond_false (litEv kr_) ?_
 refine wp_skip ?_
 refine inBlock_normal ?_
 refine tn_ hK117 ?_
 refine plStart ?_
 refine lk (v := .int .i64 5) rfl rfl rfl ?_
 refine lk (v := .int .i64 5) rfl rfl rfl ?_
 refine plD ?_
 refine then_normal (roundsNext ?_)
 refine sp_ fun _ hK121 => ?_
 refine lk (v := .bool true) rfl rfl rfl ?_
 refine pt_ hK121 ?_
 refine sk_ fun _ hK122 => ?_
 refine wp_cond_true (litEv kr_) ?_
 refine wp_skip ?_
 refine tn_ hK122 ?_
 refine sk_ fun _ hK123 => ?_
 refine wp_block ?_
 refine sp_ fun _ hK124 => ?_
 refine lk (v := .int .i64 5) rfl rfl rfl ?_
 refine lk (v := .int .i64 5) rfl rfl rfl ?_
 refine pt_ hK124 ?_
 refine sp_ fun _ hK125 => ?_
 refine lv_ rfl (.slice (some ⟨b56, 0, none⟩) 6 co) (ld_ 0 1 hm96) ?_
 refine lk (v := .int .i64 5) rfl rfl rfl ?_
 refine lv_ rfl (.pointer (some ⟨b56, 0 + 5 * 1, none⟩)) (gIaSl (b := b56) (off := 0) (n := 6) (c := co) (kk := .i64) (K := 5) (.tmp 35) (.tmp 36) 5 Ty.sl_L_int rfl (litEv kr_) (litEv kr_) (rfl) ((by decide))) ?_
 refine lv_ rfl (.int .i64 0) (lr_ (m := 5 * 1) (hm96.rdRow 5 rfl) (zero_get (by decide)) (by decide)) ?_
 refine lk (v := .bool false) rfl rfl rfl ?_
 refine pt_ hK125 ?_
 refine wp_cond_false (litEv kr_) ?_
 refine wp_skip ?_
 refine inBlock_normal ?_
 refine tn_ hK123 ?_
 refine plStart ?_
 refine lk (v := .int .i64 6) rfl rfl rfl ?_
 refine lk (v := .int .i64 6) rfl rfl rfl ?_
 refine plD ?_
 refine then_normal (roundsNext ?_)
 refine sp_ fun _ hK126 => ?_
 refine lk (v := .bool false) rfl rfl rfl ?_
 refine pt_ hK126 ?_
 refine wpPrune [(2, .slice none 0 0), (6, .pointer (some ⟨g57, 0, none⟩)), (7, .pointer (some ⟨g64, 0, none⟩)), (8, .pointer (some ⟨g70, 0, none⟩)), (9, .int .i64 5), (31, .int .i64 6), (32, .int .i64 6), (33, .bool false), (34, .int .i64 5), (35, .slice (some ⟨b56, 0, none⟩) 6 co), (36, .int .i64 5), (37, .pointer (some ⟨b56, 0 + 5 * 1, none⟩)), (38, .int .i64 0), (39, .bool false), (40, .func (.func 94) #[] #[.pointer (some ⟨g64, 0, none⟩), .pointer (some ⟨g57, 0, none⟩), .pointer (some ⟨g2, 0, none⟩), .pointer (some ⟨g9, 0, none⟩), .pointer (some ⟨g70, 0, none⟩)]), (41, .int .i64 0), (43, .int .i64 0), (44, .int .i64 1), (45, .int .i64 6)] fo_ (fun X127 => ?_)
 refine sk_ fun _ hK128 => ?_
 refine wp_cond_false (litEv kr_) ?_
 refine wp_exit ?_
 refine then_exit ?_
 refine then_exit ?_
 refine inBlock_exit ?_
 refine tn_ hK76 ?_
 refine wpPrune [(2, .slice none 0 0), (6, .pointer (some ⟨g57, 0, none⟩))] fo_ (fun X129 => ?_)
 refine sp_ fun _ hK130 => ?_
 refine lv_ rfl (.slice (some ⟨b56, 0, none⟩) 6 co) (ld_ 0 1 hm96) ?_
 refine lk (v := .slice (some ⟨b56, 0, none⟩) 6 co) rfl rfl rfl ?_
 refine pt_ hK130 ?_
 refine wp_ret ?_
 refine bodyPostM_ret (leaveMarksT (M := [.arr g64 3 ([.int .i64 1]), .arr g57 26 ([.slice (some ⟨b56, 0, none⟩) 6 co]), .arr g2 41 ([.slice qA 6 qc, .slice (some ⟨bh_, oh_, none⟩) 24 hc]), .arr g9 26 ([.slice (some ⟨g6, 0, none⟩) 6 6]), .arr g70 165 ([.func (.func 94) #[] #[.pointer (some ⟨g64, 0, none⟩), .pointer (some ⟨g57, 0, none⟩), .pointer (some ⟨g2, 0, none⟩), .pointer (some ⟨g9, 0, none⟩), .pointer (some ⟨g70, 0, none⟩)]]), .row (.slice (some ⟨b56, 0, none⟩) 6 co) 3 1 6 (ics [0, 0, 0, 0, 0, 0]), .row (.slice (some ⟨g6, 0, none⟩) 6 6) 3 1 6 (ics (fstI 24)), .rd (some ⟨bh_, oh_, none⟩) 6 24 hc (hfsC bH), .arr g18 39 ([.slice (some ⟨bh_, oh_, none⟩) 24 hc]), .rd (some ⟨bh_, oh_, none⟩) 6 24 hc (hfsC bH), .arr g51 3 ([.int .i64 (-1)])]) ((D45 :: []) : List Nat) hm96 ?_)
 clear hm96
 intro w131 hm132
 refine ⟨.slice (some ⟨b56, 0, none⟩) 6 co, gRes1 rfl (gResTmp (t := 2) (v := .slice (some ⟨b56, 0, none⟩) 6 co) (litGet kr_)), ?_⟩
 exact ⟨_, rfl, hm132.row 5 rfl, hm132.bel⟩
end LD
def cornerL : List (List Int) := [[0, 8, 16], [1, 20, 11], [2, 13, 23], [3, 17, 12], [4, 19, 9], [5, 15, 18], [6, 22, 14], [7, 10, 21]]
def blsC (l : List Bool) : List Value := l.map fun b => Value.bool b
theorem blsGet {l : List Bool} {k : Nat} {b : Bool} (h : l[k]? = some b) : (blsC l)[k * 1]? = some (.bool b) := by rw [Nat.mul_one]; unfold blsC; rw [List.getElem?_map, h]; rfl
theorem blsZ {l : List Bool} {k : Nat} {b : Bool} (h : l[k]? = some b) : (blsC l)[0 + k * 1]? = some (.bool b) := by rw [Nat.zero_add]; exact blsGet h
theorem blsZs {l m : List Bool} {k : Nat} {b : Bool} (h : l.set k b = m) : (blsC l).set (0 + k * 1) (.bool b) = blsC m := by subst h; rw [Nat.zero_add, Nat.mul_one]; unfold blsC; rw [List.map_set]
def seenH (h : Nat) : List Bool := (List.range 24).map fun (m : Nat) => decide ((m : Int) ∈ (cornerL.take h).flatten)
def seenJ (h j : Nat) : List Bool := (List.range 24).map fun (m : Nat) => decide ((m : Int) ∈ (cornerL.take h).flatten ++ (cornerL.getD h []).take j)
def kC (h : Nat) : Nat → Nat
 | 0 => h
 | j + 1 => nxB (twB (kC h j))
theorem seen_start : ∀ h < 8, seenH h = seenJ h 0 := by decide +kernel
theorem seen_end : ∀ h < 8, seenJ h 3 = seenH (h + 1) := by decide +kernel
theorem seen_same : ∀ h < 24, 8 ≤ h → seenH h = seenH (h + 1) ∧ (seenH h)[h]? = some true := by decide +kernel
theorem seen_no : ∀ h < 8, ∀ j < 3, (seenJ h j)[kC h j]? = some false ∧ (seenJ h j).set (kC h j) true = seenJ h (j + 1) := by decide +kernel
theorem seen_yes : ∀ h < 8, (seenJ h 3)[kC h 3]? = some true := by decide +kernel
theorem kC_ok : ∀ h < 8, kC h 0 < 24 ∧ kC h 1 < 24 ∧ kC h 2 < 24 ∧ kC h 3 < 24 ∧ twB (kC h 0) < 24 ∧ twB (kC h 1) < 24 ∧ twB (kC h 2) < 24 ∧ cornerL.take (h + 1) = cornerL.take h ++ [[(kC h 0 : Int), (kC h 1 : Int), (kC h 2 : Int)]] := by decide +kernel
theorem cor_take {h : Nat} (h8 : 8 ≤ h) : cornerL.take h = cornerL := List.take_of_length_le h8
theorem Mem.rowSnoc {w0 w : World} {L : List Res} {e : Ent} {E : List Ent} (h : Mem w0 w (rowE e :: (L ++ E.map rowE))) : Mem w0 w (L ++ (E ++ [e]).map rowE) := by
 refine h.permL ?_
 rw [List.map_append, ← List.append_assoc]
 exact List.perm_append_comm (l₁ := L ++ E.map rowE) (l₂ := [rowE e])
theorem Mem.join {w0 w w' : World} {L L2 : List Res} (h : Mem w0 w L) (h2 : Mem w w' L2) (hr : ∀ r ∈ L2, ∃ v e size n xs, r = .row v e size n xs) : Mem w0 w' (L ++ L2) := by
 refine ⟨h.bel.trans (h2.bel.mono h.bel.size), fun s hs => ?_, List.pairwise_append.2 ⟨h.apart, h2.apart, fun s hs t ht => ?_⟩⟩
 ·rcases List.mem_append.1 hs with hs | hs
  ·exact (h.each s hs).below h2.bel
  ·obtain ⟨v, e, size, n, xs, rfl⟩ := hr s hs
   exact ownsRow_base (h2.each _ hs) h.bel.size
 ·cases hsb : s.blk with
  | none => exact Or.inr (Or.inl hsb)
  | some g =>
   refine Or.inr (Or.inr fun e => ?_)
   have h3 := (h.each s hs).lt hsb
   obtain ⟨v, e', size, n, xs, rfl⟩ := hr t ht
   have h4 := (World.ownsRow.lt (h2.each _ ht) g (e.symm.trans hsb)).1
   omega
theorem Mem.entRd {w0 w : World} {L : List Res} {e : Ent} (h : Mem w0 w L) (he : rowE e ∈ L) : Rd w w.heap.size 1 e.A e.ids.length e.c (ics e.ids) := by
 obtain ⟨k, hk⟩ := List.getElem?_of_mem he
 exact h.rdRow k hk
theorem corners_any (qA A : Option Addr) (qc hc : Nat) (w : World) (hh : Rd w w.heap.size 6 A 24 hc (hfsC bH)) : Calls Tryz.prog 62 #[.agg ([.slice qA 6 qc, .slice A 24 hc]).toArray] w (fun e w' => ∃ (Es : List Ent) (oA : Option Addr) (oc : Nat), e = .returned (.slice oA Es.length oc) ∧ Es.map (·.ids) = cornerL ∧ Mem w w' (.row (.slice oA Es.length oc) 26 1 Es.length (Es.map entV) :: Es.map rowE)) := by
 obtain ⟨bh_, oh_, rfl, _, _⟩ := hh.cells (by omega)
 have hm0 := Mem.nil w
 go_enter Tryz.func62, Tryz.ntmps62
 refine litStart 51 [(0, .agg ([.slice qA 6 qc, .slice (some ⟨bh_, oh_, none⟩) 24 hc]).toArray)] kr_ (fun X0 => ?_)
 refine sp_ fun _ hK1 => ?_
 refine plBox hm0 (cs := [.slice qA 6 qc, .slice (some ⟨bh_, oh_, none⟩) 24 hc]) (i := 0) rfl (wn rfl) rfl le_ ?_
 intro g2 w4 hm3
 clear hm0
 try simp only [lc_] at hm3
 refine qP rfl ?_
 refine lk_ (.slice none 0 0) ?_
 refine pt_ hK1 ?_
 refine sp_ fun _ hK5 => ?_
 have hm6 := Mem.nilFront hm3 26 1
 clear hm3
 refine lk_ (.slice none 0 0) ?_
 refine pt_ hK5 ?_
 refine sp_ fun _ hK7 => ?_
 refine lp_ g2 1 ?_
 refine lv_ rfl (.slice (some ⟨bh_, oh_, none⟩) 24 hc) (ld_ 1 1 hm6) ?_
 refine lv_ rfl (.int .i64 24) (ln_ (some ⟨bh_, oh_, none⟩) 24 hc Ty.und_L_api_Half) ?_
 refine plMakeRow (m := 24) (cs := blsC (seenH 0)) (e := 4) hm6 (i := 3) rfl (wn rfl) rfl le_ le_ (fun w_ => by kernel_rfl) kr_ (by decide) ?_
 intro g8 w9 hm10
 clear hm6
 try simp only [lc_] at hm10
 refine qP rfl ?_
 refine lk_ (.slice (some ⟨g8, 0, none⟩) 24 24) ?_
 refine pt_ hK7 ?_
 refine sk_ fun _ hK11 => ?_
 refine sp_ fun _ hK12 => ?_
 refine lp_ g2 1 ?_
 refine lv_ rfl (.slice (some ⟨bh_, oh_, none⟩) 24 hc) (ld_ 1 1 hm10) ?_
 refine lv_ rfl (.int .i64 24) (ln_ (some ⟨bh_, oh_, none⟩) 24 hc Ty.und_L_api_Half) ?_
 refine li_ 0 ?_
 refine pt_ hK12 ?_
 refine wp_block ?_
 have hm13 := hm10.f1
 clear hm10
 have hm14 := hm13.f2
 clear hm13
 have hm15 := hm14.f2
 clear hm14
 refine gwLoop (fun n_ a_ w_ => ∃ (h : Nat) (A2 : Option Addr) (c2 : Nat) (Es : List Ent), n_ = 24 - h ∧ (h ≤ 24) ∧ (Es.map (·.ids) = cornerL.take h) ∧ Fr a_ 51 [(1, .pointer (some ⟨g2, 0, none⟩)), (2, .slice none 0 0), (3, .slice A2 Es.length c2), (4, .slice (some ⟨g8, 0, none⟩) 24 24), (14, .int .i64 24), (15, .int .i64 (h : Int))] ∧ Mem w w_ ((.row (.slice A2 Es.length c2) 26 1 Es.length (Es.map entV)) :: (.row (.slice (some ⟨g8, 0, none⟩) 24 24) 4 1 24 (blsC (seenH h))) :: (.arr g2 41 ([.slice qA 6 qc, .slice (some ⟨bh_, oh_, none⟩) 24 hc])) :: (Es.map rowE))) (24 - 0) ⟨0, none, 0, [], rfl, (Nat.zero_le _), rfl, ⟨litSize, rfl, fo_⟩, (hm15.sub (.cons_cons _ (.cons_cons _ (.cons_cons _ (List.Sublist.refl _)))))⟩ ?_
 clear hm15
 intro n_ a18 w16 hI_
 obtain ⟨h, A2, c2, Es, rfl, hh_, hE, hF_, hm17⟩ := hI_
 obtain ⟨X19, rfl⟩ := frLit hF_
 clear hF_
 refine sp_ fun _ hK20 => ?_
 by_cases h21 : (h : Int) < 24
 ·have hh2_ : h < 24 := by omega
  have hEl_ : Es.length ≤ 24 := by have h_ := congrArg List.length hE; rw [List.length_map, List.length_take] at h_; omega
  refine lv_ rfl _ (lsT_ h21) ?_
  refine pt_ hK20 ?_
  refine sk_ fun _ hK22 => ?_
  refine wp_cond_true le_ ?_
  refine wp_skip ?_
  refine tn_ hK22 ?_
  refine sk_ fun _ hK23 => ?_
  refine wp_block ?_
  refine sp_ fun _ hK24 => ?_
  refine li_ h ?_
  refine li_ h ?_
  refine pt_ hK24 ?_
  refine sp_ fun _ hK25 => ?_
  refine lk_ (.slice none 0 0) ?_
  refine pt_ hK25 ?_
  refine sk_ fun _ hK26 => ?_
  refine sp_ fun _ hK27 => ?_
  by_cases h28 : h < 8
  ·have h8_ : h < 8 := h28
   have hkc_ := kC_ok h h8_
   rw [seen_start h h8_] at hm17
   refine li_ h ?_
   refine li_ h ?_
   refine pt_ hK27 ?_
   refine wp_block ?_
   refine roundsStart 4 ?_
   refine sk_ fun _ hK29 => ?_
   refine sp_ fun _ hK30 => ?_
   refine lk_ (.slice (some ⟨g8, 0, none⟩) 24 24) ?_
   refine li_ h ?_
   refine lv_ rfl (.pointer (some ⟨g8, 0 + (kC h 0) * 1, none⟩)) (ia_ 24 (kC h 0) Ty.sl_L_bool rfl (show kC h 0 < 24 from hkc_.1)) ?_
   refine lv_ rfl (.bool false) (lr_ (m := (kC h 0) * 1) (hm17.rdRow 1 rfl) (blsGet (seen_no h h8_ 0 (by decide)).1) (by decide)) ?_
   refine lT_ ?_
   refine pt_ hK30 ?_
   refine wp_cond_true le_ ?_
   refine wp_skip ?_
   refine tn_ hK29 ?_
   refine sk_ fun _ hK31 => ?_
   refine wp_block ?_
   refine sp_ fun _ hK32 => ?_
   refine lk_ (.slice (some ⟨g8, 0, none⟩) 24 24) ?_
   refine li_ h ?_
   refine lv_ rfl (.pointer (some ⟨g8, 0 + (kC h 0) * 1, none⟩)) (ia_ 24 (kC h 0) Ty.sl_L_bool rfl (show kC h 0 < 24 from hkc_.1)) ?_
   refine plStoreRow (v := .bool true) (v0 := .bool false) (k := 0 + (kC h 0) * 1) (xs := blsC (seenJ h 0)) 1 kr_ hm17 rfl (i := 3) rfl (wn rfl) rfl le_ le_ (blsZ (seen_no h h8_ 0 (by decide)).1) (by omega) rfl rfl ?_
   intro w33 hm34
   clear hm17
   try simp only [lc_] at hm34
   replace hm34 := Mem.rowEq (v := .slice (some ⟨g8, 0, none⟩) 24 24) (e := 4) (size := 1) (n := 24) (n' := 24) (xs := (blsC (seenJ h 0)).set (0 + (kC h 0) * 1) (.bool true)) (xs' := blsC (seenJ h 1)) 1 hm34 rfl rfl (blsZs (seen_no h h8_ 0 (by decide)).2)
   try simp only [lc_] at hm34
   refine qNone rfl ?_
   refine pt_ hK32 ?_
   refine plStart ?_
   refine lk_ (.slice none 0 0) ?_
   refine li_ h ?_
   refine plLit (cs := [.int .i64 (h : Int)]) (n := 1) Ty.sl_L_int hm34 (i := 2) rfl (wn rfl) rfl (by decide) (by decide) (by rw [lit_eval]; kernel_rfl) ?_
   intro g35 w37 hm36
   clear hm34
   try simp only [lc_] at hm36
   replace hm36 := hm36.i3
   refine qP rfl ?_
   have hm38 := Mem.nilRow hm36 3 1
   clear hm36
   try simp only [lc_] at hm38
   replace hm38 := hm38.i4
   refine plApp1 (v := .slice none 0 0) (n := 0) (xs := []) (ys := [.int .i64 (h : Int)]) 4 3 Ty.sl_L_int hm38 rfl rfl (i := 3) rfl (wn rfl) rfl le_ le_ kr_ kr_ (by omega) (by omega) ?_
   intro v43 w40 hm39
   clear hm38
   try simp only [lc_] at hm39
   replace hm39 := Mem.rowEq (v := v43) (e := 3) (size := 1) (n := 0 + 1) (n' := 1) (xs := ([]) ++ ([.int .i64 (h : Int)])) (xs' := ics [(kC h 0 : Int)]) 4 hm39 rfl (by rfl) (by rfl)
   try simp only [lc_] at hm39
   obtain ⟨A41, c42, rfl⟩ := Mem.rowSl (v := v43) (e := 3) (size := 1) (n := 1) (xs := ics [(kC h 0 : Int)]) 4 hm39 rfl
   refine qP rfl ?_
   refine lk_ (.slice A41 1 c42) ?_
   refine plD ?_
   refine inBlock_normal ?_
   refine tn_ hK31 ?_
   refine mgStart hm39 kr_ ?_
   intro w45 hm44
   clear hm39
   refine mk_ (i := 0) (v := .pointer (some ⟨g2, 1, none⟩)) rfl rfl (fun _ _ _ h => h) hm44 rfl ?_
   refine mt_ 1 rfl (.slice (some ⟨bh_, oh_, none⟩) 24 hc) hm44 (fun w_ h_ => ld_ 1 2 h_) ?_
   refine mk_ (i := 2) (v := .pointer (some ⟨g2, 1, none⟩)) rfl rfl (fun _ _ _ h => h) hm44 rfl ?_
   refine mt_ 3 rfl (.slice (some ⟨bh_, oh_, none⟩) 24 hc) hm44 (fun w_ h_ => ld_ 1 2 h_) ?_
   refine mk_ (i := 4) (v := .int .i64 (h : Int)) rfl rfl (fun _ _ _ h => h) hm44 rfl ?_
   refine mt_ 5 rfl (.pointer (some ⟨bh_, oh_ + (kC h 0) * 6, none⟩)) hm44 (fun w_ h_ => ia_ hc (kC h 0) Ty.sl_L_api_Half rfl (show kC h 0 < 24 from hkc_.1)) ?_
   refine mk_ (i := 6) (v := .pointer (some ⟨bh_, oh_ + (kC h 0) * 6 + 4, none⟩)) rfl rfl (fun _ _ _ h => h) hm44 rfl ?_
   refine mt_ 7 rfl (.int .i64 (twB (kC h 0) : Int)) hm44 (fun w_ h_ => lr_ (m := (kC h 0) * 6 + 4) ((Rd.below hh h_.bel).more h_.bel.size) (bH_tw (show (kC h 0) < 24 by omega)) (by decide)) ?_
   refine mt_ 8 rfl (.pointer (some ⟨bh_, oh_ + (twB (kC h 0)) * 6, none⟩)) hm44 (fun w_ h_ => ia_ hc (twB (kC h 0)) Ty.sl_L_api_Half rfl (show twB (kC h 0) < 24 by omega)) ?_
   refine mk_ (i := 9) (v := .pointer (some ⟨bh_, oh_ + (twB (kC h 0)) * 6 + 3, none⟩)) rfl rfl (fun _ _ _ h => h) hm44 rfl ?_
   refine mt_ 10 rfl (.int .i64 (kC h 1 : Int)) hm44 (fun w_ h_ => lr_ (m := (twB (kC h 0)) * 6 + 3) ((Rd.below hh h_.bel).more h_.bel.size) (bH_nx (show twB (kC h 0) < 24 by omega)) (by decide)) ?_
   refine mk_ (i := 11) (v := .int .i64 (kC h 1 : Int)) rfl rfl (fun _ _ _ h => h) hm44 rfl ?_
   refine mgDone kr_ ?_
   refine then_normal (roundsNext ?_)
   refine sk_ fun _ hK46 => ?_
   refine sp_ fun _ hK47 => ?_
   refine lk_ (.slice (some ⟨g8, 0, none⟩) 24 24) ?_
   refine li_ (kC h 1 : Int) ?_
   refine lv_ rfl (.pointer (some ⟨g8, 0 + (kC h 1) * 1, none⟩)) (ia_ 24 (kC h 1) Ty.sl_L_bool rfl (show kC h 1 < 24 by omega)) ?_
   refine lv_ rfl (.bool false) (lr_ (m := (kC h 1) * 1) (hm44.rdRow 1 rfl) (blsGet (seen_no h h8_ 1 (by decide)).1) (by decide)) ?_
   refine lT_ ?_
   refine pt_ hK47 ?_
   refine wp_cond_true le_ ?_
   refine wp_skip ?_
   refine tn_ hK46 ?_
   refine sk_ fun _ hK48 => ?_
   refine wp_block ?_
   refine sp_ fun _ hK49 => ?_
   refine lk_ (.slice (some ⟨g8, 0, none⟩) 24 24) ?_
   refine li_ (kC h 1 : Int) ?_
   refine lv_ rfl (.pointer (some ⟨g8, 0 + (kC h 1) * 1, none⟩)) (ia_ 24 (kC h 1) Ty.sl_L_bool rfl (show kC h 1 < 24 by omega)) ?_
   refine plStoreRow (v := .bool true) (v0 := .bool false) (k := 0 + (kC h 1) * 1) (xs := blsC (seenJ h 1)) 1 kr_ hm44 rfl (i := 3) rfl (wn rfl) rfl le_ le_ (blsZ (seen_no h h8_ 1 (by decide)).1) (by omega) rfl rfl ?_
   intro w50 hm51
   clear hm44
   try simp only [lc_] at hm51
   replace hm51 := Mem.rowEq (v := .slice (some ⟨g8, 0, none⟩) 24 24) (e := 4) (size := 1) (n := 24) (n' := 24) (xs := (blsC (seenJ h 1)).set (0 + (kC h 1) * 1) (.bool true)) (xs' := blsC (seenJ h 2)) 1 hm51 rfl rfl (blsZs (seen_no h h8_ 1 (by decide)).2)
   try simp only [lc_] at hm51
   refine qNone rfl ?_
   refine pt_ hK49 ?_
   refine plStart ?_
   refine lk_ (.slice A41 1 c42) ?_
   refine li_ (kC h 1 : Int) ?_
   refine plLit (cs := [.int .i64 (kC h 1 : Int)]) (n := 1) Ty.sl_L_int hm51 (i := 2) rfl (wn rfl) rfl (by decide) (by decide) (by rw [lit_eval]; kernel_rfl) ?_
   intro g52 w54 hm53
   clear hm51
   try simp only [lc_] at hm53
   replace hm53 := hm53.i5
   refine qP rfl ?_
   refine plApp1 (v := .slice A41 1 c42) (n := 1) (xs := ics [(kC h 0 : Int)]) (ys := [.int .i64 (kC h 1 : Int)]) 4 5 Ty.sl_L_int hm53 rfl rfl (i := 3) rfl (wn rfl) rfl le_ le_ kr_ kr_ (by omega) (by omega) ?_
   intro v59 w56 hm55
   clear hm53
   try simp only [lc_] at hm55
   replace hm55 := Mem.rowEq (v := v59) (e := 3) (size := 1) (n := 1 + 1) (n' := 2) (xs := (ics [(kC h 0 : Int)]) ++ ([.int .i64 (kC h 1 : Int)])) (xs' := ics [(kC h 0 : Int), (kC h 1 : Int)]) 4 hm55 rfl (by rfl) (by rfl)
   try simp only [lc_] at hm55
   obtain ⟨A57, c58, rfl⟩ := Mem.rowSl (v := v59) (e := 3) (size := 1) (n := 2) (xs := ics [(kC h 0 : Int), (kC h 1 : Int)]) 4 hm55 rfl
   refine qP rfl ?_
   refine lk_ (.slice A57 2 c58) ?_
   refine plD ?_
   refine inBlock_normal ?_
   refine tn_ hK48 ?_
   refine wpPrune [(1, .pointer (some ⟨g2, 0, none⟩)), (2, .slice none 0 0), (3, .slice A2 Es.length c2), (4, .slice (some ⟨g8, 0, none⟩) 24 24), (5, .int .i64 (h : Int)), (6, .slice A57 2 c58), (7, .int .i64 (kC h 1 : Int)), (14, .int .i64 24), (15, .int .i64 (h : Int)), (16, .bool true), (17, .int .i64 (h : Int)), (18, .int .i64 (h : Int)), (19, .slice (some ⟨g8, 0, none⟩) 24 24), (20, .int .i64 (kC h 1 : Int)), (21, .pointer (some ⟨g8, 0 + (kC h 1) * 1, none⟩)), (22, .bool false), (23, .bool true), (24, .pointer (some ⟨g2, 1, none⟩)), (25, .slice (some ⟨bh_, oh_, none⟩) 24 hc), (26, .pointer (some ⟨g2, 1, none⟩)), (27, .slice (some ⟨bh_, oh_, none⟩) 24 hc), (28, .int .i64 (h : Int)), (29, .pointer (some ⟨bh_, oh_ + (kC h 0) * 6, none⟩)), (30, .pointer (some ⟨bh_, oh_ + (kC h 0) * 6 + 4, none⟩)), (31, .int .i64 (twB (kC h 0) : Int)), (32, .pointer (some ⟨bh_, oh_ + (twB (kC h 0)) * 6, none⟩)), (33, .pointer (some ⟨bh_, oh_ + (twB (kC h 0)) * 6 + 3, none⟩)), (34, .int .i64 (kC h 1 : Int)), (35, .slice (some ⟨g8, 0, none⟩) 24 24), (36, .int .i64 (kC h 1 : Int)), (37, .pointer (some ⟨g8, 0 + (kC h 1) * 1, none⟩)), (38, .slice A41 1 c42), (39, .int .i64 (kC h 1 : Int)), (40, .slice (some ⟨g52, 0, none⟩) 1 1), (41, .slice A57 2 c58)] fo_ (fun X60 => ?_)
   refine mgStart hm55 kr_ ?_
   intro w62 hm61
   clear hm55
   refine mk_ (i := 0) (v := .pointer (some ⟨g2, 1, none⟩)) rfl rfl (fun _ _ _ h => h) hm61 rfl ?_
   refine mt_ 1 rfl (.slice (some ⟨bh_, oh_, none⟩) 24 hc) hm61 (fun w_ h_ => ld_ 1 2 h_) ?_
   refine mk_ (i := 2) (v := .pointer (some ⟨g2, 1, none⟩)) rfl rfl (fun _ _ _ h => h) hm61 rfl ?_
   refine mt_ 3 rfl (.slice (some ⟨bh_, oh_, none⟩) 24 hc) hm61 (fun w_ h_ => ld_ 1 2 h_) ?_
   refine mk_ (i := 4) (v := .int .i64 (kC h 1 : Int)) rfl rfl (fun _ _ _ h => h) hm61 rfl ?_
   refine mt_ 5 rfl (.pointer (some ⟨bh_, oh_ + (kC h 1) * 6, none⟩)) hm61 (fun w_ h_ => ia_ hc (kC h 1) Ty.sl_L_api_Half rfl (show kC h 1 < 24 by omega)) ?_
   refine mk_ (i := 6) (v := .pointer (some ⟨bh_, oh_ + (kC h 1) * 6 + 4, none⟩)) rfl rfl (fun _ _ _ h => h) hm61 rfl ?_
   refine mt_ 7 rfl (.int .i64 (twB (kC h 1) : Int)) hm61 (fun w_ h_ => lr_ (m := (kC h 1) * 6 + 4) ((Rd.below hh h_.bel).more h_.bel.size) (bH_tw (show kC h 1 < 24 by omega)) (by decide)) ?_
   refine mt_ 8 rfl (.pointer (some ⟨bh_, oh_ + (twB (kC h 1)) * 6, none⟩)) hm61 (fun w_ h_ => ia_ hc (twB (kC h 1)) Ty.sl_L_api_Half rfl (show twB (kC h 1) < 24 by omega)) ?_
   refine mk_ (i := 9) (v := .pointer (some ⟨bh_, oh_ + (twB (kC h 1)) * 6 + 3, none⟩)) rfl rfl (fun _ _ _ h => h) hm61 rfl ?_
   refine mt_ 10 rfl (.int .i64 (kC h 2 : Int)) hm61 (fun w_ h_ => lr_ (m := (twB (kC h 1)) * 6 + 3) ((Rd.below hh h_.bel).more h_.bel.size) (bH_nx (show twB (kC h 1) < 24 by omega)) (by decide)) ?_
   refine mk_ (i := 11) (v := .int .i64 (kC h 2 : Int)) rfl rfl (fun _ _ _ h => h) hm61 rfl ?_
   refine mgDone kr_ ?_
   refine then_normal (roundsNext ?_)
   refine sk_ fun _ hK63 => ?_
   refine sp_ fun _ hK64 => ?_
   refine lk_ (.slice (some ⟨g8, 0, none⟩) 24 24) ?_
   refine li_ (kC h 2 : Int) ?_
   refine lv_ rfl (.pointer (some ⟨g8, 0 + (kC h 2) * 1, none⟩)) (ia_ 24 (kC h 2) Ty.sl_L_bool rfl (show kC h 2 < 24 by omega)) ?_
   refine lv_ rfl (.bool false) (lr_ (m := (kC h 2) * 1) (hm61.rdRow 1 rfl) (blsGet (seen_no h h8_ 2 (by decide)).1) (by decide)) ?_
   refine lT_ ?_
   refine pt_ hK64 ?_
   refine wpPrune [(1, .pointer (some ⟨g2, 0, none⟩)), (2, .slice none 0 0), (3, .slice A2 Es.length c2), (4, .slice (some ⟨g8, 0, none⟩) 24 24), (5, .int .i64 (h : Int)), (6, .slice A57 2 c58), (7, .int .i64 (kC h 2 : Int)), (14, .int .i64 24), (15, .int .i64 (h : Int)), (16, .bool true), (17, .int .i64 (h : Int)), (18, .int .i64 (h : Int)), (19, .slice (some ⟨g8, 0, none⟩) 24 24), (20, .int .i64 (kC h 2 : Int)), (21, .pointer (some ⟨g8, 0 + (kC h 2) * 1, none⟩)), (22, .bool false), (23, .bool true), (24, .pointer (some ⟨g2, 1, none⟩)), (25, .slice (some ⟨bh_, oh_, none⟩) 24 hc), (26, .pointer (some ⟨g2, 1, none⟩)), (27, .slice (some ⟨bh_, oh_, none⟩) 24 hc), (28, .int .i64 (kC h 1 : Int)), (29, .pointer (some ⟨bh_, oh_ + (kC h 1) * 6, none⟩)), (30, .pointer (some ⟨bh_, oh_ + (kC h 1) * 6 + 4, none⟩)), (31, .int .i64 (twB (kC h 1) : Int)), (32, .pointer (some ⟨bh_, oh_ + (twB (kC h 1)) * 6, none⟩)), (33, .pointer (some ⟨bh_, oh_ + (twB (kC h 1)) * 6 + 3, none⟩)), (34, .int .i64 (kC h 2 : Int)), (35, .slice (some ⟨g8, 0, none⟩) 24 24), (36, .int .i64 (kC h 1 : Int)), (37, .pointer (some ⟨g8, 0 + (kC h 1) * 1, none⟩)), (38, .slice A41 1 c42), (39, .int .i64 (kC h 1 : Int)), (40, .slice (some ⟨g52, 0, none⟩) 1 1), (41, .slice A57 2 c58)] fo_ (fun X65 => ?_)
   refine wp_cond_true le_ ?_
   refine wp_skip ?_
   refine tn_ hK63 ?_
   refine sk_ fun _ hK66 => ?_
   refine wp_block ?_
   refine sp_ fun _ hK67 => ?_
   refine lk_ (.slice (some ⟨g8, 0, none⟩) 24 24) ?_
   refine li_ (kC h 2 : Int) ?_
   refine lv_ rfl (.pointer (some ⟨g8, 0 + (kC h 2) * 1, none⟩)) (ia_ 24 (kC h 2) Ty.sl_L_bool rfl (show kC h 2 < 24 by omega)) ?_
   refine plStoreRow (v := .bool true) (v0 := .bool false) (k := 0 + (kC h 2) * 1) (xs := blsC (seenJ h 2)) 1 kr_ hm61 rfl (i := 3) rfl (wn rfl) rfl le_ le_ (blsZ (seen_no h h8_ 2 (by decide)).1) (by omega) rfl rfl ?_
   intro w68 hm69
   clear hm61
   try simp only [lc_] at hm69
   replace hm69 := Mem.rowEq (v := .slice (some ⟨g8, 0, none⟩) 24 24) (e := 4) (size := 1) (n := 24) (n' := 24) (xs := (blsC (seenJ h 2)).set (0 + (kC h 2) * 1) (.bool true)) (xs' := blsC (seenJ h 3)) 1 hm69 rfl rfl (blsZs (seen_no h h8_ 2 (by decide)).2)
   try simp only [lc_] at hm69
   refine qNone rfl ?_
   refine pt_ hK67 ?_
   refine plStart ?_
   refine lk_ (.slice A57 2 c58) ?_
   refine li_ (kC h 2 : Int) ?_
   refine plLit (cs := [.int .i64 (kC h 2 : Int)]) (n := 1) Ty.sl_L_int hm69 (i := 2) rfl (wn rfl) rfl (by decide) (by decide) (by rw [lit_eval]; kernel_rfl) ?_
   intro g70 w72 hm71
   clear hm69
   try simp only [lc_] at hm71
   replace hm71 := hm71.i6
   refine qP rfl ?_
   refine plApp1 (v := .slice A57 2 c58) (n := 2) (xs := ics [(kC h 0 : Int), (kC h 1 : Int)]) (ys := [.int .i64 (kC h 2 : Int)]) 4 6 Ty.sl_L_int hm71 rfl rfl (i := 3) rfl (wn rfl) rfl le_ le_ kr_ kr_ (by omega) (by omega) ?_
   intro v77 w74 hm73
   clear hm71
   try simp only [lc_] at hm73
   replace hm73 := Mem.rowEq (v := v77) (e := 3) (size := 1) (n := 2 + 1) (n' := 3) (xs := (ics [(kC h 0 : Int), (kC h 1 : Int)]) ++ ([.int .i64 (kC h 2 : Int)])) (xs' := ics [(kC h 0 : Int), (kC h 1 : Int), (kC h 2 : Int)]) 4 hm73 rfl (by rfl) (by rfl)
   try simp only [lc_] at hm73
   obtain ⟨A75, c76, rfl⟩ := Mem.rowSl (v := v77) (e := 3) (size := 1) (n := 3) (xs := ics [(kC h 0 : Int), (kC h 1 : Int), (kC h 2 : Int)]) 4 hm73 rfl
   refine qP rfl ?_
   refine lk_ (.slice A75 3 c76) ?_
   refine plD ?_
   refine inBlock_normal ?_
   refine tn_ hK66 ?_
   refine mgStart hm73 kr_ ?_
   intro w79 hm78
   clear hm73
   refine mk_ (i := 0) (v := .pointer (some ⟨g2, 1, none⟩)) rfl rfl (fun _ _ _ h => h) hm78 rfl ?_
   refine mt_ 1 rfl (.slice (some ⟨bh_, oh_, none⟩) 24 hc) hm78 (fun w_ h_ => ld_ 1 2 h_) ?_
   refine mk_ (i := 2) (v := .pointer (some ⟨g2, 1, none⟩)) rfl rfl (fun _ _ _ h => h) hm78 rfl ?_
   refine mt_ 3 rfl (.slice (some ⟨bh_, oh_, none⟩) 24 hc) hm78 (fun w_ h_ => ld_ 1 2 h_) ?_
   refine mk_ (i := 4) (v := .int .i64 (kC h 2 : Int)) rfl rfl (fun _ _ _ h => h) hm78 rfl ?_
   refine mt_ 5 rfl (.pointer (some ⟨bh_, oh_ + (kC h 2) * 6, none⟩)) hm78 (fun w_ h_ => ia_ hc (kC h 2) Ty.sl_L_api_Half rfl (show kC h 2 < 24 by omega)) ?_
   refine mk_ (i := 6) (v := .pointer (some ⟨bh_, oh_ + (kC h 2) * 6 + 4, none⟩)) rfl rfl (fun _ _ _ h => h) hm78 rfl ?_
   refine mt_ 7 rfl (.int .i64 (twB (kC h 2) : Int)) hm78 (fun w_ h_ => lr_ (m := (kC h 2) * 6 + 4) ((Rd.below hh h_.bel).more h_.bel.size) (bH_tw (show kC h 2 < 24 by omega)) (by decide)) ?_
   refine mt_ 8 rfl (.pointer (some ⟨bh_, oh_ + (twB (kC h 2)) * 6, none⟩)) hm78 (fun w_ h_ => ia_ hc (twB (kC h 2)) Ty.sl_L_api_Half rfl (show twB (kC h 2) < 24 by omega)) ?_
   refine mk_ (i := 9) (v := .pointer (some ⟨bh_, oh_ + (twB (kC h 2)) * 6 + 3, none⟩)) rfl rfl (fun _ _ _ h => h) hm78 rfl ?_
   refine mt_ 10 rfl (.int .i64 (kC h 3 : Int)) hm78 (fun w_ h_ => lr_ (m := (twB (kC h 2)) * 6 + 3) ((Rd.below hh h_.bel).more h_.bel.size) (bH_nx (show twB (kC h 2) < 24 by omega)) (by decide)) ?_
   refine mk_ (i := 11) (v := .int .i64 (kC h 3 : Int)) rfl rfl (fun _ _ _ h => h) hm78 rfl ?_
   refine mgDone kr_ ?_
   refine then_normal (roundsNext ?_)
   refine wpPrune [(1, .pointer (some ⟨g2, 0, none⟩)), (2, .slice none 0 0), (3, .slice A2 Es.length c2), (4, .slice (some ⟨g8, 0, none⟩) 24 24), (5, .int .i64 (h : Int)), (6, .slice A75 3 c76), (7, .int .i64 (kC h 3 : Int)), (14, .int .i64 24), (15, .int .i64 (h : Int)), (16, .bool true), (17, .int .i64 (h : Int)), (18, .int .i64 (h : Int)), (19, .slice (some ⟨g8, 0, none⟩) 24 24), (20, .int .i64 (kC h 2 : Int)), (21, .pointer (some ⟨g8, 0 + (kC h 2) * 1, none⟩)), (22, .bool false), (23, .bool true), (24, .pointer (some ⟨g2, 1, none⟩)), (25, .slice (some ⟨bh_, oh_, none⟩) 24 hc), (26, .pointer (some ⟨g2, 1, none⟩)), (27, .slice (some ⟨bh_, oh_, none⟩) 24 hc), (28, .int .i64 (kC h 2 : Int)), (29, .pointer (some ⟨bh_, oh_ + (kC h 2) * 6, none⟩)), (30, .pointer (some ⟨bh_, oh_ + (kC h 2) * 6 + 4, none⟩)), (31, .int .i64 (twB (kC h 2) : Int)), (32, .pointer (some ⟨bh_, oh_ + (twB (kC h 2)) * 6, none⟩)), (33, .pointer (some ⟨bh_, oh_ + (twB (kC h 2)) * 6 + 3, none⟩)), (34, .int .i64 (kC h 3 : Int)), (35, .slice (some ⟨g8, 0, none⟩) 24 24), (36, .int .i64 (kC h 2 : Int)), (37, .pointer (some ⟨g8, 0 + (kC h 2) * 1, none⟩)), (38, .slice A57 2 c58), (39, .int .i64 (kC h 2 : Int)), (40, .slice (some ⟨g70, 0, none⟩) 1 1), (41, .slice A75 3 c76)] fo_ (fun X80 => ?_)
   refine sk_ fun _ hK81 => ?_
   refine sp_ fun _ hK82 => ?_
   refine lk_ (.slice (some ⟨g8, 0, none⟩) 24 24) ?_
   refine li_ (kC h 3 : Int) ?_
   refine lv_ rfl (.pointer (some ⟨g8, 0 + (kC h 3) * 1, none⟩)) (ia_ 24 (kC h 3) Ty.sl_L_bool rfl (show kC h 3 < 24 by omega)) ?_
   refine lv_ rfl (.bool true) (lr_ (m := (kC h 3) * 1) (hm78.rdRow 1 rfl) (blsGet (seen_yes h h8_)) (by decide)) ?_
   refine lF_ ?_
   refine pt_ hK82 ?_
   refine wp_cond_false le_ ?_
   refine wp_exit ?_
   refine then_exit ?_
   refine then_exit ?_
   refine inBlock_exit ?_
   refine tn_ hK26 ?_
   refine sp_ fun _ hK83 => ?_
   refine lk_ (.slice A75 3 c76) ?_
   refine lv_ rfl (.int .i64 3) (ln_ A75 3 c76 Ty.und_L_int) ?_
   refine lT_ ?_
   refine pt_ hK83 ?_
   refine wp_cond_true le_ ?_
   refine plStart ?_
   refine lk_ (.slice A2 Es.length c2) ?_
   refine lk_ (.slice A75 3 c76) ?_
   refine plLit (cs := [.slice A75 3 c76]) (n := 1) Ty.sl_L_L_int hm78 (i := 2) rfl (wn rfl) rfl (by decide) (by decide) (by rw [lit_eval]; kernel_rfl) ?_
   intro g84 w86 hm85
   clear hm78
   try simp only [lc_] at hm85
   replace hm85 := hm85.i7
   refine qP rfl ?_
   refine plApp1 (v := .slice A2 Es.length c2) (n := Es.length) (xs := (Es.map entV)) (ys := [.slice A75 3 c76]) 0 7 Ty.sl_L_L_int hm85 rfl rfl (i := 3) rfl (wn rfl) rfl le_ le_ kr_ kr_ (by omega) (by omega) ?_
   intro v91 w88 hm87
   clear hm85
   try simp only [lc_] at hm87
   replace hm87 := Mem.rowEq (v := v91) (e := 26) (size := 1) (n := Es.length + 1) (n' := (Es ++ [(⟨⟨p0, p0⟩, A75, c76, [(kC h 0 : Int), (kC h 1 : Int), (kC h 2 : Int)]⟩ : Ent)]).length) (xs := (Es.map entV) ++ ([.slice A75 3 c76])) (xs' := ((Es ++ [(⟨⟨p0, p0⟩, A75, c76, [(kC h 0 : Int), (kC h 1 : Int), (kC h 2 : Int)]⟩ : Ent)]).map entV)) 0 hm87 rfl (by simp) (by rw [List.map_append]; rfl)
   try simp only [lc_] at hm87
   obtain ⟨A89, c90, rfl⟩ := Mem.rowSl (v := v91) (e := 26) (size := 1) (n := (Es ++ [(⟨⟨p0, p0⟩, A75, c76, [(kC h 0 : Int), (kC h 1 : Int), (kC h 2 : Int)]⟩ : Ent)]).length) (xs := ((Es ++ [(⟨⟨p0, p0⟩, A75, c76, [(kC h 0 : Int), (kC h 1 : Int), (kC h 2 : Int)]⟩ : Ent)]).map entV)) 0 hm87 rfl
   refine qP rfl ?_
   refine lk_ (.slice A89 ((Es ++ [(⟨⟨p0, p0⟩, A75, c76, [(kC h 0 : Int), (kC h 1 : Int), (kC h 2 : Int)]⟩ : Ent)]).length) c90) ?_
   refine plD ?_
   refine inBlock_normal ?_
   refine tn_ hK23 ?_
   refine plStart ?_
   refine lv_ rfl _ (ad_ (h : Int) 1) ?_
   refine li_ ((h : Int) + 1) ?_
   refine plD ?_
   refine then_normal ?_
   rw [seen_end h h8_] at hm87
   have hm92 := hm87.f2
   clear hm87
   have hm93 := hm92.f2
   clear hm92
   have hm94 := hm93.f2
   clear hm93
   have hm95 := hm94.f4
   clear hm94
   have hm96 : Mem w w88 ((.row (.slice A75 3 c76) 3 1 3 (ics [(kC h 0 : Int), (kC h 1 : Int), (kC h 2 : Int)])) :: (.row (.slice A89 ((Es ++ [(⟨⟨p0, p0⟩, A75, c76, [(kC h 0 : Int), (kC h 1 : Int), (kC h 2 : Int)]⟩ : Ent)]).length) c90) 26 1 ((Es ++ [(⟨⟨p0, p0⟩, A75, c76, [(kC h 0 : Int), (kC h 1 : Int), (kC h 2 : Int)]⟩ : Ent)]).length) ((Es ++ [(⟨⟨p0, p0⟩, A75, c76, [(kC h 0 : Int), (kC h 1 : Int), (kC h 2 : Int)]⟩ : Ent)]).map entV)) :: (.row (.slice (some ⟨g8, 0, none⟩) 24 24) 4 1 24 (blsC (seenH (h + 1)))) :: (.arr g2 41 ([.slice qA 6 qc, .slice (some ⟨bh_, oh_, none⟩) 24 hc])) :: (Es.map rowE)) := (hm95.sub (.cons_cons _ (.cons_cons _ (.cons_cons _ (.cons_cons _ (.cons _ (.cons _ (.cons _ (.cons _ (List.Sublist.refl _))))))))))
   clear hm95
   have hm97 := Mem.rowSnoc (L := [.row (.slice A89 ((Es ++ [(⟨⟨p0, p0⟩, A75, c76, [(kC h 0 : Int), (kC h 1 : Int), (kC h 2 : Int)]⟩ : Ent)]).length) c90) 26 1 ((Es ++ [(⟨⟨p0, p0⟩, A75, c76, [(kC h 0 : Int), (kC h 1 : Int), (kC h 2 : Int)]⟩ : Ent)]).length) ((Es ++ [(⟨⟨p0, p0⟩, A75, c76, [(kC h 0 : Int), (kC h 1 : Int), (kC h 2 : Int)]⟩ : Ent)]).map entV), .row (.slice (some ⟨g8, 0, none⟩) 24 24) 4 1 24 (blsC (seenH (h + 1))), .arr g2 41 ([.slice qA 6 qc, .slice (some ⟨bh_, oh_, none⟩) 24 hc])]) (e := (⟨⟨p0, p0⟩, A75, c76, [(kC h 0 : Int), (kC h 1 : Int), (kC h 2 : Int)]⟩ : Ent)) (E := Es) hm96
   exact ⟨_, by omega, (h + 1), A89, c90, (Es ++ [(⟨⟨p0, p0⟩, A75, c76, [(kC h 0 : Int), (kC h 1 : Int), (kC h 2 : Int)]⟩ : Ent)]), rfl, (by omega), (by rw [List.map_append, hE, hkc_.2.2.2.2.2.2.2]; rfl), ⟨litSize, rfl, fo_⟩, hm97⟩
  refine li_ h ?_
  refine li_ h ?_
  refine pt_ hK27 ?_
  refine wp_block ?_
  refine roundsStart 4 ?_
  refine sk_ fun _ hK98 => ?_
  refine sp_ fun _ hK99 => ?_
  refine lk_ (.slice (some ⟨g8, 0, none⟩) 24 24) ?_
  refine li_ h ?_
  refine lv_ rfl (.pointer (some ⟨g8, 0 + h * 1, none⟩)) (ia_ 24 h Ty.sl_L_bool rfl (show h < 24 by omega)) ?_
  refine lv_ rfl (.bool true) (lr_ (m := h * 1) (hm17.rdRow 1 rfl) (blsGet (seen_same h hh2_ (by omega)).2) (by decide)) ?_
  refine lF_ ?_
  refine pt_ hK99 ?_
  refine wp_cond_false le_ ?_
  refine wp_exit ?_
  refine then_exit ?_
  refine then_exit ?_
  refine inBlock_exit ?_
  refine tn_ hK26 ?_
  refine sp_ fun _ hK100 => ?_
  refine lk_ (.slice none 0 0) ?_
  refine lv_ rfl (.int .i64 0) (ln_ none 0 0 Ty.und_L_int) ?_
  refine lF_ ?_
  refine pt_ hK100 ?_
  refine wp_cond_false le_ ?_
  refine wp_skip ?_
  refine inBlock_normal ?_
  refine tn_ hK23 ?_
  refine plStart ?_
  refine lv_ rfl _ (ad_ (h : Int) 1) ?_
  refine li_ ((h : Int) + 1) ?_
  refine plD ?_
  refine then_normal ?_
  rw [(seen_same h hh2_ (by omega)).1] at hm17
  exact ⟨_, by omega, (h + 1), A2, c2, Es, rfl, (by omega), (by rw [hE, cor_take (show 8 ≤ h by omega), cor_take (show 8 ≤ h + 1 by omega)]), ⟨litSize, rfl, fo_⟩, (hm17.sub (.cons_cons _ (.cons_cons _ (.cons_cons _ (List.Sublist.refl _)))))⟩
 have hhe_ : h = 24 := by omega
 have hEl_ : Es.length ≤ 24 := by have h_ := congrArg List.length hE; rw [List.length_map, List.length_take] at h_; omega
 refine lv_ rfl _ (lsF_ h21) ?_
 refine pt_ hK20 ?_
 refine sk_ fun _ hK101 => ?_
 refine wp_cond_false le_ ?_
 refine wp_exit ?_
 refine then_exit ?_
 refine then_exit ?_
 refine inBlock_exit ?_
 refine tn_ hK11 ?_
 refine sp_ fun _ hK102 => ?_
 refine lk_ (.slice A2 Es.length c2) ?_
 refine lk_ (.slice A2 Es.length c2) ?_
 refine pt_ hK102 ?_
 refine wp_ret ?_
 refine br_ 2 (.slice A2 Es.length c2) ?_
 rw [hhe_, cor_take (by decide)] at hE
 exact ⟨Es, _, _, rfl, hE, (hm17.sub (.cons_cons _ (.cons _ (.cons _ (List.Sublist.refl _)))))⟩
theorem cor_first : ∀ k < 8, (cornerL.getD k [])[0]? = some (k : Int) := by decide
theorem cor_at {k : Nat} (h : k < 8) {ids : List Int} (hi : cornerL[k]? = some ids) : ids[0]? = some (k : Int) ∧ 0 < ids.length := by
 have h2 := cor_first k h
 rw [List.getD_eq_getElem?_getD, hi] at h2
 exact ⟨h2, (List.getElem?_eq_some_iff.1 h2).1⟩
theorem entGet {Es : List Ent} {k : Nat} {e : Ent} (h : Es[k]? = some e) : (Es.map entV)[k * 1]? = some (entV e) := by rw [Nat.mul_one, List.getElem?_map, h]; rfl
theorem fcB_lt {k : Nat} (h : k < 24) : fcB k < 6 := by unfold fcB; omega
theorem euler_any (qA A : Option Addr) (qc hc : Nat) (w : World) (hh : Rd w w.heap.size 6 A 24 hc (hfsC bH)) : Calls Tryz.prog 21 #[.agg ([.slice qA 6 qc, .slice A 24 hc]).toArray] w (fun e w' => ∃ v, e = .returned v ∧ w'.ownsRow w.heap.size 3 1 v 1 (ics [2]) ∧ Below w.heap.size w w') := by
 obtain ⟨bh_, oh_, rfl, _, _⟩ := hh.cells (by omega)
 have hm0 := Mem.nil w
 go_enter Tryz.func21, Tryz.ntmps21
 refine litStart 89 [(0, .agg ([.slice qA 6 qc, .slice (some ⟨bh_, oh_, none⟩) 24 hc]).toArray)] kr_ (fun X0 => ?_)
 refine sp_ fun _ hK1 => ?_
 refine plBox hm0 (cs := [.slice qA 6 qc, .slice (some ⟨bh_, oh_, none⟩) 24 hc]) (i := 0) rfl (wn rfl) rfl le_ ?_
 intro g2 w4 hm3
 clear hm0
 try simp only [lc_] at hm3
 refine qP rfl ?_
 refine lk_ (.slice none 0 0) ?_
 refine pt_ hK1 ?_
 refine sp_ fun _ hK5 => ?_
 refine lv_ rfl (.agg ([.slice qA 6 qc, .slice (some ⟨bh_, oh_, none⟩) 24 hc]).toArray) (la_ 0 0 hm3 Ty.ag_voxel_api_Mesh) ?_
 refine plCall (i := 1) 60 [.agg ([.slice qA 6 qc, .slice (some ⟨bh_, oh_, none⟩) 24 hc]).toArray] [] [] rfl kr_ (wn rfl) rfl le_ (litArgs kr_) (by exact LD.components_any qA _ qc hc _ ((Rd.below hh hm3.bel).more hm3.bel.size)) ?_
 rintro e w6 ⟨v_, rfl, hown_, hbz⟩
 obtain ⟨cA, cc, rfl, hrd_⟩ := Rd.of_own hown_
 clear hrd_
 replace hown_ : World.ownsRow w6 _ 3 1 _ 6 (ics [0, 0, 0, 0, 0, 0]) := hown_
 have hm7 := hm3.newRow hbz hown_
 clear hown_ hbz hm3
 try simp only [lc_] at hm7
 obtain ⟨b8, rfl⟩ := hm7.rowBlk (A := cA) (n := 6) (c := cc) 1 rfl (by decide)
 refine ⟨_, rfl, ?_⟩
 refine qP rfl ?_
 refine lk_ (.slice (some ⟨b8, 0, none⟩) 6 cc) ?_
 refine pt_ hK5 ?_
 refine sk_ fun _ hK9 => ?_
 refine sp_ fun _ hK10 => ?_
 refine lk_ (.slice (some ⟨b8, 0, none⟩) 6 cc) ?_
 refine lv_ rfl (.int .i64 6) (ln_ (some ⟨b8, 0, none⟩) 6 cc Ty.und_L_int) ?_
 refine lF_ ?_
 refine pt_ hK10 ?_
 refine wp_cond_false le_ ?_
 refine wp_skip ?_
 refine tn_ hK9 ?_
 refine sp_ fun _ hK11 => ?_
 refine lk_ (.slice (some ⟨b8, 0, none⟩) 6 cc) ?_
 refine plCall (i := 1) 61 [.slice (some ⟨b8, 0, none⟩) 6 cc] [] [] rfl kr_ (wn rfl) rfl le_ (litArgs kr_) (max_any _ _ _ (hm7.rdRow 1 rfl)) ?_
 rintro e w12 ⟨rfl, hbz⟩
 have hm13 := hm7.below hbz
 clear hbz hm7
 refine ⟨_, rfl, ?_⟩
 refine qP rfl ?_
 refine li_ 1 ?_
 refine plMakeRow (m := 1) (cs := ics [0]) (e := 3) hm13 (i := 3) rfl (wn rfl) rfl le_ le_ (fun w_ => by kernel_rfl) kr_ (by decide) ?_
 intro g14 w15 hm16
 clear hm13
 try simp only [lc_] at hm16
 refine qP rfl ?_
 refine lk_ (.slice (some ⟨g14, 0, none⟩) 1 1) ?_
 refine pt_ hK11 ?_
 refine sk_ fun _ hK17 => ?_
 refine sp_ fun _ hK18 => ?_
 refine lk_ (.slice (some ⟨b8, 0, none⟩) 6 cc) ?_
 refine lv_ rfl (.int .i64 6) (ln_ (some ⟨b8, 0, none⟩) 6 cc Ty.und_L_int) ?_
 refine li_ 0 ?_
 refine pt_ hK18 ?_
 refine wp_block ?_
 refine gwLoop (fun n_ a_ w_ => ∃ (i : Nat), n_ = 6 - i ∧ (i ≤ 6) ∧ Fr a_ 89 [(1, .pointer (some ⟨g2, 0, none⟩)), (2, .slice none 0 0), (3, .slice (some ⟨b8, 0, none⟩) 6 cc), (4, .slice (some ⟨g14, 0, none⟩) 1 1), (21, .slice (some ⟨b8, 0, none⟩) 6 cc), (22, .int .i64 6), (23, .int .i64 (i : Int))] ∧ Mem w w_ [.arr g2 41 ([.slice qA 6 qc, .slice (some ⟨bh_, oh_, none⟩) 24 hc]), .row (.slice (some ⟨b8, 0, none⟩) 6 cc) 3 1 6 (ics [0, 0, 0, 0, 0, 0]), .row (.slice (some ⟨g14, 0, none⟩) 1 1) 3 1 1 (ics [2 * (i : Int)])]) (6 - 0) ⟨0, rfl, (Nat.zero_le _), ⟨litSize, rfl, fo_⟩, hm16⟩ ?_
 clear hm16
 intro n_ a21 w19 hI_
 obtain ⟨i, rfl, hi_, hF_, hm20⟩ := hI_
 obtain ⟨X22, rfl⟩ := frLit hF_
 clear hF_
 refine sp_ fun _ hK23 => ?_
 by_cases h24 : (i : Int) < 6
 ·refine lv_ rfl _ (lsT_ h24) ?_
  refine pt_ hK23 ?_
  refine sk_ fun _ hK25 => ?_
  refine wp_cond_true le_ ?_
  refine wp_skip ?_
  refine tn_ hK25 ?_
  refine sk_ fun _ hK26 => ?_
  refine wp_block ?_
  refine sp_ fun _ hK27 => ?_
  refine lv_ rfl (.pointer (some ⟨b8, 0 + i * 1, none⟩)) (ia_ cc i Ty.sl_L_int rfl (show i < 6 by omega)) ?_
  refine lv_ rfl (.int .i64 0) (lr_ (m := i * 1) (hm20.rdRow 1 rfl) (zero_get (show i < 6 by first | omega | exact fcB_lt (by omega))) (by decide)) ?_
  refine li_ 0 ?_
  refine pt_ hK27 ?_
  refine plStart ?_
  refine lk_ (.slice (some ⟨g14, 0, none⟩) 1 1) ?_
  refine li_ 0 ?_
  refine lv_ rfl (.pointer (some ⟨g14, 0 + 0 * 1, none⟩)) (gIaSl (b := g14) (off := 0) (n := 1) (c := 1) (kk := .i64) (K := 0) (.tmp 27) (.tmp 28) 0 Ty.sl_L_int rfl le_ le_ (rfl) ((by decide))) ?_
  refine lv_ rfl (.int .i64 (2 * (i : Int))) (lr_ (m := 0 * 1) (hm20.rdRow 2 rfl) (icsGet (k := 0) rfl) (by decide)) ?_
  refine lv_ rfl _ (ad_ (2 * (i : Int)) 2) ?_
  refine lv_ rfl (.pointer (some ⟨g14, 0 + 0 * 1, none⟩)) (gIaSl (b := g14) (off := 0) (n := 1) (c := 1) (kk := .i64) (K := 0) (.tmp 27) (.tmp 28) 0 Ty.sl_L_int rfl le_ le_ (rfl) ((by decide))) ?_
  refine plStoreRow (v := .int .i64 ((2 * (i : Int)) + 2)) (v0 := .int .i64 (2 * (i : Int))) (k := 0 + 0 * 1) (xs := ics [2 * (i : Int)]) 2 kr_ hm20 rfl (i := 6) rfl (wn rfl) rfl le_ le_ (by rfl) (by decide) rfl rfl ?_
  intro w28 hm29
  clear hm20
  try simp only [lc_] at hm29
  replace hm29 := Mem.rowEq (v := .slice (some ⟨g14, 0, none⟩) 1 1) (e := 3) (size := 1) (n := 1) (n' := 1) (xs := (ics [2 * (i : Int)]).set (0 + 0 * 1) (.int .i64 ((2 * (i : Int)) + 2))) (xs' := ics [(2 * (i : Int)) + 2]) 2 hm29 rfl rfl (by rfl)
  try simp only [lc_] at hm29
  refine qNone rfl ?_
  refine plD ?_
  refine inBlock_normal ?_
  refine tn_ hK26 ?_
  refine plStart ?_
  refine lv_ rfl _ (ad_ (i : Int) 1) ?_
  refine li_ ((i : Int) + 1) ?_
  refine plD ?_
  refine then_normal ?_
  rw [show (2 * (i : Int)) + 2 = 2 * ((i + 1 : Nat) : Int) by omega] at hm29
  exact ⟨_, by omega, (i + 1), rfl, (by omega), ⟨litSize, rfl, fo_⟩, (hm29.sub (.cons_cons _ (.cons_cons _ (.cons_cons _ .slnil))))⟩
 refine lv_ rfl _ (lsF_ h24) ?_
 refine pt_ hK23 ?_
 refine sk_ fun _ hK30 => ?_
 refine wp_cond_false le_ ?_
 refine wp_exit ?_
 refine then_exit ?_
 refine then_exit ?_
 refine inBlock_exit ?_
 refine tn_ hK17 ?_
 refine sk_ fun _ hK31 => ?_
 refine sp_ fun _ hK32 => ?_
 refine lp_ g2 1 ?_
 refine lv_ rfl (.slice (some ⟨bh_, oh_, none⟩) 24 hc) (ld_ 1 0 hm20) ?_
 refine lv_ rfl (.int .i64 24) (ln_ (some ⟨bh_, oh_, none⟩) 24 hc Ty.und_L_api_Half) ?_
 refine li_ 0 ?_
 refine pt_ hK32 ?_
 refine wp_block ?_
 have hie_ : i = 6 := by omega
 rw [hie_, show 2 * ((6 : Nat) : Int) = 12 - ((0 : Nat) : Int) by decide] at hm20
 refine gwLoop (fun n_ a_ w_ => ∃ (j : Nat), n_ = 24 - j ∧ (j ≤ 24) ∧ Fr a_ 89 [(1, .pointer (some ⟨g2, 0, none⟩)), (2, .slice none 0 0), (3, .slice (some ⟨b8, 0, none⟩) 6 cc), (4, .slice (some ⟨g14, 0, none⟩) 1 1), (35, .slice (some ⟨bh_, oh_, none⟩) 24 hc), (36, .int .i64 24), (37, .int .i64 (j : Int))] ∧ Mem w w_ [.arr g2 41 ([.slice qA 6 qc, .slice (some ⟨bh_, oh_, none⟩) 24 hc]), .row (.slice (some ⟨b8, 0, none⟩) 6 cc) 3 1 6 (ics [0, 0, 0, 0, 0, 0]), .row (.slice (some ⟨g14, 0, none⟩) 1 1) 3 1 1 (ics [12 - (j : Int)])]) (24 - 0) ⟨0, rfl, (Nat.zero_le _), ⟨litSize, rfl, fo_⟩, hm20⟩ ?_
 clear hm20
 intro n_ a35 w33 hI_
 obtain ⟨j, rfl, hj_, hF_, hm34⟩ := hI_
 obtain ⟨X36, rfl⟩ := frLit hF_
 clear hF_
 refine sp_ fun _ hK37 => ?_
 by_cases h38 : (j : Int) < 24
 ·refine lv_ rfl _ (lsT_ h38) ?_
  refine pt_ hK37 ?_
  refine sk_ fun _ hK39 => ?_
  refine wp_cond_true le_ ?_
  refine wp_skip ?_
  refine tn_ hK39 ?_
  refine sk_ fun _ hK40 => ?_
  refine wp_block ?_
  refine sp_ fun _ hK41 => ?_
  refine lv_ rfl (.pointer (some ⟨bh_, oh_ + j * 6, none⟩)) (ia_ hc j Ty.sl_L_api_Half rfl (show j < 24 by omega)) ?_
  refine lv_ rfl (.agg (hfc (hB j)).toArray) (lar_ (m := j * 6) ((Rd.below hh hm34.bel).more hm34.bel.size) (bH_cell (show j < 24 by omega)) (by decide) Ty.ag_voxel_api_Half) ?_
  refine plAlloc (z := [.int .i64 0, .int .i64 0, .int .i64 0, .int .i64 0, .int .i64 0, .int .i64 0]) Ty.ag_voxel_api_Half hm34 (i := 2) rfl (wn rfl) rfl ?_
  intro g42 w44 hm43
  clear hm34
  try simp only [lc_] at hm43
  refine qP rfl ?_
  refine plStore 3 Ty.ag_voxel_api_Half hm43 rfl (i := 3) (cs := hfc (hB j)) rfl (wn rfl) rfl le_ le_ rfl rfl kr_ ?_
  intro w46 hm45
  clear hm43
  try simp only [lc_] at hm45
  refine qNone rfl ?_
  refine pt_ hK41 ?_
  refine plStart ?_
  refine lk_ (.slice (some ⟨g14, 0, none⟩) 1 1) ?_
  refine lk_ (.slice (some ⟨b8, 0, none⟩) 6 cc) ?_
  refine lp_ g42 5 ?_
  refine lv_ rfl (.int .i64 ((hB j).fc)) (ld_ 5 3 hm45) ?_
  refine lv_ rfl (.pointer (some ⟨b8, 0 + (fcB j) * 1, none⟩)) (ia_ cc (fcB j) Ty.sl_L_int ((hB_ok j (by omega)).2.2.1) (fcB_lt (by omega))) ?_
  refine lv_ rfl (.int .i64 0) (lr_ (m := (fcB j) * 1) (hm45.rdRow 1 rfl) (zero_get (show fcB j < 6 by first | omega | exact fcB_lt (by omega))) (by decide)) ?_
  refine lv_ rfl (.pointer (some ⟨g14, 0 + 0 * 1, none⟩)) (gIaSl (b := g14) (off := 0) (n := 1) (c := 1) (kk := .i64) (K := 0) (.tmp 41) (.tmp 46) 0 Ty.sl_L_int rfl le_ le_ (rfl) ((by decide))) ?_
  refine lv_ rfl (.int .i64 (12 - (j : Int))) (lr_ (m := 0 * 1) (hm45.rdRow 2 rfl) (icsGet (k := 0) rfl) (by decide)) ?_
  refine lv_ rfl _ (sb_ (12 - (j : Int)) 1) ?_
  refine lv_ rfl (.pointer (some ⟨g14, 0 + 0 * 1, none⟩)) (gIaSl (b := g14) (off := 0) (n := 1) (c := 1) (kk := .i64) (K := 0) (.tmp 41) (.tmp 46) 0 Ty.sl_L_int rfl le_ le_ (rfl) ((by decide))) ?_
  refine plStoreRow (v := .int .i64 ((12 - (j : Int)) - 1)) (v0 := .int .i64 (12 - (j : Int))) (k := 0 + 0 * 1) (xs := ics [12 - (j : Int)]) 2 kr_ hm45 rfl (i := 10) rfl (wn rfl) rfl le_ le_ (by rfl) (by decide) rfl rfl ?_
  intro w47 hm48
  clear hm45
  try simp only [lc_] at hm48
  replace hm48 := Mem.rowEq (v := .slice (some ⟨g14, 0, none⟩) 1 1) (e := 3) (size := 1) (n := 1) (n' := 1) (xs := (ics [12 - (j : Int)]).set (0 + 0 * 1) (.int .i64 ((12 - (j : Int)) - 1))) (xs' := ics [(12 - (j : Int)) - 1]) 2 hm48 rfl rfl (by rfl)
  try simp only [lc_] at hm48
  refine qNone rfl ?_
  refine plD ?_
  refine inBlock_normal ?_
  refine tn_ hK40 ?_
  refine plStart ?_
  refine lv_ rfl _ (ad_ (j : Int) 1) ?_
  refine li_ ((j : Int) + 1) ?_
  refine plD ?_
  refine then_normal ?_
  rw [show (12 - (j : Int)) - 1 = 12 - ((j + 1 : Nat) : Int) by omega] at hm48
  exact ⟨_, by omega, (j + 1), rfl, (by omega), ⟨litSize, rfl, fo_⟩, (hm48.sub (.cons_cons _ (.cons_cons _ (.cons_cons _ (.cons _ .slnil)))))⟩
 refine lv_ rfl _ (lsF_ h38) ?_
 refine pt_ hK37 ?_
 refine sk_ fun _ hK49 => ?_
 refine wp_cond_false le_ ?_
 refine wp_exit ?_
 refine then_exit ?_
 refine then_exit ?_
 refine inBlock_exit ?_
 refine tn_ hK31 ?_
 refine sk_ fun _ hK50 => ?_
 refine sp_ fun _ hK51 => ?_
 refine lv_ rfl (.agg ([.slice qA 6 qc, .slice (some ⟨bh_, oh_, none⟩) 24 hc]).toArray) (la_ 0 0 hm34 Ty.ag_voxel_api_Mesh) ?_
 refine plCall (i := 1) 62 [.agg ([.slice qA 6 qc, .slice (some ⟨bh_, oh_, none⟩) 24 hc]).toArray] [] [] rfl kr_ (wn rfl) rfl le_ (litArgs kr_) (by exact corners_any qA _ qc hc _ ((Rd.below hh hm34.bel).more hm34.bel.size)) ?_
 rintro e w52 ⟨Es, oA, oc, rfl, hE, hmm_⟩
 have hm53 := hm34.join hmm_ (fun r_ hr_ => by
  rcases List.mem_cons.1 hr_ with rfl | hr_
  ·exact ⟨_, _, _, _, _, rfl⟩
  ·obtain ⟨e_, _, rfl⟩ := List.mem_map.1 hr_; exact ⟨_, _, _, _, _, rfl⟩)
 clear hmm_ hm34
 have hEl_ : Es.length = 8 := by have h_ := congrArg List.length hE; rw [List.length_map] at h_; exact h_
 have hm54 : Mem w w52 ((.arr g2 41 ([.slice qA 6 qc, .slice (some ⟨bh_, oh_, none⟩) 24 hc])) :: (.row (.slice (some ⟨b8, 0, none⟩) 6 cc) 3 1 6 (ics [0, 0, 0, 0, 0, 0])) :: (.row (.slice (some ⟨g14, 0, none⟩) 1 1) 3 1 1 (ics [12 - (j : Int)])) :: (.row (.slice oA Es.length oc) 26 1 Es.length (Es.map entV)) :: (Es.map rowE)) := hm53
 clear hm53
 refine ⟨_, rfl, ?_⟩
 refine qP rfl ?_
 refine lv_ rfl (.int .i64 (Es.length : Int)) (ln_ oA Es.length oc Ty.und_L_L_int) ?_
 refine li_ 0 ?_
 refine pt_ hK51 ?_
 refine wp_block ?_
 have hje_ : j = 24 := by omega
 rw [hje_, show 12 - ((24 : Nat) : Int) = -12 + 2 * ((0 : Nat) : Int) by decide] at hm54
 refine gwLoop (fun n_ a_ w_ => ∃ (k : Nat), n_ = Es.length - k ∧ (k ≤ Es.length) ∧ Fr a_ 89 [(1, .pointer (some ⟨g2, 0, none⟩)), (2, .slice none 0 0), (3, .slice (some ⟨b8, 0, none⟩) 6 cc), (4, .slice (some ⟨g14, 0, none⟩) 1 1), (53, .slice oA Es.length oc), (54, .int .i64 (Es.length : Int)), (55, .int .i64 (k : Int))] ∧ Mem w w_ ((.arr g2 41 ([.slice qA 6 qc, .slice (some ⟨bh_, oh_, none⟩) 24 hc])) :: (.row (.slice (some ⟨b8, 0, none⟩) 6 cc) 3 1 6 (ics [0, 0, 0, 0, 0, 0])) :: (.row (.slice (some ⟨g14, 0, none⟩) 1 1) 3 1 1 (ics [-12 + 2 * (k : Int)])) :: (.row (.slice oA Es.length oc) 26 1 Es.length (Es.map entV)) :: (Es.map rowE))) (Es.length - 0) ⟨0, rfl, (Nat.zero_le _), ⟨litSize, rfl, fo_⟩, hm54⟩ ?_
 clear hm54
 intro n_ a57 w55 hI_
 obtain ⟨k, rfl, hk_, hF_, hm56⟩ := hI_
 obtain ⟨X58, rfl⟩ := frLit hF_
 clear hF_
 refine sp_ fun _ hK59 => ?_
 by_cases h60 : (k : Int) < (Es.length : Int)
 ·have hk2_ : k < Es.length := by omega
  obtain ⟨⟨ek, eA, ec, ids⟩, he_⟩ : ∃ e, Es[k]? = some e := ⟨_, List.getElem?_eq_getElem hk2_⟩
  have hem_ := List.mem_of_getElem? he_
  have hids_ : cornerL[k]? = some ids := by rw [← hE, List.getElem?_map, he_]; rfl
  obtain ⟨hx0_, hxl_⟩ := cor_at (by omega) hids_
  obtain ⟨be_, oe_, rfl, _, _⟩ := (Mem.entRd (e := ⟨ek, eA, ec, ids⟩) hm56 (by simp only [List.mem_cons, List.mem_map]; exact Or.inr (Or.inr (Or.inr (Or.inr (⟨_, hem_, rfl⟩)))))).cells (show 0 < ids.length * 1 by omega)
  obtain ⟨b61, rfl⟩ := hm56.rowBlk (A := oA) (n := Es.length) (c := oc) 3 rfl (by omega)
  refine lv_ rfl _ (lsT_ h60) ?_
  refine pt_ hK59 ?_
  refine sk_ fun _ hK62 => ?_
  refine wp_cond_true le_ ?_
  refine wp_skip ?_
  refine tn_ hK62 ?_
  refine sk_ fun _ hK63 => ?_
  refine wp_block ?_
  refine sp_ fun _ hK64 => ?_
  refine lv_ rfl (.pointer (some ⟨b61, 0 + k * 1, none⟩)) (ia_ oc k Ty.sl_L_L_int rfl (show k < Es.length by omega)) ?_
  refine lv_ rfl (.slice (some ⟨be_, oe_, none⟩) ids.length ec) (lr_ (m := k * 1) (hm56.rdRow 3 rfl) (entGet he_) (by omega)) ?_
  refine lk_ (.slice (some ⟨be_, oe_, none⟩) ids.length ec) ?_
  refine pt_ hK64 ?_
  refine glStart 16 ((.arr g2 41 ([.slice qA 6 qc, .slice (some ⟨bh_, oh_, none⟩) 24 hc])) :: (.row (.slice (some ⟨b8, 0, none⟩) 6 cc) 3 1 6 (ics [0, 0, 0, 0, 0, 0])) :: (.row (.slice (some ⟨g14, 0, none⟩) 1 1) 3 1 1 (ics [-12 + 2 * (k : Int)])) :: (.row (.slice (some ⟨b61, 0, none⟩) Es.length oc) 26 1 Es.length (Es.map entV)) :: (Es.map rowE)) hm56 kr_ ?_
  intro w66 hm65
  clear hm56
  refine glk (i := 0) (v := .slice (some ⟨g14, 0, none⟩) 1 1) rfl rfl (fun _ _ _ h => h) hm65 rfl ?_
  refine glk (i := 1) (v := .slice (some ⟨b8, 0, none⟩) 6 cc) rfl rfl (fun _ _ _ h => h) hm65 rfl ?_
  refine glk (i := 2) (v := .pointer (some ⟨g2, 1, none⟩)) rfl rfl (fun _ _ _ h => h) hm65 rfl ?_
  refine glTake (i := 3) (v := .slice (some ⟨bh_, oh_, none⟩) 24 hc) rfl kr_ (wn rfl) (fun _ _ _ h => h) hm65 (fun w_ h_ => gLoad (v := .slice (some ⟨bh_, oh_, none⟩) 24 hc) (k := 1) 0 h_ rfl kr_ (.tmp 61) kr_ rfl le_) ?_
  refine glP rfl ?_
  refine glk (i := 4) (v := .slice (some ⟨be_, oe_, none⟩) ids.length ec) rfl rfl (fun _ _ _ h => h) hm65 rfl ?_
  refine glTake (i := 5) (v := .pointer (some ⟨be_, oe_ + 0 * 1, none⟩)) rfl kr_ (wn rfl) (fun _ _ _ h => h) hm65 (fun w_ h_ => gIaSl (b := be_) (off := oe_) (n := ids.length) (c := ec) (kk := .i64) (K := 0) (.tmp 63) (.const (.int .i64 0)) 0 Ty.sl_L_int rfl le_ le_ (rfl) (hxl_)) ?_
  refine glP rfl ?_
  refine glTake (i := 6) (v := .int .i64 (k : Int)) rfl kr_ (wn rfl) (fun _ _ _ h => h) hm65 (fun w_ h_ => gLoadRd (v := .int .i64 (k : Int)) (m := 0 * 1) (Mem.entRd (e := ⟨ek, some ⟨be_, oe_, none⟩, ec, ids⟩) h_ (by simp only [List.mem_cons, List.mem_map]; exact Or.inr (Or.inr (Or.inr (Or.inr (⟨_, hem_, rfl⟩)))))) rfl (icsGet hx0_) (by show 0 < ids.length * 1; omega) (.tmp 64) kr_ rfl le_) ?_
  refine glP rfl ?_
  refine glTake (i := 7) (v := .pointer (some ⟨bh_, oh_ + k * 6, none⟩)) rfl kr_ (wn rfl) (fun _ _ _ h => h) hm65 (fun w_ h_ => gIaSl (b := bh_) (off := oh_) (n := 24) (c := hc) (kk := .i64) (K := (k : Int)) (.tmp 62) (.tmp 65) k Ty.sl_L_api_Half rfl le_ le_ (rfl) ((show k < 24 by omega))) ?_
  refine glP rfl ?_
  refine glk (i := 8) (v := .pointer (some ⟨bh_, oh_ + k * 6 + 5, none⟩)) rfl rfl (fun _ _ _ h => h) hm65 rfl ?_
  refine glTake (i := 9) (v := .int .i64 (fcB k : Int)) rfl kr_ (wn rfl) (fun _ _ _ h => h) hm65 (fun w_ h_ => gLoadRd (v := .int .i64 (fcB k : Int)) (m := k * 6 + 5) ((Rd.below hh h_.bel).more h_.bel.size) rfl (bH_fc (show k < 24 by omega)) (by decide) (.tmp 67) kr_ rfl le_) ?_
  refine glP rfl ?_
  refine glTake (i := 10) (v := .pointer (some ⟨b8, 0 + (fcB k) * 1, none⟩)) rfl kr_ (wn rfl) (fun _ _ _ h => h) hm65 (fun w_ h_ => gIaSl (b := b8) (off := 0) (n := 6) (c := cc) (kk := .i64) (K := (fcB k : Int)) (.tmp 60) (.tmp 68) (fcB k) Ty.sl_L_int rfl le_ le_ (rfl) ((show fcB k < 6 from fcB_lt (by omega)))) ?_
  refine glP rfl ?_
  refine glTake (i := 11) (v := .int .i64 0) rfl kr_ (wn rfl) (fun _ _ _ h => h) hm65 (fun w_ h_ => gLoadRd (v := .int .i64 0) (m := (fcB k) * 1) (h_.rdRow 1 rfl) rfl (zero_get (show fcB k < 6 by first | omega | exact fcB_lt (by omega))) (by decide) (.tmp 69) kr_ rfl le_) ?_
  refine glP rfl ?_
  refine glTake (i := 12) (v := .pointer (some ⟨g14, 0 + 0 * 1, none⟩)) rfl kr_ (wn rfl) (fun _ _ _ h => h) hm65 (fun w_ h_ => gIaSl (b := g14) (off := 0) (n := 1) (c := 1) (kk := .i64) (K := 0) (.tmp 59) (.tmp 70) 0 Ty.sl_L_int rfl le_ le_ (rfl) ((by decide))) ?_
  refine glP rfl ?_
  refine glTake (i := 13) (v := .int .i64 (-12 + 2 * (k : Int))) rfl kr_ (wn rfl) (fun _ _ _ h => h) hm65 (fun w_ h_ => gLoadRd (v := .int .i64 (-12 + 2 * (k : Int))) (m := 0 * 1) (h_.rdRow 2 rfl) rfl (icsGet (k := 0) rfl) (by decide) (.tmp 71) kr_ rfl le_) ?_
  refine glP rfl ?_
  refine glTake (i := 14) (v := .int .i64 ((-12 + 2 * (k : Int)) + 2)) rfl kr_ (wn rfl) (fun _ _ _ h => h) hm65 (fun w_ h_ => addRun (A := (-12 + 2 * (k : Int))) (B := 2) (C := (-12 + 2 * (k : Int)) + 2) (.tmp 72) (.const (.int .i64 2)) rfl le_ le_ rfl (by omega)) ?_
  refine glP rfl ?_
  refine glTake (i := 15) (v := .pointer (some ⟨g14, 0 + 0 * 1, none⟩)) rfl kr_ (wn rfl) (fun _ _ _ h => h) hm65 (fun w_ h_ => gIaSl (b := g14) (off := 0) (n := 1) (c := 1) (kk := .i64) (K := 0) (.tmp 59) (.tmp 70) 0 Ty.sl_L_int rfl le_ le_ (rfl) ((by decide))) ?_
  refine glP rfl ?_
  refine glStoreRow (v := .int .i64 ((-12 + 2 * (k : Int)) + 2)) (v0 := .int .i64 (-12 + 2 * (k : Int))) (k := 0 + 0 * 1) (xs := ics [-12 + 2 * (k : Int)]) 2 kr_ hm65 rfl kr_ (i := 16) rfl kr_ (wn rfl) rfl le_ le_ (by rfl) (by decide) rfl rfl ?_
  intro w67 hm68
  clear hm65
  try simp only [lc_] at hm68
  replace hm68 := Mem.rowEq (v := .slice (some ⟨g14, 0, none⟩) 1 1) (e := 3) (size := 1) (n := 1) (n' := 1) (xs := (ics [-12 + 2 * (k : Int)]).set (0 + 0 * 1) (.int .i64 ((-12 + 2 * (k : Int)) + 2))) (xs' := ics [(-12 + 2 * (k : Int)) + 2]) 2 hm68 rfl rfl (by rfl)
  try simp only [lc_] at hm68
  refine glNone rfl ?_
  refine glDone kr_ ?_
  refine inBlock_normal ?_
  refine tn_ hK63 ?_
  refine plStart ?_
  refine lv_ rfl _ (ad_ (k : Int) 1) ?_
  refine li_ ((k : Int) + 1) ?_
  refine plD ?_
  refine then_normal ?_
  rw [show (-12 + 2 * (k : Int)) + 2 = -12 + 2 * ((k + 1 : Nat) : Int) by omega] at hm68
  exact ⟨_, by omega, (k + 1), rfl, (by omega), ⟨litSize, rfl, fo_⟩, (hm68.sub (.cons_cons _ (.cons_cons _ (.cons_cons _ (.cons_cons _ (List.Sublist.refl _))))))⟩
 refine lv_ rfl _ (lsF_ h60) ?_
 refine pt_ hK59 ?_
 refine sk_ fun _ hK69 => ?_
 refine wp_cond_false le_ ?_
 refine wp_exit ?_
 refine then_exit ?_
 refine then_exit ?_
 refine inBlock_exit ?_
 refine tn_ hK50 ?_
 refine sk_ fun _ hK70 => ?_
 refine sp_ fun _ hK71 => ?_
 have hke_ : k = 8 := by omega
 rw [hke_, show -12 + 2 * ((8 : Nat) : Int) = 4 by decide] at hm56
 refine lk_ (.slice (some ⟨g14, 0, none⟩) 1 1) ?_
 refine lv_ rfl (.int .i64 1) (ln_ (some ⟨g14, 0, none⟩) 1 1 Ty.und_L_int) ?_
 refine li_ 0 ?_
 refine pt_ hK71 ?_
 refine wp_block ?_
 refine roundsStart 2 ?_
 refine sp_ fun _ hK72 => ?_
 refine lT_ ?_
 refine pt_ hK72 ?_
 refine sk_ fun _ hK73 => ?_
 refine wp_cond_true le_ ?_
 refine wp_skip ?_
 refine tn_ hK73 ?_
 refine sk_ fun _ hK74 => ?_
 refine wp_block ?_
 refine sp_ fun _ hK75 => ?_
 refine li_ 0 ?_
 refine li_ 0 ?_
 refine pt_ hK75 ?_
 refine plStart ?_
 refine lk_ (.slice (some ⟨g14, 0, none⟩) 1 1) ?_
 refine li_ 0 ?_
 refine lv_ rfl (.pointer (some ⟨g14, 0 + 0 * 1, none⟩)) (gIaSl (b := g14) (off := 0) (n := 1) (c := 1) (kk := .i64) (K := 0) (.tmp 81) (.tmp 82) 0 Ty.sl_L_int rfl le_ le_ (rfl) ((by decide))) ?_
 refine lv_ rfl (.int .i64 4) (lr_ (m := 0 * 1) (hm56.rdRow 2 rfl) (icsGet (k := 0) rfl) (by decide)) ?_
 refine li_ 2 ?_
 refine lv_ rfl (.pointer (some ⟨g14, 0 + 0 * 1, none⟩)) (gIaSl (b := g14) (off := 0) (n := 1) (c := 1) (kk := .i64) (K := 0) (.tmp 81) (.tmp 82) 0 Ty.sl_L_int rfl le_ le_ (rfl) ((by decide))) ?_
 refine plStoreRow (v := .int .i64 2) (v0 := .int .i64 (4)) (k := 0 + 0 * 1) (xs := ics [4]) 2 kr_ hm56 rfl (i := 6) rfl (wn rfl) rfl le_ le_ (by rfl) (by decide) rfl rfl ?_
 intro w76 hm77
 clear hm56
 try simp only [lc_] at hm77
 replace hm77 := Mem.rowEq (v := .slice (some ⟨g14, 0, none⟩) 1 1) (e := 3) (size := 1) (n := 1) (n' := 1) (xs := (ics [4]).set (0 + 0 * 1) (.int .i64 2)) (xs' := ics [2]) 2 hm77 rfl rfl (by rfl)
 try simp only [lc_] at hm77
 refine qNone rfl ?_
 refine plD ?_
 refine inBlock_normal ?_
 refine tn_ hK74 ?_
 refine plStart ?_
 refine li_ 1 ?_
 refine li_ 1 ?_
 refine plD ?_
 refine then_normal (roundsNext ?_)
 refine sp_ fun _ hK78 => ?_
 refine lF_ ?_
 refine pt_ hK78 ?_
 refine sk_ fun _ hK79 => ?_
 refine wp_cond_false le_ ?_
 refine wp_exit ?_
 refine then_exit ?_
 refine then_exit ?_
 refine inBlock_exit ?_
 refine tn_ hK70 ?_
 refine wpPrune [(2, .slice none 0 0), (4, .slice (some ⟨g14, 0, none⟩) 1 1)] fo_ (fun X80 => ?_)
 refine sp_ fun _ hK81 => ?_
 refine lk_ (.slice (some ⟨g14, 0, none⟩) 1 1) ?_
 refine lk_ (.slice (some ⟨g14, 0, none⟩) 1 1) ?_
 refine pt_ hK81 ?_
 refine wp_ret ?_
 refine br_ 2 (.slice (some ⟨g14, 0, none⟩) 1 1) ?_
 exact ⟨_, rfl, hm77.row 2 rfl, hm77.bel⟩
theorem ball_mesh2 {n : Nat} (hn : n = 1) {H : List Hf} (h : TwOk (halfsU n bQ bQ.length) H (spansU n bQ bQ.length) (halfsU n bQ bQ.length).length) : H = bH := by
 subst hn
 have hq : bQ.length = 6 := rfl
 have e : (halfsU 1 bQ 6).length = 24 := by rw [ball_halfs]; rfl
 rw [hq, e] at h
 exact ball_mesh h
theorem Mem.ofRds {w0 w : World} {A B : Option Addr} {s1 n1 c1 s2 n2 c2 : Nat} {xs ys : List Value} (b : Below w0.heap.size w0 w) (h1 : Rd w w.heap.size s1 A n1 c1 xs) (h2 : Rd w w.heap.size s2 B n2 c2 ys) : Mem w0 w [.rd A s1 n1 c1 xs, .rd B s2 n2 c2 ys] := by
 refine ⟨b, fun r hr => ?_, ?_⟩
 ·simp only [List.mem_cons, List.not_mem_nil, or_false] at hr
  rcases hr with rfl | rfl
  ·exact h1
  ·exact h2
 ·refine List.pairwise_cons.2 ⟨fun r hr => ?_, List.pairwise_singleton _ _⟩
  rw [List.mem_singleton] at hr
  subst hr
  exact Or.inl ⟨rfl, rfl⟩
theorem ball_any (w : World) (hsd : SidesIn w) : Calls Tryz.prog 5 #[] w (RetV w (.bool true)) := by
 have hm0 := Mem.nil w
 go_enter Tryz.func5, Tryz.ntmps5
 refine litStart 34 [] kr_ (fun X0 => ?_)
 refine sp_ fun _ hK1 => ?_
 refine lF_ ?_
 refine pt_ hK1 ?_
 refine sp_ fun _ hK2 => ?_
 refine plMakeRow (m := 64) (cs := ics (List.replicate 64 0)) (e := 3) hm0 (i := 0) rfl (wn rfl) rfl le_ le_ (fun w_ => by kernel_rfl) kr_ (by decide) ?_
 intro g3 w4 hm5
 clear hm0
 try simp only [lc_] at hm5
 refine qP rfl ?_
 refine lk_ (.slice (some ⟨g3, 0, none⟩) 64 64) ?_
 refine pt_ hK2 ?_
 refine sp_ fun _ hK6 => ?_
 refine lk_ (.slice (some ⟨g3, 0, none⟩) 64 64) ?_
 refine lv_ rfl (.pointer (some ⟨g3, 0 + 21 * 1, none⟩)) (gIaSl (b := g3) (off := 0) (n := 64) (c := 64) (kk := .i64) (K := 21) (.tmp 5) (.const (.int .i64 21)) 21 Ty.sl_L_int rfl le_ le_ (rfl) ((by decide))) ?_
 refine plStoreRow (v := .int .i64 1) (v0 := .int .i64 0) (k := 0 + 21 * 1) (xs := ics (List.replicate 64 0)) 0 kr_ hm5 rfl (i := 2) rfl (wn rfl) rfl le_ le_ (by rfl) (by decide) rfl rfl ?_
 intro w7 hm8
 clear hm5
 try simp only [lc_] at hm8
 replace hm8 := Mem.rowEq (v := .slice (some ⟨g3, 0, none⟩) 64 64) (e := 3) (size := 1) (n := 64) (n' := 64) (xs := (ics (List.replicate 64 0)).set (0 + 21 * 1) (.int .i64 1)) (xs' := ics ballC) 0 hm8 rfl rfl (by rfl)
 try simp only [lc_] at hm8
 refine qNone rfl ?_
 refine pt_ hK6 ?_
 refine sp_ fun _ hK9 => ?_
 refine lk_ (.agg ([.int .i64 0, .int .i64 0, .int .i64 0, .int .i64 0]).toArray) ?_
 refine plLit (cs := [.int .i64 0, .int .i64 0, .int .i64 0, .int .i64 0]) (n := 1) Ty.sl_L_api_Tile hm8 (i := 1) rfl (wn rfl) rfl (by decide) (by decide) (by rw [lit_eval]; kernel_rfl) ?_
 intro g10 w12 hm11
 clear hm8
 try simp only [lc_] at hm11
 refine qP rfl ?_
 refine lk_ (.slice (some ⟨g3, 0, none⟩) 64 64) ?_
 refine plLit (cs := [.slice (some ⟨g3, 0, none⟩) 64 64]) (n := 1) Ty.sl_L_L_int hm11 (i := 3) rfl (wn rfl) rfl (by decide) (by decide) (by rw [lit_eval]; kernel_rfl) ?_
 intro g13 w15 hm14
 clear hm11
 try simp only [lc_] at hm14
 refine qP rfl ?_
 refine plCall (i := 4) 20 [] [] [] rfl kr_ (wn rfl) rfl le_ (litArgs kr_) (default_any _) ?_
 rintro e w16 ⟨v_, rfl, hown_, hbz⟩
 obtain ⟨tA, tc, rfl, hrd_⟩ := Rd.of_own hown_
 clear hrd_
 replace hown_ : World.ownsRow w16 _ 122 8 _ 9 (mts T0m) := hown_
 have hm17 := hm14.newRow hbz hown_
 clear hown_ hbz hm14
 try simp only [lc_] at hm17
 refine ⟨_, rfl, ?_⟩
 refine qP rfl ?_
 refine plCall (i := 5) 9 [.slice (some ⟨g10, 0, none⟩) 1 1, .slice (some ⟨g13, 0, none⟩) 1 1, .slice tA 9 tc] [] [] rfl kr_ (wn rfl) rfl le_ (litArgs kr_) (build_any [(⟨some ⟨g3, 0, none⟩, 64, ballC⟩ : Sl3)] (Or.inl rfl) T0m (some ⟨g10, 0, none⟩) 1 (some ⟨g13, 0, none⟩) 1 tA tc _ (Rd.of_arr (t := 63) (cs := (tlsC (planL 1))) (hm17.arr 1 kr_) kr_ (of_decide_eq_true kr_)) ⟨(Rd.of_arr (t := 26) (cs := (slsC [(⟨some ⟨g3, 0, none⟩, 64, ballC⟩ : Sl3)])) (hm17.arr 2 kr_) kr_ (of_decide_eq_true kr_)), fun x_ hx_ => by
  rw [List.mem_singleton] at hx_; subst hx_
  exact ⟨rfl, (hm17.rdRow 0 rfl)⟩⟩ (hm17.rdRow 3 rfl) (hsd.below hm17.bel)) ?_
 rintro e w18 ⟨d, H, qA, hA, qc, hc, rfl, hperm, hsrt, htw, hrq_, hrh_, hoq_, hbz⟩
 obtain rfl : d = bQ := ball_sorted (by rw [← ball_quads]; exact hperm) hsrt
 obtain rfl : H = bH := ball_mesh2 rfl htw
 have hm19 : Mem w w18 [.rd hA 6 24 hc (hfsC bH), .rd qA 6 6 qc (qdsC bQ)] := Mem.ofRds (hm17.below hbz).bel hrh_ hrq_
 clear hrq_ hrh_ hoq_ hbz htw hperm hsrt hm17
 refine ⟨_, rfl, ?_⟩
 refine qP rfl ?_
 refine plAlloc (z := [.slice none 0 0, .slice none 0 0]) Ty.ag_voxel_api_Mesh hm19 (i := 6) rfl (wn rfl) rfl ?_
 intro g20 w22 hm21
 clear hm19
 try simp only [lc_] at hm21
 refine qP rfl ?_
 refine plStore 2 Ty.ag_voxel_api_Mesh hm21 rfl (i := 7) (cs := [.slice qA 6 qc, .slice hA 24 hc]) rfl (wn rfl) rfl le_ le_ rfl rfl kr_ ?_
 intro w24 hm23
 clear hm21
 try simp only [lc_] at hm23
 refine qNone rfl ?_
 refine pt_ hK9 ?_
 refine sp_ fun _ hK25 => ?_
 refine lv_ rfl (.agg ([.slice qA 6 qc, .slice hA 24 hc]).toArray) (la_ 0 2 hm23 Ty.ag_voxel_api_Mesh) ?_
 refine plCall (i := 1) 21 [.agg ([.slice qA 6 qc, .slice hA 24 hc]).toArray] [] [] rfl kr_ (wn rfl) rfl le_ (litArgs kr_) (by exact euler_any qA _ qc hc _ (hm23.rd 0 rfl)) ?_
 rintro e w26 ⟨v_, rfl, hown_, hbz⟩
 obtain ⟨eA, ec, rfl, hrd_⟩ := Rd.of_own hown_
 clear hrd_
 replace hown_ : World.ownsRow w26 _ 3 1 _ 1 (ics [2]) := hown_
 have hm27 := hm23.newRow hbz hown_
 clear hown_ hbz hm23
 try simp only [lc_] at hm27
 obtain ⟨b28, rfl⟩ := hm27.rowBlk (A := eA) (n := 1) (c := ec) 3 rfl (by decide)
 refine ⟨_, rfl, ?_⟩
 refine qP rfl ?_
 refine lk_ (.slice (some ⟨b28, 0, none⟩) 1 ec) ?_
 refine pt_ hK25 ?_
 refine sp_ fun _ hK29 => ?_
 refine lp_ g20 0 ?_
 refine lv_ rfl (.slice qA 6 qc) (ld_ 0 2 hm27) ?_
 refine lv_ rfl (.int .i64 6) (ln_ qA 6 qc Ty.und_L_api_Quad) ?_
 refine lT_ ?_
 refine lT_ ?_
 refine lw_ rfl (.agg ([.slice qA 6 qc, .slice hA 24 hc]).toArray) (la_ 0 2 hm27 Ty.ag_voxel_api_Mesh) ?_
 refine plCall (i := 6) 22 [.agg ([.slice qA 6 qc, .slice hA 24 hc]).toArray] [] [] rfl kr_ (wgY rfl rfl rfl (by decide) kr_) rfl le_ (litArgs kr_) (by exact LD.check_any qA _ qc hc _ (hm27.rd 0 rfl)) ?_
 rintro e w30 ⟨rfl, hbz⟩
 have hm31 := hm27.below hbz
 clear hbz hm27
 refine ⟨_, rfl, ?_⟩
 refine qP rfl ?_
 refine lT_ ?_
 refine lT_ ?_
 refine lw_ rfl (.slice (some ⟨b28, 0, none⟩) 1 ec) (litRun kr_) ?_
 refine lw_ rfl (.int .i64 1) (ln_ (some ⟨b28, 0, none⟩) 1 ec Ty.und_L_int) ?_
 refine lw_ rfl (.bool true) (litRun kr_) ?_
 refine lT_ ?_
 refine lT_ ?_
 refine lw_ rfl (.slice (some ⟨b28, 0, none⟩) 1 ec) (litRun kr_) ?_
 refine lw_ rfl (.pointer (some ⟨b28, 0 + 0 * 1, none⟩)) (gIaSl (b := b28) (off := 0) (n := 1) (c := ec) (kk := .i64) (K := 0) (.tmp 29) (.const (.int .i64 0)) 0 Ty.sl_L_int rfl le_ le_ (rfl) ((by decide))) ?_
 refine lw_ rfl (.int .i64 2) (lr_ (m := 0 * 1) (hm31.rdRow 3 rfl) (icsGet (k := 0) rfl) (by decide)) ?_
 refine lw_ rfl (.bool true) (litRun kr_) ?_
 refine lT_ ?_
 refine lT_ ?_
 refine pt_ hK29 ?_
 refine wpPrune [(0, .bool true)] fo_ (fun X32 => ?_)
 refine wp_ret ?_
 refine br_ 0 (.bool true) ?_
 exact ⟨by rfl, hm31.bel⟩
end Go.Proofs.YtbpihalphhoiaaaGreatDoor
