/-
 MK: several texts in one. No statement is proved here.
-/
import Derived.Test.YtgjgjimgomhbmaaGreatDoorMJ
import Derived.Test.YtgjgjimgomhbmaaGreatDoorMH
import Derived.Test.YtgjgjimgomhbmaaGreatDoorMB
import Derived.Test.YtgjgjimgomhbmaaGreatDoorME
import Derived.Test.YtgjgjimgomhbmaaGreatDoorMG
import Derived.Test.YtgjgjimgomhbmaaGreatDoorMD
set_option maxRecDepth 100000
set_option maxHeartbeats 4000000
set_option linter.unusedVariables false
set_option linter.unusedSimpArgs false
namespace Go.Proofs.YtgjgjimgomhbmaaGreatDoor
open Go.RowKit
theorem slStrLRun {P : Program} {w : World} {o : Oper} {a : Act} {t : TypeId} {kl : IntKind} {L : Int} (x y : Operand) (l : List UInt8) (U : Nat)
 (ho : o.op = .slice t x (some y) none none) (hx : a.eval x = .string ⟨l.toArray⟩) (hh : a.eval y = .int kl L) (hL : L = (U : Int)) (h2 : U ≤ l.length) (ht : P.underlying t = some .string) :
 (execOp a.eval o).run P w = .ok (.value (.string ⟨(l.drop U).toArray⟩)) w := by
 subst hL
 unfold execOp
 have hs : (⟨l.toArray⟩ : ByteArray).size = l.length := by simp [ByteArray.size]
 have := run_slice_string_l (P := P) w t ⟨l.toArray⟩ ht kl (U : Int) (by omega) (by rw [hs]; omega)
 rw [Int.toNat_natCast, ext_drop] at this
 simp only [ho, hx, hh, Option.map_some, Option.map_none, Sem.run_bind, Sem.run_pure, run_sliceAt_string w t _ _ _ _ ht, this, Result.andThen_ok]
end Go.Proofs.YtgjgjimgomhbmaaGreatDoor
namespace Go.Proofs.YtgjgjimgomhbmaaGreatDoor
def sgV (seed : List UInt8) (hh ii : Int) (x : Hd) : List UInt8 × Int :=
 if ckH x ≠ 0 then ([], ckH x) else
 if (makeD seed hh ii (encH x)).2 ≠ 0 then ([], (makeD seed hh ii (encH x)).2) else (encS (encH x) ++ (makeD seed hh ii (encH x)).1, 0)
def vfV (p : List UInt8) (hh : Int) (t : List UInt8) : Hd × Int × Int :=
 if (decS t).2.2 ≠ 0 then (hd0, 0, (decS t).2.2) else
 if (decH (decS t).1).2 ≠ 0 then (hd0, 0, (decH (decS t).1).2) else
 if (verifyD p hh (decS t).1 (t.drop (decS t).2.1.toNat)).2 ≠ 0 then (hd0, 0, (verifyD p hh (decS t).1 (t.drop (decS t).2.1.toNat)).2) else
 ((decH (decS t).1).1, (verifyD p hh (decS t).1 (t.drop (decS t).2.1.toNat)).1, 0)
section
variable {seed : List UInt8} {hh ii : Int} {x : Hd} {p t : List UInt8}
theorem sgV_ck (h1 : ¬ ckH x = 0) : sgV seed hh ii x = ([], ckH x) := if_pos h1
theorem sgV_e (h1 : ckH x = 0) (h2 : ¬ (makeD seed hh ii (encH x)).2 = 0) : sgV seed hh ii x = ([], (makeD seed hh ii (encH x)).2) := (if_neg (fun h => h h1)).trans (if_pos h2)
theorem sgV_ok (h1 : ckH x = 0) (h2 : (makeD seed hh ii (encH x)).2 = 0) : sgV seed hh ii x = (encS (encH x) ++ (makeD seed hh ii (encH x)).1, 0) := (if_neg (fun h => h h1)).trans (if_neg (fun h => h h2))
theorem vfV_a (h1 : ¬ (decS t).2.2 = 0) : vfV p hh t = (hd0, 0, (decS t).2.2) := if_pos h1
theorem vfV_b (h1 : (decS t).2.2 = 0) (h2 : ¬ (decH (decS t).1).2 = 0) : vfV p hh t = (hd0, 0, (decH (decS t).1).2) := (if_neg (fun h => h h1)).trans (if_pos h2)
theorem vfV_c (h1 : (decS t).2.2 = 0) (h2 : (decH (decS t).1).2 = 0) (h3 : ¬ (verifyD p hh (decS t).1 (t.drop (decS t).2.1.toNat)).2 = 0) : vfV p hh t = (hd0, 0, (verifyD p hh (decS t).1 (t.drop (decS t).2.1.toNat)).2) := (if_neg (fun h => h h1)).trans ((if_neg (fun h => h h2)).trans (if_pos h3))
theorem vfV_ok (h1 : (decS t).2.2 = 0) (h2 : (decH (decS t).1).2 = 0) (h3 : (verifyD p hh (decS t).1 (t.drop (decS t).2.1.toNat)).2 = 0) : vfV p hh t = ((decH (decS t).1).1, (verifyD p hh (decS t).1 (t.drop (decS t).2.1.toNat)).1, 0) := (if_neg (fun h => h h1)).trans ((if_neg (fun h => h h2)).trans (if_neg (fun h => h h3)))
end
theorem decSf (t : List UInt8) : ((decS t).2.2 = 0 → 0 ≤ (decS t).2.1 ∧ (decS t).2.1 ≤ (t.length : Int)) ∧ (decS t).1.length ≤ t.length := by
 obtain ⟨a, b, e, hd⟩ : ∃ a b e, lenDec t 1 = (a, b, e) := ⟨_, _, _, rfl⟩
 have hf := lenDec_facts (by omega) hd
 unfold decS
 rw [hd]
 by_cases he : e ≠ 0
 ·rw [if_pos he]
  exact ⟨fun h => absurd h he, Nat.zero_le _⟩
 ·rw [if_neg he]
  rcases hf with ⟨_, f2, f3, f4, f5, f6, f7⟩ | ⟨_, _, f3⟩
  ·refine ⟨fun _ => ⟨by show 0 ≤ b + a; omega, by show b + a ≤ _; omega⟩, ?_⟩
   show ((t.drop b.toNat).take a.toNat).length ≤ _
   rw [List.length_take, List.length_drop]; omega
  ·omega
theorem makeD_le (seed : List UInt8) (hh ii : Int) (m : List UInt8) : (makeD seed hh ii m).1.length ≤ 1000 := by
 unfold makeD
 split
 ·simp
 ·rename_i hc
  split
  ·simp
  ·rename_i hi
   have hh2 : 0 ≤ hh ∧ hh ≤ 6 := by
    unfold countD at hc
    split at hc
    ·exact absurd rfl hc
    ·omega
   obtain ⟨h, rfl⟩ := Int.eq_ofNat_of_zero_le hh2.1
   obtain ⟨i, rfl⟩ := Int.eq_ofNat_of_zero_le (show 0 ≤ ii by omega)
   have hh6 : h ≤ 6 := by omega
   have hi2 : i < 2 ^ h := by rw [countD_of hh6] at hi; omega
   show (signD seed h i m).length ≤ 1000
   rw [signD_len seed m hh6 hi2, sizeD_of hh6 hi2]
   have := enc_le (i : Int)
   omega
end Go.Proofs.YtgjgjimgomhbmaaGreatDoor
namespace Go.Proofs.YtgjgjimgomhbmaaGreatDoor
open Go.RowKit
theorem good_le {h : Hd} (g : h.Good) : h.counts.length ≤ 20 ∧ h.rn ≤ 20 := by
 have := g.2.2
 omega
section
variable {P : Program} {ops : Array Oper} {Q : Exit → Act → World → Prop} {a : Act} {w w0 : World} {o : Oper} {L : List Res} {i : Nat}
theorem plConvB {x : Operand} {src e dst : TypeId} (l : List UInt8) (hs : P.underlying src = some .string) (hd : P.underlying dst = some (.slice e)) (he : P.underlying e = some (.int .u8)) (hl : l.length ≤ maxLen) (hm : Mem w0 w L) (hi : ops.toList[i]? = some o) (hw : Region.wanted o (yielded ops a.tmps) = true)
 (ho : o.op = .convert src dst x) (hx : a.eval x = .string ⟨l.toArray⟩)
 (h : ∀ g c w', Mem w0 w' (L ++ [.rd (some ⟨g, 0, none⟩) 1 l.length c (bcs l)]) → PL P ops Q (i + 1) (a.put o.dst (.slice (some ⟨g, 0, none⟩) l.length c)) w') : PL P ops Q i a w :=
 plOf hi (convBsR x l hs hd he hl hw ho hx fun c w' hr hsz hb => (h w.heap.size c w' (hm.newRd hb (hr.more hsz) (fun a ha => by cases ha; exact Nat.le_refl _))).out)
end
theorem Lv.At.len {x : Lv} {w : World} (h : x.At w) : x.h.D.length = x.h.rn * 16 := by have := h.b.len; rwa [bcs_length] at this
theorem encS_le (s : List UInt8) : (encS s).length ≤ 10 + s.length := by
 unfold encS
 rw [List.length_append]
 have := enc_le (s.length : Int)
 omega
theorem vsign_any (seed : List UInt8) (hh ii : Int) (x : Lv) (w : World) (ht : Tabs w) (hx : x.At w) (hfit : x.h.Fit) (hseed : seed.length ≤ 100000000) : Calls Tryz.prog 7 #[.string ⟨seed.toArray⟩, .int .i64 hh, .int .i64 ii, .agg (hcs x.h x.A x.c x.B x.d).toArray] w (RetV w (textV (sgV seed hh ii x.h).1 (sgV seed hh ii x.h).2)) := by
 have hxl_ := hx.len
 have hm0 := Mem.ofLv (l := [x]) (fun v_ hv_ => by rw [List.mem_singleton] at hv_; subst hv_; exact hx)
 go_enter Tryz.func7, Tryz.ntmps7
 refine litStart 38 [(0, .string ⟨seed.toArray⟩), (1, .int .i64 hh), (2, .int .i64 ii), (3, .agg (hcs x.h x.A x.c x.B x.d).toArray)] kr_ (fun X0 => ?_)
 refine wp_seq_k fun K1 hK1 => ?_
 refine plStart ?_
 refine plBox hm0 (cs := hcs x.h x.A x.c x.B x.d) (i := 0) rfl (wn rfl) rfl le_ ?_
 intro g2 w4 hm3
 clear hm0
 try simp only [lc1_, lc2_, lc3_, lc4_] at hm3
 replace hm3 := Mem.insAt (M := (lvRes [x])) 0 hm3
 simp only [List.insertIdx_succ_cons, List.insertIdx_zero] at hm3
 refine qP rfl ?_
 refine lk_ (.string ⟨([]).toArray⟩) ?_
 refine lk_ (.int .i64 0) ?_
 refine plD ?_
 refine tn_ hK1 ?_
 refine wp_seq_k fun K5 hK5 => ?_
 refine wp_seq_k fun K6 hK6 => ?_
 refine plStart ?_
 refine litVal (v := .agg (hcs x.h x.A x.c x.B x.d).toArray) rfl (wn rfl) (gLoadAg (vs := hcs x.h x.A x.c x.B x.d) (k := 0) 0 hm3 rfl kr_ kr_ (.tmp 7) Ty.ag_voxel_api_Header rfl le_) rfl (by decide) ?_
 refine plCall (i := 1) 14 [.agg (hcs x.h x.A x.c x.B x.d).toArray] [] [] rfl kr_ (wn rfl) rfl le_ (litArgs kr_) (check_any x.h x.A x.c x.B x.d _ ((Mem.lv ((Mem.tailN (T := lvRes [x]) 1 hm3 rfl).sub (L' := lvRes [x]) (rf_))) x List.mem_cons_self).a ((Mem.lv ((Mem.tailN (T := lvRes [x]) 1 hm3 rfl).sub (L' := lvRes [x]) (rf_))) x List.mem_cons_self).b (by have q_ := hfit.c20; omega) (by have q_ := hfit.r20; omega) hfit.depth) ?_
 rintro e w7 ⟨rfl, hbz⟩
 have hm8 := hm3.below hbz
 clear hbz hm3
 refine ⟨_, rfl, ?_⟩
 refine qP rfl ?_
 refine lk_ (.int .i64 (ckH x.h)) ?_
 refine plD ?_
 refine tn_ hK6 ?_
 refine wp_seq_k fun K9 hK9 => ?_
 refine plStart ?_
 refine lk_ (.int .i64 (ckH x.h)) ?_
 by_cases h10 : (ckH x.h) = 0
 ·refine litVal (v := .bool false) rfl (wn rfl) (boolTo (by rw [decide_eq_true h10]; rfl) (neqRun (A := (ckH x.h)) (B := 0) (.tmp 16) (.const (.int .i64 0)) rfl le_ le_)) rfl (by decide) ?_
  refine plD ?_
  refine tn_ hK9 ?_
  refine wp_cond_false le_ ?_
  refine wp_skip ?_
  refine tn_ hK5 ?_
  refine wp_seq_k fun K11 hK11 => ?_
  refine plStart ?_
  refine litVal (v := .agg (hcs x.h x.A x.c x.B x.d).toArray) rfl (wn rfl) (gLoadAg (vs := hcs x.h x.A x.c x.B x.d) (k := 0) 0 hm8 rfl kr_ kr_ (.tmp 7) Ty.ag_voxel_api_Header rfl le_) rfl (by decide) ?_
  refine plCall (i := 1) 13 [.agg (hcs x.h x.A x.c x.B x.d).toArray] [] [] rfl kr_ (wn rfl) rfl le_ (litArgs kr_) (encode_any x.h x.A x.c x.B x.d _ ((Mem.lv ((Mem.tailN (T := lvRes [x]) 1 hm8 rfl).sub (L' := lvRes [x]) (rf_))) x List.mem_cons_self).a ((Mem.lv ((Mem.tailN (T := lvRes [x]) 1 hm8 rfl).sub (L' := lvRes [x]) (rf_))) x List.mem_cons_self).b hfit) ?_
  rintro e w12 ⟨v14, rfl, hown_, hbz⟩
  obtain ⟨A15, c16, rfl, hrd_⟩ := Rd.of_own hown_
  clear hrd_
  have hm13 := hm8.newRow hbz hown_
  clear hown_ hbz
  clear hm8
  try simp only [lc1_, lc2_, lc3_, lc4_] at hm13
  replace hm13 := Mem.insAt (M := ((.arr g2 25 (hcs x.h x.A x.c x.B x.d)) :: lvRes [x])) 1 hm13
  simp only [List.insertIdx_succ_cons, List.insertIdx_zero] at hm13
  refine ⟨_, rfl, ?_⟩
  refine qP rfl ?_
  refine litVal (v := .string ⟨(encH x.h).toArray⟩) rfl (wn rfl) (convBsRun (.tmp 20) (encH x.h) kr_ (e := 5) kr_ kr_ (hm13.rdRow 1 rfl) rfl le_) rfl (by decide) ?_
  refine lk_ (.string ⟨(encH x.h).toArray⟩) ?_
  refine plD ?_
  refine tn_ hK11 ?_
  refine wp_seq_k fun K17 hK17 => ?_
  refine plStart ?_
  refine lk_ (.string ⟨seed.toArray⟩) ?_
  refine lk_ (.int .i64 hh) ?_
  refine lk_ (.int .i64 ii) ?_
  refine lk_ (.string ⟨(encH x.h).toArray⟩) ?_
  refine plCall (i := 4) 28 [.string ⟨seed.toArray⟩, .int .i64 hh, .int .i64 ii, .string ⟨(encH x.h).toArray⟩] [] [] rfl kr_ (wn rfl) rfl le_ (litArgs kr_) (sign_any seed hh ii (encH x.h) _ (ht.below hm13.bel ht.size) hseed (by have q_ := encH_le hfit hxl_; omega)) ?_
  rintro e w18 ⟨rfl, hbz⟩
  have hm19 := hm13.below hbz
  clear hbz hm13
  refine ⟨_, rfl, ?_⟩
  refine qP rfl ?_
  refine lk_ (.tuple #[.string ⟨((makeD seed hh ii (encH x.h)).1).toArray⟩, .int .i64 ((makeD seed hh ii (encH x.h)).2)]) ?_
  refine lk_ (.string ⟨((makeD seed hh ii (encH x.h)).1).toArray⟩) ?_
  refine lk_ (.int .i64 ((makeD seed hh ii (encH x.h)).2)) ?_
  refine lk_ (.string ⟨((makeD seed hh ii (encH x.h)).1).toArray⟩) ?_
  refine lk_ (.int .i64 ((makeD seed hh ii (encH x.h)).2)) ?_
  refine plD ?_
  refine tn_ hK17 ?_
  refine wpPrune [(8, .string ⟨([]).toArray⟩), (9, .int .i64 0), (11, .string ⟨(encH x.h).toArray⟩), (12, .string ⟨((makeD seed hh ii (encH x.h)).1).toArray⟩), (13, .int .i64 ((makeD seed hh ii (encH x.h)).2))] ⟨lg_, ⟨lg_, ⟨lg_, ⟨lg_, ⟨lg_, trivial⟩⟩⟩⟩⟩ (fun X20 => ?_)
  refine wp_seq_k fun K21 hK21 => ?_
  refine wp_seq_k fun K22 hK22 => ?_
  refine plStart ?_
  refine lk_ (.int .i64 ((makeD seed hh ii (encH x.h)).2)) ?_
  by_cases h23 : ((makeD seed hh ii (encH x.h)).2) = 0
  ·refine litVal (v := .bool false) rfl (wn rfl) (boolTo (by rw [decide_eq_true h23]; rfl) (neqRun (A := ((makeD seed hh ii (encH x.h)).2)) (B := 0) (.tmp 30) (.const (.int .i64 0)) rfl le_ le_)) rfl (by decide) ?_
   refine plD ?_
   refine tn_ hK22 ?_
   refine wp_cond_false le_ ?_
   refine wp_skip ?_
   refine tn_ hK21 ?_
   refine wp_seq_k fun K24 hK24 => ?_
   refine plStart ?_
   refine lk_ (.string ⟨(encH x.h).toArray⟩) ?_
   refine plCall (i := 1) 29 [.string ⟨(encH x.h).toArray⟩] [] [] rfl kr_ (wn rfl) rfl le_ (litArgs kr_) (bytes_any (encH x.h) _ (by have q_ := encH_le hfit hxl_; omega)) ?_
   rintro e w25 ⟨v27, rfl, hown_, hbz⟩
   obtain ⟨A28, c29, rfl, hrd_⟩ := Rd.of_own hown_
   clear hrd_
   have hm26 := hm19.newRow hbz hown_
   clear hown_ hbz
   clear hm19
   try simp only [lc1_, lc2_, lc3_, lc4_] at hm26
   replace hm26 := Mem.insAt (M := ((.arr g2 25 (hcs x.h x.A x.c x.B x.d)) :: (.row (.slice A15 ((encH x.h).length) c16) 5 1 ((encH x.h).length) (bcs (encH x.h))) :: lvRes [x])) 2 hm26
   simp only [List.insertIdx_succ_cons, List.insertIdx_zero] at hm26
   refine ⟨_, rfl, ?_⟩
   refine qP rfl ?_
   refine litVal (v := .string ⟨(encS (encH x.h)).toArray⟩) rfl (wn rfl) (convBsRun (.tmp 34) (encS (encH x.h)) kr_ (e := 5) kr_ kr_ (hm26.rdRow 2 rfl) rfl le_) rfl (by decide) ?_
   refine lk_ (.string ⟨((makeD seed hh ii (encH x.h)).1).toArray⟩) ?_
   refine litVal (v := .string ⟨((encS (encH x.h)) ++ ((makeD seed hh ii (encH x.h)).1)).toArray⟩) rfl (wn rfl) (catRun (.tmp 35) (.tmp 36) (encS (encH x.h)) ((makeD seed hh ii (encH x.h)).1) rfl le_ le_ (by have q_ := encH_le hfit hxl_; have q2_ := makeD_le seed hh ii (encH x.h); have q3_ := encS_le (encH x.h); omega)) rfl (by decide) ?_
   refine lk_ (.string ⟨((encS (encH x.h)) ++ ((makeD seed hh ii (encH x.h)).1)).toArray⟩) ?_
   refine lk_ (.int .i64 0) ?_
   refine plD ?_
   refine tn_ hK24 ?_
   refine wp_ret ?_
   refine bodyPost_ret (v := .tuple #[.string ⟨((encS (encH x.h)) ++ ((makeD seed hh ii (encH x.h)).1)).toArray⟩, .int .i64 0]) (gRes2 rfl (gResTmp (t := 8) (v := .string ⟨((encS (encH x.h)) ++ ((makeD seed hh ii (encH x.h)).1)).toArray⟩) (lg_)) (gResTmp (t := 9) (v := .int .i64 0) (lg_))) rfl ?_
   have hfin_ : sgV seed hh ii x.h = _ := sgV_ok h10 h23
   exact ⟨by rw [hfin_]; rfl, hm26.bel⟩
  refine litVal (v := .bool true) rfl (wn rfl) (boolTo (by rw [decide_eq_false h23]; rfl) (neqRun (A := ((makeD seed hh ii (encH x.h)).2)) (B := 0) (.tmp 30) (.const (.int .i64 0)) rfl le_ le_)) rfl (by decide) ?_
  refine plD ?_
  refine tn_ hK22 ?_
  refine wp_cond_true le_ ?_
  refine wp_seq_k fun K30 hK30 => ?_
  refine plStart ?_
  refine lk_ (.int .i64 ((makeD seed hh ii (encH x.h)).2)) ?_
  refine lk_ (.string ⟨([]).toArray⟩) ?_
  refine lk_ (.int .i64 ((makeD seed hh ii (encH x.h)).2)) ?_
  refine plD ?_
  refine tn_ hK30 ?_
  refine wp_ret ?_
  refine then_ret ?_
  refine bodyPost_ret (v := .tuple #[.string ⟨([]).toArray⟩, .int .i64 ((makeD seed hh ii (encH x.h)).2)]) (gRes2 rfl (gResTmp (t := 8) (v := .string ⟨([]).toArray⟩) (lg_)) (gResTmp (t := 9) (v := .int .i64 ((makeD seed hh ii (encH x.h)).2)) (lg_))) rfl ?_
  have hfin_ : sgV seed hh ii x.h = _ := sgV_e h10 h23
  exact ⟨by rw [hfin_]; rfl, hm19.bel⟩
 refine litVal (v := .bool true) rfl (wn rfl) (boolTo (by rw [decide_eq_false h10]; rfl) (neqRun (A := (ckH x.h)) (B := 0) (.tmp 16) (.const (.int .i64 0)) rfl le_ le_)) rfl (by decide) ?_
 refine plD ?_
 refine tn_ hK9 ?_
 refine wp_cond_true le_ ?_
 refine wp_seq_k fun K31 hK31 => ?_
 refine plStart ?_
 refine lk_ (.int .i64 (ckH x.h)) ?_
 refine lk_ (.string ⟨([]).toArray⟩) ?_
 refine lk_ (.int .i64 (ckH x.h)) ?_
 refine plD ?_
 refine tn_ hK31 ?_
 refine wp_ret ?_
 refine then_ret ?_
 refine bodyPost_ret (v := .tuple #[.string ⟨([]).toArray⟩, .int .i64 (ckH x.h)]) (gRes2 rfl (gResTmp (t := 8) (v := .string ⟨([]).toArray⟩) (lg_)) (gResTmp (t := 9) (v := .int .i64 (ckH x.h)) (lg_))) rfl ?_
 have hfin_ : sgV seed hh ii x.h = _ := sgV_ck h10
 exact ⟨by rw [hfin_]; rfl, hm8.bel⟩
theorem vverify_any (p : List UInt8) (hh : Int) (t : List UInt8) (w : World) (ht : Tabs w) (hp : p.length = 16) (htl : t.length ≤ 1000000) : Calls Tryz.prog 9 #[.agg (bcs p).toArray, .int .i64 hh, .string ⟨t.toArray⟩] w (fun e w' => ∃ v : Lv, v.h = (vfV p hh t).1 ∧ e = .returned (.tuple #[.agg (hcs v.h v.A v.c v.B v.d).toArray, .int .i64 (vfV p hh t).2.1, .int .i64 (vfV p hh t).2.2]) ∧ v.At w' ∧ NewA w.heap.size v.A ∧ NewA w.heap.size v.B ∧ Below w.heap.size w w') := by
 have hm0 := Mem.ofLv (l := []) (w := w) (fun _ h_ => by cases h_)
 go_enter Tryz.func9, Tryz.ntmps9
 refine litStart 51 [(0, .agg (bcs p).toArray), (1, .int .i64 hh), (2, .string ⟨t.toArray⟩)] kr_ (fun X0 => ?_)
 refine wp_seq_k fun K1 hK1 => ?_
 refine plStart ?_
 refine plBox hm0 (cs := bcs p) (i := 0) rfl (wn rfl) rfl le_ ?_
 intro g2 w4 hm3
 clear hm0
 try simp only [lc1_, lc2_, lc3_, lc4_] at hm3
 replace hm3 := Mem.insAt (M := (lvRes [])) 0 hm3
 simp only [List.insertIdx_succ_cons, List.insertIdx_zero] at hm3
 refine qP rfl ?_
 refine plAlloc (z := [.int .i64 0, .slice none 0 0, .int .i64 0, .slice none 0 0]) Ty.ag_voxel_api_Header hm3 (i := 1) rfl (wn rfl) rfl ?_
 intro g5 w7 hm6
 clear hm3
 try simp only [lc1_, lc2_, lc3_, lc4_] at hm6
 replace hm6 := Mem.insAt (M := ((.arr g2 27 (bcs p)) :: lvRes [])) 1 hm6
 simp only [List.insertIdx_succ_cons, List.insertIdx_zero] at hm6
 refine qP rfl ?_
 refine lk_ (.int .i64 0) ?_
 refine lk_ (.int .i64 0) ?_
 refine plD ?_
 refine tn_ hK1 ?_
 refine wp_seq_k fun K8 hK8 => ?_
 refine plStart ?_
 refine lk_ (.string ⟨t.toArray⟩) ?_
 refine plConvB (e := 5) t kr_ kr_ kr_ (by have q_ := (decSf t).2; unfold maxLen; omega) hm6 (i := 1) rfl (wn rfl) rfl le_ ?_
 intro g9 c10 w11 hm12
 clear hm6
 try simp only [lc1_, lc2_, lc3_, lc4_] at hm12
 replace hm12 := Mem.insAt (M := ((.arr g2 27 (bcs p)) :: (.arr g5 25 ([.int .i64 0, .slice none 0 0, .int .i64 0, .slice none 0 0])) :: lvRes [])) 2 hm12
 simp only [List.insertIdx_succ_cons, List.insertIdx_zero] at hm12
 refine qP rfl ?_
 refine plCall (i := 2) 34 [.slice (some ⟨g9, 0, none⟩) t.length c10] [] [] rfl kr_ (wn rfl) rfl le_ (litArgs kr_) (by exact getBytes_any t (some ⟨g9, 0, none⟩) _ c10 _ _ (hm12.rd 2 rfl)) ?_
 rintro e w13 ⟨rfl, rfl⟩
 refine ⟨_, rfl, ?_⟩
 refine qP rfl ?_
 refine lk_ (.tuple #[.string ⟨((decS t).1).toArray⟩, .int .i64 ((decS t).2.1), .int .i64 ((decS t).2.2)]) ?_
 refine lk_ (.string ⟨((decS t).1).toArray⟩) ?_
 refine lk_ (.int .i64 ((decS t).2.1)) ?_
 refine lk_ (.int .i64 ((decS t).2.2)) ?_
 refine lk_ (.string ⟨((decS t).1).toArray⟩) ?_
 refine lk_ (.int .i64 ((decS t).2.1)) ?_
 refine lk_ (.int .i64 ((decS t).2.2)) ?_
 refine plD ?_
 refine tn_ hK8 ?_
 refine wp_seq_k fun K15 hK15 => ?_
 refine wp_seq_k fun K16 hK16 => ?_
 refine plStart ?_
 refine lk_ (.int .i64 ((decS t).2.2)) ?_
 by_cases h17 : ((decS t).2.2) = 0
 ·refine litVal (v := .bool false) rfl (wn rfl) (boolTo (by rw [decide_eq_true h17]; rfl) (neqRun (A := ((decS t).2.2)) (B := 0) (.tmp 21) (.const (.int .i64 0)) rfl le_ le_)) rfl (by decide) ?_
  refine plD ?_
  refine tn_ hK16 ?_
  refine wp_cond_false le_ ?_
  refine wp_skip ?_
  refine tn_ hK15 ?_
  refine wp_seq_k fun K18 hK18 => ?_
  refine plStart ?_
  refine lk_ (.string ⟨((decS t).1).toArray⟩) ?_
  refine plConvB (e := 5) ((decS t).1) kr_ kr_ kr_ (by have q_ := (decSf t).2; unfold maxLen; omega) hm12 (i := 1) rfl (wn rfl) rfl le_ ?_
  intro g19 c20 w21 hm22
  clear hm12
  try simp only [lc1_, lc2_, lc3_, lc4_] at hm22
  replace hm22 := Mem.insAt (M := ((.arr g2 27 (bcs p)) :: (.arr g5 25 ([.int .i64 0, .slice none 0 0, .int .i64 0, .slice none 0 0])) :: (.rd (some ⟨g9, 0, none⟩) 1 t.length c10 (bcs t)) :: lvRes [])) 3 hm22
  simp only [List.insertIdx_succ_cons, List.insertIdx_zero] at hm22
  refine qP rfl ?_
  refine plCall (i := 2) 12 [.slice (some ⟨g19, 0, none⟩) (((decS t).1).length) c20] [] [] rfl kr_ (wn rfl) rfl le_ (litArgs kr_) (by exact LD.decode_any (decS t).1 (some ⟨g19, 0, none⟩) c20 _ (hm22.rd 3 rfl) (by have q_ := (decSf t).2; omega)) ?_
  rintro e w23 ⟨A_, c_, B_, d_, rfl, ha_, hb_, hA_, hB_, hbz⟩
  obtain ⟨v25, hv25_, rfl, rfl, rfl, rfl, hat_⟩ : ∃ v_ : Lv, v_.h = (decH (decS t).1).1 ∧ v_.A = A_ ∧ v_.c = c_ ∧ v_.B = B_ ∧ v_.d = d_ ∧ v_.At w23 := ⟨⟨0, 0, (decH (decS t).1).1, A_, c_, B_, d_⟩, rfl, rfl, rfl, rfl, rfl, ⟨ha_, hb_⟩⟩
  rw [← hv25_] at ha_ hb_ ⊢
  have hA2_ := hA_.mono hm22.bel.size
  have hB2_ := hB_.mono hm22.bel.size
  have hm24 := Mem.newLv (lx := []) (M := lvRes []) [.arr g2 27 (bcs p), .arr g5 25 ([.int .i64 0, .slice none 0 0, .int .i64 0, .slice none 0 0]), .rd (some ⟨g9, 0, none⟩) 1 t.length c10 (bcs t), .rd (some ⟨g19, 0, none⟩) 1 (((decS t).1).length) c20 (bcs ((decS t).1))] hm22 hbz hat_ (Or.inr ⟨hA_, hB_⟩) hdNone (fun _ h_ => lvRes_mut h_)
  simp only [List.cons_append, List.nil_append] at hm24
  clear hm22
  clear hat_ hA_ hB_ hbz ha_ hb_
  refine ⟨_, rfl, ?_⟩
  refine qP rfl ?_
  refine lk_ (.tuple #[.agg (hcs v25.h v25.A v25.c v25.B v25.d).toArray, .int .i64 ((decH (decS t).1).2)]) ?_
  refine lk_ (.agg (hcs v25.h v25.A v25.c v25.B v25.d).toArray) ?_
  refine lk_ (.int .i64 ((decH (decS t).1).2)) ?_
  refine plAlloc (z := [.int .i64 0, .slice none 0 0, .int .i64 0, .slice none 0 0]) Ty.ag_voxel_api_Header hm24 (i := 6) rfl (wn rfl) rfl ?_
  intro g26 w28 hm27
  clear hm24
  try simp only [lc1_, lc2_, lc3_, lc4_] at hm27
  replace hm27 := Mem.insAt (M := ((.arr g2 27 (bcs p)) :: (.arr g5 25 ([.int .i64 0, .slice none 0 0, .int .i64 0, .slice none 0 0])) :: (.rd (some ⟨g9, 0, none⟩) 1 t.length c10 (bcs t)) :: (.rd (some ⟨g19, 0, none⟩) 1 (((decS t).1).length) c20 (bcs ((decS t).1))) :: (lvRes [v25] ++ lvRes []))) 4 hm27
  simp only [List.insertIdx_succ_cons, List.insertIdx_zero] at hm27
  refine qP rfl ?_
  refine plStore 4 Ty.ag_voxel_api_Header hm27 rfl (i := 7) (cs := hcs v25.h v25.A v25.c v25.B v25.d) rfl (wn rfl) rfl le_ le_ rfl rfl kr_ ?_
  intro w30 hm29
  clear hm27
  try simp only [lc1_, lc2_, lc3_, lc4_] at hm29
  refine qNone rfl ?_
  refine lk_ (.int .i64 ((decH (decS t).1).2)) ?_
  refine plD ?_
  refine tn_ hK18 ?_
  refine wpPrune [(1, .int .i64 hh), (2, .string ⟨t.toArray⟩), (3, .pointer (some ⟨g2, 0, none⟩)), (6, .pointer (some ⟨g5, 0, none⟩)), (7, .int .i64 0), (8, .int .i64 0), (9, .string ⟨((decS t).1).toArray⟩), (10, .int .i64 ((decS t).2.1)), (11, .int .i64 ((decH (decS t).1).2)), (12, .pointer (some ⟨g26, 0, none⟩))] ⟨lg_, ⟨lg_, ⟨lg_, ⟨lg_, ⟨lg_, ⟨lg_, ⟨lg_, ⟨lg_, ⟨lg_, ⟨lg_, trivial⟩⟩⟩⟩⟩⟩⟩⟩⟩⟩ (fun X31 => ?_)
  refine wp_seq_k fun K32 hK32 => ?_
  refine wp_seq_k fun K33 hK33 => ?_
  refine plStart ?_
  refine lk_ (.int .i64 ((decH (decS t).1).2)) ?_
  by_cases h34 : ((decH (decS t).1).2) = 0
  ·refine litVal (v := .bool false) rfl (wn rfl) (boolTo (by rw [decide_eq_true h34]; rfl) (neqRun (A := ((decH (decS t).1).2)) (B := 0) (.tmp 31) (.const (.int .i64 0)) rfl le_ le_)) rfl (by decide) ?_
   refine plD ?_
   refine tn_ hK33 ?_
   refine wp_cond_false le_ ?_
   refine wp_skip ?_
   refine tn_ hK32 ?_
   refine wp_seq_k fun K35 hK35 => ?_
   refine mgStart hm29 kr_ ?_
   intro w37 hm36
   clear hm29
   refine mgTake (i := 0) (v := .agg (bcs p).toArray) rfl kr_ (wn rfl) (fun _ _ _ h => h) hm36 (fun w_ h_ => gLoadAg (vs := bcs p) (k := 0) 0 h_ rfl (by rw [List.drop_zero]; exact List.take_of_length_le (Nat.le_of_eq (by rw [bcs_length]; exact hp))) (by rw [bcs_length]; exact hp) (.tmp 3) Ty.ag_voxel_api_Digest rfl le_) ?_
   refine mP rfl ?_
   refine mk_ (i := 1) (v := .int .i64 hh) rfl rfl (fun _ _ _ h => h) hm36 rfl ?_
   refine mk_ (i := 2) (v := .string ⟨((decS t).1).toArray⟩) rfl rfl (fun _ _ _ h => h) hm36 rfl ?_
   refine mk_ (i := 3) (v := .string ⟨t.toArray⟩) rfl rfl (fun _ _ _ h => h) hm36 rfl ?_
   refine mk_ (i := 4) (v := .int .i64 ((decS t).2.1)) rfl rfl (fun _ _ _ h => h) hm36 rfl ?_
   refine mgTake (i := 5) (v := .string ⟨(t.drop ((decS t).2.1.toNat)).toArray⟩) rfl kr_ (wn rfl) (fun _ _ _ h => h) hm36 (fun w_ h_ => slStrLRun (kl := .i64) (L := ((decS t).2.1)) (.tmp 39) (.tmp 40) t ((decS t).2.1.toNat) rfl le_ le_ (by have q_ := (decSf t).1 h17; omega) (by have q_ := (decSf t).1 h17; omega) kr_) ?_
   refine mP rfl ?_
   refine mgCall (i := 6) 35 [.agg (bcs p).toArray, .int .i64 hh, .string ⟨((decS t).1).toArray⟩, .string ⟨(t.drop ((decS t).2.1.toNat)).toArray⟩] [] [] kr_ rfl kr_ (wn rfl) rfl le_ (litArgs kr_) (verify_any p hh (decS t).1 (t.drop (decS t).2.1.toNat) _ (ht.below hm36.bel ht.size) hp (by have q_ := (decSf t).2; omega) (by rw [List.length_drop]; omega)) ?_
   rintro e w38 ⟨rfl, hbz⟩
   have hm39 := hm36.below hbz
   clear hbz hm36
   refine ⟨_, rfl, hm39, ?_⟩
   refine mP rfl ?_
   refine mk_ (i := 7) (v := .tuple #[.int .i64 ((verifyD p hh (decS t).1 (t.drop (decS t).2.1.toNat)).1), .int .i64 ((verifyD p hh (decS t).1 (t.drop (decS t).2.1.toNat)).2)]) rfl rfl (fun _ _ _ h => h) hm39 rfl ?_
   refine mk_ (i := 8) (v := .int .i64 ((verifyD p hh (decS t).1 (t.drop (decS t).2.1.toNat)).1)) rfl rfl (fun _ _ _ h => h) hm39 rfl ?_
   refine mk_ (i := 9) (v := .int .i64 ((verifyD p hh (decS t).1 (t.drop (decS t).2.1.toNat)).2)) rfl rfl (fun _ _ _ h => h) hm39 rfl ?_
   refine mk_ (i := 10) (v := .int .i64 ((verifyD p hh (decS t).1 (t.drop (decS t).2.1.toNat)).1)) rfl rfl (fun _ _ _ h => h) hm39 rfl ?_
   refine mk_ (i := 11) (v := .int .i64 ((verifyD p hh (decS t).1 (t.drop (decS t).2.1.toNat)).2)) rfl rfl (fun _ _ _ h => h) hm39 rfl ?_
   refine mgDone kr_ ?_
   refine tn_ hK35 ?_
   refine wpPrune [(6, .pointer (some ⟨g5, 0, none⟩)), (7, .int .i64 0), (8, .int .i64 0), (11, .int .i64 ((verifyD p hh (decS t).1 (t.drop (decS t).2.1.toNat)).2)), (12, .pointer (some ⟨g26, 0, none⟩)), (13, .int .i64 ((verifyD p hh (decS t).1 (t.drop (decS t).2.1.toNat)).1))] ⟨lg_, ⟨lg_, ⟨lg_, ⟨lg_, ⟨lg_, ⟨lg_, trivial⟩⟩⟩⟩⟩⟩ (fun X40 => ?_)
   refine wp_seq_k fun K41 hK41 => ?_
   refine wp_seq_k fun K42 hK42 => ?_
   refine plStart ?_
   refine lk_ (.int .i64 ((verifyD p hh (decS t).1 (t.drop (decS t).2.1.toNat)).2)) ?_
   by_cases h43 : ((verifyD p hh (decS t).1 (t.drop (decS t).2.1.toNat)).2) = 0
   ·refine litVal (v := .bool false) rfl (wn rfl) (boolTo (by rw [decide_eq_true h43]; rfl) (neqRun (A := ((verifyD p hh (decS t).1 (t.drop (decS t).2.1.toNat)).2)) (B := 0) (.tmp 45) (.const (.int .i64 0)) rfl le_ le_)) rfl (by decide) ?_
    refine plD ?_
    refine tn_ hK42 ?_
    refine wp_cond_false le_ ?_
    refine wp_skip ?_
    refine tn_ hK41 ?_
    refine wp_seq_k fun K44 hK44 => ?_
    refine plStart ?_
    refine litVal (v := .agg (hcs v25.h v25.A v25.c v25.B v25.d).toArray) rfl (wn rfl) (gLoadAg (vs := hcs v25.h v25.A v25.c v25.B v25.d) (k := 0) 4 hm39 rfl kr_ kr_ (.tmp 12) Ty.ag_voxel_api_Header rfl le_) rfl (by decide) ?_
    refine lk_ (.int .i64 ((verifyD p hh (decS t).1 (t.drop (decS t).2.1.toNat)).1)) ?_
    refine plStore 1 Ty.ag_voxel_api_Header hm39 rfl (i := 2) (cs := hcs v25.h v25.A v25.c v25.B v25.d) rfl (wn rfl) rfl le_ le_ rfl rfl kr_ ?_
    intro w46 hm45
    clear hm39
    try simp only [lc1_, lc2_, lc3_, lc4_] at hm45
    refine qNone rfl ?_
    refine lk_ (.int .i64 ((verifyD p hh (decS t).1 (t.drop (decS t).2.1.toNat)).1)) ?_
    refine lk_ (.int .i64 0) ?_
    refine plD ?_
    refine tn_ hK44 ?_
    refine wp_ret ?_
    refine bodyPost_ret (v := .tuple #[.agg (hcs v25.h v25.A v25.c v25.B v25.d).toArray, .int .i64 ((verifyD p hh (decS t).1 (t.drop (decS t).2.1.toNat)).1), .int .i64 0]) (gRes3 rfl (gResAg (cs := hcs v25.h v25.A v25.c v25.B v25.d) 1 hm45 rfl Ty.ag_voxel_api_Header rfl (lg_)) (gResTmp (t := 7) (v := .int .i64 ((verifyD p hh (decS t).1 (t.drop (decS t).2.1.toNat)).1)) (lg_)) (gResTmp (t := 8) (v := .int .i64 0) (lg_))) rfl ?_
    have hfin_ : vfV p hh t = _ := vfV_ok h17 h34 h43
    exact ⟨v25, by rw [hfin_, hv25_], by first | (rw [hfin_]; done) | (rw [hfin_]; rfl), (Mem.lv ((Mem.tailN (T := (lvRes [v25] ++ lvRes [])) 5 hm45 rfl).sub (L' := lvRes [v25]) (lf_))) v25 List.mem_cons_self, hA2_, hB2_, hm45.bel⟩
   refine litVal (v := .bool true) rfl (wn rfl) (boolTo (by rw [decide_eq_false h43]; rfl) (neqRun (A := ((verifyD p hh (decS t).1 (t.drop (decS t).2.1.toNat)).2)) (B := 0) (.tmp 45) (.const (.int .i64 0)) rfl le_ le_)) rfl (by decide) ?_
   refine plD ?_
   refine tn_ hK42 ?_
   refine wp_cond_true le_ ?_
   refine wp_seq_k fun K47 hK47 => ?_
   refine plStart ?_
   refine lk_ (.agg ([.int .i64 0, .slice none 0 0, .int .i64 0, .slice none 0 0]).toArray) ?_
   refine lk_ (.int .i64 ((verifyD p hh (decS t).1 (t.drop (decS t).2.1.toNat)).2)) ?_
   refine plStore 1 Ty.ag_voxel_api_Header hm39 rfl (i := 2) (cs := [.int .i64 0, .slice none 0 0, .int .i64 0, .slice none 0 0]) rfl (wn rfl) rfl le_ le_ rfl rfl kr_ ?_
   intro w49 hm48
   clear hm39
   try simp only [lc1_, lc2_, lc3_, lc4_] at hm48
   refine qNone rfl ?_
   refine lk_ (.int .i64 0) ?_
   refine lk_ (.int .i64 ((verifyD p hh (decS t).1 (t.drop (decS t).2.1.toNat)).2)) ?_
   refine plD ?_
   refine tn_ hK47 ?_
   refine wp_ret ?_
   refine then_ret ?_
   refine bodyPost_ret (v := .tuple #[.agg ([.int .i64 0, .slice none 0 0, .int .i64 0, .slice none 0 0]).toArray, .int .i64 0, .int .i64 ((verifyD p hh (decS t).1 (t.drop (decS t).2.1.toNat)).2)]) (gRes3 rfl (gResAg (cs := [.int .i64 0, .slice none 0 0, .int .i64 0, .slice none 0 0]) 1 hm48 rfl Ty.ag_voxel_api_Header rfl (lg_)) (gResTmp (t := 7) (v := .int .i64 0) (lg_)) (gResTmp (t := 8) (v := .int .i64 ((verifyD p hh (decS t).1 (t.drop (decS t).2.1.toNat)).2)) (lg_))) rfl ?_
   have hfin_ : vfV p hh t = _ := vfV_c h17 h34 h43
   exact ⟨⟨0, 0, hd0, none, 0, none, 0⟩, by rw [hfin_], by first | (rw [hfin_]; done) | (rw [hfin_]; rfl), ⟨Rd.nil _ _ 1, Rd.nil _ _ 16⟩, NewA.none _, NewA.none _, hm48.bel⟩
  refine litVal (v := .bool true) rfl (wn rfl) (boolTo (by rw [decide_eq_false h34]; rfl) (neqRun (A := ((decH (decS t).1).2)) (B := 0) (.tmp 31) (.const (.int .i64 0)) rfl le_ le_)) rfl (by decide) ?_
  refine plD ?_
  refine tn_ hK33 ?_
  refine wp_cond_true le_ ?_
  refine wp_seq_k fun K50 hK50 => ?_
  refine plStart ?_
  refine lk_ (.agg ([.int .i64 0, .slice none 0 0, .int .i64 0, .slice none 0 0]).toArray) ?_
  refine lk_ (.int .i64 ((decH (decS t).1).2)) ?_
  refine plStore 1 Ty.ag_voxel_api_Header hm29 rfl (i := 2) (cs := [.int .i64 0, .slice none 0 0, .int .i64 0, .slice none 0 0]) rfl (wn rfl) rfl le_ le_ rfl rfl kr_ ?_
  intro w52 hm51
  clear hm29
  try simp only [lc1_, lc2_, lc3_, lc4_] at hm51
  refine qNone rfl ?_
  refine lk_ (.int .i64 0) ?_
  refine lk_ (.int .i64 ((decH (decS t).1).2)) ?_
  refine plD ?_
  refine tn_ hK50 ?_
  refine wp_ret ?_
  refine then_ret ?_
  refine bodyPost_ret (v := .tuple #[.agg ([.int .i64 0, .slice none 0 0, .int .i64 0, .slice none 0 0]).toArray, .int .i64 0, .int .i64 ((decH (decS t).1).2)]) (gRes3 rfl (gResAg (cs := [.int .i64 0, .slice none 0 0, .int .i64 0, .slice none 0 0]) 1 hm51 rfl Ty.ag_voxel_api_Header rfl (lg_)) (gResTmp (t := 7) (v := .int .i64 0) (lg_)) (gResTmp (t := 8) (v := .int .i64 ((decH (decS t).1).2)) (lg_))) rfl ?_
  have hfin_ : vfV p hh t = _ := vfV_b h17 h34
  exact ⟨⟨0, 0, hd0, none, 0, none, 0⟩, by rw [hfin_], by first | (rw [hfin_]; done) | (rw [hfin_]; rfl), ⟨Rd.nil _ _ 1, Rd.nil _ _ 16⟩, NewA.none _, NewA.none _, hm51.bel⟩
 refine litVal (v := .bool true) rfl (wn rfl) (boolTo (by rw [decide_eq_false h17]; rfl) (neqRun (A := ((decS t).2.2)) (B := 0) (.tmp 21) (.const (.int .i64 0)) rfl le_ le_)) rfl (by decide) ?_
 refine plD ?_
 refine tn_ hK16 ?_
 refine wp_cond_true le_ ?_
 refine wp_seq_k fun K53 hK53 => ?_
 refine plStart ?_
 refine lk_ (.agg ([.int .i64 0, .slice none 0 0, .int .i64 0, .slice none 0 0]).toArray) ?_
 refine lk_ (.int .i64 ((decS t).2.2)) ?_
 refine plStore 1 Ty.ag_voxel_api_Header hm12 rfl (i := 2) (cs := [.int .i64 0, .slice none 0 0, .int .i64 0, .slice none 0 0]) rfl (wn rfl) rfl le_ le_ rfl rfl kr_ ?_
 intro w55 hm54
 clear hm12
 try simp only [lc1_, lc2_, lc3_, lc4_] at hm54
 refine qNone rfl ?_
 refine lk_ (.int .i64 0) ?_
 refine lk_ (.int .i64 ((decS t).2.2)) ?_
 refine plD ?_
 refine tn_ hK53 ?_
 refine wpPrune [(1, .int .i64 hh), (2, .string ⟨t.toArray⟩), (3, .pointer (some ⟨g2, 0, none⟩)), (6, .pointer (some ⟨g5, 0, none⟩)), (7, .int .i64 0), (8, .int .i64 ((decS t).2.2)), (9, .string ⟨((decS t).1).toArray⟩), (10, .int .i64 ((decS t).2.1)), (11, .int .i64 ((decS t).2.2))] ⟨lg_, ⟨lg_, ⟨lg_, ⟨lg_, ⟨lg_, ⟨lg_, ⟨lg_, ⟨lg_, ⟨lg_, trivial⟩⟩⟩⟩⟩⟩⟩⟩⟩ (fun X56 => ?_)
 refine wp_ret ?_
 refine then_ret ?_
 refine bodyPost_ret (v := .tuple #[.agg ([.int .i64 0, .slice none 0 0, .int .i64 0, .slice none 0 0]).toArray, .int .i64 0, .int .i64 ((decS t).2.2)]) (gRes3 rfl (gResAg (cs := [.int .i64 0, .slice none 0 0, .int .i64 0, .slice none 0 0]) 1 hm54 rfl Ty.ag_voxel_api_Header rfl (lg_)) (gResTmp (t := 7) (v := .int .i64 0) (lg_)) (gResTmp (t := 8) (v := .int .i64 ((decS t).2.2)) (lg_))) rfl ?_
 have hfin_ : vfV p hh t = _ := vfV_a h17
 exact ⟨⟨0, 0, hd0, none, 0, none, 0⟩, by rw [hfin_], by first | (rw [hfin_]; done) | (rw [hfin_]; rfl), ⟨Rd.nil _ _ 1, Rd.nil _ _ 16⟩, NewA.none _, NewA.none _, hm54.bel⟩
end Go.Proofs.YtgjgjimgomhbmaaGreatDoor
namespace Go.Proofs.YtgjgjimgomhbmaaGreatDoor
theorem drop_cast {a b : List UInt8} : (a ++ b).drop ((a.length : Int)).toNat = b := by
 rw [Int.toNat_natCast]; exact List.drop_left
theorem decH_enc {h : Hd} (hf : h.Fit) (hD : h.D.length = h.rn * 16) : decH (encH h) = if ckH h ≠ 0 then (hd0, ckH h) else (h, 0) := by
 have h1 : decI (encH h) = ([h.tick, h.depth], ((encI [h.tick, h.depth]).length : Int), 0) := by
  unfold encH; rw [List.append_assoc]; exact decI_enc _ _ (by simp) hf.two
 have h3 : decI ((encH h).drop ((encI [h.tick, h.depth]).length : Int).toNat) = (h.counts, ((encI h.counts).length : Int), 0) := by
  unfold encH; rw [List.append_assoc, drop_cast]; exact decI_enc _ _ (by have := hf.c20; omega) hf.counts
 have h5 : decD (((encH h).drop ((encI [h.tick, h.depth]).length : Int).toNat).drop ((encI h.counts).length : Int).toNat) = (h.D, ((encD h.rn h.D).length : Int), 0) := by
  unfold encH; rw [List.append_assoc, drop_cast, drop_cast]
  have q := decD_enc h.rn h.D [] (by have := hf.r20; omega) hD
  rwa [List.append_nil] at q
 have e := decH_end (x := h.tick) (y := h.depth) h1 rfl h3 h5 (by unfold encH; rw [List.length_append, List.length_append]; omega) rfl rfl
 have hn : h.D.length / 16 = h.rn := by omega
 rw [hn] at e
 exact e
theorem rt2 {h : Hd} (hf : h.Fit) (hD : h.D.length = h.rn * 16) : (decH (encH h)).2 = ckH h := by
 rw [decH_enc hf hD]
 split
 ·rfl
 ·rename_i q; exact (Decidable.not_not.1 q).symm
theorem rt1 {h : Hd} (hf : h.Fit) (hD : h.D.length = h.rn * 16) (hc : ckH h = 0) : (decH (encH h)).1 = h := by
 rw [decH_enc hf hD, if_neg (fun q => q hc)]
theorem publicD_len (seed : List UInt8) : (publicD seed 1).1.length = 16 := by
 have hcd : countD 1 = 2 := by decide
 unfold publicD
 rw [if_neg (by rw [hcd]; decide)]
 exact valueD_len _ _ _
theorem decH_canon {l : List UInt8} (h : (decH l).2 = 0) : ckH (decH l).1 = 0 ∧ encH (decH l).1 = l := by
 obtain ⟨a, ua, ea, h1⟩ : ∃ a ua ea, decI l = (a, ua, ea) := ⟨_, _, _, rfl⟩
 by_cases he : ea = 0
 ·subst he
  by_cases h2 : (a.length : Int) = 2
  ·obtain ⟨b, ub, eb, h3⟩ : ∃ b ub eb, decI (l.drop ua.toNat) = (b, ub, eb) := ⟨_, _, _, rfl⟩
   by_cases he : eb = 0
   ·subst he
    obtain ⟨D, uc, ec, h5⟩ : ∃ D uc ec, decD ((l.drop ua.toNat).drop ub.toNat) = (D, uc, ec) := ⟨_, _, _, rfl⟩
    by_cases he : ec = 0
    ·subst he
     by_cases h6 : ua + ub + uc = (l.length : Int)
     ·obtain ⟨x, y, rfl⟩ : ∃ x y, a = [x, y] := by
       rcases a with _ | ⟨x, _ | ⟨y, _ | ⟨z, r⟩⟩⟩
       ·simp at h2
       ·simp at h2
       ·exact ⟨x, y, rfl⟩
       ·simp at h2; omega
      have e := decH_end h1 h2 h3 h5 h6 rfl rfl
      by_cases hc : ckH ⟨x, b, y, D.length / 16, D⟩ = 0
      ·rw [if_neg (fun q => q hc)] at e
       rw [e]
       obtain ⟨c1, u1, u2⟩ := decI_canon h1
       obtain ⟨c2, u3, u4⟩ := decI_canon h3
       obtain ⟨c3, m3, u5, u6⟩ := decD_canon h5
       refine ⟨hc, ?_⟩
       show encI [x, y] ++ encI b ++ encD (D.length / 16) D = l
       rw [List.length_drop] at u4
       have hlast : ((l.drop ua.toNat).drop ub.toNat).take uc.toNat = (l.drop ua.toNat).drop ub.toNat := List.take_of_length_le (by rw [List.length_drop, List.length_drop]; omega)
       rw [← c1, ← c2, ← c3, hlast, List.append_assoc, List.take_append_drop, List.take_append_drop]
      ·rw [if_pos hc] at e; rw [e] at h; exact absurd h hc
     ·rw [decH_len h1 h2 h3 h5 h6] at h; exact absurd h (by decide)
    ·rw [decH_c h1 h2 h3 h5 he] at h; exact absurd h he
   ·rw [decH_b h1 h2 h3 he] at h; exact absurd h he
  ·rw [decH_two h1 h2] at h; exact absurd h (by decide)
 ·rw [decH_a h1 he] at h; exact absurd h he
theorem good_fit {h : Hd} (g : h.Good) : h.Fit := by
 obtain ⟨hs1, hs2⟩ := good_le g
 refine ⟨hs1, hs2, ?_, ?_, fun x hx => ?_⟩ <;> unfold isI64
 ·have := g.2.1; omega
 ·have := g.2.2; omega
 ·have := g.1 x hx; unfold okN at this; omega
theorem canon_fit {l : List UInt8} (h : (decH l).2 = 0) : (decH l).1.Fit := good_fit (ckH_good.1 (decH_canon h).1)
theorem sg_two {seed : List UInt8} {i : Int} {h : Hd} (hc : ckH h = 0) (hf : h.Fit) (hD : h.D.length = h.rn * 16) (hi : i = 0 ∨ i = 1) : (sgV seed 1 i h).2 = 0 ∧ vfV (publicD seed 1).1 1 (sgV seed 1 i h).1 = (h, i, 0) := by
 obtain ⟨j, hj, rfl⟩ : ∃ j : Nat, j < 2 ∧ i = (j : Int) := by
  rcases hi with rfl | rfl
  ·exact ⟨0, by decide, rfl⟩
  ·exact ⟨1, by decide, rfl⟩
 have hcd : countD 1 = 2 := by decide
 have hm : makeD seed 1 (j : Int) (encH h) = (signD seed 1 j (encH h), 0) := by
  unfold makeD
  rw [if_neg (by rw [hcd]; decide), if_neg (by rw [hcd]; omega)]; rfl
 have hp : publicD seed 1 = (valueD seed 1 0, 0) := by
  unfold publicD
  rw [if_neg (by rw [hcd]; decide)]; rfl
 have hok := sgV_ok (seed := seed) (hh := 1) (ii := (j : Int)) hc (by rw [hm])
 rw [hm] at hok
 replace hok : sgV seed 1 (j : Int) h = (encS (encH h) ++ signD seed 1 j (encH h), 0) := hok
 have hle := encH_le hf hD
 have hds : decS (encS (encH h) ++ signD seed 1 j (encH h)) = (encH h, ((encS (encH h)).length : Int), 0) := decS_enc _ _ (by omega)
 have hde : decH (encH h) = (h, 0) := by rw [decH_enc hf hD, if_neg (fun q => q hc)]
 have hv : verifyD (valueD seed 1 0) 1 (encH h) (signD seed 1 j (encH h)) = ((j : Int), 0) := verify_sign seed (h := 1) (i := j) (encH h) (by decide) (by omega)
 have hv2 : verifyD (valueD seed 1 0) 1 (decS (encS (encH h) ++ signD seed 1 j (encH h))).1 ((encS (encH h) ++ signD seed 1 j (encH h)).drop (decS (encS (encH h) ++ signD seed 1 j (encH h))).2.1.toNat) = ((j : Int), 0) := by
  rw [hds]
  show verifyD (valueD seed 1 0) 1 (encH h) ((encS (encH h) ++ signD seed 1 j (encH h)).drop ((encS (encH h)).length : Int).toNat) = _
  rw [drop_cast]
  exact hv
 have hd2 : decH (decS (encS (encH h) ++ signD seed 1 j (encH h))).1 = (h, 0) := by rw [hds]; exact hde
 refine ⟨by rw [hok], ?_⟩
 rw [hok, hp]
 show vfV (valueD seed 1 0) 1 (encS (encH h) ++ signD seed 1 j (encH h)) = (h, (j : Int), 0)
 rw [vfV_ok (by rw [hds]) (by rw [hd2]) (by rw [hv2]), hd2, hv2]
theorem sgV_le {seed : List UInt8} {i : Int} {h : Hd} (hf : h.Fit) (hD : h.D.length = h.rn * 16) : (sgV seed 1 i h).1.length ≤ 3000 := by
 have h1 := encH_le hf hD
 have h2 := makeD_le seed 1 i (encH h)
 have h3 := encS_le (encH h)
 unfold sgV
 split
 ·simp
 ·split
  ·simp
  ·show (encS (encH h) ++ (makeD seed 1 i (encH h)).1).length ≤ 3000
   rw [List.length_append]; omega
end Go.Proofs.YtgjgjimgomhbmaaGreatDoor
