/-
 MH: several texts in one. No statement is proved here.
-/
import Derived.Test.YtbpihalphhoiaaaGreatDoorMZ
import Derived.Test.YtbpihalphhoiaaaGreatDoorMF
import Derived.Test.YtbpihalphhoiaaaGreatDoorMG
import Derived.Test.YtbpihalphhoiaaaGreatDoorME
import Derived.Test.YtbpihalphhoiaaaGreatDoorMB
import Derived.Laws.CopyOwn
set_option maxRecDepth 100000
set_option maxHeartbeats 4000000
set_option linter.unusedVariables false
set_option linter.unusedSimpArgs false
namespace Go.Proofs.YtbpihalphhoiaaaGreatDoor
open Go.RowKit
open Go.Maps (Keyed)
def halfsF (n : Nat) (d : List Qd) (f i : Nat) : List Hf := halfsU n d f ++ halfsI (halfsU n d f).length f (loopD n d f) i
def spansF (n : Nat) (d : List Qd) (f i : Nat) : List Bx := spansU n d f ++ spansI (loopD n d f) i
theorem halfsF_zero (n : Nat) (d : List Qd) (f : Nat) : halfsF n d f 0 = halfsU n d f := by unfold halfsF halfsI; simp
theorem spansF_zero (n : Nat) (d : List Qd) (f : Nat) : spansF n d f 0 = spansU n d f := by unfold spansF spansI; simp
theorem halfsF_at {n : Nat} {d : List Qd} {f i : Nat} {p : Pt} (h : (loopD n d f)[i]? = some p) : halfsF n d f (i + 1) = halfsF n d f i ++ [⟨p, ((halfsU n d f).length : Int) + (((i + 1) % (loopD n d f).length : Nat) : Int), 0, (f : Int)⟩] := by
 unfold halfsF
 rw [halfsI_succ, List.append_assoc]
 unfold halfAt
 rw [List.getD_eq_getElem?_getD, h]
 rfl
theorem spansF_at {n : Nat} {d : List Qd} {f i : Nat} {p q : Pt} (h : (loopD n d f)[i]? = some p) (h2 : (loopD n d f)[(i + 1) % (loopD n d f).length]? = some q) : spansF n d f (i + 1) = spansF n d f i ++ [⟨p, q⟩] := by
 unfold spansF
 rw [spansI_succ, List.append_assoc]
 unfold spanAt
 rw [List.getD_eq_getElem?_getD, List.getD_eq_getElem?_getD, h, h2]
 rfl
theorem halfsF_len (n : Nat) (d : List Qd) (f i : Nat) : (halfsF n d f i).length = (halfsU n d f).length + i := by unfold halfsF; rw [List.length_append, halfsI_len]
theorem spansF_len (n : Nat) (d : List Qd) (f i : Nat) : (spansF n d f i).length = (halfsU n d f).length + i := by unfold spansF; rw [List.length_append, spansI_len, (halfsU_len n d f).2]
theorem remNat (i L : Nat) : ((i : Int) + 1) % (L : Int) = (((i + 1) % L : Nat) : Int) := by rw [Int.natCast_emod]; rfl
theorem gLookE {P : Program} {w w0 : World} {o : Oper} {a : Act} {L : List Res} {g n : Nat} {F : Value → Option Value} {s : Bx} {v : Value} {k e t : TypeId} {m x : Operand} (j : Nat) (hm : Mem w0 w L) (hj : L[j]? = some (mapW P k e g n F)) (K : Keyed P k) (ht : P.underlying t = some (.map k e)) (hz : ∀ w : World, (zeroValue e).run P w = .ok (.slice none 0 0) w) (hk : (keyOf P k (spV s)).isSome = true) (hv : (F (spV s)).getD nilS = v)
 (ho : o.op = .lookup t m x false) (hmv : a.eval m = .map (some g)) (hx : a.eval x = spV s) : (execOp a.eval o).run P w = .ok (.value v) w := by
 have h := gLookW j false hm hj K ht hz hk ho hmv hx
 rw [← hv]
 show _ = Result.ok (Next.value ((F (spV s)).getD (.slice none 0 0))) w
 simpa using h
theorem build_any (cs : List Sl3) (hn : cs.length = 1 ∨ cs.length = 8) (T : List Mat) (A1 : Option Addr) (cap : Nat) (A2 : Option Addr) (c2 : Nat) (A3 : Option Addr) (c3 : Nat) (w : World) (hrd : Rd w w.heap.size 4 A1 cs.length cap (tlsC (planL cs.length))) (hcs : CellsIn w A2 c2 cs) (htb : Rd w w.heap.size 8 A3 T.length c3 (mts T)) (hsd : SidesIn w) : Calls Tryz.prog 9 #[.slice A1 cs.length cap, .slice A2 cs.length c2, .slice A3 T.length c3] w (fun e w' => ∃ (d : List Qd) (H : List Hf) (qA hA : Option Addr) (qc hc : Nat), e = .returned (.agg [.slice qA d.length qc, .slice hA H.length hc].toArray) ∧ d.Perm (quadsU (solF (lsOf cs) T cs.length) cs.length) ∧ SortedQ d ∧ TwOk (halfsU cs.length d d.length) H (spansU cs.length d d.length) (halfsU cs.length d d.length).length ∧ Rd w' w'.heap.size 6 qA d.length qc (qdsC d) ∧ Rd w' w'.heap.size 6 hA H.length hc (hfsC H) ∧ w'.ownsRow w.heap.size 45 6 (.slice qA d.length qc) d.length (qdsC d) ∧ Below w.heap.size w w') := by
 have hm0 := Mem.nil w
 go_enter Tryz.func9, Tryz.ntmps9
 refine litStart 142 [(0, .slice A1 cs.length cap), (1, .slice A2 cs.length c2), (2, .slice A3 T.length c3)] kr_ (fun X0 => ?_)
 refine sp_ fun _ hK1 => ?_
 refine plAlloc (z := [.slice none 0 0, .slice none 0 0]) Ty.ag_voxel_api_Mesh hm0 (i := 0) rfl (wn rfl) rfl ?_
 intro g2 w4 hm3
 clear hm0
 try simp only [lc_] at hm3
 refine qP rfl ?_
 refine pt_ hK1 ?_
 refine sp_ fun _ hK5 => ?_
 refine lk_ (.slice A1 cs.length cap) ?_
 refine lk_ (.slice A2 cs.length c2) ?_
 refine lk_ (.slice A3 T.length c3) ?_
 refine plCall (i := 3) 17 [.slice A1 cs.length cap, .slice A2 cs.length c2, .slice A3 T.length c3] [] [] rfl kr_ (wn rfl) rfl le_ (litArgs kr_) (quads_any cs hn T A1 cap A2 c2 A3 c3 _ ((Rd.below hrd hm3.bel).more hm3.bel.size) (hcs.below hm3.bel) ((Rd.below htb hm3.bel).more hm3.bel.size) (hsd.below hm3.bel)) ?_
 rintro e w6 ⟨v_, d, rfl, hperm, hsrt, hown_, hbz⟩
 obtain ⟨qA, qc, rfl, hrd_⟩ := Rd.of_own hown_
 clear hrd_
 replace hown_ : World.ownsRow w6 _ 45 6 _ d.length (qdsC d) := hown_
 have hm7 := hm3.newRow hbz hown_
 clear hown_ hbz hm3
 try simp only [lc_] at hm7
 have hqo_ : ∀ q ∈ d, q.Ok := fun q h_ => quadsU_ok hn (hperm.mem_iff.1 h_)
 have hdl_ : d.length ≤ 3072 := by rw [hperm.length_eq]; exact quadsU_len hn
 refine ⟨_, rfl, ?_⟩
 refine qP rfl ?_
 refine lk_ (.agg ([.slice qA d.length qc, .slice none 0 0]).toArray) ?_
 refine plAlloc (z := [.slice none 0 0, .slice none 0 0]) Ty.ag_voxel_api_Mesh hm7 (i := 5) rfl (wn rfl) rfl ?_
 intro g8 w10 hm9
 clear hm7
 try simp only [lc_] at hm9
 refine qP rfl ?_
 refine plStore 2 Ty.ag_voxel_api_Mesh hm9 rfl (i := 6) (cs := [.slice qA d.length qc, .slice none 0 0]) rfl (wn rfl) rfl le_ le_ rfl rfl kr_ ?_
 intro w12 hm11
 clear hm9
 try simp only [lc_] at hm11
 refine qNone rfl ?_
 refine pt_ hK5 ?_
 refine sp_ fun _ hK13 => ?_
 refine plMakeMapW (i := 0) 92 26 hm11 rfl (wn rfl) rfl ?_
 intro g14 w15 hm16
 clear hm11
 try simp only [lc_] at hm16
 refine qP rfl ?_
 refine lk_ (.map (some g14)) ?_
 refine pt_ hK13 ?_
 refine sk_ fun _ hK17 => ?_
 refine sp_ fun _ hK18 => ?_
 have hm19 := Mem.nilFront hm16 94 6
 clear hm16
 refine lp_ g8 0 ?_
 refine lv_ rfl (.slice qA d.length qc) (ld_ 0 3 hm19) ?_
 refine lv_ rfl (.int .i64 (d.length : Int)) (ln_ qA d.length qc Ty.und_L_api_Quad) ?_
 refine li_ 0 ?_
 refine pt_ hK18 ?_
 refine wp_block ?_
 refine gwLoop (fun n_ a_ w_ => ∃ (f : Nat) (Aa : Option Addr) (ca : Nat) (Ea : List Ent) (Fa : Value → Option Value), n_ = d.length - f ∧ (f ≤ d.length) ∧ (FOK Fa Ea (spansU cs.length d f)) ∧ Fr a_ 142 [(0, .slice A1 cs.length cap), (6, .pointer (some ⟨g2, 0, none⟩)), (7, .pointer (some ⟨g8, 0, none⟩)), (8, .map (some g14)), (28, .slice qA d.length qc), (29, .int .i64 (d.length : Int)), (30, .int .i64 (f : Int))] ∧ Mem w w_ ((.row (.slice Aa ((halfsU cs.length d f).length) ca) 94 6 ((halfsU cs.length d f).length) (hfsC (halfsU cs.length d f))) :: (.arr g2 41 ([.slice none 0 0, .slice none 0 0])) :: (.row (.slice qA d.length qc) 45 6 d.length (qdsC d)) :: (.arr g8 41 ([.slice qA d.length qc, .slice Aa ((halfsU cs.length d f).length) ca])) :: (mapW Tryz.prog 92 26 g14 ((halfsU cs.length d f).length) Fa) :: (Ea.map rowE))) (d.length - 0) ⟨0, none, 0, [], (fun _ => none), rfl, (Nat.zero_le _), FOK.start, ⟨litSize, rfl, fo_⟩, hm19⟩ ?_
 clear hm19
 intro n_ a22 w20 hI_
 obtain ⟨f, Aa, ca, Ea, Fa, rfl, hf, hF, hF_, hm21⟩ := hI_
 obtain ⟨X23, rfl⟩ := frLit hF_
 clear hF_
 refine sp_ fun _ hK24 => ?_
 by_cases h25 : (f : Int) < (d.length : Int)
 ·have hf2_ : f < d.length := by omega
  obtain ⟨q, hq⟩ : ∃ q, d[f]? = some q := ⟨_, List.getElem?_eq_getElem hf2_⟩
  have hqo := hqo_ q (List.mem_of_getElem? hq)
  have hld_ : (loopD cs.length d f) = loopP cs.length q := by unfold loopD; rw [List.getD_eq_getElem?_getD, hq]; rfl
  have hl4_ : (loopD cs.length d f).length ≤ 4 := by rw [hld_]; exact loopP_len cs.length q
  have hul_ := (halfsU_len cs.length d f).1
  obtain ⟨b26, rfl⟩ := hm21.rowBlk (A := qA) (n := d.length) (c := qc) 2 rfl (by omega)
  refine lv_ rfl _ (lsT_ h25) ?_
  refine pt_ hK24 ?_
  refine sk_ fun _ hK27 => ?_
  refine wp_cond_true le_ ?_
  refine wp_skip ?_
  refine tn_ hK27 ?_
  refine sk_ fun _ hK28 => ?_
  refine wp_block ?_
  refine sp_ fun _ hK29 => ?_
  refine li_ f ?_
  refine lv_ rfl (.pointer (some ⟨b26, 0 + f * 6, none⟩)) (ia_ qc f Ty.sl_L_api_Quad rfl hf2_) ?_
  refine lv_ rfl (.agg (qdc q).toArray) (lar_ (m := f * 6) (hm21.rdRow 2 rfl) (qdsC_get hq) (by omega) Ty.ag_voxel_api_Quad) ?_
  refine plAlloc (z := [.int .i64 0, .int .i64 0, .int .i64 0, .int .i64 0, .bool false, .int .i64 0]) Ty.ag_voxel_api_Quad hm21 (i := 3) rfl (wn rfl) rfl ?_
  intro g30 w32 hm31
  clear hm21
  try simp only [lc_] at hm31
  replace hm31 := hm31.i5
  refine qP rfl ?_
  refine li_ f ?_
  refine plStore 5 Ty.ag_voxel_api_Quad hm31 rfl (i := 5) (cs := qdc q) rfl (wn rfl) rfl le_ le_ rfl rfl kr_ ?_
  intro w34 hm33
  clear hm31
  try simp only [lc_] at hm33
  refine qNone rfl ?_
  refine pt_ hK29 ?_
  refine sp_ fun _ hK35 => ?_
  refine lk_ (.slice A1 cs.length cap) ?_
  refine lv_ rfl (.agg (qdc q).toArray) (la_ 0 5 hm33 Ty.ag_voxel_api_Quad) ?_
  refine plCall (i := 2) 37 [.slice A1 cs.length cap, .agg (qdc q).toArray] [] [] rfl kr_ (wn rfl) rfl le_ (litArgs kr_) (LD.loop_any cs.length hn q hqo A1 cap _ ((Rd.below hrd hm33.bel).more hm33.bel.size)) ?_
  rintro e w36 ⟨v_, rfl, hown_, hbz⟩
  rw [← hld_] at hown_
  obtain ⟨lA, lc, rfl, hrd_⟩ := Rd.of_own hown_
  clear hrd_
  replace hown_ : World.ownsRow w36 _ 23 3 _ (loopD cs.length d f).length (ptsC (loopD cs.length d f)) := hown_
  have hm37 := hm33.newRow hbz hown_
  clear hown_ hbz hm33
  try simp only [lc_] at hm37
  replace hm37 := hm37.i6
  refine ⟨_, rfl, ?_⟩
  refine qP rfl ?_
  refine lk_ (.slice lA ((loopD cs.length d f).length) lc) ?_
  refine pt_ hK35 ?_
  refine sp_ fun _ hK38 => ?_
  refine lp_ g8 1 ?_
  refine lv_ rfl (.slice Aa ((halfsU cs.length d f).length) ca) (ld_ 1 3 hm37) ?_
  refine lv_ rfl (.int .i64 ((halfsU cs.length d f).length : Int)) (ln_ Aa ((halfsU cs.length d f).length) ca Ty.und_L_api_Half) ?_
  refine li_ ((halfsU cs.length d f).length : Int) ?_
  refine pt_ hK38 ?_
  refine sp_ fun _ hK39 => ?_
  refine lk_ (.slice lA ((loopD cs.length d f).length) lc) ?_
  refine lv_ rfl (.int .i64 ((loopD cs.length d f).length : Int)) (ln_ lA ((loopD cs.length d f).length) lc Ty.und_L_api_Point) ?_
  refine li_ 0 ?_
  refine pt_ hK39 ?_
  refine wp_block ?_
  rw [← halfsF_zero cs.length d f] at hm37
  rw [← spansF_zero cs.length d f] at hF
  refine gwLoop (fun n_ a_ w_ => ∃ (i : Nat) (A : Option Addr) (c : Nat) (E : List Ent) (F : Value → Option Value), n_ = (loopD cs.length d f).length - i ∧ (i ≤ (loopD cs.length d f).length) ∧ (FOK F E (spansF cs.length d f i)) ∧ Fr a_ 142 [(0, .slice A1 cs.length cap), (6, .pointer (some ⟨g2, 0, none⟩)), (7, .pointer (some ⟨g8, 0, none⟩)), (8, .map (some g14)), (9, .int .i64 (f : Int)), (10, .pointer (some ⟨g30, 0, none⟩)), (11, .slice lA ((loopD cs.length d f).length) lc), (12, .int .i64 ((halfsU cs.length d f).length : Int)), (28, .slice (some ⟨b26, 0, none⟩) d.length qc), (29, .int .i64 (d.length : Int)), (30, .int .i64 (f : Int)), (31, .bool true), (32, .int .i64 (f : Int)), (33, .pointer (some ⟨b26, 0 + f * 6, none⟩)), (34, .agg (qdc q).toArray), (35, .slice A1 cs.length cap), (36, .agg (qdc q).toArray), (37, .slice lA ((loopD cs.length d f).length) lc), (38, .pointer (some ⟨g8, 1, none⟩)), (39, .slice Aa ((halfsU cs.length d f).length) ca), (40, .int .i64 ((halfsU cs.length d f).length : Int)), (41, .slice lA ((loopD cs.length d f).length) lc), (42, .int .i64 ((loopD cs.length d f).length : Int)), (43, .int .i64 (i : Int))] ∧ Mem w w_ ((.row (.slice A ((halfsF cs.length d f i).length) c) 94 6 ((halfsF cs.length d f i).length) (hfsC (halfsF cs.length d f i))) :: (.arr g2 41 ([.slice none 0 0, .slice none 0 0])) :: (.row (.slice (some ⟨b26, 0, none⟩) d.length qc) 45 6 d.length (qdsC d)) :: (.arr g8 41 ([.slice (some ⟨b26, 0, none⟩) d.length qc, .slice A ((halfsF cs.length d f i).length) c])) :: (mapW Tryz.prog 92 26 g14 ((halfsF cs.length d f i).length) F) :: (.row (.slice lA ((loopD cs.length d f).length) lc) 23 3 ((loopD cs.length d f).length) (ptsC (loopD cs.length d f))) :: (E.map rowE))) ((loopD cs.length d f).length - 0) ⟨0, Aa, ca, Ea, Fa, rfl, (Nat.zero_le _), hF, ⟨litSize, rfl, fo_⟩, (hm37.sub (.cons_cons _ (.cons_cons _ (.cons_cons _ (.cons_cons _ (.cons_cons _ (.cons _ (.cons_cons _ (List.Sublist.refl _)))))))))⟩ ?_
  clear hm37
  intro n_ a42 w40 hI_
  obtain ⟨i, A, c, E, F, rfl, hi, hF, hF_, hm41⟩ := hI_
  obtain ⟨X43, rfl⟩ := frLit hF_
  clear hF_
  refine sp_ fun _ hK44 => ?_
  by_cases h45 : (i : Int) < ((loopD cs.length d f).length : Int)
  ·have hi2_ : i < (loopD cs.length d f).length := by omega
   have hk_ : (i + 1) % (loopD cs.length d f).length < (loopD cs.length d f).length := Nat.mod_lt _ (by omega)
   obtain ⟨p, hp⟩ : ∃ p, (loopD cs.length d f)[i]? = some p := ⟨_, List.getElem?_eq_getElem hi2_⟩
   obtain ⟨p2, hp2⟩ : ∃ p, (loopD cs.length d f)[(i + 1) % (loopD cs.length d f).length]? = some p := ⟨_, List.getElem?_eq_getElem hk_⟩
   have hfl_ := halfsF_len cs.length d f i
   have hpw_ := loopP_w hqo (hld_ ▸ List.mem_of_getElem? hp)
   have hpw2_ := loopP_w hqo (hld_ ▸ List.mem_of_getElem? hp2)
   have hsw_ : Bx.w ⟨p, p2⟩ := by unfold Bx.w Pt.w at *; simp only at *; omega
   obtain ⟨b46, rfl⟩ := hm41.rowBlk (A := lA) (n := (loopD cs.length d f).length) (c := lc) 5 rfl (by omega)
   refine lv_ rfl _ (lsT_ h45) ?_
   refine pt_ hK44 ?_
   refine sk_ fun _ hK47 => ?_
   refine wp_cond_true le_ ?_
   refine wp_skip ?_
   refine tn_ hK47 ?_
   refine sk_ fun _ hK48 => ?_
   refine wp_block ?_
   refine sp_ fun _ hK49 => ?_
   refine li_ i ?_
   refine lv_ rfl (.pointer (some ⟨b46, 0 + i * 3, none⟩)) (ia_ lc i Ty.sl_L_api_Point rfl hi2_) ?_
   refine lv_ rfl (.agg (pcs p).toArray) (lar_ (m := i * 3) (hm41.rdRow 5 rfl) (ptsC_get hp) (by omega) Ty.ag_voxel_api_Point) ?_
   refine plAlloc (z := [.int .i64 0, .int .i64 0, .int .i64 0]) Ty.ag_voxel_api_Point hm41 (i := 3) rfl (wn rfl) rfl ?_
   intro g50 w52 hm51
   clear hm41
   try simp only [lc_] at hm51
   replace hm51 := hm51.i6
   refine qP rfl ?_
   refine li_ i ?_
   refine plStore 6 Ty.ag_voxel_api_Point hm51 rfl (i := 5) (cs := pcs p) rfl (wn rfl) rfl le_ le_ rfl rfl kr_ ?_
   intro w54 hm53
   clear hm51
   try simp only [lc_] at hm53
   refine qNone rfl ?_
   refine pt_ hK49 ?_
   refine sp_ fun _ hK55 => ?_
   refine li_ i ?_
   refine lv_ rfl _ (ad_ (i : Int) 1) ?_
   refine lk_ (.slice (some ⟨b46, 0, none⟩) ((loopD cs.length d f).length) lc) ?_
   refine lv_ rfl (.int .i64 ((loopD cs.length d f).length : Int)) (ln_ (some ⟨b46, 0, none⟩) ((loopD cs.length d f).length) lc Ty.und_L_api_Point) ?_
   refine lv_ rfl (.int .i64 (((i + 1) % (loopD cs.length d f).length : Nat) : Int)) (gRem (A := (i : Int) + 1) (B := ((loopD cs.length d f).length : Int)) (C := (((i + 1) % (loopD cs.length d f).length : Nat) : Int)) (.tmp 49) (.tmp 51) rfl le_ le_ (remNat i _) (by omega) (by omega)) ?_
   refine li_ (((i + 1) % (loopD cs.length d f).length : Nat) : Int) ?_
   refine pt_ hK55 ?_
   refine sk_ fun _ hK56 => ?_
   obtain ⟨⟨ek, eA, ec, ids⟩, E0, hek_, hF0_, hv_, hid_, hne_, hm59⟩ := hF.out (L := [.row (.slice A ((halfsF cs.length d f i).length) c) 94 6 ((halfsF cs.length d f i).length) (hfsC (halfsF cs.length d f i)), .arr g2 41 ([.slice none 0 0, .slice none 0 0]), .row (.slice (some ⟨b26, 0, none⟩) d.length qc) 45 6 d.length (qdsC d), .arr g8 41 ([.slice (some ⟨b26, 0, none⟩) d.length qc, .slice A ((halfsF cs.length d f i).length) c]), mapW Tryz.prog 92 26 g14 ((halfsF cs.length d f i).length) F, .row (.slice (some ⟨b46, 0, none⟩) ((loopD cs.length d f).length) lc) 23 3 ((loopD cs.length d f).length) (ptsC (loopD cs.length d f)), .arr g50 23 (pcs p)]) hm53 ⟨p, p2⟩
   clear hm53
   replace hid_ : ids = idsS (spansF cs.length d f i) ⟨p, p2⟩ := hid_
   have hm60 : Mem w w54 ((.row (.slice eA ids.length ec) 3 1 ids.length (ics ids)) :: (.row (.slice A ((halfsF cs.length d f i).length) c) 94 6 ((halfsF cs.length d f i).length) (hfsC (halfsF cs.length d f i))) :: (.arr g2 41 ([.slice none 0 0, .slice none 0 0])) :: (.row (.slice (some ⟨b26, 0, none⟩) d.length qc) 45 6 d.length (qdsC d)) :: (.arr g8 41 ([.slice (some ⟨b26, 0, none⟩) d.length qc, .slice A ((halfsF cs.length d f i).length) c])) :: (mapW Tryz.prog 92 26 g14 ((halfsF cs.length d f i).length) F) :: (.row (.slice (some ⟨b46, 0, none⟩) ((loopD cs.length d f).length) lc) 23 3 ((loopD cs.length d f).length) (ptsC (loopD cs.length d f))) :: (.arr g50 23 (pcs p)) :: (E0.map rowE)) := hm59
   clear hm59
   have hil_ := idsS_len (spansF cs.length d f i) ⟨p, p2⟩
   rw [← hid_, spansF_len] at hil_
   refine glStart 20 ((.row (.slice A ((halfsF cs.length d f i).length) c) 94 6 ((halfsF cs.length d f i).length) (hfsC (halfsF cs.length d f i))) :: (.arr g2 41 ([.slice none 0 0, .slice none 0 0])) :: (.row (.slice (some ⟨b26, 0, none⟩) d.length qc) 45 6 d.length (qdsC d)) :: (.arr g8 41 ([.slice (some ⟨b26, 0, none⟩) d.length qc, .slice A ((halfsF cs.length d f i).length) c])) :: (mapW Tryz.prog 92 26 g14 ((halfsF cs.length d f i).length) F) :: (.row (.slice (some ⟨b46, 0, none⟩) ((loopD cs.length d f).length) lc) 23 3 ((loopD cs.length d f).length) (ptsC (loopD cs.length d f))) :: (.arr g50 23 (pcs p)) :: (E0.map rowE)) hm60 kr_ ?_
   intro w58 hm57
   clear hm60
   have hk61 := (hm57.sub (.cons _ (.cons_cons _ (.cons_cons _ (.cons_cons _ (.cons_cons _ (.cons_cons _ (.cons_cons _ (.cons_cons _ (List.Sublist.refl _))))))))))
   refine glk (i := 0) (v := .map (some g14)) rfl rfl (fun _ _ _ h => h) hk61 rfl ?_
   refine glTake (i := 1) (v := .agg (pcs p).toArray) rfl kr_ (wn rfl) (fun _ _ _ h => h) hk61 (fun w_ h_ => gLoadAg (vs := pcs p) (k := 0) 6 h_ rfl kr_ kr_ (.tmp 14) Ty.ag_voxel_api_Point rfl le_) ?_
   refine glP rfl ?_
   refine glk (i := 2) (v := .slice (some ⟨b46, 0, none⟩) ((loopD cs.length d f).length) lc) rfl rfl (fun _ _ _ h => h) hk61 rfl ?_
   refine glk (i := 3) (v := .int .i64 (((i + 1) % (loopD cs.length d f).length : Nat) : Int)) rfl rfl (fun _ _ _ h => h) hk61 rfl ?_
   refine glTake (i := 4) (v := .pointer (some ⟨b46, 0 + ((i + 1) % (loopD cs.length d f).length) * 3, none⟩)) rfl kr_ (wn rfl) (fun _ _ _ h => h) hk61 (fun w_ h_ => gIaSl (b := b46) (off := 0) (n := (loopD cs.length d f).length) (c := lc) (kk := .i64) (K := (((i + 1) % (loopD cs.length d f).length : Nat) : Int)) (.tmp 55) (.tmp 56) ((i + 1) % (loopD cs.length d f).length) Ty.sl_L_api_Point rfl le_ le_ (rfl) (hk_)) ?_
   refine glP rfl ?_
   refine glTake (i := 5) (v := .agg (pcs p2).toArray) rfl kr_ (wn rfl) (fun _ _ _ h => h) hk61 (fun w_ h_ => gLoadAgRd (vs := pcs p2) (m := ((i + 1) % (loopD cs.length d f).length) * 3) (h_.rdRow 5 rfl) rfl (ptsC_get hp2) kr_ (by omega) (.tmp 57) Ty.ag_voxel_api_Point rfl le_) ?_
   refine glP rfl ?_
   refine glk (i := 6) (v := .agg (bxs ⟨p, p2⟩).toArray) rfl rfl (fun _ _ _ h => h) hk61 rfl ?_
   refine glk (i := 7) (v := .map (some g14)) rfl rfl (fun _ _ _ h => h) hk61 rfl ?_
   refine glTake (i := 8) (v := .agg (pcs p).toArray) rfl kr_ (wn rfl) (fun _ _ _ h => h) hk61 (fun w_ h_ => gLoadAg (vs := pcs p) (k := 0) 6 h_ rfl kr_ kr_ (.tmp 14) Ty.ag_voxel_api_Point rfl le_) ?_
   refine glP rfl ?_
   refine glk (i := 9) (v := .slice (some ⟨b46, 0, none⟩) ((loopD cs.length d f).length) lc) rfl rfl (fun _ _ _ h => h) hk61 rfl ?_
   refine glk (i := 10) (v := .int .i64 (((i + 1) % (loopD cs.length d f).length : Nat) : Int)) rfl rfl (fun _ _ _ h => h) hk61 rfl ?_
   refine glTake (i := 11) (v := .pointer (some ⟨b46, 0 + ((i + 1) % (loopD cs.length d f).length) * 3, none⟩)) rfl kr_ (wn rfl) (fun _ _ _ h => h) hk61 (fun w_ h_ => gIaSl (b := b46) (off := 0) (n := (loopD cs.length d f).length) (c := lc) (kk := .i64) (K := (((i + 1) % (loopD cs.length d f).length : Nat) : Int)) (.tmp 62) (.tmp 63) ((i + 1) % (loopD cs.length d f).length) Ty.sl_L_api_Point rfl le_ le_ (rfl) (hk_)) ?_
   refine glP rfl ?_
   refine glTake (i := 12) (v := .agg (pcs p2).toArray) rfl kr_ (wn rfl) (fun _ _ _ h => h) hk61 (fun w_ h_ => gLoadAgRd (vs := pcs p2) (m := ((i + 1) % (loopD cs.length d f).length) * 3) (h_.rdRow 5 rfl) rfl (ptsC_get hp2) kr_ (by omega) (.tmp 64) Ty.ag_voxel_api_Point rfl le_) ?_
   refine glP rfl ?_
   refine glk (i := 13) (v := .agg (bxs ⟨p, p2⟩).toArray) rfl rfl (fun _ _ _ h => h) hk61 rfl ?_
   refine glTake (i := 14) (v := .slice eA ids.length ec) rfl kr_ (wn rfl) (fun _ _ _ h => h) hk61 (fun w_ h_ => gLookE 4 h_ rfl Tryz.law_sp Tryz.map_sp Tryz.zero_ints (Tryz.key_sp hsw_) hv_ rfl le_ le_) ?_
   refine glP rfl ?_
   refine glk (i := 15) (v := .pointer (some ⟨g8, 1, none⟩)) rfl rfl (fun _ _ _ h => h) hk61 rfl ?_
   refine glTake (i := 16) (v := .slice A ((halfsF cs.length d f i).length) c) rfl kr_ (wn rfl) (fun _ _ _ h => h) hk61 (fun w_ h_ => gLoad (v := .slice A ((halfsF cs.length d f i).length) c) (k := 1) 3 h_ rfl kr_ (.tmp 68) kr_ rfl le_) ?_
   refine glP rfl ?_
   refine glTake (i := 17) (v := .int .i64 ((halfsF cs.length d f i).length : Int)) rfl kr_ (wn rfl) (fun _ _ _ h => h) hk61 (fun w_ h_ => lenSlRun (A := A) (n := (halfsF cs.length d f i).length) (c := c) (.tmp 69) Ty.und_L_api_Half rfl le_) ?_
   refine glP rfl ?_
   refine glLit (cs := [.int .i64 ((halfsF cs.length d f i).length : Int)]) (n := 1) Ty.sl_L_int hm57 (fun w_ h_ => (h_.sub (.cons _ (.cons_cons _ (.cons_cons _ (.cons_cons _ (.cons_cons _ (.cons_cons _ (.cons_cons _ (.cons_cons _ (List.Sublist.refl _))))))))))) (i := 18) kr_ rfl (wn rfl) rfl (by decide) (by decide) (by rw [lit_eval]; kernel_rfl) ?_
   intro g62 w63 hm64
   clear hm57
   try simp only [lc_] at hm64
   replace hm64 := hm64.i8
   refine glP rfl ?_
   refine glApp1 (v := .slice eA ids.length ec) (n := ids.length) (xs := ics ids) (ys := [.int .i64 ((halfsF cs.length d f i).length : Int)]) 0 8 Ty.sl_L_int hm64 (fun v_ w_ h_ => (h_.sub (.cons _ (.cons_cons _ (.cons_cons _ (.cons_cons _ (.cons_cons _ (.cons_cons _ (.cons_cons _ (.cons_cons _ (.cons _ (List.Sublist.refl _)))))))))))) rfl rfl (i := 19) kr_ rfl (wn rfl) rfl le_ le_ kr_ kr_ (by omega) (by omega) ?_
   intro v67 w65 hm66
   clear hm64
   try simp only [lc_] at hm66
   replace hm66 := Mem.rowEq (v := v67) (e := 3) (size := 1) (n := ids.length + 1) (n' := (ids ++ [((halfsF cs.length d f i).length : Int)]).length) (xs := ics ids ++ [.int .i64 ((halfsF cs.length d f i).length : Int)]) (xs' := ics (ids ++ [((halfsF cs.length d f i).length : Int)])) 0 hm66 rfl (by simp) (by simp [ics])
   try simp only [lc_] at hm66
   obtain ⟨A68, c69, rfl⟩ := Mem.rowSl (v := v67) (e := 3) (size := 1) (n := (ids ++ [((halfsF cs.length d f i).length : Int)]).length) (xs := ics (ids ++ [((halfsF cs.length d f i).length : Int)])) 0 hm66 rfl
   refine glP rfl ?_
   refine glMapUpW (val := .slice A68 ((ids ++ [((halfsF cs.length d f i).length : Int)]).length) c69) (key := spV ⟨p, p2⟩) (n := (halfsF cs.length d f i).length) (F := F) 5 hm66 rfl Tryz.law_sp Tryz.map_sp (Nat.lt_of_le_of_lt (show _ ≤ 20000 by omega) (by decide)) (Tryz.key_sp hsw_) kr_ (i := 20) rfl kr_ (wn rfl) rfl le_ le_ le_ ?_
   intro w70 hm71
   clear hm66
   try simp only [lc_] at hm71
   refine glNone rfl ?_
   refine glDone kr_ ?_
   refine tn_ hK56 ?_
   refine plStart ?_
   have hm72 : Mem w w70 ((.row (.slice A68 ((ids ++ [((halfsF cs.length d f i).length : Int)]).length) c69) 3 1 ((ids ++ [((halfsF cs.length d f i).length : Int)]).length) (ics (ids ++ [((halfsF cs.length d f i).length : Int)]))) :: (.row (.slice A ((halfsF cs.length d f i).length) c) 94 6 ((halfsF cs.length d f i).length) (hfsC (halfsF cs.length d f i))) :: (.arr g2 41 ([.slice none 0 0, .slice none 0 0])) :: (.row (.slice (some ⟨b26, 0, none⟩) d.length qc) 45 6 d.length (qdsC d)) :: (.arr g8 41 ([.slice (some ⟨b26, 0, none⟩) d.length qc, .slice A ((halfsF cs.length d f i).length) c])) :: (mapW Tryz.prog 92 26 g14 ((halfsF cs.length d f i).length + 1) (updF F (spV ⟨p, p2⟩) (.slice A68 ((ids ++ [((halfsF cs.length d f i).length : Int)]).length) c69))) :: (.row (.slice (some ⟨b46, 0, none⟩) ((loopD cs.length d f).length) lc) 23 3 ((loopD cs.length d f).length) (ptsC (loopD cs.length d f))) :: (.arr g50 23 (pcs p)) :: (E0.map rowE)) := (hm71.sub (.cons_cons _ (.cons_cons _ (.cons_cons _ (.cons_cons _ (.cons_cons _ (.cons_cons _ (.cons_cons _ (.cons_cons _ (.cons _ (List.Sublist.refl _)))))))))))
   clear hm71
   have hm73 := Mem.rowBack (L := [.row (.slice A ((halfsF cs.length d f i).length) c) 94 6 ((halfsF cs.length d f i).length) (hfsC (halfsF cs.length d f i)), .arr g2 41 ([.slice none 0 0, .slice none 0 0]), .row (.slice (some ⟨b26, 0, none⟩) d.length qc) 45 6 d.length (qdsC d), .arr g8 41 ([.slice (some ⟨b26, 0, none⟩) d.length qc, .slice A ((halfsF cs.length d f i).length) c]), mapW Tryz.prog 92 26 g14 ((halfsF cs.length d f i).length + 1) (updF F (spV ⟨p, p2⟩) (.slice A68 ((ids ++ [((halfsF cs.length d f i).length : Int)]).length) c69)), .row (.slice (some ⟨b46, 0, none⟩) ((loopD cs.length d f).length) lc) 23 3 ((loopD cs.length d f).length) (ptsC (loopD cs.length d f)), .arr g50 23 (pcs p)]) (e := (⟨⟨p, p2⟩, A68, c69, ids ++ [((halfsF cs.length d f i).length : Int)]⟩ : Ent)) (E := E0) hm72
   clear hm72
   obtain ⟨E, F, hF, hm74⟩ : ∃ (E : List Ent) (F : Value → Option Value), FOK F E (spansF cs.length d f (i + 1)) ∧ Mem w w70 ((.row (.slice A ((halfsF cs.length d f i).length) c) 94 6 ((halfsF cs.length d f i).length) (hfsC (halfsF cs.length d f i))) :: (.arr g2 41 ([.slice none 0 0, .slice none 0 0])) :: (.row (.slice (some ⟨b26, 0, none⟩) d.length qc) 45 6 d.length (qdsC d)) :: (.arr g8 41 ([.slice (some ⟨b26, 0, none⟩) d.length qc, .slice A ((halfsF cs.length d f i).length) c])) :: (mapW Tryz.prog 92 26 g14 ((halfsF cs.length d f (i + 1)).length) F) :: (.row (.slice (some ⟨b46, 0, none⟩) ((loopD cs.length d f).length) lc) 23 3 ((loopD cs.length d f).length) (ptsC (loopD cs.length d f))) :: (.arr g50 23 (pcs p)) :: (E.map rowE)) := ⟨_, _, (spansF_at hp hp2).symm ▸ FOK.up (e' := (⟨⟨p, p2⟩, A68, c69, ids ++ [((halfsF cs.length d f i).length : Int)]⟩ : Ent)) hF0_ hek_ hne_ rfl (by show ids ++ [_] = ids ++ [_]; rw [spansF_len, hfl_]), (show (halfsF cs.length d f (i + 1)).length = (halfsF cs.length d f i).length + 1 by rw [halfsF_len, halfsF_len]; omega) ▸ hm73⟩
   clear hm73 hF0_
   refine lp_ g8 1 ?_
   refine lv_ rfl (.slice A ((halfsF cs.length d f i).length) c) (ld_ 1 3 hm74) ?_
   refine lv_ rfl (.agg (pcs p).toArray) (la_ 0 6 hm74 Ty.ag_voxel_api_Point) ?_
   refine li_ ((halfsU cs.length d f).length : Int) ?_
   refine li_ (((i + 1) % (loopD cs.length d f).length : Nat) : Int) ?_
   refine lv_ rfl _ (ad_ ((halfsU cs.length d f).length : Int) (((i + 1) % (loopD cs.length d f).length : Nat) : Int)) ?_
   refine li_ f ?_
   refine lk_ (.agg (bxs ⟨p, ⟨((halfsU cs.length d f).length : Int) + (((i + 1) % (loopD cs.length d f).length : Nat) : Int), 0, (f : Int)⟩⟩).toArray) ?_
   refine plLit (cs := [.int .i64 p.x, .int .i64 p.y, .int .i64 p.z, .int .i64 (((halfsU cs.length d f).length : Int) + (((i + 1) % (loopD cs.length d f).length : Nat) : Int)), .int .i64 0, .int .i64 (f : Int)]) (n := 1) Ty.sl_L_api_Half hm74 (i := 8) rfl (wn rfl) rfl (by decide) (by decide) (by rw [lit_eval]; kernel_rfl) ?_
   intro g75 w77 hm76
   clear hm74
   try simp only [lc_] at hm76
   replace hm76 := hm76.i7
   refine qP rfl ?_
   refine plApp1 (v := .slice A ((halfsF cs.length d f i).length) c) (n := (halfsF cs.length d f i).length) (xs := hfsC (halfsF cs.length d f i)) (ys := [.int .i64 p.x, .int .i64 p.y, .int .i64 p.z, .int .i64 (((halfsU cs.length d f).length : Int) + (((i + 1) % (loopD cs.length d f).length : Nat) : Int)), .int .i64 0, .int .i64 (f : Int)]) 0 7 Ty.sl_L_api_Half hm76 rfl rfl (i := 9) rfl (wn rfl) rfl le_ le_ kr_ kr_ (by omega) (by omega) ?_
   intro v82 w79 hm78
   clear hm76
   try simp only [lc_] at hm78
   replace hm78 := Mem.rowEq (v := v82) (e := 94) (size := 6) (n := ((halfsF cs.length d f i).length) + 1) (n' := (halfsF cs.length d f (i + 1)).length) (xs := (hfsC (halfsF cs.length d f i)) ++ ([.int .i64 p.x, .int .i64 p.y, .int .i64 p.z, .int .i64 (((halfsU cs.length d f).length : Int) + (((i + 1) % (loopD cs.length d f).length : Nat) : Int)), .int .i64 0, .int .i64 (f : Int)])) (xs' := hfsC (halfsF cs.length d f (i + 1))) 0 hm78 rfl (by rw [halfsF_at hp]; simp) (by rw [halfsF_at hp, hfsC_app]; rfl)
   try simp only [lc_] at hm78
   obtain ⟨A80, c81, rfl⟩ := Mem.rowSl (v := v82) (e := 94) (size := 6) (n := (halfsF cs.length d f (i + 1)).length) (xs := hfsC (halfsF cs.length d f (i + 1))) 0 hm78 rfl
   refine qP rfl ?_
   refine lp_ g8 1 ?_
   refine plStore1 (v := .slice A80 ((halfsF cs.length d f (i + 1)).length) c81) (k := 1) 3 kr_ hm78 rfl (i := 11) rfl (wn rfl) rfl le_ le_ rfl rfl rfl ?_
   intro w84 hm83
   clear hm78
   try simp only [lc_] at hm83
   refine qNone rfl ?_
   refine plD ?_
   refine inBlock_normal ?_
   refine tn_ hK48 ?_
   refine plStart ?_
   refine lv_ rfl _ (ad_ (i : Int) 1) ?_
   refine li_ ((i : Int) + 1) ?_
   refine plD ?_
   refine then_normal ?_
   exact ⟨_, by omega, (i + 1), A80, c81, _, _, rfl, (by omega), hF, ⟨litSize, rfl, fo_⟩, (hm83.sub (.cons_cons _ (.cons_cons _ (.cons_cons _ (.cons_cons _ (.cons_cons _ (.cons_cons _ (.cons _ (.cons _ (List.Sublist.refl _))))))))))⟩
  have hie_ : i = (loopD cs.length d f).length := by omega
  refine lv_ rfl _ (lsF_ h45) ?_
  refine pt_ hK44 ?_
  refine sk_ fun _ hK85 => ?_
  refine wp_cond_false le_ ?_
  refine wp_exit ?_
  refine then_exit ?_
  refine then_exit ?_
  refine inBlock_exit ?_
  refine inBlock_normal ?_
  refine tn_ hK28 ?_
  refine plStart ?_
  refine lv_ rfl _ (ad_ (f : Int) 1) ?_
  refine li_ ((f : Int) + 1) ?_
  refine plD ?_
  refine then_normal ?_
  subst hie_
  exact ⟨_, by omega, (f + 1), A, c, _, _, rfl, (by omega), hF, ⟨litSize, rfl, fo_⟩, (hm41.sub (.cons_cons _ (.cons_cons _ (.cons_cons _ (.cons_cons _ (.cons_cons _ (.cons _ (List.Sublist.refl _))))))))⟩
 have hfe_ : f = d.length := by omega
 have hul_ := (halfsU_len cs.length d f).1
 have hHok := halfsU_ok (n := cs.length) hqo_ f (by omega)
 refine lv_ rfl _ (lsF_ h25) ?_
 refine pt_ hK24 ?_
 refine sk_ fun _ hK86 => ?_
 refine wp_cond_false le_ ?_
 refine wp_exit ?_
 refine then_exit ?_
 refine then_exit ?_
 refine inBlock_exit ?_
 refine tn_ hK17 ?_
 refine sk_ fun _ hK87 => ?_
 refine sp_ fun _ hK88 => ?_
 refine lp_ g8 1 ?_
 refine lv_ rfl (.slice Aa ((halfsU cs.length d f).length) ca) (ld_ 1 3 hm21) ?_
 refine lv_ rfl (.int .i64 ((halfsU cs.length d f).length : Int)) (ln_ Aa ((halfsU cs.length d f).length) ca Ty.und_L_api_Half) ?_
 refine li_ 0 ?_
 refine pt_ hK88 ?_
 refine wp_block ?_
 refine gwLoop (fun n_ a_ w_ => ∃ (h : Nat) (H : List Hf) (E : List Ent), n_ = (halfsU cs.length d f).length - h ∧ (h ≤ (halfsU cs.length d f).length) ∧ (TwOk (halfsU cs.length d f) H (spansU cs.length d f) h) ∧ (FOK Fa E (spansU cs.length d f)) ∧ Fr a_ 142 [(6, .pointer (some ⟨g2, 0, none⟩)), (7, .pointer (some ⟨g8, 0, none⟩)), (8, .map (some g14)), (88, .int .i64 ((halfsU cs.length d f).length : Int)), (89, .int .i64 (h : Int))] ∧ Mem w w_ ((.row (.slice Aa H.length ca) 94 6 H.length (hfsC H)) :: (.arr g2 41 ([.slice none 0 0, .slice none 0 0])) :: (.row (.slice qA d.length qc) 45 6 d.length (qdsC d)) :: (.arr g8 41 ([.slice qA d.length qc, .slice Aa H.length ca])) :: (mapW Tryz.prog 92 26 g14 ((halfsU cs.length d f).length) Fa) :: (E.map rowE))) ((halfsU cs.length d f).length - 0) ⟨0, (halfsU cs.length d f), Ea, rfl, (Nat.zero_le _), (TwOk.start _ _), hF, ⟨litSize, rfl, fo_⟩, (hm21.sub (.cons_cons _ (.cons_cons _ (.cons_cons _ (.cons_cons _ (.cons_cons _ (List.Sublist.refl _)))))))⟩ ?_
 clear hm21
 intro n_ a91 w89 hI_
 obtain ⟨h, H, E, rfl, hh, hT, hF, hF_, hm90⟩ := hI_
 obtain ⟨X92, rfl⟩ := frLit hF_
 clear hF_
 refine sp_ fun _ hK93 => ?_
 by_cases h94 : (h : Int) < ((halfsU cs.length d f).length : Int)
 ·have hh2_ : h < H.length := by rw [hT.1]; omega
  obtain ⟨x, hx⟩ : ∃ x, H[h]? = some x := ⟨_, List.getElem?_eq_getElem hh2_⟩
  obtain ⟨k, f2, y, hnx, hy, hfc, hf2_, hS_, hxw_, hyw_⟩ := hT.at hHok hx
  have hf3_ : f2 < d.length := by omega
  obtain ⟨q, hq⟩ : ∃ q, d[f2]? = some q := ⟨_, List.getElem?_eq_getElem hf3_⟩
  have hqo := hqo_ q (List.mem_of_getElem? hq)
  have hHl_ := hT.1
  have hk3_ := (List.getElem?_eq_some_iff.1 hy).1
  have hsw_ : Bx.w ⟨x.p, y.p⟩ := by unfold Bx.w Pt.w at *; simp only at *; omega
  have hsw2_ : Bx.w ⟨y.p, x.p⟩ := ⟨hsw_.2, hsw_.1⟩
  obtain ⟨b95, rfl⟩ := hm90.rowBlk (A := qA) (n := d.length) (c := qc) 2 rfl (by omega)
  obtain ⟨b96, rfl⟩ := hm90.rowBlk (A := Aa) (n := H.length) (c := ca) 0 rfl (by omega)
  refine lv_ rfl _ (lsT_ h94) ?_
  refine pt_ hK93 ?_
  refine sk_ fun _ hK97 => ?_
  refine wp_cond_true le_ ?_
  refine wp_skip ?_
  refine tn_ hK97 ?_
  refine sk_ fun _ hK98 => ?_
  refine wp_block ?_
  refine sp_ fun _ hK99 => ?_
  refine li_ h ?_
  refine li_ h ?_
  refine pt_ hK99 ?_
  refine sk_ fun _ hK100 => ?_
  refine aoStart (aoV [fun _ => .pointer (some ⟨g8, 1, none⟩), fun _ => .slice (some ⟨b96, 0, none⟩) H.length ca, fun _ => .int .i64 (h : Int), fun _ => .pointer (some ⟨b96, 0 + h * 6, none⟩), fun _ => .pointer (some ⟨b96, 0 + h * 6, none⟩), fun _ => .agg (pcs x.p).toArray, fun _ => .agg ([.slice (some ⟨b95, 0, none⟩) d.length qc, .slice (some ⟨b96, 0, none⟩) H.length ca]).toArray, fun _ => .int .i64 (h : Int), fun _ => .agg (pcs y.p).toArray, fun _ => .agg (bxs ⟨x.p, y.p⟩).toArray, fun γ_ => .pointer (some ⟨(γ_.getD 0 0), 0, none⟩), fun _ => undef]) (aoA [[], [], [], [], [], [], [], [], [], [], [10], []]) (fun b_ g_ => ((.row (.slice (some ⟨b96, 0, none⟩) H.length ca) 94 6 H.length (hfsC H)) :: (.arr g2 41 ([.slice none 0 0, .slice none 0 0])) :: (.row (.slice (some ⟨b95, 0, none⟩) d.length qc) 45 6 d.length (qdsC d)) :: (.arr g8 41 ([.slice (some ⟨b95, 0, none⟩) d.length qc, .slice (some ⟨b96, 0, none⟩) H.length ca])) :: (mapW Tryz.prog 92 26 g14 ((halfsU cs.length d f).length) Fa) :: (bsel (b_ 10) (.arr (g_ 10) 92 (bsel (b_ 11) [.int .i64 x.p.x, .int .i64 x.p.y, .int .i64 x.p.z, .int .i64 y.p.x, .int .i64 y.p.y, .int .i64 y.p.z] [.int .i64 0, .int .i64 0, .int .i64 0, .int .i64 0, .int .i64 0, .int .i64 0])) .free) :: (E.map rowE))) hm90 kr_ kr_ (fun w_ h_ => (Mem.insAt 5 h_.pushFree)) (fun b_ g_ h_ => by show (fun (x10_ x11_ : Bool) => (((.row (.slice (some ⟨b96, 0, none⟩) H.length ca) 94 6 H.length (hfsC H)) :: (.arr g2 41 ([.slice none 0 0, .slice none 0 0])) :: (.row (.slice (some ⟨b95, 0, none⟩) d.length qc) 45 6 d.length (qdsC d)) :: (.arr g8 41 ([.slice (some ⟨b95, 0, none⟩) d.length qc, .slice (some ⟨b96, 0, none⟩) H.length ca])) :: (mapW Tryz.prog 92 26 g14 ((halfsU cs.length d f).length) Fa) :: (bsel x10_ (.arr (g_ 10) 92 (bsel x11_ [.int .i64 x.p.x, .int .i64 x.p.y, .int .i64 x.p.z, .int .i64 y.p.x, .int .i64 y.p.y, .int .i64 y.p.z] [.int .i64 0, .int .i64 0, .int .i64 0, .int .i64 0, .int .i64 0, .int .i64 0])) .free) :: (E.map rowE)) : List Res)) (b_ 10) (b_ 11) = _; rw [h_ 10 (by decide), h_ 11 (by decide)]) ?_ ?_
  ·refine aoNext rfl aoK_ ?_
   refine aoNext rfl (aoV_ (fun b_ g_ X_ w_ h_b h_ => valTo (b := .slice (some ⟨b96, 0, none⟩) H.length ca) kr_ (ld_ 1 3 h_))) ?_
   refine aoNext rfl aoK_ ?_
   refine aoNext rfl (aoV_ (fun b_ g_ X_ w_ h_b h_ => valTo (b := .pointer (some ⟨b96, 0 + h * 6, none⟩)) kr_ (ia_ ca h Ty.sl_L_api_Half rfl hh2_))) ?_
   refine aoNext rfl aoK_ ?_
   refine aoNext rfl (aoV_ (fun b_ g_ X_ w_ h_b h_ => valTo (b := .agg (pcs x.p).toArray) kr_ (lar_ (m := h * 6) (h_.rdRow 0 rfl) (hfsP_get hx) (by omega) Ty.ag_voxel_api_Point))) ?_
   refine aoNext rfl (aoV_ (fun b_ g_ X_ w_ h_b h_ => valTo (b := .agg ([.slice (some ⟨b95, 0, none⟩) d.length qc, .slice (some ⟨b96, 0, none⟩) H.length ca]).toArray) kr_ (la_ 0 3 h_ Ty.ag_voxel_api_Mesh))) ?_
   refine aoNext rfl aoK_ ?_
   refine aoNext rfl (aoC_ 38 (fun g_ => [.agg ([.slice (some ⟨b95, 0, none⟩) d.length qc, .slice (some ⟨b96, 0, none⟩) H.length ca]).toArray, .int .i64 (h : Int)]) [] [] (fun b_ g_ w_ h_b h_ => by exact (to_any (.slice (some ⟨b95, 0, none⟩) d.length qc) H h k x y hx hnx hy (some ⟨b96, 0, none⟩) ca _ (h_.rdRow 0 rfl)).mono (fun _ _ h_r => ⟨h_r.1.trans kr_, h_r.2⟩))) ?_
   refine aoNext rfl aoK_ ?_
   refine aoNext rfl (aoNewAg (z := [.int .i64 0, .int .i64 0, .int .i64 0, .int .i64 0, .int .i64 0, .int .i64 0]) 5 Ty.ag_voxel_mesh_span rfl rfl (fun _ _ _ => ⟨_, rfl⟩) (fun b_ g_ γ_ h_b => Eq.trans kr_ (congrArg (fun x_ => List.set _ 5 (Res.arr γ_ 92 x_)) (bselF (α := List Value) (h_b.post 11 kr_) [.int .i64 x.p.x, .int .i64 x.p.y, .int .i64 x.p.z, .int .i64 y.p.x, .int .i64 y.p.y, .int .i64 y.p.z] [.int .i64 0, .int .i64 0, .int .i64 0, .int .i64 0, .int .i64 0, .int .i64 0]))) (fun _ => by kernel_rfl) kr_) ?_
   refine aoNext rfl (aoStore (gb := fun g_ => (g_ 10)) (k := 0) (cur := fun g_ => [.int .i64 0, .int .i64 0, .int .i64 0, .int .i64 0, .int .i64 0, .int .i64 0]) (vs := fun g_ => bxs ⟨x.p, y.p⟩) 5 (fun g_ => [(17, .pointer (some ⟨(g_ 10), 0, none⟩)), (101, .agg (bxs ⟨x.p, y.p⟩).toArray)]) (fun g_ a_ h_k => ⟨(h_k.inn 10 _ _ kr_ rfl rfl).trans kr_, (h_k.inn 9 _ _ kr_ rfl rfl).trans kr_, trivial⟩) Ty.ag_voxel_mesh_span (fun b_ g_ h_b => by show some (bsel (b_ 10) (Res.arr (g_ 10) 92 (bsel (b_ 11) [.int .i64 x.p.x, .int .i64 x.p.y, .int .i64 x.p.z, .int .i64 y.p.x, .int .i64 y.p.y, .int .i64 y.p.z] [.int .i64 0, .int .i64 0, .int .i64 0, .int .i64 0, .int .i64 0, .int .i64 0])) Res.free) = some (Res.arr (g_ 10) 92 ([.int .i64 0, .int .i64 0, .int .i64 0, .int .i64 0, .int .i64 0, .int .i64 0])); rw [bselT (h_b.pre 10 kr_), bselF h_b.no]) (fun g_ X_ => (wn rfl)) rfl (fun g_ X_ => litEv kr_) (fun g_ X_ => litEv kr_) (fun _ => by kernel_rfl) (fun _ => by kernel_rfl) (fun _ => by kernel_rfl) (fun b_ g_ h_b => Eq.trans (b := List.set (((.row (.slice (some ⟨b96, 0, none⟩) H.length ca) 94 6 H.length (hfsC H)) :: (.arr g2 41 ([.slice none 0 0, .slice none 0 0])) :: (.row (.slice (some ⟨b95, 0, none⟩) d.length qc) 45 6 d.length (qdsC d)) :: (.arr g8 41 ([.slice (some ⟨b95, 0, none⟩) d.length qc, .slice (some ⟨b96, 0, none⟩) H.length ca])) :: (mapW Tryz.prog 92 26 g14 ((halfsU cs.length d f).length) Fa) :: (bsel (b_ 10) (.arr (g_ 10) 92 (bsel (b_ 11) [.int .i64 x.p.x, .int .i64 x.p.y, .int .i64 x.p.z, .int .i64 y.p.x, .int .i64 y.p.y, .int .i64 y.p.z] [.int .i64 0, .int .i64 0, .int .i64 0, .int .i64 0, .int .i64 0, .int .i64 0])) .free) :: (E.map rowE))) 5 (bsel (b_ 10) (Res.arr (g_ 10) 92 ([.int .i64 x.p.x, .int .i64 x.p.y, .int .i64 x.p.z, .int .i64 y.p.x, .int .i64 y.p.y, .int .i64 y.p.z])) Res.free)) kr_ (congrArg (fun x_ => List.set _ 5 x_) (bselT (h_b.pre 10 kr_) _ _))) rfl) ?_
   exact aoDone (by decide)
  intro g_ a_ w102 hF_ hm101
  obtain ⟨X103, rfl⟩ := frLit (⟨hF_.size, hF_.defers, ⟨hF_.o_ 6, hF_.o_ 7, hF_.o_ 8, hF_.o_ 16, hF_.i_ 10, hF_.o_ 88, hF_.o_ 89, hF_.o_ 90, hF_.o_ 91, hF_.i_ 0, hF_.i_ 1, hF_.i_ 2, hF_.i_ 3, hF_.i_ 4, hF_.i_ 5, hF_.i_ 6, hF_.i_ 7, hF_.i_ 8, hF_.i_ 9, trivial⟩⟩ : Fr _ 142 [(6, .pointer (some ⟨g2, 0, none⟩)), (7, .pointer (some ⟨g8, 0, none⟩)), (8, .map (some g14)), (16, .int .i64 (h : Int)), (17, .pointer (some ⟨(g_ 10), 0, none⟩)), (88, .int .i64 ((halfsU cs.length d f).length : Int)), (89, .int .i64 (h : Int)), (90, .bool true), (91, .int .i64 (h : Int)), (92, .pointer (some ⟨g8, 1, none⟩)), (93, .slice (some ⟨b96, 0, none⟩) H.length ca), (94, .int .i64 (h : Int)), (95, .pointer (some ⟨b96, 0 + h * 6, none⟩)), (96, .pointer (some ⟨b96, 0 + h * 6, none⟩)), (97, .agg (pcs x.p).toArray), (98, .agg ([.slice (some ⟨b95, 0, none⟩) d.length qc, .slice (some ⟨b96, 0, none⟩) H.length ca]).toArray), (99, .int .i64 (h : Int)), (100, .agg (pcs y.p).toArray), (101, .agg (bxs ⟨x.p, y.p⟩).toArray)])
  clear hF_
  have hm104 : Mem w w102 ((.row (.slice (some ⟨b96, 0, none⟩) H.length ca) 94 6 H.length (hfsC H)) :: (.arr g2 41 ([.slice none 0 0, .slice none 0 0])) :: (.row (.slice (some ⟨b95, 0, none⟩) d.length qc) 45 6 d.length (qdsC d)) :: (.arr g8 41 ([.slice (some ⟨b95, 0, none⟩) d.length qc, .slice (some ⟨b96, 0, none⟩) H.length ca])) :: (mapW Tryz.prog 92 26 g14 ((halfsU cs.length d f).length) Fa) :: (.arr (g_ 10) 92 (bxs ⟨x.p, y.p⟩)) :: (E.map rowE)) := hm101
  clear hm101 hm90
  generalize g_ 10 = g105 at hm104 ⊢
  clear g_
  refine tn_ hK100 ?_
  refine sp_ fun _ hK106 => ?_
  refine lk_ (.map (some g14)) ?_
  refine lp_ g105 3 ?_
  refine lv_ rfl (.agg (pcs y.p).toArray) (la_ 3 5 hm104 Ty.ag_voxel_api_Point) ?_
  refine lp_ g105 0 ?_
  refine lv_ rfl (.agg (pcs x.p).toArray) (la_ 0 5 hm104 Ty.ag_voxel_api_Point) ?_
  refine lk_ (.agg (bxs ⟨y.p, x.p⟩).toArray) ?_
  obtain ⟨⟨ek, eA, ec, ids⟩, E0, hek_, hF0_, hv_, hid_, hne_, hm107⟩ := hF.out (L := [.row (.slice (some ⟨b96, 0, none⟩) H.length ca) 94 6 H.length (hfsC H), .arr g2 41 ([.slice none 0 0, .slice none 0 0]), .row (.slice (some ⟨b95, 0, none⟩) d.length qc) 45 6 d.length (qdsC d), .arr g8 41 ([.slice (some ⟨b95, 0, none⟩) d.length qc, .slice (some ⟨b96, 0, none⟩) H.length ca]), mapW Tryz.prog 92 26 g14 ((halfsU cs.length d f).length) Fa, .arr g105 92 (bxs ⟨x.p, y.p⟩)]) hm104 ⟨y.p, x.p⟩
  clear hm104
  replace hid_ : ids = idsS (spansU cs.length d f) ⟨y.p, x.p⟩ := hid_
  have hm108 : Mem w w102 ((.row (.slice eA ids.length ec) 3 1 ids.length (ics ids)) :: (.row (.slice (some ⟨b96, 0, none⟩) H.length ca) 94 6 H.length (hfsC H)) :: (.arr g2 41 ([.slice none 0 0, .slice none 0 0])) :: (.row (.slice (some ⟨b95, 0, none⟩) d.length qc) 45 6 d.length (qdsC d)) :: (.arr g8 41 ([.slice (some ⟨b95, 0, none⟩) d.length qc, .slice (some ⟨b96, 0, none⟩) H.length ca])) :: (mapW Tryz.prog 92 26 g14 ((halfsU cs.length d f).length) Fa) :: (.arr g105 92 (bxs ⟨x.p, y.p⟩)) :: (E0.map rowE)) := hm107
  clear hm107
  refine lv_ rfl (.slice eA ids.length ec) (gLookE 5 hm108 rfl Tryz.law_sp Tryz.map_sp Tryz.zero_ints (Tryz.key_sp hsw2_) hv_ rfl le_ le_) ?_
  refine lk_ (.slice eA ids.length ec) ?_
  refine pt_ hK106 ?_
  refine gwCut (fun a_ w_ => ∃ (g19 : Nat) (po : Pt), Fr a_ 142 [(6, .pointer (some ⟨g2, 0, none⟩)), (7, .pointer (some ⟨g8, 0, none⟩)), (8, .map (some g14)), (16, .int .i64 (h : Int)), (17, .pointer (some ⟨g105, 0, none⟩)), (18, .slice eA ids.length ec), (19, .pointer (some ⟨g19, 0, none⟩)), (88, .int .i64 ((halfsU cs.length d f).length : Int)), (89, .int .i64 (h : Int)), (90, .bool true), (91, .int .i64 (h : Int)), (92, .pointer (some ⟨g8, 1, none⟩)), (93, .slice (some ⟨b96, 0, none⟩) H.length ca), (94, .int .i64 (h : Int)), (95, .pointer (some ⟨b96, 0 + h * 6, none⟩)), (96, .pointer (some ⟨b96, 0 + h * 6, none⟩)), (97, .agg (pcs x.p).toArray), (98, .agg ([.slice (some ⟨b95, 0, none⟩) d.length qc, .slice (some ⟨b96, 0, none⟩) H.length ca]).toArray), (99, .int .i64 (h : Int)), (100, .agg (pcs y.p).toArray), (101, .agg (bxs ⟨x.p, y.p⟩).toArray), (102, .map (some g14)), (103, .pointer (some ⟨g105, 3, none⟩)), (104, .agg (pcs y.p).toArray), (105, .pointer (some ⟨g105, 0, none⟩)), (106, .agg (pcs x.p).toArray), (107, .agg (bxs ⟨y.p, x.p⟩).toArray), (108, .slice eA ids.length ec)] ∧ Mem w w_ ((.row (.slice eA ids.length ec) 3 1 ids.length (ics ids)) :: (.row (.slice (some ⟨b96, 0, none⟩) H.length ca) 94 6 H.length (hfsC H)) :: (.arr g2 41 ([.slice none 0 0, .slice none 0 0])) :: (.row (.slice (some ⟨b95, 0, none⟩) d.length qc) 45 6 d.length (qdsC d)) :: (.arr g8 41 ([.slice (some ⟨b95, 0, none⟩) d.length qc, .slice (some ⟨b96, 0, none⟩) H.length ca])) :: (mapW Tryz.prog 92 26 g14 ((halfsU cs.length d f).length) Fa) :: (.arr g105 92 (bxs ⟨x.p, y.p⟩)) :: (.arr g19 23 (pcs po)) :: (E0.map rowE))) ?_ ?_
  ·refine mgStartM ((.row (.slice eA ids.length ec) 3 1 ids.length (ics ids)) :: (.row (.slice (some ⟨b96, 0, none⟩) H.length ca) 94 6 H.length (hfsC H)) :: (.arr g2 41 ([.slice none 0 0, .slice none 0 0])) :: (.row (.slice (some ⟨b95, 0, none⟩) d.length qc) 45 6 d.length (qdsC d)) :: (.arr g8 41 ([.slice (some ⟨b95, 0, none⟩) d.length qc, .slice (some ⟨b96, 0, none⟩) H.length ca])) :: (mapW Tryz.prog 92 26 g14 ((halfsU cs.length d f).length) Fa) :: (.arr g105 92 (bxs ⟨x.p, y.p⟩)) :: (E0.map rowE)) hm108 kr_ ?_
   intro w110 hm109
   clear hm108
   refine mk_ (i := 0) (v := .pointer (some ⟨g8, 0, none⟩)) rfl rfl (fun _ _ _ h => h) hm109 rfl ?_
   refine mt_ 1 rfl (.slice (some ⟨b95, 0, none⟩) d.length qc) hm109 (fun w_ h_ => ld_ 0 4 h_) ?_
   refine mk_ (i := 2) (v := .pointer (some ⟨g8, 1, none⟩)) rfl rfl (fun _ _ _ h => h) hm109 rfl ?_
   refine mt_ 3 rfl (.slice (some ⟨b96, 0, none⟩) H.length ca) hm109 (fun w_ h_ => ld_ 1 4 h_) ?_
   refine mk_ (i := 4) (v := .int .i64 (h : Int)) rfl rfl (fun _ _ _ h => h) hm109 rfl ?_
   refine mt_ 5 rfl (.pointer (some ⟨b96, 0 + h * 6, none⟩)) hm109 (fun w_ h_ => ia_ ca h Ty.sl_L_api_Half rfl hh2_) ?_
   refine mk_ (i := 6) (v := .pointer (some ⟨b96, 0 + h * 6 + 5, none⟩)) rfl rfl (fun _ _ _ h => h) hm109 rfl ?_
   refine mt_ 7 rfl (.int .i64 x.fc) hm109 (fun w_ h_ => lr_ (m := h * 6 + 5) (h_.rdRow 1 rfl) (hfsC_get hx 5 _ rfl) (by omega)) ?_
   refine mt_ 8 rfl (.pointer (some ⟨b95, 0 + f2 * 6, none⟩)) hm109 (fun w_ h_ => ia_ qc f2 Ty.sl_L_api_Quad hfc hf3_) ?_
   refine mt_ 9 rfl (.agg (qdc q).toArray) hm109 (fun w_ h_ => lar_ (m := f2 * 6) (h_.rdRow 3 rfl) (qdsC_get hq) (by omega) Ty.ag_voxel_api_Quad) ?_
   refine mt_ 10 rfl (.agg (bxs ⟨x.p, y.p⟩).toArray) hm109 (fun w_ h_ => la_ 0 6 h_ Ty.ag_voxel_mesh_span) ?_
   refine mgFork (i := 11) (j := 12) kr_ kr_ kr_ ?_ ?_
   ·refine mgiCall (i := 11) 39 [.agg (qdc q).toArray, .agg (bxs ⟨x.p, y.p⟩).toArray] [] [] rfl kr_ (wn rfl) rfl le_ (litArgs kr_) (touch_any q ⟨x.p, y.p⟩ hqo hsw_ _) ?_
    rintro e w111 ⟨p113, rfl, hbz⟩
    have hm112 := hm109.below hbz
    clear hbz hm109
    refine ⟨_, rfl, hm112, ?_⟩
    refine mP rfl ?_
    refine mgAlloc (i := 12) (z := [.int .i64 0, .int .i64 0, .int .i64 0]) Ty.ag_voxel_api_Point hm112 (fun w_ h_ => (h_.sub (.cons_cons _ (.cons_cons _ (.cons_cons _ (.cons_cons _ (.cons_cons _ (.cons_cons _ (.cons_cons _ (List.Sublist.refl _)))))))))) kr_ rfl (wn rfl) rfl ?_
    intro g114 w116 hm115
    clear hm112
    try simp only [lc_] at hm115
    replace hm115 := hm115.i7
    refine mP rfl ?_
    refine mgStore 7 Ty.ag_voxel_api_Point hm115 rfl kr_ (i := 13) (cs := pcs p113) rfl (wn rfl) rfl le_ le_ rfl rfl kr_ (fun w_ h_ => (h_.sub (.cons_cons _ (.cons_cons _ (.cons_cons _ (.cons_cons _ (.cons_cons _ (.cons_cons _ (.cons_cons _ (.cons _ (List.Sublist.refl _))))))))))) ?_
    intro w118 hm117
    clear hm115
    try simp only [lc_] at hm117
    refine mNone rfl ?_
    refine mgDone kr_ ?_
    refine then_normal ?_
    exact ⟨g114, p113, ⟨litSize, rfl, fo_⟩, (hm117.sub (.cons_cons _ (.cons_cons _ (.cons_cons _ (.cons_cons _ (.cons_cons _ (.cons_cons _ (.cons_cons _ (.cons_cons _ (List.Sublist.refl _))))))))))⟩
   refine mgiAlloc (i := 12) (z := [.int .i64 0, .int .i64 0, .int .i64 0]) Ty.ag_voxel_api_Point hm109 (fun w_ h_ => (h_.sub (.cons_cons _ (.cons_cons _ (.cons_cons _ (.cons_cons _ (.cons_cons _ (.cons_cons _ (.cons_cons _ (List.Sublist.refl _)))))))))) rfl (wn rfl) rfl ?_
   intro g119 w121 hm120
   clear hm109
   try simp only [lc_] at hm120
   replace hm120 := hm120.i7
   refine mP rfl ?_
   refine mgCall (i := 11) 39 [.agg (qdc q).toArray, .agg (bxs ⟨x.p, y.p⟩).toArray] [] [] kr_ rfl kr_ (wn rfl) rfl le_ (litArgs kr_) (touch_any q ⟨x.p, y.p⟩ hqo hsw_ _) ?_
   rintro e w122 ⟨p124, rfl, hbz⟩
   have hm123 := hm120.below hbz
   clear hbz hm120
   have hk125 := (hm123.sub (.cons_cons _ (.cons_cons _ (.cons_cons _ (.cons_cons _ (.cons_cons _ (.cons_cons _ (.cons_cons _ (.cons _ (List.Sublist.refl _))))))))))
   refine ⟨_, rfl, hk125, ?_⟩
   refine mP rfl ?_
   refine mgStore 7 Ty.ag_voxel_api_Point hm123 rfl kr_ (i := 13) (cs := pcs p124) rfl (wn rfl) rfl le_ le_ rfl rfl kr_ (fun w_ h_ => (h_.sub (.cons_cons _ (.cons_cons _ (.cons_cons _ (.cons_cons _ (.cons_cons _ (.cons_cons _ (.cons_cons _ (.cons _ (List.Sublist.refl _))))))))))) ?_
   intro w127 hm126
   clear hm123
   try simp only [lc_] at hm126
   refine mNone rfl ?_
   refine mgDone kr_ ?_
   refine then_normal ?_
   exact ⟨g119, p124, ⟨litSize, rfl, fo_⟩, (hm126.sub (.cons_cons _ (.cons_cons _ (.cons_cons _ (.cons_cons _ (.cons_cons _ (.cons_cons _ (.cons_cons _ (.cons_cons _ (List.Sublist.refl _))))))))))⟩
  clear hm108
  intro a130 w128 hI_
  obtain ⟨g19, po, hF_, hm129⟩ := hI_
  obtain ⟨X131, rfl⟩ := frLit hF_
  clear hF_
  refine sp_ fun _ hK132 => ?_
  refine li_ 0 ?_
  refine pt_ hK132 ?_
  refine sk_ fun _ hK133 => ?_
  refine sp_ fun _ hK134 => ?_
  refine lk_ (.slice eA ids.length ec) ?_
  refine lv_ rfl (.int .i64 (ids.length : Int)) (ln_ eA ids.length ec Ty.und_L_int) ?_
  by_cases h135 : 1 < (ids.length : Int)
  ·obtain ⟨b136, rfl⟩ := hm129.rowBlk (A := eA) (n := ids.length) (c := ec) 0 rfl (by omega)
   refine lv_ rfl _ (gtT_ h135) ?_
   refine pt_ hK134 ?_
   refine wp_cond_true le_ ?_
   refine plStart ?_
   have hall_ : ∀ t0 ∈ ids, ∃ (t : Nat) (x : Hf) (f : Nat) (q : Qd), t0 = (t : Int) ∧ H[t]? = some x ∧ x.fc = (f : Int) ∧ d[f]? = some q ∧ q.Ok := fun t0 ht0 => by
    rw [hid_] at ht0
    obtain ⟨m_, hm1_, rfl, _⟩ := idsS_mem ht0
    have hm2_ : m_ < H.length := by rw [hT.1, ← (halfsU_len cs.length d f).2]; exact hm1_
    obtain ⟨_, f_, _, _, _, hfc_, hf_, _⟩ := hT.at hHok (List.getElem?_eq_getElem hm2_)
    exact ⟨m_, _, f_, _, rfl, List.getElem?_eq_getElem hm2_, hfc_, List.getElem?_eq_getElem (by omega), hqo_ _ (List.getElem_mem _)⟩
   have hil_ := idsS_len (spansU cs.length d f) ⟨y.p, x.p⟩
   rw [← hid_, (halfsU_len cs.length d f).2] at hil_
   refine lk_ (.slice (some ⟨b136, 0, none⟩) ids.length ec) ?_
   refine lk_ (.func (.func 41) #[] #[.pointer (some ⟨g8, 0, none⟩), .pointer (some ⟨g105, 0, none⟩), .pointer (some ⟨g19, 0, none⟩)]) ?_
   have hm137 : Mem w w128 ((.row (.slice (some ⟨b136, 0, none⟩) ids.length ec) 3 1 ids.length (ics ids)) :: (.row (.slice (some ⟨b96, 0, none⟩) H.length ca) 94 6 H.length (hfsC H)) :: (.arr g2 41 ([.slice none 0 0, .slice none 0 0])) :: (.row (.slice (some ⟨b95, 0, none⟩) d.length qc) 45 6 d.length (qdsC d)) :: (.arr g8 41 ([.slice (some ⟨b95, 0, none⟩) d.length qc, .slice (some ⟨b96, 0, none⟩) H.length ca])) :: (mapW Tryz.prog 92 26 g14 ((halfsU cs.length d f).length) Fa) :: (.arr g105 92 (bxs ⟨x.p, y.p⟩)) :: (.arr g19 23 (pcs po)) :: (E0.map rowE)) := Mem.front 0 hm129 rfl
   clear hm129
   have hm138 := hm137.f1
   clear hm137
   have hm139 := hm138.f3
   clear hm138
   have hm140 := hm139.f7
   clear hm139
   have hm141 := hm140.f7
   clear hm140
   have hm142 := hm141.f6
   clear hm141
   refine plCall (i := 2) 40 [.slice (some ⟨b136, 0, none⟩) ids.length ec, .func (.func 41) #[] #[.pointer (some ⟨g8, 0, none⟩), .pointer (some ⟨g105, 0, none⟩), .pointer (some ⟨g19, 0, none⟩)]] [] [] rfl kr_ (wn rfl) rfl le_ (litArgs kr_) (index_any (M := ((.arr g2 41 ([.slice none 0 0, .slice none 0 0])) :: (mapW Tryz.prog 92 26 g14 ((halfsU cs.length d f).length) Fa) :: (E0.map rowE))) d H ⟨x.p, y.p⟩ hsw_ po b95 b96 qc ca g8 g105 g19 ids b136 ec hall_ (by omega) hm142) ?_
   rintro e w143 ⟨r, hr1_, hr2_, rfl, hm144⟩
   clear hm142
   refine ⟨_, rfl, ?_⟩
   refine qP rfl ?_
   refine lv_ rfl (.int .i64 (max 0 r)) (gMax (.const (.int .i64 0)) (.tmp 126) rfl le_ le_) ?_
   refine li_ (max 0 r) ?_
   refine pt_ hK133 ?_
   refine sp_ fun _ hK145 => ?_
   refine lk_ (.slice (some ⟨b136, 0, none⟩) ids.length ec) ?_
   refine lv_ rfl (.int .i64 (ids.length : Int)) (ln_ (some ⟨b136, 0, none⟩) ids.length ec Ty.und_L_int) ?_
   refine lv_ rfl _ (gtT_ (show (0 : Int) < (ids.length : Int) by omega)) ?_
   refine pt_ hK145 ?_
   refine wp_cond_true le_ ?_
   refine glStart 9 ((.arr g8 41 ([.slice (some ⟨b95, 0, none⟩) d.length qc, .slice (some ⟨b96, 0, none⟩) H.length ca])) :: (.arr g105 92 (bxs ⟨x.p, y.p⟩)) :: (.arr g19 23 (pcs po)) :: (.row (.slice (some ⟨b95, 0, none⟩) d.length qc) 45 6 d.length (qdsC d)) :: (.row (.slice (some ⟨b136, 0, none⟩) ids.length ec) 3 1 ids.length (ics ids)) :: (.arr g2 41 ([.slice none 0 0, .slice none 0 0])) :: (mapW Tryz.prog 92 26 g14 ((halfsU cs.length d f).length) Fa) :: (E0.map rowE)) hm144 kr_ ?_
   intro w147 hm146
   clear hm144
   have hk148 := (hm146.sub (.cons_cons _ (.cons_cons _ (.cons_cons _ (.cons_cons _ (.cons _ (.cons_cons _ (.cons_cons _ (.cons_cons _ (List.Sublist.refl _))))))))))
   refine glk (i := 0) (v := .pointer (some ⟨g8, 1, none⟩)) rfl rfl (fun _ _ _ h => h) hk148 rfl ?_
   refine glTake (i := 1) (v := .slice (some ⟨b96, 0, none⟩) H.length ca) rfl kr_ (wn rfl) (fun _ _ _ h => h) hk148 (fun w_ h_ => gLoad (v := .slice (some ⟨b96, 0, none⟩) H.length ca) (k := 1) 0 h_ rfl kr_ (.tmp 131) kr_ rfl le_) ?_
   refine glP rfl ?_
   refine glk (i := 2) (v := .int .i64 (h : Int)) rfl rfl (fun _ _ _ h => h) hk148 rfl ?_
   refine glk (i := 3) (v := .slice (some ⟨b136, 0, none⟩) ids.length ec) rfl rfl (fun _ _ _ h => h) hk148 rfl ?_
   refine glk (i := 4) (v := .int .i64 (max 0 r)) rfl rfl (fun _ _ _ h => h) hk148 rfl ?_
   have hk4_ : (max 0 r).toNat < ids.length := by omega
   obtain ⟨t, ht_⟩ : ∃ t, ids[(max 0 r).toNat]? = some t := ⟨_, List.getElem?_eq_getElem hk4_⟩
   refine glTake (i := 5) (v := .pointer (some ⟨b136, 0 + ((max 0 r).toNat) * 1, none⟩)) rfl kr_ (wn rfl) (fun _ _ _ h => h) hk148 (fun w_ h_ => gIaSl (b := b136) (off := 0) (n := ids.length) (c := ec) (kk := .i64) (K := (max 0 r)) (.tmp 134) (.tmp 135) ((max 0 r).toNat) Ty.sl_L_int rfl le_ le_ ((by omega)) (hk4_)) ?_
   refine glP rfl ?_
   refine glTake (i := 6) (v := .int .i64 t) rfl kr_ (wn rfl) (fun _ _ _ h => h) hk148 (fun w_ h_ => gLoadRd (v := .int .i64 t) (m := ((max 0 r).toNat) * 1) (h_.rdRow 4 rfl) rfl (icsGet ht_) (by omega) (.tmp 136) kr_ rfl le_) ?_
   refine glP rfl ?_
   refine glTake (i := 7) (v := .pointer (some ⟨b96, 0 + h * 6, none⟩)) rfl kr_ (wn rfl) (fun _ _ _ h => h) hk148 (fun w_ h_ => gIaSl (b := b96) (off := 0) (n := H.length) (c := ca) (kk := .i64) (K := (h : Int)) (.tmp 132) (.tmp 133) h Ty.sl_L_api_Half rfl le_ le_ (rfl) (hh2_)) ?_
   refine glP rfl ?_
   refine glk (i := 8) (v := .pointer (some ⟨b96, 0 + h * 6 + 4, none⟩)) rfl rfl (fun _ _ _ h => h) hk148 rfl ?_
   refine glStoreRow (v := .int .i64 t) (v0 := .int .i64 x.tw) (k := 0 + h * 6 + 4) (xs := hfsC H) 4 kr_ hm146 rfl (i := 9) kr_ rfl kr_ (wn rfl) rfl le_ le_ (by rw [Nat.zero_add]; exact hfsC_get hx 4 _ rfl) (by omega) rfl rfl ?_
   intro w149 hm150
   clear hm146
   try simp only [lc_] at hm150
   replace hm150 := Mem.rowEq (v := .slice (some ⟨b96, 0, none⟩) H.length ca) (e := 94) (size := 6) (n := H.length) (n' := H.length) (xs := (hfsC H).set (0 + h * 6 + 4) (.int .i64 t)) (xs' := hfsC (H.set h { x with tw := t })) 4 hm150 rfl rfl (by rw [Nat.zero_add]; exact hfsC_tw hx t)
   try simp only [lc_] at hm150
   refine glNone rfl ?_
   refine glDone kr_ ?_
   refine inBlock_normal ?_
   refine tn_ hK98 ?_
   refine plStart ?_
   refine lv_ rfl _ (ad_ (h : Int) 1) ?_
   refine li_ ((h : Int) + 1) ?_
   refine plD ?_
   refine then_normal ?_
   have hm151 := hm150.f7
   clear hm150
   have hm152 := hm151.f1
   clear hm151
   have hm153 := hm152.f4
   clear hm152
   have hm154 := hm153.f7
   clear hm153
   have hm155 := hm154.f6
   clear hm154
   have hm156 := hm155.f7
   clear hm155
   have hm157 : Mem w w149 ((.row (.slice (some ⟨b136, 0, none⟩) ids.length ec) 3 1 ids.length (ics ids)) :: (.row (.slice (some ⟨b96, 0, none⟩) H.length ca) 94 6 H.length (hfsC (H.set h { x with tw := t }))) :: (.arr g2 41 ([.slice none 0 0, .slice none 0 0])) :: (.row (.slice (some ⟨b95, 0, none⟩) d.length qc) 45 6 d.length (qdsC d)) :: (.arr g8 41 ([.slice (some ⟨b95, 0, none⟩) d.length qc, .slice (some ⟨b96, 0, none⟩) H.length ca])) :: (mapW Tryz.prog 92 26 g14 ((halfsU cs.length d f).length) Fa) :: (E0.map rowE)) := (hm156.sub (.cons_cons _ (.cons_cons _ (.cons_cons _ (.cons_cons _ (.cons_cons _ (.cons_cons _ (.cons _ (.cons _ (List.Sublist.refl _))))))))))
   clear hm156
   have hm158 := Mem.rowBack (L := [.row (.slice (some ⟨b96, 0, none⟩) H.length ca) 94 6 H.length (hfsC (H.set h { x with tw := t })), .arr g2 41 ([.slice none 0 0, .slice none 0 0]), .row (.slice (some ⟨b95, 0, none⟩) d.length qc) 45 6 d.length (qdsC d), .arr g8 41 ([.slice (some ⟨b95, 0, none⟩) d.length qc, .slice (some ⟨b96, 0, none⟩) H.length ca]), mapW Tryz.prog 92 26 g14 ((halfsU cs.length d f).length) Fa]) (e := (⟨ek, some ⟨b136, 0, none⟩, ec, ids⟩ : Ent)) (E := E0) hm157
   have hle_ : (H.set h { x with tw := t }).length = H.length := List.length_set
   rw [← hle_] at hm158
   exact ⟨_, by omega, (h + 1), (H.set h { x with tw := t }), _, rfl, (by omega), (hT.set hS_ hx (k := (max 0 r).toNat) (t := t) (hid_ ▸ ht_)), hF0_, ⟨litSize, rfl, fo_⟩, hm158⟩
  refine lv_ rfl _ (gtF_ h135) ?_
  refine pt_ hK134 ?_
  refine wp_cond_false le_ ?_
  refine wp_skip ?_
  refine tn_ hK133 ?_
  refine sp_ fun _ hK159 => ?_
  refine lk_ (.slice eA ids.length ec) ?_
  refine lv_ rfl (.int .i64 (ids.length : Int)) (ln_ eA ids.length ec Ty.und_L_int) ?_
  by_cases h160 : 0 < (ids.length : Int)
  ·obtain ⟨b161, rfl⟩ := hm129.rowBlk (A := eA) (n := ids.length) (c := ec) 0 rfl (by omega)
   refine lv_ rfl _ (gtT_ h160) ?_
   refine pt_ hK159 ?_
   refine wp_cond_true le_ ?_
   refine glStart 9 ((.row (.slice (some ⟨b161, 0, none⟩) ids.length ec) 3 1 ids.length (ics ids)) :: (.arr g2 41 ([.slice none 0 0, .slice none 0 0])) :: (.row (.slice (some ⟨b95, 0, none⟩) d.length qc) 45 6 d.length (qdsC d)) :: (.arr g8 41 ([.slice (some ⟨b95, 0, none⟩) d.length qc, .slice (some ⟨b96, 0, none⟩) H.length ca])) :: (mapW Tryz.prog 92 26 g14 ((halfsU cs.length d f).length) Fa) :: (.arr g105 92 (bxs ⟨x.p, y.p⟩)) :: (.arr g19 23 (pcs po)) :: (E0.map rowE)) hm129 kr_ ?_
   intro w163 hm162
   clear hm129
   have hk164 := (hm162.sub (.cons_cons _ (.cons _ (.cons_cons _ (.cons_cons _ (.cons_cons _ (.cons_cons _ (.cons_cons _ (.cons_cons _ (List.Sublist.refl _))))))))))
   refine glk (i := 0) (v := .pointer (some ⟨g8, 1, none⟩)) rfl rfl (fun _ _ _ h => h) hk164 rfl ?_
   refine glTake (i := 1) (v := .slice (some ⟨b96, 0, none⟩) H.length ca) rfl kr_ (wn rfl) (fun _ _ _ h => h) hk164 (fun w_ h_ => gLoad (v := .slice (some ⟨b96, 0, none⟩) H.length ca) (k := 1) 3 h_ rfl kr_ (.tmp 131) kr_ rfl le_) ?_
   refine glP rfl ?_
   refine glk (i := 2) (v := .int .i64 (h : Int)) rfl rfl (fun _ _ _ h => h) hk164 rfl ?_
   refine glk (i := 3) (v := .slice (some ⟨b161, 0, none⟩) ids.length ec) rfl rfl (fun _ _ _ h => h) hk164 rfl ?_
   refine glk (i := 4) (v := .int .i64 0) rfl rfl (fun _ _ _ h => h) hk164 rfl ?_
   have hk4_ : 0 < ids.length := by omega
   obtain ⟨t, ht_⟩ : ∃ t, ids[0]? = some t := ⟨_, List.getElem?_eq_getElem hk4_⟩
   refine glTake (i := 5) (v := .pointer (some ⟨b161, 0 + 0 * 1, none⟩)) rfl kr_ (wn rfl) (fun _ _ _ h => h) hk164 (fun w_ h_ => gIaSl (b := b161) (off := 0) (n := ids.length) (c := ec) (kk := .i64) (K := 0) (.tmp 134) (.tmp 135) 0 Ty.sl_L_int rfl le_ le_ (rfl) (hk4_)) ?_
   refine glP rfl ?_
   refine glTake (i := 6) (v := .int .i64 t) rfl kr_ (wn rfl) (fun _ _ _ h => h) hk164 (fun w_ h_ => gLoadRd (v := .int .i64 t) (m := 0 * 1) (h_.rdRow 0 rfl) rfl (icsGet ht_) (by omega) (.tmp 136) kr_ rfl le_) ?_
   refine glP rfl ?_
   refine glTake (i := 7) (v := .pointer (some ⟨b96, 0 + h * 6, none⟩)) rfl kr_ (wn rfl) (fun _ _ _ h => h) hk164 (fun w_ h_ => gIaSl (b := b96) (off := 0) (n := H.length) (c := ca) (kk := .i64) (K := (h : Int)) (.tmp 132) (.tmp 133) h Ty.sl_L_api_Half rfl le_ le_ (rfl) (hh2_)) ?_
   refine glP rfl ?_
   refine glk (i := 8) (v := .pointer (some ⟨b96, 0 + h * 6 + 4, none⟩)) rfl rfl (fun _ _ _ h => h) hk164 rfl ?_
   refine glStoreRow (v := .int .i64 t) (v0 := .int .i64 x.tw) (k := 0 + h * 6 + 4) (xs := hfsC H) 1 kr_ hm162 rfl (i := 9) kr_ rfl kr_ (wn rfl) rfl le_ le_ (by rw [Nat.zero_add]; exact hfsC_get hx 4 _ rfl) (by omega) rfl rfl ?_
   intro w165 hm166
   clear hm162
   try simp only [lc_] at hm166
   replace hm166 := Mem.rowEq (v := .slice (some ⟨b96, 0, none⟩) H.length ca) (e := 94) (size := 6) (n := H.length) (n' := H.length) (xs := (hfsC H).set (0 + h * 6 + 4) (.int .i64 t)) (xs' := hfsC (H.set h { x with tw := t })) 1 hm166 rfl rfl (by rw [Nat.zero_add]; exact hfsC_tw hx t)
   try simp only [lc_] at hm166
   refine glNone rfl ?_
   refine glDone kr_ ?_
   refine inBlock_normal ?_
   refine tn_ hK98 ?_
   refine plStart ?_
   refine lv_ rfl _ (ad_ (h : Int) 1) ?_
   refine li_ ((h : Int) + 1) ?_
   refine plD ?_
   refine then_normal ?_
   have hm167 := hm166.f5
   clear hm166
   have hm168 := hm167.f5
   clear hm167
   have hm169 := hm168.f5
   clear hm168
   have hm170 := hm169.f5
   clear hm169
   have hm171 := hm170.f5
   clear hm170
   have hm172 := hm171.f5
   clear hm171
   have hm173 : Mem w w165 ((.row (.slice (some ⟨b161, 0, none⟩) ids.length ec) 3 1 ids.length (ics ids)) :: (.row (.slice (some ⟨b96, 0, none⟩) H.length ca) 94 6 H.length (hfsC (H.set h { x with tw := t }))) :: (.arr g2 41 ([.slice none 0 0, .slice none 0 0])) :: (.row (.slice (some ⟨b95, 0, none⟩) d.length qc) 45 6 d.length (qdsC d)) :: (.arr g8 41 ([.slice (some ⟨b95, 0, none⟩) d.length qc, .slice (some ⟨b96, 0, none⟩) H.length ca])) :: (mapW Tryz.prog 92 26 g14 ((halfsU cs.length d f).length) Fa) :: (E0.map rowE)) := (hm172.sub (.cons_cons _ (.cons_cons _ (.cons_cons _ (.cons_cons _ (.cons_cons _ (.cons_cons _ (.cons _ (.cons _ (List.Sublist.refl _))))))))))
   clear hm172
   have hm174 := Mem.rowBack (L := [.row (.slice (some ⟨b96, 0, none⟩) H.length ca) 94 6 H.length (hfsC (H.set h { x with tw := t })), .arr g2 41 ([.slice none 0 0, .slice none 0 0]), .row (.slice (some ⟨b95, 0, none⟩) d.length qc) 45 6 d.length (qdsC d), .arr g8 41 ([.slice (some ⟨b95, 0, none⟩) d.length qc, .slice (some ⟨b96, 0, none⟩) H.length ca]), mapW Tryz.prog 92 26 g14 ((halfsU cs.length d f).length) Fa]) (e := (⟨ek, some ⟨b161, 0, none⟩, ec, ids⟩ : Ent)) (E := E0) hm173
   have hle_ : (H.set h { x with tw := t }).length = H.length := List.length_set
   rw [← hle_] at hm174
   exact ⟨_, by omega, (h + 1), (H.set h { x with tw := t }), _, rfl, (by omega), (hT.set hS_ hx (k := 0) (t := t) (hid_ ▸ ht_)), hF0_, ⟨litSize, rfl, fo_⟩, hm174⟩
  refine lv_ rfl _ (gtF_ h160) ?_
  refine pt_ hK159 ?_
  refine wp_cond_false le_ ?_
  refine wp_skip ?_
  refine inBlock_normal ?_
  refine tn_ hK98 ?_
  refine plStart ?_
  refine lv_ rfl _ (ad_ (h : Int) 1) ?_
  refine li_ ((h : Int) + 1) ?_
  refine plD ?_
  refine then_normal ?_
  have hm175 := hm129.f5
  clear hm129
  have hm176 := hm175.f5
  clear hm175
  have hm177 := hm176.f5
  clear hm176
  have hm178 := hm177.f5
  clear hm177
  have hm179 := hm178.f5
  clear hm178
  have hm180 := hm179.f5
  clear hm179
  have hm181 : Mem w w128 ((.row (.slice eA ids.length ec) 3 1 ids.length (ics ids)) :: (.row (.slice (some ⟨b96, 0, none⟩) H.length ca) 94 6 H.length (hfsC H)) :: (.arr g2 41 ([.slice none 0 0, .slice none 0 0])) :: (.row (.slice (some ⟨b95, 0, none⟩) d.length qc) 45 6 d.length (qdsC d)) :: (.arr g8 41 ([.slice (some ⟨b95, 0, none⟩) d.length qc, .slice (some ⟨b96, 0, none⟩) H.length ca])) :: (mapW Tryz.prog 92 26 g14 ((halfsU cs.length d f).length) Fa) :: (E0.map rowE)) := (hm180.sub (.cons_cons _ (.cons_cons _ (.cons_cons _ (.cons_cons _ (.cons_cons _ (.cons_cons _ (.cons _ (.cons _ (List.Sublist.refl _))))))))))
  clear hm180
  have hm182 := Mem.rowBack (L := [.row (.slice (some ⟨b96, 0, none⟩) H.length ca) 94 6 H.length (hfsC H), .arr g2 41 ([.slice none 0 0, .slice none 0 0]), .row (.slice (some ⟨b95, 0, none⟩) d.length qc) 45 6 d.length (qdsC d), .arr g8 41 ([.slice (some ⟨b95, 0, none⟩) d.length qc, .slice (some ⟨b96, 0, none⟩) H.length ca]), mapW Tryz.prog 92 26 g14 ((halfsU cs.length d f).length) Fa]) (e := (⟨ek, eA, ec, ids⟩ : Ent)) (E := E0) hm181
  exact ⟨_, by omega, (h + 1), H, _, rfl, (by omega), (hT.none hS_ (by rw [← hid_]; omega)), hF0_, ⟨litSize, rfl, fo_⟩, hm182⟩
 have hhe_ : h = (halfsU cs.length d f).length := by omega
 refine lv_ rfl _ (lsF_ h94) ?_
 refine pt_ hK93 ?_
 refine sk_ fun _ hK183 => ?_
 refine wp_cond_false le_ ?_
 refine wp_exit ?_
 refine then_exit ?_
 refine then_exit ?_
 refine inBlock_exit ?_
 refine tn_ hK87 ?_
 refine sp_ fun _ hK184 => ?_
 refine lv_ rfl (.agg ([.slice qA d.length qc, .slice Aa H.length ca]).toArray) (la_ 0 3 hm90 Ty.ag_voxel_api_Mesh) ?_
 refine plStore 1 Ty.ag_voxel_api_Mesh hm90 rfl (i := 1) (cs := [.slice qA d.length qc, .slice Aa H.length ca]) rfl (wn rfl) rfl le_ le_ rfl rfl kr_ ?_
 intro w186 hm185
 clear hm90
 try simp only [lc_] at hm185
 refine qNone rfl ?_
 refine pt_ hK184 ?_
 refine wp_ret ?_
 refine bodyPost_ret (v := .agg ([.slice qA d.length qc, .slice Aa H.length ca]).toArray) (gRes1 rfl (gResAg (cs := [.slice qA d.length qc, .slice Aa H.length ca]) 1 hm185 rfl Ty.ag_voxel_api_Mesh rfl (lg_))) rfl ?_
 rw [hhe_] at hT
 subst hfe_
 exact ⟨d, H, _, _, _, _, rfl, hperm, hsrt, hT, hm185.rdRow 2 rfl, hm185.rdRow 0 rfl, hm185.row 2 rfl, hm185.bel⟩
end Go.Proofs.YtbpihalphhoiaaaGreatDoor
namespace Go.Proofs.YtbpihalphhoiaaaGreatDoor
def T0m : List Mat := [⟨[97, 105, 114], false, false, false, 1, 0, 0, 0⟩, ⟨[115, 116, 111, 110, 101], true, false, false, 16, 0, 0, 0⟩, ⟨[103, 108, 97, 115, 115], true, false, false, 1, 0, 0, 0⟩, ⟨[108, 97, 109, 112], true, false, false, 16, 15, 14, 10⟩, ⟨[115, 97, 110, 100], true, false, true, 16, 0, 0, 0⟩, ⟨[119, 97, 116, 101, 114], false, true, false, 3, 0, 0, 0⟩, ⟨[108, 101, 97, 118, 101, 115], true, false, false, 2, 0, 0, 0⟩, ⟨[101, 109, 98, 101, 114], true, false, false, 16, 9, 3, 0⟩, ⟨[102, 111, 103], false, false, false, 2, 0, 0, 0⟩]
def ballC : List Int := (List.replicate 64 0).set 21 1
def bQ : List Qd := [⟨⟨1, 1, 1⟩, 0, false, 1⟩, ⟨⟨2, 1, 1⟩, 0, true, 1⟩, ⟨⟨1, 1, 1⟩, 1, false, 1⟩, ⟨⟨1, 2, 1⟩, 1, true, 1⟩, ⟨⟨1, 1, 1⟩, 2, false, 1⟩, ⟨⟨1, 1, 2⟩, 2, true, 1⟩]
def bH : List Hf := [⟨⟨1, 1, 1⟩, 1, 11, 0⟩, ⟨⟨1, 1, 2⟩, 2, 23, 0⟩, ⟨⟨1, 2, 2⟩, 3, 12, 0⟩, ⟨⟨1, 2, 1⟩, 0, 16, 0⟩, ⟨⟨2, 1, 1⟩, 5, 18, 1⟩, ⟨⟨2, 2, 1⟩, 6, 14, 1⟩, ⟨⟨2, 2, 2⟩, 7, 21, 1⟩, ⟨⟨2, 1, 2⟩, 4, 9, 1⟩, ⟨⟨1, 1, 1⟩, 9, 19, 2⟩, ⟨⟨2, 1, 1⟩, 10, 7, 2⟩, ⟨⟨2, 1, 2⟩, 11, 20, 2⟩, ⟨⟨1, 1, 2⟩, 8, 0, 2⟩, ⟨⟨1, 2, 1⟩, 13, 2, 3⟩, ⟨⟨1, 2, 2⟩, 14, 22, 3⟩, ⟨⟨2, 2, 2⟩, 15, 5, 3⟩, ⟨⟨2, 2, 1⟩, 12, 17, 3⟩, ⟨⟨1, 1, 1⟩, 17, 3, 4⟩, ⟨⟨1, 2, 1⟩, 18, 15, 4⟩, ⟨⟨2, 2, 1⟩, 19, 4, 4⟩, ⟨⟨2, 1, 1⟩, 16, 8, 4⟩, ⟨⟨1, 1, 2⟩, 21, 10, 5⟩, ⟨⟨2, 1, 2⟩, 22, 6, 5⟩, ⟨⟨2, 2, 2⟩, 23, 13, 5⟩, ⟨⟨1, 2, 2⟩, 20, 1, 5⟩]
def bS : List Bx := [⟨⟨1, 1, 1⟩, ⟨1, 1, 2⟩⟩, ⟨⟨1, 1, 2⟩, ⟨1, 2, 2⟩⟩, ⟨⟨1, 2, 2⟩, ⟨1, 2, 1⟩⟩, ⟨⟨1, 2, 1⟩, ⟨1, 1, 1⟩⟩, ⟨⟨2, 1, 1⟩, ⟨2, 2, 1⟩⟩, ⟨⟨2, 2, 1⟩, ⟨2, 2, 2⟩⟩, ⟨⟨2, 2, 2⟩, ⟨2, 1, 2⟩⟩, ⟨⟨2, 1, 2⟩, ⟨2, 1, 1⟩⟩, ⟨⟨1, 1, 1⟩, ⟨2, 1, 1⟩⟩, ⟨⟨2, 1, 1⟩, ⟨2, 1, 2⟩⟩, ⟨⟨2, 1, 2⟩, ⟨1, 1, 2⟩⟩, ⟨⟨1, 1, 2⟩, ⟨1, 1, 1⟩⟩, ⟨⟨1, 2, 1⟩, ⟨1, 2, 2⟩⟩, ⟨⟨1, 2, 2⟩, ⟨2, 2, 2⟩⟩, ⟨⟨2, 2, 2⟩, ⟨2, 2, 1⟩⟩, ⟨⟨2, 2, 1⟩, ⟨1, 2, 1⟩⟩, ⟨⟨1, 1, 1⟩, ⟨1, 2, 1⟩⟩, ⟨⟨1, 2, 1⟩, ⟨2, 2, 1⟩⟩, ⟨⟨2, 2, 1⟩, ⟨2, 1, 1⟩⟩, ⟨⟨2, 1, 1⟩, ⟨1, 1, 1⟩⟩, ⟨⟨1, 1, 2⟩, ⟨2, 1, 2⟩⟩, ⟨⟨2, 1, 2⟩, ⟨2, 2, 2⟩⟩, ⟨⟨2, 2, 2⟩, ⟨1, 2, 2⟩⟩, ⟨⟨1, 2, 2⟩, ⟨1, 1, 2⟩⟩]
set_option maxRecDepth 100000
theorem ball_quads : quadsU (solF [ballC] T0m 1) 1 = bQ := by decide +kernel
theorem bQ_anti {a b : Qd} (ha : a ∈ bQ) (hb : b ∈ bQ) (h1 : ¬ cmpQ b a < 0) (h2 : ¬ cmpQ a b < 0) : a = b := by
 have h : ∀ a ∈ bQ, ∀ b ∈ bQ, ¬ cmpQ b a < 0 → ¬ cmpQ a b < 0 → a = b := by decide +kernel
 exact h a ha b hb h1 h2
theorem ball_sorted {d : List Qd} (hp : d.Perm bQ) (hs : SortedQ d) : d = bQ := by
 refine List.Perm.eq_of_pairwise (le := fun a b => ¬ cmpQ b a < 0) (fun a b ha hb h1 h2 => bQ_anti (hp.mem_iff.1 ha) hb h1 h2) ?_ ?_ hp
 ·rw [List.pairwise_iff_getElem]
  intro i j hi hj hij
  exact hs i j _ _ hij (List.getElem?_eq_getElem hi) (List.getElem?_eq_getElem hj)
 ·have h : ∀ i < 6, ∀ j < 6, i < j → ¬ cmpQ (bQ.getD j q0) (bQ.getD i q0) < 0 := by decide +kernel
  rw [List.pairwise_iff_getElem]
  intro i j hi hj hij
  have h2 := h i hi j hj hij
  rwa [List.getD_eq_getElem?_getD, List.getD_eq_getElem?_getD, List.getElem?_eq_getElem hi, List.getElem?_eq_getElem hj] at h2
theorem ball_spans : spansU 1 bQ 6 = bS := by decide +kernel
theorem ball_halfs : halfsU 1 bQ 6 = bH.map fun x => { x with tw := 0 } := by decide +kernel
theorem ball_ids : ∀ m < 24, idsS bS ⟨(bS.getD m ⟨p0, p0⟩).mx, (bS.getD m ⟨p0, p0⟩).mn⟩ = [(bH.getD m ⟨p0, 0, 0, 0⟩).tw] := by decide +kernel
theorem hf_ext {x y : Hf} (h1 : x.p = y.p) (h2 : x.nx = y.nx) (h3 : x.tw = y.tw) (h4 : x.fc = y.fc) : x = y := by cases x; cases y; simp only at *; subst h1; subst h2; subst h3; subst h4; rfl
theorem ball_mesh {H : List Hf} (h : TwOk (halfsU 1 bQ 6) H (spansU 1 bQ 6) 24) : H = bH := by
 rw [ball_spans, ball_halfs] at h
 obtain ⟨hl, h⟩ := h
 rw [List.length_map] at hl
 refine List.ext_getElem? fun m => ?_
 by_cases hm : m < 24
 ·have h1 : m < H.length := by rw [hl]; exact hm
  obtain ⟨y, hy, e1, e2, e3, e4⟩ := h m _ (List.getElem?_eq_getElem h1)
  have hb : bH[m]? = some (bH.getD m ⟨p0, 0, 0, 0⟩) := getD_of _ hm
  have hs : bS[m]? = some (bS.getD m ⟨p0, p0⟩) := getD_of _ hm
  rw [List.getElem?_map, hb] at hy
  simp only [Option.map_some, Option.some.injEq] at hy
  have e5 := e4 hm _ _ hs (ball_ids m hm)
  rw [hb, List.getElem?_eq_getElem h1]
  subst hy
  exact congrArg some (hf_ext e1 e2 e5 e3)
 ·have hl2 : bH.length = 24 := rfl
  rw [List.getElem?_eq_none (by omega), List.getElem?_eq_none (by omega)]
def nxB (k : Nat) : Nat := 4 * (k / 4) + (k + 1) % 4
def fcB (k : Nat) : Nat := k / 4
def twL : List Nat := [11, 23, 12, 16, 18, 14, 21, 9, 19, 7, 20, 0, 2, 22, 5, 17, 3, 15, 4, 8, 10, 6, 13, 1]
def twB (k : Nat) : Nat := twL.getD k 0
def h0 : Hf := ⟨p0, 0, 0, 0⟩
def hB (k : Nat) : Hf := bH.getD k h0
theorem bH_get {k : Nat} (h : k < 24) : bH[k]? = some (hB k) := getD_of _ h
theorem hB_ok : ∀ k < 24, (hB k).nx = (nxB k : Int) ∧ (hB k).tw = (twB k : Int) ∧ (hB k).fc = (fcB k : Int) ∧ nxB k < 24 ∧ twB k < 24 ∧ fcB k < 6 ∧ nxB (twB k) < 24 ∧ fcB (twB k) < 6 := by decide +kernel
end Go.Proofs.YtbpihalphhoiaaaGreatDoor
namespace Go.Proofs.YtbpihalphhoiaaaGreatDoor
open Go.RowKit
section
variable {P : Program} {ops : Array Oper} {Q : Exit → Act → World → Prop} {a : Act} {w w0 : World} {o : Oper} {L M : List Res} {i : Nat} {x y : Operand} {t ty e : TypeId}
theorem Mem.arrRow {g n size : Nat} {cs : List Value} (j : Nat) (h : Mem w0 w L) (hj : L[j]? = some (.arr g e cs)) (hl : cs.length = n * size) (hn : n ≤ maxLen) : Mem w0 w (L.set j (.row (.slice (some ⟨g, 0, none⟩) n n) e size n cs)) := by
 refine ⟨h.bel, fun s hs => ?_, resApart_set h.apart fun k s hk hs => ?_⟩
 ·rcases resMem_set_ne hs with rfl | ⟨k, _, hk⟩
  ·exact own_of_arr (h.arr j hj) hl (h.arrGe j hj) hn
  ·exact h.each s (List.mem_of_getElem? hk)
 ·have h1 := resApart_at h.apart (Ne.symm hk) hj hs
  exact h1
theorem Mem.rd1 {A : Option Addr} {size n c : Nat} {xs : List Value} (h : Rd w w.heap.size size A n c xs) : Mem w w [.rd A size n c xs] := ⟨Below.refl _ _, fun s hs => by rw [List.mem_singleton] at hs; subst hs; exact h, List.pairwise_singleton _ _⟩
theorem Mem.dupRd {A : Option Addr} {size n c : Nat} {xs : List Value} (j : Nat) (h : Mem w0 w L) (hj : L[j]? = some (.rd A size n c xs)) : Mem w0 w (.rd A size n c xs :: L) := by
 refine ⟨h.bel, fun s hs => ?_, List.pairwise_cons.2 ⟨fun s hs => ?_, h.apart⟩⟩
 ·rcases List.mem_cons.1 hs with rfl | hs
  ·exact h.each _ (List.mem_of_getElem? hj)
  ·exact h.each s hs
 ·obtain ⟨k, hk⟩ := List.getElem?_of_mem hs
  by_cases hkj : k = j
  ·subst hkj
   rw [hj] at hk
   cases hk
   exact Or.inl ⟨rfl, rfl⟩
  ·exact resApart_at h.apart (Ne.symm hkj) hj hk
theorem mkRunT {rest : List Oper} {n m : Nat} {cs : List Value} (hgd : Region.wanted o (yielded ops a.tmps) = true) (ho : o.op = .makeSlice t x y) (hx : a.eval x = .int .i64 (m : Int)) (hy : a.eval y = .int .i64 (m : Int))
 (hmk : ∀ w : World, (Instr.makeSlice t (.int .i64 (m : Int)) (.int .i64 (m : Int))).run P w = .ok (.slice (some ⟨w.heap.size, 0, none⟩) m m) (w.alloc (.cells cs.toArray e)))
 (h : ∀ w', Arr w' w.heap.size e cs → Below w.heap.size w w' → wpList P ops Q rest (a.put o.dst (.slice (some ⟨w.heap.size, 0, none⟩) m m)) w') : wpList P ops Q (o :: rest) a w := by
 refine wpList_want hgd fun K hK => ?_
 unfold Oper.wp execOp
 simp only [ho, hx, hy, Sem.run_bind, hmk, Result.andThen_ok]
 exact hK _ _ (h _ (Arr.new w e cs) ((Below.refl _ _).alloc (Nat.le_refl _) _))
theorem plMakeRow {m : Nat} {cs : List Value} (hm : Mem w0 w L) (hi : ops.toList[i]? = some o) (hw : Region.wanted o (yielded ops a.tmps) = true) (ho : o.op = .makeSlice t x y) (hx : a.eval x = .int .i64 (m : Int)) (hy : a.eval y = .int .i64 (m : Int))
 (hmk : ∀ w : World, (Instr.makeSlice t (.int .i64 (m : Int)) (.int .i64 (m : Int))).run P w = .ok (.slice (some ⟨w.heap.size, 0, none⟩) m m) (w.alloc (.cells cs.toArray e))) (hl : cs.length = m * 1) (hn : m ≤ maxLen)
 (h : ∀ g w', Mem w0 w' (L ++ [.row (.slice (some ⟨g, 0, none⟩) m m) e 1 m cs]) → PL P ops Q (i + 1) (a.put o.dst (.slice (some ⟨g, 0, none⟩) m m)) w') : PL P ops Q i a w := by
 refine plOf hi (mkRunT (n := m) hw ho hx hy hmk fun w' hA hB => (h _ w' ?_).out)
 exact hm.newRow hB (own_of_arr hA hl (Nat.le_refl _) hn)
end
section
variable {P : Program} {ops : Array Oper} {Q : Exit → Act → World → Prop} {w0 : World} {a0 : Act} {N : Nat} {val : Nat → List Nat → Value} {adr : Nat → List Nat} {L : (Nat → Bool) → (Nat → Nat) → List Res} {i : Nat} {o : Oper}
end
def noP (Q : Exit → Act → World → Prop) : Exit → Act → World → Prop := fun e a w => match e with
 | .panic _ => False
 | e => Q e a w
theorem wpNoPanic {P : Program} {Q : Exit → Act → World → Prop} {a : Act} {w : World} {c : Code} (h : c.wp P (noP Q) a w) : c.wp P Q a w := wp_mono h fun e a w h => by
 cases e <;> first | exact h | exact h.elim
theorem noPN {Q : Exit → Act → World → Prop} {a : Act} {w : World} (h : Q .normal a w) : noP Q .normal a w := h
namespace LD
section
variable {P : Program} {ops : Array Oper} {Q : Exit → Act → World → Prop} {w0 : World} {a0 : Act} {N : Nat} {val : Nat → List Nat → Value} {adr : Nat → List Nat} {L : (Nat → Bool) → (Nat → Nat) → List Res} {i : Nat} {o : Oper} {ds : List Deferred}
theorem aoNewAg {z : List Value} {ty : TypeId} {n : Nat} (j : Nat) (T : AgTy P ty z.toArray n) (hw : o.guard = none) (ho : o.op = .alloc ty) (hj : ∀ b g, AoB ops i b → ∃ r, (L b g)[j]? = some r) (hL : ∀ b g γ, AoB ops i b → L (upd b i true) (upd g i γ) = (L b g).set j (.arr γ ty z))
 (hv : ∀ γ, val i [γ] = .pointer (some ⟨γ, 0, none⟩)) (ha : adr i = [i]) : AoStep ds P ops Q w0 a0 N val adr L i o := by
 intro b g a w hb hp hp2 _ hm
 obtain ⟨r, hr⟩ := hj b g ⟨hb, hp, hp2⟩
 refine alArr T (wn hw) ho fun w' hA hB => ?_
 refine ⟨w.heap.size, ?_, ?_⟩
 ·rw [ha]; simp [upd, hv]
 ·rw [hL b g _ ⟨hb, hp, hp2⟩]; exact hm.setNew j hr hA hB
theorem aoLit {t e : TypeId} {z : Value} {size bytes n : Nat} {parts : Array (Nat × Operand)} {cs : (Nat → Nat) → List Value} (j : Nat) (li : (Nat → Nat) → List (Nat × Value)) (hfr : ∀ g a, AoKn ds ops a0 N val adr i g a → FrIs a (li g)) (T : SlTy P t e z size bytes) (hw : ∀ g X, Region.wanted o (yielded ops (lit ds N X (li g)).tmps) = true) (ho : o.op = .buildSlice t n parts) (hn : n * size ≤ 65536) (hn0 : ¬ n * size = 0)
 (hf : ∀ g X, Instr.fill (fun i => some (i * size, size)) ((Array.range (n * size)).map (z.cells[· % z.cells.size]!)) (parts.map fun (i, x) => (i, (lit ds N X (li g)).eval x)).toList = some (cs g).toArray)
 (hj : ∀ b g, AoB ops i b → ∃ r, (L b g)[j]? = some r) (hL : ∀ b g γ, AoB ops i b → L (upd b i true) (upd g i γ) = (L b g).set j (.arr γ e (cs g)))
 (hv : ∀ γ, val i [γ] = .slice (some ⟨γ, 0, none⟩) n n) (ha : adr i = [i]) : AoStep ds P ops Q w0 a0 N val adr L i o := by
 intro b g a w hb hp hp2 hk hm
 obtain ⟨r, hr⟩ := hj b g ⟨hb, hp, hp2⟩
 obtain ⟨X, rfl⟩ := frLit (⟨hk.size, hk.defers, hfr g a hk⟩ : Fr a N (li g))
 obtain ⟨ti, hti, hz0, hz1, hz2⟩ := info_parts T.inf
 refine wpList_want (hw g X) fun K hK => wp_buildSlice t e n _ ho (cs g).toArray ti z T.und hti hz0 (by rw [hz1]; omega) (by rw [hz1]; exact hn0) (by rw [hz1]; exact hf g X) (hK _ _ ?_)
 refine ⟨w.heap.size, ?_, ?_⟩
 ·rw [ha]; simp [upd, hv]
 ·rw [hL b g _ ⟨hb, hp, hp2⟩]; exact hm.setNew j hr (Arr.new w e (cs g)) ((Below.refl _ _).alloc (Nat.le_refl _) _)
theorem aoMakeT {t e : TypeId} {m : Nat} {x y : Operand} {cs : List Value} (j : Nat) (li : (Nat → Nat) → List (Nat × Value)) (hfr : ∀ g a, AoKn ds ops a0 N val adr i g a → FrIs a (li g)) (hw : ∀ g X, Region.wanted o (yielded ops (lit ds N X (li g)).tmps) = true) (ho : o.op = .makeSlice t x y) (hx : ∀ g X, (lit ds N X (li g)).eval x = .int .i64 (m : Int)) (hy : ∀ g X, (lit ds N X (li g)).eval y = .int .i64 (m : Int))
 (hmk : ∀ w : World, (Instr.makeSlice t (.int .i64 (m : Int)) (.int .i64 (m : Int))).run P w = .ok (.slice (some ⟨w.heap.size, 0, none⟩) m m) (w.alloc (.cells cs.toArray e)))
 (hj : ∀ b g, AoB ops i b → ∃ r, (L b g)[j]? = some r) (hL : ∀ b g γ, AoB ops i b → L (upd b i true) (upd g i γ) = (L b g).set j (.arr γ e cs))
 (hv : ∀ γ, val i [γ] = .slice (some ⟨γ, 0, none⟩) m m) (ha : adr i = [i]) : AoStep ds P ops Q w0 a0 N val adr L i o := by
 intro b g a w hb hp hp2 hk hm
 obtain ⟨X, rfl⟩ := frLit (⟨hk.size, hk.defers, hfr g a hk⟩ : Fr a N (li g))
 obtain ⟨r, hr⟩ := hj b g ⟨hb, hp, hp2⟩
 refine mkRunT (n := m) (hw g X) ho (hx g X) (hy g X) hmk fun w' hA hB => ?_
 refine ⟨w.heap.size, ?_, ?_⟩
 ·rw [ha]; simp [upd, hv]
 ·rw [hL b g _ ⟨hb, hp, hp2⟩]; exact hm.setNew j hr hA hB
end
end LD
theorem air_any (w : World) : Calls Tryz.prog 59 #[] w (RetV w (.agg (mcs ⟨[97, 105, 114], false, false, false, 1, 0, 0, 0⟩).toArray)) := by
 have hm0 := Mem.nil w
 go_enter Tryz.func59, Tryz.ntmps59
 refine litStart 2 [] kr_ (fun X0 => ?_)
 refine sp_ fun _ hK1 => ?_
 refine plAlloc (z := [.string ⟨([]).toArray⟩, .bool false, .bool false, .bool false, .int .i64 0, .int .i64 0, .int .i64 0, .int .i64 0]) Ty.ag_voxel_api_Material hm0 (i := 0) rfl (wn rfl) rfl ?_
 intro g2 w4 hm3
 clear hm0
 try simp only [lc_] at hm3
 refine qP rfl ?_
 refine pt_ hK1 ?_
 refine sp_ fun _ hK5 => ?_
 refine lk_ (.agg ([.string ⟨([97, 105, 114]).toArray⟩, .bool false, .bool false, .bool false, .int .i64 1, .int .i64 0, .int .i64 0, .int .i64 0]).toArray) ?_
 refine plStore 0 Ty.ag_voxel_api_Material hm3 rfl (i := 1) (cs := [.string ⟨([97, 105, 114]).toArray⟩, .bool false, .bool false, .bool false, .int .i64 1, .int .i64 0, .int .i64 0, .int .i64 0]) rfl (wn rfl) rfl le_ le_ rfl rfl kr_ ?_
 intro w7 hm6
 clear hm3
 try simp only [lc_] at hm6
 refine qNone rfl ?_
 refine pt_ hK5 ?_
 refine wp_ret ?_
 refine bodyPost_ret (v := .agg ([.string ⟨([97, 105, 114]).toArray⟩, .bool false, .bool false, .bool false, .int .i64 1, .int .i64 0, .int .i64 0, .int .i64 0]).toArray) (gRes1 rfl (gResAg (cs := [.string ⟨([97, 105, 114]).toArray⟩, .bool false, .bool false, .bool false, .int .i64 1, .int .i64 0, .int .i64 0, .int .i64 0]) 0 hm6 rfl Ty.ag_voxel_api_Material rfl (lg_))) rfl ?_
 exact ⟨by rfl, hm6.bel⟩
theorem default_any (w : World) : Calls Tryz.prog 20 #[] w (fun e w' => ∃ v, e = .returned v ∧ w'.ownsRow w.heap.size 122 8 v 9 (mts T0m) ∧ Below w.heap.size w w') := by
 have hm0 := Mem.nil w
 go_enter Tryz.func20, Tryz.ntmps20
 refine litStart 13 [] kr_ (fun X0 => ?_)
 refine sp_ fun _ hK1 => ?_
 refine lk_ (.slice none 0 0) ?_
 refine pt_ hK1 ?_
 refine sp_ fun _ hK2 => ?_
 refine plCall (i := 0) 59 [] [] [] rfl kr_ (wn rfl) rfl le_ (litArgs kr_) (air_any _) ?_
 rintro e w3 ⟨rfl, hbz⟩
 have hm4 := hm0.below hbz
 clear hbz hm0
 refine ⟨_, rfl, ?_⟩
 refine qP rfl ?_
 refine lk_ (.agg ([.string ⟨([115, 116, 111, 110, 101]).toArray⟩, .bool true, .bool false, .bool false, .int .i64 16, .int .i64 0, .int .i64 0, .int .i64 0]).toArray) ?_
 refine lk_ (.agg ([.string ⟨([103, 108, 97, 115, 115]).toArray⟩, .bool true, .bool false, .bool false, .int .i64 1, .int .i64 0, .int .i64 0, .int .i64 0]).toArray) ?_
 refine lk_ (.agg (pcs ⟨15, 14, 10⟩).toArray) ?_
 refine lk_ (.agg ([.string ⟨([108, 97, 109, 112]).toArray⟩, .bool true, .bool false, .bool false, .int .i64 16, .int .i64 15, .int .i64 14, .int .i64 10]).toArray) ?_
 refine lk_ (.agg ([.string ⟨([115, 97, 110, 100]).toArray⟩, .bool true, .bool false, .bool true, .int .i64 16, .int .i64 0, .int .i64 0, .int .i64 0]).toArray) ?_
 refine lk_ (.agg ([.string ⟨([119, 97, 116, 101, 114]).toArray⟩, .bool false, .bool true, .bool false, .int .i64 3, .int .i64 0, .int .i64 0, .int .i64 0]).toArray) ?_
 refine lk_ (.agg ([.string ⟨([108, 101, 97, 118, 101, 115]).toArray⟩, .bool true, .bool false, .bool false, .int .i64 2, .int .i64 0, .int .i64 0, .int .i64 0]).toArray) ?_
 refine lk_ (.agg (pcs ⟨9, 3, 0⟩).toArray) ?_
 refine lk_ (.agg ([.string ⟨([101, 109, 98, 101, 114]).toArray⟩, .bool true, .bool false, .bool false, .int .i64 16, .int .i64 9, .int .i64 3, .int .i64 0]).toArray) ?_
 refine lk_ (.agg ([.string ⟨([102, 111, 103]).toArray⟩, .bool false, .bool false, .bool false, .int .i64 2, .int .i64 0, .int .i64 0, .int .i64 0]).toArray) ?_
 refine plLit (cs := [.string ⟨([97, 105, 114]).toArray⟩, .bool false, .bool false, .bool false, .int .i64 1, .int .i64 0, .int .i64 0, .int .i64 0, .string ⟨([115, 116, 111, 110, 101]).toArray⟩, .bool true, .bool false, .bool false, .int .i64 16, .int .i64 0, .int .i64 0, .int .i64 0, .string ⟨([103, 108, 97, 115, 115]).toArray⟩, .bool true, .bool false, .bool false, .int .i64 1, .int .i64 0, .int .i64 0, .int .i64 0, .string ⟨([108, 97, 109, 112]).toArray⟩, .bool true, .bool false, .bool false, .int .i64 16, .int .i64 15, .int .i64 14, .int .i64 10, .string ⟨([115, 97, 110, 100]).toArray⟩, .bool true, .bool false, .bool true, .int .i64 16, .int .i64 0, .int .i64 0, .int .i64 0, .string ⟨([119, 97, 116, 101, 114]).toArray⟩, .bool false, .bool true, .bool false, .int .i64 3, .int .i64 0, .int .i64 0, .int .i64 0, .string ⟨([108, 101, 97, 118, 101, 115]).toArray⟩, .bool true, .bool false, .bool false, .int .i64 2, .int .i64 0, .int .i64 0, .int .i64 0, .string ⟨([101, 109, 98, 101, 114]).toArray⟩, .bool true, .bool false, .bool false, .int .i64 16, .int .i64 9, .int .i64 3, .int .i64 0, .string ⟨([102, 111, 103]).toArray⟩, .bool false, .bool false, .bool false, .int .i64 2, .int .i64 0, .int .i64 0, .int .i64 0]) (n := 9) Ty.sl_L_api_Material hm4 (i := 11) rfl (wn rfl) rfl (by decide) (by decide) (by rw [lit_eval]; kernel_rfl) ?_
 intro g5 w7 hm6
 clear hm4
 try simp only [lc_] at hm6
 refine qP rfl ?_
 refine lk_ (.slice (some ⟨g5, 0, none⟩) 9 9) ?_
 refine pt_ hK2 ?_
 refine wpPrune [(0, .slice (some ⟨g5, 0, none⟩) 9 9)] fo_ (fun X8 => ?_)
 refine wp_ret ?_
 refine br_ 0 (.slice (some ⟨g5, 0, none⟩) 9 9) ?_
 exact ⟨_, rfl, own_of_arr (hm6.arr 0 rfl) rfl (hm6.arrGe 0 rfl) (by decide), hm6.bel⟩
def straightP (p q : Pt) : Prop := (p.x ≠ q.x ∧ p.y = q.y ∧ p.z = q.z) ∨ (p.x = q.x ∧ p.y ≠ q.y ∧ p.z = q.z) ∨ (p.x = q.x ∧ p.y = q.y ∧ p.z ≠ q.z)
instance (p q : Pt) : Decidable (straightP p q) := by unfold straightP; infer_instance
theorem straight_any (p q : Pt) (h : straightP p q) (w : World) : Calls Tryz.prog 64 #[.agg (pcs p).toArray, .agg (pcs q).toArray] w (RetV w (.bool true)) := by
 have hm0 := Mem.nil w
 go_enter Tryz.func64, Tryz.ntmps64
 refine litStart 33 [(0, .agg (pcs p).toArray), (1, .agg (pcs q).toArray)] kr_ (fun X0 => ?_)
 refine sp_ fun _ hK1 => ?_
 refine plBox hm0 (cs := pcs p) (i := 0) rfl (wn rfl) rfl le_ ?_
 intro g2 w4 hm3
 clear hm0
 try simp only [lc_] at hm3
 refine qP rfl ?_
 refine plBox hm3 (cs := pcs q) (i := 1) rfl (wn rfl) rfl le_ ?_
 intro g5 w7 hm6
 clear hm3
 try simp only [lc_] at hm6
 refine qP rfl ?_
 refine lF_ ?_
 refine pt_ hK1 ?_
 refine sp_ fun _ hK8 => ?_
 refine li_ 0 ?_
 refine pt_ hK8 ?_
 refine sk_ fun _ hK9 => ?_
 refine sp_ fun _ hK10 => ?_
 refine lp_ g2 0 ?_
 refine lv_ rfl (.int .i64 p.x) (ld_ 0 0 hm6) ?_
 refine lp_ g5 0 ?_
 refine lv_ rfl (.int .i64 q.x) (ld_ 0 1 hm6) ?_
 by_cases h11 : p.x = q.x
 ·refine lv_ rfl _ (neT_ h11) ?_
  refine lp_ g2 1 ?_
  refine lv_ rfl (.int .i64 p.y) (ld_ 1 0 hm6) ?_
  refine lp_ g5 1 ?_
  refine lv_ rfl (.int .i64 q.y) (ld_ 1 1 hm6) ?_
  by_cases h12 : p.y = q.y
  ·refine lv_ rfl _ (neT_ h12) ?_
   refine lp_ g2 2 ?_
   refine lv_ rfl (.int .i64 p.z) (ld_ 2 0 hm6) ?_
   refine lp_ g5 2 ?_
   refine lv_ rfl (.int .i64 q.z) (ld_ 2 1 hm6) ?_
   refine lv_ rfl _ (neF_ (show ¬ p.z = q.z by unfold straightP at h; omega)) ?_
   refine lk_ (.agg ([.bool false, .bool false, .bool true]).toArray) ?_
   refine li_ 0 ?_
   refine pt_ hK10 ?_
   refine wpPrune [(4, .bool false), (5, .int .i64 0), (23, .agg ([.bool false, .bool false, .bool true]).toArray), (24, .int .i64 0)] fo_ (fun X13 => ?_)
   refine wp_block ?_
   refine roundsStart 4 ?_
   refine sp_ fun _ hK14 => ?_
   refine lT_ ?_
   refine pt_ hK14 ?_
   refine sk_ fun _ hK15 => ?_
   refine wp_cond_true le_ ?_
   refine wp_skip ?_
   refine tn_ hK15 ?_
   refine sk_ fun _ hK16 => ?_
   refine wp_block ?_
   refine sp_ fun _ hK17 => ?_
   refine lF_ ?_
   refine lF_ ?_
   refine pt_ hK17 ?_
   refine sp_ fun _ hK18 => ?_
   refine lF_ ?_
   refine pt_ hK18 ?_
   refine wp_cond_false le_ ?_
   refine wp_skip ?_
   refine inBlock_normal ?_
   refine tn_ hK16 ?_
   refine plStart ?_
   refine li_ 1 ?_
   refine li_ 1 ?_
   refine plD ?_
   refine then_normal (roundsNext ?_)
   refine sp_ fun _ hK19 => ?_
   refine lT_ ?_
   refine pt_ hK19 ?_
   refine sk_ fun _ hK20 => ?_
   refine wp_cond_true le_ ?_
   refine wp_skip ?_
   refine tn_ hK20 ?_
   refine sk_ fun _ hK21 => ?_
   refine wp_block ?_
   refine sp_ fun _ hK22 => ?_
   refine lF_ ?_
   refine lF_ ?_
   refine pt_ hK22 ?_
   refine sp_ fun _ hK23 => ?_
   refine lF_ ?_
   refine pt_ hK23 ?_
   refine wp_cond_false le_ ?_
   refine wp_skip ?_
   refine inBlock_normal ?_
   refine tn_ hK21 ?_
   refine plStart ?_
   refine li_ 2 ?_
   refine li_ 2 ?_
   refine plD ?_
   refine then_normal (roundsNext ?_)
   refine sp_ fun _ hK24 => ?_
   refine lT_ ?_
   refine pt_ hK24 ?_
   refine sk_ fun _ hK25 => ?_
   refine wp_cond_true le_ ?_
   refine wp_skip ?_
   refine tn_ hK25 ?_
   refine sk_ fun _ hK26 => ?_
   refine wp_block ?_
   refine sp_ fun _ hK27 => ?_
   refine lT_ ?_
   refine lT_ ?_
   refine pt_ hK27 ?_
   refine sp_ fun _ hK28 => ?_
   refine lT_ ?_
   refine pt_ hK28 ?_
   refine wp_cond_true le_ ?_
   refine plStart ?_
   refine li_ 0 ?_
   refine li_ 1 ?_
   refine li_ 1 ?_
   refine plD ?_
   refine inBlock_normal ?_
   refine tn_ hK26 ?_
   refine plStart ?_
   refine li_ 3 ?_
   refine li_ 3 ?_
   refine plD ?_
   refine then_normal (roundsNext ?_)
   refine wpPrune [(4, .bool false), (5, .int .i64 1), (7, .bool true), (23, .agg ([.bool false, .bool false, .bool true]).toArray), (24, .int .i64 3), (25, .bool true), (26, .bool true), (27, .bool true), (28, .int .i64 0), (29, .int .i64 1), (30, .int .i64 3)] fo_ (fun X29 => ?_)
   refine sp_ fun _ hK30 => ?_
   refine lF_ ?_
   refine pt_ hK30 ?_
   refine sk_ fun _ hK31 => ?_
   refine wp_cond_false le_ ?_
   refine wp_exit ?_
   refine then_exit ?_
   refine then_exit ?_
   refine inBlock_exit ?_
   refine tn_ hK9 ?_
   refine sp_ fun _ hK32 => ?_
   refine li_ 1 ?_
   refine lT_ ?_
   refine lT_ ?_
   refine pt_ hK32 ?_
   refine wpPrune [(4, .bool true)] fo_ (fun X33 => ?_)
   refine wp_ret ?_
   refine br_ 4 (.bool true) ?_
   exact ⟨rfl, hm6.bel⟩
  refine lv_ rfl _ (neF_ h12) ?_
  refine lp_ g2 2 ?_
  refine lv_ rfl (.int .i64 p.z) (ld_ 2 0 hm6) ?_
  refine lp_ g5 2 ?_
  refine lv_ rfl (.int .i64 q.z) (ld_ 2 1 hm6) ?_
  refine lv_ rfl _ (neT_ (show p.z = q.z by unfold straightP at h; omega)) ?_
  refine lk_ (.agg ([.bool false, .bool true, .bool false]).toArray) ?_
  refine li_ 0 ?_
  refine pt_ hK10 ?_
  refine wpPrune [(4, .bool false), (5, .int .i64 0), (23, .agg ([.bool false, .bool true, .bool false]).toArray), (24, .int .i64 0)] fo_ (fun X34 => ?_)
  refine wp_block ?_
  refine roundsStart 4 ?_
  refine sp_ fun _ hK35 => ?_
  refine lT_ ?_
  refine pt_ hK35 ?_
  refine sk_ fun _ hK36 => ?_
  refine wp_cond_true le_ ?_
  refine wp_skip ?_
  refine tn_ hK36 ?_
  refine sk_ fun _ hK37 => ?_
  refine wp_block ?_
  refine sp_ fun _ hK38 => ?_
  refine lF_ ?_
  refine lF_ ?_
  refine pt_ hK38 ?_
  refine sp_ fun _ hK39 => ?_
  refine lF_ ?_
  refine pt_ hK39 ?_
  refine wp_cond_false le_ ?_
  refine wp_skip ?_
  refine inBlock_normal ?_
  refine tn_ hK37 ?_
  refine plStart ?_
  refine li_ 1 ?_
  refine li_ 1 ?_
  refine plD ?_
  refine then_normal (roundsNext ?_)
  refine sp_ fun _ hK40 => ?_
  refine lT_ ?_
  refine pt_ hK40 ?_
  refine sk_ fun _ hK41 => ?_
  refine wp_cond_true le_ ?_
  refine wp_skip ?_
  refine tn_ hK41 ?_
  refine sk_ fun _ hK42 => ?_
  refine wp_block ?_
  refine sp_ fun _ hK43 => ?_
  refine lT_ ?_
  refine lT_ ?_
  refine pt_ hK43 ?_
  refine sp_ fun _ hK44 => ?_
  refine lT_ ?_
  refine pt_ hK44 ?_
  refine wp_cond_true le_ ?_
  refine plStart ?_
  refine li_ 0 ?_
  refine li_ 1 ?_
  refine li_ 1 ?_
  refine plD ?_
  refine inBlock_normal ?_
  refine tn_ hK42 ?_
  refine plStart ?_
  refine li_ 2 ?_
  refine li_ 2 ?_
  refine plD ?_
  refine then_normal (roundsNext ?_)
  refine sp_ fun _ hK45 => ?_
  refine lT_ ?_
  refine pt_ hK45 ?_
  refine sk_ fun _ hK46 => ?_
  refine wp_cond_true le_ ?_
  refine wp_skip ?_
  refine tn_ hK46 ?_
  refine sk_ fun _ hK47 => ?_
  refine wp_block ?_
  refine sp_ fun _ hK48 => ?_
  refine lF_ ?_
  refine lF_ ?_
  refine pt_ hK48 ?_
  refine sp_ fun _ hK49 => ?_
  refine lF_ ?_
  refine pt_ hK49 ?_
  refine wp_cond_false le_ ?_
  refine wp_skip ?_
  refine inBlock_normal ?_
  refine tn_ hK47 ?_
  refine plStart ?_
  refine li_ 3 ?_
  refine li_ 3 ?_
  refine plD ?_
  refine then_normal (roundsNext ?_)
  refine wpPrune [(4, .bool false), (5, .int .i64 1), (7, .bool false), (23, .agg ([.bool false, .bool true, .bool false]).toArray), (24, .int .i64 3), (25, .bool true), (26, .bool false), (27, .bool false), (28, .int .i64 0), (29, .int .i64 1), (30, .int .i64 3)] fo_ (fun X50 => ?_)
  refine sp_ fun _ hK51 => ?_
  refine lF_ ?_
  refine pt_ hK51 ?_
  refine sk_ fun _ hK52 => ?_
  refine wp_cond_false le_ ?_
  refine wp_exit ?_
  refine then_exit ?_
  refine then_exit ?_
  refine inBlock_exit ?_
  refine tn_ hK9 ?_
  refine sp_ fun _ hK53 => ?_
  refine li_ 1 ?_
  refine lT_ ?_
  refine lT_ ?_
  refine pt_ hK53 ?_
  refine wpPrune [(4, .bool true)] fo_ (fun X54 => ?_)
  refine wp_ret ?_
  refine br_ 4 (.bool true) ?_
  exact ⟨rfl, hm6.bel⟩
 refine lv_ rfl _ (neF_ h11) ?_
 refine lp_ g2 1 ?_
 refine lv_ rfl (.int .i64 p.y) (ld_ 1 0 hm6) ?_
 refine lp_ g5 1 ?_
 refine lv_ rfl (.int .i64 q.y) (ld_ 1 1 hm6) ?_
 refine lv_ rfl _ (neT_ (show p.y = q.y by unfold straightP at h; omega)) ?_
 refine lp_ g2 2 ?_
 refine lv_ rfl (.int .i64 p.z) (ld_ 2 0 hm6) ?_
 refine lp_ g5 2 ?_
 refine lv_ rfl (.int .i64 q.z) (ld_ 2 1 hm6) ?_
 refine lv_ rfl _ (neT_ (show p.z = q.z by unfold straightP at h; omega)) ?_
 refine lk_ (.agg ([.bool true, .bool false, .bool false]).toArray) ?_
 refine li_ 0 ?_
 refine pt_ hK10 ?_
 refine wpPrune [(4, .bool false), (5, .int .i64 0), (23, .agg ([.bool true, .bool false, .bool false]).toArray), (24, .int .i64 0)] fo_ (fun X55 => ?_)
 refine wp_block ?_
 refine roundsStart 4 ?_
 refine sp_ fun _ hK56 => ?_
 refine lT_ ?_
 refine pt_ hK56 ?_
 refine sk_ fun _ hK57 => ?_
 refine wp_cond_true le_ ?_
 refine wp_skip ?_
 refine tn_ hK57 ?_
 refine sk_ fun _ hK58 => ?_
 refine wp_block ?_
 refine sp_ fun _ hK59 => ?_
 refine lT_ ?_
 refine lT_ ?_
 refine pt_ hK59 ?_
 refine sp_ fun _ hK60 => ?_
 refine lT_ ?_
 refine pt_ hK60 ?_
 refine wp_cond_true le_ ?_
 refine plStart ?_
 refine li_ 0 ?_
 refine li_ 1 ?_
 refine li_ 1 ?_
 refine plD ?_
 refine inBlock_normal ?_
 refine tn_ hK58 ?_
 refine plStart ?_
 refine li_ 1 ?_
 refine li_ 1 ?_
 refine plD ?_
 refine then_normal (roundsNext ?_)
 refine sp_ fun _ hK61 => ?_
 refine lT_ ?_
 refine pt_ hK61 ?_
 refine sk_ fun _ hK62 => ?_
 refine wp_cond_true le_ ?_
 refine wp_skip ?_
 refine tn_ hK62 ?_
 refine sk_ fun _ hK63 => ?_
 refine wp_block ?_
 refine sp_ fun _ hK64 => ?_
 refine lF_ ?_
 refine lF_ ?_
 refine pt_ hK64 ?_
 refine sp_ fun _ hK65 => ?_
 refine lF_ ?_
 refine pt_ hK65 ?_
 refine wp_cond_false le_ ?_
 refine wp_skip ?_
 refine inBlock_normal ?_
 refine tn_ hK63 ?_
 refine plStart ?_
 refine li_ 2 ?_
 refine li_ 2 ?_
 refine plD ?_
 refine then_normal (roundsNext ?_)
 refine sp_ fun _ hK66 => ?_
 refine lT_ ?_
 refine pt_ hK66 ?_
 refine sk_ fun _ hK67 => ?_
 refine wp_cond_true le_ ?_
 refine wp_skip ?_
 refine tn_ hK67 ?_
 refine sk_ fun _ hK68 => ?_
 refine wp_block ?_
 refine sp_ fun _ hK69 => ?_
 refine lF_ ?_
 refine lF_ ?_
 refine pt_ hK69 ?_
 refine sp_ fun _ hK70 => ?_
 refine lF_ ?_
 refine pt_ hK70 ?_
 refine wp_cond_false le_ ?_
 refine wp_skip ?_
 refine inBlock_normal ?_
 refine tn_ hK68 ?_
 refine plStart ?_
 refine li_ 3 ?_
 refine li_ 3 ?_
 refine plD ?_
 refine then_normal (roundsNext ?_)
 refine wpPrune [(4, .bool false), (5, .int .i64 1), (7, .bool false), (23, .agg ([.bool true, .bool false, .bool false]).toArray), (24, .int .i64 3), (25, .bool true), (26, .bool false), (27, .bool false), (28, .int .i64 0), (29, .int .i64 1), (30, .int .i64 3)] fo_ (fun X71 => ?_)
 refine sp_ fun _ hK72 => ?_
 refine lF_ ?_
 refine pt_ hK72 ?_
 refine sk_ fun _ hK73 => ?_
 refine wp_cond_false le_ ?_
 refine wp_exit ?_
 refine then_exit ?_
 refine then_exit ?_
 refine inBlock_exit ?_
 refine tn_ hK9 ?_
 refine sp_ fun _ hK74 => ?_
 refine li_ 1 ?_
 refine lT_ ?_
 refine lT_ ?_
 refine pt_ hK74 ?_
 refine wpPrune [(4, .bool true)] fo_ (fun X75 => ?_)
 refine wp_ret ?_
 refine br_ 4 (.bool true) ?_
 exact ⟨rfl, hm6.bel⟩
theorem inB_any (n s : Int) (h : 0 ≤ n ∧ n < s) (w : World) : Calls Tryz.prog 63 #[.int .i64 n, .int .i64 s] w (RetV w (.bool true)) := by
 have hm0 := Mem.nil w
 go_enter Tryz.func63, Tryz.ntmps63
 refine litStart 12 [(0, .int .i64 n), (1, .int .i64 s)] kr_ (fun X0 => ?_)
 refine sp_ fun _ hK1 => ?_
 refine lF_ ?_
 refine pt_ hK1 ?_
 refine sp_ fun _ hK2 => ?_
 refine li_ n ?_
 refine lv_ rfl _ (geT_ h.1) ?_
 refine lT_ ?_
 refine lw_ rfl (.int .i64 n) (litRun kr_) ?_
 refine lw_ rfl (.int .i64 s) (litRun kr_) ?_
 refine lw_ rfl _ (lsT_ h.2) ?_
 refine lT_ ?_
 refine lT_ ?_
 refine pt_ hK2 ?_
 refine wp_ret ?_
 refine br_ 4 (.bool true) ?_
 exact ⟨by rfl, hm0.bel⟩
theorem few_any (n : Int) (h : 4 ≤ n) (w : World) : Calls Tryz.prog 67 #[.int .i64 n] w (RetV w (.bool false)) := by
 have hm0 := Mem.nil w
 go_enter Tryz.func67, Tryz.ntmps67
 refine litStart 5 [(0, .int .i64 n)] kr_ (fun X0 => ?_)
 refine sp_ fun _ hK1 => ?_
 refine lF_ ?_
 refine pt_ hK1 ?_
 refine sp_ fun _ hK2 => ?_
 refine li_ n ?_
 refine lv_ rfl _ (lsF_ (show ¬ n < 4 by omega)) ?_
 refine lF_ ?_
 refine pt_ hK2 ?_
 refine wp_ret ?_
 refine br_ 2 (.bool false) ?_
 exact ⟨by rfl, hm0.bel⟩
theorem indexC_any (ids : List Int) (hb : ∀ t ∈ ids, 4 ≤ t) (hp : 0 < ids.length) (hl : ids.length ≤ 1000000) (A : Option Addr) (ci : Nat) (w : World) (hi : Rd w w.heap.size 1 A ids.length ci (ics ids)) : Calls Tryz.prog 40 #[.slice A ids.length ci, .func (.func 67) #[] #[]] w (RetV w (.int .i64 (-1))) := by
 obtain ⟨bi_, oi_, rfl, _, _⟩ := hi.cells (by omega)
 have hm0 := Mem.nil w
 go_enter Tryz.func40, Tryz.ntmps40
 refine litStart 19 [(0, .slice (some ⟨bi_, oi_, none⟩) ids.length ci), (1, .func (.func 67) #[] #[])] kr_ (fun X0 => ?_)
 refine sp_ fun _ hK1 => ?_
 refine li_ 0 ?_
 refine pt_ hK1 ?_
 refine sk_ fun _ hK2 => ?_
 refine sp_ fun _ hK3 => ?_
 refine lk_ (.slice (some ⟨bi_, oi_, none⟩) ids.length ci) ?_
 refine lv_ rfl (.int .i64 (ids.length : Int)) (ln_ (some ⟨bi_, oi_, none⟩) ids.length ci Ty.und_L_int) ?_
 refine li_ 0 ?_
 refine pt_ hK3 ?_
 refine wp_block ?_
 refine gwLoop (fun n_ a_ w_ => ∃ (k : Nat), n_ = ids.length - k ∧ (k ≤ ids.length) ∧ Fr a_ 19 [(0, .slice (some ⟨bi_, oi_, none⟩) ids.length ci), (1, .func (.func 67) #[] #[]), (7, .int .i64 (ids.length : Int)), (8, .int .i64 (k : Int))] ∧ Mem w w_ []) (ids.length - 0) ⟨0, rfl, (Nat.zero_le _), ⟨litSize, rfl, fo_⟩, hm0⟩ ?_
 clear hm0
 intro n_ a6 w4 hI_
 obtain ⟨k, rfl, hk, hF_, hm5⟩ := hI_
 obtain ⟨X7, rfl⟩ := frLit hF_
 clear hF_
 refine sp_ fun _ hK8 => ?_
 by_cases h9 : (k : Int) < (ids.length : Int)
 ·have hk2_ : k < ids.length := by omega
  obtain ⟨t, hg_⟩ : ∃ t, ids[k]? = some t := ⟨_, List.getElem?_eq_getElem hk2_⟩
  refine lv_ rfl _ (lsT_ h9) ?_
  refine pt_ hK8 ?_
  refine sk_ fun _ hK10 => ?_
  refine wp_cond_true le_ ?_
  refine wp_skip ?_
  refine tn_ hK10 ?_
  refine sk_ fun _ hK11 => ?_
  refine wp_block ?_
  refine sp_ fun _ hK12 => ?_
  refine li_ k ?_
  refine li_ k ?_
  refine pt_ hK12 ?_
  refine sp_ fun _ hK13 => ?_
  refine lk_ (.func (.func 67) #[] #[]) ?_
  refine lk_ (.slice (some ⟨bi_, oi_, none⟩) ids.length ci) ?_
  refine li_ k ?_
  refine lv_ rfl (.pointer (some ⟨bi_, oi_ + k * 1, none⟩)) (ia_ ci k Ty.sl_L_int rfl hk2_) ?_
  refine lv_ rfl (.int .i64 t) (lr_ (m := k * 1) ((Rd.below hi hm5.bel).more hm5.bel.size) (icsGet hg_) (by omega)) ?_
  refine plCall (i := 5) 67 [.int .i64 t] [] [] rfl kr_ (wn rfl) rfl le_ (litArgs kr_) (few_any t (hb t (List.mem_of_getElem? hg_)) _) ?_
  rintro e w14 ⟨rfl, hbz⟩
  have hm15 := hm5.below hbz
  clear hbz hm5
  refine ⟨_, rfl, ?_⟩
  refine qP rfl ?_
  refine pt_ hK13 ?_
  refine wp_cond_false le_ ?_
  refine wp_skip ?_
  refine inBlock_normal ?_
  refine tn_ hK11 ?_
  refine plStart ?_
  refine lv_ rfl _ (ad_ (k : Int) 1) ?_
  refine li_ ((k : Int) + 1) ?_
  refine plD ?_
  refine then_normal ?_
  exact ⟨_, by omega, (k + 1), rfl, (by omega), ⟨litSize, rfl, fo_⟩, hm15⟩
 refine lv_ rfl _ (lsF_ h9) ?_
 refine pt_ hK8 ?_
 refine sk_ fun _ hK16 => ?_
 refine wp_cond_false le_ ?_
 refine wp_exit ?_
 refine then_exit ?_
 refine then_exit ?_
 refine inBlock_exit ?_
 refine tn_ hK2 ?_
 refine sp_ fun _ hK17 => ?_
 refine li_ (-1) ?_
 refine pt_ hK17 ?_
 refine wp_ret ?_
 refine br_ 4 (.int .i64 (-1)) ?_
 exact ⟨by rfl, hm5.bel⟩
theorem contains_any (ids : List Int) (hb : ∀ t ∈ ids, 4 ≤ t) (hp : 0 < ids.length) (hl : ids.length ≤ 1000000) (A : Option Addr) (ci : Nat) (w : World) (hi : Rd w w.heap.size 1 A ids.length ci (ics ids)) : Calls Tryz.prog 66 #[.slice A ids.length ci, .func (.func 67) #[] #[]] w (RetV w (.bool false)) := by
 have hm0 := Mem.nil w
 go_enter Tryz.func66, Tryz.ntmps66
 refine litStart 9 [(0, .slice A ids.length ci), (1, .func (.func 67) #[] #[])] kr_ (fun X0 => ?_)
 refine sp_ fun _ hK1 => ?_
 refine lF_ ?_
 refine pt_ hK1 ?_
 refine sp_ fun _ hK2 => ?_
 refine lk_ (.slice A ids.length ci) ?_
 refine lk_ (.func (.func 67) #[] #[]) ?_
 refine plCall (i := 2) 40 [.slice A ids.length ci, .func (.func 67) #[] #[]] [] [] rfl kr_ (wn rfl) rfl le_ (litArgs kr_) (indexC_any ids hb hp hl A ci _ ((Rd.below hi hm0.bel).more hm0.bel.size)) ?_
 rintro e w3 ⟨rfl, hbz⟩
 have hm4 := hm0.below hbz
 clear hbz hm0
 refine ⟨_, rfl, ?_⟩
 refine qP rfl ?_
 refine lF_ ?_
 refine lF_ ?_
 refine pt_ hK2 ?_
 refine wp_ret ?_
 refine br_ 4 (.bool false) ?_
 exact ⟨by rfl, hm4.bel⟩
def kB (h : Nat) : Nat → Nat
 | 0 => h
 | j + 1 => nxB (kB h j)
theorem cyc_ok : ∀ h < 24, kB h 1 < 24 ∧ kB h 2 < 24 ∧ kB h 3 < 24 ∧ kB h 4 < 24 ∧ kB h 1 ≠ h ∧ kB h 2 ≠ h ∧ kB h 3 ≠ h ∧ kB h 4 = h := by decide +kernel
theorem bH_cell {k : Nat} (h : k < 24) (i : Nat) (u : Value) (hu : (hfc (hB k))[i]? = some u) : (hfsC bH)[k * 6 + i]? = some u := hfsC_get (bH_get h) i u hu
theorem bH_nx {k : Nat} (h : k < 24) : (hfsC bH)[k * 6 + 3]? = some (.int .i64 (nxB k : Int)) := bH_cell h 3 _ (by unfold hfc pcs; rw [(hB_ok k h).1]; rfl)
theorem bH_tw {k : Nat} (h : k < 24) : (hfsC bH)[k * 6 + 4]? = some (.int .i64 (twB k : Int)) := bH_cell h 4 _ (by unfold hfc pcs; rw [(hB_ok k h).2.1]; rfl)
theorem bH_fc {k : Nat} (h : k < 24) : (hfsC bH)[k * 6 + 5]? = some (.int .i64 (fcB k : Int)) := bH_cell h 5 _ (by unfold hfc pcs; rw [(hB_ok k h).2.2.1]; rfl)
def cycV (h : Nat) : List (List Value) := [[.int .i64 (h : Int)], [.int .i64 (kB h 1 : Int)], [.int .i64 (kB h 2 : Int)], [.int .i64 (kB h 3 : Int)]]
theorem cycle_any {w0 w : World} {M : List Res} (qv hv : Value) (h : Nat) (hm : Mem w0 w M) : Calls Tryz.prog 65 #[.agg ([qv, hv]).toArray, .int .i64 (h : Int)] w (fun e w' => ∃ gm gh, e = .returned (.func (.func 95) #[] #[.pointer (some ⟨gh, 0, none⟩), .pointer (some ⟨gm, 0, none⟩)]) ∧ Mem w0 w' (.arr gm 41 [qv, hv] :: .arr gh 3 [.int .i64 (h : Int)] :: M)) := by
 have hm0 := hm
 go_enter Tryz.func65, Tryz.ntmps65
 refine litStart 6 [(0, .agg ([qv, hv]).toArray), (1, .int .i64 (h : Int))] kr_ (fun X0 => ?_)
 refine sp_ fun _ hK1 => ?_
 refine plBox hm0 (cs := [qv, hv]) (i := 0) rfl (wn rfl) rfl le_ ?_
 intro g2 w4 hm3
 clear hm0
 try simp only [lc_] at hm3
 replace hm3 := hm3.i0
 refine qP rfl ?_
 refine plBox1 (v := .int .i64 (h : Int)) hm3 (i := 1) rfl (wn rfl) rfl le_ rfl ?_
 intro g5 w7 hm6
 clear hm3
 try simp only [lc_] at hm6
 replace hm6 := hm6.i1
 refine qP rfl ?_
 refine lk_ (Value.nilFunc) ?_
 refine pt_ hK1 ?_
 refine sp_ fun _ hK8 => ?_
 refine lk_ (.func (.func 95) #[] #[.pointer (some ⟨g5, 0, none⟩), .pointer (some ⟨g2, 0, none⟩)]) ?_
 refine lk_ (.func (.func 95) #[] #[.pointer (some ⟨g5, 0, none⟩), .pointer (some ⟨g2, 0, none⟩)]) ?_
 refine pt_ hK8 ?_
 refine wp_ret ?_
 refine br_ 4 (.func (.func 95) #[] #[.pointer (some ⟨g5, 0, none⟩), .pointer (some ⟨g2, 0, none⟩)]) ?_
 exact ⟨_, _, rfl, hm6⟩
theorem cycle_word (gm gh : Nat) (qA : Option Addr) (qc bh_ oh_ hc : Nat) (h : Nat) (hh : h < 24) : ItWord Tryz.prog 95 [.pointer (some ⟨gh, 0, none⟩), .pointer (some ⟨gm, 0, none⟩)] (cycV h) ([.arr gm 41 ([.slice qA 6 qc, .slice (some ⟨bh_, oh_, none⟩) 24 hc]), .arr gh 3 ([.int .i64 (h : Int)]), .rd (some ⟨bh_, oh_, none⟩) 6 24 hc (hfsC bH)]) := by
 intro w0 w lp J Jx V M hJ hm hY
 have hcy_ := cyc_ok h hh
 have hm0 : Mem w0 w ((.arr gm 41 ([.slice qA 6 qc, .slice (some ⟨bh_, oh_, none⟩) 24 hc])) :: (.arr gh 3 ([.int .i64 (h : Int)])) :: (.rd (some ⟨bh_, oh_, none⟩) 6 24 hc (hfsC bH)) :: (V ++ M)) := hm.permL (permY [.arr gm 41 ([.slice qA 6 qc, .slice (some ⟨bh_, oh_, none⟩) 24 hc]), .arr gh 3 ([.int .i64 (h : Int)]), .rd (some ⟨bh_, oh_, none⟩) 6 24 hc (hfsC bH)] V M).symm
 clear hm
 go_enter Tryz.func95, Tryz.ntmps95
 refine litStart 27 [(0, .func (.yield lp) #[] #[]), (1, .pointer (some ⟨gh, 0, none⟩)), (2, .pointer (some ⟨gm, 0, none⟩))] kr_ (fun X0 => ?_)
 refine sp_ fun _ hK1 => ?_
 refine lv_ rfl (.int .i64 (h : Int)) (ld_ 0 1 hm0) ?_
 refine li_ h ?_
 refine li_ 0 ?_
 refine pt_ hK1 ?_
 refine wp_block ?_
 refine roundsStart 5 ?_
 refine sk_ fun _ hK2 => ?_
 refine sp_ fun _ hK3 => ?_
 refine li_ 0 ?_
 refine lp_ gm 1 ?_
 refine lv_ rfl (.slice (some ⟨bh_, oh_, none⟩) 24 hc) (ld_ 1 0 hm0) ?_
 refine lv_ rfl (.int .i64 24) (ln_ (some ⟨bh_, oh_, none⟩) 24 hc Ty.und_L_api_Half) ?_
 refine lT_ ?_
 refine pt_ hK3 ?_
 refine wp_cond_true le_ ?_
 refine wp_skip ?_
 refine tn_ hK2 ?_
 refine sk_ fun _ hK4 => ?_
 refine wp_block ?_
 refine sk_ fun _ hK5 => ?_
 refine sk_ fun _ hK6 => ?_
 refine ofWr (LD.plrStart ?_)
 refine lkR0 (v := .func (.yield lp) #[] #[]) rfl rfl rfl ?_
 refine lkR0 (v := .int .i64 (h : Int)) rfl rfl rfl ?_
 refine plrYield0 lp [.int .i64 (h : Int)] rfl rfl rfl le_ (litArgs kr_) (hY 0 [.int .i64 (h : Int)] _ V ([.arr gm 41 ([.slice qA 6 qc, .slice (some ⟨bh_, oh_, none⟩) 24 hc]), .arr gh 3 ([.int .i64 (h : Int)]), .rd (some ⟨bh_, oh_, none⟩) 6 24 hc (hfsC bH)] ++ M) (by rfl) hJ (hm0.permL (permY [.arr gm 41 ([.slice qA 6 qc, .slice (some ⟨bh_, oh_, none⟩) 24 hc]), .arr gh 3 ([.int .i64 (h : Int)]), .rd (some ⟨bh_, oh_, none⟩) 6 24 hc (hfsC bH)] V M))) rfl (by decide) ?_
 rintro e w9 ⟨t7, V8, rfl, hq_, hT11, hF12⟩
 have hm10 : Mem w0 w9 ((.arr gm 41 ([.slice qA 6 qc, .slice (some ⟨bh_, oh_, none⟩) 24 hc])) :: (.arr gh 3 ([.int .i64 (h : Int)])) :: (.rd (some ⟨bh_, oh_, none⟩) 6 24 hc (hfsC bH)) :: (V8 ++ M)) := hq_.permL (permY [.arr gm 41 ([.slice qA 6 qc, .slice (some ⟨bh_, oh_, none⟩) 24 hc]), .arr gh 3 ([.int .i64 (h : Int)]), .rd (some ⟨bh_, oh_, none⟩) 6 24 hc (hfsC bH)] V8 M).symm
 clear hq_ hm0
 refine ⟨_, rfl, ?_⟩
 rcases bool_or t7 with hb_ | hb_ <;> subst hb_
 ·have hX13 := hF12 rfl
  refine lkR0 (v := .bool true) rfl rfl rfl ?_
  refine LD.plrD ?_
  refine tn_ hK6 ?_
  refine wp_cond_true le_ ?_
  refine wp_ret ?_
  refine then_ret ?_
  refine inBlock_ret ?_
  refine then_ret ?_
  refine then_ret ?_
  refine inBlock_ret ?_
  refine bodyPost_ret (v := .tuple #[]) (gRes0 rfl) rfl ?_
  exact ⟨⟨_, rfl⟩, V8, hm10.permL (permY [.arr gm 41 ([.slice qA 6 qc, .slice (some ⟨bh_, oh_, none⟩) 24 hc]), .arr gh 3 ([.int .i64 (h : Int)]), .rd (some ⟨bh_, oh_, none⟩) 6 24 hc (hfsC bH)] V8 M), Or.inr hX13⟩
 have hJ14 := hT11 rfl
 refine lkR0 (v := .bool false) rfl rfl rfl ?_
 refine LD.plrD ?_
 refine tn_ hK6 ?_
 refine wp_cond_false le_ ?_
 refine wp_skip ?_
 refine tn_ hK5 ?_
 refine sp_ fun _ hK15 => ?_
 refine lp_ gm 1 ?_
 refine lv_ rfl (.slice (some ⟨bh_, oh_, none⟩) 24 hc) (ld_ 1 0 hm10) ?_
 refine li_ h ?_
 refine lv_ rfl (.pointer (some ⟨bh_, oh_ + h * 6, none⟩)) (ia_ hc h Ty.sl_L_api_Half rfl (show h < 24 by omega)) ?_
 refine lp_ bh_ (oh_ + h * 6 + 3) ?_
 refine lv_ rfl (.int .i64 (kB h 1 : Int)) (lr_ (m := h * 6 + 3) (hm10.rd 2 rfl) (bH_nx (show h < 24 by omega)) (by decide)) ?_
 refine li_ (kB h 1 : Int) ?_
 refine pt_ hK15 ?_
 refine sp_ fun _ hK16 => ?_
 refine li_ (kB h 1 : Int) ?_
 refine lv_ rfl (.int .i64 (h : Int)) (ld_ 0 1 hm10) ?_
 refine lv_ rfl _ (eqF_ (show ¬ (kB h 1 : Int) = (h : Int) by omega)) ?_
 refine pt_ hK16 ?_
 refine wp_cond_false le_ ?_
 refine wp_skip ?_
 refine inBlock_normal ?_
 refine tn_ hK4 ?_
 refine plStart ?_
 refine li_ 0 ?_
 refine li_ 1 ?_
 refine li_ 1 ?_
 refine plD ?_
 refine then_normal (roundsNext ?_)
 refine sk_ fun _ hK17 => ?_
 refine sp_ fun _ hK18 => ?_
 refine li_ 1 ?_
 refine lp_ gm 1 ?_
 refine lv_ rfl (.slice (some ⟨bh_, oh_, none⟩) 24 hc) (ld_ 1 0 hm10) ?_
 refine lv_ rfl (.int .i64 24) (ln_ (some ⟨bh_, oh_, none⟩) 24 hc Ty.und_L_api_Half) ?_
 refine lT_ ?_
 refine pt_ hK18 ?_
 refine wp_cond_true le_ ?_
 refine wp_skip ?_
 refine tn_ hK17 ?_
 refine sk_ fun _ hK19 => ?_
 refine wp_block ?_
 refine sk_ fun _ hK20 => ?_
 refine sk_ fun _ hK21 => ?_
 refine ofWr (LD.plrStart ?_)
 refine lkR0 (v := .func (.yield lp) #[] #[]) rfl rfl rfl ?_
 refine lkR0 (v := .int .i64 (kB h 1 : Int)) rfl rfl rfl ?_
 refine plrYield0 lp [.int .i64 (kB h 1 : Int)] rfl rfl rfl le_ (litArgs kr_) (hY 1 [.int .i64 (kB h 1 : Int)] _ V8 ([.arr gm 41 ([.slice qA 6 qc, .slice (some ⟨bh_, oh_, none⟩) 24 hc]), .arr gh 3 ([.int .i64 (h : Int)]), .rd (some ⟨bh_, oh_, none⟩) 6 24 hc (hfsC bH)] ++ M) (by rfl) hJ14 (hm10.permL (permY [.arr gm 41 ([.slice qA 6 qc, .slice (some ⟨bh_, oh_, none⟩) 24 hc]), .arr gh 3 ([.int .i64 (h : Int)]), .rd (some ⟨bh_, oh_, none⟩) 6 24 hc (hfsC bH)] V8 M))) rfl (by decide) ?_
 rintro e w24 ⟨t22, V23, rfl, hq_, hT26, hF27⟩
 have hm25 : Mem w0 w24 ((.arr gm 41 ([.slice qA 6 qc, .slice (some ⟨bh_, oh_, none⟩) 24 hc])) :: (.arr gh 3 ([.int .i64 (h : Int)])) :: (.rd (some ⟨bh_, oh_, none⟩) 6 24 hc (hfsC bH)) :: (V23 ++ M)) := hq_.permL (permY [.arr gm 41 ([.slice qA 6 qc, .slice (some ⟨bh_, oh_, none⟩) 24 hc]), .arr gh 3 ([.int .i64 (h : Int)]), .rd (some ⟨bh_, oh_, none⟩) 6 24 hc (hfsC bH)] V23 M).symm
 clear hq_ hm10
 refine ⟨_, rfl, ?_⟩
 rcases bool_or t22 with hb_ | hb_ <;> subst hb_
 ·have hX28 := hF27 rfl
  refine lkR0 (v := .bool true) rfl rfl rfl ?_
  refine LD.plrD ?_
  refine tn_ hK21 ?_
  refine wp_cond_true le_ ?_
  refine wp_ret ?_
  refine then_ret ?_
  refine inBlock_ret ?_
  refine then_ret ?_
  refine then_ret ?_
  refine inBlock_ret ?_
  refine bodyPost_ret (v := .tuple #[]) (gRes0 rfl) rfl ?_
  exact ⟨⟨_, rfl⟩, V23, hm25.permL (permY [.arr gm 41 ([.slice qA 6 qc, .slice (some ⟨bh_, oh_, none⟩) 24 hc]), .arr gh 3 ([.int .i64 (h : Int)]), .rd (some ⟨bh_, oh_, none⟩) 6 24 hc (hfsC bH)] V23 M), Or.inr hX28⟩
 have hJ29 := hT26 rfl
 refine lkR0 (v := .bool false) rfl rfl rfl ?_
 refine LD.plrD ?_
 refine tn_ hK21 ?_
 refine wp_cond_false le_ ?_
 refine wp_skip ?_
 refine tn_ hK20 ?_
 refine sp_ fun _ hK30 => ?_
 refine lp_ gm 1 ?_
 refine lv_ rfl (.slice (some ⟨bh_, oh_, none⟩) 24 hc) (ld_ 1 0 hm25) ?_
 refine li_ (kB h 1 : Int) ?_
 refine lv_ rfl (.pointer (some ⟨bh_, oh_ + (kB h 1) * 6, none⟩)) (ia_ hc (kB h 1) Ty.sl_L_api_Half rfl (show kB h 1 < 24 by omega)) ?_
 refine lp_ bh_ (oh_ + (kB h 1) * 6 + 3) ?_
 refine lv_ rfl (.int .i64 (kB h 2 : Int)) (lr_ (m := (kB h 1) * 6 + 3) (hm25.rd 2 rfl) (bH_nx (show kB h 1 < 24 by omega)) (by decide)) ?_
 refine li_ (kB h 2 : Int) ?_
 refine pt_ hK30 ?_
 refine wpPrune [(0, .func (.yield lp) #[] #[]), (1, .pointer (some ⟨gh, 0, none⟩)), (2, .pointer (some ⟨gm, 0, none⟩)), (4, .int .i64 (kB h 2 : Int)), (5, .int .i64 1), (7, .int .i64 1), (8, .pointer (some ⟨gm, 1, none⟩)), (9, .slice (some ⟨bh_, oh_, none⟩) 24 hc), (10, .int .i64 24), (11, .bool true), (12, .int .i64 0), (13, .int .i64 1), (14, .func (.yield lp) #[] #[]), (15, .int .i64 (kB h 1 : Int)), (16, .bool true), (17, .bool false), (18, .pointer (some ⟨gm, 1, none⟩)), (19, .slice (some ⟨bh_, oh_, none⟩) 24 hc), (20, .int .i64 (kB h 1 : Int)), (21, .pointer (some ⟨bh_, oh_ + (kB h 1) * 6, none⟩)), (22, .pointer (some ⟨bh_, oh_ + (kB h 1) * 6 + 3, none⟩)), (23, .int .i64 (kB h 2 : Int)), (24, .int .i64 (kB h 1 : Int)), (25, .int .i64 (h : Int)), (26, .bool false)] fo_ (fun X31 => ?_)
 refine sp_ fun _ hK32 => ?_
 refine li_ (kB h 2 : Int) ?_
 refine lv_ rfl (.int .i64 (h : Int)) (ld_ 0 1 hm25) ?_
 refine lv_ rfl _ (eqF_ (show ¬ (kB h 2 : Int) = (h : Int) by omega)) ?_
 refine pt_ hK32 ?_
 refine wp_cond_false le_ ?_
 refine wp_skip ?_
 refine inBlock_normal ?_
 refine tn_ hK19 ?_
 refine plStart ?_
 refine li_ 1 ?_
 refine li_ 2 ?_
 refine li_ 2 ?_
 refine plD ?_
 refine then_normal (roundsNext ?_)
 refine sk_ fun _ hK33 => ?_
 refine sp_ fun _ hK34 => ?_
 refine li_ 2 ?_
 refine lp_ gm 1 ?_
 refine lv_ rfl (.slice (some ⟨bh_, oh_, none⟩) 24 hc) (ld_ 1 0 hm25) ?_
 refine lv_ rfl (.int .i64 24) (ln_ (some ⟨bh_, oh_, none⟩) 24 hc Ty.und_L_api_Half) ?_
 refine lT_ ?_
 refine pt_ hK34 ?_
 refine wp_cond_true le_ ?_
 refine wp_skip ?_
 refine tn_ hK33 ?_
 refine sk_ fun _ hK35 => ?_
 refine wp_block ?_
 refine sk_ fun _ hK36 => ?_
 refine sk_ fun _ hK37 => ?_
 refine ofWr (LD.plrStart ?_)
 refine lkR0 (v := .func (.yield lp) #[] #[]) rfl rfl rfl ?_
 refine lkR0 (v := .int .i64 (kB h 2 : Int)) rfl rfl rfl ?_
 refine plrYield0 lp [.int .i64 (kB h 2 : Int)] rfl rfl rfl le_ (litArgs kr_) (hY 2 [.int .i64 (kB h 2 : Int)] _ V23 ([.arr gm 41 ([.slice qA 6 qc, .slice (some ⟨bh_, oh_, none⟩) 24 hc]), .arr gh 3 ([.int .i64 (h : Int)]), .rd (some ⟨bh_, oh_, none⟩) 6 24 hc (hfsC bH)] ++ M) (by rfl) hJ29 (hm25.permL (permY [.arr gm 41 ([.slice qA 6 qc, .slice (some ⟨bh_, oh_, none⟩) 24 hc]), .arr gh 3 ([.int .i64 (h : Int)]), .rd (some ⟨bh_, oh_, none⟩) 6 24 hc (hfsC bH)] V23 M))) rfl (by decide) ?_
 rintro e w40 ⟨t38, V39, rfl, hq_, hT42, hF43⟩
 have hm41 : Mem w0 w40 ((.arr gm 41 ([.slice qA 6 qc, .slice (some ⟨bh_, oh_, none⟩) 24 hc])) :: (.arr gh 3 ([.int .i64 (h : Int)])) :: (.rd (some ⟨bh_, oh_, none⟩) 6 24 hc (hfsC bH)) :: (V39 ++ M)) := hq_.permL (permY [.arr gm 41 ([.slice qA 6 qc, .slice (some ⟨bh_, oh_, none⟩) 24 hc]), .arr gh 3 ([.int .i64 (h : Int)]), .rd (some ⟨bh_, oh_, none⟩) 6 24 hc (hfsC bH)] V39 M).symm
 clear hq_ hm25
 refine ⟨_, rfl, ?_⟩
 rcases bool_or t38 with hb_ | hb_ <;> subst hb_
 ·have hX44 := hF43 rfl
  refine lkR0 (v := .bool true) rfl rfl rfl ?_
  refine LD.plrD ?_
  refine tn_ hK37 ?_
  refine wpPrune [(0, .func (.yield lp) #[] #[]), (1, .pointer (some ⟨gh, 0, none⟩)), (2, .pointer (some ⟨gm, 0, none⟩)), (4, .int .i64 (kB h 2 : Int)), (5, .int .i64 2), (7, .int .i64 2), (8, .pointer (some ⟨gm, 1, none⟩)), (9, .slice (some ⟨bh_, oh_, none⟩) 24 hc), (10, .int .i64 24), (11, .bool true), (12, .int .i64 1), (13, .int .i64 2), (14, .func (.yield lp) #[] #[]), (15, .int .i64 (kB h 2 : Int)), (16, .bool false), (17, .bool true), (18, .pointer (some ⟨gm, 1, none⟩)), (19, .slice (some ⟨bh_, oh_, none⟩) 24 hc), (20, .int .i64 (kB h 1 : Int)), (21, .pointer (some ⟨bh_, oh_ + (kB h 1) * 6, none⟩)), (22, .pointer (some ⟨bh_, oh_ + (kB h 1) * 6 + 3, none⟩)), (23, .int .i64 (kB h 2 : Int)), (24, .int .i64 (kB h 2 : Int)), (25, .int .i64 (h : Int)), (26, .bool false)] fo_ (fun X45 => ?_)
  refine wp_cond_true le_ ?_
  refine wp_ret ?_
  refine then_ret ?_
  refine inBlock_ret ?_
  refine then_ret ?_
  refine then_ret ?_
  refine inBlock_ret ?_
  refine bodyPost_ret (v := .tuple #[]) (gRes0 rfl) rfl ?_
  exact ⟨⟨_, rfl⟩, V39, hm41.permL (permY [.arr gm 41 ([.slice qA 6 qc, .slice (some ⟨bh_, oh_, none⟩) 24 hc]), .arr gh 3 ([.int .i64 (h : Int)]), .rd (some ⟨bh_, oh_, none⟩) 6 24 hc (hfsC bH)] V39 M), Or.inr hX44⟩
 have hJ46 := hT42 rfl
 refine lkR0 (v := .bool false) rfl rfl rfl ?_
 refine LD.plrD ?_
 refine tn_ hK37 ?_
 refine wpPrune [(0, .func (.yield lp) #[] #[]), (1, .pointer (some ⟨gh, 0, none⟩)), (2, .pointer (some ⟨gm, 0, none⟩)), (4, .int .i64 (kB h 2 : Int)), (5, .int .i64 2), (7, .int .i64 2), (8, .pointer (some ⟨gm, 1, none⟩)), (9, .slice (some ⟨bh_, oh_, none⟩) 24 hc), (10, .int .i64 24), (11, .bool true), (12, .int .i64 1), (13, .int .i64 2), (14, .func (.yield lp) #[] #[]), (15, .int .i64 (kB h 2 : Int)), (16, .bool true), (17, .bool false), (18, .pointer (some ⟨gm, 1, none⟩)), (19, .slice (some ⟨bh_, oh_, none⟩) 24 hc), (20, .int .i64 (kB h 1 : Int)), (21, .pointer (some ⟨bh_, oh_ + (kB h 1) * 6, none⟩)), (22, .pointer (some ⟨bh_, oh_ + (kB h 1) * 6 + 3, none⟩)), (23, .int .i64 (kB h 2 : Int)), (24, .int .i64 (kB h 2 : Int)), (25, .int .i64 (h : Int)), (26, .bool false)] fo_ (fun X47 => ?_)
 refine wp_cond_false le_ ?_
 refine wp_skip ?_
 refine tn_ hK36 ?_
 refine sp_ fun _ hK48 => ?_
 refine lp_ gm 1 ?_
 refine lv_ rfl (.slice (some ⟨bh_, oh_, none⟩) 24 hc) (ld_ 1 0 hm41) ?_
 refine li_ (kB h 2 : Int) ?_
 refine lv_ rfl (.pointer (some ⟨bh_, oh_ + (kB h 2) * 6, none⟩)) (ia_ hc (kB h 2) Ty.sl_L_api_Half rfl (show kB h 2 < 24 by omega)) ?_
 refine lp_ bh_ (oh_ + (kB h 2) * 6 + 3) ?_
 refine lv_ rfl (.int .i64 (kB h 3 : Int)) (lr_ (m := (kB h 2) * 6 + 3) (hm41.rd 2 rfl) (bH_nx (show kB h 2 < 24 by omega)) (by decide)) ?_
 refine li_ (kB h 3 : Int) ?_
 refine pt_ hK48 ?_
 refine sp_ fun _ hK49 => ?_
 refine li_ (kB h 3 : Int) ?_
 refine lv_ rfl (.int .i64 (h : Int)) (ld_ 0 1 hm41) ?_
 refine lv_ rfl _ (eqF_ (show ¬ (kB h 3 : Int) = (h : Int) by omega)) ?_
 refine pt_ hK49 ?_
 refine wp_cond_false le_ ?_
 refine wp_skip ?_
 refine inBlock_normal ?_
 refine tn_ hK35 ?_
 refine plStart ?_
 refine li_ 2 ?_
 refine li_ 3 ?_
 refine li_ 3 ?_
 refine plD ?_
 refine then_normal (roundsNext ?_)
 refine wpPrune [(0, .func (.yield lp) #[] #[]), (1, .pointer (some ⟨gh, 0, none⟩)), (2, .pointer (some ⟨gm, 0, none⟩)), (4, .int .i64 (kB h 3 : Int)), (5, .int .i64 3), (7, .int .i64 2), (8, .pointer (some ⟨gm, 1, none⟩)), (9, .slice (some ⟨bh_, oh_, none⟩) 24 hc), (10, .int .i64 24), (11, .bool true), (12, .int .i64 2), (13, .int .i64 3), (14, .func (.yield lp) #[] #[]), (15, .int .i64 (kB h 2 : Int)), (16, .bool true), (17, .bool false), (18, .pointer (some ⟨gm, 1, none⟩)), (19, .slice (some ⟨bh_, oh_, none⟩) 24 hc), (20, .int .i64 (kB h 2 : Int)), (21, .pointer (some ⟨bh_, oh_ + (kB h 2) * 6, none⟩)), (22, .pointer (some ⟨bh_, oh_ + (kB h 2) * 6 + 3, none⟩)), (23, .int .i64 (kB h 3 : Int)), (24, .int .i64 (kB h 3 : Int)), (25, .int .i64 (h : Int)), (26, .bool false)] fo_ (fun X50 => ?_)
 refine sk_ fun _ hK51 => ?_
 refine sp_ fun _ hK52 => ?_
 refine li_ 3 ?_
 refine lp_ gm 1 ?_
 refine lv_ rfl (.slice (some ⟨bh_, oh_, none⟩) 24 hc) (ld_ 1 0 hm41) ?_
 refine lv_ rfl (.int .i64 24) (ln_ (some ⟨bh_, oh_, none⟩) 24 hc Ty.und_L_api_Half) ?_
 refine lT_ ?_
 refine pt_ hK52 ?_
 refine wp_cond_true le_ ?_
 refine wp_skip ?_
 refine tn_ hK51 ?_
 refine sk_ fun _ hK53 => ?_
 refine wp_block ?_
 refine sk_ fun _ hK54 => ?_
 refine sk_ fun _ hK55 => ?_
 refine ofWr (LD.plrStart ?_)
 refine lkR0 (v := .func (.yield lp) #[] #[]) rfl rfl rfl ?_
 refine lkR0 (v := .int .i64 (kB h 3 : Int)) rfl rfl rfl ?_
 refine plrYield0 lp [.int .i64 (kB h 3 : Int)] rfl rfl rfl le_ (litArgs kr_) (hY 3 [.int .i64 (kB h 3 : Int)] _ V39 ([.arr gm 41 ([.slice qA 6 qc, .slice (some ⟨bh_, oh_, none⟩) 24 hc]), .arr gh 3 ([.int .i64 (h : Int)]), .rd (some ⟨bh_, oh_, none⟩) 6 24 hc (hfsC bH)] ++ M) (by rfl) hJ46 (hm41.permL (permY [.arr gm 41 ([.slice qA 6 qc, .slice (some ⟨bh_, oh_, none⟩) 24 hc]), .arr gh 3 ([.int .i64 (h : Int)]), .rd (some ⟨bh_, oh_, none⟩) 6 24 hc (hfsC bH)] V39 M))) rfl (by decide) ?_
 rintro e w58 ⟨t56, V57, rfl, hq_, hT60, hF61⟩
 have hm59 : Mem w0 w58 ((.arr gm 41 ([.slice qA 6 qc, .slice (some ⟨bh_, oh_, none⟩) 24 hc])) :: (.arr gh 3 ([.int .i64 (h : Int)])) :: (.rd (some ⟨bh_, oh_, none⟩) 6 24 hc (hfsC bH)) :: (V57 ++ M)) := hq_.permL (permY [.arr gm 41 ([.slice qA 6 qc, .slice (some ⟨bh_, oh_, none⟩) 24 hc]), .arr gh 3 ([.int .i64 (h : Int)]), .rd (some ⟨bh_, oh_, none⟩) 6 24 hc (hfsC bH)] V57 M).symm
 clear hq_ hm41
 refine ⟨_, rfl, ?_⟩
 rcases bool_or t56 with hb_ | hb_ <;> subst hb_
 ·have hX62 := hF61 rfl
  refine lkR0 (v := .bool true) rfl rfl rfl ?_
  refine LD.plrD ?_
  refine tn_ hK55 ?_
  refine wp_cond_true le_ ?_
  refine wp_ret ?_
  refine then_ret ?_
  refine inBlock_ret ?_
  refine then_ret ?_
  refine then_ret ?_
  refine inBlock_ret ?_
  refine bodyPost_ret (v := .tuple #[]) (gRes0 rfl) rfl ?_
  exact ⟨⟨_, rfl⟩, V57, hm59.permL (permY [.arr gm 41 ([.slice qA 6 qc, .slice (some ⟨bh_, oh_, none⟩) 24 hc]), .arr gh 3 ([.int .i64 (h : Int)]), .rd (some ⟨bh_, oh_, none⟩) 6 24 hc (hfsC bH)] V57 M), Or.inr hX62⟩
 have hJ63 := hT60 rfl
 refine lkR0 (v := .bool false) rfl rfl rfl ?_
 refine LD.plrD ?_
 refine tn_ hK55 ?_
 refine wp_cond_false le_ ?_
 refine wp_skip ?_
 refine tn_ hK54 ?_
 refine sp_ fun _ hK64 => ?_
 refine lp_ gm 1 ?_
 refine lv_ rfl (.slice (some ⟨bh_, oh_, none⟩) 24 hc) (ld_ 1 0 hm59) ?_
 refine li_ (kB h 3 : Int) ?_
 refine lv_ rfl (.pointer (some ⟨bh_, oh_ + (kB h 3) * 6, none⟩)) (ia_ hc (kB h 3) Ty.sl_L_api_Half rfl (show kB h 3 < 24 by omega)) ?_
 refine lp_ bh_ (oh_ + (kB h 3) * 6 + 3) ?_
 refine lv_ rfl (.int .i64 (kB h 4 : Int)) (lr_ (m := (kB h 3) * 6 + 3) (hm59.rd 2 rfl) (bH_nx (show kB h 3 < 24 by omega)) (by decide)) ?_
 refine li_ (kB h 4 : Int) ?_
 refine pt_ hK64 ?_
 refine wpPrune [(0, .func (.yield lp) #[] #[]), (1, .pointer (some ⟨gh, 0, none⟩)), (2, .pointer (some ⟨gm, 0, none⟩)), (4, .int .i64 (kB h 4 : Int)), (5, .int .i64 3), (7, .int .i64 3), (8, .pointer (some ⟨gm, 1, none⟩)), (9, .slice (some ⟨bh_, oh_, none⟩) 24 hc), (10, .int .i64 24), (11, .bool true), (12, .int .i64 2), (13, .int .i64 3), (14, .func (.yield lp) #[] #[]), (15, .int .i64 (kB h 3 : Int)), (16, .bool true), (17, .bool false), (18, .pointer (some ⟨gm, 1, none⟩)), (19, .slice (some ⟨bh_, oh_, none⟩) 24 hc), (20, .int .i64 (kB h 3 : Int)), (21, .pointer (some ⟨bh_, oh_ + (kB h 3) * 6, none⟩)), (22, .pointer (some ⟨bh_, oh_ + (kB h 3) * 6 + 3, none⟩)), (23, .int .i64 (kB h 4 : Int)), (24, .int .i64 (kB h 3 : Int)), (25, .int .i64 (h : Int)), (26, .bool false)] fo_ (fun X65 => ?_)
 refine sp_ fun _ hK66 => ?_
 refine li_ (kB h 4 : Int) ?_
 refine lv_ rfl (.int .i64 (h : Int)) (ld_ 0 1 hm59) ?_
 refine lv_ rfl _ (eqT_ (show (kB h 4 : Int) = (h : Int) by omega)) ?_
 refine pt_ hK66 ?_
 refine wp_cond_true le_ ?_
 refine wp_ret ?_
 refine inBlock_ret ?_
 refine then_ret ?_
 refine then_ret ?_
 refine inBlock_ret ?_
 refine bodyPost_ret (v := .tuple #[]) (gRes0 rfl) rfl ?_
 exact ⟨⟨_, rfl⟩, V57, hm59.permL (permY [.arr gm 41 ([.slice qA 6 qc, .slice (some ⟨bh_, oh_, none⟩) 24 hc]), .arr gh 3 ([.int .i64 (h : Int)]), .rd (some ⟨bh_, oh_, none⟩) 6 24 hc (hfsC bH)] V57 M), Or.inl hJ63⟩
theorem ics_set (l : List Int) (k : Nat) (v : Int) : (ics l).set k (.int .i64 v) = ics (l.set k v) := by unfold ics; rw [List.map_set]
theorem icsZ {l : List Int} {k : Nat} (h : k < l.length) : (ics l)[0 + k * 1]? = some (.int .i64 (l.getD k 0)) := by rw [Nat.zero_add]; exact icsGet (getD_of 0 h)
theorem icsZs {l : List Int} {k : Nat} {v : Int} {m : List Int} (h : l.set k v = m) : (ics l).set (0 + k * 1) (.int .i64 v) = ics m := by rw [Nat.zero_add, Nat.mul_one, ics_set, h]
def befL (i : Nat) : List Int := (List.range 24).map fun m => (((List.range i).filter fun j => decide (nxB j = m)).length : Int)
def sizL (i : Nat) : List Int := (List.range 6).map fun m => (((List.range i).filter fun j => decide (fcB j = m)).length : Int)
theorem bef_len (i : Nat) : (befL i).length = 24 := by simp [befL]
theorem siz_len (i : Nat) : (sizL i).length = 6 := by simp [sizL]
theorem bef_step : ∀ i < 24, (befL i).set (nxB i) ((befL i).getD (nxB i) 0 + 1) = befL (i + 1) := by decide +kernel
theorem siz_step : ∀ i < 24, (sizL i).set (fcB i) ((sizL i).getD (fcB i) 0 + 1) = sizL (i + 1) := by decide +kernel
theorem bef_bd : ∀ i < 24, 0 ≤ (befL i).getD (nxB i) 0 ∧ (befL i).getD (nxB i) 0 ≤ 24 ∧ 0 ≤ (sizL i).getD (fcB i) 0 ∧ (sizL i).getD (fcB i) 0 ≤ 24 := by decide +kernel
theorem bef_all : ∀ i < 24, (befL 24).getD i 0 = 1 ∧ (sizL 24).getD (fcB i) 0 = 4 := by decide +kernel
theorem siz_4 : ∀ t ∈ sizL 24, 4 ≤ t := by decide +kernel
theorem chk_ok : ∀ h < 24, (hB (nxB h)).fc = (hB h).fc ∧ straightP (hB h).p (hB (nxB h)).p ∧ ¬ (hB h).tw = (h : Int) ∧ (hB (twB h)).tw = (h : Int) ∧ (hB (twB h)).p = (hB (nxB h)).p ∧ (hB (nxB (twB h))).p = (hB h).p := by decide +kernel
theorem toB_any (qv : Value) (t : Int) (k : Nat) (ht : t = (k : Int)) (hk : k < 24) (A : Option Addr) (c : Nat) (w : World) (hh : Rd w w.heap.size 6 A 24 c (hfsC bH)) :
 Calls Tryz.prog 38 #[.agg [qv, .slice A 24 c].toArray, .int .i64 t] w (RetV w (.agg (pcs (hB (nxB k)).p).toArray)) := by
 subst ht
 have h := hB_ok k hk
 exact to_any qv bH k (nxB k) (hB k) (hB (nxB k)) (bH_get hk) h.1 (bH_get h.2.2.2.1) A c w hh
theorem cycV_one {h i : Nat} {x : List Value} (hx : (cycV h)[i]? = some x) : i < 4 ∧ x = [.int .i64 (kB h i : Int)] := by
 match i, hx with
 | 0, hx => exact ⟨by omega, by simpa [cycV, kB] using hx.symm⟩
 | 1, hx => exact ⟨by omega, by simpa [cycV] using hx.symm⟩
 | 2, hx => exact ⟨by omega, by simpa [cycV] using hx.symm⟩
 | 3, hx => exact ⟨by omega, by simpa [cycV] using hx.symm⟩
 | i + 4, hx => simp [cycV] at hx
theorem cycV_len1 (h : Nat) : ∀ x ∈ cycV h, x.length = 1 := by
 intro x hx
 simp only [cycV, List.mem_cons, List.not_mem_nil, or_false] at hx
 rcases hx with rfl | rfl | rfl | rfl <;> rfl
namespace LD
theorem check_any (qA A : Option Addr) (qc hc : Nat) (w : World) (hh : Rd w w.heap.size 6 A 24 hc (hfsC bH)) : Calls Tryz.prog 22 #[.agg ([.slice qA 6 qc, .slice A 24 hc]).toArray] w (RetV w (.bool true)) := by
 obtain ⟨bh_, oh_, rfl, _, _⟩ := hh.cells (by omega)
 have hm0 := Mem.rd1 hh
 refine callsOfMarks Tryz.func22 rfl ?_
 refine litStart (ds := (([] : List Nat).map mark)) 156 [(0, .agg ([.slice qA 6 qc, .slice (some ⟨bh_, oh_, none⟩) 24 hc]).toArray)] kr_ (fun X0 => ?_)
 refine sp_ fun _ hK1 => ?_
 refine plBox hm0 (cs := [.slice qA 6 qc, .slice (some ⟨bh_, oh_, none⟩) 24 hc]) (i := 0) rfl (wn rfl) rfl (litEv kr_) ?_
 intro g2 w4 hm3
 clear hm0
 try simp only [lc_] at hm3
 refine qP rfl ?_
 refine lk (v := .bool false) rfl rfl rfl ?_
 refine pt_ hK1 ?_
 refine sp_ fun _ hK5 => ?_
 refine lk (v := .func (.func 63) #[] #[]) rfl rfl rfl ?_
 refine pt_ hK5 ?_
 refine sk_ fun _ hK6 => ?_
 refine aoStart (aoV [fun _ => .pointer (some ⟨g2, 1, none⟩), fun _ => .slice (some ⟨bh_, oh_, none⟩) 24 hc, fun _ => .int .i64 24, fun γ_ => .slice (some ⟨(γ_.getD 0 0), 0, none⟩) 24 24, fun _ => .pointer (some ⟨g2, 0, none⟩), fun _ => .slice qA 6 qc, fun _ => .int .i64 6, fun γ_ => .slice (some ⟨(γ_.getD 0 0), 0, none⟩) 6 6, fun γ_ => .slice (some ⟨(γ_.getD 0 0), 0, none⟩) 24 24, fun γ_ => .slice (some ⟨(γ_.getD 0 0), 0, none⟩) 6 6]) (aoA [[], [], [], [3], [], [], [], [7], [3], [7]]) (fun b_ g_ => ((.rd (some ⟨bh_, oh_, none⟩) 6 24 hc (hfsC bH)) :: (.arr g2 41 ([.slice qA 6 qc, .slice (some ⟨bh_, oh_, none⟩) 24 hc])) :: (bsel (b_ 3) (.arr (g_ 3) 3 (ics (befL 0))) .free) :: (bsel (b_ 7) (.arr (g_ 7) 3 (ics (sizL 0))) .free) :: (([] : List Nat).map defR))) hm3 kr_ kr_ (fun w_ h_ => (Mem.insAt 3 (Mem.insAt 2 h_.pushFree).pushFree)) (fun b_ g_ h_ => by show (fun (x3_ x7_ : Bool) => (((.rd (some ⟨bh_, oh_, none⟩) 6 24 hc (hfsC bH)) :: (.arr g2 41 ([.slice qA 6 qc, .slice (some ⟨bh_, oh_, none⟩) 24 hc])) :: (bsel x3_ (.arr (g_ 3) 3 (ics (befL 0))) .free) :: (bsel x7_ (.arr (g_ 7) 3 (ics (sizL 0))) .free) :: (([] : List Nat).map defR)) : List Res)) (b_ 3) (b_ 7) = _; rw [h_ 3 (by decide), h_ 7 (by decide)]) ?_ ?_
 ·refine aoNext rfl aoK_ ?_
  refine aoNext rfl (aoV_ (fun b_ g_ X_ w_ h_b h_ => valTo (b := .slice (some ⟨bh_, oh_, none⟩) 24 hc) kr_ (ld_ 1 1 h_))) ?_
  refine aoNext rfl (aoV_ (fun b_ g_ X_ w_ h_b h_ => valTo (b := .int .i64 24) kr_ (ln_ (some ⟨bh_, oh_, none⟩) 24 hc Ty.und_L_api_Half))) ?_
  refine aoNext rfl (aoMakeT (m := 24) (cs := ics (befL 0)) (e := 3) 2 (fun g_ => [(15, .int .i64 24)]) (fun g_ a_ h_k => ⟨(h_k.inn 2 _ _ kr_ rfl rfl).trans kr_, trivial⟩) (fun g_ X_ => (wn rfl)) rfl (fun g_ X_ => litEv kr_) (fun g_ X_ => litEv kr_) (fun w_ => by kernel_rfl) (fun _ _ _ => ⟨_, rfl⟩) (fun b_ g_ γ_ h_b => by kernel_rfl) (fun _ => by kernel_rfl) kr_) ?_
  refine aoNext rfl aoK_ ?_
  refine aoNext rfl (aoV_ (fun b_ g_ X_ w_ h_b h_ => valTo (b := .slice qA 6 qc) kr_ (ld_ 0 1 h_))) ?_
  refine aoNext rfl (aoV_ (fun b_ g_ X_ w_ h_b h_ => valTo (b := .int .i64 6) kr_ (ln_ qA 6 qc Ty.und_L_api_Quad))) ?_
  refine aoNext rfl (aoMakeT (m := 6) (cs := ics (sizL 0)) (e := 3) 3 (fun g_ => [(19, .int .i64 6)]) (fun g_ a_ h_k => ⟨(h_k.inn 6 _ _ kr_ rfl rfl).trans kr_, trivial⟩) (fun g_ X_ => (wn rfl)) rfl (fun g_ X_ => litEv kr_) (fun g_ X_ => litEv kr_) (fun w_ => by kernel_rfl) (fun _ _ _ => ⟨_, rfl⟩) (fun b_ g_ γ_ h_b => by kernel_rfl) (fun _ => by kernel_rfl) kr_) ?_
  refine aoNext rfl aoK_ ?_
  refine aoNext rfl aoK_ ?_
  exact aoDone (by decide)
 intro g_ a_ w8 hF_ hm7
 obtain ⟨X9, rfl⟩ := frLit (⟨hF_.size, hF_.defers, ⟨(hF_.out 1 kr_).trans (litGet kr_), (hF_.out 2 kr_).trans (litGet kr_), (hF_.out 3 kr_).trans (litGet kr_), hF_.i_ 8, hF_.i_ 9, hF_.i_ 0, hF_.i_ 1, hF_.i_ 2, hF_.i_ 3, hF_.i_ 4, hF_.i_ 5, hF_.i_ 6, hF_.i_ 7, trivial⟩⟩ : Fr _ 156 [(1, .pointer (some ⟨g2, 0, none⟩)), (2, .bool false), (3, .func (.func 63) #[] #[]), (4, .slice (some ⟨(g_ 3), 0, none⟩) 24 24), (5, .slice (some ⟨(g_ 7), 0, none⟩) 6 6), (13, .pointer (some ⟨g2, 1, none⟩)), (14, .slice (some ⟨bh_, oh_, none⟩) 24 hc), (15, .int .i64 24), (16, .slice (some ⟨(g_ 3), 0, none⟩) 24 24), (17, .pointer (some ⟨g2, 0, none⟩)), (18, .slice qA 6 qc), (19, .int .i64 6), (20, .slice (some ⟨(g_ 7), 0, none⟩) 6 6)])
 clear hF_
 have hm10 : Mem w w8 ((.rd (some ⟨bh_, oh_, none⟩) 6 24 hc (hfsC bH)) :: (.arr g2 41 ([.slice qA 6 qc, .slice (some ⟨bh_, oh_, none⟩) 24 hc])) :: (.arr (g_ 3) 3 (ics (befL 0))) :: (.arr (g_ 7) 3 (ics (sizL 0))) :: (([] : List Nat).map defR)) := hm7
 clear hm7 hm3
 generalize g_ 3 = g11 at hm10 ⊢
 generalize g_ 7 = g12 at hm10 ⊢
 clear g_
 refine tn_ hK6 ?_
 refine sk_ fun _ hK13 => ?_
 refine sp_ fun _ hK14 => ?_
 refine lk (v := .pointer (some ⟨g2, 1, none⟩)) rfl rfl rfl ?_
 refine lv_ rfl (.slice (some ⟨bh_, oh_, none⟩) 24 hc) (ld_ 1 1 hm10) ?_
 refine lv_ rfl (.int .i64 24) (ln_ (some ⟨bh_, oh_, none⟩) 24 hc Ty.und_L_api_Half) ?_
 refine lk (v := .int .i64 0) rfl rfl rfl ?_
 refine pt_ hK14 ?_
 refine wp_block ?_
 have hm15 := Mem.arrRow (n := 24) (size := 1) 2 hm10 rfl (by decide) (by decide)
 clear hm10
 try simp only [lc_] at hm15
 have hm16 := Mem.arrRow (n := 6) (size := 1) 3 hm15 rfl (by decide) (by decide)
 clear hm15
 try simp only [lc_] at hm16
 refine gwLoop (fun n_ a_ w_ => ∃ (i : Nat), n_ = 24 - i ∧ (i ≤ 24) ∧ Fr (ds := (([] : List Nat).map mark)) a_ 156 [(1, .pointer (some ⟨g2, 0, none⟩)), (3, .func (.func 63) #[] #[]), (4, .slice (some ⟨g11, 0, none⟩) 24 24), (5, .slice (some ⟨g12, 0, none⟩) 6 6), (22, .slice (some ⟨bh_, oh_, none⟩) 24 hc), (23, .int .i64 24), (24, .int .i64 (i : Int))] ∧ Mem w w_ ((.rd (some ⟨bh_, oh_, none⟩) 6 24 hc (hfsC bH)) :: (.arr g2 41 ([.slice qA 6 qc, .slice (some ⟨bh_, oh_, none⟩) 24 hc])) :: (.row (.slice (some ⟨g11, 0, none⟩) 24 24) 3 1 24 (ics (befL i))) :: (.row (.slice (some ⟨g12, 0, none⟩) 6 6) 3 1 6 (ics (sizL i))) :: (([] : List Nat).map defR))) (24 - 0) ⟨0, rfl, (Nat.zero_le _), ⟨litSize, rfl, fo_⟩, hm16⟩ ?_
 clear hm16
 intro n_ a19 w17 hI_
 obtain ⟨i, rfl, hi, hF_, hm18⟩ := hI_
 obtain ⟨X20, rfl⟩ := frLit hF_
 clear hF_
 refine sp_ fun _ hK21 => ?_
 by_cases h22 : (i : Int) < 24
 ·have hhb_ := hB_ok i (by omega)
  have hbd_ := bef_bd i (by omega)
  refine lv_ rfl _ (lsT_ h22) ?_
  refine pt_ hK21 ?_
  refine sk_ fun _ hK23 => ?_
  refine wp_cond_true (litEv kr_) ?_
  refine wp_skip ?_
  refine tn_ hK23 ?_
  refine sk_ fun _ hK24 => ?_
  refine wp_block ?_
  refine sp_ fun _ hK25 => ?_
  refine lv_ rfl (.pointer (some ⟨bh_, oh_ + i * 6, none⟩)) (ia_ hc i Ty.sl_L_api_Half rfl (show i < 24 by omega)) ?_
  refine lv_ rfl (.agg (hfc (hB i)).toArray) (lar_ (m := i * 6) (hm18.rd 0 rfl) (bH_cell (show i < 24 by omega)) (by decide) Ty.ag_voxel_api_Half) ?_
  refine plAlloc (z := [.int .i64 0, .int .i64 0, .int .i64 0, .int .i64 0, .int .i64 0, .int .i64 0]) Ty.ag_voxel_api_Half hm18 (i := 2) rfl (wn rfl) rfl ?_
  intro g26 w28 hm27
  clear hm18
  try simp only [lc_] at hm27
  refine qP rfl ?_
  refine plStore 4 Ty.ag_voxel_api_Half hm27 rfl (i := 3) (cs := hfc (hB i)) rfl (wn rfl) rfl (litEv kr_) (litEv kr_) rfl rfl kr_ ?_
  intro w30 hm29
  clear hm27
  try simp only [lc_] at hm29
  refine qNone rfl ?_
  refine pt_ hK25 ?_
  refine sk_ fun _ hK31 => ?_
  refine sp_ fun _ hK32 => ?_
  refine lk (v := .func (.func 63) #[] #[]) rfl rfl rfl ?_
  refine lk (v := .pointer (some ⟨g26, 3, none⟩)) rfl rfl rfl ?_
  refine lv_ rfl (.int .i64 ((hB i).nx)) (ld_ 3 4 hm29) ?_
  refine lk (v := .pointer (some ⟨g2, 1, none⟩)) rfl rfl rfl ?_
  refine lv_ rfl (.slice (some ⟨bh_, oh_, none⟩) 24 hc) (ld_ 1 1 hm29) ?_
  refine lv_ rfl (.int .i64 24) (ln_ (some ⟨bh_, oh_, none⟩) 24 hc Ty.und_L_api_Half) ?_
  refine plCall (i := 6) 63 [.int .i64 ((hB i).nx), .int .i64 24] [] [] rfl kr_ (wn rfl) rfl (litEv kr_) (litArgs kr_) (inB_any ((hB i).nx) 24 (by omega) _) ?_
  rintro e w33 ⟨rfl, hbz⟩
  have hm34 := hm29.below hbz
  clear hbz hm29
  refine ⟨_, rfl, ?_⟩
  refine qP rfl ?_
  refine lk (v := .bool false) rfl rfl rfl ?_
  refine lk (v := .bool false) rfl rfl rfl ?_
  refine lw_ rfl (.func (.func 63) #[] #[]) (litRun kr_) ?_
  refine lw_ rfl (.pointer (some ⟨g26, 4, none⟩)) (litRun kr_) ?_
  refine lw_ rfl (.int .i64 ((hB i).tw)) (ld_ 4 4 hm34) ?_
  refine lw_ rfl (.pointer (some ⟨g2, 1, none⟩)) (litRun kr_) ?_
  refine lw_ rfl (.slice (some ⟨bh_, oh_, none⟩) 24 hc) (ld_ 1 1 hm34) ?_
  refine lw_ rfl (.int .i64 24) (ln_ (some ⟨bh_, oh_, none⟩) 24 hc Ty.und_L_api_Half) ?_
  refine plCall (i := 15) 63 [.int .i64 ((hB i).tw), .int .i64 24] [] [] rfl kr_ (wgY rfl rfl rfl (by decide) kr_) rfl (litEv kr_) (litArgs kr_) (inB_any ((hB i).tw) 24 (by omega) _) ?_
  rintro e w35 ⟨rfl, hbz⟩
  have hm36 := hm34.below hbz
  clear hbz hm34
  refine ⟨_, rfl, ?_⟩
  refine qP rfl ?_
  refine lw_ rfl (.bool false) (litRun kr_) ?_
  refine lk (v := .bool false) rfl rfl rfl ?_
  refine lk (v := .bool false) rfl rfl rfl ?_
  refine lw_ rfl (.func (.func 63) #[] #[]) (litRun kr_) ?_
  refine lw_ rfl (.pointer (some ⟨g26, 5, none⟩)) (litRun kr_) ?_
  refine lw_ rfl (.int .i64 ((hB i).fc)) (ld_ 5 4 hm36) ?_
  refine lw_ rfl (.pointer (some ⟨g2, 0, none⟩)) (litRun kr_) ?_
  refine lw_ rfl (.slice qA 6 qc) (ld_ 0 1 hm36) ?_
  refine lw_ rfl (.int .i64 6) (ln_ qA 6 qc Ty.und_L_api_Quad) ?_
  refine plCall (i := 25) 63 [.int .i64 ((hB i).fc), .int .i64 6] [] [] rfl kr_ (wgY rfl rfl rfl (by decide) kr_) rfl (litEv kr_) (litArgs kr_) (inB_any ((hB i).fc) 6 (by omega) _) ?_
  rintro e w37 ⟨rfl, hbz⟩
  have hm38 := hm36.below hbz
  clear hbz hm36
  refine ⟨_, rfl, ?_⟩
  refine qP rfl ?_
  refine lw_ rfl (.bool false) (litRun kr_) ?_
  refine lk (v := .bool false) rfl rfl rfl ?_
  refine pt_ hK32 ?_
  refine wp_cond_false (litEv kr_) ?_
  refine wp_skip ?_
  refine tn_ hK31 ?_
  refine sp_ fun _ hK39 => ?_
  refine lk (v := .slice (some ⟨g11, 0, none⟩) 24 24) rfl rfl rfl ?_
  refine lk (v := .pointer (some ⟨g26, 3, none⟩)) rfl rfl rfl ?_
  refine lv_ rfl (.int .i64 ((hB i).nx)) (ld_ 3 4 hm38) ?_
  refine lv_ rfl (.pointer (some ⟨g11, 0 + (nxB i) * 1, none⟩)) (ia_ 24 (nxB i) Ty.sl_L_int hhb_.1 (show nxB i < 24 by omega)) ?_
  refine lv_ rfl (.int .i64 ((befL i).getD (nxB i) 0)) (lr_ (m := (nxB i) * 1) (hm38.rdRow 2 rfl) (icsGet (getD_of 0 (by rw [bef_len]; omega))) (by decide)) ?_
  refine lv_ rfl _ (ad_ ((befL i).getD (nxB i) 0) 1) ?_
  refine lv_ rfl (.pointer (some ⟨g11, 0 + (nxB i) * 1, none⟩)) (ia_ 24 (nxB i) Ty.sl_L_int hhb_.1 (show nxB i < 24 by omega)) ?_
  refine plStoreRow (v := .int .i64 (((befL i).getD (nxB i) 0) + 1)) (v0 := .int .i64 ((befL i).getD (nxB i) 0)) (k := 0 + (nxB i) * 1) (xs := ics (befL i)) 2 kr_ hm38 rfl (i := 7) rfl (wn rfl) rfl (litEv kr_) (litEv kr_) (icsZ (by rw [bef_len]; omega)) (by omega) rfl rfl ?_
  intro w40 hm41
  clear hm38
  try simp only [lc_] at hm41
  replace hm41 := Mem.rowEq (v := .slice (some ⟨g11, 0, none⟩) 24 24) (e := 3) (size := 1) (n := 24) (n' := 24) (xs := (ics (befL i)).set (0 + (nxB i) * 1) (.int .i64 (((befL i).getD (nxB i) 0) + 1))) (xs' := ics (befL (i + 1))) 2 hm41 rfl rfl (icsZs (bef_step i (by omega)))
  try simp only [lc_] at hm41
  refine qNone rfl ?_
  refine pt_ hK39 ?_
  refine plStart ?_
  refine lk (v := .slice (some ⟨g12, 0, none⟩) 6 6) rfl rfl rfl ?_
  refine lk (v := .pointer (some ⟨g26, 5, none⟩)) rfl rfl rfl ?_
  refine lv_ rfl (.int .i64 ((hB i).fc)) (ld_ 5 4 hm41) ?_
  refine lv_ rfl (.pointer (some ⟨g12, 0 + (fcB i) * 1, none⟩)) (ia_ 6 (fcB i) Ty.sl_L_int hhb_.2.2.1 (show fcB i < 6 by omega)) ?_
  refine lv_ rfl (.int .i64 ((sizL i).getD (fcB i) 0)) (lr_ (m := (fcB i) * 1) (hm41.rdRow 3 rfl) (icsGet (getD_of 0 (by rw [siz_len]; omega))) (by decide)) ?_
  refine lv_ rfl _ (ad_ ((sizL i).getD (fcB i) 0) 1) ?_
  refine lv_ rfl (.pointer (some ⟨g12, 0 + (fcB i) * 1, none⟩)) (ia_ 6 (fcB i) Ty.sl_L_int hhb_.2.2.1 (show fcB i < 6 by omega)) ?_
  refine plStoreRow (v := .int .i64 (((sizL i).getD (fcB i) 0) + 1)) (v0 := .int .i64 ((sizL i).getD (fcB i) 0)) (k := 0 + (fcB i) * 1) (xs := ics (sizL i)) 3 kr_ hm41 rfl (i := 7) rfl (wn rfl) rfl (litEv kr_) (litEv kr_) (icsZ (by rw [siz_len]; omega)) (by omega) rfl rfl ?_
  intro w42 hm43
  clear hm41
  try simp only [lc_] at hm43
  replace hm43 := Mem.rowEq (v := .slice (some ⟨g12, 0, none⟩) 6 6) (e := 3) (size := 1) (n := 6) (n' := 6) (xs := (ics (sizL i)).set (0 + (fcB i) * 1) (.int .i64 (((sizL i).getD (fcB i) 0) + 1))) (xs' := ics (sizL (i + 1))) 3 hm43 rfl rfl (icsZs (siz_step i (by omega)))
  try simp only [lc_] at hm43
  refine qNone rfl ?_
  refine plD ?_
  refine inBlock_normal ?_
  refine tn_ hK24 ?_
  refine plStart ?_
  refine lv_ rfl _ (ad_ (i : Int) 1) ?_
  refine lk (v := .int .i64 ((i : Int) + 1)) rfl rfl rfl ?_
  refine plD ?_
  refine then_normal ?_
  exact ⟨_, by omega, (i + 1), rfl, (by omega), ⟨litSize, rfl, fo_⟩, (hm43.sub (.cons_cons _ (.cons_cons _ (.cons_cons _ (.cons_cons _ (.cons _ (List.Sublist.refl _)))))))⟩
 refine lv_ rfl _ (lsF_ h22) ?_
 refine pt_ hK21 ?_
 refine sk_ fun _ hK44 => ?_
 refine wp_cond_false (litEv kr_) ?_
 refine wp_exit ?_
 refine then_exit ?_
 refine then_exit ?_
 refine inBlock_exit ?_
 refine tn_ hK13 ?_
 refine sk_ fun _ hK45 => ?_
 refine sp_ fun _ hK46 => ?_
 refine lk (v := .pointer (some ⟨g2, 1, none⟩)) rfl rfl rfl ?_
 refine lv_ rfl (.slice (some ⟨bh_, oh_, none⟩) 24 hc) (ld_ 1 1 hm18) ?_
 refine lv_ rfl (.int .i64 24) (ln_ (some ⟨bh_, oh_, none⟩) 24 hc Ty.und_L_api_Half) ?_
 refine lk (v := .int .i64 0) rfl rfl rfl ?_
 refine pt_ hK46 ?_
 refine wp_block ?_
 obtain rfl : i = 24 := by omega
 refine gwLoop (fun n_ a_ w_ => ∃ (h : Nat) (ds : List Nat), n_ = 24 - h ∧ (h ≤ 24) ∧ Fr (ds := ((ds : List Nat).map mark)) a_ 156 [(1, .pointer (some ⟨g2, 0, none⟩)), (4, .slice (some ⟨g11, 0, none⟩) 24 24), (5, .slice (some ⟨g12, 0, none⟩) 6 6), (72, .slice (some ⟨bh_, oh_, none⟩) 24 hc), (73, .int .i64 24), (74, .int .i64 (h : Int))] ∧ Mem w w_ ((.rd (some ⟨bh_, oh_, none⟩) 6 24 hc (hfsC bH)) :: (.arr g2 41 ([.slice qA 6 qc, .slice (some ⟨bh_, oh_, none⟩) 24 hc])) :: (.row (.slice (some ⟨g11, 0, none⟩) 24 24) 3 1 24 (ics (befL 24))) :: (.row (.slice (some ⟨g12, 0, none⟩) 6 6) 3 1 6 (ics (sizL 24))) :: ((ds : List Nat).map defR))) (24 - 0) ⟨0, [], rfl, (Nat.zero_le _), ⟨litSize, rfl, fo_⟩, hm18⟩ ?_
 clear hm18
 intro n_ a49 w47 hI_
 obtain ⟨h, ds, rfl, hh3_, hF_, hm48⟩ := hI_
 obtain ⟨X50, rfl⟩ := frLit hF_
 clear hF_
 refine sp_ fun _ hK51 => ?_
 by_cases h52 : (h : Int) < 24
 ·have hh2_ : h < 24 := by omega
  have hhb_ := hB_ok h hh2_
  have hck_ := chk_ok h hh2_
  have hba_ := bef_all h hh2_
  refine lv_ rfl _ (lsT_ h52) ?_
  refine pt_ hK51 ?_
  refine sk_ fun _ hK53 => ?_
  refine wp_cond_true (litEv kr_) ?_
  refine wp_skip ?_
  refine tn_ hK53 ?_
  refine sk_ fun _ hK54 => ?_
  refine wp_block ?_
  refine sp_ fun _ hK55 => ?_
  refine lk (v := .int .i64 (h : Int)) rfl rfl rfl ?_
  refine lv_ rfl (.pointer (some ⟨bh_, oh_ + h * 6, none⟩)) (ia_ hc h Ty.sl_L_api_Half rfl (show h < 24 by omega)) ?_
  refine lv_ rfl (.agg (hfc (hB h)).toArray) (lar_ (m := h * 6) (hm48.rd 0 rfl) (bH_cell (show h < 24 by omega)) (by decide) Ty.ag_voxel_api_Half) ?_
  refine plAlloc (z := [.int .i64 0, .int .i64 0, .int .i64 0, .int .i64 0, .int .i64 0, .int .i64 0]) Ty.ag_voxel_api_Half hm48 (i := 3) rfl (wn rfl) rfl ?_
  intro g56 w58 hm57
  clear hm48
  try simp only [lc_] at hm57
  replace hm57 := hm57.i4
  refine qP rfl ?_
  refine lk (v := .int .i64 (h : Int)) rfl rfl rfl ?_
  refine plStore 4 Ty.ag_voxel_api_Half hm57 rfl (i := 5) (cs := hfc (hB h)) rfl (wn rfl) rfl (litEv kr_) (litEv kr_) rfl rfl kr_ ?_
  intro w60 hm59
  clear hm57
  try simp only [lc_] at hm59
  refine qNone rfl ?_
  refine pt_ hK55 ?_
  refine sk_ fun _ hK61 => ?_
  refine aoStart (aoV [fun _ => .pointer (some ⟨g2, 1, none⟩), fun _ => .slice (some ⟨bh_, oh_, none⟩) 24 hc, fun _ => .pointer (some ⟨g56, 3, none⟩), fun _ => .int .i64 ((hB h).nx), fun _ => .pointer (some ⟨bh_, oh_ + (nxB h) * 6, none⟩), fun _ => .agg (hfc (hB (nxB h))).toArray, fun _ => .pointer (some ⟨g2, 1, none⟩), fun _ => .slice (some ⟨bh_, oh_, none⟩) 24 hc, fun _ => .pointer (some ⟨g56, 4, none⟩), fun _ => .int .i64 ((hB h).tw), fun _ => .pointer (some ⟨bh_, oh_ + (twB h) * 6, none⟩), fun _ => .agg (hfc (hB (twB h))).toArray, fun γ_ => .pointer (some ⟨(γ_.getD 0 0), 0, none⟩), fun γ_ => .pointer (some ⟨(γ_.getD 0 0), 0, none⟩), fun _ => undef, fun _ => undef]) (aoA [[], [], [], [], [], [], [], [], [], [], [], [], [12], [13], [], []]) (fun b_ g_ => ((.rd (some ⟨bh_, oh_, none⟩) 6 24 hc (hfsC bH)) :: (.arr g2 41 ([.slice qA 6 qc, .slice (some ⟨bh_, oh_, none⟩) 24 hc])) :: (.row (.slice (some ⟨g11, 0, none⟩) 24 24) 3 1 24 (ics (befL 24))) :: (.row (.slice (some ⟨g12, 0, none⟩) 6 6) 3 1 6 (ics (sizL 24))) :: (.arr g56 94 (hfc (hB h))) :: (bsel (b_ 12) (.arr (g_ 12) 94 (bsel (b_ 14) [.int .i64 (((hB (nxB h)).p).x), .int .i64 (((hB (nxB h)).p).y), .int .i64 (((hB (nxB h)).p).z), .int .i64 ((hB (nxB h)).nx), .int .i64 ((hB (nxB h)).tw), .int .i64 ((hB (nxB h)).fc)] [.int .i64 0, .int .i64 0, .int .i64 0, .int .i64 0, .int .i64 0, .int .i64 0])) .free) :: (bsel (b_ 13) (.arr (g_ 13) 94 (bsel (b_ 15) [.int .i64 (((hB (twB h)).p).x), .int .i64 (((hB (twB h)).p).y), .int .i64 (((hB (twB h)).p).z), .int .i64 ((hB (twB h)).nx), .int .i64 ((hB (twB h)).tw), .int .i64 ((hB (twB h)).fc)] [.int .i64 0, .int .i64 0, .int .i64 0, .int .i64 0, .int .i64 0, .int .i64 0])) .free) :: ((ds : List Nat).map defR))) hm59 kr_ kr_ (fun w_ h_ => (Mem.insAt 6 (Mem.insAt 5 h_.pushFree).pushFree)) (fun b_ g_ h_ => by show (fun (x12_ x13_ x14_ x15_ : Bool) => (((.rd (some ⟨bh_, oh_, none⟩) 6 24 hc (hfsC bH)) :: (.arr g2 41 ([.slice qA 6 qc, .slice (some ⟨bh_, oh_, none⟩) 24 hc])) :: (.row (.slice (some ⟨g11, 0, none⟩) 24 24) 3 1 24 (ics (befL 24))) :: (.row (.slice (some ⟨g12, 0, none⟩) 6 6) 3 1 6 (ics (sizL 24))) :: (.arr g56 94 (hfc (hB h))) :: (bsel x12_ (.arr (g_ 12) 94 (bsel x14_ [.int .i64 (((hB (nxB h)).p).x), .int .i64 (((hB (nxB h)).p).y), .int .i64 (((hB (nxB h)).p).z), .int .i64 ((hB (nxB h)).nx), .int .i64 ((hB (nxB h)).tw), .int .i64 ((hB (nxB h)).fc)] [.int .i64 0, .int .i64 0, .int .i64 0, .int .i64 0, .int .i64 0, .int .i64 0])) .free) :: (bsel x13_ (.arr (g_ 13) 94 (bsel x15_ [.int .i64 (((hB (twB h)).p).x), .int .i64 (((hB (twB h)).p).y), .int .i64 (((hB (twB h)).p).z), .int .i64 ((hB (twB h)).nx), .int .i64 ((hB (twB h)).tw), .int .i64 ((hB (twB h)).fc)] [.int .i64 0, .int .i64 0, .int .i64 0, .int .i64 0, .int .i64 0, .int .i64 0])) .free) :: ((ds : List Nat).map defR)) : List Res)) (b_ 12) (b_ 13) (b_ 14) (b_ 15) = _; rw [h_ 12 (by decide), h_ 13 (by decide), h_ 14 (by decide), h_ 15 (by decide)]) ?_ ?_
  ·refine aoNext rfl aoK_ ?_
   refine aoNext rfl (aoV_ (fun b_ g_ X_ w_ h_b h_ => valTo (b := .slice (some ⟨bh_, oh_, none⟩) 24 hc) kr_ (ld_ 1 1 h_))) ?_
   refine aoNext rfl aoK_ ?_
   refine aoNext rfl (aoV_ (fun b_ g_ X_ w_ h_b h_ => valTo (b := .int .i64 ((hB h).nx)) kr_ (ld_ 3 4 h_))) ?_
   refine aoNext rfl (aoV_ (fun b_ g_ X_ w_ h_b h_ => valTo (b := .pointer (some ⟨bh_, oh_ + (nxB h) * 6, none⟩)) kr_ (ia_ hc (nxB h) Ty.sl_L_api_Half hhb_.1 (show nxB h < 24 by omega)))) ?_
   refine aoNext rfl (aoV_ (fun b_ g_ X_ w_ h_b h_ => valTo (b := .agg (hfc (hB (nxB h))).toArray) kr_ (lar_ (m := (nxB h) * 6) (h_.rd 0 rfl) (bH_cell (show nxB h < 24 by omega)) (by decide) Ty.ag_voxel_api_Half))) ?_
   refine aoNext rfl aoK_ ?_
   refine aoNext rfl (aoV_ (fun b_ g_ X_ w_ h_b h_ => valTo (b := .slice (some ⟨bh_, oh_, none⟩) 24 hc) kr_ (ld_ 1 1 h_))) ?_
   refine aoNext rfl aoK_ ?_
   refine aoNext rfl (aoV_ (fun b_ g_ X_ w_ h_b h_ => valTo (b := .int .i64 ((hB h).tw)) kr_ (ld_ 4 4 h_))) ?_
   refine aoNext rfl (aoV_ (fun b_ g_ X_ w_ h_b h_ => valTo (b := .pointer (some ⟨bh_, oh_ + (twB h) * 6, none⟩)) kr_ (ia_ hc (twB h) Ty.sl_L_api_Half hhb_.2.1 (show twB h < 24 by omega)))) ?_
   refine aoNext rfl (aoV_ (fun b_ g_ X_ w_ h_b h_ => valTo (b := .agg (hfc (hB (twB h))).toArray) kr_ (lar_ (m := (twB h) * 6) (h_.rd 0 rfl) (bH_cell (show twB h < 24 by omega)) (by decide) Ty.ag_voxel_api_Half))) ?_
   refine aoNext rfl (aoNewAg (z := [.int .i64 0, .int .i64 0, .int .i64 0, .int .i64 0, .int .i64 0, .int .i64 0]) 5 Ty.ag_voxel_api_Half rfl rfl (fun _ _ _ => ⟨_, rfl⟩) (fun b_ g_ γ_ h_b => Eq.trans kr_ (congrArg (fun x_ => List.set _ 5 (Res.arr γ_ 94 x_)) (bselF (α := List Value) (h_b.post 14 kr_) [.int .i64 (((hB (nxB h)).p).x), .int .i64 (((hB (nxB h)).p).y), .int .i64 (((hB (nxB h)).p).z), .int .i64 ((hB (nxB h)).nx), .int .i64 ((hB (nxB h)).tw), .int .i64 ((hB (nxB h)).fc)] [.int .i64 0, .int .i64 0, .int .i64 0, .int .i64 0, .int .i64 0, .int .i64 0]))) (fun _ => by kernel_rfl) kr_) ?_
   refine aoNext rfl (aoNewAg (z := [.int .i64 0, .int .i64 0, .int .i64 0, .int .i64 0, .int .i64 0, .int .i64 0]) 6 Ty.ag_voxel_api_Half rfl rfl (fun _ _ _ => ⟨_, rfl⟩) (fun b_ g_ γ_ h_b => Eq.trans kr_ (congrArg (fun x_ => List.set _ 6 (Res.arr γ_ 94 x_)) (bselF (α := List Value) (h_b.post 15 kr_) [.int .i64 (((hB (twB h)).p).x), .int .i64 (((hB (twB h)).p).y), .int .i64 (((hB (twB h)).p).z), .int .i64 ((hB (twB h)).nx), .int .i64 ((hB (twB h)).tw), .int .i64 ((hB (twB h)).fc)] [.int .i64 0, .int .i64 0, .int .i64 0, .int .i64 0, .int .i64 0, .int .i64 0]))) (fun _ => by kernel_rfl) kr_) ?_
   refine aoNext rfl (aoStore (gb := fun g_ => (g_ 12)) (k := 0) (cur := fun g_ => [.int .i64 0, .int .i64 0, .int .i64 0, .int .i64 0, .int .i64 0, .int .i64 0]) (vs := fun g_ => hfc (hB (nxB h))) 5 (fun g_ => [(10, .pointer (some ⟨(g_ 12), 0, none⟩)), (84, .agg (hfc (hB (nxB h))).toArray)]) (fun g_ a_ h_k => ⟨(h_k.inn 12 _ _ kr_ rfl rfl).trans kr_, (h_k.inn 5 _ _ kr_ rfl rfl).trans kr_, trivial⟩) Ty.ag_voxel_api_Half (fun b_ g_ h_b => by show some (bsel (b_ 12) (Res.arr (g_ 12) 94 (bsel (b_ 14) [.int .i64 (((hB (nxB h)).p).x), .int .i64 (((hB (nxB h)).p).y), .int .i64 (((hB (nxB h)).p).z), .int .i64 ((hB (nxB h)).nx), .int .i64 ((hB (nxB h)).tw), .int .i64 ((hB (nxB h)).fc)] [.int .i64 0, .int .i64 0, .int .i64 0, .int .i64 0, .int .i64 0, .int .i64 0])) Res.free) = some (Res.arr (g_ 12) 94 ([.int .i64 0, .int .i64 0, .int .i64 0, .int .i64 0, .int .i64 0, .int .i64 0])); rw [bselT (h_b.pre 12 kr_), bselF h_b.no]) (fun g_ X_ => (wn rfl)) rfl (fun g_ X_ => litEv kr_) (fun g_ X_ => litEv kr_) (fun _ => by kernel_rfl) (fun _ => by kernel_rfl) (fun _ => by kernel_rfl) (fun b_ g_ h_b => Eq.trans (b := List.set (((.rd (some ⟨bh_, oh_, none⟩) 6 24 hc (hfsC bH)) :: (.arr g2 41 ([.slice qA 6 qc, .slice (some ⟨bh_, oh_, none⟩) 24 hc])) :: (.row (.slice (some ⟨g11, 0, none⟩) 24 24) 3 1 24 (ics (befL 24))) :: (.row (.slice (some ⟨g12, 0, none⟩) 6 6) 3 1 6 (ics (sizL 24))) :: (.arr g56 94 (hfc (hB h))) :: (bsel (b_ 12) (.arr (g_ 12) 94 (bsel (b_ 14) [.int .i64 (((hB (nxB h)).p).x), .int .i64 (((hB (nxB h)).p).y), .int .i64 (((hB (nxB h)).p).z), .int .i64 ((hB (nxB h)).nx), .int .i64 ((hB (nxB h)).tw), .int .i64 ((hB (nxB h)).fc)] [.int .i64 0, .int .i64 0, .int .i64 0, .int .i64 0, .int .i64 0, .int .i64 0])) .free) :: (bsel (b_ 13) (.arr (g_ 13) 94 (bsel (b_ 15) [.int .i64 (((hB (twB h)).p).x), .int .i64 (((hB (twB h)).p).y), .int .i64 (((hB (twB h)).p).z), .int .i64 ((hB (twB h)).nx), .int .i64 ((hB (twB h)).tw), .int .i64 ((hB (twB h)).fc)] [.int .i64 0, .int .i64 0, .int .i64 0, .int .i64 0, .int .i64 0, .int .i64 0])) .free) :: ((ds : List Nat).map defR))) 5 (bsel (b_ 12) (Res.arr (g_ 12) 94 ([.int .i64 (((hB (nxB h)).p).x), .int .i64 (((hB (nxB h)).p).y), .int .i64 (((hB (nxB h)).p).z), .int .i64 ((hB (nxB h)).nx), .int .i64 ((hB (nxB h)).tw), .int .i64 ((hB (nxB h)).fc)])) Res.free)) kr_ (congrArg (fun x_ => List.set _ 5 x_) (bselT (h_b.pre 12 kr_) _ _))) rfl) ?_
   refine aoNext rfl (aoStore (gb := fun g_ => (g_ 13)) (k := 0) (cur := fun g_ => [.int .i64 0, .int .i64 0, .int .i64 0, .int .i64 0, .int .i64 0, .int .i64 0]) (vs := fun g_ => hfc (hB (twB h))) 6 (fun g_ => [(11, .pointer (some ⟨(g_ 13), 0, none⟩)), (90, .agg (hfc (hB (twB h))).toArray)]) (fun g_ a_ h_k => ⟨(h_k.inn 13 _ _ kr_ rfl rfl).trans kr_, (h_k.inn 11 _ _ kr_ rfl rfl).trans kr_, trivial⟩) Ty.ag_voxel_api_Half (fun b_ g_ h_b => by show some (bsel (b_ 13) (Res.arr (g_ 13) 94 (bsel (b_ 15) [.int .i64 (((hB (twB h)).p).x), .int .i64 (((hB (twB h)).p).y), .int .i64 (((hB (twB h)).p).z), .int .i64 ((hB (twB h)).nx), .int .i64 ((hB (twB h)).tw), .int .i64 ((hB (twB h)).fc)] [.int .i64 0, .int .i64 0, .int .i64 0, .int .i64 0, .int .i64 0, .int .i64 0])) Res.free) = some (Res.arr (g_ 13) 94 ([.int .i64 0, .int .i64 0, .int .i64 0, .int .i64 0, .int .i64 0, .int .i64 0])); rw [bselT (h_b.pre 13 kr_), bselF h_b.no]) (fun g_ X_ => (wn rfl)) rfl (fun g_ X_ => litEv kr_) (fun g_ X_ => litEv kr_) (fun _ => by kernel_rfl) (fun _ => by kernel_rfl) (fun _ => by kernel_rfl) (fun b_ g_ h_b => Eq.trans (b := List.set (((.rd (some ⟨bh_, oh_, none⟩) 6 24 hc (hfsC bH)) :: (.arr g2 41 ([.slice qA 6 qc, .slice (some ⟨bh_, oh_, none⟩) 24 hc])) :: (.row (.slice (some ⟨g11, 0, none⟩) 24 24) 3 1 24 (ics (befL 24))) :: (.row (.slice (some ⟨g12, 0, none⟩) 6 6) 3 1 6 (ics (sizL 24))) :: (.arr g56 94 (hfc (hB h))) :: (bsel (b_ 12) (.arr (g_ 12) 94 (bsel (b_ 14) [.int .i64 (((hB (nxB h)).p).x), .int .i64 (((hB (nxB h)).p).y), .int .i64 (((hB (nxB h)).p).z), .int .i64 ((hB (nxB h)).nx), .int .i64 ((hB (nxB h)).tw), .int .i64 ((hB (nxB h)).fc)] [.int .i64 0, .int .i64 0, .int .i64 0, .int .i64 0, .int .i64 0, .int .i64 0])) .free) :: (bsel (b_ 13) (.arr (g_ 13) 94 (bsel (b_ 15) [.int .i64 (((hB (twB h)).p).x), .int .i64 (((hB (twB h)).p).y), .int .i64 (((hB (twB h)).p).z), .int .i64 ((hB (twB h)).nx), .int .i64 ((hB (twB h)).tw), .int .i64 ((hB (twB h)).fc)] [.int .i64 0, .int .i64 0, .int .i64 0, .int .i64 0, .int .i64 0, .int .i64 0])) .free) :: ((ds : List Nat).map defR))) 6 (bsel (b_ 13) (Res.arr (g_ 13) 94 ([.int .i64 (((hB (twB h)).p).x), .int .i64 (((hB (twB h)).p).y), .int .i64 (((hB (twB h)).p).z), .int .i64 ((hB (twB h)).nx), .int .i64 ((hB (twB h)).tw), .int .i64 ((hB (twB h)).fc)])) Res.free)) kr_ (congrArg (fun x_ => List.set _ 6 x_) (bselT (h_b.pre 13 kr_) _ _))) rfl) ?_
   exact aoDone (by decide)
  intro g_ a_ w63 hF_ hm62
  obtain ⟨X64, rfl⟩ := frLit (⟨hF_.size, hF_.defers, ⟨(hF_.out 1 kr_).trans (litGet kr_), (hF_.out 4 kr_).trans (litGet kr_), (hF_.out 5 kr_).trans (litGet kr_), (hF_.out 8 kr_).trans (litGet kr_), (hF_.out 9 kr_).trans (litGet kr_), hF_.i_ 12, hF_.i_ 13, (hF_.out 72 kr_).trans (litGet kr_), (hF_.out 73 kr_).trans (litGet kr_), (hF_.out 74 kr_).trans (litGet kr_), (hF_.out 75 kr_).trans (litGet kr_), (hF_.out 76 kr_).trans (litGet kr_), (hF_.out 77 kr_).trans (litGet kr_), (hF_.out 78 kr_).trans (litGet kr_), hF_.i_ 0, hF_.i_ 1, hF_.i_ 2, hF_.i_ 3, hF_.i_ 4, hF_.i_ 5, hF_.i_ 6, hF_.i_ 7, hF_.i_ 8, hF_.i_ 9, hF_.i_ 10, hF_.i_ 11, trivial⟩⟩ : Fr _ 156 [(1, .pointer (some ⟨g2, 0, none⟩)), (4, .slice (some ⟨g11, 0, none⟩) 24 24), (5, .slice (some ⟨g12, 0, none⟩) 6 6), (8, .int .i64 (h : Int)), (9, .pointer (some ⟨g56, 0, none⟩)), (10, .pointer (some ⟨(g_ 12), 0, none⟩)), (11, .pointer (some ⟨(g_ 13), 0, none⟩)), (72, .slice (some ⟨bh_, oh_, none⟩) 24 hc), (73, .int .i64 24), (74, .int .i64 (h : Int)), (75, .bool true), (76, .int .i64 (h : Int)), (77, .pointer (some ⟨bh_, oh_ + h * 6, none⟩)), (78, .agg (hfc (hB h)).toArray), (79, .pointer (some ⟨g2, 1, none⟩)), (80, .slice (some ⟨bh_, oh_, none⟩) 24 hc), (81, .pointer (some ⟨g56, 3, none⟩)), (82, .int .i64 ((hB h).nx)), (83, .pointer (some ⟨bh_, oh_ + (nxB h) * 6, none⟩)), (84, .agg (hfc (hB (nxB h))).toArray), (85, .pointer (some ⟨g2, 1, none⟩)), (86, .slice (some ⟨bh_, oh_, none⟩) 24 hc), (87, .pointer (some ⟨g56, 4, none⟩)), (88, .int .i64 ((hB h).tw)), (89, .pointer (some ⟨bh_, oh_ + (twB h) * 6, none⟩)), (90, .agg (hfc (hB (twB h))).toArray)])
  clear hF_
  have hm65 : Mem w w63 ((.rd (some ⟨bh_, oh_, none⟩) 6 24 hc (hfsC bH)) :: (.arr g2 41 ([.slice qA 6 qc, .slice (some ⟨bh_, oh_, none⟩) 24 hc])) :: (.row (.slice (some ⟨g11, 0, none⟩) 24 24) 3 1 24 (ics (befL 24))) :: (.row (.slice (some ⟨g12, 0, none⟩) 6 6) 3 1 6 (ics (sizL 24))) :: (.arr g56 94 (hfc (hB h))) :: (.arr (g_ 12) 94 (hfc (hB (nxB h)))) :: (.arr (g_ 13) 94 (hfc (hB (twB h)))) :: ((ds : List Nat).map defR)) := hm62
  clear hm62 hm59
  generalize g_ 12 = g66 at hm65 ⊢
  generalize g_ 13 = g67 at hm65 ⊢
  clear g_
  refine tn_ hK61 ?_
  refine sk_ fun _ hK68 => ?_
  refine sk_ fun _ hK69 => ?_
  refine wpNoPanic ?_
  refine mgStart hm65 kr_ ?_
  intro w71 hm70
  clear hm65
  refine mk_ (i := 0) (v := .pointer (some ⟨g66, 5, none⟩)) rfl rfl (fun _ _ _ h => h) hm70 rfl ?_
  refine mt_ 1 rfl (.int .i64 ((hB (nxB h)).fc)) hm70 (fun w_ h_ => ld_ 5 5 h_) ?_
  refine mk_ (i := 2) (v := .pointer (some ⟨g56, 5, none⟩)) rfl rfl (fun _ _ _ h => h) hm70 rfl ?_
  refine mt_ 3 rfl (.int .i64 ((hB h).fc)) hm70 (fun w_ h_ => ld_ 5 4 h_) ?_
  refine mt_ 4 rfl (.bool false) hm70 (fun w_ h_ => neT_ hck_.1) ?_
  refine mk_ (i := 5) (v := .bool false) rfl rfl (fun _ _ _ h => h) hm70 rfl ?_
  refine mgTake (i := 6) (v := .slice (some ⟨g11, 0, none⟩) 24 24) rfl kr_ (wgY rfl rfl rfl (by decide) kr_) (fun _ _ _ h => h) hm70 (fun w_ h_ => litRun kr_) ?_
  refine mP rfl ?_
  refine mgTake (i := 7) (v := .int .i64 (h : Int)) rfl kr_ (wgY rfl rfl rfl (by decide) kr_) (fun _ _ _ h => h) hm70 (fun w_ h_ => litRun kr_) ?_
  refine mP rfl ?_
  refine mgTake (i := 8) (v := .pointer (some ⟨g11, 0 + h * 1, none⟩)) rfl kr_ (wgY rfl rfl rfl (by decide) kr_) (fun _ _ _ h => h) hm70 (fun w_ h_ => gIaSl (b := g11) (off := 0) (n := 24) (c := 24) (kk := .i64) (K := (h : Int)) (.tmp 97) (.tmp 98) h Ty.sl_L_int rfl (litEv kr_) (litEv kr_) (rfl) ((show h < 24 by omega))) ?_
  refine mP rfl ?_
  refine mgTake (i := 9) (v := .int .i64 ((befL 24).getD h 0)) rfl kr_ (wgY rfl rfl rfl (by decide) kr_) (fun _ _ _ h => h) hm70 (fun w_ h_ => gLoadRd (v := .int .i64 ((befL 24).getD h 0)) (m := h * 1) (h_.rdRow 2 rfl) rfl (icsGet (getD_of 0 (by rw [bef_len]; omega))) (by decide) (.tmp 99) kr_ rfl (litEv kr_)) ?_
  refine mP rfl ?_
  refine mgTake (i := 10) (v := .bool false) rfl kr_ (wgY rfl rfl rfl (by decide) kr_) (fun _ _ _ h => h) hm70 (fun w_ h_ => boolTo (by rw [decide_eq_true hba_.1]; rfl) (neqRun (A := ((befL 24).getD h 0)) (B := 1) (.tmp 100) (.const (.int .i64 1)) rfl (litEv kr_) (litEv kr_))) ?_
  refine mP rfl ?_
  refine mk_ (i := 11) (v := .bool false) rfl rfl (fun _ _ _ h => h) hm70 rfl ?_
  refine mk_ (i := 12) (v := .bool false) rfl rfl (fun _ _ _ h => h) hm70 rfl ?_
  refine mgTake (i := 13) (v := .pointer (some ⟨g56, 0, none⟩)) rfl kr_ (wgY rfl rfl rfl (by decide) kr_) (fun _ _ _ h => h) hm70 (fun w_ h_ => litRun kr_) ?_
  refine mP rfl ?_
  refine mgTake (i := 14) (v := .agg (pcs ((hB h).p)).toArray) rfl kr_ (wgY rfl rfl rfl (by decide) kr_) (fun _ _ _ h => h) hm70 (fun w_ h_ => gLoadAg (vs := pcs ((hB h).p)) (k := 0) 4 h_ rfl kr_ kr_ (.tmp 104) Ty.ag_voxel_api_Point rfl (litEv kr_)) ?_
  refine mP rfl ?_
  refine mgTake (i := 15) (v := .pointer (some ⟨g66, 0, none⟩)) rfl kr_ (wgY rfl rfl rfl (by decide) kr_) (fun _ _ _ h => h) hm70 (fun w_ h_ => litRun kr_) ?_
  refine mP rfl ?_
  refine mgTake (i := 16) (v := .agg (pcs ((hB (nxB h)).p)).toArray) rfl kr_ (wgY rfl rfl rfl (by decide) kr_) (fun _ _ _ h => h) hm70 (fun w_ h_ => gLoadAg (vs := pcs ((hB (nxB h)).p)) (k := 0) 5 h_ rfl kr_ kr_ (.tmp 106) Ty.ag_voxel_api_Point rfl (litEv kr_)) ?_
  refine mP rfl ?_
  refine mgCall (i := 17) 64 [.agg (pcs ((hB h).p)).toArray, .agg (pcs ((hB (nxB h)).p)).toArray] [] [] kr_ rfl kr_ (wgY rfl rfl rfl (by decide) kr_) rfl (litEv kr_) (litArgs kr_) (straight_any (hB h).p (hB (nxB h)).p hck_.2.1 _) ?_
  rintro e w72 ⟨rfl, hbz⟩
  have hm73 := hm70.below hbz
  clear hbz hm70
  refine ⟨_, rfl, hm73, ?_⟩
  refine mP rfl ?_
  refine mgTake (i := 18) (v := .bool false) rfl kr_ (wgY rfl rfl rfl (by decide) kr_) (fun _ _ _ h => h) hm73 (fun w_ h_ => litRun kr_) ?_
  refine mP rfl ?_
  refine mk_ (i := 19) (v := .bool false) rfl rfl (fun _ _ _ h => h) hm73 rfl ?_
  refine mk_ (i := 20) (v := .bool false) rfl rfl (fun _ _ _ h => h) hm73 rfl ?_
  refine mgTake (i := 21) (v := .pointer (some ⟨g56, 4, none⟩)) rfl kr_ (wgY rfl rfl rfl (by decide) kr_) (fun _ _ _ h => h) hm73 (fun w_ h_ => litRun kr_) ?_
  refine mP rfl ?_
  refine mgTake (i := 22) (v := .int .i64 ((hB h).tw)) rfl kr_ (wgY rfl rfl rfl (by decide) kr_) (fun _ _ _ h => h) hm73 (fun w_ h_ => gLoad (v := .int .i64 ((hB h).tw)) (k := 4) 4 h_ rfl kr_ (.tmp 112) kr_ rfl (litEv kr_)) ?_
  refine mP rfl ?_
  refine mgTake (i := 23) (v := .int .i64 (h : Int)) rfl kr_ (wgY rfl rfl rfl (by decide) kr_) (fun _ _ _ h => h) hm73 (fun w_ h_ => litRun kr_) ?_
  refine mP rfl ?_
  refine mgTake (i := 24) (v := .bool false) rfl kr_ (wgY rfl rfl rfl (by decide) kr_) (fun _ _ _ h => h) hm73 (fun w_ h_ => boolTo (decide_eq_false hck_.2.2.1) (eqlRun (A := ((hB h).tw)) (B := (h : Int)) (.tmp 113) (.tmp 114) rfl (litEv kr_) (litEv kr_))) ?_
  refine mP rfl ?_
  refine mk_ (i := 25) (v := .bool false) rfl rfl (fun _ _ _ h => h) hm73 rfl ?_
  refine mk_ (i := 26) (v := .bool false) rfl rfl (fun _ _ _ h => h) hm73 rfl ?_
  refine mgTake (i := 27) (v := .pointer (some ⟨g67, 4, none⟩)) rfl kr_ (wgY rfl rfl rfl (by decide) kr_) (fun _ _ _ h => h) hm73 (fun w_ h_ => litRun kr_) ?_
  refine mP rfl ?_
  refine mgTake (i := 28) (v := .int .i64 ((hB (twB h)).tw)) rfl kr_ (wgY rfl rfl rfl (by decide) kr_) (fun _ _ _ h => h) hm73 (fun w_ h_ => gLoad (v := .int .i64 ((hB (twB h)).tw)) (k := 4) 6 h_ rfl kr_ (.tmp 118) kr_ rfl (litEv kr_)) ?_
  refine mP rfl ?_
  refine mgTake (i := 29) (v := .int .i64 (h : Int)) rfl kr_ (wgY rfl rfl rfl (by decide) kr_) (fun _ _ _ h => h) hm73 (fun w_ h_ => litRun kr_) ?_
  refine mP rfl ?_
  refine mgTake (i := 30) (v := .bool false) rfl kr_ (wgY rfl rfl rfl (by decide) kr_) (fun _ _ _ h => h) hm73 (fun w_ h_ => boolTo (by rw [decide_eq_true hck_.2.2.2.1]; rfl) (neqRun (A := ((hB (twB h)).tw)) (B := (h : Int)) (.tmp 119) (.tmp 120) rfl (litEv kr_) (litEv kr_))) ?_
  refine mP rfl ?_
  refine mk_ (i := 31) (v := .bool false) rfl rfl (fun _ _ _ h => h) hm73 rfl ?_
  refine mk_ (i := 32) (v := .bool false) rfl rfl (fun _ _ _ h => h) hm73 rfl ?_
  refine mgTake (i := 33) (v := .pointer (some ⟨g67, 0, none⟩)) rfl kr_ (wgY rfl rfl rfl (by decide) kr_) (fun _ _ _ h => h) hm73 (fun w_ h_ => litRun kr_) ?_
  refine mP rfl ?_
  refine mgTake (i := 34) (v := .agg (pcs ((hB (twB h)).p)).toArray) rfl kr_ (wgY rfl rfl rfl (by decide) kr_) (fun _ _ _ h => h) hm73 (fun w_ h_ => gLoadAg (vs := pcs ((hB (twB h)).p)) (k := 0) 6 h_ rfl kr_ kr_ (.tmp 124) Ty.ag_voxel_api_Point rfl (litEv kr_)) ?_
  refine mP rfl ?_
  refine mgTake (i := 35) (v := .pointer (some ⟨g66, 0, none⟩)) rfl kr_ (wgY rfl rfl rfl (by decide) kr_) (fun _ _ _ h => h) hm73 (fun w_ h_ => litRun kr_) ?_
  refine mP rfl ?_
  refine mgTake (i := 36) (v := .agg (pcs ((hB (nxB h)).p)).toArray) rfl kr_ (wgY rfl rfl rfl (by decide) kr_) (fun _ _ _ h => h) hm73 (fun w_ h_ => gLoadAg (vs := pcs ((hB (nxB h)).p)) (k := 0) 5 h_ rfl kr_ kr_ (.tmp 126) Ty.ag_voxel_api_Point rfl (litEv kr_)) ?_
  refine mP rfl ?_
  refine mgTake (i := 37) (v := .bool false) rfl kr_ (wgY rfl rfl rfl (by decide) kr_) (fun _ _ _ h => h) hm73 (fun w_ h_ => boolTo (by rw [decide_eq_true hck_.2.2.2.2.1]; rfl) (neqPtRun (.tmp 125) (.tmp 127) ((hB (twB h)).p) ((hB (nxB h)).p) kr_ kr_ kr_ kr_ rfl (litEv kr_) (litEv kr_))) ?_
  refine mP rfl ?_
  refine mk_ (i := 38) (v := .bool false) rfl rfl (fun _ _ _ h => h) hm73 rfl ?_
  refine mk_ (i := 39) (v := .bool false) rfl rfl (fun _ _ _ h => h) hm73 rfl ?_
  refine mgTake (i := 40) (v := .agg ([.slice qA 6 qc, .slice (some ⟨bh_, oh_, none⟩) 24 hc]).toArray) rfl kr_ (wgY rfl rfl rfl (by decide) kr_) (fun _ _ _ h => h) hm73 (fun w_ h_ => gLoadAg (vs := [.slice qA 6 qc, .slice (some ⟨bh_, oh_, none⟩) 24 hc]) (k := 0) 1 h_ rfl kr_ kr_ (.tmp 1) Ty.ag_voxel_api_Mesh rfl (litEv kr_)) ?_
  refine mP rfl ?_
  refine mgTake (i := 41) (v := .pointer (some ⟨g56, 4, none⟩)) rfl kr_ (wgY rfl rfl rfl (by decide) kr_) (fun _ _ _ h => h) hm73 (fun w_ h_ => litRun kr_) ?_
  refine mP rfl ?_
  refine mgTake (i := 42) (v := .int .i64 ((hB h).tw)) rfl kr_ (wgY rfl rfl rfl (by decide) kr_) (fun _ _ _ h => h) hm73 (fun w_ h_ => gLoad (v := .int .i64 ((hB h).tw)) (k := 4) 4 h_ rfl kr_ (.tmp 132) kr_ rfl (litEv kr_)) ?_
  refine mP rfl ?_
  refine mgTake (i := 44) (v := .pointer (some ⟨g56, 0, none⟩)) rfl kr_ (wgY rfl rfl rfl (by decide) kr_) (fun _ _ _ h => h) hm73 (fun w_ h_ => litRun kr_) ?_
  refine mP rfl ?_
  refine mgTake (i := 45) (v := .agg (pcs ((hB h).p)).toArray) rfl kr_ (wgY rfl rfl rfl (by decide) kr_) (fun _ _ _ h => h) hm73 (fun w_ h_ => gLoadAg (vs := pcs ((hB h).p)) (k := 0) 4 h_ rfl kr_ kr_ (.tmp 135) Ty.ag_voxel_api_Point rfl (litEv kr_)) ?_
  refine mP rfl ?_
  refine mgCall (i := 43) 38 [.agg ([.slice qA 6 qc, .slice (some ⟨bh_, oh_, none⟩) 24 hc]).toArray, .int .i64 ((hB h).tw)] [] [] kr_ rfl kr_ (wgY rfl rfl rfl (by decide) kr_) rfl (litEv kr_) (litArgs kr_) (by exact toB_any (.slice qA 6 qc) (hB h).tw (twB h) hhb_.2.1 (by omega) (some ⟨bh_, oh_, none⟩) hc _ (hm73.rd 0 rfl)) ?_
  rintro e w74 ⟨rfl, hbz⟩
  have hm75 := hm73.below hbz
  clear hbz hm73
  refine ⟨_, rfl, hm75, ?_⟩
  refine mP rfl ?_
  refine mgTake (i := 46) (v := .bool false) rfl kr_ (wgY rfl rfl rfl (by decide) kr_) (fun _ _ _ h => h) hm75 (fun w_ h_ => boolTo (by rw [decide_eq_true hck_.2.2.2.2.2]; rfl) (neqPtRun (.tmp 134) (.tmp 136) ((hB (nxB (twB h))).p) ((hB h).p) kr_ kr_ kr_ kr_ rfl (litEv kr_) (litEv kr_))) ?_
  refine mP rfl ?_
  refine mk_ (i := 47) (v := .bool false) rfl rfl (fun _ _ _ h => h) hm75 rfl ?_
  refine mgDone kr_ ?_
  refine noPN ?_
  refine tn_ hK69 ?_
  refine wp_cond_false (litEv kr_) ?_
  refine wp_skip ?_
  refine tn_ hK68 ?_
  refine sp_ fun _ hK76 => ?_
  refine plAlloc1 (v := .int .i64 0) kr_ hm75 (i := 0) rfl (wn rfl) rfl ?_
  intro g77 w79 hm78
  clear hm75
  try simp only [lc_] at hm78
  replace hm78 := hm78.i7
  refine qP rfl ?_
  refine plStore1 (v := .int .i64 0) (k := 0) 7 kr_ hm78 rfl (i := 1) rfl (wn rfl) rfl (litEv kr_) (litEv kr_) rfl rfl rfl ?_
  intro w81 hm80
  clear hm78
  try simp only [lc_] at hm80
  refine qNone rfl ?_
  refine pt_ hK76 ?_
  refine sk_ fun _ hK82 => ?_
  refine sp_ fun _ hK83 => ?_
  refine lv_ rfl (.agg ([.slice qA 6 qc, .slice (some ⟨bh_, oh_, none⟩) 24 hc]).toArray) (la_ 0 1 hm80 Ty.ag_voxel_api_Mesh) ?_
  refine lk (v := .int .i64 (h : Int)) rfl rfl rfl ?_
  refine plCall (i := 2) 65 [.agg ([.slice qA 6 qc, .slice (some ⟨bh_, oh_, none⟩) 24 hc]).toArray, .int .i64 (h : Int)] [] [] rfl kr_ (wn rfl) rfl (litEv kr_) (litArgs kr_) (by exact cycle_any (M := ((.rd (some ⟨bh_, oh_, none⟩) 6 24 hc (hfsC bH)) :: (.arr g2 41 ([.slice qA 6 qc, .slice (some ⟨bh_, oh_, none⟩) 24 hc])) :: (.row (.slice (some ⟨g11, 0, none⟩) 24 24) 3 1 24 (ics (befL 24))) :: (.row (.slice (some ⟨g12, 0, none⟩) 6 6) 3 1 6 (ics (sizL 24))) :: (.arr g56 94 (hfc (hB h))) :: (.arr g66 94 (hfc (hB (nxB h)))) :: (.arr g67 94 (hfc (hB (twB h)))) :: (.arr g77 3 ([.int .i64 0])) :: ((ds : List Nat).map defR))) (.slice qA 6 qc) (.slice (some ⟨bh_, oh_, none⟩) 24 hc) h hm80) ?_
  rintro e w84 ⟨g86, g87, rfl, hm85⟩
  clear hm80
  refine ⟨_, rfl, ?_⟩
  refine qP rfl ?_
  refine pt_ hK83 ?_
  refine wp_block ?_
  have hm88 := hm85.f2
  clear hm85
  have hm89 := hm88.f2
  clear hm88
  have hm90 := hm89.f2
  clear hm89
  have hm91 := hm90.f9
  clear hm90
  have hm92 := hm91.f9
  clear hm91
  have hm93 := hm92.f9
  clear hm92
  have hm94 := hm93.f9
  clear hm93
  have hm95 := hm94.f9
  clear hm94
  have hm96 := hm95.f9
  clear hm95
  have hm97 := hm96.f9
  clear hm96
  refine gwRange (gf := 95) (lb := [.pointer (some ⟨g87, 0, none⟩), .pointer (some ⟨g86, 0, none⟩)]) (cycV h) ([.arr g86 41 ([.slice qA 6 qc, .slice (some ⟨bh_, oh_, none⟩) 24 hc]), .arr g87 3 ([.int .i64 (h : Int)]), .rd (some ⟨bh_, oh_, none⟩) 6 24 hc (hfsC bH)]) (litEv kr_) kr_ (cycle_word g86 g87 qA qc bh_ oh_ hc h hh2_) (cycV_len1 h) (fun i_ V_ => (True) ∧ V_ = [.arr g2 41 ([.slice qA 6 qc, .slice (some ⟨bh_, oh_, none⟩) 24 hc]), .row (.slice (some ⟨g11, 0, none⟩) 24 24) 3 1 24 (ics (befL 24)), .row (.slice (some ⟨g12, 0, none⟩) 6 6) 3 1 6 (ics (sizL 24)), .arr g56 94 (hfc (hB h)), .arr g66 94 (hfc (hB (nxB h))), .arr g67 94 (hfc (hB (twB h))), .arr g77 3 ([.int .i64 (i_ : Int)])]) (fun _ _ => False) ([.arr g2 41 ([.slice qA 6 qc, .slice (some ⟨bh_, oh_, none⟩) 24 hc]), .row (.slice (some ⟨g11, 0, none⟩) 24 24) 3 1 24 (ics (befL 24)), .row (.slice (some ⟨g12, 0, none⟩) 6 6) 3 1 6 (ics (sizL 24)), .arr g56 94 (hfc (hB h)), .arr g66 94 (hfc (hB (nxB h))), .arr g67 94 (hfc (hB (twB h))), .arr g77 3 ([.int .i64 0])]) ((ds : List Nat).map defR) ⟨trivial, rfl⟩ hm97 ?_ ?_ (fun _ _ _ _ h => h.elim)
  ·clear hm97
   intro lp98 i99 x100 w101 V102 N103 hx104 hJ_ hm105
   obtain ⟨ht_, rfl⟩ := hJ_
   try simp only [lc_] at hm105
   obtain ⟨_, rfl⟩ := cycV_one hx104
   clear hx104
   refine rgFrame1 ?_
   refine wpIn_skip ?_
   refine ⟨[.arr g2 41 ([.slice qA 6 qc, .slice (some ⟨bh_, oh_, none⟩) 24 hc]), .row (.slice (some ⟨g11, 0, none⟩) 24 24) 3 1 24 (ics (befL 24)), .row (.slice (some ⟨g12, 0, none⟩) 6 6) 3 1 6 (ics (sizL 24)), .arr g56 94 (hfc (hB h)), .arr g66 94 (hfc (hB (nxB h))), .arr g67 94 (hfc (hB (twB h))), .arr g77 3 ([.int .i64 (i99 : Int)])], hm105, ?_⟩
   clear hm105
   intro w106 N107 hm108
   try simp only [lc_] at hm108
   refine wpPruneR [(12, .pointer (some ⟨g77, 0, none⟩))] fo_ (fun X109 => ?_)
   refine wpIn_block ?_
   refine plStartR kr_ (fun _ _ h => h) ?_
   refine lv_ rfl (.int .i64 (i99 : Int)) (ld_ 0 6 hm108) ?_
   refine lv_ rfl _ (ad_ (i99 : Int) 1) ?_
   refine plStore1 (v := .int .i64 ((i99 : Int) + 1)) (k := 0) 6 kr_ hm108 rfl (i := 2) rfl (wn rfl) rfl (litEv kr_) (litEv kr_) rfl rfl rfl ?_
   intro w111 hm110
   clear hm108
   try simp only [lc_] at hm110
   refine qNone rfl ?_
   refine plD ?_
   refine inBlock_normal ?_
   exact ⟨_, ⟨trivial, rfl⟩, hm110⟩
  clear hm97
  intro D112 w113 V114 hJ_ hm115
  obtain ⟨ht_, rfl⟩ := hJ_
  refine rgDone ?_
  have hm116 : Mem w w113 ((.arr g2 41 ([.slice qA 6 qc, .slice (some ⟨bh_, oh_, none⟩) 24 hc])) :: (.row (.slice (some ⟨g11, 0, none⟩) 24 24) 3 1 24 (ics (befL 24))) :: (.row (.slice (some ⟨g12, 0, none⟩) 6 6) 3 1 6 (ics (sizL 24))) :: (.arr g56 94 (hfc (hB h))) :: (.arr g66 94 (hfc (hB (nxB h)))) :: (.arr g67 94 (hfc (hB (twB h)))) :: (.arr g77 3 ([.int .i64 (4 : Int)])) :: (.arr g86 41 ([.slice qA 6 qc, .slice (some ⟨bh_, oh_, none⟩) 24 hc])) :: (.arr g87 3 ([.int .i64 (h : Int)])) :: (.rd (some ⟨bh_, oh_, none⟩) 6 24 hc (hfsC bH)) :: (((D112 :: ds) : List Nat).map defR)) := hm115
  clear hm115
  have hm117 : Mem w w113 ((.arr g2 41 ([.slice qA 6 qc, .slice (some ⟨bh_, oh_, none⟩) 24 hc])) :: (.row (.slice (some ⟨g11, 0, none⟩) 24 24) 3 1 24 (ics (befL 24))) :: (.row (.slice (some ⟨g12, 0, none⟩) 6 6) 3 1 6 (ics (sizL 24))) :: (.arr g56 94 (hfc (hB h))) :: (.arr g66 94 (hfc (hB (nxB h)))) :: (.arr g67 94 (hfc (hB (twB h)))) :: (.arr g77 3 ([.int .i64 4])) :: (.arr g86 41 ([.slice qA 6 qc, .slice (some ⟨bh_, oh_, none⟩) 24 hc])) :: (.arr g87 3 ([.int .i64 (h : Int)])) :: (.rd (some ⟨bh_, oh_, none⟩) 6 24 hc (hfsC bH)) :: (((D112 :: ds) : List Nat).map defR)) := hm116
  clear hm116
  refine inBlock_normal ?_
  refine tn_ hK82 ?_
  refine sk_ fun _ hK118 => ?_
  refine wpNoPanic ?_
  refine mgStart hm117 kr_ ?_
  intro w120 hm119
  clear hm117
  refine mt_ 0 rfl (.int .i64 4) hm119 (fun w_ h_ => ld_ 0 6 h_) ?_
  refine mk_ (i := 1) (v := .slice (some ⟨g12, 0, none⟩) 6 6) rfl rfl (fun _ _ _ h => h) hm119 rfl ?_
  refine mk_ (i := 2) (v := .pointer (some ⟨g56, 5, none⟩)) rfl rfl (fun _ _ _ h => h) hm119 rfl ?_
  refine mt_ 3 rfl (.int .i64 ((hB h).fc)) hm119 (fun w_ h_ => ld_ 5 3 h_) ?_
  refine mt_ 4 rfl (.pointer (some ⟨g12, 0 + (fcB h) * 1, none⟩)) hm119 (fun w_ h_ => ia_ 6 (fcB h) Ty.sl_L_int hhb_.2.2.1 (show fcB h < 6 by omega)) ?_
  refine mt_ 5 rfl (.int .i64 ((sizL 24).getD (fcB h) 0)) hm119 (fun w_ h_ => lr_ (m := (fcB h) * 1) (h_.rdRow 2 rfl) (icsGet (getD_of 0 (by rw [siz_len]; omega))) (by decide)) ?_
  refine mt_ 6 rfl (.bool false) hm119 (fun w_ h_ => neT_ hba_.2.symm) ?_
  refine mgDone kr_ ?_
  refine noPN ?_
  refine tn_ hK118 ?_
  refine wp_cond_false (litEv kr_) ?_
  refine wp_skip ?_
  refine inBlock_normal ?_
  refine tn_ hK54 ?_
  refine plStart ?_
  refine lv_ rfl _ (ad_ (h : Int) 1) ?_
  refine lk (v := .int .i64 ((h : Int) + 1)) rfl rfl rfl ?_
  refine plD ?_
  refine then_normal ?_
  have hm121 := hm119.f2
  clear hm119
  have hm122 := hm121.f2
  clear hm121
  have hm123 := hm122.f2
  clear hm122
  have hm124 := hm123.f9
  clear hm123
  exact ⟨_, by omega, (h + 1), (D112 :: ds), rfl, (by omega), ⟨litSize, rfl, fo_⟩, (hm124.sub (.cons_cons _ (.cons_cons _ (.cons_cons _ (.cons_cons _ (.cons _ (.cons _ (.cons _ (.cons _ (.cons _ (.cons _ (List.Sublist.refl _))))))))))))⟩
 refine lv_ rfl _ (lsF_ h52) ?_
 refine pt_ hK51 ?_
 refine sk_ fun _ hK125 => ?_
 refine wp_cond_false (litEv kr_) ?_
 refine wp_exit ?_
 refine then_exit ?_
 refine then_exit ?_
 refine inBlock_exit ?_
 refine tn_ hK45 ?_
 refine sp_ fun _ hK126 => ?_
 refine lk (v := .slice (some ⟨g12, 0, none⟩) 6 6) rfl rfl rfl ?_
 refine plCall (i := 1) 66 [.slice (some ⟨g12, 0, none⟩) 6 6, .func (.func 67) #[] #[]] [] [] rfl kr_ (wn rfl) rfl (litEv kr_) (litArgs kr_) (contains_any (sizL 24) siz_4 (by decide) (by decide) _ _ _ (hm48.rdRow 3 rfl)) ?_
 rintro e w127 ⟨rfl, hbz⟩
 have hm128 := hm48.below hbz
 clear hbz hm48
 refine ⟨_, rfl, ?_⟩
 refine qP rfl ?_
 refine lk (v := .bool true) rfl rfl rfl ?_
 refine lk (v := .bool true) rfl rfl rfl ?_
 refine pt_ hK126 ?_
 refine wp_ret ?_
 refine bodyPostM_ret (leaveMarksT (M := [.rd (some ⟨bh_, oh_, none⟩) 6 24 hc (hfsC bH), .arr g2 41 ([.slice qA 6 qc, .slice (some ⟨bh_, oh_, none⟩) 24 hc]), .row (.slice (some ⟨g11, 0, none⟩) 24 24) 3 1 24 (ics (befL 24)), .row (.slice (some ⟨g12, 0, none⟩) 6 6) 3 1 6 (ics (sizL 24))]) (ds : List Nat) hm128 ?_)
 clear hm128
 intro w129 hm130
 refine ⟨.bool true, gRes1 rfl (gResTmp (t := 2) (v := .bool true) (litGet kr_)), ?_⟩
 exact ⟨by first | rfl | simp_all, hm130.bel⟩
end LD
theorem addr_add (b of_ k : Nat) : (⟨b, of_, none⟩ : Addr).add k = ⟨b, of_ + k, none⟩ := by
 by_cases h : k = 0
 ·subst h; simp [Addr.add]
 ·simp [Addr.add, h]
section
variable {P : Program} {ops : Array Oper} {Q : Exit → Act → World → Prop} {a : Act} {w w0 : World} {o : Oper} {L M : List Res} {i : Nat} {d s : Operand} {dT sT elem t : TypeId} {rest : List Oper} {g : Nat} {cur : List Value}
theorem cpArr {off dLen dCap sLen sCap : Nat} {ad : Addr} {cs : List Value} (j : Nat) (hm : Mem w0 w L) (hj : L[j]? = some (.arr g t cur)) (hgd : o.guard = none) (ho : o.op = .call { callee := .builtin .copy, args := #[d, s], argTypes := #[dT, sT] }) (hu : P.underlying dT = some (.slice elem)) (hsz : (P.info? elem).map (·.size) = some 1)
 (hd : a.eval d = .slice (some ⟨g, off, none⟩) dLen dCap) (hs : a.eval s = .slice (some ad) sLen sCap) (hn : cs.length = Nat.min sLen dLen) (hsrc : ∀ k v, cs[k]? = some v → w.cell? (ad.add k) = some v) (hfit : decide (off + cs.length ≤ cur.length) = true) (h1 : (cs.all fun u => u.oneCell') = true)
 (h : ∀ w', Mem w0 w' (L.set j (.arr g t (cur.take off ++ (cs ++ cur.drop (off + cs.length))))) → wpList P ops Q rest (a.put o.dst (.int .i64 (cs.length : Int))) w') : wpList P ops Q (o :: rest) a w := by
 have hA := hm.arr j hj
 refine wpList_copy_own hgd d s dT sT ho elem hu hsz g off dLen dCap ad sLen sCap hd hs cur.toArray t hA cs hn hsrc (by simpa using of_decide_eq_true hfit) (fun u hu => List.all_eq_true.1 h1 u hu) ?_
 refine h _ (hm.set j hj (hA.setRow _) ⟨rfl, rfl, rfl, by simp [World.setRow], fun k hk hne => ?_⟩)
 unfold World.setRow
 have : g ≠ k := fun e => hne (by rw [e])
 simp [Array.getElem?_modify, this]
theorem plCopyRd {off dLen dCap sLen sCap : Nat} {A : Option Addr} {cs : List Value} (j : Nat) (hm : Mem w0 w L) (hj : L[j]? = some (.arr g t cur)) (hr : Rd w w.heap.size 1 A sLen sCap cs) (hpos : 0 < sLen) (hle : sLen ≤ dLen) (hi : ops.toList[i]? = some o) (hgd : o.guard = none) (ho : o.op = .call { callee := .builtin .copy, args := #[d, s], argTypes := #[dT, sT] }) (hu : P.underlying dT = some (.slice elem)) (hsz : (P.info? elem).map (·.size) = some 1)
 (hd : a.eval d = .slice (some ⟨g, off, none⟩) dLen dCap) (hs : a.eval s = .slice A sLen sCap) (hfit : decide (off + cs.length ≤ cur.length) = true) (h1 : (cs.all fun u => u.oneCell') = true)
 (h : ∀ w', Mem w0 w' (L.set j (.arr g t (cur.take off ++ (cs ++ cur.drop (off + cs.length))))) → PL P ops Q (i + 1) (a.put o.dst (.int .i64 (cs.length : Int))) w') : PL P ops Q i a w := by
 obtain ⟨b, of_, rfl, _, hc⟩ := hr.cells (by omega)
 refine plOf hi (cpArr j hm hj hgd ho hu hsz hd hs (by rw [hr.len, Nat.mul_one]; exact (Nat.min_eq_left hle).symm) (fun k v hk => by rw [addr_add]; exact hc k v hk) hfit h1 fun w' hm' => (h w' hm').out)
theorem mgCopySelf {off m dLen dCap sCap fuel : Nat} {listed : Array Bool} (j : Nat) (hm : Mem w0 w L) (hj : L[j]? = some (.arr g t cur)) (hle : m ≤ cur.length) (k : Nat) (hk : k = Nat.min m dLen) (hr : Region.ready .any ops listed = [i]) (hi : ops.toList[i]? = some o) (hgd : o.guard = none) (ho : o.op = .call { callee := .builtin .copy, args := #[d, s], argTypes := #[dT, sT] }) (hu : P.underlying dT = some (.slice elem)) (hsz : (P.info? elem).map (·.size) = some 1)
 (hd : a.eval d = .slice (some ⟨g, off, none⟩) dLen dCap) (hs : a.eval s = .slice (some ⟨g, 0, none⟩) m sCap) (hfit : decide (off + k ≤ cur.length) = true) (h1 : (cur.all fun u => u.oneCell') = true)
 (hS : ∀ w', Mem w0 w' (L.set j (.arr g t (cur.take off ++ (cur.take k ++ cur.drop (off + k))))) → Mem w0 w' M) (h : ∀ w', Mem w0 w' (L.set j (.arr g t (cur.take off ++ (cur.take k ++ cur.drop (off + k))))) → MG P ops Q w0 M fuel (listed.setIfInBounds i true) (a.put o.dst (.int .i64 (k : Int))) w') : MG P ops Q w0 M (fuel + 1) listed a w := by
 have hkm : k ≤ m := by rw [hk]; exact Nat.min_le_left _ _
 have hl : (cur.take k).length = k := by rw [List.length_take]; exact Nat.min_eq_left (by omega)
 refine ⟨rgNext hr hi (cpArr (cs := cur.take k) j hm hj hgd ho hu hsz hd hs (by rw [hl]; exact hk) (fun q v hq => ?_) (by rw [hl]; exact hfit) (List.all_eq_true.2 fun u hu => List.all_eq_true.1 h1 u (List.mem_of_mem_take hu)) fun w' hm' => ?_)⟩
 ·have h2 : cur[q]? = some v := by
   rw [List.getElem?_take] at hq
   split at hq
   ·exact hq
   ·cases hq
  have h3 := (hm.arr j hj).cell h2
  rw [addr_add, Nat.zero_add]; exact h3
 ·rw [hl] at hm' ⊢
  exact ⟨hS w' hm', (h w' hm').out⟩
end
end Go.Proofs.YtbpihalphhoiaaaGreatDoor
